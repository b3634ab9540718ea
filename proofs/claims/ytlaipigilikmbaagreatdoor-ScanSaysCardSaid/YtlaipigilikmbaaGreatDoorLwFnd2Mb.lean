/- Two answers compared. -/
import Derived.Test.YtlaipigilikmbaaGreatDoorMb30
set_option linter.unusedVariables false
namespace Go.Proofs.YtlaipigilikmbaaGreatDoor.LwW
open Go.RowKit
set_option maxRecDepth 20000 in
set_option maxHeartbeats 2000000 in
theorem founds_same (A B:Option Addr) (a p s q:Nat→Int) (n c c':Nat) (w:World) (hA:RdF w A n a p s q) (hB:RdF w B n a p s q) (hn:n ≤ 9223372036854775807) :
    Calls Tryz.prog 18 #[.slice A n c,.slice B n c'] w fun e w'=>e = .returned (.bool true)∧∃ d,w' = w.drewN d:=by
  have HA:=hide hA
  have HB:=hide hB
  clear hA hB
  go_enter Tryz.func18,Tryz.ntmps18
  go_wp2_with fail
  go_loopw [5] (fun i wr=>∃ k d:Nat,i = .int .i64 k∧k ≤ n∧wr = w.drewN d) (fun i _=>n - (intOf i).toNat)
  case atStart=>exact ⟨0,0,rfl,by omega,rfl⟩
  case round =>
    obtain ⟨k,d,rfl,hk,rfl⟩:=hrel
    by_cases hlt:k < n
    · have e1:decide (k < n) = true:=by simpa using hlt
      have e1':decide ((k:Int) < (n:Int)) = true:=by simp; omega
      have hki:(k:Int) < (n:Int):=by omega
      have hk0:(0:Int) ≤ (k:Int):=by omega
      obtain ⟨ba,oa,rfl,a0,a1,a2,a3⟩:=HA.out k hlt
      obtain ⟨bb,ob,rfl,b0,b1,b2,b3⟩:=HB.out k hlt
      generalize a k = x0 at a0 b0
      generalize p k = x1 at a1 b1
      generalize s k = x2 at a2 b2
      generalize q k = x3 at a3 b3
      go_wp2_with fail
      go_quiet (fail)
      go_wp2_with fail
      go_roundw
      case rel=>exact ⟨k + 1,_,by go_num,by omega,rfl⟩
      case measure=>simp [intOf]; omega
    · obtain rfl:k = n:=by omega
      have e1:decide (k < k) = false:=by simp
      have e1':decide ((k:Int) < (k:Int)) = false:=by simp
      go_wp2_with fail
      go_ret
      exact ⟨rfl,d,rfl⟩
end Go.Proofs.YtlaipigilikmbaaGreatDoor.LwW
