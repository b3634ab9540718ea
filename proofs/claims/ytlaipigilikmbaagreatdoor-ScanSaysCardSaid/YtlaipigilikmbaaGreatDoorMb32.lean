/- Texts of this seat,put together: RefFrame. -/
import Derived.Test.YtlaipigilikmbaaGreatDoorMb31
import Derived.Test.YtlaipigilikmbaaGreatDoorMb13
set_option linter.unusedVariables false
set_option linter.unusedSimpArgs false
namespace Go.Proofs.YtlaipigilikmbaaGreatDoor.RefW
open Go.RowKit Fram Crc CrcW PackW

set_option maxRecDepth 100000 in
set_option maxHeartbeats 2000000 in
theorem packFault_ok (n k lba seq:Int) (A:Option Addr) (m c:Nat) (w:World) (h:Fits n m k lba seq) (hf:(m:Int) ≤ n - 21) :
    Calls Tryz.prog 34 #[.int .i64 n,frV k lba seq A m c] w fun e w'=>e = .returned (.int .i64 0)∧Below w.heap.size w w':=by
  have hb0:Below w.heap.size w (w.alloc (.cells #[.int .i64 k,.int .i64 lba,.int .i64 seq,.slice A m c] 53)):=(Below.refl _ _).alloc (Nat.le_refl _) _
  unfold frV
  obtain ⟨o1,o2,o3,o4,o5,o6,o7,o8⟩:=h
  go_enter Tryz.func34,Tryz.ntmps34
  go_wp2_with fail
  go_ret
  exact ⟨rfl,hb0⟩

set_option maxRecDepth 100000 in
set_option maxHeartbeats 2000000 in
theorem packFault_range (n k lba seq:Int) (A:Option Addr) (m c:Nat) (w:World) (h:¬ Fits n m k lba seq) :
    Calls Tryz.prog 34 #[.int .i64 n,frV k lba seq A m c] w fun e w'=>e = .returned (.int .i64 1)∧Below w.heap.size w w':=by
  have hb0:Below w.heap.size w (w.alloc (.cells #[.int .i64 k,.int .i64 lba,.int .i64 seq,.slice A m c] 53)):=(Below.refl _ _).alloc (Nat.le_refl _) _
  unfold frV
  have ho:n < 24 ∨ (24 ≤ n∧4096 < n) ∨ (24 ≤ n∧n ≤ 4096∧k < 1) ∨ (24 ≤ n∧n ≤ 4096∧1 ≤ k∧3 < k) ∨ (24 ≤ n∧n ≤ 4096∧1 ≤ k∧k ≤ 3∧lba < 0) ∨ (24 ≤ n∧n ≤ 4096∧1 ≤ k∧k ≤ 3∧0 ≤ lba∧4294967295 < lba) ∨
      (24 ≤ n∧n ≤ 4096∧1 ≤ k∧k ≤ 3∧0 ≤ lba∧lba ≤ 4294967295∧seq < 0) ∨ (24 ≤ n∧n ≤ 4096∧1 ≤ k∧k ≤ 3∧0 ≤ lba∧lba ≤ 4294967295∧0 ≤ seq∧4611686018427387904 < seq):=by
    unfold Fits at h
    omega
  clear h
  rcases ho with o | ⟨o1,o⟩ | ⟨o1,o2,o⟩ | ⟨o1,o2,o3,o⟩ | ⟨o1,o2,o3,o4,o⟩ | ⟨o1,o2,o3,o4,o5,o⟩ | ⟨o1,o2,o3,o4,o5,o6,o⟩ | ⟨o1,o2,o3,o4,o5,o6,o7,o⟩
  all_goals
    go_enter Tryz.func34,Tryz.ntmps34
    go_wp2_with fail
    go_ret
    exact ⟨rfl,hb0⟩

def headP (k lba seq len:Nat):List UInt8:=(([165,UInt8.ofNat k] ++ lowB lba 4) ++ lowB seq 8) ++ lowB len 2
def restP (d:List UInt8) (j:Nat):List UInt8:=d ++ List.replicate (j - d.length) 0
theorem headP_length (k lba seq len:Nat):(headP k lba seq len).length = 16:=by simp [headP,lowB_length]
theorem restP_succ {d:List UInt8} {j:Nat} (h:d.length ≤ j):restP d (j + 1) = restP d j ++ [0]:=by
  unfold restP
  rw [show j + 1 - d.length = (j - d.length) + 1 by omega,List.replicate_succ',List.append_assoc]
theorem restP_length {d:List UInt8} {j:Nat} (h:d.length ≤ j):(restP d j).length = j:=by simp [restP]; omega
theorem page_halves (k lba seq:Nat) (sum d:List UInt8) (n:Nat):page k lba seq sum d n = (headP k lba seq d.length ++ sum) ++ (restP d (n - 21) ++ [90]):=by
  unfold page headP restP
  simp only [List.append_assoc]
theorem pack_halves (n k lba seq:Nat) (d:List UInt8):pack n k lba seq d = (headP k lba seq d.length ++ lowB (crc ((headP k lba seq d.length ++ [0,0,0,0]) ++ (restP d (n - 21) ++ [90]))).toNat 4) ++ (restP d (n - 21) ++ [90]):=by
  unfold pack
  rw [page_halves,page_halves]

theorem two_bytes (kd:Int) (h0:0 ≤ kd) (h3:kd ≤ 255):[Value.int .u8 165,.int .u8 kd] = u8v [165,UInt8.ofNat kd.toNat]:=by
  have e3:(Value.int .u8 kd) = .int .u8 ((UInt8.ofNat kd.toNat).toNat:Int):=by
    congr 1
    rw [UInt8.toNat_ofNat']
    omega
  rw [e3]
  rfl

end Go.Proofs.YtlaipigilikmbaaGreatDoor.RefW
