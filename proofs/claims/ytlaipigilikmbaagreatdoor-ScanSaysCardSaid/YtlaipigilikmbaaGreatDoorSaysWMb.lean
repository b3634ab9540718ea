/- The pieces of the law ScanSays, each alone. -/
import Derived.Test.YtlaipigilikmbaaGreatDoorNewXMb
import Derived.Test.YtlaipigilikmbaaGreatDoorLwFnd2Mb
import Derived.Test.YtlaipigilikmbaaGreatDoorMb7
set_option linter.unusedVariables false
set_option linter.unusedSimpArgs false
namespace Go.Proofs.YtlaipigilikmbaaGreatDoor.SayW
open Go Go.RowKit Go.Proofs Go.Proofs.YtlaipigilikmbaaGreatDoor Go.Proofs.YtlaipigilikmbaaGreatDoor.Cl Go.Proofs.YtlaipigilikmbaaGreatDoor.Ph Go.Proofs.YtlaipigilikmbaaGreatDoor.LwW Go.Proofs.YtlaipigilikmbaaGreatDoor.RefS PackW
noncomputable def kE:Nat→Code
  | 0=>(Tryz.f4.body).getD .skip
  | i + 1=>Co.sR (kE i)
noncomputable def kC (i:Nat):Code:=Co.sL (kE i)
theorem kE0:kE 0 = .seq (kC 0) (kE 1):=by kernel_rfl
theorem kE1:kE 1 = .seq (kC 1) (kE 2):=by kernel_rfl
theorem kE2:kE 2 = .seq (kC 2) (kE 3):=by kernel_rfl
theorem kE3:kE 3 = .seq (kC 3) (kE 4):=by kernel_rfl
theorem kE4:kE 4 = .seq (kC 4) (kE 5):=by kernel_rfl
theorem kE5:kE 5 = .seq (kC 5) (kE 6):=by kernel_rfl
theorem litu (t:Array Value) (h:t.size = 88):∃ u:Nat→Value,(fun i=>t.getD i undef) = u∧t = #[u 0,u 1,u 2,u 3,u 4,u 5,u 6,u 7,u 8,u 9,u 10,u 11,u 12,u 13,u 14,u 15,u 16,u 17,u 18,u 19,u 20,u 21,u 22,u 23,u 24,u 25,u 26,u 27,u 28,u 29,u 30,u 31,u 32,u 33,u 34,u 35,u 36,u 37,u 38,u 39,u 40,u 41,u 42,u 43,u 44,u 45,u 46,u 47,u 48,u 49,u 50,u 51,u 52,u 53,u 54,u 55,u 56,u 57,u 58,u 59,u 60,u 61,u 62,u 63,u 64,u 65,u 66,u 67,u 68,u 69,u 70,u 71,u 72,u 73,u 74,u 75,u 76,u 77,u 78,u 79,u 80,u 81,u 82,u 83,u 84,u 85,u 86,u 87]:=⟨_,rfl,(slots_of 88 t h).trans (by kernel_rfl)⟩
theorem uat {t:Array Value} {u:Nat→Value} (hu:(fun i=>t.getD i undef) = u) {i:Nat} {v:Value} (h:t[i]? = some v):u i = v:=by rw [← hu]; exact getD_of h
def faultE (L:Nat) (z:Int):Int:=if z < 1 ∨ 8 < z then 1 else if 4096 < L then 3 else 0
theorem fault_any (A:Option Addr) (L cp:Nat) (z fe:Int) (w:World) (hf:fe = faultE L z):Calls Tryz.prog 16 #[.slice A L cp,.int .i64 z] w fun e w'=>e = .returned (.int .i64 fe)∧w' = w:=by
  unfold faultE at hf
  by_cases h1:z < 1
  · have e1:decide (z < 1) = true:=decide_eq_true h1
    rw [if_pos (.inl h1)] at hf
    subst hf
    clear h1
    go_enter Tryz.func16,Tryz.ntmps16
    go_wp2_with fail
    go_ret
    exact ⟨rfl,rfl⟩
  · have e1:decide (z < 1) = false:=decide_eq_false h1
    by_cases h2:8 < z
    · have e2:decide (8 < z) = true:=decide_eq_true h2
      rw [if_pos (.inr h2)] at hf
      subst hf
      clear h1 h2
      go_enter Tryz.func16,Tryz.ntmps16
      go_wp2_with fail
      go_ret
      exact ⟨rfl,rfl⟩
    · have e2:decide (8 < z) = false:=decide_eq_false h2
      rw [if_neg (fun h=>h.elim h1 h2)] at hf
      by_cases h4:4096 < L
      · have e4:decide ((4096:Int) < (L:Int)) = true:=decide_eq_true (by omega)
        have h4':(4096:Int) < (L:Int):=by omega
        rw [if_pos h4] at hf
        subst hf
        clear h1 h2
        go_enter Tryz.func16,Tryz.ntmps16
        go_wp2_with fail
        go_ret
        exact ⟨rfl,rfl⟩
      · have e4:decide ((4096:Int) < (L:Int)) = false:=decide_eq_false (by omega)
        have h4':¬ (4096:Int) < (L:Int):=by omega
        rw [if_neg h4] at hf
        subst hf
        clear h1 h2
        go_enter Tryz.func16,Tryz.ntmps16
        go_wp2_with fail
        go_ret
        exact ⟨rfl,rfl⟩
def R3 (A:Option Addr) (L cp:Nat) (z:Int) (w:World) (u:Nat→Value) (t:Array Value) (h:Array Obj):Prop:=Kp 88 [5,6,7,8] u t∧h = w.heap∧t[9]? = some (.int .i64 (faultE L z))∧t[0]? = some (.slice A L cp)
set_option maxRecDepth 20000 in
set_option maxHeartbeats 4000000 in
theorem p3 (w:World) (A:Option Addr) (L cp:Nat) (z:Int) (t:Array Value) (ht:t.size = 88) (q0:t[0]? = some (.slice A L cp)) (q1:t[1]? = some (.int .i64 z)):(kC 3).wp Tryz.prog (fun e a w'=>e = .normal∧R3 A L cp z w (fun i=>t.getD i undef) a.tmps w'.heap) ⟨t,[]⟩ w:=by
  obtain ⟨u,hu,e⟩:=litu t ht
  rw [hu]
  rw [uat hu q0,uat hu q1] at e
  clear hu ht q0 q1
  subst e
  rw [show kC 3 = Co.sL (Co.sR (Co.sR (Co.sR ((Tryz.f4.body).getD .skip)))) by kernel_rfl]
  simp only [Tryz.f4,Co.sL,Co.sR,Option.getD]
  go_wp2_with fail
  refine (fault_any A L cp z _ w rfl).mono ?_
  rintro e w2 ⟨rfl,rfl⟩
  obtain ⟨fe,hfe⟩:∃ fe,fe = faultE L z:=⟨_,rfl⟩
  rw [← hfe]
  have HF:=hide hfe
  clear hfe
  go_wp2_with fail
  refine ⟨⟨rfl, ?_⟩,rfl,by rw [← HF.out]; rfl,rfl⟩
  intro s hs
  simp only [List.mem_cons,List.not_mem_nil,or_false] at hs
  rcases hs with rfl | rfl | rfl | rfl <;> rfl
set_option maxRecDepth 20000 in
set_option maxHeartbeats 4000000 in
theorem pF (w:World) (e9:Int) (he:(e9 == 0) = false) (t:Array Value) (ht:t.size = 88) (q5:t[5]? = some (.slice none 0 0)) (q7:t[7]? = some (.slice none 0 0)) (q9:t[9]? = some (.int .i64 e9)) (q10:t[10]? = some (.bool true)) (q11:t[11]? = some (.bool true)):(kE 6).wp Tryz.prog (fun e a w'=>e = .ret∧RX 88 4 (.bool true) a.tmps w'.heap) ⟨t,[]⟩ w:=by
  obtain ⟨u,hu,e⟩:=litu t ht
  rw [uat hu q5,uat hu q7,uat hu q9,uat hu q10,uat hu q11] at e
  clear hu ht q5 q7 q9 q10 q11
  subst e
  rw [show kE 6 = (Co.sR (Co.sR (Co.sR (Co.sR (Co.sR (Co.sR ((Tryz.f4.body).getD .skip))))))) by kernel_rfl]
  simp only [Tryz.f4,Co.sL,Co.sR,Option.getD]
  go_wp2_with fail
  exact ⟨rfl,rfl⟩
attribute [local irreducible] opn refN
set_option maxRecDepth 20000 in
set_option maxHeartbeats 4000000 in
theorem pN (w:World) (A D:Option Addr) (L cp n c:Nat) (S:Option Addr) (pg:Nat→List UInt8) (hL:L ≤ 4096) (hA:LArgs w A L pg) (hn:n = (refN pg L).length) (hD:RdF w D n (fun i=>((refN pg L).getD i zFnd).lba) (fun i=>((refN pg L).getD i zFnd).page) (fun i=>((refN pg L).getD i zFnd).seq) (fun i=>((refN pg L).getD i zFnd).kind)) (hS:Rd w S ((List.range L).map fun k=>.int .i64 (opn (pg k)).2.2.2)) (t:Array Value) (ht:t.size = 88) (q0:t[0]? = some (.slice A L cp)) (q5:t[5]? = some (.slice D n c)) (q7:t[7]? = some (.slice S L L)) (q9:t[9]? = some (.int .i64 0)) (q10:t[10]? = some (.bool true)) (q11:t[11]? = some (.bool true)):(kE 6).wp Tryz.prog (fun e a w'=>e = .ret∧RX 88 4 (.bool true) a.tmps w'.heap) ⟨t,[]⟩ w:=by
  obtain ⟨u,hu,e⟩:=litu t ht
  rw [uat hu q0,uat hu q5,uat hu q7,uat hu q9,uat hu q10,uat hu q11] at e
  clear hu ht q0 q5 q7 q9 q10 q11
  subst e
  rw [show kE 6 = (Co.sR (Co.sR (Co.sR (Co.sR (Co.sR (Co.sR ((Tryz.f4.body).getD .skip))))))) by kernel_rfl]
  simp only [Tryz.f4,Co.sL,Co.sR,Option.getD]
  have HA:=hide hA
  have HN:=hide hn
  have HD:=hide hD
  have HS:=hide hS
  have hnl:n ≤ 4096:=by have:=refN_len pg L; omega
  clear hA hn hD hS
  go_wp2_with fail
  refine (newestOf_any A L cp pg w hL HA.out).mono ?_
  rintro e w2 ⟨D2,c2,rfl,hb2,ho2⟩
  rw [← HN.out] at ho2 ⊢
  rw [← flatF_list,← HN.out] at ho2
  have HD2:Hid (RdF w2 D n (fun i=>((refN pg L).getD i zFnd).lba) (fun i=>((refN pg L).getD i zFnd).page) (fun i=>((refN pg L).getD i zFnd).seq) (fun i=>((refN pg L).getD i zFnd).kind)):=hide (fun i hi=>by
    obtain ⟨b,off,e1,a0,a1,a2,a3⟩:=HD.out i hi
    have hl:b < w.heap.size:=World.block_lt_of_cell? w _ a0
    exact ⟨b,off,e1,(hb2.cell (p:=⟨b,_,none⟩) hl).trans a0,(hb2.cell (p:=⟨b,_,none⟩) hl).trans a1,(hb2.cell (p:=⟨b,_,none⟩) hl).trans a2,(hb2.cell (p:=⟨b,_,none⟩) hl).trans a3⟩)
  have HE2:=hide (rdF_own ho2)
  have HB2:=hide hb2
  clear ho2 hb2
  go_wp2_with fail
  refine (founds_same D D2 _ _ _ _ n c c2 w2 HD2.out HE2.out (by omega)).mono ?_
  rintro e w3 ⟨rfl,d3,rfl⟩
  have HB3:=hide (below_drewN HB2.out d3)
  obtain ⟨w4,hw4⟩:∃ w4,w4 = w2.drewN d3:=⟨_,rfl⟩
  rw [← hw4] at HB3 ⊢
  clear hw4 HB2 HD2 HE2
  go_wp2_with fail
  go_loopw [14] (fun iv wr=>∃ i:Nat,iv = .int .i64 i∧i ≤ L∧Hid (Below w.heap.size w wr)) (fun iv _=>L - (intOf iv).toNat)
  case atStart=>exact ⟨0,rfl,by omega,HB3⟩
  case round =>
    obtain ⟨i,rfl,hi,HB⟩:=hrel
    by_cases hlt:i < L
    · have e1:decide (i < L) = true:=by simpa using hlt
      have e1':decide ((i:Int) < (L:Int)) = true:=by simp; omega
      have hiL:(i:Int) < (L:Int):=by omega
      have q0:(0:Int) ≤ (i:Int):=by omega
      obtain ⟨b,off,pv,rfl,hc,hp⟩:=HA.out i hlt
      have hbb:b < w.heap.size:=World.block_lt_of_cell? w _ hc
      have hc1:wr.cell? ⟨b,off + i,none⟩ = some pv:=by rw [HB.out.cell (p:=⟨b,_,none⟩) hbb,hc]
      obtain ⟨A1,n1,c1,rfl,hn1,hnc1,hcm1,hr0⟩:=pg_rd hp
      have hr1:=hr0.below HB.out
      have HN1:=hide hn1
      clear hn1 hc hp hr0
      go_wp2_with fail
      refine (openOf_opn A1 (pg i) n1 c1 wr HN1.out hnc1 hcm1 hr1).mono ?_
      rintro e w5 ⟨hb5,B5,m5,c5,rfl⟩
      have HB5:=hide (HB.out.trans (hb5.mono HB.out.size))
      clear hb5 hr1 hc1
      obtain ⟨st,hst⟩:∃ st,st = (opn (pg i)).2.2.2:=⟨_,rfl⟩
      obtain ⟨b6,off6,rfl,hs6⟩:∃ b6 off6,S = some ⟨b6,off6,none⟩∧w.cell? ⟨b6,off6 + i,none⟩ = some (.int .i64 st):=by
        obtain ⟨b6,off6,e6,h6⟩:=HS.out.at_ (i:=i) (by simpa using hlt)
        refine ⟨b6,off6,e6, ?_⟩
        rw [h6,hst]
        simp
      rw [← hst]
      clear hst
      unfold frV
      generalize (opn (pg i)).1 = kd
      generalize (opn (pg i)).2.1 = lb
      generalize (opn (pg i)).2.2.1 = sq
      have HB6:=hide (HB5.out.alloc HB5.out.size (.cells #[.int .i64 kd,.int .i64 lb,.int .i64 sq,.slice B5 m5 c5] 53))
      have hs7:(w5.alloc (.cells #[.int .i64 kd,.int .i64 lb,.int .i64 sq,.slice B5 m5 c5] 53)).cell? ⟨b6,off6 + i,none⟩ = some (.int .i64 st):=by
        rw [HB6.out.cell (p:=⟨b6,_,none⟩) (World.block_lt_of_cell? w _ hs6)]
        exact hs6
      have hs5:w5.cell? ⟨b6,off6 + i,none⟩ = some (.int .i64 st):=by
        rw [HB5.out.cell (p:=⟨b6,_,none⟩) (World.block_lt_of_cell? w _ hs6)]
        exact hs6
      have e5:(st == st) = true:=by simp
      clear hs6
      go_wp2_with fail
      go_roundw
      case rel=>exact ⟨i + 1,by go_num,by omega,HB6⟩
      case measure=>simp [intOf]; omega
    · obtain rfl:i = L:=by omega
      have e1:decide (i < i) = false:=by simp
      have e1':decide ((i:Int) < (i:Int)) = false:=by simp
      go_wp2_with fail
      exact ⟨rfl,rfl⟩
end Go.Proofs.YtlaipigilikmbaaGreatDoor.SayW
