/- The law ScanSays in company: true, and the old memory stands. -/
import Derived.Test.YtlaipigilikmbaaGreatDoorErLMb
import Derived.Test.YtlaipigilikmbaaGreatDoorSaysWMb
import Derived.Test.YtlaipigilikmbaaGreatDoorLwCallSMb
set_option linter.unusedVariables false
namespace Go.Proofs.YtlaipigilikmbaaGreatDoor.SayW
open Go Go.Conc Go.RowKit Go.Proofs Go.Proofs.YtlaipigilikmbaaGreatDoor Go.Proofs.YtlaipigilikmbaaGreatDoor.Co Go.Proofs.YtlaipigilikmbaaGreatDoor.Cl Go.Proofs.YtlaipigilikmbaaGreatDoor.Ph Go.Proofs.YtlaipigilikmbaaGreatDoor.LwW Go.Proofs.YtlaipigilikmbaaGreatDoor.RefS
attribute [local irreducible] kC kE
noncomputable def oo (i j:Nat):Oper:=((opsOf (kC i))[j]?).getD ⟨none,.move (.tmp 0),0, "",#[],none⟩
theorem sayF:Tryz.prog.funcs[4]? = some Tryz.f4:=Tryz.func4
theorem ok3 (ro:Nat→Prop):Co.OkCode Tryz.prog (EN ro) (kC 3):=en_code ro _ (by decide +kernel)
theorem ok6 (ro:Nat→Prop):Co.OkCode Tryz.prog (EN ro) (kE 6):=en_code ro _ (by decide +kernel)
theorem kr0:kC 0 = .region 0 (opsOf (kC 0)) false:=by kernel_rfl
theorem ks0:(opsOf (kC 0)).size = 1:=by kernel_rfl
theorem ko0_0:(opsOf (kC 0))[0]? = some (oo 0 0):=by kernel_rfl
theorem h0_0:Hands (oo 0 0) 4 (.const (.bool false)):=⟨by kernel_rfl,.inr (by kernel_rfl),by kernel_rfl⟩
theorem kr1:kC 1 = .region 1 (opsOf (kC 1)) false:=by kernel_rfl
theorem ks1:(opsOf (kC 1)).size = 8:=by kernel_rfl
theorem ko1_0:(opsOf (kC 1))[0]? = some (oo 1 0):=by kernel_rfl
theorem ko1_1:(opsOf (kC 1))[1]? = some (oo 1 1):=by kernel_rfl
theorem ko1_2:(opsOf (kC 1))[2]? = some (oo 1 2):=by kernel_rfl
theorem ko1_3:(opsOf (kC 1))[3]? = some (oo 1 3):=by kernel_rfl
theorem ko1_4:(opsOf (kC 1))[4]? = some (oo 1 4):=by kernel_rfl
theorem ko1_5:(opsOf (kC 1))[5]? = some (oo 1 5):=by kernel_rfl
theorem ko1_6:(opsOf (kC 1))[6]? = some (oo 1 6):=by kernel_rfl
theorem ko1_7:(opsOf (kC 1))[7]? = some (oo 1 7):=by kernel_rfl
theorem h1_0:Hands (oo 1 0) 18 (.tmp 0):=⟨by kernel_rfl,.inl (by kernel_rfl),by kernel_rfl⟩
theorem h1_1:Hands (oo 1 1) 19 (.tmp 1):=⟨by kernel_rfl,.inl (by kernel_rfl),by kernel_rfl⟩
theorem h1_2:CallsOf (oo 1 2) 14 20 (.tmp 18) (.tmp 19):=⟨by kernel_rfl,by kernel_rfl,fun t' w=>by kernel_rfl,fun t' w=>by kernel_rfl⟩
theorem h1_3:Hands (oo 1 3) 17 (.tmp 20):=⟨by kernel_rfl,.inl (by kernel_rfl),by kernel_rfl⟩
theorem h1_4:Parts (oo 1 4) 21 17 0:=⟨by kernel_rfl,by kernel_rfl,by kernel_rfl⟩
theorem h1_5:Parts (oo 1 5) 22 17 1:=⟨by kernel_rfl,by kernel_rfl,by kernel_rfl⟩
theorem h1_6:Hands (oo 1 6) 5 (.tmp 21):=⟨by kernel_rfl,.inr (by kernel_rfl),by kernel_rfl⟩
theorem h1_7:Hands (oo 1 7) 6 (.tmp 22):=⟨by kernel_rfl,.inr (by kernel_rfl),by kernel_rfl⟩
theorem kr2:kC 2 = .region 2 (opsOf (kC 2)) false:=by kernel_rfl
theorem ks2:(opsOf (kC 2)).size = 8:=by kernel_rfl
theorem ko2_0:(opsOf (kC 2))[0]? = some (oo 2 0):=by kernel_rfl
theorem ko2_1:(opsOf (kC 2))[1]? = some (oo 2 1):=by kernel_rfl
theorem ko2_2:(opsOf (kC 2))[2]? = some (oo 2 2):=by kernel_rfl
theorem ko2_3:(opsOf (kC 2))[3]? = some (oo 2 3):=by kernel_rfl
theorem ko2_4:(opsOf (kC 2))[4]? = some (oo 2 4):=by kernel_rfl
theorem ko2_5:(opsOf (kC 2))[5]? = some (oo 2 5):=by kernel_rfl
theorem ko2_6:(opsOf (kC 2))[6]? = some (oo 2 6):=by kernel_rfl
theorem ko2_7:(opsOf (kC 2))[7]? = some (oo 2 7):=by kernel_rfl
theorem h2_0:Hands (oo 2 0) 24 (.tmp 0):=⟨by kernel_rfl,.inl (by kernel_rfl),by kernel_rfl⟩
theorem h2_1:Hands (oo 2 1) 25 (.tmp 1):=⟨by kernel_rfl,.inl (by kernel_rfl),by kernel_rfl⟩
theorem h2_2:CallsOf (oo 2 2) 15 26 (.tmp 24) (.tmp 25):=⟨by kernel_rfl,by kernel_rfl,fun t' w=>by kernel_rfl,fun t' w=>by kernel_rfl⟩
theorem h2_3:Hands (oo 2 3) 23 (.tmp 26):=⟨by kernel_rfl,.inl (by kernel_rfl),by kernel_rfl⟩
theorem h2_4:Parts (oo 2 4) 27 23 0:=⟨by kernel_rfl,by kernel_rfl,by kernel_rfl⟩
theorem h2_5:Parts (oo 2 5) 28 23 1:=⟨by kernel_rfl,by kernel_rfl,by kernel_rfl⟩
theorem h2_6:Hands (oo 2 6) 7 (.tmp 27):=⟨by kernel_rfl,.inr (by kernel_rfl),by kernel_rfl⟩
theorem h2_7:Hands (oo 2 7) 8 (.tmp 28):=⟨by kernel_rfl,.inr (by kernel_rfl),by kernel_rfl⟩
theorem kr4:kC 4 = .region 4 (opsOf (kC 4)) false:=by kernel_rfl
theorem ks4:(opsOf (kC 4)).size = 4:=by kernel_rfl
theorem ko4_0:(opsOf (kC 4))[0]? = some (oo 4 0):=by kernel_rfl
theorem ko4_1:(opsOf (kC 4))[1]? = some (oo 4 1):=by kernel_rfl
theorem ko4_2:(opsOf (kC 4))[2]? = some (oo 4 2):=by kernel_rfl
theorem ko4_3:(opsOf (kC 4))[3]? = some (oo 4 3):=by kernel_rfl
theorem h4_0:Hands (oo 4 0) 32 (.tmp 6):=⟨by kernel_rfl,.inl (by kernel_rfl),by kernel_rfl⟩
theorem h4_1:Hands (oo 4 1) 33 (.tmp 9):=⟨by kernel_rfl,.inl (by kernel_rfl),by kernel_rfl⟩
theorem h4_2:CallsOf (oo 4 2) 11 34 (.tmp 32) (.tmp 33):=⟨by kernel_rfl,by kernel_rfl,fun t' w=>by kernel_rfl,fun t' w=>by kernel_rfl⟩
theorem h4_3:Hands (oo 4 3) 10 (.tmp 34):=⟨by kernel_rfl,.inr (by kernel_rfl),by kernel_rfl⟩
theorem kr5:kC 5 = .region 5 (opsOf (kC 5)) false:=by kernel_rfl
theorem ks5:(opsOf (kC 5)).size = 4:=by kernel_rfl
theorem ko5_0:(opsOf (kC 5))[0]? = some (oo 5 0):=by kernel_rfl
theorem ko5_1:(opsOf (kC 5))[1]? = some (oo 5 1):=by kernel_rfl
theorem ko5_2:(opsOf (kC 5))[2]? = some (oo 5 2):=by kernel_rfl
theorem ko5_3:(opsOf (kC 5))[3]? = some (oo 5 3):=by kernel_rfl
theorem h5_0:Hands (oo 5 0) 35 (.tmp 8):=⟨by kernel_rfl,.inl (by kernel_rfl),by kernel_rfl⟩
theorem h5_1:Hands (oo 5 1) 36 (.tmp 9):=⟨by kernel_rfl,.inl (by kernel_rfl),by kernel_rfl⟩
theorem h5_2:CallsOf (oo 5 2) 11 37 (.tmp 35) (.tmp 36):=⟨by kernel_rfl,by kernel_rfl,fun t' w=>by kernel_rfl,fun t' w=>by kernel_rfl⟩
theorem h5_3:Hands (oo 5 3) 11 (.tmp 37):=⟨by kernel_rfl,.inr (by kernel_rfl),by kernel_rfl⟩
theorem lat {t t':Array Value} {S:List Nat} {d1 d2:Nat} {a b v:Value} (h:Cl.Left t t' S d1 d2 a b) {s:Nat} (hs:s ∉ S) (hv:t[s]? = some v):t'[s]? = some v:=by rw [h.keep s hs]; exact hv
theorem kat {N:Nat} {S:List Nat} {t t':Array Value} (h:Kp N S (fun i=>t.getD i undef) t') {s:Nat} {v:Value} (hs:s ∈ S) (hv:t[s]? = some v):t'[s]? = some v:=by rw [h.2 s hs]; exact congrArg some (getD_of hv)
noncomputable abbrev EE (W:World):Env:=⟨fun i=>okL.contains i,told W,Tryz.prog.globals.size⟩
abbrev K0 (W:World):Nat→Prop:=fun x=>x < W.heap.size
section
variable {Q:Value→World→Prop} {W:World} {Z:Nat→Prop} {t:Array Value} {w:World} {A:Option Addr} {L cp:Nat} {z:Int} {pg:Nat→List UInt8}
theorem say3 (hl:LawOk (EE W) (K0 W) W) (HKZ:∀ x,x < W.heap.size→¬ Z x) (hg:ToldW.ErrT W) (hq:∀ w,(∀ x,x < W.heap.size→w.heap[x]? = W.heap[x]?)→(∀ x,x < W.heap.size→x < w.heap.size)→w.os = W.os∧w.output = W.output→Q (.bool true) w)
    {v5 v7 ev:Value} (he:IsErr ev (faultE L z) true) (HT:t.size = 88) (b0:t[0]? = some (.slice A L cp)) (b1:t[1]? = some (.int .i64 z)) (b5:t[5]? = some v5) (b6:t[6]? = some ev) (b7:t[7]? = some v7) (b8:t[8]? = some ev)
    (hfin:∀ (t':Array Value) (u:World),u.heap = w.heap→t'.size = 88→t'[0]? = some (.slice A L cp)→t'[5]? = some v5→t'[7]? = some v7→t'[9]? = some (.int .i64 (faultE L z))→t'[10]? = some (.bool true)→t'[11]? = some (.bool true) →
      (kE 6).wp Tryz.prog (fun e a w'=>e = .ret∧RX 88 4 (.bool true) a.tmps w'.heap) ⟨t',[]⟩ u):WinsR Tryz.prog Q (EE W) (K0 W) W Z [] 4 t [.code (kE 3)] .run w:=by
  have hS:Sound Tryz.prog (EE W):=en_sound _
  rw [kE3]
  refine winsR_seq ?_
  refine lwp hS (R:=R3 A L cp z w fun i=>t.getD i undef) ⟨_,sayF⟩ (ok3 _) (fun τ d=>p3 (Co.re w τ d) A L cp z t HT b0 b1) fun t2 u2 h2=>?_
  obtain ⟨k2,hh,c9,c0⟩:=h2
  have c5:=kat k2 (s:=5) (by decide) b5
  have c6:=kat k2 (s:=6) (by decide) b6
  have c7:=kat k2 (s:=7) (by decide) b7
  have c8:=kat k2 (s:=8) (by decide) b8
  have HT2:=k2.1
  clear k2
  rw [kE4]
  refine winsR_seq ?_
  rw [kr4]
  refine winsR_error4 hS hl HKZ hg (id:=4) (ops:=opsOf (kC 4)) (p:=6) (q:=9) (s1:=32) (s2:=33) (s3:=34) (d:=10) ks4 ko4_0 ko4_1 ko4_2 ko4_3 h4_0 h4_1 h4_2 h4_3 (by decide) (by decide) (by rw [HT2]; decide) c6 c9 he fun t3 z3 k3 c10=>?_
  have HT3:=z3.trans HT2
  have a3:∀ s,s ∉ [32,33,34,10]→∀ v,t2[s]? = some v→t3[s]? = some v:=fun s hs v hv=>by rw [k3 s hs]; exact hv
  rw [kE5]
  refine winsR_seq ?_
  rw [kr5]
  refine winsR_error4 hS hl HKZ hg (id:=5) (ops:=opsOf (kC 5)) (p:=8) (q:=9) (s1:=35) (s2:=36) (s3:=37) (d:=11) ks5 ko5_0 ko5_1 ko5_2 ko5_3 h5_0 h5_1 h5_2 h5_3 (by decide) (by decide) (by rw [HT3]; decide) (a3 8 (by decide) _ c8) (a3 9 (by decide) _ c9) he fun t4 z4 k4 c11=>?_
  have HT4:=z4.trans HT3
  have a4:∀ s,s ∉ [35,36,37,11]→∀ v,t3[s]? = some v→t4[s]? = some v:=fun s hs v hv=>by rw [k4 s hs]; exact hv
  have b:∀ s,s ∉ [32,33,34,10]→s ∉ [35,36,37,11]→∀ v,t2[s]? = some v→t4[s]? = some v:=fun s h1 h2 v hv=>a4 s h2 v (a3 s h1 v hv)
  refine lret hS (R:=RX 88 4 (.bool true)) ⟨_,sayF⟩ (ok6 _) (fun τ d=>hfin t4 (Co.re u2 τ d) hh HT4 (b 0 (by decide) (by decide) _ c0) (b 5 (by decide) (by decide) _ c5) (b 7 (by decide) (by decide) _ c7) (b 9 (by decide) (by decide) _ c9) (a4 10 (by decide) _ c10) c11) fun t5 u5 todo h5=>?_
  exact winsR_end sayF (by kernel_rfl) (fun τ d=>(results_tmp rfl _ _ _).trans (by rw [Array.getD_eq_getD_getElem?,h5.2]; rfl)) hq
theorem say1 (hl:LawOk (EE W) (K0 W) W) (HKZ:∀ x,x < W.heap.size→¬ Z x) (hg:ToldW.ErrT W) (hq:∀ w,(∀ x,x < W.heap.size→w.heap[x]? = W.heap[x]?)→(∀ x,x < W.heap.size→x < w.heap.size)→w.os = W.os∧w.output = W.output→Q (.bool true) w)
    (hA:LArgs w A L pg) (HT:t.size = 88) (b0:t[0]? = some (.slice A L cp)) (b1:t[1]? = some (.int .i64 z)):WinsR Tryz.prog Q (EE W) (K0 W) W Z [] 4 t [.code (kE 0)] .run w:=by
  have hS:Sound Tryz.prog (EE W):=en_sound _
  rw [kE0]
  refine winsR_seq ?_
  rw [kr0]
  refine winsR_reg ?_
  rw [ks0,show List.range 1 = [0] from rfl]
  refine winsR_move hS (v:=.bool false) (d:=4) (x:=.const (.bool false)) ko0_0 h0_0.1 h0_0.2.1 h0_0.2.2 (fun ok f=>.bool _) rfl (winsR_inDone ?_)
  have HT1:(t.setIfInBounds 4 (.bool false)).size = 88:=by simpa using HT
  have c0:(t.setIfInBounds 4 (.bool false))[0]? = _:=(set_ne (by decide)).trans b0
  have c1:(t.setIfInBounds 4 (.bool false))[1]? = _:=(set_ne (by decide)).trans b1
  generalize t.setIfInBounds 4 (.bool false) = t1 at HT1 c0 c1 ⊢
  clear HT b0 b1
  rw [kE1]
  refine winsR_seq ?_
  rw [kr1]
  by_cases hz:z < 1 ∨ 8 < z
  · refine winsR_range8 (F:=14) (fun _ _ _ _ _ _ h hk=>newest_range h hk) hS HKZ (id:=1) (ops:=opsOf (kC 1)) (p:=0) (q:=1) (s1:=18) (s2:=19) (s3:=20) (s4:=17) (e1:=21) (e2:=22) (d1:=5) (d2:=6) ks1 ko1_0 ko1_1 ko1_2 ko1_3 ko1_4 ko1_5 ko1_6 ko1_7 h1_0 h1_1 h1_2 h1_3 h1_4 h1_5 h1_6 h1_7 (by decide) (by decide) (by decide) (by rw [HT1]; decide) (by rw [HT1]; decide) c0 c1 hz fun t2 l2=>?_
    have HT2:=l2.size.trans HT1
    rw [kE2]
    refine winsR_seq ?_
    rw [kr2]
    refine winsR_range8 (F:=15) (fun _ _ _ _ _ _ h hk=>states_range h hk) hS HKZ (id:=2) (ops:=opsOf (kC 2)) (p:=0) (q:=1) (s1:=24) (s2:=25) (s3:=26) (s4:=23) (e1:=27) (e2:=28) (d1:=7) (d2:=8) ks2 ko2_0 ko2_1 ko2_2 ko2_3 ko2_4 ko2_5 ko2_6 ko2_7 h2_0 h2_1 h2_2 h2_3 h2_4 h2_5 h2_6 h2_7 (by decide) (by decide) (by decide) (by rw [HT2]; decide) (by rw [HT2]; decide) (lat l2 (by decide) c0) (lat l2 (by decide) c1) hz fun t3 l3=>?_
    have hf:faultE L z = 1:=if_pos hz
    refine say3 hl HKZ hg hq (L:=L) (z:=z) (.inr ⟨1,rfl,by rw [hf]; rfl⟩) (l3.size.trans HT2) (lat l3 (by decide) (lat l2 (by decide) c0)) (lat l3 (by decide) (lat l2 (by decide) c1)) (lat l3 (by decide) l2.one) (lat l3 (by decide) l2.two) l3.one l3.two fun t' u hu s0 s1 s2 s3 s4 s5 s6=>?_
    exact pF u (faultE L z) (by rw [hf]; rfl) t' s0 s2 s3 s4 s5 s6
  · obtain ⟨n,rfl⟩:∃ n:Nat,z = (n:Int):=⟨z.toNat,by omega⟩
    have hn1:1 ≤ n:=by omega
    have hn8:n ≤ 8:=by omega
    refine winsR_newest8 hS hl HKZ (id:=1) (ops:=opsOf (kC 1)) (p:=0) (q:=1) (s1:=18) (s2:=19) (s3:=20) (s4:=17) (e1:=21) (e2:=22) (d1:=5) (d2:=6) ks1 ko1_0 ko1_1 ko1_2 ko1_3 ko1_4 ko1_5 ko1_6 ko1_7 h1_0 h1_1 h1_2 h1_3 h1_4 h1_5 h1_6 h1_7 (by decide) (by decide) (by decide) (by rw [HT1]; decide) (by rw [HT1]; decide) c0 c1 hn1 hn8 hA (fun Z1 l D cap u t2 hL hN HKZ1 hb ho l2=>?_) fun t2 hL l2=>?_
    · have HT2:=l2.size.trans HT1
      have hb1:HB w.heap u.heap:=.of hb
      rw [kE2]
      refine winsR_seq ?_
      rw [kr2]
      refine winsR_states8 hS hl HKZ1 (id:=2) (ops:=opsOf (kC 2)) (p:=0) (q:=1) (s1:=24) (s2:=25) (s3:=26) (s4:=23) (e1:=27) (e2:=28) (d1:=7) (d2:=8) ks2 ko2_0 ko2_1 ko2_2 ko2_3 ko2_4 ko2_5 ko2_6 ko2_7 h2_0 h2_1 h2_2 h2_3 h2_4 h2_5 h2_6 h2_7 (by decide) (by decide) (by decide) (by rw [HT2]; decide) (by rw [HT2]; decide) (lat l2 (by decide) c0) (lat l2 (by decide) c1) hn1 hn8 (hb1.args hA) (fun Z2 D2 u3 t3 _ HKZ2 hb2 ho2 l3=>?_) fun t3 hL' l3=>by omega
      have hb3:HB u.heap u3.heap:=.of hb2
      have hf:faultE L n = 0:=(if_neg hz).trans (if_neg (by omega))
      refine say3 hl HKZ2 hg hq (L:=L) (z:=(n:Int)) (.inl ⟨rfl,by rw [hf]; rfl⟩) (l3.size.trans HT2) (lat l3 (by decide) (lat l2 (by decide) c0)) (lat l3 (by decide) (lat l2 (by decide) c1)) (lat l3 (by decide) l2.one) (lat l3 (by decide) l2.two) l3.one l3.two fun t' u' hu s0 s1 s2 s3 s4 s5 s6=>?_
      have hbu:HB w.heap u'.heap:=by rw [hu]; exact hb1.trans hb3
      have he:l = refN pg L:=hN.uniq (refN_is pg L)
      subst he
      rw [hf] at s4
      have hO:u'.ownsRow w.heap.size 60 4 (.slice D (refN pg L).length cap) (refN pg L).length (flatF (fun i=>(refN pg L).getD i zFnd) (refN pg L).length):=by
        have h9:=hb3.own ho
        obtain ⟨o1,o2⟩:=h9
        refine ⟨o1,o2.imp id ?_⟩
        rw [hu]
        exact id
      have hR:Rd u' D2 ((List.range L).map fun k=>.int .i64 (opn (pg k)).2.2.2):=by
        have h9:=Rd.of_own ho2
        refine h9.imp id ?_
        rintro ⟨b,off,e1,e2⟩
        refine ⟨b,off,e1,fun i v hv=>?_⟩
        have:=e2 i v hv
        unfold World.cell? at this ⊢
        rw [hu]
        exact this
      exact pN u' A D L cp _ cap D2 pg hL (hbu.args hA) rfl (rdF_own hO) hR t' s0 s1 s2 s3 s4 s5 s6
    · have HT2:=l2.size.trans HT1
      rw [kE2]
      refine winsR_seq ?_
      rw [kr2]
      refine winsR_states8 hS hl HKZ (id:=2) (ops:=opsOf (kC 2)) (p:=0) (q:=1) (s1:=24) (s2:=25) (s3:=26) (s4:=23) (e1:=27) (e2:=28) (d1:=7) (d2:=8) ks2 ko2_0 ko2_1 ko2_2 ko2_3 ko2_4 ko2_5 ko2_6 ko2_7 h2_0 h2_1 h2_2 h2_3 h2_4 h2_5 h2_6 h2_7 (by decide) (by decide) (by decide) (by rw [HT2]; decide) (by rw [HT2]; decide) (lat l2 (by decide) c0) (lat l2 (by decide) c1) hn1 hn8 hA (fun Z2 D2 u3 t3 hL' _ _ _ _=>by omega) fun t3 hL' l3=>?_
      have hf:faultE L n = 3:=(if_neg hz).trans (if_pos hL)
      refine say3 hl HKZ hg hq (L:=L) (z:=(n:Int)) (.inr ⟨3,rfl,by rw [hf]; rfl⟩) (l3.size.trans HT2) (lat l3 (by decide) (lat l2 (by decide) c0)) (lat l3 (by decide) (lat l2 (by decide) c1)) (lat l3 (by decide) l2.one) (lat l3 (by decide) l2.two) l3.one l3.two fun t' u hu s0 s1 s2 s3 s4 s5 s6=>?_
      exact pF u (faultE L n) (by rw [hf]; rfl) t' s0 s2 s3 s4 s5 s6
end
end Go.Proofs.YtlaipigilikmbaaGreatDoor.SayW
