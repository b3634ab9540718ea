/- The walk of Buffer.add. -/
import Derived.Test.YtndhmdengadmjaaDoorBufE
set_option linter.unusedVariables false
namespace Go.Proofs.YtndhmdengadmjaaDoor.BufW
open Go.RowKit I64 IdMap Ring BufP

/-- What 'add' says of an item. -/
def AddPost (w : World) (B g : Nat) (most : Int) (L : List It) (x : It) (e : Ending) (w' : World) : Prop :=
  Fr B ringT w w' ∧ ((addCode most L x = 0 ∧ e = .returned .nilIface ∧ BufAt w' B g most (add L x)) ∨ (∃ k : Int, addCode most L x = k ∧ k ≠ 0 ∧ (k = 3 → (L.length : Int) = most ∧ lk L x.1 = none) ∧ (k = 1 → x.1 < 0) ∧ e = .returned (errV k) ∧ BufAt w' B g most L))
theorem addFr {w w' : World} {B : Nat} (h : Fr B never w w') : Fr B ringT w w' := h.mono fun _ h => h.elim

attribute [local irreducible] lk add addCode fE upf Once lbas MapAt Data Bk EntAt World.mapTurned

set_option maxHeartbeats 8000000 in
theorem add_any (B g : Nat) (most : Int) (L : List It) (x : It) (A : Option Addr) (c : Nat) (w : World) (h : BufAt w B g most L) (hd : Data w B x.2.2 A c) (hx1 : -9223372036854775808 ≤ x.1) (hx2 : x.1 ≤ 9223372036854775807) :
    Calls Tryd.prog 26 #[ptr g, .agg #[.int .i64 x.1, .bool x.2.1, .slice A x.2.2.length c]] w (AddPost w B g most L x) := by
  have hBw := h.low
  have f1 : Fr B never w (w.alloc (.cells #[.int .i64 x.1, .bool x.2.1, .slice A x.2.2.length c] 54)) := (Fr.refl _ _ _).alloc hBw _
  have B1 := h.fr f1 fun o ho => ho.elim
  have D1 := hd.fr f1 fun _ _ ho => ho
  have k1 : Bk (w.alloc (.cells #[.int .i64 x.1, .bool x.2.1, .slice A x.2.2.length c] 54)) w.heap.size 54 #[.int .i64 x.1, .bool x.2.1, .slice A x.2.2.length c] := Bk.new _ _ _
  obtain ⟨y0, y1, ld⟩ := x
  simp only at hx1 hx2 f1 B1 D1 k1 ⊢
  have i0 := k1.at_ (i := 0) (u := .int .i64 y0) rfl
  have i1 := k1.at_ (i := 1) (u := .bool y1) rfl
  have i2 := k1.at_ (i := 2) (u := .slice A ld.length c) rfl
  have HF1 := hide f1
  have HBB := hide B1
  have HD1 := hide D1
  have HK := hide k1
  have HX1 := hide (And.intro hx1 hx2)
  obtain ⟨r, m, E, nx, pv, hg, hmB, hR, hM, hE, hO, hLm, h16, hLx⟩ := B1
  replace hM := mapE hM
  have g0 := hg.at_ (i := 0) (u := .int .i64 most) rfl
  have g1 := hg.at_ (i := 1) (u := ptr r) rfl
  have g2 := hg.at_ (i := 2) (u := .map (some m)) rfl
  have HG := hide hg
  have HR := hide hR
  have HMM : Hid (MapAt (w.alloc (.cells #[.int .i64 y0, .bool y1, .slice A ld.length c] 54)) m L.length (fE E)) := hide hM
  have HmB := hide hmB
  have HE := hide hE
  have HO := hide hO
  have HLm := hide hLm
  have H16 := hide h16
  have HLx := hide hLx
  have hlen : ∀ ty, (Builtin.len_ #[73] ty #[.map (some m)]).run Tryd.prog (w.alloc (.cells #[.int .i64 y0, .bool y1, .slice A ld.length c] 54)).drew.drew = .ok (.int .i64 L.length) (w.alloc (.cells #[.int .i64 y0, .bool y1, .slice A ld.length c] 54)).drew.drew := fun ty => len_run (hM.fr (Fr.refl B never _).drew.drew (fun _ _ h => h)) ty
  clear h hd f1 D1 hg k1 hR hmB hE hO hLm h16 hLx hBw hx1 hx2
  by_cases hneg : y0 < 0
  · have HN := hide hneg
    have hdec : decide (y0 < 0) = true := decide_eq_true hneg
    clear hneg hM
    unfold ptr
    go_enter Tryd.func26, Tryd.ntmps26
    go_wp2_with fail
    go_ret
    refine ⟨addFr HF1.out, .inr ⟨1, ?_, by decide, fun h => by omega, fun _ => HN.out, rfl, HBB.out⟩⟩
    unfold addCode
    rw [if_pos HN.out]
  have HN := hide (Int.not_lt.1 hneg)
  have hdec : decide (y0 < 0) = false := decide_eq_false hneg
  clear hneg
  unfold ptr at g1
  cases hfe : fE E y0 with
  | none =>
    have HFE := hide hfe
    have hlk := lookup_none (hM.fr (Fr.refl B never _).drew (fun _ _ h => h)) HX1.out.1 HX1.out.2 hfe
    clear hM hfe
    by_cases hfull : (L.length : Int) = most
    · have HFU := hide hfull
      have hdf : ((L.length : Int) == most) = true := by simp [hfull]
      clear hfull
      unfold ptr
      go_enter Tryd.func26, Tryd.ntmps26
      go_wp2_with fail
      go_region
      all_goals go_wp2_with fail
      all_goals go_region
      all_goals go_wp2_with fail
      all_goals go_ret
      all_goals (
        have hl : lk L y0 = none := by rw [← HE.out]; exact fE_none.1 HFE.out
        refine ⟨(addFr HF1.out).drew.drew, .inr ⟨3, ?_, by decide, fun _ => ⟨HFU.out, hl⟩, fun h => by omega, rfl, HBB.out.fr (Fr.refl B never _).drew.drew fun o ho => ho.elim⟩⟩
        unfold addCode
        have := HN.out
        simp only
        rw [if_neg (by omega), if_pos ⟨by rw [hl]; rfl, HFU.out⟩])
    · have HFU := hide hfull
      have hdf : ((L.length : Int) == most) = false := by simp [hfull]
      clear hfull
      unfold ptr
      go_enter Tryd.func26, Tryd.ntmps26
      go_wp2_with fail
      go_region
      all_goals go_wp2_with fail
      all_goals go_region
      all_goals go_wp2_with fail
      have hl : lk L y0 = none := by rw [← HE.out]; exact fE_none.1 HFE.out
      have HL := hide hl
      have HCODE : Hid (addCode most L (y0, y1, ld) = 0) := hide (by
        unfold addCode
        have := HN.out
        simp only
        rw [if_neg (by omega), if_neg (fun h => HFU.out h.2)])
      have HLE : Hid (L.length ≤ 16) := hide (by have := HLm.out; have := H16.out; omega)
      have HLEN : Hid (L.length ≤ 1000000) := hide (by have := HLE.out; omega)
      have HKL : Hid ((if (fE E y0).isSome = true then L.length else L.length + 1) = (add L (y0, y1, ld)).length) := hide (by
        rw [add_len HO.out, HL.out, HFE.out]; rfl)
      have HLL : Hid (((add L (y0, y1, ld)).length : Int) ≤ most) := hide (by
        rw [add_len HO.out, HL.out]
        have := HLm.out
        have := HFU.out
        simp only [Option.isNone_none, if_true]
        omega)
      have HE1 : Hid (E.map (·.2) = L.filter fun y => decide (y.1 ≠ (y0, y1, ld).1)) := hide (by rw [filter_miss HL.out]; exact HE.out)
      have HE2 : Hid (∀ q, fE E q = if q = (y0, y1, ld).1 then none else fE E q) := hide (fun q => by
        by_cases hq : q = y0
        · subst hq; rw [if_pos rfl]; exact HFE.out
        · rw [if_neg hq])
      obtain ⟨W, hW⟩ : ∃ W, W = (w.alloc (.cells #[.int .i64 y0, .bool y1, .slice A ld.length c] 54)).drew.drew := ⟨_, rfl⟩
      have f0 : Fr B never (w.alloc (.cells #[.int .i64 y0, .bool y1, .slice A ld.length c] 54)) W := by rw [hW]; exact (Fr.refl B never _).drew.drew
      have HF0 : Hid (Fr B ringT w W) := hide (addFr (HF1.out.trans f0))
      have HGW := hide (f0.bk HG.out (fun h => h))
      have HXW := hide (f0.bk HK.out (fun h => h))
      have HRW := hide (HR.out.fr f0 (fun _ _ _ h => h.elim))
      have HMW := hide (HMM.out.fr f0 (fun _ _ h => h))
      have HDW := hide (HD1.out.fr f0 (fun _ _ h => h))
      rw [← hW]
      clear hl hW f0 hlk hdf hlen g0 g1 g2 i0 i1 i2 hdec
      -- TAIL A
      have HP := hide (push_any B r E nx pv (y0, y1, ld) A c W.drew (HRW.out.fr (Fr.refl B never _).drew (fun _ _ _ h => h.elim)) (HDW.out.fr (Fr.refl B never _).drew (fun _ _ h => h)))
      unfold ptr at HP
      have u1 := HGW.out.at_ (i := 1) (u := .pointer (some ⟨r, 0, none⟩)) rfl
      have u2 := HGW.out.at_ (i := 2) (u := .map (some m)) rfl
      have v0 := HXW.out.at_ (i := 0) (u := .int .i64 y0) rfl
      have v1 := HXW.out.at_ (i := 1) (u := .bool y1) rfl
      have v2 := HXW.out.at_ (i := 2) (u := .slice A ld.length c) rfl
      go_region_with (first
        | (go_at_call 33
           refine HP.out.mono ?_
           rintro e w4 ⟨n4, nx4, pv4, rfl, hR4, hF4⟩
           have KG4 := hF4.bk HGW.out.drew (by simp only [linkT]; decide)
           have KX4 := hF4.bk HXW.out.drew (by simp only [linkT]; decide)
           have s1 := KG4.at_ (i := 1) (u := .pointer (some ⟨r, 0, none⟩)) rfl
           have s2 := KG4.at_ (i := 2) (u := .map (some m)) rfl
           have t0 := KX4.at_ (i := 0) (u := .int .i64 y0) rfl
           have t1 := KX4.at_ (i := 1) (u := .bool y1) rfl
           have t2 := KX4.at_ (i := 2) (u := .slice A ld.length c) rfl
           have M4 := ((HMW.out.fr (Fr.refl B never _).drew (fun _ _ h => h)).fr hF4 (fun _ _ h => h))
           obtain ⟨w5, hrun5, hM5, hT5⟩ := store_run (k := y0) (x := n4) M4 HX1.out.1 HX1.out.2 HLEN.out
           have HR4 := hide hR4
           have HF4 := hide hF4
           have HM4 := hide M4
           have HM5 := hide hM5
           have HT5 := hide hT5
           have HKG4 := hide KG4

           clear hR4 hF4 hM5 hT5 KG4 KX4 M4))
      all_goals go_wp2_with fail
      all_goals go_ret
      all_goals (
        have f5 := turned_fr (B := B) (T := ringT) HM4.out HT5.out HmB.out (fun _ _ => trivial)
        have f5' : Fr B (fun o => ∃ es cl, o = .map es cl) _ _ := turned_fr (B := B) HM4.out HT5.out HmB.out (fun es cl => ⟨es, cl, rfl⟩)
        refine ⟨(HF0.out.drew.trans (HF4.out.mono fun _ h => linkT_ring h)).trans f5, .inl ⟨HCODE.out, rfl, ?_⟩⟩
        refine buf_add (f5'.bk HKG4.out (fun ⟨_, _, h⟩ => by cases h)) HmB.out (HR4.out.fr f5' (fun _ _ _ ⟨_, _, h⟩ => by cases h)) HM5.out HKL.out HE.out HE1.out HE2.out HO.out HLL.out H16.out HLx.out ⟨HN.out, HX1.out.2⟩)
      -- END A
  | some n =>
    have HFE := hide hfe
    have hlk := lookup_some (hM.fr (Fr.refl B never _).drew (fun _ _ h => h)) HX1.out.1 HX1.out.2 hfe
    obtain ⟨l1, e1, m1, hsp, hn1, hk1⟩ := fE_split hfe
    have HSP := hide hsp
    have HK1 := hide hk1
    have HN1 := hide hn1
    have HOE : Hid (Once ((l1 ++ e1 :: m1).map (·.2))) := hide (by rw [← hsp, HE.out]; exact HO.out)
    have HL : Hid ((lk L y0).isNone = false) := hide (by
      cases hl : lk L y0 with
      | some _ => rfl
      | none =>
        rw [← HE.out] at hl
        rw [fE_none.2 hl] at hfe
        cases hfe)
    have HCODE : Hid (addCode most L (y0, y1, ld) = 0) := hide (by
      unfold addCode
      have := HN.out
      simp only
      rw [if_neg (by omega), if_neg (fun h => by rw [HL.out] at h; cases h.1)])
    have HLE : Hid (L.length ≤ 16) := hide (by have := HLm.out; have := H16.out; omega)
    have HLEN : Hid (L.length ≤ 1000000) := hide (by have := HLE.out; omega)
    have HKL : Hid ((if (fE E y0).isSome = true then L.length else L.length + 1) = (add L (y0, y1, ld)).length) := hide (by
      rw [add_len HO.out, HL.out, HFE.out]; rfl)
    have HLL : Hid (((add L (y0, y1, ld)).length : Int) ≤ most) := hide (by
      rw [add_len HO.out, HL.out]
      exact HLm.out)
    have HE1 : Hid ((l1 ++ m1).map (·.2) = L.filter fun y => decide (y.1 ≠ (y0, y1, ld).1)) := hide (by
      rw [← HE.out, HSP.out, ← filter_split HOE.out]
      simp only [HK1.out])
    have HE2 : Hid (∀ q, fE (l1 ++ m1) q = if q = (y0, y1, ld).1 then none else fE E q) := hide (fun q => by
      rw [fE_cut HOE.out, HSP.out, HK1.out])
    clear hM hfe hsp hn1 hk1
    unfold ptr
    go_enter Tryd.func26, Tryd.ntmps26
    go_wp2_with fail
    go_region
    all_goals go_wp2_with fail
    all_goals go_region
    all_goals go_wp2_with fail
    have hR0 := HR.out.fr (Fr.refl B never _).drew.drew (fun _ _ _ h => h.elim)
    rw [HSP.out] at hR0
    have HCUT := hide (cut_any B r l1 m1 e1 nx pv _ hR0)
    unfold ptr at HCUT
    rw [HN1.out] at HCUT
    clear hR0
    refine HCUT.out.mono ?_
    rintro en w3 ⟨rfl, hR3, hF3, -, -⟩
    have f0 : Fr B linkT (w.alloc (.cells #[.int .i64 y0, .bool y1, .slice A ld.length c] 54)) w3 := ((Fr.refl B linkT _).drew.drew).trans hF3
    have HF0 : Hid (Fr B ringT w w3) := hide ((addFr HF1.out).trans (f0.mono fun _ h => linkT_ring h))
    have HGW := hide (f0.bk HG.out (by simp only [linkT]; decide))
    have HXW := hide (f0.bk HK.out (by simp only [linkT]; decide))
    rw [← HN1.out] at hR3
    have HRW := hide hR3
    have HMW := hide (HMM.out.fr f0 (fun _ _ h => h))
    have HDW := hide (HD1.out.fr f0 not_u8l)
    clear hR3 hF3 f0 hlk hlen g0 g1 g2 i0 i1 i2 hdec
    go_wp2_with fail
    -- TAIL C
    have HP := hide (push_any B r (l1 ++ m1) (upd nx (pv e1.1) (nx e1.1)) (upd pv (nx e1.1) (pv e1.1)) (y0, y1, ld) A c w3.drew (HRW.out.fr (Fr.refl B never _).drew (fun _ _ _ h => h.elim)) (HDW.out.fr (Fr.refl B never _).drew (fun _ _ h => h)))
    unfold ptr at HP
    have u1 := HGW.out.at_ (i := 1) (u := .pointer (some ⟨r, 0, none⟩)) rfl
    have u2 := HGW.out.at_ (i := 2) (u := .map (some m)) rfl
    have v0 := HXW.out.at_ (i := 0) (u := .int .i64 y0) rfl
    have v1 := HXW.out.at_ (i := 1) (u := .bool y1) rfl
    have v2 := HXW.out.at_ (i := 2) (u := .slice A ld.length c) rfl
    go_region_with (first
      | (go_at_call 33
         refine HP.out.mono ?_
         rintro e w4 ⟨n4, nx4, pv4, rfl, hR4, hF4⟩
         have KG4 := hF4.bk HGW.out.drew (by simp only [linkT]; decide)
         have KX4 := hF4.bk HXW.out.drew (by simp only [linkT]; decide)
         have s1 := KG4.at_ (i := 1) (u := .pointer (some ⟨r, 0, none⟩)) rfl
         have s2 := KG4.at_ (i := 2) (u := .map (some m)) rfl
         have t0 := KX4.at_ (i := 0) (u := .int .i64 y0) rfl
         have t1 := KX4.at_ (i := 1) (u := .bool y1) rfl
         have t2 := KX4.at_ (i := 2) (u := .slice A ld.length c) rfl
         have M4 := ((HMW.out.fr (Fr.refl B never _).drew (fun _ _ h => h)).fr hF4 (fun _ _ h => h))
         obtain ⟨w5, hrun5, hM5, hT5⟩ := store_run (k := y0) (x := n4) M4 HX1.out.1 HX1.out.2 HLEN.out
         have HR4 := hide hR4
         have HF4 := hide hF4
         have HM4 := hide M4
         have HM5 := hide hM5
         have HT5 := hide hT5
         have HKG4 := hide KG4

         clear hR4 hF4 hM5 hT5 KG4 KX4 M4))
    all_goals go_wp2_with fail
    all_goals go_ret
    all_goals (
      have f5 := turned_fr (B := B) (T := ringT) HM4.out HT5.out HmB.out (fun _ _ => trivial)
      have f5' : Fr B (fun o => ∃ es cl, o = .map es cl) _ _ := turned_fr (B := B) HM4.out HT5.out HmB.out (fun es cl => ⟨es, cl, rfl⟩)
      refine ⟨(HF0.out.drew.trans (HF4.out.mono fun _ h => linkT_ring h)).trans f5, .inl ⟨HCODE.out, rfl, ?_⟩⟩
      refine buf_add (f5'.bk HKG4.out (fun ⟨_, _, h⟩ => by cases h)) HmB.out (HR4.out.fr f5' (fun _ _ _ ⟨_, _, h⟩ => by cases h)) HM5.out HKL.out HE.out HE1.out HE2.out HO.out HLL.out H16.out HLx.out ⟨HN.out, HX1.out.2⟩)
    -- END C
end Go.Proofs.YtndhmdengadmjaaDoor.BufW
