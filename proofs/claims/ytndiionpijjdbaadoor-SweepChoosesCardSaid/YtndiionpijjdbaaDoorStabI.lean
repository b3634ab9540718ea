/- The walk of slices' insertionSortCmpFunc at ints, with a comparison of which the contract is given. -/
import Derived.Test.YtndiionpijjdbaaDoorStabW
import Derived.Deep.RegionHeld3
set_option linter.unusedVariables false
namespace Go.Proofs.YtndiionpijjdbaaDoor.Stab
open Go.RowKit I64

/-- What the comparison says. -/
def CRes (w : World) (v : Int) (e : Ending) (w' : World) : Prop := e = .returned (.int .i64 v) ∧ Below w.heap.size w w'
/-- The comparison's contract: in whatever world below B is as in W0. -/
def CmpOk (W0 : World) (B : Nat) (cv : Value) (C : Int → Int → Int) (n0 : Int) : Prop :=
  ∀ (w : World) (x y : Int), Below B W0 w → 0 ≤ x → x < n0 → 0 ≤ y → y < n0 → Calls Tryd.prog 19 #[.int .i64 x, .int .i64 y, cv] w (CRes w (C x y))
def fv (cv : Value) : Value := .func (.func 19) #[] #[cv]
theorem low_gr {B : Nat} {W0 w w' : World} {g : Nat} (h : Below B W0 w) (k : w.grownBy w' (some g)) (hB : B ≤ g) (hs : B ≤ w.heap.size) : Below B W0 w' :=
  h.trans ⟨k.os, k.tape, k.output, k.size, fun j hj => k.block j (by omega) (fun e => by injection e with e; omega)⟩

/-- What an insertion sort leaves. -/
def SortP (C : Int → Int → Int) (w : World) (g : Nat) (P X Q : List Int) (tl : List Value) (e : Ending) (w' : World) : Prop := ∃ Z, Z.Perm X ∧ Srt C Z ∧ RowP w g (P ++ Z ++ Q) tl e w'
/-- The outer round: m are sorted. -/
structure InO (C : Int → Int → Int) (w wr : World) (g : Nat) (P X Q : List Int) (tl : List Value) (m : Nat) (Z : List Int) : Prop where
  pm : Z.Perm (X.take m)
  st : Srt C Z
  bk : IB wr g (P ++ Z ++ X.drop m ++ Q) tl
  gr : w.grownBy wr (some g)
/-- The inner round: x stands at k. -/
structure InI (C : Int → Int → Int) (w wr : World) (g : Nat) (P X Q : List Int) (tl : List Value) (m : Nat) (Z : List Int) (x : Int) (k : Nat) : Prop where
  bk : IB wr g (P ++ Z.take k ++ x :: Z.drop k ++ X.drop (m + 1) ++ Q) tl
  gr : w.grownBy wr (some g)
  lt : ∀ u ∈ Z.drop k, LT C x u
theorem InI.exit {C : Int → Int → Int} {w wr : World} {g : Nat} {P X Q : List Int} {tl : List Value} {m k : Nat} {Z : List Int} {x : Int} (h : InI C w wr g P X Q tl m Z x k) (hC : Cmp C) (pm : Z.Perm (X.take m)) (st : Srt C Z) (hm : m < X.length) (hx : x = X.getD m 0) (hk : k ≤ m) (hX : X.Pairwise (· < ·))
    (hs : k = 0 ∨ ¬ C x (Z.getD (k - 1) 0) < 0) : InO C w wr g P X Q tl (m + 1) (Z.take k ++ x :: Z.drop k) := by
  have hlen : Z.length = m := by rw [pm.length_eq, List.length_take]; omega
  have tX : X.take (m + 1) = X.take m ++ [x] := by
    rw [hx, List.getD_eq_getElem?_getD, List.getElem?_eq_getElem hm]
    exact List.take_succ_eq_append_getElem hm
  refine ⟨?_, ?_, by simpa using h.bk, h.gr⟩
  · rw [tX]
    have h1 : (Z.take k ++ x :: Z.drop k).Perm (x :: (Z.take k ++ Z.drop k)) := List.perm_middle
    rw [List.take_append_drop] at h1
    exact h1.trans ((List.Perm.cons x pm).trans (List.perm_append_singleton x _).symm)
  · have sp : Z = Z.take k ++ Z.drop k := (List.take_append_drop _ _).symm
    have s1 := st
    rw [sp] at s1
    refine Srt.append s1.left (List.pairwise_cons.2 ⟨h.lt, s1.right⟩) ?_
    intro u hu v hv
    have hux : LT C u x := by
      rcases hs with rfl | hs
      · simp at hu
      · rcases Nat.eq_zero_or_pos k with rfl | hkp
        · simp at hu
        obtain ⟨k', rfl⟩ : ∃ k', k = k' + 1 := ⟨k - 1, by omega⟩
        rw [Nat.add_sub_cancel] at hs
        have hlast : LT C (Z.getD k' 0) x := by
          refine LT.of_not hC ?_ hs
          have hmem : Z.getD k' 0 ∈ X.take m := pm.mem_iff.1 (getD_mem _ _ (by omega))
          have e : X = X.take m ++ X.drop m := (List.take_append_drop _ _).symm
          rw [e] at hX
          refine (List.pairwise_append.1 hX).2.2 _ hmem x ?_
          rw [hx, List.getD_eq_getElem?_getD, List.getElem?_eq_getElem hm, List.drop_eq_getElem_cons hm]
          exact List.mem_cons_self
        have e1 : Z.take (k' + 1) = Z.take k' ++ [Z.getD k' 0] := by
          rw [List.getD_eq_getElem?_getD, List.getElem?_eq_getElem (by omega)]
          exact List.take_succ_eq_append_getElem (by omega)
        rw [e1, List.mem_append] at hu
        rcases hu with hu | hu
        · have s2 := s1.left
          rw [e1] at s2
          exact LT.trans hC (s2.across u hu _ (List.mem_singleton.2 rfl)) hlast
        · rw [List.mem_singleton.1 hu]; exact hlast
    rcases List.mem_cons.1 hv with rfl | hv
    · exact hux
    · exact LT.trans hC hux (h.lt v hv)

attribute [local irreducible] IB LT Srt
set_option maxRecDepth 20000 in
set_option maxHeartbeats 2000000 in
theorem ins_any {C : Int → Int → Int} {W0 : World} {B : Nat} {cv : Value} {n0 : Int} (hC : Cmp C) (hcmp : CmpOk W0 B cv C n0) (g c n : Nat) (P X Q : List Int) (tl : List Value) (a b : Int) (w : World) (hW : Below B W0 w) (hBg : B ≤ g) (hb : IB w g (P ++ X ++ Q) tl)
    (hX : X.Pairwise (· < ·)) (hin : ∀ u ∈ X, 0 ≤ u ∧ u < n0) (hn : n = P.length + X.length + Q.length) (hn4 : n ≤ 4096) (ha : a = P.length) (hbb : b = P.length + X.length) :
    Calls Tryd.prog 29 #[.slice (some ⟨g, 0, none⟩) n c, .int .i64 a, .int .i64 b, fv cv] w (SortP C w g P X Q tl) := by
  unfold fv
  obtain ⟨p, hp⟩ : ∃ p, p = P.length := ⟨_, rfl⟩
  obtain ⟨N, hN⟩ : ∃ N, N = X.length := ⟨_, rfl⟩
  obtain rfl : a = (p : Int) := by omega
  obtain rfl : b = (p : Int) + (N : Int) := by omega
  have HC := hide hC
  have HCM := hide hcmp
  have HW := hide hW
  have HX := hide hX
  have HIN := hide hin
  have HP := hide hp
  have HNN := hide hN
  have HLN := hide hn
  have HGL : Hid (B ≤ w.heap.size) := hide (Nat.le_of_lt (Nat.lt_of_le_of_lt hBg hb.lt))
  have hpN : p + N ≤ n := by omega
  have HO : Hid (InO C w w g P X Q tl 1 (X.take 1)) := hide ⟨List.Perm.refl _, by
    unfold Srt
    rcases X with _ | ⟨x, X⟩
    · exact List.Pairwise.nil
    · exact List.pairwise_singleton _ _, by rw [List.append_assoc P, List.take_append_drop]; exact hb, gr_refl _ _⟩
  clear hC hcmp hW hb hX hin hn ha hbb hp hN
  go_enter Tryd.func29, Tryd.ntmps29
  go_wp2_with fail
  go_loopw [8] (fun i wr => ∃ (m : Nat) (Z : List Int), i = .int .i64 ((p : Int) + (m : Int)) ∧ 1 ≤ m ∧ m ≤ N + 1 ∧ (m ≤ N ∨ N = 0) ∧ Hid (InO C w wr g P X Q tl m Z)) (fun i _ => N + 1 + p - (intOf i).toNat)
  case atStart => exact ⟨1, X.take 1, rfl, by omega, by omega, by omega, HO⟩
  case round =>
    obtain ⟨m, Z, rfl, hm1, hmN, hmX, HI⟩ := hrel
    by_cases hlt : m < N
    · have e1 : decide ((p : Int) + (m : Int) < (p : Int) + (N : Int)) = true := by simp; omega
      have e1' : (m : Int) < (N : Int) := by omega
      have hmL : m < X.length := by rw [← HNN.out]; exact hlt
      obtain ⟨x, hx⟩ : ∃ x, x = X.getD m 0 := ⟨_, rfl⟩
      have HXX := hide hx
      have HZL : Hid (Z.length = m) := hide (by rw [HI.out.pm.length_eq, List.length_take]; omega)
      have HXB : Hid (0 ≤ x ∧ x < n0) := hide (by rw [hx]; exact HIN.out _ (getD_mem _ _ hmL))
      have HZB : Hid (∀ k, k < m → 0 ≤ Z.getD k 0 ∧ Z.getD k 0 < n0) := hide (fun k hk => HIN.out _ (List.mem_of_mem_take (HI.out.pm.mem_iff.1 (getD_mem _ _ (by rw [HZL.out]; exact hk)))))
      have HST : Hid (InI C w wr g P X Q tl m Z x m) := hide ⟨by
        have h := HI.out.bk
        rw [split_at (X.drop m) 0 (by rw [List.length_drop]; omega)] at h
        have e2 : (X.drop m).getD 0 0 = x := by
          rw [hx]
          simp only [List.getD_eq_getElem?_getD, List.getElem?_drop, Nat.add_zero]
        rw [e2, List.drop_drop] at h
        rw [List.take_of_length_le (by rw [HZL.out]; exact Nat.le_refl _), List.drop_of_length_le (by rw [HZL.out]; exact Nat.le_refl _)]
        simpa using h, HI.out.gr, fun u hu => by
        rw [List.drop_of_length_le (by rw [HZL.out]; exact Nat.le_refl _)] at hu
        cases hu⟩
      have HTOT : Hid (∀ k, k ≤ m → (P ++ Z.take k ++ x :: Z.drop k ++ X.drop (m + 1) ++ Q).length = n) := hide (fun k hk => by
        simp only [List.length_append, List.length_take, List.length_drop, List.length_cons, HZL.out]
        have := HP.out; have := HLN.out; omega)
      clear hx
      go_wp2_with fail
      obtain ⟨wo, hwo⟩ : ∃ wo : World, wo = wr := ⟨_, rfl⟩
      have HWO := hide hwo
      clear hwo
      go_loopw [9] (fun j wr => ∃ (k : Nat), j = .int .i64 ((p : Int) + (k : Int)) ∧ k ≤ m ∧ Hid (InI C w wr g P X Q tl m Z x k)) (fun j _ => (intOf j).toNat)
      case atStart => exact ⟨m, rfl, by omega, HST⟩
      case round =>
        obtain ⟨k, rfl, hk, HK⟩ := hrel
        by_cases hk0 : k = 0
        · subst hk0
          have HEX := hide (HK.out.exit HC.out HI.out.pm HI.out.st hmL HXX.out hk HX.out (.inl rfl))
          have ez : (p : Int) + ((0 : Nat) : Int) = (p : Int) := by omega
          rw [ez]
          have d1 : decide ((p : Int) < (p : Int)) = false := by simp
          clear ez
          go_wp2_with fail
          go_quiet (fail)
          go_wp2_with fail
          go_roundw
          case rel => exact ⟨m + 1, _, by rw [show ((m + 1 : Nat) : Int) = (m : Int) + 1 from by omega, Int.add_assoc], by omega, by omega, by omega, hide (show InO C w (wr.drewN _) g P X Q tl (m + 1) _ from ⟨HEX.out.pm, HEX.out.st, HEX.out.bk.drewN _, gr_drewN HEX.out.gr _⟩)⟩
          case measure => simp [intOf]; omega
        · obtain ⟨k', rfl⟩ : ∃ k', k = k' + 1 := ⟨k - 1, by omega⟩
          obtain ⟨z, hz⟩ : ∃ z, z = Z.getD k' 0 := ⟨_, rfl⟩
          have HZZ := hide hz
          have hzb := HZB.out k' (by omega)
          rw [← hz] at hzb
          have HZB1 := hide hzb
          have hkl : k' < Z.length := by rw [HZL.out]; omega
          have e3 : Z.take (k' + 1) = Z.take k' ++ [z] := by
            rw [hz, List.getD_eq_getElem?_getD, List.getElem?_eq_getElem hkl]
            exact List.take_succ_eq_append_getElem hkl
          have e4 : Z.drop k' = z :: Z.drop (k' + 1) := by
            rw [hz, List.getD_eq_getElem?_getD, List.getElem?_eq_getElem hkl]
            exact List.drop_eq_getElem_cons hkl
          obtain ⟨PP, hPP⟩ : ∃ PP, PP = P ++ Z.take k' := ⟨_, rfl⟩
          obtain ⟨R, hR⟩ : ∃ R, R = Z.drop (k' + 1) ++ X.drop (m + 1) ++ Q := ⟨_, rfl⟩
          have hPL : PP.length = p + k' := by rw [hPP, List.length_append, List.length_take, HP.out]; omega
          have HL : Hid (P ++ Z.take (k' + 1) ++ x :: Z.drop (k' + 1) ++ X.drop (m + 1) ++ Q = PP ++ z :: x :: R) := hide (by rw [e3, hPP, hR]; simp)
          have HL2 : Hid (PP ++ x :: z :: R = P ++ Z.take k' ++ x :: Z.drop k' ++ X.drop (m + 1) ++ Q) := hide (by rw [e4, hPP, hR]; simp)
          have hLL := HTOT.out (k' + 1) hk
          rw [HL.out] at hLL
          have HBK := hide HK.out.bk
          rw [HL.out] at HBK
          have HPL := hide hPL
          obtain ⟨J, hJ⟩ : ∃ J, J = p + k' := ⟨_, rfl⟩
          rw [show (p : Int) + ((k' + 1 : Nat) : Int) = (J : Int) + 1 from by omega]
          have c1 : wr.cell? ⟨g, J + 1, none⟩ = some (.int .i64 x) := by
            rw [hJ]
            have h := HBK.out.at_ (i := PP.length + 1) (by rw [hLL]; omega)
            rw [getD_app2, hPL] at h
            exact h
          have c2 : wr.cell? ⟨g, J, none⟩ = some (.int .i64 z) := by
            rw [hJ]
            have h := HBK.out.at_ (i := PP.length + 0) (by rw [hLL]; omega)
            rw [getD_app2, hPL] at h
            exact h
          have HCALL : Hid (Calls Tryd.prog 19 #[.int .i64 x, .int .i64 z, cv] wr.drew (CRes wr.drew (C x z))) := hide (HCM.out wr.drew x z (low_gr HW.out (gr_drew HK.out.gr) hBg HGL.out) HXB.out.1 HXB.out.2 hzb.1 hzb.2)
          have hpk : p + k' + 1 < n := by rw [← hLL, List.length_append, hPL]; simp only [List.length_cons]; omega
          have hJn : J + 1 < n := by omega
          have hpJ : p ≤ J := by omega
          have d1 : decide ((p : Int) < (J : Int) + 1) = true := by simp; omega
          have d1' : decide ((J : Int) + 1 > (p : Int)) = true := by simp; omega
          have HJ := hide hJ
          clear hz hzb e3 e4 hPP hR hPL hLL hk0 hJ hpk
          by_cases hcx : C x z < 0
          · have t1 : decide (C x z < 0) = true := by simpa using hcx
            have HCX := hide hcx
            clear hcx
            obtain ⟨cxz, hcxz⟩ : ∃ cxz, cxz = C x z := ⟨_, rfl⟩
            rw [← hcxz] at HCALL t1
            clear hcxz
            go_wp2_with fail
            have q1 : IntKind.i64.wrap ((J : Int) + 1 - 1) = (J : Int) := by rw [IntKind.wrap_i64]; omega
            have q7 : IntKind.i64.wrap (J : Int) = (J : Int) := by rw [IntKind.wrap_i64]; omega
            have q2 : (0 : Int) ≤ (J : Int) := by omega
            have q3 : (J : Int) < (n : Int) := by omega
            have q4 : (0 : Int) ≤ (J : Int) + 1 := by omega
            have q5 : (J : Int) + 1 < (n : Int) := by omega
            have q6 : ((J : Int) + 1).toNat = J + 1 := by omega
            go_region_held3 (fun w' => w'.cell? ⟨g, J + 1, none⟩ = some (.int .i64 x) ∧ w'.cell? ⟨g, J, none⟩ = some (.int .i64 z))
              (first | exact ⟨c1, c2⟩ | exact ⟨c1', c2'⟩)
              (first
                | (go_at_call 19
                   with_reducible refine HCALL.out.mono ?_
                   rintro e w2 ⟨rfl, hb2⟩
                   have HB2 := hide (HBK.out.drew.below hb2)
                   have HG2 := hide (gr_trans (gr_drew HK.out.gr) (gr_below hb2))
                   have c1' : w2.cell? ⟨g, J + 1, none⟩ = some (.int .i64 x) := (hb2.cell (p := ⟨g, J + 1, none⟩) HBK.out.lt).trans c1
                   have c2' : w2.cell? ⟨g, J, none⟩ = some (.int .i64 z) := (hb2.cell (p := ⟨g, J, none⟩) HBK.out.lt).trans c2
                   clear hb2))
            have f1 := HB2.out.free (J + 1)
            have HLL : Hid (J + 1 < (PP ++ z :: x :: R).length) := hide (by rw [List.length_append, HPL.out]; simp only [List.length_cons]; have := HJ.out; omega)
            have HS1 := hide (HB2.out.set HLL.out z)
            have c3 := HS1.out.at_ (i := J) (by rw [List.length_set]; have := HLL.out; omega)
            have f3 := HS1.out.free J
            have HS2 := hide (HS1.out.set (i := J) (by rw [List.length_set]; have := HLL.out; omega) x)
            obtain ⟨x3, hx3⟩ : ∃ x3, x3 = ((PP ++ z :: x :: R).set (J + 1) z).getD J 0 := ⟨_, rfl⟩
            rw [← hx3] at c3
            have HNX : Hid (InI C w ((w2.setCell ⟨g, J + 1, none⟩ (.int .i64 z)).setCell ⟨g, J, none⟩ (.int .i64 x)).drew g P X Q tl m Z x k') := hide ⟨by
              have h := HS2.out
              rw [HJ.out, ← HPL.out, swap_prev, HL2.out] at h
              rw [HJ.out, ← HPL.out]
              exact h.drew, gr_drew (gr_trans HG2.out (gr_trans (gr_set w2 g (J + 1) (.int .i64 z)) (gr_set (w2.setCell ⟨g, J + 1, none⟩ (.int .i64 z)) g J (.int .i64 x)))), fun u hu => by
              have e4 : Z.drop k' = z :: Z.drop (k' + 1) := by
                rw [HZZ.out, List.getD_eq_getElem?_getD, List.getElem?_eq_getElem hkl]
                exact List.drop_eq_getElem_cons hkl
              rw [e4] at hu
              rcases List.mem_cons.1 hu with rfl | hu
              · unfold LT; exact .inl HCX.out
              · exact HK.out.lt u hu⟩
            clear hx3
            go_wp2_with fail
            go_region
            go_wp2_with fail
            go_roundw
            case rel => exact ⟨k', by rw [show (p : Int) + (k' : Int) = (J : Int) from by have := HJ.out; omega], by omega, HNX⟩
            case measure => simp [intOf]
          · have t1 : decide (C x z < 0) = false := by simpa using hcx
            have HEX := hide (HK.out.exit HC.out HI.out.pm HI.out.st hmL HXX.out hk HX.out (.inr (by rw [Nat.add_sub_cancel, ← HZZ.out]; exact hcx)))
            clear hcx
            obtain ⟨cxz, hcxz⟩ : ∃ cxz, cxz = C x z := ⟨_, rfl⟩
            rw [← hcxz] at HCALL t1
            clear hcxz
            go_wp2_with fail
            have q1 : IntKind.i64.wrap ((J : Int) + 1 - 1) = (J : Int) := by rw [IntKind.wrap_i64]; omega
            have q7 : IntKind.i64.wrap (J : Int) = (J : Int) := by rw [IntKind.wrap_i64]; omega
            have q2 : (0 : Int) ≤ (J : Int) := by omega
            have q3 : (J : Int) < (n : Int) := by omega
            have q4 : (0 : Int) ≤ (J : Int) + 1 := by omega
            have q5 : (J : Int) + 1 < (n : Int) := by omega
            have q6 : ((J : Int) + 1).toNat = J + 1 := by omega
            go_region_held3 (fun w' => w'.cell? ⟨g, J + 1, none⟩ = some (.int .i64 x) ∧ w'.cell? ⟨g, J, none⟩ = some (.int .i64 z))
              (first | exact ⟨c1, c2⟩ | exact ⟨c1', c2'⟩)
              (first
                | (go_at_call 19
                   with_reducible refine HCALL.out.mono ?_
                   rintro e w2 ⟨rfl, hb2⟩
                   have HB2 := hide (HBK.out.drew.below hb2)
                   have HG2 := hide (gr_trans (gr_drew HK.out.gr) (gr_below hb2))
                   have c1' : w2.cell? ⟨g, J + 1, none⟩ = some (.int .i64 x) := (hb2.cell (p := ⟨g, J + 1, none⟩) HBK.out.lt).trans c1
                   have c2' : w2.cell? ⟨g, J, none⟩ = some (.int .i64 z) := (hb2.cell (p := ⟨g, J, none⟩) HBK.out.lt).trans c2
                   clear hb2))
            have HEX2 : Hid (InO C w w2 g P X Q tl (m + 1) (Z.take (k' + 1) ++ x :: Z.drop (k' + 1))) := hide ⟨HEX.out.pm, HEX.out.st, by
              have h := HB2.out
              rw [← HL.out] at h
              simpa using h, HG2.out⟩
            go_wp2_with fail
            go_roundw
            case rel => exact ⟨m + 1, _, by rw [show ((m + 1 : Nat) : Int) = (m : Int) + 1 from by omega, Int.add_assoc], by omega, by omega, by omega, HEX2⟩
            case measure => simp [intOf]; omega
    · have e1 : decide ((p : Int) + (m : Int) < (p : Int) + (N : Int)) = false := by simp; omega
      have e1' : ¬ (m : Int) < (N : Int) := by omega
      have HEND : Hid (∃ Z, Z.Perm X ∧ Srt C Z ∧ IB wr g (P ++ Z ++ Q) tl) := hide (by
        have hmm : X.length ≤ m := by rw [← HNN.out]; omega
        refine ⟨Z, ?_, HI.out.st, ?_⟩
        · have h := HI.out.pm
          rw [List.take_of_length_le hmm] at h
          exact h
        · have h := HI.out.bk
          rw [List.drop_of_length_le hmm] at h
          simpa using h)
      go_wp2_with fail
      go_end0
      obtain ⟨Z', h1, h2, h3⟩ := HEND.out
      exact ⟨Z', h1, h2, rfl, h3, HI.out.gr⟩
end Go.Proofs.YtndiionpijjdbaaDoor.Stab
