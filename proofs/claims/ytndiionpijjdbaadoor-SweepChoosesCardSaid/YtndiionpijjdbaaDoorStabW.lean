/- The walks of slices' swapRangeCmpFunc and rotateCmpFunc at ints. -/
import Derived.Test.YtndiionpijjdbaaDoorStabP
import Derived.Test.YtndiionpijjdbaaDoorI64
import Derived.BigQuiet
import Derived.Deep.QuietTactic
import Derived.BigRegion
set_option linter.unusedVariables false
namespace Go.Proofs.YtndiionpijjdbaaDoor.Stab
open Go.RowKit I64

/-- Block g holds the ints L, and more behind them. -/
def IB (w : World) (g : Nat) (L : List Int) (tl : List Value) : Prop := Bk w g 3 (i64v L ++ tl).toArray
section
variable {w w' : World} {g : Nat} {L : List Int} {tl : List Value}
theorem IB.at_ (h : IB w g L tl) {i : Nat} (hi : i < L.length) : w.cell? ⟨g, i, none⟩ = some (.int .i64 (L.getD i 0)) := by
  refine Bk.at_ h ?_
  rw [List.getElem?_toArray, List.getElem?_append_left (by rw [i64v_length]; exact hi)]
  simp [i64v, hi, List.getD_eq_getElem?_getD]
theorem IB.free (h : IB w g L tl) (i : Nat) : w.frozen? ⟨g, i, none⟩ = false := Bk.free h i
theorem IB.set (h : IB w g L tl) {i : Nat} (hi : i < L.length) (x : Int) : IB (w.setCell ⟨g, i, none⟩ (.int .i64 x)) g (L.set i x) tl := by
  have h1 := Bk.put h i (.int .i64 x)
  unfold IB
  rw [List.setIfInBounds_toArray, List.set_append_left _ _ (by rw [i64v_length]; exact hi)] at h1
  rw [show i64v (L.set i x) = (i64v L).set i (.int .i64 x) from by simp [i64v, List.map_set]]
  exact h1
theorem IB.drew (h : IB w g L tl) : IB w.drew g L tl := h
theorem IB.drewN (h : IB w g L tl) (n : Nat) : IB (w.drewN n) g L tl := h
theorem IB.below (h : IB w g L tl) (hb : Below w.heap.size w w') : IB w' g L tl := Bk.below h hb (Bk.lt h)
theorem IB.lt (h : IB w g L tl) : g < w.heap.size := Bk.lt h
end
section
variable {a b c w w' : World} {g : Nat}
theorem gr_refl (w : World) (g : Nat) : w.grownBy w (some g) := ⟨rfl, rfl, rfl, Nat.le_refl _, fun _ _ _ => rfl⟩
theorem gr_trans (h : a.grownBy b (some g)) (k : b.grownBy c (some g)) : a.grownBy c (some g) :=
  ⟨k.os.trans h.os, k.tape.trans h.tape, k.output.trans h.output, Nat.le_trans h.size k.size, fun j hj hr => (k.block j (Nat.lt_of_lt_of_le hj h.size) hr).trans (h.block j hj hr)⟩
theorem gr_set (w : World) (g i : Nat) (u : Value) : w.grownBy (w.setCell ⟨g, i, none⟩ u) (some g) :=
  ⟨rfl, rfl, rfl, by simp, fun j _ hr => Below.heap_setCell w _ u j (fun e => hr (by rw [e]))⟩
theorem gr_drew (h : a.grownBy w (some g)) : a.grownBy w.drew (some g) := ⟨h.os, h.tape, h.output, h.size, h.block⟩
theorem gr_drewN (h : a.grownBy w (some g)) (n : Nat) : a.grownBy (w.drewN n) (some g) := ⟨h.os, h.tape, h.output, h.size, h.block⟩
theorem gr_below (h : Below w.heap.size w w') : w.grownBy w' (some g) := ⟨h.os, h.tape, h.output, h.size, fun j hj _ => h.block j hj⟩
end
/-- What a call on the row leaves. -/
def RowP (w : World) (g : Nat) (L' : List Int) (tl : List Value) (e : Ending) (w' : World) : Prop := e = .returned (.tuple #[]) ∧ IB w' g L' tl ∧ w.grownBy w' (some g)

/-- Where swapRange stands. -/
def SwL (P A M B Q : List Int) (i : Nat) : List Int := P ++ (B.take i ++ A.drop i) ++ M ++ (A.take i ++ B.drop i) ++ Q
theorem SwL_zero (P A M B Q : List Int) : SwL P A M B Q 0 = P ++ A ++ M ++ B ++ Q := by simp [SwL]
theorem SwL_end (P A M B Q : List Int) (h : A.length = B.length) : SwL P A M B Q A.length = P ++ B ++ M ++ A ++ Q := by
  unfold SwL
  rw [List.take_of_length_le (l := B) (by omega), List.take_of_length_le (l := A) (by omega), List.drop_of_length_le (l := A) (by omega), List.drop_of_length_le (l := B) (by omega)]
  simp
theorem SwL_len (P A M B Q : List Int) (i : Nat) (h : A.length = B.length) (hi : i ≤ A.length) : (SwL P A M B Q i).length = P.length + A.length + M.length + B.length + Q.length := by
  unfold SwL
  simp only [List.length_append, List.length_take, List.length_drop]
  omega
theorem SwL_a (P A M B Q : List Int) (i : Nat) (h : A.length = B.length) (hi : i < A.length) : (SwL P A M B Q i).getD (P.length + i) 0 = A.getD i 0 := by
  unfold SwL
  simp only [List.append_assoc]
  have l1 : (B.take i).length = i := by rw [List.length_take]; omega
  rw [getD_app2]
  have e : i = (B.take i).length + 0 := by omega
  conv => lhs; rw [show (List.take i B ++ (List.drop i A ++ (M ++ (List.take i A ++ (List.drop i B ++ Q))))).getD i 0 = (List.take i B ++ (List.drop i A ++ (M ++ (List.take i A ++ (List.drop i B ++ Q))))).getD ((B.take i).length + 0) 0 from by rw [← e]]
  rw [getD_app2, getD_app1 _ _ _ (by rw [List.length_drop]; omega)]
  simp only [List.getD_eq_getElem?_getD, List.getElem?_drop, Nat.add_zero]
theorem SwL_b (P A M B Q : List Int) (i : Nat) (h : A.length = B.length) (hi : i < A.length) : (SwL P A M B Q i).getD (P.length + A.length + M.length + i) 0 = B.getD i 0 := by
  unfold SwL
  have l1 : (B.take i).length = i := by rw [List.length_take]; omega
  have l2 : (A.take i).length = i := by rw [List.length_take]; omega
  have e : P.length + A.length + M.length + i = (P ++ (B.take i ++ A.drop i) ++ M ++ A.take i).length + 0 := by
    simp only [List.length_append, l1, l2, List.length_drop]; omega
  rw [show P ++ (B.take i ++ A.drop i) ++ M ++ (A.take i ++ B.drop i) ++ Q = (P ++ (B.take i ++ A.drop i) ++ M ++ A.take i) ++ (B.drop i ++ Q) from by simp, e, getD_app2, getD_app1 _ _ _ (by rw [List.length_drop]; omega)]
  simp only [List.getD_eq_getElem?_getD, List.getElem?_drop, Nat.add_zero]

attribute [local irreducible] SwL IB
set_option maxRecDepth 20000 in
set_option maxHeartbeats 2000000 in
theorem swap_any (g c n : Nat) (P A M B Q : List Int) (tl : List Value) (F : Value) (a b k : Int) (w : World) (hb : IB w g (P ++ A ++ M ++ B ++ Q) tl) (hn : n = P.length + A.length + M.length + B.length + Q.length) (hn4 : n ≤ 4096) (hl : A.length = B.length)
    (ha : a = P.length) (hbb : b = P.length + A.length + M.length) (hk : k = A.length) :
    Calls Tryd.prog 35 #[.slice (some ⟨g, 0, none⟩) n c, .int .i64 a, .int .i64 b, .int .i64 k, F] w (RowP w g (P ++ B ++ M ++ A ++ Q) tl) := by
  obtain ⟨p, hp⟩ : ∃ p, p = P.length := ⟨_, rfl⟩
  obtain ⟨q, hq⟩ : ∃ q, q = P.length + A.length + M.length := ⟨_, rfl⟩
  obtain ⟨m, hm⟩ : ∃ m, m = A.length := ⟨_, rfl⟩
  obtain rfl : a = (p : Int) := by omega
  obtain rfl : b = (q : Int) := by omega
  obtain rfl : k = (m : Int) := by omega
  have HL := hide hl
  have HN := hide hn
  have HP := hide hp
  have HQ := hide hq
  have HM := hide hm
  have hpq : p + m ≤ q := by omega
  have hqn : q + m ≤ n := by omega
  have HB : Hid (IB w g (SwL P A M B Q 0) tl) := hide (by rw [SwL_zero]; exact hb)
  clear hb hn hl ha hbb hk hp hq hm
  go_enter Tryd.func35, Tryd.ntmps35
  go_wp2_with fail
  go_loopw [10] (fun i wr => ∃ j : Nat, j ≤ m ∧ i = .int .i64 j ∧ Hid (IB wr g (SwL P A M B Q j) tl) ∧ Hid (w.grownBy wr (some g))) (fun i _ => m - (intOf i).toNat)
  case atStart => exact ⟨0, by omega, rfl, HB, hide (gr_refl _ _)⟩
  case round =>
    obtain ⟨j, hj, rfl, HI, HG⟩ := hrel
    by_cases hlt : j < m
    · have e1 : decide (j < m) = true := by simpa using hlt
      have e1' : decide ((j : Int) < (m : Int)) = true := by simp; omega
      have hjA : j < A.length := by rw [← HM.out]; exact hlt
      have hlen := SwL_len P A M B Q j HL.out (by omega)
      rw [← HN.out] at hlen
      have c1 := HI.out.at_ (i := p + j) (by omega)
      have c2 := HI.out.at_ (i := q + j) (by omega)
      rw [HP.out, SwL_a P A M B Q j HL.out hjA, ← HP.out] at c1
      rw [HQ.out, SwL_b P A M B Q j HL.out hjA, ← HQ.out] at c2
      have f1 := HI.out.free (p + j)
      have HI1 := hide (HI.out.set (i := p + j) (by omega) (B.getD j 0))
      have c3 := HI1.out.at_ (i := q + j) (by rw [List.length_set]; omega)
      have f3 := HI1.out.free (q + j)
      have HI2 := hide (HI1.out.set (i := q + j) (by rw [List.length_set]; omega) (A.getD j 0))
      have HST := hide (swap_step P A M B Q j hjA HL.out)
      obtain ⟨x3, hx3⟩ : ∃ x3, x3 = ((SwL P A M B Q j).set (p + j) (B.getD j 0)).getD (q + j) 0 := ⟨_, rfl⟩
      rw [← hx3] at c3
      obtain ⟨xa, hxa⟩ : ∃ xa, xa = A.getD j 0 := ⟨_, rfl⟩
      obtain ⟨xb, hxb⟩ : ∃ xb, xb = B.getD j 0 := ⟨_, rfl⟩
      rw [← hxa] at c1 HI2
      rw [← hxb] at c2 HI2 HI1 c3
      rw [← hxb] at f3
      have HI3 : Hid (IB ((wr.setCell ⟨g, p + j, none⟩ (.int .i64 xb)).setCell ⟨g, q + j, none⟩ (.int .i64 xa)) g (SwL P A M B Q (j + 1)) tl) := hide (by
        have h := HI2.out
        have h2 := HST.out
        rw [← hxa, ← hxb, ← HP.out, show p + A.length + M.length = q from by rw [HQ.out, HP.out]] at h2
        unfold SwL at h ⊢
        rw [h2] at h
        exact h)
      have HG3 := hide (gr_trans HG.out (gr_trans (gr_set wr g (p + j) (.int .i64 xb)) (gr_set (wr.setCell ⟨g, p + j, none⟩ (.int .i64 xb)) g (q + j) (.int .i64 xa))))
      have q1 : IntKind.i64.wrap ((p : Int) + (j : Int)) = (p : Int) + (j : Int) := by rw [IntKind.wrap_i64]; omega
      have q2 : 0 ≤ (p : Int) + (j : Int) := by omega
      have q3 : (p : Int) + (j : Int) < (n : Int) := by omega
      have q4 : ((p : Int) + (j : Int)).toNat = p + j := by omega
      have r1 : IntKind.i64.wrap ((q : Int) + (j : Int)) = (q : Int) + (j : Int) := by rw [IntKind.wrap_i64]; omega
      have r2 : 0 ≤ (q : Int) + (j : Int) := by omega
      have r3 : (q : Int) + (j : Int) < (n : Int) := by omega
      have r4 : ((q : Int) + (j : Int)).toNat = q + j := by omega
      clear hlen hxa hxb hx3 HST HI1 HI2
      go_wp2_with fail
      go_region
      go_wp2_with fail
      go_roundw
      case rel => exact ⟨j + 1, by omega, by go_num, hide HI3.out.drew, hide (gr_drew HG3.out)⟩
      case measure => simp [intOf]; omega
    · have e1 : decide (j < m) = false := by simpa using hlt
      have e1' : decide ((j : Int) < (m : Int)) = false := by simp; omega
      obtain rfl : j = m := by omega
      have HE : Hid (IB wr g (P ++ B ++ M ++ A ++ Q) tl) := hide (by
        have h := HI.out
        rw [HM.out, SwL_end P A M B Q HL.out] at h
        exact h)
      go_wp2_with fail
      go_end0
      exact ⟨rfl, HE.out, HG.out⟩

/-- Where rotate stands: A and B are still to change places. -/
structure RoI (w wr : World) (g : Nat) (T : List Int) (tl : List Value) (P A B Q : List Int) (m i j : Nat) : Prop where
  bk : IB wr g (P ++ A ++ B ++ Q) tl
  gr : w.grownBy wr (some g)
  la : A.length = i
  lb : B.length = j
  lm : P.length + i = m
  i1 : 1 ≤ i
  j1 : 1 ≤ j
  tg : P ++ B ++ A ++ Q = T
set_option maxRecDepth 20000 in
set_option maxHeartbeats 2000000 in
theorem rotate_any (g c n : Nat) (P X Y Q : List Int) (tl : List Value) (F : Value) (a m b : Int) (w : World) (hb : IB w g (P ++ X ++ Y ++ Q) tl) (hn : n = P.length + X.length + Y.length + Q.length) (hn4 : n ≤ 4096) (hx : 1 ≤ X.length) (hy : 1 ≤ Y.length)
    (ha : a = P.length) (hm : m = P.length + X.length) (hbb : b = P.length + X.length + Y.length) :
    Calls Tryd.prog 34 #[.slice (some ⟨g, 0, none⟩) n c, .int .i64 a, .int .i64 m, .int .i64 b, F] w (RowP w g (P ++ Y ++ X ++ Q) tl) := by
  obtain ⟨M, hM⟩ : ∃ M, M = P.length + X.length := ⟨_, rfl⟩
  obtain ⟨T, hT⟩ : ∃ T, T = P ++ Y ++ X ++ Q := ⟨_, rfl⟩
  obtain ⟨i0, hi0⟩ : ∃ i0, i0 = X.length := ⟨_, rfl⟩
  obtain ⟨j0, hj0⟩ : ∃ j0, j0 = Y.length := ⟨_, rfl⟩
  obtain ⟨p0, hp0⟩ : ∃ p0, p0 = P.length := ⟨_, rfl⟩
  obtain rfl : a = (p0 : Int) := by omega
  obtain rfl : m = (M : Int) := by omega
  obtain rfl : b = (M : Int) + (j0 : Int) := by omega
  have hpM : M = p0 + i0 := by omega
  have hMn : M + j0 ≤ n := by omega
  have HTL : Hid (T.length = n) := hide (by rw [hT]; simp only [List.length_append]; omega)
  have HR0 : Hid (RoI w w g T tl P X Y Q M i0 j0) := hide ⟨hb, gr_refl _ _, hi0.symm, hj0.symm, by omega, by omega, by omega, hT.symm⟩
  rw [← hT]
  have s1 : (M : Int) - (p0 : Int) = (i0 : Int) := by omega
  have s2 : (M : Int) + (j0 : Int) - (M : Int) = (j0 : Int) := by omega
  clear hb hn hx hy ha hm hbb hM hT hi0 hj0 hp0 hpM
  go_enter Tryd.func34, Tryd.ntmps34
  go_wp2_with fail
  go_loopw [10, 11] (fun i j wr => ∃ (P' A' B' Q' : List Int) (i' j' : Nat), i = .int .i64 i' ∧ j = .int .i64 j' ∧ i' + j' ≤ n ∧ Hid (RoI w wr g T tl P' A' B' Q' M i' j')) (fun i j _ => (intOf i).toNat + (intOf j).toNat)
  case atStart => exact ⟨P, X, Y, Q, i0, j0, rfl, rfl, by omega, HR0⟩
  case round =>
    clear s1 s2 HR0
    obtain ⟨P', A', B', Q', i, j, rfl, rfl, hij, HI⟩ := hrel
    have hlen : P'.length + i + j + Q'.length = n := by
      have h := congrArg List.length HI.out.tg
      rw [HTL.out] at h
      simp only [List.length_append] at h
      have := HI.out.la
      have := HI.out.lb
      omega
    have hi1 := HI.out.i1
    have hj1 := HI.out.j1
    have hlm := HI.out.lm
    have HLA := hide HI.out.la
    have HLB := hide HI.out.lb
    have HLEN := hide hlen
    clear hlen
    by_cases he : i = j
    · subst he
      have t1 : ((i : Int) != (i : Int)) = false := by simp
      have HSW : Hid (∀ a b k : Int, a = P'.length → b = P'.length + A'.length + ([] : List Int).length → k = A'.length → Calls Tryd.prog 35 #[.slice (some ⟨g, 0, none⟩) n c, .int .i64 a, .int .i64 b, .int .i64 k, F] wr (RowP wr g (P' ++ B' ++ [] ++ A' ++ Q') tl)) := hide (fun a b k h1 h2 h3 => swap_any g c n P' A' [] B' Q' tl F a b k wr (by simpa using HI.out.bk) (by have := HLA.out; have := HLB.out; have := HLEN.out; simp; omega) hn4 (by rw [HLA.out, HLB.out]) h1 h2 h3)
      go_wp2_with fail
      refine (HSW.out _ _ _ (by have := HLA.out; omega) (by have := HLA.out; simp; omega) (by have := HLA.out; omega)).mono ?_
      rintro e w2 ⟨rfl, hb2, hg2⟩
      have HB2 : Hid (IB w2 g T tl) := hide (by rw [← HI.out.tg]; simpa using hb2)
      have HG2 := hide (gr_trans HI.out.gr hg2)
      clear hb2 hg2
      go_wp2_with fail
      go_end0
      exact ⟨rfl, HB2.out, HG2.out⟩
    · have t1 : ((i : Int) != (j : Int)) = true := by simp; omega
      by_cases hgt : j < i
      · have t2 : decide (j < i) = true := by simpa using hgt
        have t2' : decide ((i : Int) > (j : Int)) = true := by simp; omega
        have HSW : Hid (∀ a b k : Int, a = P'.length → b = P'.length + (A'.take j).length + (A'.drop j).length → k = (A'.take j).length → Calls Tryd.prog 35 #[.slice (some ⟨g, 0, none⟩) n c, .int .i64 a, .int .i64 b, .int .i64 k, F] wr (RowP wr g (P' ++ B' ++ A'.drop j ++ A'.take j ++ Q') tl)) := hide (fun a b k h1 h2 h3 => swap_any g c n P' (A'.take j) (A'.drop j) B' Q' tl F a b k wr (by have h := HI.out.bk; rw [← List.take_append_drop j A'] at h; simpa using h) (by have := HLA.out; have := HLB.out; have := HLEN.out; simp only [List.length_take, List.length_drop]; omega) hn4 (by rw [HLB.out, List.length_take, HLA.out]; omega) h1 h2 h3)
        have l1 : (A'.take j).length = j := by rw [List.length_take, HLA.out]; omega
        have l2 : (A'.drop j).length = i - j := by rw [List.length_drop, HLA.out]
        have HL12 := hide (And.intro l1 l2)
        clear he l1 l2
        go_wp2_with fail
        refine (HSW.out _ _ _ (by omega) (by rw [HL12.out.1, HL12.out.2]; omega) (by rw [HL12.out.1])).mono ?_
        rintro e w2 ⟨rfl, hb2, hg2⟩
        have HN : Hid (RoI w w2 g T tl (P' ++ B') (A'.drop j) (A'.take j) Q' M (i - j) j) := hide ⟨hb2, gr_trans HI.out.gr hg2, HL12.out.2, HL12.out.1, by rw [List.length_append, HLB.out]; omega, by omega, hj1, by rw [← HI.out.tg]; simp⟩
        have q1 : (i : Int) - (j : Int) = ((i - j : Nat) : Int) := by omega
        clear hb2 hg2
        go_wp2_with fail
        go_roundw
        case rel => exact ⟨P' ++ B', A'.drop j, A'.take j, Q', i - j, j, by rw [← q1], rfl, by omega, HN⟩
        case measure => simp [intOf]; omega
      · have t2 : decide (j < i) = false := by simpa using hgt
        have t2' : decide ((i : Int) > (j : Int)) = false := by simp; omega
        have HSW : Hid (∀ a b k : Int, a = P'.length → b = P'.length + A'.length + (B'.take (j - i)).length → k = A'.length → Calls Tryd.prog 35 #[.slice (some ⟨g, 0, none⟩) n c, .int .i64 a, .int .i64 b, .int .i64 k, F] wr (RowP wr g (P' ++ B'.drop (j - i) ++ B'.take (j - i) ++ A' ++ Q') tl)) := hide (fun a b k h1 h2 h3 => swap_any g c n P' A' (B'.take (j - i)) (B'.drop (j - i)) Q' tl F a b k wr (by have h := HI.out.bk; rw [← List.take_append_drop (j - i) B'] at h; simpa using h) (by have := HLA.out; have := HLB.out; have := HLEN.out; simp only [List.length_take, List.length_drop]; omega) hn4 (by rw [HLA.out, List.length_drop, HLB.out]; omega) h1 h2 h3)
        have l1 : (B'.take (j - i)).length = j - i := by rw [List.length_take, HLB.out]; omega
        have l2 : (B'.drop (j - i)).length = i := by rw [List.length_drop, HLB.out]; omega
        have HL12 := hide (And.intro l1 l2)
        clear l1 l2
        go_wp2_with fail
        refine (HSW.out _ _ _ (by omega) (by rw [HL12.out.1, HLA.out]; omega) (by rw [HLA.out])).mono ?_
        rintro e w2 ⟨rfl, hb2, hg2⟩
        have HN : Hid (RoI w w2 g T tl P' (B'.drop (j - i)) (B'.take (j - i)) (A' ++ Q') M i (j - i)) := hide ⟨by simpa using hb2, gr_trans HI.out.gr hg2, HL12.out.2, HL12.out.1, by omega, hi1, by omega, by rw [← HI.out.tg]; simp only [← List.append_assoc]; rw [List.append_assoc P' (B'.take (j - i)) (B'.drop (j - i)), List.take_append_drop]⟩
        have q1 : (j : Int) - (i : Int) = ((j - i : Nat) : Int) := by omega
        clear hb2 hg2
        go_wp2_with fail
        go_roundw
        case rel => exact ⟨P', B'.drop (j - i), B'.take (j - i), A' ++ Q', i, j - i, rfl, by rw [← q1], by omega, HN⟩
        case measure => simp [intOf]; omega
end Go.Proofs.YtndiionpijjdbaaDoor.Stab
