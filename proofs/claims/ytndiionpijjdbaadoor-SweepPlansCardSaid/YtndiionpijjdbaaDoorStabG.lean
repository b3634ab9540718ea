/- The walk of slices' symMergeCmpFunc at ints, whole. -/
import Derived.Test.YtndiionpijjdbaaDoorStabN
import Derived.Deep.DeepCutAuto
set_option linter.unusedVariables false
namespace Go.Proofs.YtndiionpijjdbaaDoor.Stab
open Go.RowKit I64

theorem halves {C : Int → Int → Int} (hC : Cmp C) {X Y : List Int} {s e : Nat} (hX : Srt C X) (hY : Srt C Y) (hS : Sep X Y) (hs : s ≤ X.length) (he : e ≤ Y.length)
    (h1 : s = 0 ∨ e = Y.length ∨ ¬ C (Y.getD e 0) (X.getD (s - 1) 0) < 0) (h2 : s = X.length ∨ e = 0 ∨ C (Y.getD (e - 1) 0) (X.getD s 0) < 0) :
    ∀ u ∈ X.take s ++ Y.take e, ∀ v ∈ X.drop s ++ Y.drop e, LT C u v := by
  have ge : ∀ {L : List Int} (h : Srt C L) {i j : Nat}, i < j → j < L.length → LT C (L.getD i 0) (L.getD j 0) := fun h _ _ hij hj => srt_at h hij hj
  intro u hu v hv
  rcases List.mem_append.1 hu with hu | hu <;> rcases List.mem_append.1 hv with hv | hv
  · obtain ⟨i, hi, hil, rfl⟩ := mem_take_at hu
    obtain ⟨j, hj, hjl, rfl⟩ := mem_drop_at hv
    exact ge hX (by omega) hjl
  · obtain ⟨i, hi, hil, rfl⟩ := mem_take_at hu
    obtain ⟨j, hj, hjl, rfl⟩ := mem_drop_at hv
    rcases h1 with h1 | h1 | h1
    · omega
    · omega
    · have h3 : LT C (X.getD (s - 1) 0) (Y.getD e 0) := LT.of_not hC (hS _ (getD_mem _ _ (by omega)) _ (getD_mem _ _ (by omega))) h1
      have h4 : LT C (X.getD i 0) (Y.getD e 0) := by
        rcases Nat.lt_or_ge i (s - 1) with h | h
        · exact LT.trans hC (ge hX h (by omega)) h3
        · rw [show i = s - 1 from by omega]; exact h3
      rcases Nat.lt_or_ge e j with h | h
      · exact LT.trans hC h4 (ge hY h hjl)
      · rw [show j = e from by omega]; exact h4
  · obtain ⟨i, hi, hil, rfl⟩ := mem_take_at hu
    obtain ⟨j, hj, hjl, rfl⟩ := mem_drop_at hv
    rcases h2 with h2 | h2 | h2
    · omega
    · omega
    · have h3 : LT C (Y.getD (e - 1) 0) (X.getD s 0) := .inl h2
      have h4 : LT C (Y.getD i 0) (X.getD s 0) := by
        rcases Nat.lt_or_ge i (e - 1) with h | h
        · exact LT.trans hC (ge hY h (by omega)) h3
        · rw [show i = e - 1 from by omega]; exact h3
      rcases Nat.lt_or_ge s j with h | h
      · exact LT.trans hC h4 (ge hX h hjl)
      · rw [show j = s from by omega]; exact h4
  · obtain ⟨i, hi, hil, rfl⟩ := mem_take_at hu
    obtain ⟨j, hj, hjl, rfl⟩ := mem_drop_at hv
    exact ge hY (by omega) hjl

/-- symMerge's contract up to a size. -/
def SymOk (C : Int → Int → Int) (W0 : World) (B : Nat) (cv : Value) (n0 : Int) (g c n : Nat) (tl : List Value) (K : Nat) : Prop :=
  ∀ (P X Y Q : List Int) (a m b : Int) (w : World), X.length + Y.length ≤ K → Below B W0 w → IB w g (P ++ X ++ Y ++ Q) tl → Srt C X → Srt C Y → Sep X Y → (∀ u ∈ X ++ Y, 0 ≤ u ∧ u < n0) → n = P.length + X.length + Y.length + Q.length → 1 ≤ X.length → 1 ≤ Y.length →
    a = P.length → m = P.length + X.length → b = P.length + X.length + Y.length → Calls Tryd.prog 30 #[.slice (some ⟨g, 0, none⟩) n c, .int .i64 a, .int .i64 m, .int .i64 b, fv cv] w (MrgP C w g P X Y Q tl)
/-- Where the search stands. -/
structure Ss (C : Int → Int → Int) (X Y : List Int) (p M S s0 r0 s r : Nat) : Prop where
  s1 : s0 ≤ s
  sr : s ≤ r
  r1 : r ≤ r0
  lo : s = s0 ∨ ¬ C (Y.getD (S - s - M) 0) (X.getD (s - 1 - p) 0) < 0
  hi : r = r0 ∨ C (Y.getD (S - 1 - r - M) 0) (X.getD (r - p) 0) < 0

attribute [local irreducible] IB LT Srt MrgP
set_option maxRecDepth 20000 in
set_option maxHeartbeats 4000000 in
theorem sym_gen {C : Int → Int → Int} {W0 : World} {B : Nat} {cv : Value} {n0 : Int} (hC : Cmp C) (hcmp : CmpOk W0 B cv C n0) (g c n : Nat) (tl : List Value) (hBg : B ≤ g) (hn4 : n ≤ 4096) (K : Nat) (ih : SymOk C W0 B cv n0 g c n tl K) (P X Y Q : List Int) (a m b : Int) (w : World) (hK : X.length + Y.length ≤ K + 1)
    (hW : Below B W0 w) (hb : IB w g (P ++ X ++ Y ++ Q) tl) (hX : Srt C X) (hY : Srt C Y) (hS : Sep X Y) (hin : ∀ u ∈ X ++ Y, 0 ≤ u ∧ u < n0) (hn : n = P.length + X.length + Y.length + Q.length) (hX2 : 2 ≤ X.length) (hY2 : 2 ≤ Y.length)
    (ha : a = P.length) (hm : m = P.length + X.length) (hbb : b = P.length + X.length + Y.length) :
    Calls Tryd.prog 30 #[.slice (some ⟨g, 0, none⟩) n c, .int .i64 a, .int .i64 m, .int .i64 b, fv cv] w (MrgP C w g P X Y Q tl) := by
  obtain ⟨p, hp⟩ : ∃ p, p = P.length := ⟨_, rfl⟩
  obtain ⟨M, hM⟩ : ∃ M, M = P.length + X.length := ⟨_, rfl⟩
  obtain ⟨E, hE⟩ : ∃ E, E = P.length + X.length + Y.length := ⟨_, rfl⟩
  obtain rfl : a = (p : Int) := by omega
  obtain rfl : m = (M : Int) := by omega
  obtain rfl : b = (E : Int) := by omega
  obtain ⟨D, hD⟩ : ∃ D, D = (p + E) / 2 := ⟨_, rfl⟩
  obtain ⟨S, hSS⟩ : ∃ S, S = D + M := ⟨_, rfl⟩
  have HC := hide hC
  have HCM := hide hcmp
  have HIH := hide ih
  have HW := hide hW
  have HX := hide hX
  have HY := hide hY
  have HSP := hide hS
  have HIN := hide hin
  have HP := hide hp
  have HLN := hide hn
  have HB := hide hb
  have HNN : Hid (M = p + X.length ∧ E = M + Y.length) := hide (by omega)
  have HKK := hide hK
  have HGL : Hid (B ≤ w.heap.size) := hide (Nat.le_of_lt (Nat.lt_of_le_of_lt hBg hb.lt))
  have hEn : E ≤ n := by omega
  have hpM : p + 2 ≤ M := by omega
  have hME : M + 2 ≤ E := by omega
  have hD1 : p + E ≤ 2 * D + 1 := by omega
  have hD2 : 2 * D ≤ p + E := by omega
  have HSS := hide hSS
  have t0 : ((M : Int) - (p : Int) == 1) = false := by simp; omega
  have t1 : ((E : Int) - (M : Int) == 1) = false := by simp; omega
  have qD : ((p : Int) + (E : Int)) / 2 = (D : Int) := by omega
  have qS : (D : Int) + (M : Int) = (S : Int) := by omega
  have hSb : S ≤ 2 * n := by omega
  have hSM : M ≤ S := by omega
  clear hC hcmp ih hW hb hX hY hS hin hn ha hm hbb hp hM hE hD hSS hK hX2 hY2
  unfold fv
  go_enter Tryd.func30, Tryd.ntmps30
  go_upto_if 140 with (fail)
  go_cut [20, 21] (fun vs vr wx => ∃ s0 r0 : Nat, vs = .int .i64 s0 ∧ vr = .int .i64 r0 ∧ w = wx ∧ p ≤ s0 ∧ s0 ≤ r0 ∧ r0 ≤ M ∧ S ≤ E + s0 ∧ M + r0 ≤ S ∧ (s0 = p ∨ S = E + s0) ∧ (r0 = M ∨ S = M + r0))
  case first =>
    by_cases hMD : D < M
    · have d1 : decide (D < M) = true := by simpa using hMD
      have d1' : decide ((M : Int) > (D : Int)) = true := by simp; omega
      go_wp2_with fail
      go_meet
      have hSS := HSS.out
      exact ⟨S - E, D, by rw [show ((S - E : Nat) : Int) = (S : Int) - (E : Int) from by omega], rfl, rfl, by omega, by omega, by omega, by omega, by omega, by omega, by omega⟩
    · have d1 : decide (D < M) = false := by simpa using hMD
      have d1' : decide ((M : Int) > (D : Int)) = false := by simp; omega
      go_wp2_with fail
      go_meet
      have hSS := HSS.out
      exact ⟨p, M, rfl, rfl, rfl, by omega, by omega, by omega, by omega, by omega, by omega, by omega⟩
  case rest =>
    obtain ⟨s0, r0, rfl, rfl, rfl, k1, k2, k3, k4, k5, k6, k7⟩ := hcut
    have k1' : 1 ≤ S := by omega
    go_wp2_with fail
    go_loopw [20, 21] (fun i j wr => ∃ s r : Nat, i = .int .i64 s ∧ j = .int .i64 r ∧ Hid (Ss C X Y p M S s0 r0 s r) ∧ s0 ≤ s ∧ s ≤ r ∧ r ≤ r0 ∧ Hid (w.grownBy wr (some g)) ∧ Hid (IB wr g (P ++ X ++ Y ++ Q) tl)) (fun i j _ => (intOf j).toNat - (intOf i).toNat)
    case atStart => exact ⟨s0, r0, rfl, rfl, hide ⟨by omega, by omega, by omega, .inl rfl, .inl rfl⟩, by omega, by omega, by omega, hide (gr_refl _ _), HB⟩
    case round =>
      obtain ⟨s, r, rfl, rfl, HI, hs0, hsr, hr0, HG, HK⟩ := hrel
      by_cases hlt : s < r
      · have e1 : decide (s < r) = true := by simpa using hlt
        have e1' : decide ((s : Int) < (r : Int)) = true := by simp; omega
        obtain ⟨H, hH⟩ : ∃ H, H = (s + r) / 2 := ⟨_, rfl⟩
        have qH : ((s : Int) + (r : Int)) / 2 = (H : Int) := by omega
        have hsH : s ≤ H := by omega
        have hHr : H < r := by omega
        obtain ⟨R, hR⟩ : ∃ R, R = S - 1 - H := ⟨_, rfl⟩
        have HRR := hide hR
        have hRM : M ≤ R := by omega
        have hRE : R < E := by omega
        obtain ⟨x, hx⟩ : ∃ x, x = X.getD (H - p) 0 := ⟨_, rfl⟩
        obtain ⟨y, hy⟩ : ∃ y, y = Y.getD (R - M) 0 := ⟨_, rfl⟩
        have HXX := hide hx
        have HYY := hide hy
        have hHl : H - p < X.length := by have := HNN.out; omega
        have hRl : R - M < Y.length := by have := HNN.out; omega
        have HXM : Hid (x ∈ X) := hide (by rw [hx]; exact getD_mem _ _ hHl)
        have HYM : Hid (y ∈ Y) := hide (by rw [hy]; exact getD_mem _ _ hRl)
        have HXB := hide (HIN.out x (List.mem_append.2 (.inl HXM.out)))
        have HYB := hide (HIN.out y (List.mem_append.2 (.inr HYM.out)))
        have HTOT : Hid ((P ++ X ++ Y ++ Q).length = n) := hide (by simp only [List.length_append]; have := HLN.out; omega)
        have c2 : wr.cell? ⟨g, H, none⟩ = some (.int .i64 x) := by
          have h := HK.out.at_ (i := P.length + (H - p)) (by rw [HTOT.out]; have := HP.out; omega)
          rw [List.append_assoc P, List.append_assoc P, getD_app2, List.append_assoc X, getD_app1 _ _ _ hHl, ← hx] at h
          rw [show H = P.length + (H - p) from by have := HP.out; omega]
          exact h
        have c1 : wr.cell? ⟨g, R, none⟩ = some (.int .i64 y) := by
          have h := HK.out.at_ (i := (P ++ X).length + (R - M)) (by rw [HTOT.out]; simp only [List.length_append]; have := HP.out; have := HNN.out; omega)
          rw [List.append_assoc (P ++ X), getD_app2, getD_app1 _ _ _ hRl, ← hy] at h
          rw [show R = (P ++ X).length + (R - M) from by simp only [List.length_append]; have := HP.out; have := HNN.out; omega]
          exact h
        have HCALL : Hid (Calls Tryd.prog 19 #[.int .i64 y, .int .i64 x, cv] wr.drew (CRes wr.drew (C y x))) := hide (HCM.out wr.drew y x (low_gr HW.out (gr_drew HG.out) hBg HGL.out) HYB.out.1 HYB.out.2 HXB.out.1 HXB.out.2)
        have q2 : (0 : Int) ≤ (H : Int) := by omega
        have q3 : (H : Int) < (n : Int) := by omega
        have q4 : (0 : Int) ≤ (R : Int) := by omega
        have q5 : (R : Int) < (n : Int) := by omega
        have qR : (S : Int) - 1 - (H : Int) = (R : Int) := by omega
        have q6 : IntKind.i64.wrap ((S : Int) - 1 - (H : Int)) = (R : Int) := by rw [IntKind.wrap_i64]; omega
        have q7 : IntKind.i64.wrap (R : Int) = (R : Int) := by rw [IntKind.wrap_i64]; omega
        clear hx hy hH hR
        by_cases hcx : C y x < 0
        · as_aux_lemma =>
            have t2 : decide (C y x < 0) = true := by simpa using hcx
            have HI2 : Hid (Ss C X Y p M S s0 r0 s H) := hide ⟨by omega, by omega, by omega, HI.out.lo, .inr (by rw [← HRR.out, ← HYY.out, ← HXX.out]; exact hcx)⟩
            obtain ⟨cyx, hcyx⟩ : ∃ cyx, cyx = C y x := ⟨_, rfl⟩
            rw [← hcyx] at HCALL t2
            clear hcyx hcx
            go_wp2_with fail
            go_region_held3 (fun w' => w'.cell? ⟨g, R, none⟩ = some (.int .i64 y) ∧ w'.cell? ⟨g, H, none⟩ = some (.int .i64 x))
              (first | exact ⟨c1, c2⟩ | exact ⟨c1', c2'⟩)
              (first
                | (go_at_call 19
                   with_reducible refine HCALL.out.mono ?_
                   rintro e w2 ⟨rfl, hb2⟩
                   have HB2 := hide (HK.out.drew.below hb2)
                   have HG2 := hide (gr_trans (gr_drew HG.out) (gr_below hb2))
                   have c1' : w2.cell? ⟨g, R, none⟩ = some (.int .i64 y) := (hb2.cell (p := ⟨g, R, none⟩) HK.out.lt).trans c1
                   have c2' : w2.cell? ⟨g, H, none⟩ = some (.int .i64 x) := (hb2.cell (p := ⟨g, H, none⟩) HK.out.lt).trans c2
                   clear hb2))
            go_wp2_with fail
            go_roundw
            case rel => exact ⟨s, H, rfl, rfl, HI2, by omega, by omega, by omega, HG2, HB2⟩
            case measure => simp [intOf]; omega
        · as_aux_lemma =>
            have t2 : decide (C y x < 0) = false := by simpa using hcx
            have HI2 : Hid (Ss C X Y p M S s0 r0 (H + 1) r) := hide ⟨by omega, by omega, by omega, .inr (by rw [show S - (H + 1) - M = R - M from by have := HRR.out; omega, Nat.add_sub_cancel, ← HYY.out, ← HXX.out]; exact hcx), HI.out.hi⟩
            obtain ⟨cyx, hcyx⟩ : ∃ cyx, cyx = C y x := ⟨_, rfl⟩
            rw [← hcyx] at HCALL t2
            clear hcyx hcx
            go_wp2_with fail
            go_region_held3 (fun w' => w'.cell? ⟨g, R, none⟩ = some (.int .i64 y) ∧ w'.cell? ⟨g, H, none⟩ = some (.int .i64 x))
              (first | exact ⟨c1, c2⟩ | exact ⟨c1', c2'⟩)
              (first
                | (go_at_call 19
                   with_reducible refine HCALL.out.mono ?_
                   rintro e w2 ⟨rfl, hb2⟩
                   have HB2 := hide (HK.out.drew.below hb2)
                   have HG2 := hide (gr_trans (gr_drew HG.out) (gr_below hb2))
                   have c1' : w2.cell? ⟨g, R, none⟩ = some (.int .i64 y) := (hb2.cell (p := ⟨g, R, none⟩) HK.out.lt).trans c1
                   have c2' : w2.cell? ⟨g, H, none⟩ = some (.int .i64 x) := (hb2.cell (p := ⟨g, H, none⟩) HK.out.lt).trans c2
                   clear hb2))
            go_wp2_with fail
            go_roundw
            case rel => exact ⟨H + 1, r, by go_num, rfl, HI2, by omega, by omega, by omega, HG2, HB2⟩
            case measure => simp [intOf]; omega
      · obtain rfl : s = r := by omega
        have e1 : decide (s < s) = false := by simp
        have e1' : decide ((s : Int) < (s : Int)) = false := by simp
        obtain ⟨En, hEn'⟩ : ∃ En, En = S - s := ⟨_, rfl⟩
        have qE : (S : Int) - (s : Int) = (En : Int) := by omega
        have HEN := hide hEn'
        have hsp : p ≤ s := by omega
        have hsM : s ≤ M := by omega
        have hEM : M ≤ En := by omega
        have hEE : En ≤ E := by omega
        have HLT : Hid (∀ u ∈ X.take (s - p) ++ Y.take (En - M), ∀ v ∈ X.drop (s - p) ++ Y.drop (En - M), LT C u v) := hide (by
          have hnn := HNN.out
          refine halves HC.out HX.out HY.out HSP.out (by omega) (by omega) ?_ ?_
          · rcases HI.out.lo with h | h
            · rcases k6 with h6 | h6
              · exact .inl (by omega)
              · exact .inr (.inl (by omega))
            · exact .inr (.inr (by rw [hEn', show s - p - 1 = s - 1 - p from by omega]; exact h))
          · rcases HI.out.hi with h | h
            · rcases k7 with h7 | h7
              · exact .inl (by omega)
              · exact .inr (.inl (by omega))
            · exact .inr (.inr (by rw [hEn', show S - s - M - 1 = S - 1 - s - M from by omega]; exact h)))
        obtain ⟨X1, hX1⟩ : ∃ X1, X1 = X.take (s - p) := ⟨_, rfl⟩
        obtain ⟨X2, hX2⟩ : ∃ X2, X2 = X.drop (s - p) := ⟨_, rfl⟩
        obtain ⟨Y1, hY1⟩ : ∃ Y1, Y1 = Y.take (En - M) := ⟨_, rfl⟩
        obtain ⟨Y2, hY2⟩ : ∃ Y2, Y2 = Y.drop (En - M) := ⟨_, rfl⟩
        have hXe : X = X1 ++ X2 := by rw [hX1, hX2, List.take_append_drop]
        have hYe : Y = Y1 ++ Y2 := by rw [hY1, hY2, List.take_append_drop]
        have HLEN : Hid (X1.length = s - p ∧ X2.length = M - s ∧ Y1.length = En - M ∧ Y2.length = E - En) := hide (by
          have hnn := HNN.out
          rw [hX1, hX2, hY1, hY2, List.length_take, List.length_drop, List.length_take, List.length_drop]
          omega)
        have HDS : Hid (s ≤ D ∧ D + M = En + s) := hide (by have := HSS.out; omega)
        rw [← hX1, ← hX2, ← hY1, ← hY2] at HLT
        have HXE := hide hXe
        have HYE := hide hYe
        have HBX : Hid (IB wr g (P ++ X1 ++ X2 ++ Y1 ++ (Y2 ++ Q)) tl) := hide (by
          have h := HK.out
          rw [hXe, hYe] at h
          simpa using h)
        have HSX : Hid (Srt C (X1 ++ X2)) := hide (hXe ▸ HX.out)
        have HSY : Hid (Srt C (Y1 ++ Y2)) := hide (hYe ▸ HY.out)
        have HSP1 : Hid (Sep X1 Y1 ∧ Sep X2 Y2) := hide (by
          have h := HSP.out
          rw [hXe, hYe] at h
          exact ⟨h.sub (fun u hu => List.mem_append.2 (.inl hu)) (fun u hu => List.mem_append.2 (.inl hu)), h.sub (fun u hu => List.mem_append.2 (.inr hu)) (fun u hu => List.mem_append.2 (.inr hu))⟩)
        have HIN1 : Hid ((∀ u ∈ X1 ++ Y1, 0 ≤ u ∧ u < n0) ∧ (∀ u ∈ X2 ++ Y2, 0 ≤ u ∧ u < n0)) := hide (by
          have h := HIN.out
          rw [hXe, hYe] at h
          exact ⟨fun u hu => h u (by simp only [List.mem_append] at hu ⊢; rcases hu with hu | hu; exact .inl (.inl hu); exact .inr (.inl hu)), fun u hu => h u (by simp only [List.mem_append] at hu ⊢; rcases hu with hu | hu; exact .inl (.inr hu); exact .inr (.inr hu))⟩)
        have HTL : Hid (n = p + (s - p) + (M - s) + (En - M) + (E - En) + Q.length) := hide (by have h1 := HLN.out; have h2 := HNN.out; have h3 := HP.out; omega)
        clear hEn' hX1 hX2 hY1 hY2 hXe hYe k6 k7
        go_upto_region 39 with (fail)
        go_cut [185] (fun v wx => ∃ b1 : Bool, v = .bool b1 ∧ Hid (b1 = true ↔ s < M ∧ M < En) ∧ wr = wx)
        case first =>
          as_aux_lemma =>
            by_cases hsm : s < M
            · have d1 : decide (s < M) = true := by simpa using hsm
              have d1' : decide ((s : Int) < (M : Int)) = true := by simp; omega
              by_cases hme : M < En
              · have d2 : decide (M < En) = true := by simpa using hme
                have d2' : decide ((M : Int) < (En : Int)) = true := by simp; omega
                go_wp2_with fail
                go_meet
                exact ⟨true, rfl, hide ⟨fun _ => ⟨hsm, hme⟩, fun _ => rfl⟩, rfl⟩
              · have d2 : decide (M < En) = false := by simpa using hme
                have d2' : decide ((M : Int) < (En : Int)) = false := by simp; omega
                go_wp2_with fail
                go_meet
                exact ⟨false, rfl, hide ⟨fun h => (by cases h), fun h => absurd h.2 hme⟩, rfl⟩
            · have d1 : decide (s < M) = false := by simpa using hsm
              have d1' : decide ((s : Int) < (M : Int)) = false := by simp; omega
              go_wp2_with fail
              go_meet
              exact ⟨false, rfl, hide ⟨fun h => (by cases h), fun h => absurd h.1 hsm⟩, rfl⟩
        case rest =>
        obtain ⟨b1, rfl, HB1', rfl⟩ := hcut
        go_upto_if 185 with (fail)
        go_cut [24] (fun v wx => v = .int .i64 En ∧ Hid (IB wx g (P ++ X1 ++ Y1 ++ X2 ++ (Y2 ++ Q)) tl) ∧ Hid (w.grownBy wx (some g)))
        case first =>
          as_aux_lemma =>
            by_cases hsm : s < M
            · by_cases hme : M < En
              · have hb1 : b1 = true := HB1'.out.2 ⟨hsm, hme⟩
                subst hb1
                have HRO : Hid (∀ F, Calls Tryd.prog 34 #[.slice (some ⟨g, 0, none⟩) n c, .int .i64 s, .int .i64 M, .int .i64 En, F] wr (RowP wr g (P ++ X1 ++ Y1 ++ X2 ++ (Y2 ++ Q)) tl)) := hide (fun F => by
                  have hl := HLEN.out
                  have hh := HTL.out
                  have hpp := HP.out
                  exact rotate_any g c n (P ++ X1) X2 Y1 (Y2 ++ Q) tl F _ _ _ wr HBX.out (by simp only [List.length_append]; omega) hn4 (by omega) (by omega) (by rw [List.length_append]; omega) (by rw [List.length_append]; omega) (by rw [List.length_append]; omega))
                go_wp2_with fail
                refine (HRO.out _).mono ?_
                rintro e w2 ⟨rfl, hb2, hg2⟩
                have HB2 := hide hb2
                have HG2 := hide (gr_trans HG.out hg2)
                clear hb2 hg2
                go_wp2_with fail
                go_meet
                exact ⟨rfl, HB2, HG2⟩
              · have hb1 : b1 = false := Bool.eq_false_iff.2 (fun h => hme (HB1'.out.1 h).2)
                subst hb1
                have HY1 : Hid (Y1 = []) := hide (List.eq_nil_of_length_eq_zero (by have := HLEN.out; omega))
                have HB2 : Hid (IB wr g (P ++ X1 ++ Y1 ++ X2 ++ (Y2 ++ Q)) tl) := hide (by have h := HBX.out; rw [HY1.out] at h ⊢; simpa using h)
                go_wp2_with fail
                go_meet
                exact ⟨rfl, HB2, HG⟩
            · have hb1 : b1 = false := Bool.eq_false_iff.2 (fun h => hsm (HB1'.out.1 h).1)
              subst hb1
              have HX2 : Hid (X2 = []) := hide (List.eq_nil_of_length_eq_zero (by have := HLEN.out; omega))
              have HB2 : Hid (IB wr g (P ++ X1 ++ Y1 ++ X2 ++ (Y2 ++ Q)) tl) := hide (by have h := HBX.out; rw [HX2.out] at h ⊢; simpa using h)
              go_wp2_with fail
              go_meet
              exact ⟨rfl, HB2, HG⟩
        case rest =>
          clear HK HG HBX HI
          obtain ⟨rfl, HB1, HG1⟩ := hcut
          go_upto_region 41 with (fail)
          go_cut [199] (fun v wx => ∃ b2 : Bool, v = .bool b2 ∧ Hid (b2 = true ↔ p < s ∧ s < D) ∧ wc = wx)
          case first =>
            as_aux_lemma =>
              by_cases hsm : p < s
              · have d1 : decide (p < s) = true := by simpa using hsm
                have d1' : decide ((p : Int) < (s : Int)) = true := by simp; omega
                by_cases hme : s < D
                · have d2 : decide (s < D) = true := by simpa using hme
                  have d2' : decide ((s : Int) < (D : Int)) = true := by simp; omega
                  go_wp2_with fail
                  go_meet
                  exact ⟨true, rfl, hide ⟨fun _ => ⟨hsm, hme⟩, fun _ => rfl⟩, rfl⟩
                · have d2 : decide (s < D) = false := by simpa using hme
                  have d2' : decide ((s : Int) < (D : Int)) = false := by simp; omega
                  go_wp2_with fail
                  go_meet
                  exact ⟨false, rfl, hide ⟨fun h => (by cases h), fun h => absurd h.2 hme⟩, rfl⟩
              · have d1 : decide (p < s) = false := by simpa using hsm
                have d1' : decide ((p : Int) < (s : Int)) = false := by simp; omega
                go_wp2_with fail
                go_meet
                exact ⟨false, rfl, hide ⟨fun h => (by cases h), fun h => absurd h.1 hsm⟩, rfl⟩
          case rest =>
          obtain ⟨b2, rfl, HB2', rfl⟩ := hcut
          go_upto_if 199 with (fail)
          go_cut [24] (fun v wx => v = .int .i64 En ∧ ∃ Z1 : List Int, Hid (Z1.Perm (X1 ++ Y1)) ∧ Hid (Srt C Z1) ∧ Hid (IB wx g (P ++ Z1 ++ X2 ++ (Y2 ++ Q)) tl) ∧ Hid (w.grownBy wx (some g)))
          case first =>
            as_aux_lemma =>
              by_cases hps : p < s
              · by_cases hsD : s < D
                · have hb2 : b2 = true := HB2'.out.2 ⟨hps, hsD⟩
                  subst hb2
                  have HRE := hide (HIH.out P X1 Y1 (X2 ++ (Y2 ++ Q)) p s D wc (by have := HLEN.out; have := HDS.out; have := HKK.out; have := HNN.out; omega) (low_gr HW.out HG1.out hBg HGL.out) (by simpa using HB1.out) HSX.out.left HSY.out.left HSP1.out.1 HIN1.out.1 (by have := HLEN.out; have := HTL.out; have := HP.out; simp only [List.length_append]; omega) (by have := HLEN.out; omega) (by have := HLEN.out; have := HDS.out; omega) (by have := HP.out; omega) (by have := HLEN.out; have := HP.out; omega) (by have := HLEN.out; have := HP.out; have := HDS.out; omega))
                  unfold fv at HRE
                  go_wp2_with fail
                  refine HRE.out.mono ?_
                  intro e w2 hres
                  unfold MrgP at hres
                  obtain ⟨Z1, hz1, hz2, rfl, hz3, hz4⟩ := hres
                  have HZ1 := hide hz1
                  have HZ2 := hide hz2
                  have HB2 : Hid (IB w2 g (P ++ Z1 ++ X2 ++ (Y2 ++ Q)) tl) := hide (by simpa using hz3)
                  have HG2 := hide (gr_trans HG1.out hz4)
                  clear hz1 hz2 hz3 hz4
                  go_wp2_with fail
                  go_meet
                  exact ⟨rfl, Z1, HZ1, HZ2, HB2, HG2⟩
                · have hb2 : b2 = false := Bool.eq_false_iff.2 (fun h => hsD (HB2'.out.1 h).2)
                  subst hb2
                  have HY1 : Hid (Y1 = []) := hide (List.eq_nil_of_length_eq_zero (by have := HLEN.out; have := HDS.out; omega))
                  have HZ2 : Hid (Srt C (X1 ++ Y1)) := hide (by rw [HY1.out, List.append_nil]; exact HSX.out.left)
                  have HB2 : Hid (IB wc g (P ++ (X1 ++ Y1) ++ X2 ++ (Y2 ++ Q)) tl) := hide (by simpa using HB1.out)
                  go_wp2_with fail
                  go_meet
                  exact ⟨rfl, X1 ++ Y1, hide (List.Perm.refl _), HZ2, HB2, HG1⟩
              · have hb2 : b2 = false := Bool.eq_false_iff.2 (fun h => hps (HB2'.out.1 h).1)
                subst hb2
                have HX1 : Hid (X1 = []) := hide (List.eq_nil_of_length_eq_zero (by have := HLEN.out; omega))
                have HZ2 : Hid (Srt C (X1 ++ Y1)) := hide (by rw [HX1.out, List.nil_append]; exact HSY.out.left)
                have HB2 : Hid (IB wc g (P ++ (X1 ++ Y1) ++ X2 ++ (Y2 ++ Q)) tl) := hide (by simpa using HB1.out)
                go_wp2_with fail
                go_meet
                exact ⟨rfl, X1 ++ Y1, hide (List.Perm.refl _), HZ2, HB2, HG1⟩
          case rest =>
            clear HB1 HG1
            obtain ⟨rfl, Z1, HP1, HS1, HB1, HG1⟩ := hcut
            have HFIN : Hid (∀ Z2 : List Int, Z2.Perm (X2 ++ Y2) → Srt C Z2 → (Z1 ++ Z2).Perm (X ++ Y) ∧ Srt C (Z1 ++ Z2)) := hide (fun Z2 h1 h2 => by
              refine ⟨?_, Srt.append HS1.out h2 (fun u hu v hv => HLT.out u (HP1.out.mem_iff.1 hu) v (h1.mem_iff.1 hv))⟩
              rw [HXE.out, HYE.out]
              refine (HP1.out.append h1).trans ?_
              have e1 : X1 ++ Y1 ++ (X2 ++ Y2) = X1 ++ (Y1 ++ X2) ++ Y2 := by simp
              have e2 : X1 ++ X2 ++ (Y1 ++ Y2) = X1 ++ (X2 ++ Y1) ++ Y2 := by simp
              rw [e1, e2]
              exact (List.Perm.append_left X1 List.perm_append_comm).append_right Y2)
            by_cases hDE : D < En
            · as_aux_lemma =>
              have d1 : decide (D < En) = true := by simpa using hDE
              have d1' : decide ((D : Int) < (En : Int)) = true := by simp; omega
              by_cases hEb : En < E
              · have d2 : decide (En < E) = true := by simpa using hEb
                have d2' : decide ((En : Int) < (E : Int)) = true := by simp; omega
                have HZL : Hid (Z1.length = (s - p) + (En - M)) := hide (by rw [HP1.out.length_eq, List.length_append, HLEN.out.1, HLEN.out.2.2.1])
                have HRE := hide (HIH.out (P ++ Z1) X2 Y2 Q D En E wc (by have := HLEN.out; have := HDS.out; have := HKK.out; have := HNN.out; omega) (low_gr HW.out HG1.out hBg HGL.out) (by simpa using HB1.out) HSX.out.right HSY.out.right HSP1.out.2 HIN1.out.2 (by have := HLEN.out; have := HTL.out; have := HP.out; have := HZL.out; simp only [List.length_append]; omega) (by have := HLEN.out; have := HDS.out; omega) (by have := HLEN.out; omega) (by have := HP.out; have := HZL.out; have := HDS.out; rw [List.length_append]; omega) (by have := HLEN.out; have := HP.out; have := HZL.out; have := HDS.out; rw [List.length_append]; omega) (by have := HLEN.out; have := HP.out; have := HDS.out; have := HZL.out; rw [List.length_append]; omega))
                unfold fv at HRE
                go_wp2_with fail
                refine HRE.out.mono ?_
                intro e w2 hres
                unfold MrgP at hres
                obtain ⟨Z2, hz1, hz2, rfl, hz3, hz4⟩ := hres
                have HF := hide (HFIN.out Z2 hz1 hz2)
                have HB2 : Hid (IB w2 g (P ++ (Z1 ++ Z2) ++ Q) tl) := hide (by simpa using hz3)
                have HG2 := hide (gr_trans HG1.out hz4)
                clear hz1 hz2 hz3 hz4
                go_wp2_with fail
                go_end0
                unfold MrgP
                exact ⟨Z1 ++ Z2, HF.out.1, HF.out.2, rfl, HB2.out, HG2.out⟩
              · have d2 : decide (En < E) = false := by simpa using hEb
                have d2' : decide ((En : Int) < (E : Int)) = false := by simp; omega
                have HY2 : Hid (Y2 = []) := hide (List.eq_nil_of_length_eq_zero (by have := HLEN.out; omega))
                have HF := hide (HFIN.out (X2 ++ Y2) (List.Perm.refl _) (by rw [HY2.out, List.append_nil]; exact HSX.out.right))
                have HB2 : Hid (IB wc g (P ++ (Z1 ++ (X2 ++ Y2)) ++ Q) tl) := hide (by simpa using HB1.out)
                go_wp2_with fail
                go_end0
                unfold MrgP
                exact ⟨Z1 ++ (X2 ++ Y2), HF.out.1, HF.out.2, rfl, HB2.out, HG1.out⟩
            · have d1 : decide (D < En) = false := by simpa using hDE
              have d1' : decide ((D : Int) < (En : Int)) = false := by simp; omega
              have HX2 : Hid (X2 = []) := hide (List.eq_nil_of_length_eq_zero (by have := HLEN.out; have := HDS.out; omega))
              have HF := hide (HFIN.out (X2 ++ Y2) (List.Perm.refl _) (by rw [HX2.out, List.nil_append]; exact HSY.out.right))
              have HB2 : Hid (IB wc g (P ++ (Z1 ++ (X2 ++ Y2)) ++ Q) tl) := hide (by simpa using HB1.out)
              go_wp2_with fail
              go_end0
              unfold MrgP
              exact ⟨Z1 ++ (X2 ++ Y2), HF.out.1, HF.out.2, rfl, HB2.out, HG1.out⟩

/-- symMerge at every size. -/
theorem sym_any {C : Int → Int → Int} {W0 : World} {B : Nat} {cv : Value} {n0 : Int} (hC : Cmp C) (hcmp : CmpOk W0 B cv C n0) (g c n : Nat) (tl : List Value) (hBg : B ≤ g) (hn4 : n ≤ 4096) (K : Nat) : SymOk C W0 B cv n0 g c n tl K := by
  induction K with
  | zero => intro P X Y Q a m b w hK hW hb hX hY hS hin hn h1 h2 ha hm hbb; omega
  | succ K ih =>
    intro P X Y Q a m b w hK hW hb hX hY hS hin hn h1 h2 ha hm hbb
    by_cases hx : X.length = 1
    · obtain ⟨x, rfl⟩ := List.length_eq_one_iff.1 hx
      rw [List.length_singleton] at hn hm hbb
      exact sym_one hC hcmp g c n P Y Q x tl a m b w hW hBg hb hY hS (hin x (by simp)) (fun u hu => hin u (List.mem_append.2 (.inr hu))) hn hn4 ha hm hbb
    · by_cases hy : Y.length = 1
      · obtain ⟨y, rfl⟩ := List.length_eq_one_iff.1 hy
        rw [List.length_singleton] at hn hbb
        exact sym_two hC hcmp g c n P X Q y tl a m b w hW hBg hb hX (by omega) hS (hin y (by simp)) (fun u hu => hin u (List.mem_append.2 (.inl hu))) hn hn4 ha hm hbb
      · exact sym_gen hC hcmp g c n tl hBg hn4 K ih P X Y Q a m b w hK hW hb hX hY hS hin hn (by omega) (by omega) ha hm hbb
end Go.Proofs.YtndiionpijjdbaaDoor.Stab
