/- The walk of granaryref1.LevelOf. -/
import Derived.Test.YtndiionpijjdbaaDoorRefSw
set_option linter.unusedVariables false
namespace Go.Proofs.YtndiionpijjdbaaDoor.SwW
open Go.RowKit I64 Stab

/-- Nobody of the first k is worn less, nor as much and earlier. -/
def lstP (S : Nat → Blk) (i k : Nat) : Prop := ∀ q, q < k → (S q).u = true → ¬ ((S q).wr < (S i).wr ∨ ((S q).wr = (S i).wr ∧ q < i))
/-- Some of the first k is worn much more. -/
def farP (S : Nat → Blk) (gap : Int) (i k : Nat) : Prop := ∃ q, q < k ∧ gap < (S q).wr - (S i).wr
theorem lstP_succ {S : Nat → Blk} {i k : Nat} : lstP S i (k + 1) ↔ lstP S i k ∧ ((S k).u = true → ¬ ((S k).wr < (S i).wr ∨ ((S k).wr = (S i).wr ∧ k < i))) := by
  unfold lstP
  constructor
  · exact fun h => ⟨fun q hq => h q (by omega), h k (by omega)⟩
  · rintro ⟨h1, h2⟩ q hq
    rcases Nat.lt_or_ge q k with h | h
    · exact h1 q h
    · rw [show q = k from by omega]; exact h2
theorem farP_succ {S : Nat → Blk} {gap : Int} {i k : Nat} : farP S gap i (k + 1) ↔ farP S gap i k ∨ gap < (S k).wr - (S i).wr := by
  unfold farP
  constructor
  · rintro ⟨q, hq, h⟩
    rcases Nat.lt_or_ge q k with h' | h'
    · exact .inl ⟨q, h', h⟩
    · right; rw [show k = q from by omega]; exact h
  · rintro (⟨q, hq, h⟩ | h)
    · exact ⟨q, by omega, h⟩
    · exact ⟨k, by omega, h⟩
/-- t tells p. -/
def Tells (t : Bool) (p : Prop) : Prop := t = true ↔ p
/-- What LevelOf says. -/
def LvO (S : Nat → Blk) (n : Nat) (gap r : Int) : Prop :=
  (∃ i, i < n ∧ (S i).u = true ∧ lstP S i n ∧ farP S gap i n ∧ r = i) ∨ (r = -1 ∧ ∀ i, i < n → (S i).u = true → lstP S i n → ¬ farP S gap i n)
theorem leastF_law (S : Nat → Blk) (k : Nat) : (leastF S k < 0 ∧ ∀ i, i < k → (S i).u = false) ∨ (∃ i : Nat, leastF S k = i ∧ i < k ∧ (S i).u = true ∧ lstP S i k) := by
  induction k with
  | zero => left; exact ⟨by unfold leastF; omega, fun i hi => absurd hi (Nat.not_lt_zero i)⟩
  | succ k ih =>
    unfold leastF
    by_cases hu : (S k).u = true
    · rcases ih with ⟨h1, h2⟩ | ⟨i, h1, h2, h3, h4⟩
      · rw [if_pos ⟨hu, .inl h1⟩]
        right
        refine ⟨k, rfl, by omega, hu, fun q hq hqu => ?_⟩
        by_cases e : q = k
        · subst e; omega
        · rw [h2 q (by omega)] at hqu; cases hqu
      · rw [h1]
        simp only [Int.toNat_natCast]
        by_cases hw : (S k).wr < (S i).wr
        · rw [if_pos ⟨hu, .inr hw⟩]
          right
          refine ⟨k, rfl, by omega, hu, fun q hq hqu => ?_⟩
          by_cases e : q = k
          · subst e; omega
          · have := h4 q (by omega) hqu; omega
        · rw [if_neg (fun h => h.2.elim (by omega) hw)]
          right
          refine ⟨i, rfl, by omega, h3, fun q hq hqu => ?_⟩
          by_cases e : q = k
          · subst e; omega
          · exact h4 q (by omega) hqu
    · rw [if_neg (fun h => hu h.1)]
      rcases ih with ⟨h1, h2⟩ | ⟨i, h1, h2, h3, h4⟩
      · refine .inl ⟨h1, fun i hi => ?_⟩
        by_cases e : i = k
        · subst e; simpa using hu
        · exact h2 i (by omega)
      · refine .inr ⟨i, h1, by omega, h3, fun q hq hqu => ?_⟩
        by_cases e : q = k
        · subst e; exact absurd hqu hu
        · exact h4 q (by omega) hqu
theorem mostF_law (S : Nat → Blk) (k : Nat) (h0 : ∀ i, i < k → 0 ≤ (S i).wr) : (∀ i, i < k → (S i).wr ≤ mostF S k) ∧ (0 < k → ∃ i, i < k ∧ (S i).wr = mostF S k) := by
  induction k with
  | zero => exact ⟨fun i hi => absurd hi (Nat.not_lt_zero i), fun h => absurd h (Nat.lt_irrefl 0)⟩
  | succ k ih =>
    obtain ⟨h1, h2⟩ := ih (fun i hi => h0 i (by omega))
    have hk := h0 k (by omega)
    unfold mostF
    by_cases hlt : mostF S k < (S k).wr
    · rw [if_pos hlt]
      exact ⟨fun i hi => by
        by_cases e : i = k
        · subst e; omega
        · have := h1 i (by omega); omega, fun _ => ⟨k, by omega, rfl⟩⟩
    · rw [if_neg hlt]
      refine ⟨fun i hi => by
        by_cases e : i = k
        · subst e; omega
        · exact h1 i (by omega), fun _ => ?_⟩
      rcases Nat.eq_zero_or_pos k with e | e
      · subst e
        have : mostF S 0 = 0 := by unfold mostF; rfl
        exact ⟨0, by omega, by omega⟩
      · obtain ⟨i, h3, h4⟩ := h2 e
        exact ⟨i, by omega, h4⟩
/-- LevelOf says what Level says. -/
theorem lvO_lev {S : Nat → Blk} {n : Nat} {gap r : Int} (h0 : ∀ i, i < n → 0 ≤ (S i).wr) (h : LvO S n gap r) : (levR S n gap < 0 ∧ r = -1) ∨ (0 ≤ levR S n gap ∧ r = levR S n gap) := by
  obtain ⟨m1, m2⟩ := mostF_law S n h0
  unfold levR
  rcases leastF_law S n with ⟨l1, l2⟩ | ⟨b, l1, l2, l3, l4⟩
  · rw [if_pos (.inl l1)]
    left
    refine ⟨by omega, ?_⟩
    rcases h with ⟨i, hi, hu, -⟩ | ⟨h, -⟩
    · rw [l2 i hi] at hu; cases hu
    · exact h
  · rw [l1]
    simp only [Int.toNat_natCast]
    have huniq : ∀ i, i < n → (S i).u = true → lstP S i n → i = b := fun i hi hu hl => by
      have a1 := hl b l2 l3
      have a2 := l4 i hi hu
      omega
    have hfar : farP S gap b n ↔ gap < mostF S n - (S b).wr := by
      constructor
      · rintro ⟨q, hq, hg⟩
        have := m1 q hq
        omega
      · intro hg
        obtain ⟨q, hq, he⟩ := m2 (by omega)
        exact ⟨q, hq, by omega⟩
    by_cases hg : mostF S n - (S b).wr ≤ gap
    · rw [if_pos (.inr hg)]
      left
      refine ⟨by omega, ?_⟩
      rcases h with ⟨i, hi, hu, hl, hf, -⟩ | ⟨h, -⟩
      · rw [huniq i hi hu hl, hfar] at hf; omega
      · exact h
    · rw [if_neg (fun e => e.elim (by omega) hg)]
      right
      refine ⟨by omega, ?_⟩
      rcases h with ⟨i, hi, hu, hl, hf, e⟩ | ⟨-, h⟩
      · rw [e, huniq i hi hu hl]
      · exact absurd (hfar.2 (by omega)) (h b l2 l3 l4)

set_option maxRecDepth 20000 in
set_option maxHeartbeats 8000000 in
theorem levelOf_any (A : Option Addr) (n c : Nat) (S : Nat → Blk) (T : Nat) (gap : Int) (w : World) (hr : RdB w A n S T) (hn : n ≤ 9223372036854775807) (hb : ∀ i, i < n → 0 ≤ (S i).wr ∧ (S i).wr ≤ 1000000000) :
    Calls Tryd.prog 14 #[.slice A n c, .int .i64 gap] w fun e w' => ∃ r, e = .returned (.int .i64 r) ∧ LvO S n gap r ∧ ∃ d, w' = w.drewN d := by
  have HR := hide hr
  have HB := hide hb
  clear hr hb
  go_enter Tryd.func14, Tryd.ntmps14
  go_wp2_with fail
  go_loopw [5] (fun i wr => ∃ k d : Nat, i = .int .i64 k ∧ k ≤ n ∧ Hid (∀ i, i < k → (S i).u = true → lstP S i n → ¬ farP S gap i n) ∧ wr = w.drewN d) (fun i _ => n - (intOf i).toNat)
  case atStart => exact ⟨0, 0, rfl, by omega, hide (fun j hj => absurd hj (Nat.not_lt_zero j)), rfl⟩
  case round =>
    obtain ⟨i, d, rfl, hi, HK, rfl⟩ := hrel
    by_cases hlt : i < n
    · have e1 : decide (i < n) = true := by simpa using hlt
      have e1' : decide ((i : Int) < (n : Int)) = true := by simp; omega
      have hin : (i : Int) < (n : Int) := by omega
      have hi0 : (0 : Int) ≤ (i : Int) := by omega
      obtain ⟨b, off, rfl, hbT, y0, y1, y2⟩ := HR.out i hlt
      obtain ⟨u0, hu0⟩ : ∃ u0, u0 = (S i).u := ⟨_, rfl⟩
      obtain ⟨v2, hv2⟩ : ∃ v2, v2 = (S i).wr := ⟨_, rfl⟩
      have HU0 := hide hu0
      have HV2 := hide hv2
      have hvb : 0 ≤ v2 ∧ v2 ≤ 1000000000 := by rw [hv2]; exact HB.out i hlt
      rw [← hu0] at y0
      rw [← hv2] at y2
      clear hu0 hv2 y1
      cases u0 with
      | false =>
        have HK2 : Hid (∀ q, q < i + 1 → (S q).u = true → lstP S q n → ¬ farP S gap q n) := hide (fun q hq hu => by
          rcases Nat.lt_or_ge q i with h | h
          · exact HK.out q h hu
          · rw [show q = i from by omega, ← HU0.out] at hu; cases hu)
        go_wp2_with fail
        go_roundw
        case rel => exact ⟨i + 1, d, by go_num, by omega, HK2, rfl⟩
        case measure => simp [intOf]; omega
      | true =>
        go_wp2_with fail
        go_loopw [6, 7, 8] (fun le fa j wr => ∃ (k : Nat) (t f : Bool) (d : Nat), j = .int .i64 k ∧ k ≤ n ∧ le = .bool t ∧ fa = .bool f ∧ Hid (Tells t (lstP S i k)) ∧ Hid (Tells f (farP S gap i k)) ∧ wr = w.drewN d) (fun _ _ j _ => n - (intOf j).toNat)
        case atStart => exact ⟨0, true, false, d, rfl, by omega, rfl, rfl, hide ⟨fun _ q hq => absurd hq (Nat.not_lt_zero q), fun _ => rfl⟩, hide ⟨fun h => by (cases h), fun ⟨q, hq, _⟩ => absurd hq (Nat.not_lt_zero q)⟩, rfl⟩
        case round =>
          obtain ⟨k, t, f, d, rfl, hk, rfl, rfl, HTT, HFF, rfl⟩ := hrel
          by_cases hlt2 : k < n
          · have f1 : decide (k < n) = true := by simpa using hlt2
            have f1' : decide ((k : Int) < (n : Int)) = true := by simp; omega
            have hkn : (k : Int) < (n : Int) := by omega
            have hk0 : (0 : Int) ≤ (k : Int) := by omega
            obtain ⟨b', off', hA, -, z0, z1, z2⟩ := HR.out k hlt2
            injection hA with hA
            injection hA with hA1 hA2
            subst hA1 hA2
            obtain ⟨x0, hx0⟩ : ∃ x0, x0 = (S k).u := ⟨_, rfl⟩
            obtain ⟨x2, hx2⟩ : ∃ x2, x2 = (S k).wr := ⟨_, rfl⟩
            have HX0 := hide hx0
            have HX2 := hide hx2
            have hxb : 0 ≤ x2 ∧ x2 ≤ 1000000000 := by rw [hx2]; exact HB.out k hlt2
            have hwrap : IntKind.i64.wrap (x2 - v2) = x2 - v2 := by
              rw [IntKind.wrap_i64]
              omega
            rw [← hx0] at z0
            rw [← hx2] at z2
            clear hx0 hx2 z1
            cases x0 with
            | false =>
              have HT2 : Hid (Tells t (lstP S i (k + 1))) := hide (by unfold Tells; rw [lstP_succ, ← HX0.out, show (t = true) = _ from propext HTT.out]; exact ⟨fun h => ⟨h, fun h => by (cases h)⟩, fun h => h.1⟩)
              by_cases hf : gap < x2 - v2
              · have p1 : decide (x2 - v2 > gap) = true := decide_eq_true hf
                have p1' : decide (gap < x2 - v2) = true := decide_eq_true hf
                have HF2 : Hid (Tells true (farP S gap i (k + 1))) := hide (by unfold Tells; rw [farP_succ, ← HX2.out, ← HV2.out]; exact ⟨fun _ => .inr hf, fun _ => rfl⟩)
                clear hf
                go_wp2_with fail
                go_quiet (fail)
                go_wp2_with fail
                go_quiet (fail)
                go_wp2_with fail
                go_roundw
                case rel => exact ⟨k + 1, t, true, _, by go_num, by omega, rfl, rfl, HT2, HF2, rfl⟩
                case measure => simp [intOf]; omega
              · have p1 : decide (x2 - v2 > gap) = false := decide_eq_false hf
                have p1' : decide (gap < x2 - v2) = false := decide_eq_false hf
                have HF2 : Hid (Tells f (farP S gap i (k + 1))) := hide (by unfold Tells; rw [farP_succ, ← HX2.out, ← HV2.out, show (f = true) = _ from propext HFF.out]; exact ⟨fun h => .inl h, fun h => h.elim id (fun h => absurd h hf)⟩)
                clear hf
                go_wp2_with fail
                go_quiet (fail)
                go_wp2_with fail
                go_quiet (fail)
                go_wp2_with fail
                go_roundw
                case rel => exact ⟨k + 1, t, f, _, by go_num, by omega, rfl, rfl, HT2, HF2, rfl⟩
                case measure => simp [intOf]; omega
            | true =>
              by_cases h1 : x2 < v2
              · have q1 : decide (x2 < v2) = true := decide_eq_true h1
                have HT2 : Hid (Tells false (lstP S i (k + 1))) := hide (by unfold Tells; rw [lstP_succ, ← HX0.out, ← HX2.out, ← HV2.out]; exact ⟨fun h => by (cases h), fun h => absurd (.inl h1) (h.2 rfl)⟩)
                clear h1
                by_cases hf : gap < x2 - v2
                · have p1 : decide (x2 - v2 > gap) = true := decide_eq_true hf
                  have p1' : decide (gap < x2 - v2) = true := decide_eq_true hf
                  have HF2 : Hid (Tells true (farP S gap i (k + 1))) := hide (by unfold Tells; rw [farP_succ, ← HX2.out, ← HV2.out]; exact ⟨fun _ => .inr hf, fun _ => rfl⟩)
                  clear hf
                  go_wp2_with fail
                  go_quiet (fail)
                  go_wp2_with fail
                  go_quiet (fail)
                  go_wp2_with fail
                  go_roundw
                  case rel => exact ⟨k + 1, false, true, _, by go_num, by omega, rfl, rfl, HT2, HF2, rfl⟩
                  case measure => simp [intOf]; omega
                · have p1 : decide (x2 - v2 > gap) = false := decide_eq_false hf
                  have p1' : decide (gap < x2 - v2) = false := decide_eq_false hf
                  have HF2 : Hid (Tells f (farP S gap i (k + 1))) := hide (by unfold Tells; rw [farP_succ, ← HX2.out, ← HV2.out, show (f = true) = _ from propext HFF.out]; exact ⟨fun h => .inl h, fun h => h.elim id (fun h => absurd h hf)⟩)
                  clear hf
                  go_wp2_with fail
                  go_quiet (fail)
                  go_wp2_with fail
                  go_quiet (fail)
                  go_wp2_with fail
                  go_roundw
                  case rel => exact ⟨k + 1, false, f, _, by go_num, by omega, rfl, rfl, HT2, HF2, rfl⟩
                  case measure => simp [intOf]; omega
              · have q1 : decide (x2 < v2) = false := decide_eq_false h1
                by_cases h2 : x2 = v2
                · have q2 : (x2 == v2) = true := by simpa using h2
                  by_cases h3 : k < i
                  · have q3 : decide ((k : Int) < (i : Int)) = true := by simp; omega
                    have q3' : decide (k < i) = true := by simp; omega
                    have HT2 : Hid (Tells false (lstP S i (k + 1))) := hide (by unfold Tells; rw [lstP_succ, ← HX0.out, ← HX2.out, ← HV2.out]; exact ⟨fun h => by (cases h), fun h => absurd (.inr ⟨h2, h3⟩) (h.2 rfl)⟩)
                    clear h1 h2 h3
                    by_cases hf : gap < x2 - v2
                    · have p1 : decide (x2 - v2 > gap) = true := decide_eq_true hf
                      have p1' : decide (gap < x2 - v2) = true := decide_eq_true hf
                      have HF2 : Hid (Tells true (farP S gap i (k + 1))) := hide (by unfold Tells; rw [farP_succ, ← HX2.out, ← HV2.out]; exact ⟨fun _ => .inr hf, fun _ => rfl⟩)
                      clear hf
                      go_wp2_with fail
                      go_quiet (fail)
                      go_wp2_with fail
                      go_quiet (fail)
                      go_wp2_with fail
                      go_roundw
                      case rel => exact ⟨k + 1, false, true, _, by go_num, by omega, rfl, rfl, HT2, HF2, rfl⟩
                      case measure => simp [intOf]; omega
                    · have p1 : decide (x2 - v2 > gap) = false := decide_eq_false hf
                      have p1' : decide (gap < x2 - v2) = false := decide_eq_false hf
                      have HF2 : Hid (Tells f (farP S gap i (k + 1))) := hide (by unfold Tells; rw [farP_succ, ← HX2.out, ← HV2.out, show (f = true) = _ from propext HFF.out]; exact ⟨fun h => .inl h, fun h => h.elim id (fun h => absurd h hf)⟩)
                      clear hf
                      go_wp2_with fail
                      go_quiet (fail)
                      go_wp2_with fail
                      go_quiet (fail)
                      go_wp2_with fail
                      go_roundw
                      case rel => exact ⟨k + 1, false, f, _, by go_num, by omega, rfl, rfl, HT2, HF2, rfl⟩
                      case measure => simp [intOf]; omega
                  · have q3 : decide ((k : Int) < (i : Int)) = false := by simp; omega
                    have q3' : decide (k < i) = false := by simp; omega
                    have HT2 : Hid (Tells t (lstP S i (k + 1))) := hide (by unfold Tells; rw [lstP_succ, ← HX0.out, ← HX2.out, ← HV2.out, show (t = true) = _ from propext HTT.out]; exact ⟨fun h => ⟨h, fun _ e => e.elim h1 (fun e => h3 e.2)⟩, fun h => h.1⟩)
                    clear h1 h2 h3
                    by_cases hf : gap < x2 - v2
                    · have p1 : decide (x2 - v2 > gap) = true := decide_eq_true hf
                      have p1' : decide (gap < x2 - v2) = true := decide_eq_true hf
                      have HF2 : Hid (Tells true (farP S gap i (k + 1))) := hide (by unfold Tells; rw [farP_succ, ← HX2.out, ← HV2.out]; exact ⟨fun _ => .inr hf, fun _ => rfl⟩)
                      clear hf
                      go_wp2_with fail
                      go_quiet (fail)
                      go_wp2_with fail
                      go_quiet (fail)
                      go_wp2_with fail
                      go_roundw
                      case rel => exact ⟨k + 1, t, true, _, by go_num, by omega, rfl, rfl, HT2, HF2, rfl⟩
                      case measure => simp [intOf]; omega
                    · have p1 : decide (x2 - v2 > gap) = false := decide_eq_false hf
                      have p1' : decide (gap < x2 - v2) = false := decide_eq_false hf
                      have HF2 : Hid (Tells f (farP S gap i (k + 1))) := hide (by unfold Tells; rw [farP_succ, ← HX2.out, ← HV2.out, show (f = true) = _ from propext HFF.out]; exact ⟨fun h => .inl h, fun h => h.elim id (fun h => absurd h hf)⟩)
                      clear hf
                      go_wp2_with fail
                      go_quiet (fail)
                      go_wp2_with fail
                      go_quiet (fail)
                      go_wp2_with fail
                      go_roundw
                      case rel => exact ⟨k + 1, t, f, _, by go_num, by omega, rfl, rfl, HT2, HF2, rfl⟩
                      case measure => simp [intOf]; omega
                · have q2 : (x2 == v2) = false := by simpa using h2
                  have HT2 : Hid (Tells t (lstP S i (k + 1))) := hide (by unfold Tells; rw [lstP_succ, ← HX0.out, ← HX2.out, ← HV2.out, show (t = true) = _ from propext HTT.out]; exact ⟨fun h => ⟨h, fun _ e => e.elim h1 (fun e => h2 e.1)⟩, fun h => h.1⟩)
                  clear h1 h2
                  by_cases hf : gap < x2 - v2
                  · have p1 : decide (x2 - v2 > gap) = true := decide_eq_true hf
                    have p1' : decide (gap < x2 - v2) = true := decide_eq_true hf
                    have HF2 : Hid (Tells true (farP S gap i (k + 1))) := hide (by unfold Tells; rw [farP_succ, ← HX2.out, ← HV2.out]; exact ⟨fun _ => .inr hf, fun _ => rfl⟩)
                    clear hf
                    go_wp2_with fail
                    go_quiet (fail)
                    go_wp2_with fail
                    go_quiet (fail)
                    go_wp2_with fail
                    go_roundw
                    case rel => exact ⟨k + 1, t, true, _, by go_num, by omega, rfl, rfl, HT2, HF2, rfl⟩
                    case measure => simp [intOf]; omega
                  · have p1 : decide (x2 - v2 > gap) = false := decide_eq_false hf
                    have p1' : decide (gap < x2 - v2) = false := decide_eq_false hf
                    have HF2 : Hid (Tells f (farP S gap i (k + 1))) := hide (by unfold Tells; rw [farP_succ, ← HX2.out, ← HV2.out, show (f = true) = _ from propext HFF.out]; exact ⟨fun h => .inl h, fun h => h.elim id (fun h => absurd h hf)⟩)
                    clear hf
                    go_wp2_with fail
                    go_quiet (fail)
                    go_wp2_with fail
                    go_quiet (fail)
                    go_wp2_with fail
                    go_roundw
                    case rel => exact ⟨k + 1, t, f, _, by go_num, by omega, rfl, rfl, HT2, HF2, rfl⟩
                    case measure => simp [intOf]; omega
          · obtain rfl : k = n := by omega
            have f1 : decide (k < k) = false := by simp
            have f1' : decide ((k : Int) < (k : Int)) = false := by simp
            have hno : ¬ (t = true ∧ f = true) → ∀ q, q < i + 1 → (S q).u = true → lstP S q k → ¬ farP S gap q k := fun htf q hq hu hl hf => by
              rcases Nat.lt_or_ge q i with h | h
              · exact HK.out q h hu hl hf
              · obtain rfl : q = i := by omega
                exact htf ⟨HTT.out.2 hl, HFF.out.2 hf⟩
            cases t with
            | true =>
              cases f with
              | true =>
                clear hno
                have HDO : Hid (LvO S k gap i) := hide (.inl ⟨i, hlt, HU0.out.symm, HTT.out.1 rfl, HFF.out.1 rfl, rfl⟩)
                go_wp2_with fail
                go_ret
                exact ⟨i, rfl, HDO.out, d, rfl⟩
              | false =>
                have HNO := hide (hno (fun h => by cases h.2))
                clear hno
                go_wp2_with fail
                go_roundw
                case rel => exact ⟨i + 1, d, by go_num, by omega, HNO, rfl⟩
                case measure => simp [intOf]; omega
            | false =>
              have HNO := hide (hno (fun h => by cases h.1))
              clear hno
              go_wp2_with fail
              go_roundw
              case rel => exact ⟨i + 1, d, by go_num, by omega, HNO, rfl⟩
              case measure => simp [intOf]; omega
    · obtain rfl : i = n := by omega
      have e1 : decide (i < i) = false := by simp
      have e1' : decide ((i : Int) < (i : Int)) = false := by simp
      go_wp2_with fail
      go_ret
      exact ⟨-1, rfl, .inr ⟨rfl, HK.out⟩, d, rfl⟩
end Go.Proofs.YtndiionpijjdbaaDoor.SwW
