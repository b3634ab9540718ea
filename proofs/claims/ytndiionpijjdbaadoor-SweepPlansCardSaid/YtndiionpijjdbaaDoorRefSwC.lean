/- The walk of granaryref1.ChooseOf. -/
import Derived.Test.YtndiionpijjdbaaDoorRefSw
set_option linter.unusedVariables false
namespace Go.Proofs.YtndiionpijjdbaaDoor.SwW
open Go.RowKit I64 Stab

attribute [local irreducible] chooF
set_option maxRecDepth 20000 in
set_option maxHeartbeats 4000000 in
theorem chooseOf_any (A : Option Addr) (n c : Nat) (S : Nat → Blk) (T : Nat) (pages : Int) (w : World) (hr : RdB w A n S T) (hn : n ≤ 9223372036854775807) :
    Calls Tryd.prog 12 #[.slice A n c, .int .i64 pages] w fun e w' => e = .returned (.int .i64 (chooF S pages n)) ∧ ∃ d, w' = w.drewN d := by
  have HR := hide hr
  have HC0 : Hid (chooF S pages 0 = -1) := hide (by unfold chooF; rfl)
  clear hr
  go_enter Tryd.func12, Tryd.ntmps12
  go_wp2_with fail
  go_loopw [5, 6] (fun be i wr => ∃ k d : Nat, i = .int .i64 k ∧ k ≤ n ∧ be = .int .i64 (chooF S pages k) ∧ wr = w.drewN d) (fun _ i _ => n - (intOf i).toNat)
  case atStart => exact ⟨0, 0, rfl, by omega, by rw [HC0.out], rfl⟩
  case round =>
    obtain ⟨k, d, rfl, hk, rfl, rfl⟩ := hrel
    by_cases hlt : k < n
    · have e1 : decide (k < n) = true := by simpa using hlt
      have e1' : decide ((k : Int) < (n : Int)) = true := by simp; omega
      have hki : (k : Int) < (n : Int) := by omega
      have hk0 : (0 : Int) ≤ (k : Int) := by omega
      obtain ⟨b, off, rfl, hbT, z0, z1, z2⟩ := HR.out k hlt
      have hbd := chooF_bound S pages k
      have HST : Hid (chooF S pages (k + 1) = if (S k).u = true ∧ (S k).lv ≠ pages then (if chooF S pages k < 0 ∨ (S k).lv < (S (chooF S pages k).toNat).lv ∨ ((S k).lv = (S (chooF S pages k).toNat).lv ∧ (S k).wr < (S (chooF S pages k).toNat).wr) then (k : Int) else chooF S pages k) else chooF S pages k) := hide (by conv => lhs; unfold chooF)
      obtain ⟨x0, hx0⟩ : ∃ x0, x0 = (S k).u := ⟨_, rfl⟩
      obtain ⟨x1, hx1⟩ : ∃ x1, x1 = (S k).lv := ⟨_, rfl⟩
      obtain ⟨x2, hx2⟩ : ∃ x2, x2 = (S k).wr := ⟨_, rfl⟩
      rw [← hx0] at z0 HST
      rw [← hx1] at z1 HST
      rw [← hx2] at z2 HST
      obtain ⟨be, hbe⟩ : ∃ be, be = chooF S pages k := ⟨_, rfl⟩
      rw [← hbe] at hbd HST ⊢
      clear hx0 hx1 hx2 hbe
      cases x0 with
      | false =>
        have HN : Hid (chooF S pages (k + 1) = be) := hide (by rw [HST.out, if_neg (fun h => by cases h.1)])
        go_wp2_with fail
        go_roundw
        case rel => exact ⟨k + 1, d, by go_num, by omega, by rw [HN.out], rfl⟩
        case measure => simp [intOf]; omega
      | true =>
        by_cases hp : x1 = pages
        · have q1 : (x1 == pages) = true := by simpa using hp
          have HN : Hid (chooF S pages (k + 1) = be) := hide (by rw [HST.out, if_neg (fun h => h.2 hp)])
          clear hp
          go_wp2_with fail
          go_roundw
          case rel => exact ⟨k + 1, d, by go_num, by omega, by rw [HN.out], rfl⟩
          case measure => simp [intOf]; omega
        · have q1 : (x1 == pages) = false := by simpa using hp
          rw [if_pos (show true = true ∧ x1 ≠ pages from ⟨rfl, hp⟩)] at HST
          clear hp
          by_cases hb0 : be < 0
          · have q2 : decide (be < 0) = true := decide_eq_true hb0
            have HN : Hid (chooF S pages (k + 1) = k) := hide (by rw [HST.out, if_pos (.inl hb0)])
            clear hb0
            go_wp2_with fail
            go_quiet (fail)
            go_wp2_with fail
            go_roundw
            case rel => exact ⟨k + 1, _, by go_num, by omega, by rw [HN.out], rfl⟩
            case measure => simp [intOf]; omega
          · have q2 : decide (be < 0) = false := decide_eq_false hb0
            obtain ⟨B, rfl⟩ : ∃ B : Nat, be = B := ⟨be.toNat, by omega⟩
            have hBn : (B : Int) < (n : Int) := by omega
            have hB0 : (0 : Int) ≤ (B : Int) := by omega
            obtain ⟨b', off', hA, -, -, y1, y2⟩ := HR.out B (by omega)
            injection hA with hA
            injection hA with hA1 hA2
            subst hA1 hA2
            rw [Int.toNat_natCast] at HST
            obtain ⟨v1, hv1⟩ : ∃ v1, v1 = (S B).lv := ⟨_, rfl⟩
            obtain ⟨v2, hv2⟩ : ∃ v2, v2 = (S B).wr := ⟨_, rfl⟩
            rw [← hv1] at y1 HST
            rw [← hv2] at y2 HST
            clear hv1 hv2
            by_cases h1 : x1 < v1
            · have q3 : decide (x1 < v1) = true := decide_eq_true h1
              have HN : Hid (chooF S pages (k + 1) = k) := hide (by rw [HST.out, if_pos (.inr (.inl h1))])
              clear h1 hb0
              go_wp2_with fail
              go_quiet (fail)
              go_wp2_with fail
              go_roundw
              case rel => exact ⟨k + 1, _, by go_num, by omega, by rw [HN.out], rfl⟩
              case measure => simp [intOf]; omega
            · have q3 : decide (x1 < v1) = false := decide_eq_false h1
              by_cases h2 : x1 = v1
              · have q4 : (x1 == v1) = true := by simpa using h2
                by_cases h3 : x2 < v2
                · have q5 : decide (x2 < v2) = true := decide_eq_true h3
                  have HN : Hid (chooF S pages (k + 1) = k) := hide (by rw [HST.out, if_pos (.inr (.inr ⟨h2, h3⟩))])
                  clear h1 h2 h3 hb0
                  go_wp2_with fail
                  go_quiet (fail)
                  go_wp2_with fail
                  go_roundw
                  case rel => exact ⟨k + 1, _, by go_num, by omega, by rw [HN.out], rfl⟩
                  case measure => simp [intOf]; omega
                · have q5 : decide (x2 < v2) = false := decide_eq_false h3
                  have HN : Hid (chooF S pages (k + 1) = B) := hide (by rw [HST.out, if_neg (fun h => h.elim hb0 fun h => h.elim h1 fun h => h3 h.2)])
                  clear h1 h2 h3 hb0
                  go_wp2_with fail
                  go_quiet (fail)
                  go_wp2_with fail
                  go_roundw
                  case rel => exact ⟨k + 1, _, by go_num, by omega, by rw [HN.out], rfl⟩
                  case measure => simp [intOf]; omega
              · have q4 : (x1 == v1) = false := by simpa using h2
                have HN : Hid (chooF S pages (k + 1) = B) := hide (by rw [HST.out, if_neg (fun h => h.elim hb0 fun h => h.elim h1 fun h => h2 h.1)])
                clear h1 h2 hb0
                go_wp2_with fail
                go_quiet (fail)
                go_wp2_with fail
                go_roundw
                case rel => exact ⟨k + 1, _, by go_num, by omega, by rw [HN.out], rfl⟩
                case measure => simp [intOf]; omega
    · obtain rfl : k = n := by omega
      have e1 : decide (k < k) = false := by simp
      have e1' : decide ((k : Int) < (k : Int)) = false := by simp
      go_wp2_with fail
      go_ret
      exact ⟨rfl, d, rfl⟩
end Go.Proofs.YtndiionpijjdbaaDoor.SwW
