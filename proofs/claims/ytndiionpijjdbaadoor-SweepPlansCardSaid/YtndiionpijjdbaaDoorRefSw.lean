/- The walks of granaryref1.BlocksFault, ChooseOf. -/
import Derived.Test.YtndiionpijjdbaaDoorSweepX
import Derived.Deep.QuietTactic
import Derived.BigQuiet
set_option linter.unusedVariables false
namespace Go.Proofs.YtndiionpijjdbaaDoor.SwW
open Go.RowKit I64 Stab

attribute [local irreducible] flt okB
set_option maxRecDepth 20000 in
set_option maxHeartbeats 2000000 in
theorem bfault_any (A : Option Addr) (n c : Nat) (S : Nat → Blk) (T : Nat) (pages : Int) (more : Bool) (w : World) (hr : RdB w A n S T) (hn : n ≤ 9223372036854775807) :
    Calls Tryd.prog 7 #[.slice A n c, .int .i64 pages, .bool more] w fun e w' => e = .returned (.int .i64 (flt S n pages more)) ∧ w = w' := by
  by_cases h1 : 64 < n
  · have HF : Hid (flt S n pages more = 3) := hide (by unfold flt; rw [if_pos h1])
    have d1 : decide ((n : Int) > 64) = true := by simp; omega
    have d1' : decide (64 < n) = true := by simpa using h1
    clear hr h1
    go_enter Tryd.func7, Tryd.ntmps7
    go_wp2_with fail
    go_ret
    exact ⟨by rw [HF.out]; rfl, rfl⟩
  have d1 : decide ((n : Int) > 64) = false := by simp; omega
  have d1' : decide (64 < n) = false := by simpa using h1
  by_cases h2 : pages < 1 ∨ 4096 < pages ∨ more = true
  · have HF : Hid (flt S n pages more = 1) := hide (by unfold flt; rw [if_neg h1, if_pos h2])
    by_cases k1 : pages < 1
    · have d2 : decide (pages < 1) = true := decide_eq_true k1
      clear hr h1 h2 k1
      go_enter Tryd.func7, Tryd.ntmps7
      go_wp2_with fail
      go_ret
      exact ⟨by rw [HF.out]; rfl, rfl⟩
    have d2 : decide (pages < 1) = false := decide_eq_false k1
    by_cases k2 : 4096 < pages
    · have d3 : decide (pages > 4096) = true := decide_eq_true k2
      clear hr h1 h2 k1 k2
      go_enter Tryd.func7, Tryd.ntmps7
      go_wp2_with fail
      go_ret
      exact ⟨by rw [HF.out]; rfl, rfl⟩
    have d3 : decide (pages > 4096) = false := decide_eq_false k2
    obtain rfl : more = true := by rcases h2 with h | h | h; exact absurd h k1; exact absurd h k2; exact h
    clear hr h1 h2 k1 k2
    go_enter Tryd.func7, Tryd.ntmps7
    go_wp2_with fail
    go_ret
    exact ⟨by rw [HF.out]; rfl, rfl⟩
  have hm : more = false := by cases more; rfl; exact absurd (.inr (.inr rfl)) h2
  subst hm
  have d2 : decide (pages < 1) = false := decide_eq_false (by omega)
  have d3 : decide (pages > 4096) = false := decide_eq_false (by omega)
  have HR := hide hr
  have HF2 : Hid (∀ k, k < n → ¬ okB pages (S k) → flt S n pages false = 1) := hide (fun k hk hb => by unfold flt; rw [if_neg h1, if_neg h2, if_neg (fun h => hb (h k hk))])
  have HF0 : Hid ((∀ i, i < n → okB pages (S i)) → flt S n pages false = 0) := hide (fun h => by unfold flt; rw [if_neg h1, if_neg h2, if_pos h])
  clear hr h2
  go_enter Tryd.func7, Tryd.ntmps7
  go_wp2_with fail
  go_loopw [7] (fun i wr => ∃ k : Nat, i = .int .i64 k ∧ k ≤ n ∧ Hid (∀ j, j < k → okB pages (S j)) ∧ wr = w) (fun i _ => n - (intOf i).toNat)
  case atStart => exact ⟨0, rfl, by omega, hide (fun j hj => absurd hj (Nat.not_lt_zero j)), rfl⟩
  case round =>
    obtain ⟨k, rfl, hk, HK, hw⟩ := hrel
    obtain rfl := hw.symm
    by_cases hlt : k < n
    · have e1 : decide (k < n) = true := by simpa using hlt
      have e1' : decide ((k : Int) < (n : Int)) = true := by simp; omega
      have hki : (k : Int) < (n : Int) := by omega
      have hk0 : (0 : Int) ≤ (k : Int) := by omega
      obtain ⟨b, off, rfl, hbT, z0, z1, z2⟩ := HR.out k hlt
      obtain ⟨x, hx⟩ : ∃ x, x = S k := ⟨_, rfl⟩
      have HX := hide hx
      rw [← hx] at z0 z1 z2
      have HBAD : Hid (¬ okB pages x → flt S n pages false = 1) := hide (fun h => HF2.out k hlt (by rw [← hx]; exact h))
      clear hx
      by_cases b1 : x.lv < 0
      · have q1 : decide (x.lv < 0) = true := decide_eq_true b1
        have HE := hide (HBAD.out (by unfold okB; omega))
        clear b1
        go_wp2_with fail
        go_ret
        exact ⟨by rw [HE.out]; rfl, rfl⟩
      have q1 : decide (x.lv < 0) = false := decide_eq_false b1
      by_cases b2 : pages < x.lv
      · have q2 : decide (x.lv > pages) = true := decide_eq_true b2
        have HE := hide (HBAD.out (by unfold okB; omega))
        clear b1 b2
        go_wp2_with fail
        go_ret
        exact ⟨by rw [HE.out]; rfl, rfl⟩
      have q2 : decide (x.lv > pages) = false := decide_eq_false b2
      by_cases b3 : x.wr < 0
      · have q3 : decide (x.wr < 0) = true := decide_eq_true b3
        have HE := hide (HBAD.out (by unfold okB; omega))
        clear b1 b2 b3
        go_wp2_with fail
        go_ret
        exact ⟨by rw [HE.out]; rfl, rfl⟩
      have q3 : decide (x.wr < 0) = false := decide_eq_false b3
      by_cases b4 : 1000000000 < x.wr
      · have q4 : decide (x.wr > 1000000000) = true := decide_eq_true b4
        have HE := hide (HBAD.out (by unfold okB; omega))
        clear b1 b2 b3 b4
        go_wp2_with fail
        go_ret
        exact ⟨by rw [HE.out]; rfl, rfl⟩
      have q4 : decide (x.wr > 1000000000) = false := decide_eq_false b4
      have HK2 : Hid (∀ j, j < k + 1 → okB pages (S j)) := hide (fun j hj => by
        rcases Nat.lt_or_ge j k with h | h
        · exact HK.out j h
        · rw [show j = k from by omega, ← HX.out]; unfold okB; omega)
      clear b1 b2 b3 b4
      go_wp2_with fail
      go_roundw
      case rel => exact ⟨k + 1, by go_num, by omega, HK2, trivial⟩
      case measure => simp [intOf]; omega
    · obtain rfl : k = n := by omega
      have e1 : decide (k < k) = false := by simp
      have e1' : decide ((k : Int) < (k : Int)) = false := by simp
      have HE := hide (HF0.out HK.out)
      go_wp2_with fail
      go_ret
      exact ⟨by rw [HE.out]; rfl, rfl⟩

/-- What ChooseOf takes of the first k. -/
def chooF (S : Nat → Blk) (pages : Int) : Nat → Int
  | 0 => -1
  | k + 1 => if (S k).u = true ∧ (S k).lv ≠ pages then (if chooF S pages k < 0 ∨ (S k).lv < (S (chooF S pages k).toNat).lv ∨ ((S k).lv = (S (chooF S pages k).toNat).lv ∧ (S k).wr < (S (chooF S pages k).toNat).wr) then (k : Int) else chooF S pages k) else chooF S pages k
theorem chooF_bound (S : Nat → Blk) (pages : Int) (k : Nat) : -1 ≤ chooF S pages k ∧ chooF S pages k < k := by
  induction k with
  | zero => unfold chooF; omega
  | succ k ih =>
    unfold chooF
    split
    · split <;> omega
    · omega
theorem ckey_LT {S : Nat → Blk} {i j : Nat} : Stab.LT (ckey S) i j ↔ (S i).lv < (S j).lv ∨ ((S i).lv = (S j).lv ∧ ((S i).wr < (S j).wr ∨ ((S i).wr = (S j).wr ∧ i < j))) := by
  unfold Stab.LT ckey cmpv
  simp only [Int.toNat_natCast]
  by_cases h1 : (S i).lv < (S j).lv
  · simp [h1]
  · by_cases h2 : (S j).lv < (S i).lv
    · simp [h1, h2]; omega
    · have h0 : (S i).lv = (S j).lv := by omega
      by_cases h3 : (S i).wr < (S j).wr
      · simp [h0, h3]
      · by_cases h4 : (S j).wr < (S i).wr
        · simp [h0, h3, h4]; omega
        · have h5 : (S i).wr = (S j).wr := by omega
          simp [h0, h5]
theorem chooF_first {S : Nat → Blk} {pages : Int} {n : Nat} (hok : ∀ i, i < n → (S i).lv ≤ pages) (k : Nat) (hk : k ≤ n) :
    (chooF S pages k < 0 ∧ elig S pages k = []) ∨ (0 ≤ chooF S pages k ∧ First S pages k (chooF S pages k)) := by
  induction k with
  | zero => left; exact ⟨by unfold chooF; omega, rfl⟩
  | succ k ih =>
    have hkk := hok k (by omega)
    have hb := chooF_bound S pages k
    rw [elig_succ]
    unfold chooF
    by_cases hu : (S k).u = true ∧ (S k).lv ≠ pages
    · rw [if_pos hu]
      have hin : ((S k).u && decide ((S k).lv < pages)) = true := by rw [hu.1, decide_eq_true (by have := hu.2; omega)]; rfl
      have hmem : (k : Int) ∈ elig S pages (k + 1) := by rw [elig_succ, if_pos hin]; simp
      right
      rcases ih (by omega) with ⟨h1, h2⟩ | ⟨h1, h2, h3⟩
      · rw [if_pos (.inl h1)]
        refine ⟨by omega, hmem, fun y hy hne => ?_⟩
        rw [elig_succ, if_pos hin, h2] at hy
        simp at hy
        exact absurd hy hne
      · obtain ⟨b, hbb, hbk, -⟩ := elig_mem.1 h2
        rw [hbb] at h3 h1 ⊢
        simp only [Int.toNat_natCast]
        by_cases hlt : (S k).lv < (S b).lv ∨ ((S k).lv = (S b).lv ∧ (S k).wr < (S b).wr)
        · rw [if_pos (.inr hlt)]
          refine ⟨by omega, hmem, fun y hy hne => ?_⟩
          rw [elig_succ, if_pos hin] at hy
          rcases List.mem_append.1 hy with hy | hy
          · obtain ⟨j, rfl, hj, -⟩ := elig_mem.1 hy
            by_cases e : (j : Int) = b
            · have : j = b := by omega
              subst this
              rw [ckey_LT]; omega
            · have := h3 _ hy e
              rw [ckey_LT] at this ⊢; omega
          · simp at hy
            exact absurd hy hne
        · rw [if_neg (fun h => h.elim (by omega) hlt)]
          refine ⟨by omega, ?_, fun y hy hne => ?_⟩
          · rw [elig_succ]; exact List.mem_append_left _ (by rw [← hbb]; exact h2)
          rw [elig_succ, if_pos hin] at hy
          rcases List.mem_append.1 hy with hy | hy
          · exact h3 _ hy hne
          · simp at hy
            subst hy
            rw [ckey_LT]; omega
    · rw [if_neg hu]
      have hin : ¬ ((S k).u && decide ((S k).lv < pages)) = true := by
        intro h
        rw [Bool.and_eq_true, decide_eq_true_iff] at h
        exact hu ⟨h.1, by omega⟩
      rw [if_neg hin, List.append_nil]
      rcases ih (by omega) with ⟨h1, h2⟩ | ⟨h1, h2, h3⟩
      · exact .inl ⟨h1, h2⟩
      · refine .inr ⟨h1, ?_⟩
        unfold First
        rw [elig_succ, if_neg hin, List.append_nil]
        exact ⟨h2, h3⟩
end Go.Proofs.YtndiionpijjdbaaDoor.SwW
