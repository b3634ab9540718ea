/- The walk of granarylaw1.SweepSame. -/
import Derived.Test.YtndiionpijjdbaaSweepX
import Derived.Test.YtndiionpijjdbaaSweepB
import Derived.Test.YtndiionpijjdbaaPick
set_option linter.unusedVariables false
namespace Go.Proofs.Ytndiionpijjdbaa.SwW
open Go.RowKit I64 Stab

/-- What Choose says, in one form. -/
def ChoQ (w : World) (S : Nat → Blk) (pages : Int) (n : Nat) (e : Ending) (w' : World) : Prop :=
  Below w.heap.size w w' ∧ ((∃ k, e = .returned (.tuple #[.int .i64 0, errR k]) ∧ k ≠ 0 ∧ ((flt S n pages false = k) ∨ (flt S n pages false = 0 ∧ k = 4 ∧ elig S pages n = []))) ∨
    (∃ z, e = .returned (.tuple #[.int .i64 z, .nilIface]) ∧ flt S n pages false = 0 ∧ First S pages n z))
theorem chooseq (A : Option Addr) (n c : Nat) (S : Nat → Blk) (T : Nat) (pages : Int) (w : World) (hr : RdB w A n S T) (hT : T ≤ w.heap.size) (hn : n ≤ 9223372036854775807) :
    Calls Try.prog 5 #[.slice A n c, .int .i64 pages] w (ChoQ w S pages n) := by
  refine (choose_any A n c S T pages w hr hT hn).mono ?_
  rintro e w' ⟨hb, h⟩
  refine ⟨hb, ?_⟩
  rcases h with ⟨h1, h2⟩ | ⟨h1, Z, hp, hs, h⟩
  · exact .inl ⟨_, h2, h1, .inl rfl⟩
  · rcases h with ⟨rfl, h2⟩ | ⟨z, Z', rfl, h2⟩
    · exact .inl ⟨4, h2, by decide, .inr ⟨h1, rfl, hp.nil_eq.symm⟩⟩
    · exact .inr ⟨z, h2, h1, first_head hp hs⟩

theorem rdB_own {w : World} {base n c : Nat} {D : Option Addr} {S : Nat → Blk} (h : w.ownsRow base 28 3 (.slice D n c) n (flatB S n)) : RdB w D n S w.heap.size := by
  intro i hi
  rcases h.2 with ⟨hv, hn⟩ | ⟨g, cap, cur, hv, hb, hg, hnc, hm, hs, ht⟩
  · omega
  · injection hv with hA
    subst hA
    refine ⟨g, 0, rfl, (Array.getElem?_eq_some_iff.1 hg).1, ?_, ?_, ?_⟩
    all_goals
      have hc : ∀ j u, j < 3 → [Value.bool (S i).u, .int .i64 (S i).lv, .int .i64 (S i).wr][j]? = some u → cur[i * 3 + j]? = some u := by
        intro j u hj hu
        have h1 := flatB_at S n i j hi u hu
        rw [← ht, List.getElem?_take, if_pos (by omega)] at h1
        simpa using h1
    · rw [cell_of_row w g _ cur _ _ hg]; simpa using hc 0 _ (by omega) rfl
    · rw [cell_of_row w g _ cur _ _ hg]; simpa using hc 1 _ (by omega) rfl
    · rw [cell_of_row w g _ cur _ _ hg]; simpa using hc 2 _ (by omega) rfl

/-- The fact that is asked first. -/
theorem fact_rd (w : World) : RdB (w.alloc (.cells #[.bool true, .int .i64 2, .int .i64 0, .bool true, .int .i64 1, .int .i64 0] 28)) (some ⟨w.heap.size, 0, none⟩) 2 fact2 (w.heap.size + 1) := by
  intro i hi
  refine ⟨w.heap.size, 0, rfl, by omega, ?_⟩
  simp only [World.cell?_alloc_new]
  have : i = 0 ∨ i = 1 := by omega
  rcases this with rfl | rfl <;> exact ⟨rfl, rfl, rfl⟩
theorem fact_choose (c : Nat) (w : World) :
    Calls Try.prog 5 #[.slice (some ⟨w.heap.size, 0, none⟩) 2 c, .int .i64 4] (w.alloc (.cells #[.bool true, .int .i64 2, .int .i64 0, .bool true, .int .i64 1, .int .i64 0] 28))
      fun e w' => e = .returned (.tuple #[.int .i64 1, .nilIface]) ∧ Below w.heap.size w w' := by
  refine (chooseq _ 2 c fact2 (w.heap.size + 1) 4 _ (fact_rd w) (by simp) (by omega)).mono ?_
  rintro e w' ⟨hb, h⟩
  refine ⟨?_, ((Below.refl _ w).alloc (Nat.le_refl _) _).trans (hb.mono (by simp))⟩
  rcases h with ⟨k, -, hk, h⟩ | ⟨z, he, -, hz⟩
  · exfalso
    rcases h with h | ⟨-, -, h⟩
    · rw [fact2_flt] at h; exact hk h.symm
    · rw [fact2_elig] at h; cases h
  · rw [he, first_one hz fact2_first]

/-- The first k are worn more. -/
def upS (S S2 : Nat → Blk) (k : Nat) : Nat → Blk := fun i => if i < k then S2 i else S i
theorem upS_at {S S2 : Nat → Blk} {k : Nat} : upS S S2 k k = S k := by unfold upS; rw [if_neg (by omega)]
theorem upS_zero {S S2 : Nat → Blk} : upS S S2 0 = S := by funext i; unfold upS; rw [if_neg (by omega)]
theorem flatB_congr {S S' : Nat → Blk} (n : Nat) (h : ∀ i, i < n → S i = S' i) : flatB S n = flatB S' n := by
  induction n with
  | zero => rfl
  | succ n ih => unfold flatB; rw [ih (fun i hi => h i (by omega)), h n (by omega)]
theorem flatB_set (S S' : Nat → Blk) (n k : Nat) (hk : k < n) (z : Int) (h1 : ∀ i, i ≠ k → S' i = S i) (h2 : S' k = { S k with wr := z }) : (flatB S n).set (k * 3 + 2) (.int .i64 z) = flatB S' n := by
  induction n with
  | zero => omega
  | succ n ih =>
    unfold flatB
    by_cases e : k = n
    · subst e
      rw [List.set_append_right _ _ (by rw [flatB_len]; omega), flatB_len, show k * 3 + 2 - k * 3 = 2 from by omega, flatB_congr k (fun i hi => (h1 i (by omega)).symm), h2]
      rfl
    · rw [List.set_append_left _ _ (by rw [flatB_len]; omega), ih (by omega), h1 n (fun e' => e e'.symm)]
/-- The row in whose blocks the first k are worn more. -/
def UpB (w : World) (base n c : Nat) (D : Option Addr) (S : Nat → Blk) : Prop := w.ownsRow base 28 3 (.slice D n c) n (flatB S n)
theorem UpB.step {w : World} {base n c k : Nat} {D : Option Addr} {S S2 : Nat → Blk} {z : Int} (h : UpB w base n c D (upS S S2 k)) (hk : k < n) (h2 : S2 k = { S k with wr := z }) :
    ∃ g, D = some ⟨g, 0, none⟩ ∧ base ≤ g ∧ w.frozen? ⟨g, k * 3 + 2, none⟩ = false ∧ w.cell? ⟨g, k * 3 + 2, none⟩ = some (.int .i64 (S k).wr) ∧ UpB (w.setCell ⟨g, k * 3 + 2, none⟩ (.int .i64 z)) base n c D (upS S S2 (k + 1)) := by
  obtain ⟨b, off, hD, -, -, -, hc⟩ := rdB_own h k hk
  rcases h.2 with ⟨hv, hn⟩ | ⟨g, cap, cur, hv, hb, hg, hnc, hm, hs, ht⟩
  · omega
  · injection hv with hA hl hc'
    subst hA
    subst hc'
    injection hD with hD
    injection hD with hD1 hD2
    subst hD1 hD2
    have hbk : Bk w g 28 cur := hg
    refine ⟨g, rfl, hb, hbk.free _, by rw [upS_at] at hc; simpa using hc, ?_, .inr ⟨g, c, _, rfl, hb, hbk.put (k * 3 + 2) (.int .i64 z), hnc, hm, by simpa using hs, ?_⟩⟩
    · rw [flatB_len]
    · rw [Array.toList_setIfInBounds, List.take_set, ht]
      refine flatB_set _ _ n k hk z (fun i hi => ?_) ?_
      · unfold upS
        by_cases e : i < k
        · rw [if_pos e, if_pos (by omega)]
        · rw [if_neg e, if_neg (by omega)]
      · rw [upS_at]
        unfold upS
        rw [if_pos (by omega), h2]
theorem upS_all {S S2 : Nat → Blk} {w : World} {base n c : Nat} {D : Option Addr} (h : UpB w base n c D (upS S S2 n)) : UpB w base n c D S2 := by
  unfold UpB at *
  rw [← flatB_congr n (S := upS S S2 n) (fun i hi => by unfold upS; rw [if_pos hi])]
  exact h
end Go.Proofs.Ytndiionpijjdbaa.SwW
