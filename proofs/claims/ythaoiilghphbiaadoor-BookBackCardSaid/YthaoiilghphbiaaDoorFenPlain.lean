/- Plain: a tree of sums (Fenwick). No program here. -/
namespace Go.Proofs.YthaoiilghphbiaaDoor.FenP

/-- The lowest bit of a number (below 16384). -/
def lb (j : Nat) : Nat := j &&& (16384 - j)
theorem lb_zero : lb 0 = 0 := by decide
theorem lb_table : ((List.range 4097).all fun j => j == 0 || (decide (1 ≤ lb j) && decide (lb j ≤ j) && decide ((j + lb j) - lb (j + lb j) ≤ j - lb j))) = true := by decide +kernel
theorem lb_gap_table : ((List.range 4097).all fun j => (List.range (lb j)).all fun d => d == 0 || decide (j ≤ (j + d) - lb (j + d))) = true := by decide +kernel

theorem lb_facts {j : Nat} (h0 : 0 < j) (h : j ≤ 4096) : 1 ≤ lb j ∧ lb j ≤ j ∧ (j + lb j) - lb (j + lb j) ≤ j - lb j := by
  have := List.all_eq_true.1 lb_table j (List.mem_range.2 (by omega))
  have hj : (j == 0) = false := by simp; omega
  rw [hj] at this
  simp at this
  omega
theorem lb_gap {j i : Nat} (h : j ≤ 4096) (h1 : j < i) (h2 : i < j + lb j) : j ≤ i - lb i := by
  have := List.all_eq_true.1 (List.all_eq_true.1 lb_gap_table j (List.mem_range.2 (by omega))) (i - j) (List.mem_range.2 (by omega))
  have hd : ((i - j) == 0) = false := by simp; omega
  rw [hd] at this
  simp at this
  rwa [show j + (i - j) = i by omega] at this

/-- The sum of the first n. -/
def sumTo (f : Nat → Int) : Nat → Int
  | 0 => 0
  | n + 1 => sumTo f n + f (n + 1)
/-- f with one number more at p. -/
def bump (f : Nat → Int) (p : Nat) (by_ : Int) : Nat → Int := fun q => if q = p then f q + by_ else f q
theorem sumTo_bump (f : Nat → Int) (p : Nat) (by_ : Int) (hp : 0 < p) (n : Nat) : sumTo (bump f p by_) n = sumTo f n + (if p ≤ n then by_ else 0) := by
  induction n with
  | zero => simp [sumTo]; omega
  | succ n ih =>
    simp only [sumTo, ih, bump]
    by_cases h1 : n + 1 = p
    · rw [if_neg (by omega), if_pos h1, if_pos (by omega)]; omega
    · rw [if_neg h1]
      by_cases h2 : p ≤ n
      · rw [if_pos h2, if_pos (by omega)]; omega
      · rw [if_neg h2, if_neg (by omega)]; omega
theorem sumTo_bounds (f : Nat → Int) (h : ∀ q, 0 ≤ f q ∧ f q ≤ 1) (n k : Nat) : sumTo f n ≤ sumTo f (n + k) ∧ sumTo f (n + k) ≤ sumTo f n + k ∧ 0 ≤ sumTo f n := by
  have h0 : ∀ n, 0 ≤ sumTo f n := by
    intro n
    induction n with
    | zero => simp [sumTo]
    | succ n ih => have := h (n + 1); simp only [sumTo]; omega
  refine ⟨?_, ?_, h0 n⟩
  · induction k with
    | zero => simp
    | succ k ih => have := h (n + k + 1); show _ ≤ sumTo f (n + k) + f (n + k + 1); omega
  · induction k with
    | zero => simp
    | succ k ih => have := h (n + k + 1); show sumTo f (n + k) + f (n + k + 1) ≤ _; omega

/-- A list is the tree of f. -/
def Tree (f : Nat → Int) (l : List Int) : Prop := ∀ i, 0 < i → i < l.length → l.getD i 0 = sumTo f i - sumTo f (i - lb i)
/-- Half way through one number more at p: what lies below i has it. -/
def Half (f : Nat → Int) (p : Nat) (by_ : Int) (i : Nat) (l : List Int) : Prop :=
  ∀ j, 0 < j → j < l.length → l.getD j 0 = sumTo f j - sumTo f (j - lb j) + (if j < i ∧ p ≤ j ∧ j - lb j < p then by_ else 0)

theorem half_start {f : Nat → Int} {l : List Int} (h : Tree f l) (p : Nat) (by_ : Int) : Half f p by_ p l := by
  intro j h0 hj
  rw [h j h0 hj, if_neg (by omega)]
  omega
theorem half_step {f : Nat → Int} {l : List Int} {p i : Nat} {by_ : Int} (h : Half f p by_ i l) (hl : l.length ≤ 4097) (hi : i < l.length) (hp : 0 < p) (hpi : p ≤ i) (hc : i - lb i < p) :
    Half f p by_ (i + lb i) (l.set i (l.getD i 0 + by_)) ∧ p ≤ i + lb i ∧ (i + lb i) - lb (i + lb i) < p := by
  obtain ⟨f1, f2, f3⟩ := lb_facts (j := i) (by omega) (by omega)
  refine ⟨fun j h0 hj => ?_, by omega, by omega⟩
  rw [List.length_set] at hj
  have hv := h j h0 hj
  by_cases e : j = i
  · subst e
    rw [if_neg (by omega)] at hv
    rw [if_pos (by omega)]
    simp only [List.getD_eq_getElem?_getD, List.getElem?_set, if_pos hj]
    simp
    simp only [List.getD_eq_getElem?_getD] at hv
    rw [hv]
    omega
  · have e2 : (l.set i (l.getD i 0 + by_)).getD j 0 = l.getD j 0 := by
      simp only [List.getD_eq_getElem?_getD, List.getElem?_set_ne (Ne.symm e)]
    rw [e2, hv]
    by_cases hlt : j < i
    · by_cases hcov : p ≤ j ∧ j - lb j < p
      · rw [if_pos ⟨hlt, hcov⟩, if_pos ⟨by omega, hcov⟩]
      · rw [if_neg (fun x => hcov x.2), if_neg (fun x => hcov x.2)]
    · rw [if_neg (by omega)]
      by_cases hlt2 : j < i + lb i
      · have := lb_gap (j := i) (i := j) (by omega) (by omega) hlt2
        rw [if_neg (by omega)]
      · rw [if_neg (by omega)]
theorem half_end {f : Nat → Int} {l : List Int} {p i : Nat} {by_ : Int} (h : Half f p by_ i l) (hp : 0 < p) (hi : l.length ≤ i) : Tree (bump f p by_) l := by
  intro j h0 hj
  rw [h j h0 hj, sumTo_bump f p by_ hp, sumTo_bump f p by_ hp]
  by_cases h1 : p ≤ j
  · by_cases h2 : j - lb j < p
    · rw [if_pos (by omega), if_pos h1, if_neg (by omega)]; omega
    · rw [if_neg (by omega), if_pos h1, if_pos (by omega)]; omega
  · rw [if_neg (by omega), if_neg h1, if_neg (by omega)]; omega

theorem tree_none (n : Nat) : Tree (fun _ => 0) (List.replicate n 0) := by
  intro i h0 hi
  have hs : ∀ n, sumTo (fun _ => 0) n = 0 := by
    intro n
    induction n with
    | zero => rfl
    | succ n ih => simp [sumTo, ih]
  rw [hs, hs]
  simp [List.getD_eq_getElem?_getD, List.getElem?_replicate]
  split <;> rfl
end Go.Proofs.YthaoiilghphbiaaDoor.FenP
