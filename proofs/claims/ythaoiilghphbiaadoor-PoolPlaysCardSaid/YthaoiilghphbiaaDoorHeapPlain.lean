/- Plain: a heap of pairs in a list. No program here. -/
namespace Go.Proofs.YthaoiilghphbiaaDoor.HeapP

/-- Less worn; as worn, with the lower number. -/
def lt (a b : Int × Int) : Prop := a.1 < b.1 ∨ (a.1 = b.1 ∧ a.2 < b.2)
instance (a b : Int × Int) : Decidable (lt a b) := by unfold lt; infer_instance
theorem lt_asymm {a b : Int × Int} (h : lt a b) : ¬ lt b a := by unfold lt at *; omega
theorem lt_irrefl (a : Int × Int) : ¬ lt a a := by unfold lt; omega
theorem nlt_trans {a b c : Int × Int} (h1 : ¬ lt a b) (h2 : ¬ lt b c) : ¬ lt a c := by unfold lt at *; omega
theorem lt_nlt {a b c : Int × Int} (h1 : ¬ lt a b) (h2 : lt c b) : ¬ lt a c := by unfold lt at *; omega

/-- The element at i. -/
def el (l : List (Int × Int)) (i : Nat) : Int × Int := l.getD i (0, 0)
/-- Two change places. -/
def swp (l : List (Int × Int)) (i j : Nat) : List (Int × Int) := (l.set i (el l j)).set j (el l i)
theorem swp_length (l : List (Int × Int)) (i j : Nat) : (swp l i j).length = l.length := by simp [swp]
theorem el_set (l : List (Int × Int)) (i k : Nat) (x : Int × Int) (hi : i < l.length) : el (l.set i x) k = if i = k then x else el l k := by
  unfold el
  by_cases e : i = k
  · subst e
    simp [List.getD, hi]
  · simp [List.getD, e]
theorem el_swp (l : List (Int × Int)) (i j k : Nat) (hi : i < l.length) (hj : j < l.length) : el (swp l i j) k = if k = j then el l i else if k = i then el l j else el l k := by
  unfold swp
  rw [el_set _ _ _ _ (by simpa using hj), el_set _ _ _ _ hi]
  by_cases e1 : k = j
  · subst e1; simp
  · rw [if_neg (Ne.symm e1), if_neg e1]
    by_cases e2 : k = i
    · subst e2; simp
    · rw [if_neg (Ne.symm e2), if_neg e2]
theorem swp_perm (l : List (Int × Int)) (i j : Nat) (hi : i < l.length) (hj : j < l.length) : (swp l i j).Perm l := by
  have := List.set_set_perm hi hj
  have e1 : el l i = l[i] := by simp [el, List.getD, hi]
  have e2 : el l j = l[j] := by simp [el, List.getD, hj]
  unfold swp
  rw [e1, e2]
  exact this

/-- Of the first n each is no less than the one above it, where that is s or behind it. -/
def Hp (l : List (Int × Int)) (n s : Nat) : Prop := ∀ q, 0 < q → q < n → s ≤ (q - 1) / 2 → ¬ lt (el l q) (el l ((q - 1) / 2))
/-- The same, but for what lies under i. -/
def DInv (l : List (Int × Int)) (n s i : Nat) : Prop :=
  (∀ q, 0 < q → q < n → s ≤ (q - 1) / 2 → (q - 1) / 2 ≠ i → ¬ lt (el l q) (el l ((q - 1) / 2))) ∧
  (∀ q, 0 < q → q < n → (q - 1) / 2 = i → s ≠ i → ¬ lt (el l q) (el l ((i - 1) / 2))) ∧ s ≤ i ∧ (s = i ∨ s ≤ (i - 1) / 2)

theorem dinv_start {l : List (Int × Int)} {n s : Nat} (h : Hp l n (s + 1)) : DInv l n s s :=
  ⟨fun q h0 hn hs hne => h q h0 hn (by omega), fun q _ _ _ h => absurd rfl h, Nat.le_refl _, .inl rfl⟩
theorem dinv_leaf {l : List (Int × Int)} {n s i : Nat} (h : DInv l n s i) (hl : n ≤ 2 * i + 1) : Hp l n s :=
  fun q h0 hn hs => h.1 q h0 hn hs (by omega)
/-- j: the least of those under i. -/
def Least (l : List (Int × Int)) (n i j : Nat) : Prop := (j = 2 * i + 1 ∨ j = 2 * i + 2) ∧ j < n ∧ ∀ q, q < n → (q = 2 * i + 1 ∨ q = 2 * i + 2) → ¬ lt (el l q) (el l j)
theorem dinv_stop {l : List (Int × Int)} {n s i j : Nat} (h : DInv l n s i) (hj : Least l n i j) (hlt : ¬ lt (el l j) (el l i)) : Hp l n s := by
  intro q h0 hn hs
  by_cases e : (q - 1) / 2 = i
  · rw [e]
    exact nlt_trans (hj.2.2 q hn (by omega)) hlt
  · exact h.1 q h0 hn hs e
theorem dinv_step {l : List (Int × Int)} {n s i j : Nat} (h : DInv l n s i) (hj : Least l n i j) (hlt : lt (el l j) (el l i)) (hn : n ≤ l.length) : DInv (swp l i j) n s j := by
  obtain ⟨h1, h2, h3, h4⟩ := h
  obtain ⟨k1, k2, k3⟩ := hj
  have hE := fun k => el_swp l i j k (by omega) (by omega)
  refine ⟨fun q h0 hq hs hne => ?_, fun q h0 hq hp hne => ?_, by omega, .inr (by omega)⟩
  · rw [hE q, hE ((q - 1) / 2), if_neg hne]
    by_cases e1 : q = j
    · subst e1
      rw [if_pos rfl, if_pos (by omega)]
      exact lt_asymm hlt
    · rw [if_neg e1]
      by_cases e2 : (q - 1) / 2 = i
      · rw [if_neg (by omega), if_pos e2]
        exact k3 q hq (by omega)
      · rw [if_neg e2]
        by_cases e3 : q = i
        · subst e3
          rw [if_pos rfl]
          exact h2 j (by omega) k2 (by omega) (by omega)
        · rw [if_neg e3]
          exact h1 q h0 hq hs e2
  · rw [hE q, hE ((j - 1) / 2), if_neg (by omega), if_neg (by omega), if_neg (by omega), if_pos (by omega)]
    have := h1 q h0 hq (by omega) (by omega)
    rwa [hp] at this

/-- Each is no less than the one above it, but j. -/
def UInv (l : List (Int × Int)) (j : Nat) : Prop :=
  (∀ q, 0 < q → q < l.length → q ≠ j → ¬ lt (el l q) (el l ((q - 1) / 2))) ∧ (∀ q, 0 < q → q < l.length → (q - 1) / 2 = j → 0 < j → ¬ lt (el l q) (el l ((j - 1) / 2)))
theorem uinv_stop {l : List (Int × Int)} {j : Nat} (h : UInv l j) (hs : j = 0 ∨ ¬ lt (el l j) (el l ((j - 1) / 2))) : Hp l l.length 0 := by
  intro q h0 hq _
  by_cases e : q = j
  · subst e
    rcases hs with h | h
    · omega
    · exact h
  · exact h.1 q h0 hq e
theorem uinv_step {l : List (Int × Int)} {j : Nat} (h : UInv l j) (h0 : 0 < j) (hj : j < l.length) (hlt : lt (el l j) (el l ((j - 1) / 2))) : UInv (swp l ((j - 1) / 2) j) ((j - 1) / 2) := by
  obtain ⟨h1, h2⟩ := h
  have hE := fun k => el_swp l ((j - 1) / 2) j k (by omega) hj
  refine ⟨fun q hq0 hq hne => ?_, fun q hq0 hq hp hi => ?_⟩
  · rw [swp_length] at hq
    rw [hE q, hE ((q - 1) / 2)]
    by_cases e1 : q = j
    · subst e1
      rw [if_pos rfl, if_neg (by omega), if_pos rfl]
      exact lt_asymm hlt
    · rw [if_neg e1, if_neg hne]
      by_cases e2 : (q - 1) / 2 = j
      · rw [if_pos e2]
        exact h2 q hq0 hq e2 h0
      · rw [if_neg e2]
        by_cases e3 : (q - 1) / 2 = (j - 1) / 2
        · rw [if_pos e3]
          have := h1 q hq0 hq e1
          rw [e3] at this
          exact lt_nlt this hlt
        · rw [if_neg e3]
          exact h1 q hq0 hq e1
  · rw [swp_length] at hq
    have hpar := h1 ((j - 1) / 2) hi (by omega) (by omega)
    rw [hE q, hE (((j - 1) / 2 - 1) / 2)]
    rw [if_neg (show ¬ ((j - 1) / 2 - 1) / 2 = j by omega), if_neg (show ¬ ((j - 1) / 2 - 1) / 2 = (j - 1) / 2 by omega)]
    by_cases e1 : q = j
    · rw [if_pos e1]
      exact hpar
    · rw [if_neg e1, if_neg (by omega)]
      have := h1 q hq0 hq e1
      rw [hp] at this
      exact nlt_trans this hpar

/-- The first is the least. -/
theorem hp_root {l : List (Int × Int)} {n : Nat} (h : Hp l n 0) : ∀ q, q < n → ¬ lt (el l q) (el l 0) := by
  intro q
  induction q using Nat.strongRecOn with
  | _ q ih =>
    intro hq
    by_cases e : q = 0
    · subst e; exact lt_irrefl _
    · exact nlt_trans (h q (by omega) hq (Nat.zero_le _)) (ih ((q - 1) / 2) (by omega) (by omega))
theorem hp_big {l : List (Int × Int)} {n s : Nat} (h : n ≤ 2 * s + 1) : Hp l n s := fun q h0 hq hs => by omega
theorem hp_less {l : List (Int × Int)} {n m s : Nat} (h : Hp l n s) (hm : m ≤ n) : Hp l m s := fun q h0 hq hs => h q h0 (by omega) hs

/-- A push: behind a heap one more. -/
theorem uinv_push {l : List (Int × Int)} (x : Int × Int) (h : Hp l l.length 0) : UInv (l ++ [x]) l.length := by
  have hE : ∀ k, k < l.length → el (l ++ [x]) k = el l k := fun k hk => by simp [el, List.getD, List.getElem?_append, hk]
  refine ⟨fun q h0 hq hne => ?_, fun q h0 hq hp _ => ?_⟩
  · simp at hq
    rw [hE q (by omega), hE _ (by omega)]
    exact h q h0 (by omega) (Nat.zero_le _)
  · simp at hq
    omega
/-- A pop: the first and the last change places; all but the last is a heap but for the first. -/
theorem dinv_pop {l : List (Int × Int)} {n : Nat} (h : Hp l (n + 1) 0) (hl : l.length = n + 1) : DInv (swp l 0 n) n 0 0 := by
  have hE := fun k => el_swp l 0 n k (by omega) (by omega)
  refine ⟨fun q h0 hq _ hne => ?_, fun q _ _ _ h => absurd rfl h, Nat.le_refl _, .inl rfl⟩
  rw [hE q, hE ((q - 1) / 2), if_neg (by omega), if_neg (by omega), if_neg (by omega), if_neg hne]
  exact h q h0 (by omega) (Nat.zero_le _)
theorem el_take {l : List (Int × Int)} {n k : Nat} (h : k < n) : el (l.take n) k = el l k := by
  simp [el, List.getD, h]
theorem hp_take {l : List (Int × Int)} {n : Nat} (h : Hp l n 0) (hl : n ≤ l.length) : Hp (l.take n) (l.take n).length 0 := by
  intro q h0 hq hs
  simp at hq
  rw [el_take (by omega), el_take (by omega)]
  exact h q h0 (by omega) hs
theorem take_last {l : List (Int × Int)} {n : Nat} (hl : l.length = n + 1) : l.take n ++ [el l n] = l := by
  have : el l n = l[n]'(by omega) := by simp [el, List.getD, show n < l.length by omega]
  rw [this, ← List.take_succ_eq_append_getElem (by omega), List.take_of_length_le (by omega)]
theorem el_mem {l : List (Int × Int)} {k : Nat} (h : k < l.length) : el l k ∈ l := by
  have : el l k = l[k] := by simp [el, List.getD, h]
  rw [this]
  exact List.getElem_mem h

/-- As many numbers below n, no two alike, are no more than n. -/
theorem nodup_le : ∀ (n : Nat) (l : List Int), l.Nodup → (∀ x ∈ l, 0 ≤ x ∧ x < n) → l.length ≤ n := by
  intro n
  induction n with
  | zero =>
    intro l _ h
    cases l with
    | nil => simp
    | cons x t => have := h x (by simp); omega
  | succ n ih =>
    intro l hd h
    by_cases hm : (n : Int) ∈ l
    · have h1 := ih (l.erase (n : Int)) (hd.erase _) (fun x hx => by
        have := (hd.mem_erase_iff).1 hx
        have h2 := h x this.2
        have h3 := this.1
        omega)
      rw [List.length_erase_of_mem hm] at h1
      omega
    · have h1 := ih l hd (fun x hx => by
        have h2 := h x hx
        have h3 : x ≠ (n : Int) := fun e => hm (e ▸ hx)
        omega)
      omega
end Go.Proofs.YthaoiilghphbiaaDoor.HeapP
