/- Plain: the two tables of a book that lead back to one another, and its tree of sums. No program here. -/
import Derived.Test.YthaoiilghphbiaaDoorFenPlain
namespace Go.Proofs.YthaoiilghphbiaaDoor.BookP
open FenP

/-- Which places (counted from 1) are taken. -/
def occ (of : List Int) : Nat → Int := fun q => if 0 < q ∧ q ≤ of.length ∧ of.getD (q - 1) 0 ≠ -1 then 1 else 0
theorem occ_bounds (of : List Int) (q : Nat) : 0 ≤ occ of q ∧ occ of q ≤ 1 := by unfold occ; split <;> omega

/-- The state of a book. -/
structure Inv (n m : Nat) (at_ of live : List Int) : Prop where
  hat : at_.length = n
  hof : of.length = m
  hlive : live.length = m + 1
  hm : m ≤ 4096
  hn : n ≤ 256
  a1 : ∀ l, l < n → at_.getD l 0 = -1 ∨ (0 ≤ at_.getD l 0 ∧ at_.getD l 0 < m ∧ of.getD (at_.getD l 0).toNat 0 = l)
  a2 : ∀ p, p < m → of.getD p 0 = -1 ∨ (0 ≤ of.getD p 0 ∧ of.getD p 0 < n ∧ at_.getD (of.getD p 0).toNat 0 = p)
  tree : Tree (occ of) live

theorem getD_set_eq (l : List Int) (i : Nat) (x : Int) (h : i < l.length) : (l.set i x).getD i 0 = x := by
  simp [List.getD_eq_getElem?_getD, h]
theorem getD_set_ne (l : List Int) (i j : Nat) (x : Int) (h : i ≠ j) : (l.set i x).getD j 0 = l.getD j 0 := by
  simp [List.getD_eq_getElem?_getD, List.getElem?_set_ne h]
theorem getD_rep (n : Nat) (x : Int) (i : Nat) (h : i < n) : (List.replicate n x).getD i 0 = x := by
  simp [List.getD_eq_getElem?_getD, h]

theorem inv_new (n m : Nat) (hn : n ≤ 256) (hm : m ≤ 4096) : Inv n m (List.replicate n (-1)) (List.replicate m (-1)) (List.replicate (m + 1) 0) := by
  refine ⟨by simp, by simp, by simp, hm, hn, fun l h => .inl (getD_rep n (-1) l h), fun p h => .inl (getD_rep m (-1) p h), ?_⟩
  have e : occ (List.replicate m (-1)) = fun _ => 0 := by
    funext q
    unfold occ
    rw [if_neg]
    rintro ⟨h1, h2, h3⟩
    rw [List.length_replicate] at h2
    exact h3 (getD_rep m (-1) (q - 1) (by omega))
  rw [e]
  exact tree_none _

theorem occ_eq (of : List Int) (q : Nat) : occ of q = if 0 < q ∧ q ≤ of.length ∧ of.getD (q - 1) 0 ≠ -1 then 1 else 0 := rfl
theorem occ_zero {of : List Int} {q : Nat} (h : ¬ 0 < q) : occ of q = 0 := by rw [occ_eq, if_neg (fun x => h x.1)]
theorem occ_set {of : List Int} {p q : Nat} {x : Int} (e : q ≠ p + 1) : occ (of.set p x) q = occ of q := by
  by_cases h0 : 0 < q
  · rw [occ_eq, occ_eq, List.length_set, getD_set_ne _ _ _ _ (by omega)]
  · rw [occ_zero h0, occ_zero h0]
theorem occ_clear {of : List Int} {p : Nat} (hp : p < of.length) (h : of.getD p 0 ≠ -1) : occ (of.set p (-1)) = bump (occ of) (p + 1) (-1) := by
  funext q
  show _ = if q = p + 1 then occ of q + -1 else occ of q
  by_cases e : q = p + 1
  · subst e
    rw [if_pos rfl, occ_eq, occ_eq, List.length_set, Nat.add_sub_cancel, getD_set_eq _ _ _ hp, if_neg (fun x => x.2.2 rfl), if_pos ⟨by omega, by omega, h⟩]
    rfl
  · rw [if_neg e, occ_set e]
theorem occ_put {of : List Int} {p : Nat} (hp : p < of.length) (h : of.getD p 0 = -1) {l : Int} (hl : l ≠ -1) : occ (of.set p l) = bump (occ of) (p + 1) 1 := by
  funext q
  show _ = if q = p + 1 then occ of q + 1 else occ of q
  by_cases e : q = p + 1
  · subst e
    rw [if_pos rfl, occ_eq, occ_eq, List.length_set, Nat.add_sub_cancel, getD_set_eq _ _ _ hp, if_pos ⟨by omega, by omega, hl⟩, if_neg (fun x => x.2.2 h)]
    rfl
  · rw [if_neg e, occ_set e]

section
variable {n m : Nat} {at_ of live live' : List Int}

/-- An lba that lies at p is taken out. -/
theorem inv_clear (h : Inv n m at_ of live) {l p : Nat} (hl : l < n) (hp : at_.getD l 0 = (p : Int)) (ht : Tree (bump (occ of) (p + 1) (-1)) live') (hlen : live'.length = m + 1) :
    p < m ∧ of.getD p 0 = (l : Int) ∧ Inv n m (at_.set l (-1)) (of.set p (-1)) live' := by
  have h1 := h.a1 l hl
  rw [hp] at h1
  have hpm : p < m := by omega
  have hofp : of.getD p 0 = (l : Int) := by
    rcases h1 with h1 | ⟨_, _, h1⟩
    · omega
    · simpa using h1
  refine ⟨hpm, hofp, ⟨by simp [h.hat], by simp [h.hof], hlen, h.hm, h.hn, fun k hk => ?_, fun q hq => ?_, ?_⟩⟩
  · by_cases e : l = k
    · subst e; left; exact getD_set_eq _ _ _ (by rw [h.hat]; exact hl)
    · rw [getD_set_ne _ _ _ _ e]
      rcases h.a1 k hk with g | ⟨g1, g2, g3⟩
      · exact .inl g
      · refine .inr ⟨g1, g2, ?_⟩
        rw [getD_set_ne _ _ _ _ (fun e2 => ?_)]
        · exact g3
        · rw [← e2, hofp] at g3; omega
  · by_cases e : p = q
    · subst e; left; exact getD_set_eq _ _ _ (by rw [h.hof]; exact hpm)
    · rw [getD_set_ne _ _ _ _ e]
      rcases h.a2 q hq with g | ⟨g1, g2, g3⟩
      · exact .inl g
      · refine .inr ⟨g1, g2, ?_⟩
        rw [getD_set_ne _ _ _ _ (fun e2 => ?_)]
        · exact g3
        · rw [← e2, hp] at g3; omega
  · rw [occ_clear (by rw [h.hof]; exact hpm) (by rw [hofp]; omega)]
    exact ht

/-- An lba that lies nowhere is put at an empty place. -/
theorem inv_put (h : Inv n m at_ of live) {l p : Nat} (hl : l < n) (hp : p < m) (h0 : at_.getD l 0 = -1) (h2 : of.getD p 0 = -1) (ht : Tree (bump (occ of) (p + 1) 1) live') (hlen : live'.length = m + 1) :
    Inv n m (at_.set l p) (of.set p l) live' := by
  refine ⟨by simp [h.hat], by simp [h.hof], hlen, h.hm, h.hn, fun k hk => ?_, fun q hq => ?_, ?_⟩
  · by_cases e : l = k
    · subst e
      right
      rw [getD_set_eq _ _ _ (by rw [h.hat]; exact hl)]
      refine ⟨by omega, by omega, ?_⟩
      rw [Int.toNat_natCast, getD_set_eq _ _ _ (by rw [h.hof]; exact hp)]
    · rw [getD_set_ne _ _ _ _ e]
      rcases h.a1 k hk with g | ⟨g1, g2, g3⟩
      · exact .inl g
      · refine .inr ⟨g1, g2, ?_⟩
        rw [getD_set_ne _ _ _ _ (fun e2 => ?_)]
        · exact g3
        · rw [← e2, h2] at g3; omega
  · by_cases e : p = q
    · subst e
      right
      rw [getD_set_eq _ _ _ (by rw [h.hof]; exact hp)]
      refine ⟨by omega, by omega, ?_⟩
      rw [Int.toNat_natCast, getD_set_eq _ _ _ (by rw [h.hat]; exact hl)]
    · rw [getD_set_ne _ _ _ _ e]
      rcases h.a2 q hq with g | ⟨g1, g2, g3⟩
      · exact .inl g
      · refine .inr ⟨g1, g2, ?_⟩
        rw [getD_set_ne _ _ _ _ (fun e2 => ?_)]
        · exact g3
        · rw [← e2, h0] at g3; omega
  · rw [occ_put (by rw [h.hof]; exact hp) h2 (by omega)]
    exact ht

/-- What lies at a place, lies nowhere else. -/
theorem inv_unique (h : Inv n m at_ of live) {l k : Nat} (hl : l < n) (hk : k < n) (h0 : at_.getD l 0 ≠ -1) (e : at_.getD l 0 = at_.getD k 0) : l = k := by
  rcases h.a1 l hl with g | ⟨_, _, g⟩
  · exact absurd g h0
  rcases h.a1 k hk with g2 | ⟨_, _, g2⟩
  · exact absurd (e.trans g2) h0
  rw [e, g2] at g
  omega
end

/-- How many of a list lie from a to b. -/
def cnt (l : List Int) (a b : Nat) : Nat := l.countP fun x => decide ((a : Int) ≤ x) && decide (x < (b : Int))
theorem cnt_none (l : List Int) (a : Nat) : cnt l a a = 0 := by
  unfold cnt
  rw [List.countP_eq_zero]
  intro x _
  simp
theorem inB (x : Int) (a b : Nat) : (decide ((a : Int) ≤ x) && decide (x < (b : Int))) = decide ((a : Int) ≤ x ∧ x < (b : Int)) := by simp
theorem cnt_succ (l : List Int) (a b : Nat) (h : a ≤ b) : cnt l a (b + 1) = cnt l a b + l.count (b : Int) := by
  unfold cnt
  induction l with
  | nil => rfl
  | cons x t ih =>
    rw [List.countP_cons, List.countP_cons, List.count_cons, ih, inB, inB]
    by_cases e : x = (b : Int)
    · subst e
      have d1 : decide ((a : Int) ≤ (b : Int) ∧ (b : Int) < ((b + 1 : Nat) : Int)) = true := decide_eq_true (by omega)
      have d2 : decide ((a : Int) ≤ (b : Int) ∧ (b : Int) < (b : Int)) = false := decide_eq_false (by omega)
      rw [d1, d2, beq_self_eq_true]
      simp only [if_true, Bool.false_eq_true, if_false]
      omega
    · have e1 : (x == (b : Int)) = false := by simpa using e
      rw [e1]
      by_cases h1 : (a : Int) ≤ x ∧ x < (b : Int)
      · have d1 : decide ((a : Int) ≤ x ∧ x < ((b + 1 : Nat) : Int)) = true := decide_eq_true (by omega)
        rw [d1, decide_eq_true h1]
        simp only [if_true, Bool.false_eq_true, if_false]
        omega
      · have d1 : decide ((a : Int) ≤ x ∧ x < ((b + 1 : Nat) : Int)) = false := decide_eq_false (by omega)
        rw [d1, decide_eq_false h1]
        simp only [Bool.false_eq_true, if_false]
        omega

theorem count_unique : ∀ (l : List Int) (v : Int), (∀ i j, i < l.length → j < l.length → l.getD i 0 = v → l.getD j 0 = v → i = j) → l.count v = if v ∈ l then 1 else 0 := by
  intro l v
  induction l with
  | nil => intro _; rfl
  | cons x t ih =>
    intro h
    have ht := ih (fun i j hi hj e1 e2 => by
      have := h (i + 1) (j + 1) (by simpa using hi) (by simpa using hj) (by simpa using e1) (by simpa using e2)
      omega)
    rw [List.count_cons, ht]
    by_cases e : x = v
    · have hnt : v ∉ t := by
        intro hm
        obtain ⟨j, hj, ej⟩ := List.getElem_of_mem hm
        have := h 0 (j + 1) (by simp) (by simpa using hj) (by simpa using e) (by simp [List.getD_eq_getElem?_getD, hj, ej])
        omega
      simp [e, hnt]
    · have e1 : (x == v) = false := by simpa using e
      rw [e1]
      by_cases hm : v ∈ t
      · simp [hm]
      · simp [hm, Ne.symm e]

section
variable {n m : Nat} {at_ of live : List Int}
theorem count_occ (h : Inv n m at_ of live) {p : Nat} (hp : p < m) : ((at_.count (p : Int) : Nat) : Int) = occ of (p + 1) := by
  rw [count_unique at_ (p : Int) (fun i j hi hj e1 e2 => inv_unique h (by rw [← h.hat]; exact hi) (by rw [← h.hat]; exact hj) (by rw [e1]; omega) (e1.trans e2.symm))]
  unfold occ
  rw [Nat.add_sub_cancel]
  by_cases hm : (p : Int) ∈ at_
  · rw [if_pos hm]
    obtain ⟨l, hl, el⟩ := List.getElem_of_mem hm
    have hl' : at_.getD l 0 = (p : Int) := by simp [List.getD_eq_getElem?_getD, hl, el]
    rcases h.a1 l (by rw [← h.hat]; exact hl) with g | ⟨_, _, g⟩
    · omega
    · rw [hl', Int.toNat_natCast] at g
      rw [if_pos ⟨by omega, by rw [h.hof]; omega, by rw [g]; omega⟩]
      rfl
  · rw [if_neg hm, if_neg]
    · rfl
    · rintro ⟨_, _, g⟩
      rcases h.a2 p hp with g2 | ⟨g1, g2, g3⟩
      · exact g g2
      · apply hm
        have hlt : (of.getD p 0).toNat < at_.length := by rw [h.hat]; omega
        rw [← g3, List.getD_eq_getElem?_getD, List.getElem?_eq_getElem hlt]
        exact List.getElem_mem hlt

/-- What the tree tells of from a to b, the table tells too. -/
theorem live_cnt (h : Inv n m at_ of live) (a k : Nat) (hb : a + k ≤ m) : sumTo (occ of) (a + k) - sumTo (occ of) a = (cnt at_ a (a + k) : Int) := by
  induction k with
  | zero => rw [Nat.add_zero, cnt_none]; omega
  | succ k ih =>
    have := ih (by omega)
    have hc := count_occ h (p := a + k) (by omega)
    rw [← Nat.add_assoc, cnt_succ _ _ _ (by omega)]
    show sumTo (occ of) (a + k) + occ of (a + k + 1) - _ = _
    rw [← hc]
    omega

/-- All that lie somewhere. -/
theorem cnt_all (h : Inv n m at_ of live) : cnt at_ 0 m = at_.countP fun x => decide (x ≠ -1) := by
  unfold cnt
  refine List.countP_congr fun x hx => ?_
  obtain ⟨l, hl, el⟩ := List.getElem_of_mem hx
  have hl' : at_.getD l 0 = x := by simp [List.getD_eq_getElem?_getD, hl, el]
  have := h.a1 l (by rw [← h.hat]; exact hl)
  rw [hl'] at this
  simp
  omega
end
end Go.Proofs.YthaoiilghphbiaaDoor.BookP
