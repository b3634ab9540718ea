/- A stable sort in place, plainly: orders, pieces of lists, what merging and rotating come to. -/
import Derived.Test.YtndiionpijjdbaaDoorBase
set_option linter.unusedVariables false
namespace Go.Proofs.YtndiionpijjdbaaDoor.Stab

/-- What is asked of a comparison of ints. -/
structure Cmp (C : Int → Int → Int) : Prop where
  sw : ∀ x y, C x y < 0 ↔ 0 < C y x
  tr : ∀ x y z, C x y ≤ 0 → C y z ≤ 0 → C x z ≤ 0
/-- The order with ties broken by the numbers themselves. -/
def LT (C : Int → Int → Int) (x y : Int) : Prop := C x y < 0 ∨ (C x y = 0 ∧ x < y)
section
variable {C : Int → Int → Int}
theorem Cmp.zero (h : Cmp C) {x y : Int} (e : C x y = 0) : C y x = 0 := by
  have h1 := h.sw x y
  have h2 := h.sw y x
  omega
theorem LT.trans (h : Cmp C) {x y z : Int} (a : LT C x y) (b : LT C y z) : LT C x z := by
  have t1 := h.tr x y z
  have t2 := h.tr y z x
  have t3 := h.tr z x y
  have s1 := h.sw x y
  have s2 := h.sw y z
  have s3 := h.sw z x
  have r1 := h.sw y x
  have r2 := h.sw z y
  have r3 := h.sw x z
  unfold LT at *
  omega
theorem LT.of_not (h : Cmp C) {u v : Int} (hs : u < v) (hn : ¬ C v u < 0) : LT C u v := by
  have s1 := h.sw u v
  have s2 := h.sw v u
  unfold LT
  omega
theorem LT.asymm (h : Cmp C) {x y : Int} (a : LT C x y) (b : LT C y x) : False := by
  have s1 := h.sw x y
  have s2 := h.sw y x
  unfold LT at *
  omega
end
/-- Sorted. -/
def Srt (C : Int → Int → Int) (l : List Int) : Prop := l.Pairwise (LT C)
/-- All of the one are numbers below all of the other. -/
def Sep (X Y : List Int) : Prop := ∀ u ∈ X, ∀ v ∈ Y, u < v
section
variable {C : Int → Int → Int} {X Y X' Y' Z : List Int}
theorem Sep.perm (h : Sep X Y) (hx : X'.Perm X) (hy : Y'.Perm Y) : Sep X' Y' := fun u hu v hv => h u (hx.mem_iff.1 hu) v (hy.mem_iff.1 hv)
theorem Sep.sub (h : Sep X Y) (hx : ∀ u ∈ X', u ∈ X) (hy : ∀ u ∈ Y', u ∈ Y) : Sep X' Y' := fun u hu v hv => h u (hx u hu) v (hy v hv)
theorem Srt.left (h : Srt C (X ++ Y)) : Srt C X := (List.pairwise_append.1 h).1
theorem Srt.right (h : Srt C (X ++ Y)) : Srt C Y := (List.pairwise_append.1 h).2.1
theorem Srt.across (h : Srt C (X ++ Y)) : ∀ u ∈ X, ∀ v ∈ Y, LT C u v := (List.pairwise_append.1 h).2.2
theorem Srt.append (h1 : Srt C X) (h2 : Srt C Y) (h3 : ∀ u ∈ X, ∀ v ∈ Y, LT C u v) : Srt C (X ++ Y) := List.pairwise_append.2 ⟨h1, h2, h3⟩
end

/-! A list's elements by number. -/
theorem getD_app1 (X Y : List Int) (i : Nat) (h : i < X.length) : (X ++ Y).getD i 0 = X.getD i 0 := by
  simp only [List.getD_eq_getElem?_getD]
  rw [List.getElem?_append_left h]
theorem getD_app2 (X Y : List Int) (i : Nat) : (X ++ Y).getD (X.length + i) 0 = Y.getD i 0 := by
  simp only [List.getD_eq_getElem?_getD]
  rw [List.getElem?_append_right (by omega), Nat.add_sub_cancel_left]
theorem getD_mem (X : List Int) (i : Nat) (h : i < X.length) : X.getD i 0 ∈ X := by
  rw [List.getD_eq_getElem?_getD, List.getElem?_eq_getElem h]
  exact List.getElem_mem h
theorem set_app1 (X Y : List Int) (i : Nat) (v : Int) (h : i < X.length) : (X ++ Y).set i v = X.set i v ++ Y := List.set_append_left _ _ h
theorem set_app2 (X Y : List Int) (i : Nat) (v : Int) : (X ++ Y).set (X.length + i) v = X ++ Y.set i v := by
  rw [List.set_append_right _ _ (by omega), Nat.add_sub_cancel_left]
theorem split_at (X : List Int) (i : Nat) (h : i < X.length) : X = X.take i ++ X.getD i 0 :: X.drop (i + 1) := by
  rw [List.getD_eq_getElem?_getD, List.getElem?_eq_getElem h]
  simp

/-- Two that stand side by side change places. -/
theorem swap_next (P Q : List Int) (x y : Int) : ((P ++ x :: y :: Q).set P.length y).set (P.length + 1) x = P ++ y :: x :: Q := by
  rw [show P.length = P.length + 0 from rfl, set_app2, Nat.add_assoc, set_app2]
  rfl
theorem swap_prev (P Q : List Int) (x y : Int) : ((P ++ x :: y :: Q).set (P.length + 1) x).set P.length y = P ++ y :: x :: Q := by
  rw [set_app2, show P.length = P.length + 0 from rfl, set_app2]
  rfl
/-- Two rows change places, one by one: one step. -/
theorem swap_step (P A M B Q : List Int) (i : Nat) (hA : i < A.length) (hAB : A.length = B.length) :
    ((P ++ (B.take i ++ A.drop i) ++ M ++ (A.take i ++ B.drop i) ++ Q).set (P.length + i) (B.getD i 0)).set (P.length + A.length + M.length + i) (A.getD i 0) = P ++ (B.take (i + 1) ++ A.drop (i + 1)) ++ M ++ (A.take (i + 1) ++ B.drop (i + 1)) ++ Q := by
  have l1 : (B.take i).length = i := by rw [List.length_take]; omega
  have l2 : (A.take i).length = i := by rw [List.length_take]; omega
  have eA : A.drop i = A.getD i 0 :: A.drop (i + 1) := by
    rw [List.getD_eq_getElem?_getD, List.getElem?_eq_getElem hA]
    exact List.drop_eq_getElem_cons hA
  have eB : B.drop i = B.getD i 0 :: B.drop (i + 1) := by
    rw [List.getD_eq_getElem?_getD, List.getElem?_eq_getElem (by omega)]
    exact List.drop_eq_getElem_cons (by omega)
  have tA : A.take (i + 1) = A.take i ++ [A.getD i 0] := by
    rw [List.getD_eq_getElem?_getD, List.getElem?_eq_getElem hA]
    exact List.take_succ_eq_append_getElem hA
  have tB : B.take (i + 1) = B.take i ++ [B.getD i 0] := by
    rw [List.getD_eq_getElem?_getD, List.getElem?_eq_getElem (by omega)]
    exact List.take_succ_eq_append_getElem (by omega)
  rw [tA, tB, eA, eB]
  generalize A.getD i 0 = x
  generalize B.getD i 0 = y
  have h1 : P ++ (B.take i ++ x :: A.drop (i + 1)) ++ M ++ (A.take i ++ y :: B.drop (i + 1)) ++ Q = (P ++ B.take i) ++ (x :: (A.drop (i + 1) ++ M ++ A.take i ++ y :: B.drop (i + 1) ++ Q)) := by simp
  have n1 : P.length + i = (P ++ B.take i).length + 0 := by rw [List.length_append, l1]; rfl
  rw [h1, n1, set_app2, List.set_cons_zero]
  have h2 : (P ++ B.take i) ++ (y :: (A.drop (i + 1) ++ M ++ A.take i ++ y :: B.drop (i + 1) ++ Q)) = (P ++ B.take i ++ [y] ++ A.drop (i + 1) ++ M ++ A.take i) ++ (y :: (B.drop (i + 1) ++ Q)) := by simp
  have n2 : P.length + A.length + M.length + i = (P ++ B.take i ++ [y] ++ A.drop (i + 1) ++ M ++ A.take i).length + 0 := by
    simp only [List.length_append, l1, l2, List.length_drop, List.length_singleton]; omega
  rw [h2, n2, set_app2, List.set_cons_zero]
  simp

/-! Chunks of s. -/
def ch (s c : Nat) (L : List Int) : List Int := (L.drop (s * c)).take s
theorem ch_len (s c : Nat) (L : List Int) : (ch s c L).length = min s (L.length - s * c) := by unfold ch; rw [List.length_take, List.length_drop]
theorem ch_sub (s c : Nat) (L : List Int) : ∀ u ∈ ch s c L, u ∈ L := fun u hu => List.mem_of_mem_drop (List.mem_of_mem_take hu)
theorem ch_sep {s i j : Nat} {X : List Int} (hX : X.Pairwise (· < ·)) (hij : i < j) : Sep (ch s i X) (ch s j X) := by
  intro u hu v hv
  have e : X = X.take (s * j) ++ X.drop (s * j) := (List.take_append_drop _ _).symm
  rw [e] at hX
  refine (List.pairwise_append.1 hX).2.2 u ?_ v (List.mem_of_mem_take hv)
  have h1 : s * i + s ≤ s * j := by
    have := Nat.mul_le_mul_left s (show i + 1 ≤ j by omega)
    rw [Nat.mul_add, Nat.mul_one] at this
    exact this
  unfold ch at hu
  rw [List.mem_iff_getElem?] at hu ⊢
  obtain ⟨k, hk⟩ := hu
  rw [List.getElem?_take] at hk
  split at hk
  · rename_i hks
    rw [List.getElem?_drop] at hk
    exact ⟨s * i + k, by rw [List.getElem?_take, if_pos (by omega)]; exact hk⟩
  · cases hk
theorem ch_get (s c : Nat) (L : List Int) (k : Nat) : (ch s c L)[k]? = if k < s then L[s * c + k]? else none := by
  unfold ch
  rw [List.getElem?_take, List.getElem?_drop]
/-- A chunk is put in another's place. -/
theorem ch_splice (s k : Nat) (L Z : List Int) (hs : 0 < s) (hz : Z.length = (ch s k L).length) (hk : s * k ≤ L.length) (c : Nat) : ch s c (L.take (s * k) ++ Z ++ L.drop (s * k + Z.length)) = if c = k then Z else ch s c L := by
  rw [ch_len] at hz
  have l1 : (L.take (s * k)).length = s * k := by rw [List.length_take]; omega
  apply List.ext_getElem?
  intro i
  rw [ch_get]
  by_cases hc : c = k
  · subst hc
    rw [if_pos rfl]
    by_cases hi : i < s
    · rw [if_pos hi]
      by_cases hz2 : i < Z.length
      · rw [List.append_assoc, List.getElem?_append_right (by omega), l1, Nat.add_sub_cancel_left, List.getElem?_append_left hz2]
      · rw [List.getElem?_eq_none (l := Z) (by omega), List.getElem?_eq_none]
        simp only [List.length_append, l1, List.length_drop]
        omega
    · rw [if_neg hi, List.getElem?_eq_none (by omega)]
  · rw [if_neg hc, ch_get]
    by_cases hi : i < s
    · rw [if_pos hi, if_pos hi]
      rcases Nat.lt_or_ge c k with h | h
      · have h1 : s * c + s ≤ s * k := by
          have := Nat.mul_le_mul_left s (show c + 1 ≤ k by omega)
          rw [Nat.mul_add, Nat.mul_one] at this
          exact this
        rw [List.append_assoc, List.getElem?_append_left (by omega), List.getElem?_take, if_pos (by omega)]
      · have h1 : s * k + s ≤ s * c := by
          have := Nat.mul_le_mul_left s (show k + 1 ≤ c by omega)
          rw [Nat.mul_add, Nat.mul_one] at this
          exact this
        by_cases hlen : s * k + s ≤ L.length
        · rw [List.getElem?_append_right (by rw [List.length_append, l1]; omega), List.length_append, l1, List.getElem?_drop]
          congr 1
          omega
        · rw [List.getElem?_eq_none, List.getElem?_eq_none (by omega)]
          simp only [List.length_append, l1, List.length_drop]
          omega
    · rw [if_neg hi, if_neg hi]
/-- A chunk of twice the size. -/
theorem ch_twice (s c : Nat) (L : List Int) : ch (2 * s) c L = ch s (2 * c) L ++ ch s (2 * c + 1) L := by
  apply List.ext_getElem?
  intro i
  have e1 : s * (2 * c) = 2 * s * c := by rw [← Nat.mul_assoc, Nat.mul_comm s 2]
  have e2 : s * (2 * c + 1) = 2 * s * c + s := by rw [Nat.mul_add, e1, Nat.mul_one]
  have hl := ch_len s (2 * c) L
  rw [e1] at hl
  rw [ch_get]
  by_cases h1 : i < (ch s (2 * c) L).length
  · rw [List.getElem?_append_left h1, ch_get, e1, if_pos (by omega), if_pos (by omega)]
  · rw [List.getElem?_append_right (by omega), ch_get, e2]
    by_cases h2 : s ≤ L.length - 2 * s * c
    · rw [hl, Nat.min_eq_left h2]
      by_cases h3 : i < 2 * s
      · rw [if_pos h3, if_pos (by omega)]
        congr 1
        omega
      · rw [if_neg h3, if_neg (by omega)]
    · have a1 : L[2 * s * c + i]? = none := List.getElem?_eq_none (by omega)
      have a2 : L[2 * s * c + s + (i - (ch s (2 * c) L).length)]? = none := List.getElem?_eq_none (by omega)
      rw [a1, a2]
      simp
theorem ch_all (s : Nat) (L : List Int) (h : L.length ≤ s) : ch s 0 L = L := by
  unfold ch
  rw [Nat.mul_zero, List.drop_zero, List.take_of_length_le h]
theorem ch_none (s c : Nat) (L : List Int) (h : L.length ≤ s * c) : ch s c L = [] := by
  unfold ch
  rw [List.drop_of_length_le h]; simp
end Go.Proofs.YtndiionpijjdbaaDoor.Stab
