/- What a buffer holds, and what the law's lists hold: plain lists of items; and that what is drained in order leaves what was put in order. -/
import Derived.WalkKit
namespace Go.Proofs.Ytndhmdengadmjaa.BufP

/-- An item: its lba, whether it is gone, its data. -/
abbrev It := Int × Bool × List UInt8

def lbas (l : List It) : List Int := l.map (·.1)
def lk (l : List It) (k : Int) : Option It := l.find? fun x => decide (x.1 = k)
/-- A list of items in which each lba stands once. -/
def Once (l : List It) : Prop := (lbas l).Nodup
/-- An item in the place of the one of its lba. -/
def put0 : List It → It → List It
  | [], x => [x]
  | y :: l, x => if y.1 = x.1 then x :: l else y :: put0 l x
/-- What a buffer holds behind an item that it takes. -/
def add (l : List It) (x : It) : List It := l.filter (fun y => decide (y.1 ≠ x.1)) ++ [x]
/-- What a buffer says to an item: 0 taken, 1 out of range, 3 full. -/
def addCode (most : Int) (l : List It) (x : It) : Int := if x.1 < 0 then 1 else if (lk l x.1).isNone = true ∧ (l.length : Int) = most then 3 else 0

theorem look_cons (x : It) (l : List It) (k : Int) : lk (x :: l) k = if x.1 = k then some x else lk l k := by
  unfold lk
  rw [List.find?_cons]
  by_cases h : x.1 = k <;> simp [h]
theorem look_nil (k : Int) : lk [] k = none := rfl
theorem look_some {l : List It} {k : Int} {x : It} (h : lk l k = some x) : x ∈ l ∧ x.1 = k := by
  unfold lk at h
  exact ⟨List.mem_of_find?_eq_some h, by simpa using List.find?_some h⟩
theorem look_none {l : List It} {k : Int} : lk l k = none ↔ k ∉ lbas l := by
  unfold lk lbas
  simp only [List.find?_eq_none, decide_eq_true_eq, List.mem_map, not_exists, not_and]
theorem look_mem {l : List It} (h : Once l) {x : It} (hx : x ∈ l) : lk l x.1 = some x := by
  induction l with
  | nil => simp at hx
  | cons y l ih =>
    rw [look_cons]
    unfold Once lbas at h
    rw [List.map_cons, List.nodup_cons] at h
    rcases List.mem_cons.1 hx with rfl | hx
    · simp
    · have : y.1 ≠ x.1 := fun e => h.1 (e ▸ List.mem_map_of_mem hx)
      rw [if_neg this]
      exact ih h.2 hx
theorem look_append (l m : List It) (k : Int) : lk (l ++ m) k = (lk l k).or (lk m k) := by
  unfold lk
  rw [List.find?_append]

theorem put0_look (l : List It) (x : It) (k : Int) : lk (put0 l x) k = if x.1 = k then some x else lk l k := by
  induction l with
  | nil => simp [put0, look_cons]
  | cons y l ih =>
    unfold put0
    by_cases h : y.1 = x.1
    · rw [if_pos h, look_cons, look_cons]
      by_cases h2 : x.1 = k
      · rw [if_pos h2, if_pos h2]
      · rw [if_neg h2, if_neg h2, if_neg (by rw [h]; exact h2)]
    · rw [if_neg h, look_cons, look_cons, ih]
      by_cases h2 : x.1 = k
      · rw [if_pos h2, if_pos h2, if_neg (by rw [← h2]; exact h)]
      · rw [if_neg h2, if_neg h2]
theorem put0_len (l : List It) (x : It) : (put0 l x).length ≤ l.length + 1 ∧ l.length ≤ (put0 l x).length := by
  induction l with
  | nil => simp [put0]
  | cons y l ih =>
    unfold put0
    split
    · simp
    · simp only [List.length_cons]; omega
theorem put0_lbas (l : List It) (x : It) (k : Int) : k ∈ lbas (put0 l x) ↔ k = x.1 ∨ k ∈ lbas l := by
  have h := put0_look l x k
  constructor
  · intro hk
    by_cases e : x.1 = k
    · exact .inl e.symm
    · rw [if_neg e] at h
      right
      apply Classical.byContradiction
      intro hn
      rw [look_none.2 hn] at h
      exact look_none.1 h hk
  · intro hk
    apply Classical.byContradiction
    intro hn
    rw [look_none.2 hn] at h
    by_cases e : x.1 = k
    · rw [if_pos e] at h; cases h
    · rw [if_neg e] at h
      rcases hk with rfl | hk
      · exact e rfl
      · exact look_none.1 h.symm hk
theorem put0_once {l : List It} (h : Once l) (x : It) : Once (put0 l x) := by
  induction l with
  | nil => simp [put0, Once, lbas]
  | cons y l ih =>
    have h0 := h
    unfold Once lbas at h
    rw [List.map_cons, List.nodup_cons] at h
    unfold put0
    by_cases e : y.1 = x.1
    · rw [if_pos e]
      unfold Once lbas
      rw [List.map_cons, List.nodup_cons, ← e]
      exact h
    · rw [if_neg e]
      have := ih h.2
      unfold Once at this ⊢
      unfold lbas at this ⊢
      rw [List.map_cons, List.nodup_cons]
      refine ⟨fun hm => ?_, this⟩
      rcases (put0_lbas l x y.1).1 hm with h1 | h1
      · exact e h1
      · exact h.1 h1
/-- In index form, as the program does it. -/
theorem put0_hit {l : List It} {x : It} {i : Nat} (hi : i < l.length) (hno : ∀ j, j < i → (l.getD j (0, false, [])).1 ≠ x.1) (he : (l.getD i (0, false, [])).1 = x.1) : put0 l x = l.set i x := by
  induction l generalizing i with
  | nil => simp at hi
  | cons y l ih =>
    unfold put0
    cases i with
    | zero => rw [if_pos (by simpa using he)]; rfl
    | succ i =>
      have h0 := hno 0 (by omega)
      rw [if_neg (by simpa using h0), List.set_cons_succ, ih (by simpa using hi) (fun j hj => by simpa using hno (j + 1) (by omega)) (by simpa using he)]
theorem put0_miss {l : List It} {x : It} (hno : ∀ j, j < l.length → (l.getD j (0, false, [])).1 ≠ x.1) : put0 l x = l ++ [x] := by
  induction l with
  | nil => rfl
  | cons y l ih =>
    have h0 := hno 0 (by simp)
    unfold put0
    rw [if_neg (by simpa using h0), ih (fun j hj => by simpa using hno (j + 1) (by simpa using hj))]
    rfl

theorem once_filter {l : List It} (h : Once l) (p : It → Bool) : Once (l.filter p) := by
  unfold Once lbas at *
  exact (List.filter_sublist.map _).nodup h
theorem look_filter (l : List It) (x k : Int) : lk (l.filter fun y => decide (y.1 ≠ x)) k = if k = x then none else lk l k := by
  induction l with
  | nil => simp [look_nil]
  | cons y l ih =>
    rw [List.filter_cons]
    by_cases h : y.1 = x
    · simp only [h, ne_eq, not_true_eq_false, decide_false, Bool.false_eq_true, if_false]
      rw [show (List.filter (fun y => decide (¬y.fst = x)) l) = (l.filter fun y => decide (y.1 ≠ x)) from rfl, ih, look_cons]
      by_cases h2 : k = x
      · simp [h2]
      · rw [if_neg h2, if_neg h2, if_neg (by rw [h]; exact fun e => h2 e.symm)]
    · simp only [h, ne_eq, not_false_eq_true, decide_true, if_true]
      rw [show (List.filter (fun y => decide (¬y.fst = x)) l) = (l.filter fun y => decide (y.1 ≠ x)) from rfl, look_cons, ih, look_cons]
      by_cases h2 : k = x
      · subst h2
        rw [if_neg h, if_pos rfl, if_pos rfl]
      · rw [if_neg h2, if_neg h2]
theorem add_look (l : List It) (x : It) (k : Int) : lk (add l x) k = if x.1 = k then some x else lk l k := by
  unfold add
  rw [look_append, look_filter, look_cons, look_nil]
  by_cases h : x.1 = k
  · simp [h]
  · rw [if_neg (fun e => h e.symm), if_neg h, if_neg h, Option.or_none]
theorem add_once {l : List It} (h : Once l) (x : It) : Once (add l x) := by
  have h1 := once_filter h (fun y => decide (y.1 ≠ x.1))
  unfold add
  unfold Once lbas at *
  rw [List.map_append, List.nodup_append]
  refine ⟨h1, by simp, fun a ha b hb => ?_⟩
  simp only [List.map_cons, List.map_nil, List.mem_singleton] at hb
  subst hb
  obtain ⟨y, hy, rfl⟩ := List.mem_map.1 ha
  have := (List.mem_filter.1 hy).2
  simpa using this
theorem filter_len_hit {l : List It} (h : Once l) {k : Int} {y : It} (hk : lk l k = some y) : (l.filter fun y => decide (y.1 ≠ k)).length + 1 = l.length := by
  induction l with
  | nil => cases hk
  | cons z l ih =>
    have h0 := h
    unfold Once lbas at h
    rw [List.map_cons, List.nodup_cons] at h
    rw [look_cons] at hk
    rw [List.filter_cons]
    by_cases e : z.1 = k
    · have hf : l.filter (fun y => decide (y.1 ≠ k)) = l := List.filter_eq_self.2 (fun a ha => by
        simp only [ne_eq, decide_eq_true_eq]
        intro e2
        exact h.1 (by rw [e, ← e2]; exact List.mem_map_of_mem ha))
      simp only [e, ne_eq, not_true_eq_false, decide_false, Bool.false_eq_true, if_false]
      rw [show (List.filter (fun y => decide (¬y.fst = k)) l) = (l.filter fun y => decide (y.1 ≠ k)) from rfl, hf]
      simp
    · rw [if_neg e] at hk
      simp only [e, ne_eq, not_false_eq_true, decide_true, if_true]
      rw [show (List.filter (fun y => decide (¬y.fst = k)) l) = (l.filter fun y => decide (y.1 ≠ k)) from rfl, List.length_cons, ih h.2 hk]
      simp
theorem filter_miss {l : List It} {k : Int} (hk : lk l k = none) : (l.filter fun y => decide (y.1 ≠ k)) = l :=
  List.filter_eq_self.2 (fun a ha => by
    simp only [ne_eq, decide_eq_true_eq]
    intro e2
    exact look_none.1 hk (by rw [← e2]; exact List.mem_map_of_mem ha))
theorem add_len {l : List It} (h : Once l) (x : It) : (add l x).length = if (lk l x.1).isNone = true then l.length + 1 else l.length := by
  unfold add
  rw [List.length_append]
  cases hk : lk l x.1 with
  | none => rw [filter_miss hk]; simp
  | some y => have := filter_len_hit h hk; simp only [List.length_singleton, Option.isNone_some, Bool.false_eq_true, if_false]; omega

theorem once_drop {l : List It} (h : Once l) (k : Nat) : Once (l.drop k) := by
  unfold Once lbas at *
  exact ((List.drop_sublist k l).map _).nodup h

/-- What is drained goes where it is kept. -/
def puts (l m : List It) : List It := m.foldl put0 l
theorem puts_snoc (l m : List It) (x : It) : puts l (m ++ [x]) = put0 (puts l m) x := by simp [puts, List.foldl_append]
theorem puts_once {l : List It} (h : Once l) (m : List It) : Once (puts l m) := by
  induction m generalizing l with
  | nil => exact h
  | cons x m ih => exact ih (put0_once h x)
theorem puts_len (l m : List It) : (puts l m).length ≤ l.length + m.length := by
  induction m generalizing l with
  | nil => simp [puts]
  | cons x m ih =>
    have h1 := ih (put0 l x)
    have h2 := (put0_len l x).1
    simp only [List.length_cons]
    unfold puts at h1 ⊢
    rw [List.foldl_cons]
    omega
theorem puts_look {m : List It} (hm : Once m) (l : List It) (k : Int) : lk (puts l m) k = (lk m k).or (lk l k) := by
  induction m generalizing l with
  | nil => rfl
  | cons x m ih =>
    have h0 := hm
    unfold Once lbas at hm
    rw [List.map_cons, List.nodup_cons] at hm
    have : puts l (x :: m) = puts (put0 l x) m := rfl
    rw [this, ih hm.2, put0_look, look_cons]
    by_cases e : x.1 = k
    · rw [if_pos e, if_pos e, look_none.2 (by rw [← e]; exact hm.1)]
      rfl
    · rw [if_neg e, if_neg e]

/-- Of what is put each is in the buffer or was drained. -/
def Told (W B H : List It) : Prop := Once W ∧ Once B ∧ Once H ∧ ∀ k, lk W k = (lk B k).or (lk H k)
theorem told_nil : Told [] [] [] := ⟨by simp [Once, lbas], by simp [Once, lbas], by simp [Once, lbas], fun _ => rfl⟩
theorem told_put {W B H : List It} (h : Told W B H) (x : It) : Told (put0 W x) (add B x) H := by
  obtain ⟨h1, h2, h3, h4⟩ := h
  refine ⟨put0_once h1 x, add_once h2 x, h3, fun k => ?_⟩
  rw [put0_look, add_look, h4 k]
  by_cases e : x.1 = k <;> simp [e]
theorem told_drain {W B H : List It} (h : Told W B H) (j : Nat) : Told W (B.drop j) (puts H (B.take j)) := by
  obtain ⟨h1, h2, h3, h4⟩ := h
  have h5 : Once (B.take j) := by
    unfold Once lbas at *
    exact ((List.take_sublist j B).map _).nodup h2
  refine ⟨h1, once_drop h2 j, puts_once h3 _, fun k => ?_⟩
  rw [puts_look h5, h4 k]
  have hs : lk B k = (lk (B.take j) k).or (lk (B.drop j) k) := by rw [← look_append, List.take_append_drop]
  rw [hs]
  cases ha : lk (B.take j) k with
  | none => simp
  | some x =>
    have : lk (B.drop j) k = none := by
      rw [look_none]
      intro hm
      have hx := look_some ha
      unfold Once at h2
      rw [← List.take_append_drop j B] at h2
      unfold lbas at h2
      rw [List.map_append, List.nodup_append] at h2
      exact h2.2.2 k (by rw [← hx.2]; exact List.mem_map_of_mem hx.1) k hm rfl
    rw [this]; rfl
theorem told_end {W H : List It} (h : Told W [] H) : W.length = H.length ∧ ∀ x ∈ W, x ∈ H := by
  obtain ⟨h1, h2, h3, h4⟩ := h
  have hk : ∀ k, lk W k = lk H k := fun k => by rw [h4 k]; rfl
  constructor
  · have hp : (lbas W).Perm (lbas H) := by
      refine (List.perm_ext_iff_of_nodup h1 h3).2 fun k => ?_
      constructor
      · intro hm
        apply Classical.byContradiction
        intro hn
        exact look_none.1 ((hk k).trans (look_none.2 hn)) hm
      · intro hm
        apply Classical.byContradiction
        intro hn
        exact look_none.1 ((hk k).symm.trans (look_none.2 hn)) hm
    simpa [lbas] using hp.length_eq
  · intro x hx
    have := look_mem h1 hx
    rw [hk] at this
    exact (look_some this).1
end Go.Proofs.Ytndhmdengadmjaa.BufP
