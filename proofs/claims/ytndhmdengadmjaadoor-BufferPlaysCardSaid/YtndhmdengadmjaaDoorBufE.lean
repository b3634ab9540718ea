/- A buffer's list and map together, plainly. -/
import Derived.Test.YtndhmdengadmjaaDoorBufW
set_option linter.unusedVariables false
namespace Go.Proofs.YtndhmdengadmjaaDoor.BufW
open Go.RowKit I64 IdMap Ring BufP

def errV (k : Int) : Value := .iface 28 (.int .i64 k)
/-- Where the link of lba k lies. -/
def fE (E : List (Nat × It)) (k : Int) : Option Nat := (E.find? fun e => decide (e.2.1 = k)).map (·.1)
theorem mapE {w : World} {m k : Nat} {E : List (Nat × It)} (h : MapAt w m k fun k => (E.find? fun e => decide (e.2.1 = k)).map (·.1)) : MapAt w m k (fE E) := h
theorem fE_cons (e : Nat × It) (E : List (Nat × It)) (k : Int) : fE (e :: E) k = if e.2.1 = k then some e.1 else fE E k := by
  unfold fE
  rw [List.find?_cons]
  by_cases h : e.2.1 = k <;> simp [h]
theorem fE_append (E F : List (Nat × It)) (k : Int) : fE (E ++ F) k = (fE E k).or (fE F k) := by
  induction E with
  | nil => simp [fE]
  | cons e E ih =>
    rw [List.cons_append, fE_cons, fE_cons, ih]
    by_cases h : e.2.1 = k <;> simp [h]
theorem fE_none {E : List (Nat × It)} {k : Int} : fE E k = none ↔ lk (E.map (·.2)) k = none := by
  induction E with
  | nil => simp [fE, lk]
  | cons e E ih =>
    rw [fE_cons, List.map_cons, look_cons]
    by_cases h : e.2.1 = k
    · rw [if_pos h, if_pos h]; constructor <;> intro h <;> cases h
    · rw [if_neg h, if_neg h]; exact ih
theorem fE_split {E : List (Nat × It)} {k : Int} {n : Nat} (h : fE E k = some n) : ∃ l e m, E = l ++ e :: m ∧ e.1 = n ∧ e.2.1 = k := by
  induction E with
  | nil => cases h
  | cons e E ih =>
    rw [fE_cons] at h
    by_cases he : e.2.1 = k
    · rw [if_pos he] at h
      exact ⟨[], e, E, rfl, by injection h, he⟩
    · rw [if_neg he] at h
      obtain ⟨l, e', m, rfl, h1, h2⟩ := ih h
      exact ⟨e :: l, e', m, rfl, h1, h2⟩
theorem once_split {l m : List (Nat × It)} {e : Nat × It} (h : Once ((l ++ e :: m).map (·.2))) : fE (l ++ m) e.2.1 = none := by
  unfold Once lbas at h
  rw [List.map_append, List.map_cons, List.map_append, List.map_cons] at h
  have h2 := (List.Perm.nodup_iff (List.perm_middle)).1 h
  rw [fE_none, look_none]
  intro hm
  apply (List.nodup_cons.1 h2).1
  unfold lbas at hm
  rw [List.map_append, List.map_append] at hm
  exact hm
theorem fE_cut {l m : List (Nat × It)} {e : Nat × It} (h : Once ((l ++ e :: m).map (·.2))) (k : Int) : fE (l ++ m) k = if k = e.2.1 then none else fE (l ++ e :: m) k := by
  by_cases hk : k = e.2.1
  · rw [if_pos hk, hk]; exact once_split h
  · rw [if_neg hk, fE_append, fE_append, fE_cons, if_neg (fun e => hk e.symm)]
theorem filter_split {l m : List (Nat × It)} {e : Nat × It} (h : Once ((l ++ e :: m).map (·.2))) : ((l ++ e :: m).map (·.2)).filter (fun y => decide (y.1 ≠ e.2.1)) = (l ++ m).map (·.2) := by
  have hn := once_split h
  rw [fE_none] at hn
  have h1 := filter_miss hn
  rw [List.map_append, List.filter_append] at h1 ⊢
  rw [List.map_cons, List.filter_cons]
  simp only [ne_eq, not_true_eq_false, decide_false, Bool.false_eq_true, if_false]
  rw [List.map_append]
  exact h1
theorem fE_add {E1 : List (Nat × It)} {n : Nat} {x : It} (h : fE E1 x.1 = none) (k : Int) : fE (E1 ++ [(n, x)]) k = if k = x.1 then some n else fE E1 k := by
  rw [fE_append, fE_cons]
  by_cases hk : k = x.1
  · subst hk; simp [h]
  · rw [if_neg hk, if_neg (fun e => hk e.symm)]; simp [fE]

/-- What a buffer is behind an item that it took. -/
theorem buf_add {w : World} {B g m r n : Nat} {most : Int} {L : List It} {E E1 : List (Nat × It)} {nx pv : Nat → Nat} {x : It} {k : Nat}
    (hg : Bk w g 75 #[.int .i64 most, ptr r, .map (some m)]) (hm : B ≤ m) (hR : RingAt w B r (E1 ++ [(n, x)]) nx pv) (hM : MapAt w m k (upf (fE E) x.1 (some n))) (hk : k = (add L x).length)
    (hE : E.map (·.2) = L) (h1 : E1.map (·.2) = L.filter fun y => decide (y.1 ≠ x.1)) (h2 : ∀ q, fE E1 q = if q = x.1 then none else fE E q) (hO : Once L) (hl : ((add L x).length : Int) ≤ most) (h16 : most ≤ 16) (hx : ∀ y ∈ L, 0 ≤ y.1 ∧ y.1 ≤ 9223372036854775807) (hx0 : 0 ≤ x.1 ∧ x.1 ≤ 9223372036854775807) : BufAt w B g most (add L x) := by
  refine ⟨r, m, E1 ++ [(n, x)], nx, pv, hg, hm, hR, ?_, ?_, add_once hO x, hl, h16, fun y hy => ?_⟩
  · rw [← hk]
    refine hM.congr fun q _ _ => ?_
    have e1 : fE E1 x.1 = none := by rw [h2, if_pos rfl]
    show fE (E1 ++ [(n, x)]) q = _
    rw [fE_add e1, h2]
    unfold upf
    by_cases hq : q = x.1
    · rw [if_pos hq, if_pos hq]
    · rw [if_neg hq, if_neg hq, if_neg hq]
  · rw [List.map_append, h1]; rfl
  · unfold add at hy
    rcases List.mem_append.1 hy with hy | hy
    · exact hx y (List.mem_filter.1 hy).1
    · have : y = x := by simpa using hy
      subst this
      exact hx0
end Go.Proofs.YtndhmdengadmjaaDoor.BufW
