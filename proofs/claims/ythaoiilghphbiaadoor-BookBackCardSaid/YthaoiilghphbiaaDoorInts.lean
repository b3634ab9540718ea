/- Appending an int to a row of the call's own. -/
import Derived.Test.YthaoiilghphbiaaDoorBookW
import Derived.Test.YthaoiilghphbiaaDoorScript
set_option linter.unusedVariables false
namespace Go.Proofs.YthaoiilghphbiaaDoor
open Go.RowKit BookW

theorem i64v_one (l : List Int) : ∀ u ∈ i64v l, u.oneCell' = true := by
  intro u hu
  obtain ⟨x, _, rfl⟩ := List.mem_map.1 hu
  rfl
theorem i64v_snoc (l : List Int) (x : Int) : i64v (l ++ [x]) = i64v l ++ [.int .i64 x] := by simp [i64v]

theorem wpList_int (w : World) {ops : Array Oper} {rest : List Oper} {o : Oper} {a : Act} {Q : Exit → Act → World → Prop} (hgd : o.guard = none) (s x : Operand)
    (ho : o.op = .call { callee := .builtin .append, args := #[s, x], argTypes := #[31, 31] })
    (base : Nat) (v : Value) (n : Nat) (xs : List Int) (hs : a.eval s = v) (hown : w.ownsRow base 3 1 v n (i64v xs))
    (A : Option Addr) (z : Int) (hx : a.eval x = .slice A 1 1) (hr : Rd w A [.int .i64 z]) (hb : n + 1 ≤ 17592186044416) (hbase : base ≤ w.heap.size)
    (h : ∀ (A' : Option Addr) (c' : Nat) (w' : World), n + 1 ≤ c' → w'.ownsRow base 3 1 (.slice A' (n + 1) c') (n + 1) (i64v (xs ++ [z])) → Below base w w' → wpList Tryd.prog ops Q rest (a.put o.dst (.slice A' (n + 1) c')) w') : wpList Tryd.prog ops Q (o :: rest) a w := by
  obtain ⟨i0, hi0, hz0, hz1, hz2⟩ := info_parts int_info
  refine wpList_append_rd w hgd s x 31 ho base 3 i0 _ 8 Tryd.underlying31 hi0 hz0 hz1 hz2 rfl v n (i64v xs) hs hown A 1 1 [.int .i64 z] hx rfl hr (by intro u hu; simp at hu; subst hu; rfl) (by simp only [maxLen]; omega) (by omega) hbase ?_
  intro v' w' hown' hg
  have hb' := below_own (Below.refl base w) hown hg hbase (Nat.le_refl _)
  rw [← i64v_snoc] at hown'
  obtain ⟨A', c', rfl, hc', -, -, -, -⟩ := own_form hown'
  exact h A' c' w' hc' hown' hb'
end Go.Proofs.YthaoiilghphbiaaDoor
