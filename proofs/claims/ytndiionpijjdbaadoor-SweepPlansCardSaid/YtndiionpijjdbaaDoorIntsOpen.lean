/- A slice of ints that came in; appending an int to a row of the call's own. -/
import Derived.Test.YtndiionpijjdbaaDoorScript
import Derived.Test.YtndiionpijjdbaaDoorI64
import Derived.WalkLawsBesides
set_option linter.unusedVariables false
namespace Go.Proofs.YtndiionpijjdbaaDoor
open Go.ChangeShapes Go.WideShapes Go.Deep Go.RowKit

section
variable {H : Type} {enc : TypeId × Value → H} {P : Program} {W : World}
theorem open_ints_in {r : Reach} {b0 : Nat} {t e : TypeId} {v : Value} {d : DataW H} {p : List MemPlace} {ts : List TypeId} {ds : List (DataW H)} {j : Nat}
    (ht : P.underlying t = some (.slice e)) (he : P.underlying e = some (.int .i64)) (hc : P.cellsOf e = 1) (hb : P.bytesOf e = 8)
    (hval : Value.okWide P W r b0 t v) (h : DataW.Trod enc P W 0 (fun _ => true) true t v d p) (hsz : (DataW.weightsEach P ts ds).all (· ≤ reachBytes) = true) (hts : ts[j]? = some t) (hds : ds[j]? = some d) :
    ∃ (A : Option Addr) (l : List Int) (n cap : Nat), v = .slice A n cap ∧ n = l.length ∧ n ≤ cap ∧ cap ≤ 17592186043904 ∧ (∀ x ∈ l, -9223372036854775808 ≤ x ∧ x ≤ 9223372036854775807) ∧ Rd W A (I64.i64v l) := by
  obtain ⟨a0, len0, cap0, rfl⟩ := okWide_slice ht hval
  obtain ⟨fuel, hf⟩ := h
  rcases open_ints ht he hc hf with ⟨hcs, _⟩ | ⟨x, len, cap, zs, hcs, _, hl, hm, hz, hx, hcell, hwz⟩
  · simp [Value.cells] at hcs
    obtain ⟨rfl, rfl, rfl⟩ := hcs
    exact ⟨none, [], 0, 0, rfl, rfl, Nat.le_refl _, by omega, by simp, Rd.nil _ _⟩
  · simp [Value.cells] at hcs
    obtain ⟨rfl, rfl, rfl⟩ := hcs
    have hzl : zs.length = cap0 := by simpa using hz
    simp only [Prod.mk.injEq] at hx
    obtain ⟨rfl, -⟩ := hx
    have hw0 := sized_slice hsz hts hds ht
    simp only [lits, List.length_map, List.length_take, List.length_drop, hb, reachBytes] at hw0
    refine ⟨some x, zs.take len0, len0, cap0, rfl, by simp; omega, hl, by omega, fun y hy => bounds_i64 (hwz y (List.mem_of_mem_take hy)), ?_⟩
    rcases Nat.eq_zero_or_pos len0 with h0 | h0
    · subst h0; exact Rd.nil _ _
    · obtain ⟨b, off, spot⟩ := x
      have hc0 := hcell 0 (by omega)
      have hspot : spot = none := by simpa [Addr.add] using World.cell?_spot hc0
      subst hspot
      refine .inr ⟨b, off, rfl, fun i u hu => ?_⟩
      have hi : i < len0 := by
        have := (List.getElem?_eq_some_iff.1 hu).1
        simp only [I64.i64v, List.length_map, List.length_take] at this
        omega
      have hci := hcell i (by omega)
      rw [Addr.add_lit] at hci
      rw [hci]
      simp only [I64.i64v, List.getElem?_map, List.getElem?_take, if_pos hi, List.getElem?_eq_getElem (show i < zs.length by omega), Option.map_some, Option.some.injEq] at hu
      rw [← hu]
      simp [List.getD_eq_getElem?_getD, show i < zs.length by omega]
end

theorem i64v_one' (l : List Int) : ∀ u ∈ I64.i64v l, u.oneCell' = true := by
  intro u hu
  obtain ⟨x, _, rfl⟩ := List.mem_map.1 hu
  rfl
theorem i64v_snoc (l : List Int) (x : Int) : I64.i64v (l ++ [x]) = I64.i64v l ++ [.int .i64 x] := by simp [I64.i64v]
theorem wpList_int (w : World) {ops : Array Oper} {rest : List Oper} {o : Oper} {a : Act} {Q : Exit → Act → World → Prop} (hgd : o.guard = none) (s x : Operand)
    (ho : o.op = .call { callee := .builtin .append, args := #[s, x], argTypes := #[25, 25] })
    (base : Nat) (v : Value) (n : Nat) (xs : List Int) (hs : a.eval s = v) (hown : w.ownsRow base 3 1 v n (I64.i64v xs))
    (A : Option Addr) (z : Int) (hx : a.eval x = .slice A 1 1) (hr : Rd w A [.int .i64 z]) (hb : n + 1 ≤ 17592186044416) (hbase : base ≤ w.heap.size)
    (h : ∀ (A' : Option Addr) (c' : Nat) (w' : World), n + 1 ≤ c' → w'.ownsRow base 3 1 (.slice A' (n + 1) c') (n + 1) (I64.i64v (xs ++ [z])) → Below base w w' → wpList Tryd.prog ops Q rest (a.put o.dst (.slice A' (n + 1) c')) w') : wpList Tryd.prog ops Q (o :: rest) a w := by
  obtain ⟨i0, hi0, hz0, hz1, hz2⟩ := info_parts I64.int_info
  refine wpList_append_rd w hgd s x 25 ho base 3 i0 _ 8 Tryd.underlying25 hi0 hz0 hz1 hz2 rfl v n (I64.i64v xs) hs hown A 1 1 [.int .i64 z] hx rfl hr (by intro u hu; simp at hu; subst hu; rfl) (by simp only [maxLen]; omega) (by omega) hbase ?_
  intro v' w' hown' hg
  have hb' := below_own (Below.refl base w) hown hg hbase (Nat.le_refl _)
  rw [← i64v_snoc] at hown'
  obtain ⟨A', c', rfl, hc', -, -, -, -⟩ := own_form hown'
  exact h A' c' w' hc' hown' hb'
end Go.Proofs.YtndiionpijjdbaaDoor
