/- A slice of blocks (a bool and two ints each) that came in. -/
import Derived.Test.YtndiionpijjdbaaDoorScript
import Derived.Test.YtndiionpijjdbaaDoorSweepC
set_option linter.unusedVariables false
namespace Go.Proofs.YtndiionpijjdbaaDoor.SwW
open Go.ChangeShapes Go.WideShapes Go.Deep Go.RowKit

/-- A block's numbers are ints. -/
def inB (x : Blk) : Prop := (-9223372036854775808 ≤ x.lv ∧ x.lv ≤ 9223372036854775807) ∧ (-9223372036854775808 ≤ x.wr ∧ x.wr ≤ 9223372036854775807)
section
variable {H : Type} {enc : TypeId × Value → H} {P : Program} {w : World}
theorem open_blocks {r : Reach} {b0 : Nat} {t e ti tb : TypeId} {f0 f1 f2 : Field} {v : Value} {d : DataW H} {p : List MemPlace} {ts : List TypeId} {ds : List (DataW H)} {jj : Nat} (ht : P.underlying t = some (.slice e)) (he : P.underlying e = some (.struct #[f0, f1, f2]))
    (h0 : f0.type = tb) (h1 : f1.type = ti) (h2 : f2.type = ti) (hone : oneCellFields P #[f0, f1, f2] = true) (hC : P.cellsOf e = 3) (hBy : P.bytesOf e = 24) (htb : P.underlying tb = some .bool) (hti : P.underlying ti = some (.int .i64))
    (hval : Value.okWide P w r b0 t v) (h : DataW.Trod enc P w 0 (fun _ => true) true t v d p) (hsz : (DataW.weightsEach P ts ds).all (· ≤ reachBytes) = true) (hts : ts[jj]? = some t) (hds : ds[jj]? = some d) :
    ∃ (A : Option Addr) (n cap : Nat) (S : Nat → Blk), v = .slice A n cap ∧ n ≤ cap ∧ n * 24 ≤ 140737488351232 ∧ (∀ i, inB (S i)) ∧ RdB w A n S w.heap.size := by
  obtain ⟨a0, len0, cap0, rfl⟩ := okWide_slice ht hval
  obtain ⟨fuel, hf⟩ := h
  have hdef : inB ⟨false, 0, 0⟩ := ⟨⟨by decide, by decide⟩, ⟨by decide, by decide⟩⟩
  rcases open_slice_fields ht he hone (by simpa using hC) hf with ⟨hcs, -⟩ | ⟨a, len, cap, m, D, Pl, hcs, -, hl, hm, hmm, hx, hi⟩
  · simp [Value.cells] at hcs
    obtain ⟨rfl, rfl, rfl⟩ := hcs
    exact ⟨none, 0, 0, fun _ => ⟨false, 0, 0⟩, rfl, Nat.le_refl _, by omega, fun _ => hdef, fun i hi => absurd hi (Nat.not_lt_zero i)⟩
  · simp [Value.cells] at hcs
    obtain ⟨rfl, rfl, rfl⟩ := hcs
    simp only [if_true] at hmm
    subst hmm
    simp only [Prod.mk.injEq] at hx
    obtain ⟨rfl, -⟩ := hx
    have hw0 := sized_slice hsz hts hds ht
    simp only [List.length_map, List.length_range, hBy, reachBytes] at hw0
    have key : ∀ i, ∃ s : Blk, inB s ∧ (i < len0 → ∃ b off, some a = some ⟨b, off, none⟩ ∧ b < w.heap.size ∧ w.cell? ⟨b, off + i * 3, none⟩ = some (.bool s.u) ∧ w.cell? ⟨b, off + i * 3 + 1, none⟩ = some (.int .i64 s.lv) ∧
        w.cell? ⟨b, off + i * 3 + 2, none⟩ = some (.int .i64 s.wr)) := by
      intro i
      by_cases hlt : i < len0
      · obtain ⟨ys, nn, -, -, hyl, hff⟩ := hi i (by omega)
        obtain ⟨u0, y0, c0, e0, t0⟩ := hff 0 f0 rfl
        obtain ⟨u1, y1, c1, e1, t1⟩ := hff 1 f1 rfl
        obtain ⟨u2, y2, c2, e2, t2⟩ := hff 2 f2 rfl
        rw [h0] at t0
        rw [h1] at t1
        rw [h2] at t2
        obtain ⟨z0, hz0, -⟩ := DataW.trod_bool htb t0
        obtain ⟨z1, hz1, -, hw1'⟩ := DataW.trod_int hti t1
        obtain ⟨z2, hz2, -, hw2'⟩ := DataW.trod_int hti t2
        simp only [List.cons.injEq, and_true] at hz0 hz1 hz2
        subst hz0 hz1 hz2
        obtain ⟨ys', nn', -, -, -, hff'⟩ := hi 0 (by omega)
        obtain ⟨u0', y0', c0', -, -⟩ := hff' 0 f0 rfl
        obtain ⟨b, off, spot⟩ := a
        have hspot : spot = none := by simpa [Addr.add] using World.cell?_spot c0'
        subst hspot
        have hsize : (#[f0, f1, f2] : Array Field).size = 3 := rfl
        rw [hsize, Addr.add_lit] at c0 c1 c2
        refine ⟨⟨z0, z1, z2⟩, ⟨bounds_i64 hw1', bounds_i64 hw2'⟩, fun _ => ⟨b, off, rfl, ?_, ?_, ?_, ?_⟩⟩
        · exact World.block_lt_of_cell? w _ c0
        · simpa using c0
        · rw [Nat.add_assoc]; exact c1
        · rw [Nat.add_assoc]; exact c2
      · exact ⟨⟨false, 0, 0⟩, hdef, fun h => absurd h hlt⟩
    obtain ⟨S, hS⟩ := Classical.axiomOfChoice key
    exact ⟨some a, len0, _, S, rfl, hl, by omega, fun i => (hS i).1, fun i hi => (hS i).2 hi⟩
end
end Go.Proofs.YtndiionpijjdbaaDoor.SwW
