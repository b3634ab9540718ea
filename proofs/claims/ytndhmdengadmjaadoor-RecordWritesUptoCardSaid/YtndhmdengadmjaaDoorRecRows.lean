/- How batches are read. -/
import Derived.Test.YtndhmdengadmjaaDoorRecNum
set_option linter.unusedVariables false
namespace Go.Proofs.YtndhmdengadmjaaDoor.RecW
open Go.RowKit Rec

/-- An entry as it reads. -/
abbrev E3 := Int × Int × Int
def RdE (w : World) (v : Value) (es : List E3) : Prop :=
  ∃ A c, v = .slice A es.length c ∧ ∀ (i : Nat) e, es[i]? = some e → ∃ b off, A = some ⟨b, off, none⟩ ∧ w.cell? ⟨b, off + i * 3, none⟩ = some (.int .i64 e.1) ∧ w.cell? ⟨b, off + i * 3 + 1, none⟩ = some (.int .i64 e.2.1) ∧ w.cell? ⟨b, off + i * 3 + 2, none⟩ = some (.int .i64 e.2.2)
def RdB (w : World) (v : Value) (ls : List (List E3)) : Prop :=
  ∃ A c, v = .slice A ls.length c ∧ ∀ (i : Nat) es, ls[i]? = some es → ∃ b off ve, A = some ⟨b, off, none⟩ ∧ w.cell? ⟨b, off + i, none⟩ = some ve ∧ RdE w ve es
theorem RdE.below {w w' : World} {v : Value} {es : List E3} (h : RdE w v es) (hb : Below w.heap.size w w') : RdE w' v es := by
  obtain ⟨A, c, hv, h⟩ := h
  refine ⟨A, c, hv, fun i e hi => ?_⟩
  obtain ⟨b, off, hA, a1, a2, a3⟩ := h i e hi
  exact ⟨b, off, hA, (hb.cell (World.block_lt_of_cell? w _ a1)).trans a1, (hb.cell (World.block_lt_of_cell? w _ a2)).trans a2, (hb.cell (World.block_lt_of_cell? w _ a3)).trans a3⟩
theorem RdB.below {w w' : World} {v : Value} {ls : List (List E3)} (h : RdB w v ls) (hb : Below w.heap.size w w') : RdB w' v ls := by
  obtain ⟨A, c, hv, h⟩ := h
  refine ⟨A, c, hv, fun i e hi => ?_⟩
  obtain ⟨b, off, ve, hA, a1, a2⟩ := h i e hi
  exact ⟨b, off, ve, hA, (hb.cell (World.block_lt_of_cell? w _ a1)).trans a1, a2.below hb⟩
end Go.Proofs.YtndhmdengadmjaaDoor.RecW
