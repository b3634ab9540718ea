/- The walk of granarylaw1.poolFact. -/
import Derived.Test.YthaoiilghphbiaaDoorPoolOps
set_option linter.unusedVariables false
namespace Go.Proofs.YthaoiilghphbiaaDoor.PoolW
open Go.RowKit HeapP HeapW I64

theorem lt_fact : lt (0, 0) (0, 1) := .inr ⟨rfl, by omega⟩

attribute [local irreducible] swp el lt EB Hp flat zeros fcode PoolAt

theorem poolFact_any (w : World) : Calls Tryd.prog 18 #[] w fun e w' => e = .returned (.bool true) ∧ Below w.heap.size w w' := by
  go_enter Tryd.func18, Tryd.ntmps18
  go_wp2_with fail
  refine (new_ok 2 0 (by omega) (by omega) (by omega) (by omega) (fun _ => False) _ (fun _ h => h.elim)).mono ?_
  rintro e w1 ⟨g, rfl, hp1, hb1⟩
  go_wp2_with fail
  refine (take_any w.heap.size (fun _ => False) g 2 0 [0, 0] [0, 0] _ hp1).mono ?_
  rintro e w2 ⟨hk2, ⟨h, -⟩ | ⟨-, h, -⟩ | ⟨-, b, hb, hb0, hmin, rfl, hp2⟩⟩
  · exact absurd h (by decide)
  · exact absurd (h 0 (by omega)) (by decide)
  have hb00 : b = 0 := by
    by_cases e : b = 1
    · subst e
      exact absurd lt_fact (hmin 0 (by omega) rfl)
    · omega
  subst hb00
  have hw2 := hb1.trans hk2.1
  clear hb0 hmin hk2 hp1 hb1
  go_wp2_with fail
  refine (count_any w.heap.size (fun _ => False) g 2 0 _ _ _ hp2).mono ?_
  rintro e w3 ⟨rfl, hb3⟩
  have e0 : ((([0, 0] : List Int).set 0 1).count 0 : Int) = 1 := by decide
  have e1 : ((([0, 0] : List Int).set 0 1).count 1 : Int) = 1 := by decide
  rw [e0, e1]
  clear e0 e1
  go_wp2_with fail
  go_ret
  exact ⟨rfl, hw2.trans (hb3.mono hw2.size)⟩
end Go.Proofs.YthaoiilghphbiaaDoor.PoolW
