/- A region that draws its order and ends in writing: its reads in the text's order, at one world by name. -/
import Derived.Test.YtlaipigilikmbaaMa1
import Derived.StillTailTactics
namespace Go.Proofs.Ytlaipigilikmbaa
open Go.RowKit
theorem still_tail {P : Program} {id : Nat} {Q : Exit → Act → World → Prop} {a : Act} {w : World} {l : List Oper} (n : Nat) (hm : P.follows .mixedOrders = true) (hB : Region.lexTailB .any l.toArray n = true)
    (h : ∀ wX, wX = w.drew → wpStill P l.toArray wX (fun a' => wpList P l.toArray Q (l.drop n) a' wX) (l.take n) a) : (Code.region id l.toArray true).wp P Q a w := wp_region_still_tail n hm hB (h _ rfl)
/-- A call of a callee that only draws, within a quiet region at a world that has drawn. -/
theorem quiet_at {P : Program} {f : FuncId} {args : Array Value} {w : World} {a b : Nat} {v : Value} (h : Calls P f args (w.drewN (a + b)) fun e w'' => e = .returned v ∧ ∃ m, w'' = (w.drewN (a + b)).drewN m) :
    Calls P f args (w.drewN (a + b)) fun e w'' => e = .returned v ∧ ∃ n, w'' = w.drewN (a + n) := h.mono fun _ _ ⟨he, m, hm⟩ => ⟨he, b + m, by rw [hm, World.drewN_drewN, Nat.add_assoc]⟩
end Go.Proofs.Ytlaipigilikmbaa
