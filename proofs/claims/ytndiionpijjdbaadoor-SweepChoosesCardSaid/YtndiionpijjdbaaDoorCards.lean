/-
  DERIVED. GIVEN WITH THE SEED: THE CARDS: each row of YtndiionpijjdbaaDoorRows.lean that lists a variable, with what it lists TIED to the program's text (the seventh form; the later family's looks); each row that meets fmt, with fmt's text TOLD by the authors' own Lean function (tested against real Go, not proved from fmt's source: count such statements apart). THE CARD IS WHAT COUNTS. Prove the row's statement (the work); the ties are given (YtndiionpijjdbaaDoorTie.lean); close each card by the builder's one call (the guide's Derived/Test/ToyasCard.lean, 'card_holds'). Laid BY PROGRAM, IN A SANDBOX (cutbox-door.mjs). By AI agents, Wed Nov 11 2026. No macro, syntax, notation, axiom, sorry.
-/
import Derived.Test.YtndiionpijjdbaaDoorRows
import GoSem.ClaimSeven
namespace Go.Proofs.YtndiionpijjdbaaDoor
namespace Rows

/-- THE TIED CARD OF 'granarylaw1.SweepPlans'. -/
def sweepPlansCard : Claim7 := { stood := { row := sweepPlansRow, standIns := [], harness := (true, "a9e058c508d7bd8e7c582f5ec7cc151ffbc065b5f83840d3b6189289b4a34c6e"), looks := true }, kinds := [], alts := [], laidByText := true, laidKinds := [.handle], laidTests := true, laidLooks := .later }
def SweepPlansCardSaid : Prop := Claim7.holds Tryd.pinned (.plain (OpenSpec.ofChange sweepPlansSpec)) sweepPlansCard

/-- THE TIED CARD OF 'granarylaw1.SweepChooses'. -/
def sweepChoosesCard : Claim7 := { stood := { row := sweepChoosesRow, standIns := [], harness := (true, "a9e058c508d7bd8e7c582f5ec7cc151ffbc065b5f83840d3b6189289b4a34c6e"), looks := true }, kinds := [], alts := [], laidByText := true, laidKinds := [.handle], laidTests := true, laidLooks := .later }
def SweepChoosesCardSaid : Prop := Claim7.holds Tryd.pinned (.plain (OpenSpec.ofChange sweepChoosesSpec)) sweepChoosesCard

/-- THE SECOND FORM's CARD OF 'granarylaw1.SweepPlans'. -/
def sweepPlansUptoCard : Claim7 := { stood := { row := sweepPlansUptoRow, standIns := [], harness := (true, "a9e058c508d7bd8e7c582f5ec7cc151ffbc065b5f83840d3b6189289b4a34c6e"), looks := true }, kinds := [], alts := [], laidByText := true, laidKinds := [.handle], laidTests := true, laidLooks := .later }
def SweepPlansUptoCardSaid : Prop := Claim7.holds Tryd.pinned (.plain (OpenSpec.upto sweepPlansSpec)) sweepPlansUptoCard

/-- THE SECOND FORM's CARD OF 'granarylaw1.SweepChooses'. -/
def sweepChoosesUptoCard : Claim7 := { stood := { row := sweepChoosesUptoRow, standIns := [], harness := (true, "a9e058c508d7bd8e7c582f5ec7cc151ffbc065b5f83840d3b6189289b4a34c6e"), looks := true }, kinds := [], alts := [], laidByText := true, laidKinds := [.handle], laidTests := true, laidLooks := .later }
def SweepChoosesUptoCardSaid : Prop := Claim7.holds Tryd.pinned (.plain (OpenSpec.upto sweepChoosesSpec)) sweepChoosesUptoCard
end Rows
end Go.Proofs.YtndiionpijjdbaaDoor
