/-
  DERIVED. GIVEN WITH THE SEED: THE CARDS: each row of YtakgbejeaheihaaDoorRows.lean that lists a variable, with what it lists TIED to the program's text (the seventh form; the later family's looks); each row that meets fmt, with fmt's text TOLD by the authors' own Lean function (tested against real Go, not proved from fmt's source: count such statements apart). THE CARD IS WHAT COUNTS. Prove the row's statement (the work); the ties are given (YtakgbejeaheihaaDoorTie.lean); close each card by the builder's one call (the guide's Derived/Test/ToyasCard.lean, 'card_holds'). Laid BY PROGRAM, IN A SANDBOX (cutbox-door.mjs). By AI agents, Wed Nov 11 2026. No macro, syntax, notation, axiom, sorry.
-/
import Derived.Test.YtakgbejeaheihaaDoorRows
import GoSem.ClaimSeven
namespace Go.Proofs.YtakgbejeaheihaaDoor
namespace Rows

/-- THE TIED CARD OF 'granarylaw1.CodeSays'. -/
def codeSaysCard : Claim7 := { stood := { row := codeSaysRow, standIns := [], harness := (true, "902b45e26a8af442c2fcf696c42281c6b7b1a0f5b4d8d63e09e5f87a07999a5a"), looks := true }, kinds := [], alts := [], laidByText := true, laidKinds := [.handle], laidTests := true, laidLooks := .later }
def CodeSaysCardSaid : Prop := Claim7.holds Tryd.pinned (.plain (OpenSpec.ofChange codeSaysSpec)) codeSaysCard

/-- THE TIED CARD OF 'granarylaw1.CodeTells'. -/
def codeTellsCard : Claim7 := { stood := { row := codeTellsRow, standIns := [], harness := (true, "902b45e26a8af442c2fcf696c42281c6b7b1a0f5b4d8d63e09e5f87a07999a5a"), looks := true }, kinds := [], alts := [], laidByText := true, laidKinds := [.handle], laidTests := true, laidLooks := .later }
def CodeTellsCardSaid : Prop := Claim7.holds Tryd.pinned (.plain (OpenSpec.ofChange codeTellsSpec)) codeTellsCard

/-- THE SECOND FORM's CARD OF 'granarylaw1.CodeSays'. -/
def codeSaysUptoCard : Claim7 := { stood := { row := codeSaysUptoRow, standIns := [], harness := (true, "902b45e26a8af442c2fcf696c42281c6b7b1a0f5b4d8d63e09e5f87a07999a5a"), looks := true }, kinds := [], alts := [], laidByText := true, laidKinds := [.handle], laidTests := true, laidLooks := .later }
def CodeSaysUptoCardSaid : Prop := Claim7.holds Tryd.pinned (.plain (OpenSpec.upto codeSaysSpec)) codeSaysUptoCard

/-- THE SECOND FORM's CARD OF 'granarylaw1.CodeTells'. -/
def codeTellsUptoCard : Claim7 := { stood := { row := codeTellsUptoRow, standIns := [], harness := (true, "902b45e26a8af442c2fcf696c42281c6b7b1a0f5b4d8d63e09e5f87a07999a5a"), looks := true }, kinds := [], alts := [], laidByText := true, laidKinds := [.handle], laidTests := true, laidLooks := .later }
def CodeTellsUptoCardSaid : Prop := Claim7.holds Tryd.pinned (.plain (OpenSpec.upto codeTellsSpec)) codeTellsUptoCard
end Rows
end Go.Proofs.YtakgbejeaheihaaDoor
