/-
  DERIVED. GIVEN WITH THE SEED: THE CARDS: each row of YtlaipigilikmbaaGreatDoorRows.lean that lists a variable, with what it lists TIED to the program's text (the seventh form; the later family's looks); each row that meets fmt, with fmt's text TOLD by the authors' own Lean function (tested against real Go, not proved from fmt's source: count such statements apart). THE CARD IS WHAT COUNTS. Prove the row's statement (the work); the ties are given (YtlaipigilikmbaaGreatDoorTie.lean); close each card by the builder's one call (the guide's Derived/Test/ToyasCard.lean, 'card_holds'). Laid BY PROGRAM, IN A SANDBOX (cutbox-door.mjs). By AI agents, Wed Nov 11 2026. No macro, syntax, notation, axiom, sorry.
-/
import Derived.Test.YtlaipigilikmbaaGreatDoorRows
import GoSem.ClaimSeven
namespace Go.Proofs.YtlaipigilikmbaaGreatDoor
namespace Rows

/-- THE TIED CARD OF 'granarytop.TopNotes'. -/
def topNotesCard : Claim7 := { stood := { row := topNotesRow, standIns := [], harness := (true, "0fd2333608db3292fa8487f1202ece04710efc376ee493e0d58fd260ea6995e3"), looks := true }, kinds := [], alts := [], goes := true, laidByText := true, laidKinds := [.handle], laidTests := true, laidLooks := .later }
def TopNotesCardSaid : Prop := Claim7.holds Tryz.pinned (.plain (OpenSpec.ofChange topNotesSpec)) topNotesCard

/-- THE TIED CARD OF 'granarylaw1.ScanSays'. -/
def scanSaysCard : Claim7 := { stood := { row := scanSaysRow, standIns := [], harness := (true, "0fd2333608db3292fa8487f1202ece04710efc376ee493e0d58fd260ea6995e3"), looks := true }, kinds := [], alts := [], goes := true, laidByText := true, laidKinds := [.handle], laidTests := true, laidLooks := .later }
def ScanSaysCardSaid : Prop := Claim7.holds Tryz.pinned (.plain (OpenSpec.ofChange scanSaysSpec)) scanSaysCard

/-- THE SECOND FORM's CARD OF 'granarytop.TopNotes'. -/
def topNotesUptoCard : Claim7 := { stood := { row := topNotesUptoRow, standIns := [], harness := (true, "0fd2333608db3292fa8487f1202ece04710efc376ee493e0d58fd260ea6995e3"), looks := true }, kinds := [], alts := [], goes := true, laidByText := true, laidKinds := [.handle], laidTests := true, laidLooks := .later }
def TopNotesUptoCardSaid : Prop := Claim7.holds Tryz.pinned (.plain (OpenSpec.upto topNotesSpec)) topNotesUptoCard

/-- THE SECOND FORM's CARD OF 'granarylaw1.ScanSays'. -/
def scanSaysUptoCard : Claim7 := { stood := { row := scanSaysUptoRow, standIns := [], harness := (true, "0fd2333608db3292fa8487f1202ece04710efc376ee493e0d58fd260ea6995e3"), looks := true }, kinds := [], alts := [], goes := true, laidByText := true, laidKinds := [.handle], laidTests := true, laidLooks := .later }
def ScanSaysUptoCardSaid : Prop := Claim7.holds Tryz.pinned (.plain (OpenSpec.upto scanSaysSpec)) scanSaysUptoCard
end Rows
end Go.Proofs.YtlaipigilikmbaaGreatDoor
