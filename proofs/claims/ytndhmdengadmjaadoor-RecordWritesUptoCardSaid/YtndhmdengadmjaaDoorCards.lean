/-
  DERIVED. GIVEN WITH THE SEED: THE CARDS: each row of YtndhmdengadmjaaDoorRows.lean that lists a variable, with what it lists TIED to the program's text (the seventh form; the later family's looks); each row that meets fmt, with fmt's text TOLD by the authors' own Lean function (tested against real Go, not proved from fmt's source: count such statements apart). THE CARD IS WHAT COUNTS. Prove the row's statement (the work); the ties are given (YtndhmdengadmjaaDoorTie.lean); close each card by the builder's one call (the guide's Derived/Test/ToyasCard.lean, 'card_holds'). Laid BY PROGRAM, IN A SANDBOX (cutbox-door.mjs). By AI agents, Wed Nov 11 2026. No macro, syntax, notation, axiom, sorry.
-/
import Derived.Test.YtndhmdengadmjaaDoorRows
import GoSem.ClaimSeven
namespace Go.Proofs.YtndhmdengadmjaaDoor
namespace Rows

/-- THE TIED CARD OF 'granarylaw1.RecordWrites'. -/
def recordWritesCard : Claim7 := { stood := { row := recordWritesRow, standIns := [], harness := (true, "2702ebf99836b47123a0e0ceb79416d060697bc86a7699f7efb45302b49ae6a8"), looks := true }, kinds := [], alts := [], laidByText := true, laidKinds := [.handle], laidTests := true, laidLooks := .later }
def RecordWritesCardSaid : Prop := Claim7.holds Tryd.pinned (.plain (OpenSpec.ofChange recordWritesSpec)) recordWritesCard

/-- THE TIED CARD OF 'granarylaw1.BufferPlays'. -/
def bufferPlaysCard : Claim7 := { stood := { row := bufferPlaysRow, standIns := [], harness := (true, "2702ebf99836b47123a0e0ceb79416d060697bc86a7699f7efb45302b49ae6a8"), looks := true }, kinds := [], alts := [], laidByText := true, laidKinds := [.handle], laidTests := true, laidLooks := .later }
def BufferPlaysCardSaid : Prop := Claim7.holds Tryd.pinned (.plain (OpenSpec.ofChange bufferPlaysSpec)) bufferPlaysCard

/-- THE TIED CARD OF 'granarylaw1.BufferLast'. -/
def bufferLastCard : Claim7 := { stood := { row := bufferLastRow, standIns := [], harness := (true, "2702ebf99836b47123a0e0ceb79416d060697bc86a7699f7efb45302b49ae6a8"), looks := true }, kinds := [], alts := [], laidByText := true, laidKinds := [.handle], laidTests := true, laidLooks := .later }
def BufferLastCardSaid : Prop := Claim7.holds Tryd.pinned (.plain (OpenSpec.ofChange bufferLastSpec)) bufferLastCard

/-- THE SECOND FORM's CARD OF 'granarylaw1.RecordWrites'. -/
def recordWritesUptoCard : Claim7 := { stood := { row := recordWritesUptoRow, standIns := [], harness := (true, "2702ebf99836b47123a0e0ceb79416d060697bc86a7699f7efb45302b49ae6a8"), looks := true }, kinds := [], alts := [], laidByText := true, laidKinds := [.handle], laidTests := true, laidLooks := .later }
def RecordWritesUptoCardSaid : Prop := Claim7.holds Tryd.pinned (.plain (OpenSpec.upto recordWritesSpec)) recordWritesUptoCard

/-- THE SECOND FORM's CARD OF 'granarylaw1.BufferPlays'. -/
def bufferPlaysUptoCard : Claim7 := { stood := { row := bufferPlaysUptoRow, standIns := [], harness := (true, "2702ebf99836b47123a0e0ceb79416d060697bc86a7699f7efb45302b49ae6a8"), looks := true }, kinds := [], alts := [], laidByText := true, laidKinds := [.handle], laidTests := true, laidLooks := .later }
def BufferPlaysUptoCardSaid : Prop := Claim7.holds Tryd.pinned (.plain (OpenSpec.upto bufferPlaysSpec)) bufferPlaysUptoCard

/-- THE SECOND FORM's CARD OF 'granarylaw1.BufferLast'. -/
def bufferLastUptoCard : Claim7 := { stood := { row := bufferLastUptoRow, standIns := [], harness := (true, "2702ebf99836b47123a0e0ceb79416d060697bc86a7699f7efb45302b49ae6a8"), looks := true }, kinds := [], alts := [], laidByText := true, laidKinds := [.handle], laidTests := true, laidLooks := .later }
def BufferLastUptoCardSaid : Prop := Claim7.holds Tryd.pinned (.plain (OpenSpec.upto bufferLastSpec)) bufferLastUptoCard
end Rows
end Go.Proofs.YtndhmdengadmjaaDoor
