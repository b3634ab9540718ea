/-
  DERIVED. GIVEN WITH THE SEED: THE CARDS: each row of YtmjnfjbbdebddaaDoorRows.lean that lists a variable, with what it lists TIED to the program's text (the seventh form; the later family's looks); each row that meets fmt, with fmt's text TOLD by the authors' own Lean function (tested against real Go, not proved from fmt's source: count such statements apart). THE CARD IS WHAT COUNTS. Prove the row's statement (the work); the ties are given (YtmjnfjbbdebddaaDoorTie.lean); close each card by the builder's one call (the guide's Derived/Test/ToyasCard.lean, 'card_holds'). Laid BY PROGRAM, IN A SANDBOX (cutbox-door.mjs). By AI agents, Wed Nov 11 2026. No macro, syntax, notation, axiom, sorry.
-/
import Derived.Test.YtmjnfjbbdebddaaDoorRows
import GoSem.ClaimSeven
namespace Go.Proofs.YtmjnfjbbdebddaaDoor
namespace Rows

/-- THE TIED CARD OF 'granarylaw1.SlotPuts'. -/
def slotPutsCard : Claim7 := { stood := { row := slotPutsRow, standIns := [], harness := (true, "a94a132cf5f635ef9f79ba38813903349a68a45ba7088630c18d176aa66d936a"), looks := true }, kinds := [], alts := [], laidByText := true, laidKinds := [.handle], laidTests := true, laidLooks := .later }
def SlotPutsCardSaid : Prop := Claim7.holds Tryd.pinned (.plain (OpenSpec.ofChange slotPutsSpec)) slotPutsCard

/-- THE TIED CARD OF 'granarylaw1.RecordWrites'. -/
def recordWritesCard : Claim7 := { stood := { row := recordWritesRow, standIns := [], harness := (true, "a94a132cf5f635ef9f79ba38813903349a68a45ba7088630c18d176aa66d936a"), looks := true }, kinds := [], alts := [], laidByText := true, laidKinds := [.handle], laidTests := true, laidLooks := .later }
def RecordWritesCardSaid : Prop := Claim7.holds Tryd.pinned (.plain (OpenSpec.ofChange recordWritesSpec)) recordWritesCard

/-- THE TIED CARD OF 'granarylaw1.SlotChooses'. -/
def slotChoosesCard : Claim7 := { stood := { row := slotChoosesRow, standIns := [], harness := (true, "a94a132cf5f635ef9f79ba38813903349a68a45ba7088630c18d176aa66d936a"), looks := true }, kinds := [], alts := [], laidByText := true, laidKinds := [.handle], laidTests := true, laidLooks := .later }
def SlotChoosesCardSaid : Prop := Claim7.holds Tryd.pinned (.plain (OpenSpec.ofChange slotChoosesSpec)) slotChoosesCard

/-- THE TIED CARD OF 'granarylaw1.SlotSafe'. -/
def slotSafeCard : Claim7 := { stood := { row := slotSafeRow, standIns := [], harness := (true, "a94a132cf5f635ef9f79ba38813903349a68a45ba7088630c18d176aa66d936a"), looks := true }, kinds := [], alts := [], laidByText := true, laidKinds := [.handle], laidTests := true, laidLooks := .later }
def SlotSafeCardSaid : Prop := Claim7.holds Tryd.pinned (.plain (OpenSpec.ofChange slotSafeSpec)) slotSafeCard

/-- THE TIED CARD OF 'granarylaw1.BufferPlays'. -/
def bufferPlaysCard : Claim7 := { stood := { row := bufferPlaysRow, standIns := [], harness := (true, "a94a132cf5f635ef9f79ba38813903349a68a45ba7088630c18d176aa66d936a"), looks := true }, kinds := [], alts := [], laidByText := true, laidKinds := [.handle], laidTests := true, laidLooks := .later }
def BufferPlaysCardSaid : Prop := Claim7.holds Tryd.pinned (.plain (OpenSpec.ofChange bufferPlaysSpec)) bufferPlaysCard

/-- THE TIED CARD OF 'granarylaw1.BufferLast'. -/
def bufferLastCard : Claim7 := { stood := { row := bufferLastRow, standIns := [], harness := (true, "a94a132cf5f635ef9f79ba38813903349a68a45ba7088630c18d176aa66d936a"), looks := true }, kinds := [], alts := [], laidByText := true, laidKinds := [.handle], laidTests := true, laidLooks := .later }
def BufferLastCardSaid : Prop := Claim7.holds Tryd.pinned (.plain (OpenSpec.ofChange bufferLastSpec)) bufferLastCard

/-- THE SECOND FORM's CARD OF 'granarylaw1.SlotPuts'. -/
def slotPutsUptoCard : Claim7 := { stood := { row := slotPutsUptoRow, standIns := [], harness := (true, "a94a132cf5f635ef9f79ba38813903349a68a45ba7088630c18d176aa66d936a"), looks := true }, kinds := [], alts := [], laidByText := true, laidKinds := [.handle], laidTests := true, laidLooks := .later }
def SlotPutsUptoCardSaid : Prop := Claim7.holds Tryd.pinned (.plain (OpenSpec.upto slotPutsSpec)) slotPutsUptoCard

/-- THE SECOND FORM's CARD OF 'granarylaw1.RecordWrites'. -/
def recordWritesUptoCard : Claim7 := { stood := { row := recordWritesUptoRow, standIns := [], harness := (true, "a94a132cf5f635ef9f79ba38813903349a68a45ba7088630c18d176aa66d936a"), looks := true }, kinds := [], alts := [], laidByText := true, laidKinds := [.handle], laidTests := true, laidLooks := .later }
def RecordWritesUptoCardSaid : Prop := Claim7.holds Tryd.pinned (.plain (OpenSpec.upto recordWritesSpec)) recordWritesUptoCard

/-- THE SECOND FORM's CARD OF 'granarylaw1.SlotChooses'. -/
def slotChoosesUptoCard : Claim7 := { stood := { row := slotChoosesUptoRow, standIns := [], harness := (true, "a94a132cf5f635ef9f79ba38813903349a68a45ba7088630c18d176aa66d936a"), looks := true }, kinds := [], alts := [], laidByText := true, laidKinds := [.handle], laidTests := true, laidLooks := .later }
def SlotChoosesUptoCardSaid : Prop := Claim7.holds Tryd.pinned (.plain (OpenSpec.upto slotChoosesSpec)) slotChoosesUptoCard

/-- THE SECOND FORM's CARD OF 'granarylaw1.SlotSafe'. -/
def slotSafeUptoCard : Claim7 := { stood := { row := slotSafeUptoRow, standIns := [], harness := (true, "a94a132cf5f635ef9f79ba38813903349a68a45ba7088630c18d176aa66d936a"), looks := true }, kinds := [], alts := [], laidByText := true, laidKinds := [.handle], laidTests := true, laidLooks := .later }
def SlotSafeUptoCardSaid : Prop := Claim7.holds Tryd.pinned (.plain (OpenSpec.upto slotSafeSpec)) slotSafeUptoCard

/-- THE SECOND FORM's CARD OF 'granarylaw1.BufferPlays'. -/
def bufferPlaysUptoCard : Claim7 := { stood := { row := bufferPlaysUptoRow, standIns := [], harness := (true, "a94a132cf5f635ef9f79ba38813903349a68a45ba7088630c18d176aa66d936a"), looks := true }, kinds := [], alts := [], laidByText := true, laidKinds := [.handle], laidTests := true, laidLooks := .later }
def BufferPlaysUptoCardSaid : Prop := Claim7.holds Tryd.pinned (.plain (OpenSpec.upto bufferPlaysSpec)) bufferPlaysUptoCard

/-- THE SECOND FORM's CARD OF 'granarylaw1.BufferLast'. -/
def bufferLastUptoCard : Claim7 := { stood := { row := bufferLastUptoRow, standIns := [], harness := (true, "a94a132cf5f635ef9f79ba38813903349a68a45ba7088630c18d176aa66d936a"), looks := true }, kinds := [], alts := [], laidByText := true, laidKinds := [.handle], laidTests := true, laidLooks := .later }
def BufferLastUptoCardSaid : Prop := Claim7.holds Tryd.pinned (.plain (OpenSpec.upto bufferLastSpec)) bufferLastUptoCard
end Rows
end Go.Proofs.YtmjnfjbbdebddaaDoor
