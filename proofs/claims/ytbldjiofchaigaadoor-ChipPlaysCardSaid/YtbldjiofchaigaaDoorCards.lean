/-
  DERIVED. GIVEN WITH THE SEED: THE CARDS: each row of YtbldjiofchaigaaDoorRows.lean that lists a variable, with what it lists TIED to the program's text (the seventh form; the later family's looks); each row that meets fmt, with fmt's text TOLD by the authors' own Lean function (tested against real Go, not proved from fmt's source: count such statements apart). THE CARD IS WHAT COUNTS. Prove the row's statement (the work); the ties are given (YtbldjiofchaigaaDoorTie.lean); close each card by the builder's one call (the guide's Derived/Test/ToyasCard.lean, 'card_holds'). Laid BY PROGRAM, IN A SANDBOX (cutbox-door.mjs). By AI agents, Wed Nov 11 2026. No macro, syntax, notation, axiom, sorry.
-/
import Derived.Test.YtbldjiofchaigaaDoorRows
import GoSem.ClaimSeven
namespace Go.Proofs.YtbldjiofchaigaaDoor
namespace Rows

/-- THE TIED CARD OF 'granarylaw1.ChipTurns'. -/
def chipTurnsCard : Claim7 := { stood := { row := chipTurnsRow, standIns := [], harness := (true, "b87fbfd9660e00f4f5f30832e8d3fce675c655cac22d048299321013cb831d1f"), looks := true }, kinds := [], alts := [], laidByText := true, laidKinds := [.handle], laidTests := true, laidLooks := .later }
def ChipTurnsCardSaid : Prop := Claim7.holds Tryd.pinned (.plain (OpenSpec.ofChange chipTurnsSpec)) chipTurnsCard

/-- THE TIED CARD OF 'granarylaw1.ChipKeeps'. -/
def chipKeepsCard : Claim7 := { stood := { row := chipKeepsRow, standIns := [], harness := (true, "b87fbfd9660e00f4f5f30832e8d3fce675c655cac22d048299321013cb831d1f"), looks := true }, kinds := [], alts := [], laidByText := true, laidKinds := [.handle], laidTests := true, laidLooks := .later }
def ChipKeepsCardSaid : Prop := Claim7.holds Tryd.pinned (.plain (OpenSpec.ofChange chipKeepsSpec)) chipKeepsCard

/-- THE TIED CARD OF 'granarylaw1.ChipWears'. -/
def chipWearsCard : Claim7 := { stood := { row := chipWearsRow, standIns := [], harness := (true, "b87fbfd9660e00f4f5f30832e8d3fce675c655cac22d048299321013cb831d1f"), looks := true }, kinds := [], alts := [], laidByText := true, laidKinds := [.handle], laidTests := true, laidLooks := .later }
def ChipWearsCardSaid : Prop := Claim7.holds Tryd.pinned (.plain (OpenSpec.ofChange chipWearsSpec)) chipWearsCard

/-- THE TIED CARD OF 'granarylaw1.ChipWaits'. -/
def chipWaitsCard : Claim7 := { stood := { row := chipWaitsRow, standIns := [], harness := (true, "b87fbfd9660e00f4f5f30832e8d3fce675c655cac22d048299321013cb831d1f"), looks := true }, kinds := [], alts := [], laidByText := true, laidKinds := [.handle], laidTests := true, laidLooks := .later }
def ChipWaitsCardSaid : Prop := Claim7.holds Tryd.pinned (.plain (OpenSpec.ofChange chipWaitsSpec)) chipWaitsCard

/-- THE TIED CARD OF 'granarylaw1.ChipPlays'. -/
def chipPlaysCard : Claim7 := { stood := { row := chipPlaysRow, standIns := [], harness := (true, "b87fbfd9660e00f4f5f30832e8d3fce675c655cac22d048299321013cb831d1f"), looks := true }, kinds := [], alts := [], laidByText := true, laidKinds := [.handle], laidTests := true, laidLooks := .later }
def ChipPlaysCardSaid : Prop := Claim7.holds Tryd.pinned (.plain (OpenSpec.ofChange chipPlaysSpec)) chipPlaysCard

/-- THE SECOND FORM's CARD OF 'granarylaw1.ChipTurns'. -/
def chipTurnsUptoCard : Claim7 := { stood := { row := chipTurnsUptoRow, standIns := [], harness := (true, "b87fbfd9660e00f4f5f30832e8d3fce675c655cac22d048299321013cb831d1f"), looks := true }, kinds := [], alts := [], laidByText := true, laidKinds := [.handle], laidTests := true, laidLooks := .later }
def ChipTurnsUptoCardSaid : Prop := Claim7.holds Tryd.pinned (.plain (OpenSpec.upto chipTurnsSpec)) chipTurnsUptoCard

/-- THE SECOND FORM's CARD OF 'granarylaw1.ChipKeeps'. -/
def chipKeepsUptoCard : Claim7 := { stood := { row := chipKeepsUptoRow, standIns := [], harness := (true, "b87fbfd9660e00f4f5f30832e8d3fce675c655cac22d048299321013cb831d1f"), looks := true }, kinds := [], alts := [], laidByText := true, laidKinds := [.handle], laidTests := true, laidLooks := .later }
def ChipKeepsUptoCardSaid : Prop := Claim7.holds Tryd.pinned (.plain (OpenSpec.upto chipKeepsSpec)) chipKeepsUptoCard

/-- THE SECOND FORM's CARD OF 'granarylaw1.ChipWears'. -/
def chipWearsUptoCard : Claim7 := { stood := { row := chipWearsUptoRow, standIns := [], harness := (true, "b87fbfd9660e00f4f5f30832e8d3fce675c655cac22d048299321013cb831d1f"), looks := true }, kinds := [], alts := [], laidByText := true, laidKinds := [.handle], laidTests := true, laidLooks := .later }
def ChipWearsUptoCardSaid : Prop := Claim7.holds Tryd.pinned (.plain (OpenSpec.upto chipWearsSpec)) chipWearsUptoCard

/-- THE SECOND FORM's CARD OF 'granarylaw1.ChipWaits'. -/
def chipWaitsUptoCard : Claim7 := { stood := { row := chipWaitsUptoRow, standIns := [], harness := (true, "b87fbfd9660e00f4f5f30832e8d3fce675c655cac22d048299321013cb831d1f"), looks := true }, kinds := [], alts := [], laidByText := true, laidKinds := [.handle], laidTests := true, laidLooks := .later }
def ChipWaitsUptoCardSaid : Prop := Claim7.holds Tryd.pinned (.plain (OpenSpec.upto chipWaitsSpec)) chipWaitsUptoCard

/-- THE SECOND FORM's CARD OF 'granarylaw1.ChipPlays'. -/
def chipPlaysUptoCard : Claim7 := { stood := { row := chipPlaysUptoRow, standIns := [], harness := (true, "b87fbfd9660e00f4f5f30832e8d3fce675c655cac22d048299321013cb831d1f"), looks := true }, kinds := [], alts := [], laidByText := true, laidKinds := [.handle], laidTests := true, laidLooks := .later }
def ChipPlaysUptoCardSaid : Prop := Claim7.holds Tryd.pinned (.plain (OpenSpec.upto chipPlaysSpec)) chipPlaysUptoCard
end Rows
end Go.Proofs.YtbldjiofchaigaaDoor
