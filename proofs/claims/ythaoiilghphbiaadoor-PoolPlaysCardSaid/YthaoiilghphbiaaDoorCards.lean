/-
  DERIVED. GIVEN WITH THE SEED: THE CARDS: each row of YthaoiilghphbiaaDoorRows.lean that lists a variable, with what it lists TIED to the program's text (the seventh form; the later family's looks); each row that meets fmt, with fmt's text TOLD by the authors' own Lean function (tested against real Go, not proved from fmt's source: count such statements apart). THE CARD IS WHAT COUNTS. Prove the row's statement (the work); the ties are given (YthaoiilghphbiaaDoorTie.lean); close each card by the builder's one call (the guide's Derived/Test/ToyasCard.lean, 'card_holds'). Laid BY PROGRAM, IN A SANDBOX (cutbox-door.mjs). By AI agents, Wed Nov 11 2026. No macro, syntax, notation, axiom, sorry.
-/
import Derived.Test.YthaoiilghphbiaaDoorRows
import GoSem.ClaimSeven
namespace Go.Proofs.YthaoiilghphbiaaDoor
namespace Rows

/-- THE TIED CARD OF 'granarylaw1.BookMoves'. -/
def bookMovesCard : Claim7 := { stood := { row := bookMovesRow, standIns := [], harness := (true, "34569e68a27598aec541b39410bf0175d2443b9cab7692b9bac503e996336013"), looks := true }, kinds := [], alts := [], laidByText := true, laidKinds := [.handle], laidTests := true, laidLooks := .later }
def BookMovesCardSaid : Prop := Claim7.holds Tryd.pinned (.plain (OpenSpec.ofChange bookMovesSpec)) bookMovesCard

/-- THE TIED CARD OF 'granarylaw1.BookPlays'. -/
def bookPlaysCard : Claim7 := { stood := { row := bookPlaysRow, standIns := [], harness := (true, "34569e68a27598aec541b39410bf0175d2443b9cab7692b9bac503e996336013"), looks := true }, kinds := [], alts := [], laidByText := true, laidKinds := [.handle], laidTests := true, laidLooks := .later }
def BookPlaysCardSaid : Prop := Claim7.holds Tryd.pinned (.plain (OpenSpec.ofChange bookPlaysSpec)) bookPlaysCard

/-- THE TIED CARD OF 'granarylaw1.BookBack'. -/
def bookBackCard : Claim7 := { stood := { row := bookBackRow, standIns := [], harness := (true, "34569e68a27598aec541b39410bf0175d2443b9cab7692b9bac503e996336013"), looks := true }, kinds := [], alts := [], laidByText := true, laidKinds := [.handle], laidTests := true, laidLooks := .later }
def BookBackCardSaid : Prop := Claim7.holds Tryd.pinned (.plain (OpenSpec.ofChange bookBackSpec)) bookBackCard

/-- THE TIED CARD OF 'granarylaw1.PoolHolds'. -/
def poolHoldsCard : Claim7 := { stood := { row := poolHoldsRow, standIns := [], harness := (true, "34569e68a27598aec541b39410bf0175d2443b9cab7692b9bac503e996336013"), looks := true }, kinds := [], alts := [], laidByText := true, laidKinds := [.handle], laidTests := true, laidLooks := .later }
def PoolHoldsCardSaid : Prop := Claim7.holds Tryd.pinned (.plain (OpenSpec.ofChange poolHoldsSpec)) poolHoldsCard

/-- THE TIED CARD OF 'granarylaw1.PoolPlays'. -/
def poolPlaysCard : Claim7 := { stood := { row := poolPlaysRow, standIns := [], harness := (true, "34569e68a27598aec541b39410bf0175d2443b9cab7692b9bac503e996336013"), looks := true }, kinds := [], alts := [], laidByText := true, laidKinds := [.handle], laidTests := true, laidLooks := .later }
def PoolPlaysCardSaid : Prop := Claim7.holds Tryd.pinned (.plain (OpenSpec.ofChange poolPlaysSpec)) poolPlaysCard

/-- THE SECOND FORM's CARD OF 'granarylaw1.BookMoves'. -/
def bookMovesUptoCard : Claim7 := { stood := { row := bookMovesUptoRow, standIns := [], harness := (true, "34569e68a27598aec541b39410bf0175d2443b9cab7692b9bac503e996336013"), looks := true }, kinds := [], alts := [], laidByText := true, laidKinds := [.handle], laidTests := true, laidLooks := .later }
def BookMovesUptoCardSaid : Prop := Claim7.holds Tryd.pinned (.plain (OpenSpec.upto bookMovesSpec)) bookMovesUptoCard

/-- THE SECOND FORM's CARD OF 'granarylaw1.BookPlays'. -/
def bookPlaysUptoCard : Claim7 := { stood := { row := bookPlaysUptoRow, standIns := [], harness := (true, "34569e68a27598aec541b39410bf0175d2443b9cab7692b9bac503e996336013"), looks := true }, kinds := [], alts := [], laidByText := true, laidKinds := [.handle], laidTests := true, laidLooks := .later }
def BookPlaysUptoCardSaid : Prop := Claim7.holds Tryd.pinned (.plain (OpenSpec.upto bookPlaysSpec)) bookPlaysUptoCard

/-- THE SECOND FORM's CARD OF 'granarylaw1.BookBack'. -/
def bookBackUptoCard : Claim7 := { stood := { row := bookBackUptoRow, standIns := [], harness := (true, "34569e68a27598aec541b39410bf0175d2443b9cab7692b9bac503e996336013"), looks := true }, kinds := [], alts := [], laidByText := true, laidKinds := [.handle], laidTests := true, laidLooks := .later }
def BookBackUptoCardSaid : Prop := Claim7.holds Tryd.pinned (.plain (OpenSpec.upto bookBackSpec)) bookBackUptoCard

/-- THE SECOND FORM's CARD OF 'granarylaw1.PoolHolds'. -/
def poolHoldsUptoCard : Claim7 := { stood := { row := poolHoldsUptoRow, standIns := [], harness := (true, "34569e68a27598aec541b39410bf0175d2443b9cab7692b9bac503e996336013"), looks := true }, kinds := [], alts := [], laidByText := true, laidKinds := [.handle], laidTests := true, laidLooks := .later }
def PoolHoldsUptoCardSaid : Prop := Claim7.holds Tryd.pinned (.plain (OpenSpec.upto poolHoldsSpec)) poolHoldsUptoCard

/-- THE SECOND FORM's CARD OF 'granarylaw1.PoolPlays'. -/
def poolPlaysUptoCard : Claim7 := { stood := { row := poolPlaysUptoRow, standIns := [], harness := (true, "34569e68a27598aec541b39410bf0175d2443b9cab7692b9bac503e996336013"), looks := true }, kinds := [], alts := [], laidByText := true, laidKinds := [.handle], laidTests := true, laidLooks := .later }
def PoolPlaysUptoCardSaid : Prop := Claim7.holds Tryd.pinned (.plain (OpenSpec.upto poolPlaysSpec)) poolPlaysUptoCard
end Rows
end Go.Proofs.YthaoiilghphbiaaDoor
