/-
  NARROWER THAN 'FOR EVERY INPUT', by the rows' own cells (each row's printed sentence says how): ChipTurns: laid · ChipKeeps: laid · ChipWears: laid · ChipWaits: laid · ChipPlays: laid.
  DERIVED. THE GIVEN ROWS OF THIS SEAT. 5 by the template 'for every input the law returns true; each argument reads behind the call as it read before'; 0 by the template 'total and deterministic' (their statements: YtbldjiofchaigaaDoorTotals.lean).
  GIVEN WITH THE SEED: the statements are not yours to turn. If you find one false, say at which input.
  Laid BY PROGRAM, IN A SANDBOX (cutbox-rows.mjs): the forced cells as the released guide's own fill.sh prints them over the translation 97d040d44c7054e3… (all of the seat's roots in one cut). By AI agents, Wed Nov 11 2026. No macro, syntax, notation, axiom, sorry.
-/
import Derived.Test.YtbldjiofchaigaaDoorChecked
import GoSem.Claim
import GoSem.ClaimJoined
import GoSem.ClaimMapViews
import Derived.JoinedTies
import Derived.KernelRfl
namespace Go.Proofs.YtbldjiofchaigaaDoor
/- THE CELL 'sum', in the pinned program and in every row, IS THE sha256 OF THE DUMP (.gsa) THAT YtbldjiofchaigaaDoorProg.lean LOADS. Nothing in Lean hashes anything: it is a label: what it is worth is what the hold of that sum in a sandbox is worth. -/
noncomputable def Tryd.pinned : Pinned := { name := "ytbldjiofchaigaadoor", sum := "97d040d44c7054e34676a947cfdaa7a71504aabf2e0fb6a561279928707baedd", checked := Tryd.checked }
namespace Rows
def none {H : Type} : Left H := { results := [], args := [] }

/- WHAT THE LISTED PACKAGE-LEVEL VARIABLES READ AS WHEN THE CALL BEGINS. Each datum BY PROGRAM (the guide's laid-datum.mjs) off the statement by which the dump's own 'gosem.cut.vars' lays the variable. In a bare row this is a premise. The card (YtbldjiofchaigaaDoorCards.lean) ties it to the program's text. -/
def laid_errors_errorType {H : Type} : DataW H := .iface "internal/reflectlite.rtype" (.agg [.ptr (.lit (.string [101, 114, 114, 111, 114]))])

/-- 'granarylaw1.ChipTurns': WHATEVER THE INPUT: true; the input reads as it did. -/
def chipTurnsSpec : ChangeSpec := { name := "chipTurns", fn := fun _ => fun
  | [d1, d2, d3, d4] => { results := [.lit (.bool true)], args := [d1, d2, d3, d4] }
  | _ => none }
def chipTurnsRow : OpenClaim := { program := "ytbldjiofchaigaadoor", sum := "97d040d44c7054e34676a947cfdaa7a71504aabf2e0fb6a561279928707baedd", func := "granary/granarylaw1.ChipTurns", spec := "chipTurns", inPlace := ["internal/bytealg.MakeNoZero", "internal/reflectlite.ValueOf", "(internal/reflectlite.Value).Type", "(internal/reflectlite.Value).IsNil", "internal/reflectlite.TypeOf", "(internal/reflectlite.Value).Elem", "(internal/reflectlite.Value).Set"], unfollowed := true, recurses := true, named := ["errors.errorType"], apart := false, laid := [("errors.errorType", laid_errors_errorType)] }
def ChipTurnsSaid : Prop := chipTurnsRow.holds Tryd.pinned (OpenSpec.ofChange chipTurnsSpec)

/-- ITS FALSE NEIGHBOUR: 'it returns false'. Refute it at one input. -/
def chipTurnsWrong : ChangeSpec := { name := "chipTurns", fn := fun _ => fun
  | [d1, d2, d3, d4] => { results := [.lit (.bool false)], args := [d1, d2, d3, d4] }
  | _ => none }
def ChipTurnsWrongFalsely : Prop := chipTurnsRow.holds Tryd.pinned (OpenSpec.ofChange chipTurnsWrong)

/-- 'granarylaw1.ChipKeeps': WHATEVER THE INPUT: true; the input reads as it did. -/
def chipKeepsSpec : ChangeSpec := { name := "chipKeeps", fn := fun _ => fun
  | [d1, d2, d3, d4, d5] => { results := [.lit (.bool true)], args := [d1, d2, d3, d4, d5] }
  | _ => none }
def chipKeepsRow : OpenClaim := { program := "ytbldjiofchaigaadoor", sum := "97d040d44c7054e34676a947cfdaa7a71504aabf2e0fb6a561279928707baedd", func := "granary/granarylaw1.ChipKeeps", spec := "chipKeeps", inPlace := ["internal/bytealg.MakeNoZero", "internal/reflectlite.ValueOf", "(internal/reflectlite.Value).Type", "(internal/reflectlite.Value).IsNil", "internal/reflectlite.TypeOf", "(internal/reflectlite.Value).Elem", "(internal/reflectlite.Value).Set"], unfollowed := true, recurses := true, named := ["errors.errorType"], apart := false, laid := [("errors.errorType", laid_errors_errorType)] }
def ChipKeepsSaid : Prop := chipKeepsRow.holds Tryd.pinned (OpenSpec.ofChange chipKeepsSpec)

/-- ITS FALSE NEIGHBOUR: 'it returns false'. Refute it at one input. -/
def chipKeepsWrong : ChangeSpec := { name := "chipKeeps", fn := fun _ => fun
  | [d1, d2, d3, d4, d5] => { results := [.lit (.bool false)], args := [d1, d2, d3, d4, d5] }
  | _ => none }
def ChipKeepsWrongFalsely : Prop := chipKeepsRow.holds Tryd.pinned (OpenSpec.ofChange chipKeepsWrong)

/-- 'granarylaw1.ChipWears': WHATEVER THE INPUT: true; the input reads as it did. -/
def chipWearsSpec : ChangeSpec := { name := "chipWears", fn := fun _ => fun
  | [d1, d2, d3, d4] => { results := [.lit (.bool true)], args := [d1, d2, d3, d4] }
  | _ => none }
def chipWearsRow : OpenClaim := { program := "ytbldjiofchaigaadoor", sum := "97d040d44c7054e34676a947cfdaa7a71504aabf2e0fb6a561279928707baedd", func := "granary/granarylaw1.ChipWears", spec := "chipWears", inPlace := ["internal/bytealg.MakeNoZero", "internal/reflectlite.ValueOf", "(internal/reflectlite.Value).Type", "(internal/reflectlite.Value).IsNil", "internal/reflectlite.TypeOf", "(internal/reflectlite.Value).Elem", "(internal/reflectlite.Value).Set"], unfollowed := true, recurses := true, named := ["errors.errorType"], apart := false, laid := [("errors.errorType", laid_errors_errorType)] }
def ChipWearsSaid : Prop := chipWearsRow.holds Tryd.pinned (OpenSpec.ofChange chipWearsSpec)

/-- ITS FALSE NEIGHBOUR: 'it returns false'. Refute it at one input. -/
def chipWearsWrong : ChangeSpec := { name := "chipWears", fn := fun _ => fun
  | [d1, d2, d3, d4] => { results := [.lit (.bool false)], args := [d1, d2, d3, d4] }
  | _ => none }
def ChipWearsWrongFalsely : Prop := chipWearsRow.holds Tryd.pinned (OpenSpec.ofChange chipWearsWrong)

/-- 'granarylaw1.ChipWaits': WHATEVER THE INPUT: true; the input reads as it did. -/
def chipWaitsSpec : ChangeSpec := { name := "chipWaits", fn := fun _ => fun
  | [d1, d2, d3, d4, d5] => { results := [.lit (.bool true)], args := [d1, d2, d3, d4, d5] }
  | _ => none }
def chipWaitsRow : OpenClaim := { program := "ytbldjiofchaigaadoor", sum := "97d040d44c7054e34676a947cfdaa7a71504aabf2e0fb6a561279928707baedd", func := "granary/granarylaw1.ChipWaits", spec := "chipWaits", inPlace := ["internal/bytealg.MakeNoZero", "internal/reflectlite.ValueOf", "(internal/reflectlite.Value).Type", "(internal/reflectlite.Value).IsNil", "internal/reflectlite.TypeOf", "(internal/reflectlite.Value).Elem", "(internal/reflectlite.Value).Set"], unfollowed := true, recurses := true, named := ["errors.errorType"], apart := false, laid := [("errors.errorType", laid_errors_errorType)] }
def ChipWaitsSaid : Prop := chipWaitsRow.holds Tryd.pinned (OpenSpec.ofChange chipWaitsSpec)

/-- ITS FALSE NEIGHBOUR: 'it returns false'. Refute it at one input. -/
def chipWaitsWrong : ChangeSpec := { name := "chipWaits", fn := fun _ => fun
  | [d1, d2, d3, d4, d5] => { results := [.lit (.bool false)], args := [d1, d2, d3, d4, d5] }
  | _ => none }
def ChipWaitsWrongFalsely : Prop := chipWaitsRow.holds Tryd.pinned (OpenSpec.ofChange chipWaitsWrong)

/-- 'granarylaw1.ChipPlays': WHATEVER THE INPUT: true; the input reads as it did. -/
def chipPlaysSpec : ChangeSpec := { name := "chipPlays", fn := fun _ => fun
  | [d1, d2] => { results := [.lit (.bool true)], args := [d1, d2] }
  | _ => none }
def chipPlaysRow : OpenClaim := { program := "ytbldjiofchaigaadoor", sum := "97d040d44c7054e34676a947cfdaa7a71504aabf2e0fb6a561279928707baedd", func := "granary/granarylaw1.ChipPlays", spec := "chipPlays", inPlace := ["internal/bytealg.MakeNoZero", "internal/reflectlite.ValueOf", "(internal/reflectlite.Value).Type", "(internal/reflectlite.Value).IsNil", "internal/reflectlite.TypeOf", "(internal/reflectlite.Value).Elem", "(internal/reflectlite.Value).Set"], unfollowed := true, recurses := true, named := ["errors.errorType"], apart := false, laid := [("errors.errorType", laid_errors_errorType)] }
def ChipPlaysSaid : Prop := chipPlaysRow.holds Tryd.pinned (OpenSpec.ofChange chipPlaysSpec)

/-- ITS FALSE NEIGHBOUR: 'it returns false'. Refute it at one input. -/
def chipPlaysWrong : ChangeSpec := { name := "chipPlays", fn := fun _ => fun
  | [d1, d2] => { results := [.lit (.bool false)], args := [d1, d2] }
  | _ => none }
def ChipPlaysWrongFalsely : Prop := chipPlaysRow.holds Tryd.pinned (OpenSpec.ofChange chipPlaysWrong)

/- THE SECOND FORM. 'bulk': how many values and letters a reading holds, each counted each time it is reached (what is shared counts as often as it is met; a slice's spare places count too). A statement '..UptoSaid' is the law's where the arguments, and the package variables that the reading takes, are together of bulk at most 1048576: NARROWER than '..Said'. Prove '..Said' where nothing that the law and all that it calls make is longer than what came in: it says more and counts as full. Else prove '..UptoSaid'. A law counts once. -/
mutual
def uptoBulk {H : Type} : DataW H → Nat
  | .lit (.string bytes) => bytes.length + 1
  | .lit _ => 1
  | .nil => 1
  | .ptr d => uptoBulk d + 1
  | .slice elems spare => uptoBulkAll elems + uptoBulkAll spare + 1
  | .agg parts => uptoBulkAll parts + 1
  | .iface _ d => uptoBulk d + 1
  | .map entries => uptoBulkEntries entries + 1
  | .held _ => 1
def uptoBulkAll {H : Type} : List (DataW H) → Nat
  | [] => 0
  | d :: r => uptoBulk d + uptoBulkAll r
def uptoBulkEntries {H : Type} : List (Lit × DataW H) → Nat
  | [] => 0
  | x :: r => uptoBulkEntry x + uptoBulkEntries r
def uptoBulkEntry {H : Type} : Lit × DataW H → Nat
  | (.string bytes, d) => bytes.length + uptoBulk d + 1
  | (_, d) => uptoBulk d + 1
 end
def uptoSmall : (H : Type) → List (DataW H) → Bool := fun _ ds => decide (uptoBulkAll ds ≤ 1048576)
def OpenSpec.upto (s : _root_.Go.ChangeSpec) : _root_.Go.OpenSpec := { _root_.Go.OpenSpec.ofChange s with cond := some uptoSmall }

/-- 'granarylaw1.ChipTurns', WHERE WHAT IT READS IS OF BULK AT MOST 1048576: true; the input reads as it did. -/
def chipTurnsUptoRow : OpenClaim := { program := "ytbldjiofchaigaadoor", sum := "97d040d44c7054e34676a947cfdaa7a71504aabf2e0fb6a561279928707baedd", func := "granary/granarylaw1.ChipTurns", spec := "chipTurns", inPlace := ["internal/bytealg.MakeNoZero", "internal/reflectlite.ValueOf", "(internal/reflectlite.Value).Type", "(internal/reflectlite.Value).IsNil", "internal/reflectlite.TypeOf", "(internal/reflectlite.Value).Elem", "(internal/reflectlite.Value).Set"], unfollowed := true, recurses := true, named := ["errors.errorType"], apart := false, laid := [("errors.errorType", laid_errors_errorType)], narrowed := true }
def ChipTurnsUptoSaid : Prop := chipTurnsUptoRow.holds Tryd.pinned (OpenSpec.upto chipTurnsSpec)

/-- 'granarylaw1.ChipKeeps', WHERE WHAT IT READS IS OF BULK AT MOST 1048576: true; the input reads as it did. -/
def chipKeepsUptoRow : OpenClaim := { program := "ytbldjiofchaigaadoor", sum := "97d040d44c7054e34676a947cfdaa7a71504aabf2e0fb6a561279928707baedd", func := "granary/granarylaw1.ChipKeeps", spec := "chipKeeps", inPlace := ["internal/bytealg.MakeNoZero", "internal/reflectlite.ValueOf", "(internal/reflectlite.Value).Type", "(internal/reflectlite.Value).IsNil", "internal/reflectlite.TypeOf", "(internal/reflectlite.Value).Elem", "(internal/reflectlite.Value).Set"], unfollowed := true, recurses := true, named := ["errors.errorType"], apart := false, laid := [("errors.errorType", laid_errors_errorType)], narrowed := true }
def ChipKeepsUptoSaid : Prop := chipKeepsUptoRow.holds Tryd.pinned (OpenSpec.upto chipKeepsSpec)

/-- 'granarylaw1.ChipWears', WHERE WHAT IT READS IS OF BULK AT MOST 1048576: true; the input reads as it did. -/
def chipWearsUptoRow : OpenClaim := { program := "ytbldjiofchaigaadoor", sum := "97d040d44c7054e34676a947cfdaa7a71504aabf2e0fb6a561279928707baedd", func := "granary/granarylaw1.ChipWears", spec := "chipWears", inPlace := ["internal/bytealg.MakeNoZero", "internal/reflectlite.ValueOf", "(internal/reflectlite.Value).Type", "(internal/reflectlite.Value).IsNil", "internal/reflectlite.TypeOf", "(internal/reflectlite.Value).Elem", "(internal/reflectlite.Value).Set"], unfollowed := true, recurses := true, named := ["errors.errorType"], apart := false, laid := [("errors.errorType", laid_errors_errorType)], narrowed := true }
def ChipWearsUptoSaid : Prop := chipWearsUptoRow.holds Tryd.pinned (OpenSpec.upto chipWearsSpec)

/-- 'granarylaw1.ChipWaits', WHERE WHAT IT READS IS OF BULK AT MOST 1048576: true; the input reads as it did. -/
def chipWaitsUptoRow : OpenClaim := { program := "ytbldjiofchaigaadoor", sum := "97d040d44c7054e34676a947cfdaa7a71504aabf2e0fb6a561279928707baedd", func := "granary/granarylaw1.ChipWaits", spec := "chipWaits", inPlace := ["internal/bytealg.MakeNoZero", "internal/reflectlite.ValueOf", "(internal/reflectlite.Value).Type", "(internal/reflectlite.Value).IsNil", "internal/reflectlite.TypeOf", "(internal/reflectlite.Value).Elem", "(internal/reflectlite.Value).Set"], unfollowed := true, recurses := true, named := ["errors.errorType"], apart := false, laid := [("errors.errorType", laid_errors_errorType)], narrowed := true }
def ChipWaitsUptoSaid : Prop := chipWaitsUptoRow.holds Tryd.pinned (OpenSpec.upto chipWaitsSpec)

/-- 'granarylaw1.ChipPlays', WHERE WHAT IT READS IS OF BULK AT MOST 1048576: true; the input reads as it did. -/
def chipPlaysUptoRow : OpenClaim := { program := "ytbldjiofchaigaadoor", sum := "97d040d44c7054e34676a947cfdaa7a71504aabf2e0fb6a561279928707baedd", func := "granary/granarylaw1.ChipPlays", spec := "chipPlays", inPlace := ["internal/bytealg.MakeNoZero", "internal/reflectlite.ValueOf", "(internal/reflectlite.Value).Type", "(internal/reflectlite.Value).IsNil", "internal/reflectlite.TypeOf", "(internal/reflectlite.Value).Elem", "(internal/reflectlite.Value).Set"], unfollowed := true, recurses := true, named := ["errors.errorType"], apart := false, laid := [("errors.errorType", laid_errors_errorType)], narrowed := true }
def ChipPlaysUptoSaid : Prop := chipPlaysUptoRow.holds Tryd.pinned (OpenSpec.upto chipPlaysSpec)

end Rows
end Go.Proofs.YtbldjiofchaigaaDoor
