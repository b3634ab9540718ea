/- RecordReads, whole. -/
import Derived.Test.YtndhmdengadmjaaRecBat
import Derived.Test.YtndhmdengadmjaaRecReads
set_option linter.unusedVariables false
namespace Go.Proofs.Ytndhmdengadmjaa.RecW
open Go.RowKit Rec BufW I64
theorem reads_all (w : World) (A : Option Addr) (l : List UInt8) (n c : Nat) (hn : n = l.length) (h1 : n ≤ c) (h2 : c ≤ 1048576) (h : Rd w A (u8v l)) :
    Calls Try.prog 4 #[.slice A n c] w fun e w' => e = .returned (.bool true) ∧ Below w.heap.size w w' :=
  reads_law (fun B rb A c l a w h ha => batch_any B rb A c l a w h ha) A l n c w hn h1 h2 h
end Go.Proofs.Ytndhmdengadmjaa.RecW
