/- RecordJoins, whole. -/
import Derived.Test.YtndhmdengadmjaaRecBat
import Derived.Test.YtndhmdengadmjaaRecFact
set_option linter.unusedVariables false
namespace Go.Proofs.Ytndhmdengadmjaa.RecW
open Go.RowKit Rec BufW I64
theorem batch_says : BatchSays := fun B rb A c l a w h ha => batch_any B rb A c l a w h ha
theorem joins_all (w : World) (v1 : Value) (l1 : List (List E3)) (h1 : RdB w v1 l1) (s1 : Small l1) (v2 : Value) (l2 : List (List E3)) (h2 : RdB w v2 l2) (s2 : Small l2) :
    Calls Try.prog 6 #[v1, v2] w fun e w' => e = .returned (.bool true) ∧ Below w.heap.size w w' :=
  joins_law batch_says fact_says w v1 v2 l1 l2 h1 h2 s1 s2
end Go.Proofs.Ytndhmdengadmjaa.RecW
