/- What is needed of a list of batches that came in. -/
import Derived.Test.YtndhmdengadmjaaDoorRecWrite
set_option linter.unusedVariables false
namespace Go.Proofs.YtndhmdengadmjaaDoor.RecW
open Go.RowKit Rec

/-- What is needed of a list of batches that came in. -/
def Small (ls : List (List E3)) : Prop := ls.length ≤ 2000000 ∧ (∀ es ∈ ls, es.length ≤ 1000000000) ∧ ∀ i, (flat (natL (ls.take i))).length ≤ 100000000

end Go.Proofs.YtndhmdengadmjaaDoor.RecW
