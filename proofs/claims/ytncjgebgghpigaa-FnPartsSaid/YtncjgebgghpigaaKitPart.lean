/- DERIVED. Parts in the laws: opened, carried over, compared, counted, marked. -/
import Derived.Test.YtncjgebgghpigaaKitPort
import Derived.Test.YtncjgebgghpigaaPartV
namespace Go.Proofs.Ytncjgebgghpigaa
set_option maxRecDepth 100000
open Go.RowKit Go.ChangeShapes Go.WideShapes Go.ChangeAt Go.Joins Go.Deep

def SmallV (vs : List PartT) : Prop := vs.length ≤ 1048576 ∧ ∀ x ∈ vs, x.code.size ≤ maxLen ∧ x.ports.length ≤ 1048576
def goodV (x : PartT) : Prop := x.code.size ≤ maxLen ∧ x.ports.length ≤ maxLen