/- DERIVED. Ports marked and held to their marks. -/
import Derived.Test.YtncjgebgghpigaaKit
import Derived.Test.YtncjgebgghpigaaFlPort
namespace Go.Proofs.Ytncjgebgghpigaa
set_option maxRecDepth 100000
open Go.RowKit

def portMk (k : Int) : Int × Int × Bool := (k, k + 1, ((k + 1 + 1) % 3 == 0))