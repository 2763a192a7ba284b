/- DERIVED. The best bicycles in the reference. By program (gbests.py). -/
import Derived.Test.YtioblfbhjkkgoaaBest18
namespace Go.Proofs.Ytioblfbhjkkgoaa
set_option maxRecDepth 100000
open Go.RowKit

end Go.Proofs.Ytioblfbhjkkgoaa
