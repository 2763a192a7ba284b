/- DERIVED. A single part in the laws: opened, carried over, compared, counted, marked. -/
import Derived.Test.YtncjgebgghpigaaKitPart
import Derived.ChangeMaps5
namespace Go.Proofs.Ytncjgebgghpigaa
set_option maxRecDepth 100000
open Go.RowKit Go.ChangeShapes Go.WideShapes Go.ChangeAt Go.Joins Go.Deep