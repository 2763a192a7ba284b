/- DERIVED. Parts that say the same are found to be so; parts counted. -/
import Derived.Test.YtncjgebgghpigaaPart2
namespace Go.Proofs.Ytncjgebgghpigaa
set_option maxRecDepth 100000
open Go.RowKit Go.ChangeShapes Go.WideShapes Go.ChangeAt Go.Joins Go.Deep

end Go.Proofs.Ytncjgebgghpigaa
