/- DERIVED. Slices of texts and of numbers: compared; numbers marked and held to their marks. By program (slices.py). -/
import Derived.Test.YtncjgebgghpigaaMark
namespace Go.Proofs.Ytncjgebgghpigaa
set_option maxRecDepth 100000
open Go.RowKit

def nC (n : Int) : List Value := [.int .i64 n]

end Go.Proofs.Ytncjgebgghpigaa
