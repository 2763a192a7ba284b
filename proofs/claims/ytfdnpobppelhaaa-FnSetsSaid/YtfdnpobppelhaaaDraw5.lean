/- DERIVED. Draws of chapter 16, made of the ones before. -/
import Derived.Test.YtfdnpobppelhaaaDraw4
namespace Go.Proofs.Ytfdnpobppelhaaa
set_option maxRecDepth 100000
open Go.RowKit