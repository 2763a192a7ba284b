/- DERIVED. Draws of chapter 16, made of the ones before. -/
import Derived.Test.YtmhaloigcpanpaaDraw4
namespace Go.Proofs.Ytmhaloigcpanpaa
set_option maxRecDepth 100000
open Go.RowKit