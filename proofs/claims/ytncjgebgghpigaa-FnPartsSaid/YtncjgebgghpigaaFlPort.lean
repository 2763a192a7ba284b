/- DERIVED. Port: carried over, compared, counted; an argument of this kind opened. By program (flat.py). -/
import Derived.Test.YtncjgebgghpigaaOpen
namespace Go.Proofs.Ytncjgebgghpigaa
set_option maxRecDepth 100000
open Go.RowKit Go.ChangeShapes Go.WideShapes Go.ChangeAt Go.Joins Go.Deep

def portC (t : Int × Int × Bool) : List Value := [.int .i64 t.1, .int .i64 t.2.1, .bool t.2.2]
theorem portC_len (t : Int × Int × Bool) : (portC t).length = 3 := rfl

theorem infoPort : (Try.prog.info? 62).map (fun i => (i.zero, i.size, i.bytes)) = some (some (.agg #[.int .i64 0, .int .i64 0, .bool false]), 3, 24) := by kernel_rfl

end Go.Proofs.Ytncjgebgghpigaa
