/- DERIVED. Port: carried over, compared, counted; an argument of this kind opened. By program (flat.py). -/
import Derived.Test.YtmeanlilmbfmkaaOpen
namespace Go.Proofs.Ytmeanlilmbfmkaa
open Go.RowKit Go.ChangeShapes Go.WideShapes Go.ChangeAt Go.Joins Go.Deep

def portC (t : Int × Int × Bool) : List Value := [.int .i64 t.1, .int .i64 t.2.1, .bool t.2.2]
theorem portC_len (t : Int × Int × Bool) : (portC t).length = 3 := rfl

theorem toPort_any (x0 : Int) (x1 : Int) (x2 : Bool) (w : World) :
    Calls Try.prog 17 #[.agg #[.int .i64 x0, .int .i64 x1, .bool x2]] w fun e w' => e = .returned (.agg #[.int .i64 x0, .int .i64 x1, .bool x2]) ∧ Below w.heap.size w w' := by
  go_enter Try.func17, Try.ntmps17
  go_wp2
  refine bodyPost_ret (v := .agg #[.int .i64 x0, .int .i64 x1, .bool x2]) (by simp [results, Try.results17, go_sem]) rfl ⟨rfl, ?_⟩
  exact bthen (bthen (balloc _ _) (balloc _ _)) (balloc _ _)

end Go.Proofs.Ytmeanlilmbfmkaa
