/- DERIVED. What makes a build, in the program and in the reference. By program (gbuild.py). -/
import Derived.Test.YtioblfbhjkkgoaaBuildV
import Derived.Test.YtioblfbhjkkgoaaKitStr
namespace Go.Proofs.Ytioblfbhjkkgoaa
set_option maxRecDepth 100000
open Go.RowKit

theorem noText_list : noText.toList = [] := by rw [ByteArray.toList_eq]; rfl
theorem text_not {t : ByteArray} (h : t ≠ noText) : ¬ t.toList = [] := fun e => h (str_eq.1 (e.trans noText_list.symm))

end Go.Proofs.Ytioblfbhjkkgoaa
