/- DERIVED. A port's text, in the program and in the reference. -/
import Derived.Test.YtioblfbhjkkgoaaDec
import Derived.Test.YtioblfbhjkkgoaaFlPort
namespace Go.Proofs.Ytioblfbhjkkgoaa
set_option maxRecDepth 100000
open Go.RowKit

def portB (k s : Int) : Bool := inB k 0 9 && inB s 0 10000
def portT (k s : Int) (p : Bool) : List UInt8 := decL k.toNat ++ [58] ++ decL s.toNat ++ [if p then 112 else 115]
theorem portB_true {k s : Int} (h : portB k s = true) : 0 ≤ k ∧ k ≤ 9 ∧ 0 ≤ s ∧ s ≤ 10000 := by
  simp [portB, inB] at h
  omega

theorem isPort_impl (k s : Int) (p : Bool) (w : World) :
    Calls Try.prog 78 #[.agg #[.int .i64 k, .int .i64 s, .bool p]] w fun e w' => e = .returned (.bool (portB k s)) ∧ Below w.heap.size w w' := by
  go_enter Try.func78, Try.ntmps78
  go_wp2_with (go_at_call 44; refine (within_any _ _ _ _).mono ?_; rintro e w' ⟨rfl, rfl⟩)
  all_goals
    go_ret
    refine ⟨ret_bool ?_, balloc _ _⟩
    simp [portB, *]

theorem isPort_spec (k s : Int) (p : Bool) (w : World) :
    Calls Try.prog 74 #[.agg #[.int .i64 k, .int .i64 s, .bool p]] w fun e w' => e = .returned (.bool (portB k s)) ∧ Below w.heap.size w w' := by
  go_enter Try.func74, Try.ntmps74
  go_wp2_with (go_at_call 61; refine (l01In_any _ _ _ _).mono ?_; rintro e w' ⟨rfl, rfl⟩)
  all_goals
    go_ret
    refine ⟨ret_bool ?_, balloc _ _⟩
    simp [portB, *]

/-- A port's text and its code. -/
def portTextR (k s : Int) (p : Bool) : ByteArray × Int := if portB k s = true then (S (portT k s p), 0) else (S [], 1)

end Go.Proofs.Ytioblfbhjkkgoaa
