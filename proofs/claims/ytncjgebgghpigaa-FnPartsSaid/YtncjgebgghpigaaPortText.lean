/- DERIVED. A port's text, in the program and in the reference. -/
import Derived.Test.YtncjgebgghpigaaDec
import Derived.Test.YtncjgebgghpigaaFlPort
namespace Go.Proofs.Ytncjgebgghpigaa
set_option maxRecDepth 100000
open Go.RowKit

def portB (k s : Int) : Bool := inB k 0 9 && inB s 0 10000
def portT (k s : Int) (p : Bool) : List UInt8 := decL k.toNat ++ [58] ++ decL s.toNat ++ [if p then 112 else 115]
theorem portB_true {k s : Int} (h : portB k s = true) : 0 ≤ k ∧ k ≤ 9 ∧ 0 ≤ s ∧ s ≤ 10000 := by
  simp [portB, inB] at h
  omega

theorem isPort_impl (k s : Int) (p : Bool) (w : World) :
    Calls Try.prog 41 #[.agg #[.int .i64 k, .int .i64 s, .bool p]] w fun e w' => e = .returned (.bool (portB k s)) ∧ Below w.heap.size w w' := by
  go_enter Try.func41, Try.ntmps41
  go_wp2_with (go_at_call 40; refine (within_any _ _ _ _).mono ?_; rintro e w' ⟨rfl, rfl⟩)
  all_goals
    go_ret
    refine ⟨ret_bool ?_, balloc _ _⟩
    simp [portB, *]

theorem isPort_spec (k s : Int) (p : Bool) (w : World) :
    Calls Try.prog 42 #[.agg #[.int .i64 k, .int .i64 s, .bool p]] w fun e w' => e = .returned (.bool (portB k s)) ∧ Below w.heap.size w w' := by
  go_enter Try.func42, Try.ntmps42
  go_wp2_with (go_at_call 44; refine (l01In_any _ _ _ _).mono ?_; rintro e w' ⟨rfl, rfl⟩)
  all_goals
    go_ret
    refine ⟨ret_bool ?_, balloc _ _⟩
    simp [portB, *]

/-- A port's text and its code. -/
def portTextR (k s : Int) (p : Bool) : ByteArray × Int := if portB k s = true then (S (portT k s p), 0) else (S [], 1)

end Go.Proofs.Ytncjgebgghpigaa
