/- DERIVED. What every law on draws begins with: its code opened, how large it is. -/
import Derived.Test.YtncjgebgghpigaaDraw
import Derived.Test.YtncjgebgghpigaaOpen
import Derived.Test.YtncjgebgghpigaaHead
import Derived.Lib.SmallJoins
import Derived.Deep.Slices
import Derived.Deep.Fields
import Derived.ChangeMaps5
import Derived.Carry
namespace Go.Proofs.Ytncjgebgghpigaa
set_option maxRecDepth 100000
open Go.RowKit Go.ChangeShapes Go.WideShapes Go.ChangeAt Go.Joins Go.Deep

theorem bd_u8 {n : Int} (h : (Lit.int .u8 n).wf = true) : 0 ≤ n ∧ n < 256 := by
  simp [Lit.wf, IntKind.min, IntKind.max, IntKind.signed, IntKind.bits] at h
  omega
theorem open_bytes {H : Type} {enc : TypeId × Value → H} {W : World} {spare : Nat → Bool} {r : Reach} {b0 : Nat} {v : Value} {d : DataW H} {p : List MemPlace}
    (hv : Value.okWide Try.prog W r b0 22 v) (h : DataW.Trod enc Try.prog W 0 spare true 22 v d p) :
    ∃ A c xs, v = .slice A (List.length xs) c ∧ List.length xs ≤ maxLen ∧ (∀ x ∈ xs, (fun n : Int => 0 ≤ n ∧ n < 256) x) ∧ Rd W W.heap.size 1 uC A xs :=
  open_flat (fun n : Int => 0 ≤ n ∧ n < 256) uC Try.underlying22 (show Try.prog.cellsOf 5 = 1 by kernel_rfl) (by omega) (fun n cs y hl h => by
    match cs, hl with
    | [c0], _ =>
      obtain ⟨x0, e0, -, wx0⟩ := DataW.trod_int Try.underlying5 h
      simp at e0
      subst e0
      exact ⟨x0, bd_u8 wx0, rfl⟩) hv h

theorem big_k (A : Option Addr) (c n : Nat) (w : World) : Calls Try.prog 4 #[.slice A n c] w fun e w' => e = .returned (.bool (decide ((4096 : Int) < n))) ∧ w = w' := by
  go_enter Try.func4, Try.ntmps4
  go_wp2_with fail
  go_ret
  exact ⟨rfl, rfl⟩
end Go.Proofs.Ytncjgebgghpigaa
