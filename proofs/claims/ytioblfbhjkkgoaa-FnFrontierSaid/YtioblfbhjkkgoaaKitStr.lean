/- DERIVED. Slices of texts in the laws: opened, carried over, compared, counted, marked; results of this kind. -/
import Derived.Test.YtioblfbhjkkgoaaKit
import Derived.Test.YtioblfbhjkkgoaaSl
import Derived.Test.YtioblfbhjkkgoaaIdx
import Derived.Test.YtioblfbhjkkgoaaOpen
namespace Go.Proofs.Ytioblfbhjkkgoaa
set_option maxRecDepth 100000
open Go.RowKit Go.ChangeShapes Go.WideShapes Go.ChangeAt Go.Joins Go.Deep

def SmallStr (bs : List ByteArray) : Prop := bs.length ≤ 1048576 ∧ ∀ x ∈ bs, x.size ≤ maxLen
theorem tC_len (t : ByteArray) : (tC t).length = 1 := rfl
theorem tC_one (t : ByteArray) : ∀ u ∈ tC t, u.oneCell' = true := fun u hu => by
  simp only [tC, List.mem_cons, List.not_mem_nil, or_false] at hu
  subst hu
  rfl
theorem open_strings {H : Type} {enc : TypeId × Value → H} {W : World} {spare : Nat → Bool} {r : Reach} {b0 : Nat} {v : Value} {d : DataW H} {p : List MemPlace}
    (hv : Value.okWide Try.prog W r b0 44 v) (h : DataW.Trod enc Try.prog W 0 spare true 44 v d p) :
    ∃ A c xs, v = .slice A (List.length xs) c ∧ List.length xs ≤ maxLen ∧ (∀ x ∈ xs, (fun t : ByteArray => t.size ≤ maxLen) x) ∧ Rd W W.heap.size 1 tC A xs :=
  open_flat (fun t : ByteArray => t.size ≤ maxLen) tC Try.underlying44 (show Try.prog.cellsOf 9 = 1 by kernel_rfl) (by omega) (fun n cs y hl h => by
    match cs, hl with
    | [c0], _ =>
      obtain ⟨x0, e0, -, wx0⟩ := DataW.trod_string Try.underlying9 h
      simp at e0
      subst e0
      exact ⟨x0, wx0, rfl⟩) hv h