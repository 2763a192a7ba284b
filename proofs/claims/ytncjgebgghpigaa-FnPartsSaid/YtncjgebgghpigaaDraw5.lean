/- DERIVED. Draws of chapter 16, made of the ones before. -/
import Derived.Test.YtncjgebgghpigaaDraw4
namespace Go.Proofs.Ytncjgebgghpigaa
set_option maxRecDepth 100000
open Go.RowKit

def names : List ByteArray := [⟨#[97, 110, 99, 104, 111, 114]⟩, ⟨#[98, 111, 108, 116]⟩, ⟨#[99, 114, 97, 110, 107]⟩, ⟨#[102, 111, 114, 107]⟩, ⟨#[102, 114, 97, 109, 101]⟩, ⟨#[104, 101, 97, 100, 115, 101, 116]⟩, ⟨#[112, 111, 115, 116]⟩, ⟨#[115, 97, 100, 100, 108, 101]⟩]
theorem l16Names_any (w : World) : Calls Try.prog 46 #[] w fun e w' => e = .returned (.slice (some ⟨w.heap.size, 0, none⟩) 8 8) ∧ w' = w.alloc (.cells (names.map Value.string).toArray 9) := by
  go_enter Try.func46, Try.ntmps46
  go_wp2_with fail
  go_ret
  exact ⟨rfl, rfl⟩