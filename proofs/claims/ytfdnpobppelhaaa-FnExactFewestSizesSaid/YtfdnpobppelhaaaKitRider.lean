/- DERIVED. Slices of Rider in the laws. By program (gkits.py). -/
import Derived.Test.YtfdnpobppelhaaaMkRider
import Derived.Test.YtfdnpobppelhaaaKit
namespace Go.Proofs.Ytfdnpobppelhaaa
set_option maxRecDepth 100000
open Go.RowKit

theorem szRiderS_k (A : Option Addr) (c : Nat) (xs : List (Int × Int × Int)) (l : Int) (w : World) (_ : Rd w w.heap.size 3 ridrC A xs) (hm : xs.length ≤ maxLen) (_ : ∀ x ∈ xs, (fun _ => True) x) (h2 : 0 ≤ l) (h3 : l ≤ 1048576) :
    Calls Try.prog 31 #[.slice A xs.length c, .int .i64 l] w (SzPost w l (xs.length ≤ 1048576)) := by
  unfold maxLen at hm
  refine (szRiderS_any A xs.length c l (by omega) h2 h3 w).mono ?_
  rintro e w' ⟨rfl, rfl⟩
  refine ⟨_, rfl, ?_, Below.refl _ _⟩
  split
  · exact Or.inl rfl
  · exact Or.inr ⟨by omega, by omega, by omega⟩
theorem toRiderS_k (A : Option Addr) (c : Nat) (xs : List (Int × Int × Int)) (w : World) (hr : Rd w w.heap.size 3 ridrC A xs) (hs : xs.length ≤ 1048576) :
    Calls Try.prog 34 #[.slice A xs.length c] w (GivesFlat w 25 3 ridrC xs) := toRiderS_any A c xs w hr hs
theorem eqRiderS_k (A A' : Option Addr) (c c' : Nat) (xs : List (Int × Int × Int)) (w : World) (hr : Rd w w.heap.size 3 ridrC A xs) (hr' : Rd w w.heap.size 3 ridrC A' xs) (hs : xs.length ≤ 1048576) :
    Calls Try.prog 38 #[.slice A xs.length c, .slice A' xs.length c'] w fun e w' => e = .returned (.bool true) ∧ Below w.heap.size w w' := by
  have := eqRiderS_any A A' c c' xs xs w hr hr' hs
  rwa [decide_eq_true (rfl : xs = xs)] at this
theorem markRiderS_k (A : Option Addr) (c : Nat) (xs : List (Int × Int × Int)) (k : Int) (lo hi : Nat) (w : World) (hf : Flat w lo hi 25 3 ridrC A xs) (hs : xs.length ≤ 1048576) (k0 : 0 < k) (k1 : k ≤ 900000000000000) :
    Calls Try.prog 40 #[.slice A xs.length c, .int .i64 k] w (MarkedOnly w lo hi k) := by
  refine (markRiderS_any A c xs k lo hi w hf hs k0 (by omega)).mono ?_
  rintro e w' ⟨rfl, ho⟩
  exact ⟨_, rfl, by omega, by omega, ho⟩
end Go.Proofs.Ytfdnpobppelhaaa
