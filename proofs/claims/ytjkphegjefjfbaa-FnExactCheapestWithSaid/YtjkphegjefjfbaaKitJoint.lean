/- DERIVED. Slices of Joint in the laws. By program (gkits.py). -/
import Derived.Test.YtjkphegjefjfbaaMkJoint
import Derived.Test.YtjkphegjefjfbaaKit
namespace Go.Proofs.Ytjkphegjefjfbaa
set_option maxRecDepth 100000
open Go.RowKit

theorem szJointS_k (A : Option Addr) (c : Nat) (xs : List (Int × Int × Int)) (l : Int) (w : World) (_ : Rd w w.heap.size 3 jointC A xs) (hm : xs.length ≤ maxLen) (_ : ∀ x ∈ xs, (fun _ => True) x) (h2 : 0 ≤ l) (h3 : l ≤ 1048576) :
    Calls Try.prog 16 #[.slice A xs.length c, .int .i64 l] w (SzPost w l (xs.length ≤ 1048576)) := by
  unfold maxLen at hm
  refine (szJointS_any A xs.length c l (by omega) h2 h3 w).mono ?_
  rintro e w' ⟨rfl, rfl⟩
  refine ⟨_, rfl, ?_, Below.refl _ _⟩
  split
  · exact Or.inl rfl
  · exact Or.inr ⟨by omega, by omega, by omega⟩
theorem toJointS_k (A : Option Addr) (c : Nat) (xs : List (Int × Int × Int)) (w : World) (hr : Rd w w.heap.size 3 jointC A xs) (hs : xs.length ≤ 1048576) :
    Calls Try.prog 19 #[.slice A xs.length c] w (GivesFlat w 82 3 jointC xs) := toJointS_any A c xs w hr hs
theorem eqJointS_k (A A' : Option Addr) (c c' : Nat) (xs : List (Int × Int × Int)) (w : World) (hr : Rd w w.heap.size 3 jointC A xs) (hr' : Rd w w.heap.size 3 jointC A' xs) (hs : xs.length ≤ 1048576) :
    Calls Try.prog 22 #[.slice A xs.length c, .slice A' xs.length c'] w fun e w' => e = .returned (.bool true) ∧ Below w.heap.size w w' := by
  have := eqJointS_any A A' c c' xs xs w hr hr' hs
  rwa [decide_eq_true (rfl : xs = xs)] at this
theorem markJointS_k (A : Option Addr) (c : Nat) (xs : List (Int × Int × Int)) (k : Int) (lo hi : Nat) (w : World) (hf : Flat w lo hi 82 3 jointC A xs) (hs : xs.length ≤ 1048576) (k0 : 0 < k) (k1 : k ≤ 900000000000000) :
    Calls Try.prog 29 #[.slice A xs.length c, .int .i64 k] w (MarkedOnly w lo hi k) := by
  refine (markJointS_any A c xs k lo hi w hf hs k0 (by omega)).mono ?_
  rintro e w' ⟨rfl, ho⟩
  exact ⟨_, rfl, by omega, by omega, ho⟩
end Go.Proofs.Ytjkphegjefjfbaa
