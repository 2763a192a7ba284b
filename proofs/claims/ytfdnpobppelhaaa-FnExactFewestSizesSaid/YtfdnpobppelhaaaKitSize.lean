/- DERIVED. Slices of Size in the laws. -/
import Derived.Test.YtfdnpobppelhaaaMkSize
import Derived.Test.YtfdnpobppelhaaaSizes
import Derived.Test.YtfdnpobppelhaaaKit
namespace Go.Proofs.Ytfdnpobppelhaaa
set_option maxRecDepth 100000
open Go.RowKit

def SmallSz (xs : List (ByteArray × Int × Int × Int)) : Prop := xs.length ≤ 1048576 ∧ ∀ x ∈ xs, x.1.size ≤ 1048576
theorem SmallSz.good {xs : List (ByteArray × Int × Int × Int)} (h : SmallSz xs) : ∀ x ∈ xs, x.1.size ≤ maxLen := fun x hx => by
  have := h.2 x hx
  unfold maxLen
  omega
theorem szSizeS_k (A : Option Addr) (c : Nat) (xs : List (ByteArray × Int × Int × Int)) (l : Int) (w : World) (hr : Rd w w.heap.size 4 sizeC A xs) (hm : xs.length ≤ maxLen) (hg : ∀ x ∈ xs, (fun t : ByteArray × Int × Int × Int => t.1.size ≤ maxLen) x) (h2 : 0 ≤ l) (h3 : l ≤ 1048576) :
    Calls Try.prog 32 #[.slice A xs.length c, .int .i64 l] w (SzPost w l (SmallSz xs)) := szSizeS_any A c xs l w hr hm hg h2 h3
theorem toSizeS_k (A : Option Addr) (c : Nat) (xs : List (ByteArray × Int × Int × Int)) (w : World) (hr : Rd w w.heap.size 4 sizeC A xs) (hs : SmallSz xs) :
    Calls Try.prog 35 #[.slice A xs.length c] w (GivesFlat w 27 4 sizeC xs) := toSizeS_any A c xs w hr hs.1
theorem eqSizeS_k (A A' : Option Addr) (c c' : Nat) (xs : List (ByteArray × Int × Int × Int)) (w : World) (hr : Rd w w.heap.size 4 sizeC A xs) (hr' : Rd w w.heap.size 4 sizeC A' xs) (hs : SmallSz xs) :
    Calls Try.prog 39 #[.slice A xs.length c, .slice A' xs.length c'] w fun e w' => e = .returned (.bool true) ∧ Below w.heap.size w w' := by
  have := eqSizeS_any A A' c c' xs xs w hr hr' hs.1
  rwa [decide_eq_true (rfl : xs = xs)] at this
theorem markSizeS_k (A : Option Addr) (c : Nat) (xs : List (ByteArray × Int × Int × Int)) (k : Int) (lo hi : Nat) (w : World) (hf : Flat w lo hi 27 4 sizeC A xs) (hs : SmallSz xs) (k0 : 0 < k) (k1 : k ≤ 900000000000000) :
    Calls Try.prog 41 #[.slice A xs.length c, .int .i64 k] w (MarkedOnly w lo hi k) := by
  have hm := hs.1
  refine (markSizeS_any A c xs k lo hi w hf hm k0 (by omega)).mono ?_
  rintro e w' ⟨rfl, ho⟩
  exact ⟨_, rfl, by omega, by omega, ho⟩
end Go.Proofs.Ytfdnpobppelhaaa
