/- DERIVED. Results that are slices of numbers: compared, marked, held. -/
import Derived.Test.YtioblfbhjkkgoaaSl
namespace Go.Proofs.Ytioblfbhjkkgoaa
set_option maxRecDepth 100000
open Go.RowKit

theorem eqInt64S_r (A A' : Option Addr) (c c' : Nat) (l : List Int) (w : World) (hr : Rd w w.heap.size 1 nC A l) (hr' : Rd w w.heap.size 1 nC A' l) (hl : l.length ≤ 1048576) :
    Calls Try.prog 33 #[.slice A l.length c, .slice A' l.length c'] w fun e w' => e = .returned (.bool true) ∧ Below w.heap.size w w' := by
  have := eqInt64S_any A A' c c' l l w hr hr' hl
  rwa [decide_eq_true (rfl : l = l)] at this
theorem markInt64S_r (A : Option Addr) (c : Nat) (l : List Int) (lo hi : Nat) (w : World) (hf : Flat w lo hi 2 1 nC A l) (hl : l.length ≤ 1048576) :
    Calls Try.prog 38 #[.slice A l.length c, .int .i64 1] w fun e w' => e = .returned (.int .i64 (1 + l.length)) ∧ Only lo hi w w' ∧ Flat w' lo hi 2 1 nC A (markN 1 l.length) :=
  markInt64S_any A c l 1 lo hi w hf hl (by omega) (by omega)
theorem heldInt64S_r (A : Option Addr) (c : Nat) (l : List Int) (lo hi : Nat) (w : World) (h : Flat w lo hi 2 1 nC A (markN 1 l.length)) (hhi : hi ≤ w.heap.size) (hl : l.length ≤ 1048576) :
    Calls Try.prog 39 #[.slice A l.length c, .int .i64 1] w fun e w' => e = .returned (.int .i64 (1 + l.length)) ∧ Below w.heap.size w w' :=
  heldInt64S_any A c l.length 1 w (h.rd.more hhi) hl (by omega) (by omega)
end Go.Proofs.Ytioblfbhjkkgoaa
