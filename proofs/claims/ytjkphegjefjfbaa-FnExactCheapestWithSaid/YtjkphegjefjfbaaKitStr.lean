/- DERIVED. Slices of texts in the laws: opened, carried over, compared, counted, marked; results of this kind. -/
import Derived.Test.YtjkphegjefjfbaaKit
import Derived.Test.YtjkphegjefjfbaaSl
import Derived.Test.YtjkphegjefjfbaaIdx
import Derived.Test.YtjkphegjefjfbaaOpen
namespace Go.Proofs.Ytjkphegjefjfbaa
set_option maxRecDepth 100000
open Go.RowKit Go.ChangeShapes Go.WideShapes Go.ChangeAt Go.Joins Go.Deep

def SmallStr (bs : List ByteArray) : Prop := bs.length ≤ 1048576 ∧ ∀ x ∈ bs, x.size ≤ maxLen
theorem tC_len (t : ByteArray) : (tC t).length = 1 := rfl
theorem tC_one (t : ByteArray) : ∀ u ∈ tC t, u.oneCell' = true := fun u hu => by
  simp only [tC, List.mem_cons, List.not_mem_nil, or_false] at hu
  subst hu
  rfl
theorem open_strings {H : Type} {enc : TypeId × Value → H} {W : World} {spare : Nat → Bool} {r : Reach} {b0 : Nat} {v : Value} {d : DataW H} {p : List MemPlace}
    (hv : Value.okWide Try.prog W r b0 35 v) (h : DataW.Trod enc Try.prog W 0 spare true 35 v d p) :
    ∃ A c xs, v = .slice A (List.length xs) c ∧ List.length xs ≤ maxLen ∧ (∀ x ∈ xs, (fun t : ByteArray => t.size ≤ maxLen) x) ∧ Rd W W.heap.size 1 tC A xs :=
  open_flat (fun t : ByteArray => t.size ≤ maxLen) tC Try.underlying35 (show Try.prog.cellsOf 9 = 1 by kernel_rfl) (by omega) (fun n cs y hl h => by
    match cs, hl with
    | [c0], _ =>
      obtain ⟨x0, e0, -, wx0⟩ := DataW.trod_string Try.underlying9 h
      simp at e0
      subst e0
      exact ⟨x0, wx0, rfl⟩) hv h

theorem eqStringS_k (A A' : Option Addr) (c c' : Nat) (xs : List ByteArray) (w : World) (hr : Rd w w.heap.size 1 tC A xs) (hr' : Rd w w.heap.size 1 tC A' xs) (hs : SmallStr xs) :
    Calls Try.prog 27 #[.slice A xs.length c, .slice A' xs.length c'] w fun e w' => e = .returned (.bool true) ∧ Below w.heap.size w w' := by
  have := eqStringS_any A A' c c' xs xs w hr hr' hs.1
  rwa [decide_eq_true (rfl : xs = xs)] at this
theorem markStringS_k (A : Option Addr) (c : Nat) (xs : List ByteArray) (k : Int) (lo hi : Nat) (w : World) (hf : Flat w lo hi 9 1 tC A xs) (hs : SmallStr xs) (k0 : 0 < k) (k1 : k ≤ 900000000000000) :
    Calls Try.prog 30 #[.slice A xs.length c, .int .i64 k] w (MarkedOnly w lo hi k) := by
  have hm := hs.1
  refine (markStringS_any A c xs k lo hi w hf hm k0 (by omega)).mono ?_
  rintro e w' ⟨rfl, ho, _⟩
  exact ⟨_, rfl, by omega, by omega, ho⟩
theorem eqStringS_r (A A' : Option Addr) (c c' : Nat) (l : List ByteArray) (w : World) (hr : Rd w w.heap.size 1 tC A l) (hr' : Rd w w.heap.size 1 tC A' l) (hl : l.length ≤ 1048576) :
    Calls Try.prog 27 #[.slice A l.length c, .slice A' l.length c'] w fun e w' => e = .returned (.bool true) ∧ Below w.heap.size w w' := by
  have := eqStringS_any A A' c c' l l w hr hr' hl
  rwa [decide_eq_true (rfl : l = l)] at this
theorem markStringS_r (A : Option Addr) (c : Nat) (l : List ByteArray) (lo hi : Nat) (w : World) (hf : Flat w lo hi 9 1 tC A l) (hl : l.length ≤ 1048576) :
    Calls Try.prog 30 #[.slice A l.length c, .int .i64 1] w fun e w' => e = .returned (.int .i64 (1 + l.length)) ∧ Only lo hi w w' ∧ Flat w' lo hi 9 1 tC A (marks 1 l.length) :=
  markStringS_any A c l 1 lo hi w hf hl (by omega) (by omega)
theorem heldStringS_r (A : Option Addr) (c : Nat) (l : List ByteArray) (lo hi : Nat) (w : World) (h : Flat w lo hi 9 1 tC A (marks 1 l.length)) (hhi : hi ≤ w.heap.size) (hl : l.length ≤ 1048576) :
    Calls Try.prog 31 #[.slice A l.length c, .int .i64 1] w fun e w' => e = .returned (.int .i64 (1 + l.length)) ∧ Below w.heap.size w w' :=
  heldStringS_any A c l.length 1 w (h.rd.more hhi) hl (by omega) (by omega)
end Go.Proofs.Ytjkphegjefjfbaa
