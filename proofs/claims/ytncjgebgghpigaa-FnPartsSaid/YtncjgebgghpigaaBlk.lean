/- DERIVED. A block known whole: its cells one by one; what keeps it and what writes into it. -/
import Derived.Test.YtncjgebgghpigaaDraw4
namespace Go.Proofs.Ytncjgebgghpigaa
set_option maxRecDepth 100000
open Go.RowKit

def Blk (w : World) (r : Nat) (E : TypeId) (vs : List Value) : Prop := w.heap[r]? = some (.cells vs.toArray E (0, 0))
section
variable {w w' : World} {r : Nat} {E : TypeId} {vs : List Value}
theorem Blk.lt (h : Blk w r E vs) : r < w.heap.size := (Array.getElem?_eq_some_iff.1 h).1
theorem Blk.cell (h : Blk w r E vs) {j : Nat} {v : Value} (hj : vs[j]? = some v) : w.cell? ⟨r, j, none⟩ = some v := by
  rw [cell_of_row w r j _ E (0, 0) h]
  simpa using hj
theorem Blk.frozen (h : Blk w r E vs) (j : Nat) : w.frozen? ⟨r, j, none⟩ = false := by
  simp [World.frozen?, show w.heap[r]? = _ from h]
theorem Blk.kept (h : Blk w r E vs) (e : w'.heap[r]? = w.heap[r]?) : Blk w' r E vs := e.trans h
theorem Blk.next (h : Blk w r E vs) (hb : Below w.heap.size w w') : Blk w' r E vs := h.kept (hb.block r h.lt)
theorem Blk.only {lo hi : Nat} (h : Blk w r E vs) (ho : Only lo hi w w') (hn : ¬ (lo ≤ r ∧ r < hi)) : Blk w' r E vs := h.kept (ho.block r h.lt hn)
theorem Blk.far (h : Blk w r E vs) {p : Addr} (hp : p.block ≠ r) (u : Value) : Blk (w.setCell p u) r E vs := h.kept (Below.heap_setCell w p u r (fun e => hp e.symm))
theorem Blk.set (h : Blk w r E vs) (j : Nat) (u : Value) : Blk (w.setCell ⟨r, j, none⟩ u) r E (vs.set j u) := by
  have h2 : w.heap[r]? = some (.cells vs.toArray E (0, 0)) := h
  unfold Blk
  simp [World.setCell, Array.getElem?_modify, h2]
theorem Blk.made (w : World) (E : TypeId) (vs : List Value) : Blk (w.alloc (.cells vs.toArray E)) w.heap.size E vs := heap_alloc_new w _
theorem Blk.row (h : Blk w r E vs) : Row w r E vs.length := ⟨_, h, by simp⟩
theorem Blk.apart {r' : Nat} {E' : TypeId} {vs' : List Value} (h : Blk w r E vs) (h' : Blk w' r' E' vs') (hs : w.heap.size ≤ r') : r ≠ r' := by
  have := h.lt
  omega
end
theorem Only.setIn {lo hi : Nat} {w w' : World} (h : Only lo hi w w') {p : Addr} (hp : w.heap.size ≤ p.block) (u : Value) : Only lo hi w (w'.setCell p u) := h.setNew hp u
theorem Feed.setBlk {w : World} {b c r : Nat} {A : Option Addr} {xs : List Int} (h : Feed w b A c xs) (hb : b < r) (j : Nat) (u : Value) : Feed (w.setCell ⟨r, j, none⟩ u) b A c xs := h.setFar (p := ⟨r, j, none⟩) hb u
end Go.Proofs.Ytncjgebgghpigaa
