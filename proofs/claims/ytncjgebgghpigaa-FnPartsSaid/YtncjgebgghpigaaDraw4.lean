/- DERIVED. Ports drawn. -/
import Derived.Test.YtncjgebgghpigaaDraw3
namespace Go.Proofs.Ytncjgebgghpigaa
set_option maxRecDepth 100000
open Go.RowKit

theorem Feed.under {w w' : World} {b c B : Nat} {A : Option Addr} {xs : List Int} (h : Feed w b A c xs) (hb : Below B w w') (hB : b < B) : Feed w' b A c xs := by
  refine ⟨?_, h.rd.below ⟨hb.os, hb.tape, hb.output, hb.size, fun k hk => hb.block k (by omega)⟩, h.byte, h.small⟩
  obtain ⟨k, sd, q0, q1, q2, hk, h0, h2, hf, hl⟩ := h.src
  have e := hb.block b hB
  refine ⟨k, sd, (World.cell?_of_block (a := ⟨b, 0, none⟩) e).trans q0, (World.cell?_of_block (a := ⟨b, 1, none⟩) e).trans q1, (World.cell?_of_block (a := ⟨b, 2, none⟩) e).trans q2, hk, h0, h2, fun j => ?_, Nat.lt_of_lt_of_le hl hb.size⟩
  have := hf j
  unfold World.frozen? at this ⊢
  simp only [e] at this ⊢
  exact this
theorem Feed.setFar {w : World} {b c : Nat} {A : Option Addr} {xs : List Int} (h : Feed w b A c xs) {p : Addr} (hp : b < p.block) (u : Value) : Feed (w.setCell p u) b A c xs :=
  h.under (B := p.block) ⟨rfl, rfl, rfl, by simp [World.setCell], fun k hk => Below.heap_setCell _ _ _ _ (by omega)⟩ hp
theorem Only.setNew {lo hi : Nat} {w w' : World} (h : Only lo hi w w') {p : Addr} (hp : w.heap.size ≤ p.block) (u : Value) : Only lo hi w (w'.setCell p u) :=
  ⟨h.os, h.tape, h.output, by have := h.size; simpa [World.setCell] using this, fun k hk hn => (Below.heap_setCell _ _ _ _ (by omega)).trans (h.block k hk hn)⟩
/-- A number of a list has been picked. -/
def PickHit (w : World) (b : Nat) (A : Option Addr) (c : Nat) (xs ys : List Int) (e : Ending) (w' : World) : Prop := ∃ v ∈ ys, e = .returned (.int .i64 v) ∧ Feed w' b A c xs ∧ Only b (b + 1) w w'
theorem pick_next (A : Option Addr) (c b : Nat) (xs : List Int) (w : World) (E : TypeId) (ys : List Int) (h0 : 0 < ys.length) (h1 : ys.length ≤ 1000) (hF : Feed w b A c xs) :
    Calls Try.prog 48 #[.pointer (some ⟨b, 0, none⟩), .slice (some ⟨w.heap.size, 0, none⟩) ys.length ys.length] (w.alloc (.cells (ys.map (Value.int .i64)).toArray E)) (PickHit w b A c xs ys) := by
  have hlb := hF.src.lt
  have hV := hF.next (balloc w (.cells (ys.map (Value.int .i64)).toArray E))
  have hOV : Only b (b + 1) w (w.alloc (.cells (ys.map (Value.int .i64)).toArray E)) := Only.alloc _
  refine (l01Pick_any A c b w.heap.size ys.length xs ys _ hV.src hV.rd hV.byte hV.small (by omega) (by simp) (fun k y hy => ?_) h0 h1).mono ?_
  · rw [cell_of_row _ _ _ _ E (0, 0) (heap_alloc_new w _)]
    simp [hy]
  · rintro e w1 ⟨v, hv, rfl, hS, hO⟩
    exact ⟨v, hv, rfl, hV.turn hS hO, hOV.trans hO⟩
/-- A port drawn. -/
def DrawnPort (w : World) (b : Nat) (A : Option Addr) (c : Nat) (xs : List Int) (e : Ending) (w' : World) : Prop := ∃ (k s : Int) (p : Bool), e = .returned (.agg #[.int .i64 k, .int .i64 s, .bool p]) ∧ 0 ≤ k ∧ k ≤ 20 ∧ 0 ≤ s ∧ s ≤ 10001 ∧ Feed w' b A c xs ∧ Only b (b + 1) w w'