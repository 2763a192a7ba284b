/- DERIVED. A part drawn: what is kept while it is made. -/
import Derived.Test.YtncjgebgghpigaaDraw5
import Derived.Test.YtncjgebgghpigaaOwn3
import Derived.Test.YtncjgebgghpigaaPartV
namespace Go.Proofs.Ytncjgebgghpigaa
set_option maxRecDepth 100000
open Go.RowKit

/-- A part in its box r, its ports in memory behind it, a source in hand; nothing of what lay there at V has turned but the source. -/
structure GoodSt (V w : World) (r r4 b : Nat) (A : Option Addr) (c : Nat) (xs : List Int) (x : PartT) (PA : Option Addr) (pc : Nat) : Prop where
  feed : Feed w b A c xs
  row : Row w r 27 5
  row4 : Row w r4 27 5
  c0 : w.cell? ⟨r, 0, none⟩ = some (.string x.code)
  c1 : w.cell? ⟨r, 1, none⟩ = some (.int .i64 x.slot)
  c2 : w.cell? ⟨r, 2, none⟩ = some (.slice PA x.ports.length pc)
  c3 : w.cell? ⟨r, 3, none⟩ = some (.int .i64 x.price)
  c4 : w.cell? ⟨r, 4, none⟩ = some (.int .i64 x.grams)
  own : Own w V.heap.size 62 3 portC PA pc x.ports
  old : Only b (b + 1) V w
  lt : b < V.heap.size
  rV : V.heap.size ≤ r
  r4V : V.heap.size ≤ r4
section
variable {V w w' : World} {r r4 b c pc : Nat} {A PA : Option Addr} {xs : List Int} {x : PartT}
theorem GoodSt.turn (h : GoodSt V w r r4 b A c xs x PA pc) (hF : Feed w' b A c xs) (hO : Only b (b + 1) w w') : GoodSt V w' r r4 b A c xs x PA pc := by
  have hl := h.row.lt
  have hl4 := h.row4.lt
  have := h.lt
  have := h.rV
  have := h.r4V
  have e := hO.block r hl (by omega)
  have e4 := hO.block r4 hl4 (by omega)
  exact ⟨hF, h.row.kept e, h.row4.kept e4, (World.cell?_of_block (a := ⟨r, 0, none⟩) e).trans h.c0, (World.cell?_of_block (a := ⟨r, 1, none⟩) e).trans h.c1, (World.cell?_of_block (a := ⟨r, 2, none⟩) e).trans h.c2, (World.cell?_of_block (a := ⟨r, 3, none⟩) e).trans h.c3, (World.cell?_of_block (a := ⟨r, 4, none⟩) e).trans h.c4, h.own.only hO (by omega), h.old.trans hO, h.lt, h.rV, h.r4V⟩
theorem GoodSt.next (h : GoodSt V w r r4 b A c xs x PA pc) (hb : Below w.heap.size w w') : GoodSt V w' r r4 b A c xs x PA pc := h.turn (h.feed.next hb) (Only.of_below hb)
/-- A port more. -/
theorem GoodSt.grow {w4 : World} {p : PortT} {A2 : Option Addr} {c2 : Nat} (h : GoodSt V w r r4 b A c xs x PA pc) (hown : Own w4 V.heap.size 62 3 portC A2 c2 (x.ports ++ [p])) (hb : Below V.heap.size w w4) (hfar : ∀ g, g < w.heap.size → Apart PA g → Apart A2 g ∧ w4.heap[g]? = w.heap[g]?) :
    GoodSt V (w4.setCell ⟨r, 2, none⟩ (.slice A2 (x.ports.length + 1) c2)) r r4 b A c xs { x with ports := x.ports ++ [p] } A2 c2 := by
  have hlt := h.lt
  have hrV := h.rV
  have hl := h.row.lt
  have hE : (62 : TypeId) ≠ 27 := by decide
  obtain ⟨_, e⟩ := hfar r hl (h.own.apartType h.row hE)
  obtain ⟨_, e4⟩ := hfar r4 h.row4.lt (h.own.apartType h.row4 hE)
  have hF4 := h.feed.under hb hlt
  have hne : ∀ j, j ≠ 2 → (w4.setCell ⟨r, 2, none⟩ (.slice A2 (x.ports.length + 1) c2)).cell? ⟨r, j, none⟩ = w.cell? ⟨r, j, none⟩ := fun j hj => by
    rw [setCell_other (by omega)]
    exact World.cell?_of_block (a := ⟨r, j, none⟩) e
  have z := (World.cell?_of_block (a := ⟨r, 2, none⟩) e).trans h.c2
  have hold : Only b (b + 1) V w4 := ⟨hb.os.trans h.old.os, hb.tape.trans h.old.tape, hb.output.trans h.old.output, Nat.le_trans h.old.size hb.size, fun k hk hn => (hb.block k hk).trans (h.old.block k hk hn)⟩
  have hrow := h.row.kept e
  have hdif : ∀ g m, Row w4 g 62 m → g ≠ r := fun g m hg => hg.ne hrow hE
  refine ⟨hF4.setFar (p := ⟨r, 2, none⟩) (show b < r by omega) _, hrow.setCell _ _, (h.row4.kept e4).setCell _ _, (hne 0 (by omega)).trans h.c0, (hne 1 (by omega)).trans h.c1, ?_, (hne 3 (by omega)).trans h.c3, (hne 4 (by omega)).trans h.c4, ?_, hold.setNew hrV _, hlt, hrV, h.r4V⟩
  · rw [setCell_same z]
    simp
  · refine ⟨hown.1, ?_⟩
    rcases hown.2 with h2 | ⟨g, cap, cur, e', hB, hg, h3⟩
    · exact Or.inl h2
    · exact Or.inr ⟨g, cap, cur, e', hB, (Below.heap_setCell _ _ _ _ (hdif g _ ⟨cur, hg, rfl⟩)).trans hg, h3⟩
end
section
variable {V w w' : World} {r r4 b c pc : Nat} {A PA : Option Addr} {xs : List Int} {x : PartT}
theorem GoodSt.setOne (h : GoodSt V w r r4 b A c xs x PA pc) (j : Nat) (u : Value) : Feed (w.setCell ⟨r, j, none⟩ u) b A c xs ∧ Row (w.setCell ⟨r, j, none⟩ u) r 27 5 ∧ Row (w.setCell ⟨r, j, none⟩ u) r4 27 5 ∧ Own (w.setCell ⟨r, j, none⟩ u) V.heap.size 62 3 portC PA pc x.ports ∧ Only b (b + 1) V (w.setCell ⟨r, j, none⟩ u) := by
  have hlt := h.lt
  have hrV := h.rV
  have hE : (62 : TypeId) ≠ 27 := by decide
  refine ⟨h.feed.setFar (p := ⟨r, j, none⟩) (show b < r by omega) _, h.row.setCell _ _, h.row4.setCell _ _, ⟨h.own.1, ?_⟩, h.old.setNew hrV _⟩
  rcases h.own.2 with h2 | ⟨g, cap, cur, e', hB, hg, h3⟩
  · exact Or.inl h2
  · exact Or.inr ⟨g, cap, cur, e', hB, (Below.heap_setCell _ _ _ _ (Row.ne (E := 62) ⟨cur, hg, rfl⟩ h.row hE)).trans hg, h3⟩
theorem GoodSt.setCode (h : GoodSt V w r r4 b A c xs x PA pc) (v : ByteArray) : GoodSt V (w.setCell ⟨r, 0, none⟩ (.string v)) r r4 b A c xs { x with code := v } PA pc := by
  obtain ⟨h1, h2, h3, h4, h5⟩ := h.setOne 0 (.string v)
  have hne : ∀ j, j ≠ 0 → (w.setCell ⟨r, 0, none⟩ (.string v)).cell? ⟨r, j, none⟩ = w.cell? ⟨r, j, none⟩ := fun j hj => setCell_other (by omega)
  exact ⟨h1, h2, h3, setCell_same h.c0, (hne 1 (by omega)).trans h.c1, (hne 2 (by omega)).trans h.c2, (hne 3 (by omega)).trans h.c3, (hne 4 (by omega)).trans h.c4, h4, h5, h.lt, h.rV, h.r4V⟩
theorem GoodSt.setSlot (h : GoodSt V w r r4 b A c xs x PA pc) (v : Int) : GoodSt V (w.setCell ⟨r, 1, none⟩ (.int .i64 v)) r r4 b A c xs { x with slot := v } PA pc := by
  obtain ⟨h1, h2, h3, h4, h5⟩ := h.setOne 1 (.int .i64 v)
  have hne : ∀ j, j ≠ 1 → (w.setCell ⟨r, 1, none⟩ (.int .i64 v)).cell? ⟨r, j, none⟩ = w.cell? ⟨r, j, none⟩ := fun j hj => setCell_other (by omega)
  exact ⟨h1, h2, h3, (hne 0 (by omega)).trans h.c0, setCell_same h.c1, (hne 2 (by omega)).trans h.c2, (hne 3 (by omega)).trans h.c3, (hne 4 (by omega)).trans h.c4, h4, h5, h.lt, h.rV, h.r4V⟩
theorem GoodSt.setPrice (h : GoodSt V w r r4 b A c xs x PA pc) (v : Int) : GoodSt V (w.setCell ⟨r, 3, none⟩ (.int .i64 v)) r r4 b A c xs { x with price := v } PA pc := by
  obtain ⟨h1, h2, h3, h4, h5⟩ := h.setOne 3 (.int .i64 v)
  have hne : ∀ j, j ≠ 3 → (w.setCell ⟨r, 3, none⟩ (.int .i64 v)).cell? ⟨r, j, none⟩ = w.cell? ⟨r, j, none⟩ := fun j hj => setCell_other (by omega)
  exact ⟨h1, h2, h3, (hne 0 (by omega)).trans h.c0, (hne 1 (by omega)).trans h.c1, (hne 2 (by omega)).trans h.c2, setCell_same h.c3, (hne 4 (by omega)).trans h.c4, h4, h5, h.lt, h.rV, h.r4V⟩
end
/-- A part handed out through its result box r4. -/
structure PartOut (V w : World) (r4 b : Nat) (A : Option Addr) (c : Nat) (xs : List Int) (ps : List PortT) (PA : Option Addr) (pc : Nat) : Prop where
  feed : Feed w b A c xs
  row4 : Row w r4 27 5
  own : Own w V.heap.size 62 3 portC PA pc ps
  old : Only b (b + 1) V w
  lt : b < V.heap.size
  r4V : V.heap.size ≤ r4
theorem GoodSt.out {V w : World} {r r4 b c pc : Nat} {A PA : Option Addr} {xs : List Int} {x : PartT} (h : GoodSt V w r r4 b A c xs x PA pc) : PartOut V w r4 b A c xs x.ports PA pc := ⟨h.feed, h.row4, h.own, h.old, h.lt, h.r4V⟩
theorem PartOut.set {V w : World} {r4 b c pc : Nat} {A PA : Option Addr} {xs : List Int} {ps : List PortT} (h : PartOut V w r4 b A c xs ps PA pc) (j : Nat) (u : Value) : PartOut V (w.setCell ⟨r4, j, none⟩ u) r4 b A c xs ps PA pc := by
  have hlt := h.lt
  have hrV := h.r4V
  have hE : (62 : TypeId) ≠ 27 := by decide
  refine ⟨h.feed.setFar (p := ⟨r4, j, none⟩) (show b < r4 by omega) _, h.row4.setCell _ _, ⟨h.own.1, ?_⟩, h.old.setNew hrV _, hlt, hrV⟩
  rcases h.own.2 with h2 | ⟨g, cap, cur, e', hB, hg, h3⟩
  · exact Or.inl h2
  · exact Or.inr ⟨g, cap, cur, e', hB, (Below.heap_setCell _ _ _ _ (Row.ne (E := 62) ⟨cur, hg, rfl⟩ h.row4 hE)).trans hg, h3⟩
/-- A part that was drawn: any part of small size. -/
def DrawnPart (m : Nat) (w : World) (b : Nat) (A : Option Addr) (c : Nat) (xs : List Int) (e : Ending) (w' : World) : Prop := ∃ (x : PartT) (pA : Option Addr) (pc : Nat), e = .returned (argV x pA pc) ∧ x.code.size ≤ 64 ∧ x.ports.length ≤ m ∧ Own w' w.heap.size 62 3 portC pA pc x.ports ∧ Feed w' b A c xs ∧ Only b (b + 1) w w'
theorem portC_len3 (p : PortT) : (portC p).length = 3 := rfl
theorem portC_one3 (p : PortT) : ∀ u ∈ portC p, u.oneCell' = true := fun u hu => by
  simp only [portC, List.mem_cons, List.not_mem_nil, or_false] at hu
  rcases hu with rfl | rfl | rfl <;> rfl
end Go.Proofs.Ytncjgebgghpigaa
