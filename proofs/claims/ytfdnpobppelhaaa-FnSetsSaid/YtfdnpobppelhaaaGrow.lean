/- DERIVED. A list of plain values that grows while a source is drawn from. -/
import Derived.Test.YtfdnpobppelhaaaDraw4
import Derived.Test.YtfdnpobppelhaaaOwn3
namespace Go.Proofs.Ytfdnpobppelhaaa
set_option maxRecDepth 100000
open Go.RowKit

theorem Own.setAt {α : Type} {w : World} {base sz c lo hi : Nat} {E : TypeId} {f : α → List Value} {A : Option Addr} {xs : List α} {w' : World} (h : Own w base E sz f A c xs) (ho : Only lo hi w w') (hh : hi ≤ base) : Own w' base E sz f A c xs := h.only ho hh
/-- A list that grows, a source in hand; below the base nothing but the source turns. -/
structure GrowSt {α : Type} (V w : World) (b : Nat) (A : Option Addr) (c : Nat) (xs : List Int) (E : TypeId) (sz : Nat) (f : α → List Value) (LA : Option Addr) (lc : Nat) (ms : List α) : Prop where
  feed : Feed w b A c xs
  own : Own w V.heap.size E sz f LA lc ms
  old : Only b (b + 1) V w
  lt : b < V.heap.size
section
variable {α : Type} {V w w' : World} {b c lc sz : Nat} {A LA : Option Addr} {xs : List Int} {E : TypeId} {f : α → List Value} {ms : List α}
theorem GrowSt.made (hF : Feed w b A c xs) : GrowSt w (w.alloc (.cells #[] E)) b A c xs E sz f (some ⟨w.heap.size, 0, none⟩) 0 ([] : List α) :=
  ⟨hF.next (balloc _ _), Own.made _ (Nat.le_refl _) rfl, Only.alloc _, hF.src.lt⟩
theorem GrowSt.turn (h : GrowSt V w b A c xs E sz f LA lc ms) (hF : Feed w' b A c xs) (hO : Only b (b + 1) w w') : GrowSt V w' b A c xs E sz f LA lc ms := by
  have := h.lt
  exact ⟨hF, h.own.only hO (by omega), h.old.trans hO, h.lt⟩
theorem GrowSt.next (h : GrowSt V w b A c xs E sz f LA lc ms) (hb : Below w.heap.size w w') : GrowSt V w' b A c xs E sz f LA lc ms := h.turn (h.feed.next hb) (Only.of_below hb)
/-- One more. -/
theorem GrowSt.grow {w4 : World} {m : α} {A2 : Option Addr} {c2 : Nat} {o : Obj} (h : GrowSt V w b A c xs E sz f LA lc ms) (hown : Own w4 V.heap.size E sz f A2 c2 (ms ++ [m])) (hb4 : Below V.heap.size (w.alloc o) w4) : GrowSt V w4 b A c xs E sz f A2 c2 (ms ++ [m]) := by
  have hlt := h.lt
  have hVs := h.old.size
  have hb24 : Below V.heap.size w w4 := ((balloc w o).mono hVs).trans hb4
  have ho2 := h.old
  exact ⟨h.feed.under hb24 hlt, hown, ⟨hb24.os.trans ho2.os, hb24.tape.trans ho2.tape, hb24.output.trans ho2.output, Nat.le_trans ho2.size hb24.size, fun k hk hn => (hb24.block k hk).trans (ho2.block k hk hn)⟩, hlt⟩
end
/-- A list drawn: any list of at most m elements. -/
def DrawnList {α : Type} (m : Nat) (E : TypeId) (sz : Nat) (f : α → List Value) (G : α → Prop) (w : World) (b : Nat) (A : Option Addr) (c : Nat) (xs : List Int) (e : Ending) (w' : World) : Prop :=
  ∃ (LA : Option Addr) (lc : Nat) (ms : List α), e = .returned (.slice LA ms.length lc) ∧ Flat w' w.heap.size w'.heap.size E sz f LA ms ∧ ms.length ≤ lc ∧ ms.length ≤ m ∧ (∀ x ∈ ms, G x) ∧ Feed w' b A c xs ∧ Only b (b + 1) w w'
theorem GrowSt.drawn {α : Type} {V w : World} {b c lc sz m : Nat} {A LA : Option Addr} {xs : List Int} {E : TypeId} {f : α → List Value} {G : α → Prop} {ms : List α} (h : GrowSt V w b A c xs E sz f LA lc ms) (hf : ∀ x, (f x).length = sz) (hm : ms.length ≤ m) (hG : ∀ x ∈ ms, G x) : DrawnList m E sz f G V b A c xs (.returned (.slice LA ms.length lc)) w :=
  ⟨LA, lc, ms, rfl, h.own.flat hf, h.own.cap, hm, hG, h.feed, h.old⟩
theorem mem_snoc {α : Type} {G : α → Prop} {ms : List α} {x : α} (h : ∀ y ∈ ms, G y) (hx : G x) : ∀ y ∈ ms ++ [x], G y := fun y hy => by
  rcases List.mem_append.1 hy with hy | hy
  · exact h y hy
  · simp only [List.mem_singleton] at hy
    subst hy
    exact hx
def lenOf : Value → Nat
  | .slice _ n _ => n
  | _ => 0
end Go.Proofs.Ytfdnpobppelhaaa
