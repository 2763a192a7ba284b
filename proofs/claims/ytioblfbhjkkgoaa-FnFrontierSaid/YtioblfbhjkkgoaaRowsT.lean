/- DERIVED. Slices of slices of texts: how they read, how they grow. -/
import Derived.Test.YtioblfbhjkkgoaaOwn3
import Derived.Test.YtioblfbhjkkgoaaIdx
import Derived.Test.YtioblfbhjkkgoaaMark
namespace Go.Proofs.Ytioblfbhjkkgoaa
set_option maxRecDepth 100000
open Go.RowKit

/-- A row: where its texts lie. -/
structure RowM where
  A : Option Addr
  c : Nat
  bs : List ByteArray
def rowC (m : RowM) : List Value := [.slice m.A m.bs.length m.c]
theorem rowC_len (m : RowM) : (rowC m).length = 1 := rfl
theorem rowC_one (m : RowM) : ∀ u ∈ rowC m, u.oneCell' = true := fun u hu => by
  simp only [rowC, List.mem_singleton] at hu
  subst hu
  rfl
theorem tC_len1 (t : ByteArray) : (tC t).length = 1 := rfl
theorem Flat.blk {α : Type} {w : World} {lo hi sz g : Nat} {E : TypeId} {f : α → List Value} {xs : List α} (h : Flat w lo hi E sz f (some ⟨g, 0, none⟩) xs) (hp : 0 < xs.length) : lo ≤ g ∧ g < hi := by
  obtain ⟨g', m, e, h1, h2, _⟩ := h hp
  simp only [Option.some.injEq, Addr.mk.injEq] at e
  omega
theorem Own.apartNew {α : Type} {w : World} {base sz c g : Nat} {E : TypeId} {f : α → List Value} {A : Option Addr} {xs : List α} (h : Own w base E sz f A c xs) (hg : w.heap.size ≤ g) : Apart A g := fun b o e => by
  subst e
  have := h.lt b rfl
  omega
/-- The k-th of a slice of numbers, or of rows, that is kept. -/
theorem Flat.cell1 {α : Type} {w : World} {lo hi g k : Nat} {E : TypeId} {f : α → List Value} {xs : List α} {x : α} {v : Value} (h : Flat w lo hi E 1 f (some ⟨g, 0, none⟩) xs) (hk : xs[k]? = some x) (hv : f x = [v]) : w.cell? ⟨g, k, none⟩ = some v := by
  obtain ⟨g', m, e, _, _, _, _, hc⟩ := h (by have := (List.getElem?_eq_some_iff.1 hk).1; omega)
  simp only [Option.some.injEq, Addr.mk.injEq] at e
  obtain ⟨rfl, _⟩ := e
  have := hc k x hk 0 v (by rw [hv]; rfl)
  simpa using this
theorem Flat.some {α : Type} {w : World} {lo hi sz : Nat} {E : TypeId} {f : α → List Value} {A : Option Addr} {xs : List α} (h : Flat w lo hi E sz f A xs) (hp : 0 < xs.length) : ∃ g, A = some ⟨g, 0, none⟩ := by
  obtain ⟨g, m, e, _⟩ := h hp
  exact ⟨g, e⟩

/-- Rows of texts: each in memory that is there. -/
def RowsF (w : World) (lo hi : Nat) (ms : List RowM) : Prop := ∀ m ∈ ms, Flat w lo hi 9 1 tC m.A m.bs ∧ m.bs.length ≤ m.c
section
variable {w w' : World} {lo hi lo' hi' : Nat} {ms ns : List RowM}
theorem RowsF.mono (h : RowsF w lo hi ms) (h1 : lo' ≤ lo) (h2 : hi ≤ hi') : RowsF w lo' hi' ms := fun m hm => ⟨(h m hm).1.mono h1 h2, (h m hm).2⟩
theorem RowsF.below {B : Nat} (h : RowsF w lo hi ms) (hb : Below B w w') (hB : hi ≤ B) : RowsF w' lo hi ms := fun m hm => ⟨(h m hm).1.below hb hB, (h m hm).2⟩
theorem RowsF.next (h : RowsF w lo w.heap.size ms) (hb : Below w.heap.size w w') : RowsF w' lo w'.heap.size ms := (h.below hb (Nat.le_refl _)).mono (Nat.le_refl _) hb.size
theorem RowsF.nil : RowsF w lo hi [] := fun _ h => absurd h (by simp)
theorem RowsF.append (h : RowsF w lo hi ms) (k : RowsF w lo hi ns) : RowsF w lo hi (ms ++ ns) := fun m hm => by
  rcases List.mem_append.1 hm with hm | hm
  · exact h m hm
  · exact k m hm
theorem RowsF.one {m : RowM} (h : Flat w lo hi 9 1 tC m.A m.bs) (hc : m.bs.length ≤ m.c) : RowsF w lo hi [m] := fun n hn => by
  simp only [List.mem_singleton] at hn
  subst hn
  exact ⟨h, hc⟩
theorem RowsF.far {β : Type} {w4 : World} {sz' c base : Nat} {E' : TypeId} {f' : β → List Value} {B A2 : Option Addr} {ys : List β} (h : RowsF w lo hi ms) (ho : Own w base E' sz' f' B c ys) (hE : E' ≠ 9) (hhi : hi ≤ w.heap.size)
    (hfar : ∀ g, g < w.heap.size → Apart B g → Apart A2 g ∧ w4.heap[g]? = w.heap[g]?) : RowsF w4 lo hi ms := fun m hm => ⟨(h m hm).1.farType ho hE hhi hfar, (h m hm).2⟩
theorem RowsF.setType {m : Nat} {E' : TypeId} (h : RowsF w lo hi ms) {p : Addr} (hr : Row w p.block E' m) (hE : E' ≠ 9) (u : Value) : RowsF (w.setCell p u) lo hi ms := fun m hm => ⟨(h m hm).1.setType hr (fun e => hE e.symm) u, (h m hm).2⟩
end
theorem infoRow : (Try.prog.info? 44).map (fun i => (i.zero, i.size, i.bytes)) = some (some (.slice none 0 0), 1, 24) := by kernel_rfl
end Go.Proofs.Ytioblfbhjkkgoaa
