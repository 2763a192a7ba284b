/- DERIVED. Slices of the call's own, of different element types, beside one another. -/
import Derived.Test.YtioblfbhjkkgoaaOwn2
namespace Go.Proofs.Ytioblfbhjkkgoaa
set_option maxRecDepth 100000
open Go.RowKit

theorem Own.apartType {α : Type} {w : World} {base sz c g m : Nat} {E E' : TypeId} {f : α → List Value} {A : Option Addr} {xs : List α} (h : Own w base E sz f A c xs) (hr : Row w g E' m) (hE : E ≠ E') : Apart A g := fun b o e => by
  rcases h.2 with ⟨h2, _⟩ | ⟨g', cap, cur, e', hB, hg, _⟩
  · rw [e] at h2
    cases h2
  · rw [e] at e'
    simp only [Value.slice.injEq, Option.some.injEq, Addr.mk.injEq] at e'
    obtain ⟨⟨rfl, _⟩, _⟩ := e'
    rintro rfl
    obtain ⟨cur', hr, _⟩ := hr
    rw [hg] at hr
    simp only [Option.some.injEq, Obj.cells.injEq] at hr
    exact hE hr.2.1
theorem Row.ne {w : World} {g g' m m' : Nat} {E E' : TypeId} (h : Row w g E m) (h' : Row w g' E' m') (hE : E ≠ E') : g ≠ g' := by
  rintro rfl
  obtain ⟨c, h, _⟩ := h
  obtain ⟨c', h', _⟩ := h'
  rw [h] at h'
  simp only [Option.some.injEq, Obj.cells.injEq] at h'
  exact hE h'.2.1
theorem Own.only {α : Type} {w w' : World} {base sz c lo hi : Nat} {E : TypeId} {f : α → List Value} {A : Option Addr} {xs : List α} (h : Own w base E sz f A c xs) (ho : Only lo hi w w') (hh : hi ≤ base) : Own w' base E sz f A c xs := by
  refine ⟨h.1, ?_⟩
  rcases h.2 with h2 | ⟨g, cap, cur, e, hB, hg, h3⟩
  · exact Or.inl h2
  · exact Or.inr ⟨g, cap, cur, e, hB, (ho.block g (Array.getElem?_eq_some_iff.1 hg).1 (by omega)).trans hg, h3⟩
theorem Own.base {α : Type} {w : World} {base base' sz c : Nat} {E : TypeId} {f : α → List Value} {A : Option Addr} {xs : List α} (h : Own w base E sz f A c xs) (hb : base' ≤ base) : Own w base' E sz f A c xs := by
  refine ⟨h.1, ?_⟩
  rcases h.2 with h2 | ⟨g, cap, cur, e, hB, hg, h3⟩
  · exact Or.inl h2
  · exact Or.inr ⟨g, cap, cur, e, by omega, hg, h3⟩
/-- A block of another type keeps its place when a slice of the call's own is stored into elsewhere. -/
theorem Own.setType {α : Type} {w : World} {base sz c m : Nat} {E E' : TypeId} {f : α → List Value} {A : Option Addr} {xs : List α} (h : Own w base E sz f A c xs) {p : Addr} (hr : Row w p.block E' m) (hE : E ≠ E') (u : Value) : Own (w.setCell p u) base E sz f A c xs := by
  refine ⟨h.1, ?_⟩
  rcases h.2 with h2 | ⟨g, cap, cur, e, hB, hg, h3⟩
  · exact Or.inl h2
  · exact Or.inr ⟨g, cap, cur, e, hB, (Below.heap_setCell _ _ _ _ (Row.ne (E := E) ⟨cur, hg, rfl⟩ hr hE)).trans hg, h3⟩
theorem Flat.setType {α : Type} {w : World} {lo hi sz m : Nat} {E E' : TypeId} {f : α → List Value} {A : Option Addr} {xs : List α} (h : Flat w lo hi E sz f A xs) {p : Addr} (hr : Row w p.block E' m) (hE : E ≠ E') (u : Value) : Flat (w.setCell p u) lo hi E sz f A xs := h.keepAt fun g e hp => by
  obtain ⟨g', m', e', _, _, hrow, _⟩ := h hp
  rw [e] at e'
  simp only [Option.some.injEq, Addr.mk.injEq] at e'
  obtain ⟨rfl, _⟩ := e'
  exact Below.heap_setCell _ _ _ _ (hrow.ne hr hE)
/-- A slice of another element type keeps where a slice of the call's own grows. -/
theorem Flat.farType {α β : Type} {w w4 : World} {lo hi sz sz' c base : Nat} {E E' : TypeId} {f : α → List Value} {f' : β → List Value} {A B A2 : Option Addr} {xs : List α} {ys : List β} (h : Flat w lo hi E sz f A xs) (ho : Own w base E' sz' f' B c ys) (hE : E' ≠ E) (hhi : hi ≤ w.heap.size)
    (hfar : ∀ g, g < w.heap.size → Apart B g → Apart A2 g ∧ w4.heap[g]? = w.heap[g]?) : Flat w4 lo hi E sz f A xs := h.keepAt fun g e hp => by
  obtain ⟨g', m', e', _, h2, hrow, _⟩ := h hp
  rw [e] at e'
  simp only [Option.some.injEq, Addr.mk.injEq] at e'
  obtain ⟨rfl, _⟩ := e'
  exact (hfar g (by omega) (ho.apartType hrow hE)).2
theorem Row.farType {β : Type} {w w4 : World} {g m sz' c base : Nat} {E E' : TypeId} {f' : β → List Value} {B A2 : Option Addr} {ys : List β} (h : Row w g E m) (ho : Own w base E' sz' f' B c ys) (hE : E' ≠ E)
    (hfar : ∀ g, g < w.heap.size → Apart B g → Apart A2 g ∧ w4.heap[g]? = w.heap[g]?) : w4.heap[g]? = w.heap[g]? := (hfar g h.lt (ho.apartType h hE)).2
theorem Own.farType {α β : Type} {w w4 : World} {sz sz' c c' base base' : Nat} {E E' : TypeId} {f : α → List Value} {f' : β → List Value} {A B A2 : Option Addr} {xs : List α} {ys : List β} (h : Own w base E sz f A c xs) (ho : Own w base' E' sz' f' B c' ys) (hE : E' ≠ E)
    (hfar : ∀ g, g < w.heap.size → Apart B g → Apart A2 g ∧ w4.heap[g]? = w.heap[g]?) : Own w4 base E sz f A c xs := by
  refine ⟨h.1, ?_⟩
  rcases h.2 with h2 | ⟨g, cap, cur, e, hB, hg, h3⟩
  · exact Or.inl h2
  · exact Or.inr ⟨g, cap, cur, e, hB, (Row.farType (m := cur.size) ⟨cur, hg, rfl⟩ ho hE hfar).trans hg, h3⟩

theorem Own.setOther {α : Type} {w : World} {base sz c : Nat} {E : TypeId} {f : α → List Value} {A : Option Addr} {xs : List α} (h : Own w base E sz f A c xs) {p : Addr} (hp : p.block < base) (u : Value) : Own (w.setCell p u) base E sz f A c xs :=
  h.only (lo := p.block) (hi := p.block + 1) (Only.setCell ⟨Nat.le_refl _, Nat.lt_succ_self _⟩ u) hp
theorem rd_one {α : Type} {w : World} {g0 sz : Nat} {f : α → List Value} {y : α} (hg : g0 < w.heap.size) (h : ∀ j u, (f y)[j]? = some u → w.cell? ⟨g0, j, none⟩ = some u) : Rd w w.heap.size sz f (some ⟨g0, 0, none⟩) [y] := fun _ => by
  refine ⟨g0, 0, rfl, hg, fun k x hk j v hj => ?_⟩
  match k with
  | 0 =>
    obtain rfl : y = x := by simpa using hk
    simpa using h j v hj
  | k + 1 => simp at hk
theorem three_cells {w : World} {g : Nat} {v0 v1 v2 : Value} (h0 : w.cell? ⟨g, 0, none⟩ = some v0) (h1 : w.cell? ⟨g, 1, none⟩ = some v1) (h2 : w.cell? ⟨g, 2, none⟩ = some v2) :
    ∀ j u, [v0, v1, v2][j]? = some u → w.cell? ⟨g, j, none⟩ = some u
  | 0, u, hj => by simp at hj; rw [← hj]; exact h0
  | 1, u, hj => by simp at hj; rw [← hj]; exact h1
  | 2, u, hj => by simp at hj; rw [← hj]; exact h2
  | _ + 3, u, hj => by simp at hj
/-- out = append(out, y), in a region that draws. -/
theorem step_append_el {α : Type} {P : Program} {w : World} {ops : Array Oper} {o : Oper} {a : Act} {K : Act → World → Prop} {Q : Exit → Act → World → Prop} {Ep : Prop} (hgd : o.guard = none) (s x : Operand) (t : TypeId)
    (ho : o.op = .call { callee := .builtin .append, args := #[s, x], argTypes := #[t, t] })
    (base : Nat) (e : TypeId) (z : Value) (size bytes : Nat) (ht : P.underlying t = some (.slice e)) (hinfo : (P.info? e).map (fun i => (i.zero, i.size, i.bytes)) = some (some z, size, bytes))
    (hzs : z.cells.size = size) (hsz : 0 < size) (hby : bytes ≤ 64)
    (f : α → List Value) (xs : List α) (y : α) (A : Option Addr) (c : Nat) (hs : a.eval s = .slice A xs.length c) (hown : Own w base e size f A c xs)
    (g0 c0 : Nat) (hx : a.eval x = .slice (some ⟨g0, 0, none⟩) 1 c0) (hg0 : g0 < w.heap.size) (hl : ∀ y, (f y).length = size) (hnews : ∀ j u, (f y)[j]? = some u → w.cell? ⟨g0, j, none⟩ = some u) (h1 : ∀ y, ∀ u ∈ f y, u.oneCell' = true)
    (hm : xs.length < 100000000) (hbase : base ≤ w.heap.size)
    (h : ∀ A' c' w', Own w' base e size f A' c' (xs ++ [y]) → Below base w w' → (∀ g, g < w.heap.size → Apart A g → Apart A' g ∧ w'.heap[g]? = w.heap[g]?) → K (a.put o.dst (.slice A' (xs.length + 1) c')) w') :
    if Region.wanted o (yielded ops a.tmps) = true then Oper.wp P o a w K Q else Ep :=
  step_append_slice hgd s x t ho base e z size bytes ht hinfo hzs hsz hby f xs [y] A c hs hown (some ⟨g0, 0, none⟩) c0 w.heap.size hx (rd_one hg0 hnews) hl h1 (by simp; omega) hbase h
end Go.Proofs.Ytioblfbhjkkgoaa
