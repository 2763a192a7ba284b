/- DERIVED. A slice that grows by append: what it owns, and the step. -/
import Derived.Test.YtioblfbhjkkgoaaMem
import Derived.Deep.AppendLies
namespace Go.Proofs.Ytioblfbhjkkgoaa
set_option maxRecDepth 100000
open Go.RowKit

/-- The slice at A, of capacity c, is the call's own (blocks from base on) and holds xs. -/
def Own {α : Type} (w : World) (base : Nat) (E : TypeId) (sz : Nat) (f : α → List Value) (A : Option Addr) (c : Nat) (xs : List α) : Prop :=
  w.ownsRow base E sz (.slice A xs.length c) xs.length (xs.flatMap f)

theorem flat_at {α : Type} {f : α → List Value} {sz : Nat} (hf : ∀ x, (f x).length = sz) : ∀ (xs : List α) (k : Nat) (x : α), xs[k]? = some x → ∀ j v, (f x)[j]? = some v → (xs.flatMap f)[k * sz + j]? = some v
  | [], k, x, h, _, _, _ => by simp at h
  | y :: ys, 0, x, h, j, v, hj => by
    simp only [List.getElem?_cons_zero, Option.some.injEq] at h
    subst h
    rw [List.flatMap_cons, List.getElem?_append_left (by have := (List.getElem?_eq_some_iff.1 hj).1; omega)]
    simpa using hj
  | y :: ys, k + 1, x, h, j, v, hj => by
    have ih := flat_at hf ys k x (by simpa using h) j v hj
    rw [List.flatMap_cons, List.getElem?_append_right (by rw [hf, Nat.add_mul]; omega), ← ih, hf, Nat.add_mul]
    congr 1
    omega

section
variable {α : Type} {w w' : World} {base sz c : Nat} {E : TypeId} {f : α → List Value} {A : Option Addr} {xs : List α}
theorem Own.nil : Own w base E sz f none 0 [] := World.ownsRow_nil w base E sz
theorem Own.keep (h : Own w base E sz f A c xs) (hb : Below w.heap.size w w') : Own w' base E sz f A c xs := by
  refine ⟨h.1, ?_⟩
  rcases h.2 with h2 | ⟨g, cap, cur, e, hB, hg, h3⟩
  · exact Or.inl h2
  · exact Or.inr ⟨g, cap, cur, e, hB, (hb.block g (Array.getElem?_eq_some_iff.1 hg).1).trans hg, h3⟩
theorem Own.made (cur : Array Value) (hb : base ≤ w.heap.size) (hs : cur.size = 0) : Own (w.alloc (.cells cur E)) base E sz f (some ⟨w.heap.size, 0, none⟩) 0 [] :=
  World.ownsRow_made w cur 0 hb (by unfold maxLen; omega) (by omega)
theorem Own.flat (h : Own w base E sz f A c xs) (hf : ∀ x, (f x).length = sz) : Flat w base w.heap.size E sz f A xs := fun hx => by
  rcases h.2 with ⟨h2, h3⟩ | ⟨g, cap, cur, e, hB, hg, h3, h4, h5, h6⟩
  · omega
  · injection e with e1 e2 e3
    subst e1
    refine ⟨g, cap * sz, rfl, hB, (Array.getElem?_eq_some_iff.1 hg).1, ⟨cur, hg, h5⟩, Nat.mul_le_mul_right sz h3, fun k x hk j v hj => ?_⟩
    have h7 := flat_at hf xs k x hk j v hj
    rw [← h6, List.getElem?_take] at h7
    split at h7
    · rw [cell_of_row w g _ cur E (0, 0) hg]
      simpa using h7
    · cases h7
theorem Own.lt (h : Own w base E sz f A c xs) : ∀ k, (Value.slice A xs.length c).ownBlock = some k → base ≤ k ∧ k < w.heap.size := World.ownsRow.lt h
theorem Own.cap (h : Own w base E sz f A c xs) : xs.length ≤ c := by
  rcases h.2 with ⟨h2, h3⟩ | ⟨g, cap, cur, e, hB, hg, h3, h4, h5, h6⟩
  · omega
  · injection e with e1 e2 e3
    omega
theorem Own.grown (h : Own w base E sz f A c xs) (hg : w.grownBy w' (Value.slice A xs.length c).ownBlock) (hb : base ≤ w.heap.size) : Below base w w' :=
  ⟨hg.os, hg.tape, hg.output, hg.size, fun k hk => hg.block k (by omega) (fun e => by have := (h.lt k e.symm).1; omega)⟩
end

/-- out = append(out, y), y laid into block g0. -/
theorem wpList_append_el {α : Type} {P : Program} {w : World} {ops : Array Oper} {rest : List Oper} {o : Oper} {a : Act} {Q : Exit → Act → World → Prop} (hgd : o.guard = none) (s x : Operand) (t : TypeId)
    (ho : o.op = .call { callee := .builtin .append, args := #[s, x], argTypes := #[t, t] })
    (base : Nat) (e : TypeId) (z : Value) (size bytes : Nat) (ht : P.underlying t = some (.slice e)) (hinfo : (P.info? e).map (fun i => (i.zero, i.size, i.bytes)) = some (some z, size, bytes))
    (hzs : z.cells.size = size) (hsz : 0 < size) (hby : bytes ≤ 64)
    (f : α → List Value) (xs : List α) (y : α) (A : Option Addr) (c : Nat) (hs : a.eval s = .slice A xs.length c) (hown : Own w base e size f A c xs)
    (g0 c0 : Nat) (hx : a.eval x = .slice (some ⟨g0, 0, none⟩) 1 c0) (hl : (f y).length = size) (hnews : ∀ j u, (f y)[j]? = some u → w.cell? ⟨g0, j, none⟩ = some u) (h1 : ∀ u ∈ f y, u.oneCell' = true)
    (hm : xs.length < 1000000000) (hbase : base ≤ w.heap.size)
    (h : ∀ A' c' w', Own w' base e size f A' c' (xs ++ [y]) → w.grownBy w' (Value.slice A xs.length c).ownBlock → Below base w w' → wpList P ops Q rest (a.put o.dst (.slice A' (xs.length + 1) c')) w') :
    wpList P ops Q (o :: rest) a w := by
  obtain ⟨i, hi, hz, hsi, hb⟩ := info_parts hinfo
  refine wpList_append_lies w hgd s x t ho base e i z size bytes ht hi hz hsi hb hzs hsz _ xs.length (xs.flatMap f) hs hown ⟨g0, 0, none⟩ 1 c0 (f y) hx (by omega) (fun j u hj => ?_) h1 (by omega) (by unfold maxLen; omega) ?_ hbase _ rfl ?_
  · have := hnews j u hj
    rw [Addr.add_lit]
    simpa using this
  · calc (xs.length + 1) * bytes ≤ 1000000000 * 64 := Nat.mul_le_mul (by omega) hby
      _ ≤ 140737488355328 := by omega
  · intro g cap w' ho2 hg _ _
    refine h _ _ w' ?_ hg (hown.grown hg hbase)
    unfold Own
    rw [List.flatMap_append, List.length_append]
    simpa using ho2
/-- The slice does not lie in block g. -/
def Apart (A : Option Addr) (g : Nat) : Prop := ∀ b o, A = some ⟨b, o, none⟩ → b ≠ g
theorem Rd.keepAt {α : Type} {w w' : World} {B sz : Nat} {f : α → List Value} {A : Option Addr} {xs : List α} (h : Rd w B sz f A xs) (hk : ∀ b o, A = some ⟨b, o, none⟩ → b < B → w'.heap[b]? = w.heap[b]?) : Rd w' B sz f A xs := fun hx => by
  obtain ⟨b, o, e, hB, hc⟩ := h hx
  exact ⟨b, o, e, hB, fun k x hk' j v hj => (World.cell?_of_block (a := ⟨b, _, none⟩) (hk b o e hB)).trans (hc k x hk' j v hj)⟩

/-- The same, and what it says of other blocks of the call's own. -/
theorem wpList_append_far {α : Type} {P : Program} {w : World} {ops : Array Oper} {rest : List Oper} {o : Oper} {a : Act} {Q : Exit → Act → World → Prop} (hgd : o.guard = none) (s x : Operand) (t : TypeId)
    (ho : o.op = .call { callee := .builtin .append, args := #[s, x], argTypes := #[t, t] })
    (base : Nat) (e : TypeId) (z : Value) (size bytes : Nat) (ht : P.underlying t = some (.slice e)) (hinfo : (P.info? e).map (fun i => (i.zero, i.size, i.bytes)) = some (some z, size, bytes))
    (hzs : z.cells.size = size) (hsz : 0 < size) (hby : bytes ≤ 64)
    (f : α → List Value) (xs : List α) (y : α) (A : Option Addr) (c : Nat) (hs : a.eval s = .slice A xs.length c) (hown : Own w base e size f A c xs)
    (g0 c0 : Nat) (hx : a.eval x = .slice (some ⟨g0, 0, none⟩) 1 c0) (hl : (f y).length = size) (hnews : ∀ j u, (f y)[j]? = some u → w.cell? ⟨g0, j, none⟩ = some u) (h1 : ∀ u ∈ f y, u.oneCell' = true)
    (hm : xs.length < 1000000000) (hbase : base ≤ w.heap.size)
    (h : ∀ A' c' w', Own w' base e size f A' c' (xs ++ [y]) → Below base w w' → (∀ g, g < w.heap.size → Apart A g → Apart A' g ∧ w'.heap[g]? = w.heap[g]?) → wpList P ops Q rest (a.put o.dst (.slice A' (xs.length + 1) c')) w') :
    wpList P ops Q (o :: rest) a w := by
  obtain ⟨i, hi, hz, hsi, hb⟩ := info_parts hinfo
  refine wpList_append_lies w hgd s x t ho base e i z size bytes ht hi hz hsi hb hzs hsz _ xs.length (xs.flatMap f) hs hown ⟨g0, 0, none⟩ 1 c0 (f y) hx (by omega) (fun j u hj => ?_) h1 (by omega) (by unfold maxLen; omega) ?_ hbase _ rfl ?_
  · have := hnews j u hj
    rw [Addr.add_lit]
    simpa using this
  · calc (xs.length + 1) * bytes ≤ 1000000000 * 64 := Nat.mul_le_mul (by omega) hby
      _ ≤ 140737488355328 := by omega
  · intro g cap w' ho2 hg hor _
    refine h _ _ w' ?_ (hown.grown hg hbase) fun q hq ha => ⟨fun b o e => ?_, hg.block q hq fun e => ?_⟩
    · unfold Own
      rw [List.flatMap_append, List.length_append]
      simpa using ho2
    · simp only [Option.some.injEq, Addr.mk.injEq] at e
      obtain ⟨rfl, rfl, _⟩ := e
      rcases hor with hor | hor
      · intro hgq
        subst hgq
        cases A with
        | none => simp [Value.ownBlock] at hor
        | some ad =>
          rcases hown.2 with ⟨h2, _⟩ | ⟨g', cap', cur, e', _⟩
          · cases h2
          · injection e' with e1 e2 e3
            injection e1 with e1
            subst e1
            simp [Value.ownBlock] at hor
            exact ha _ _ rfl hor
      · omega
    · cases A with
      | none => simp [Value.ownBlock] at e
      | some ad =>
        rcases hown.2 with ⟨h2, _⟩ | ⟨g', cap', cur, e', _⟩
        · cases h2
        · injection e' with e1 e2 e3
          injection e1 with e1
          subst e1
          simp [Value.ownBlock] at e
          exact ha _ _ rfl e.symm
/-- A single cell. -/
theorem one_cell {w : World} {g0 : Nat} {v : Value} (h : w.cell? ⟨g0, 0, none⟩ = some v) : ∀ j u, [v][j]? = some u → w.cell? ⟨g0, j, none⟩ = some u
  | 0, u, hj => by simp at hj; rw [← hj]; exact h
  | _ + 1, u, hj => by simp at hj
end Go.Proofs.Ytioblfbhjkkgoaa
