/- DERIVED. A whole slice appended to a slice of the call's own. -/
import Derived.Test.YtioblfbhjkkgoaaOwn
import Derived.Deep.Upon
namespace Go.Proofs.Ytioblfbhjkkgoaa
set_option maxRecDepth 100000
open Go.RowKit

theorem flatMap_len {α : Type} {f : α → List Value} {sz : Nat} (hf : ∀ x, (f x).length = sz) : ∀ ys : List α, (ys.flatMap f).length = ys.length * sz
  | [] => by simp
  | y :: ys => by rw [List.flatMap_cons, List.length_append, flatMap_len hf ys, hf, List.length_cons, Nat.add_mul]; omega
theorem flat_back {α : Type} {f : α → List Value} {sz : Nat} (hf : ∀ x, (f x).length = sz) : ∀ (ys : List α) (j : Nat) (u : Value), (ys.flatMap f)[j]? = some u → ∃ k y i, ys[k]? = some y ∧ (f y)[i]? = some u ∧ j = k * sz + i
  | [], j, u, h => by simp at h
  | y :: ys, j, u, h => by
    rw [List.flatMap_cons] at h
    by_cases hj : j < (f y).length
    · rw [List.getElem?_append_left hj] at h
      exact ⟨0, y, j, rfl, h, by omega⟩
    · rw [List.getElem?_append_right (by omega)] at h
      obtain ⟨k, y', i, h1, h2, h3⟩ := flat_back hf ys _ u h
      refine ⟨k + 1, y', i, by simpa using h1, h2, ?_⟩
      rw [hf] at h3 hj
      rw [Nat.add_mul]
      omega

/-- out = append(out, ys...) -/
theorem wp_append_slice {α : Type} {P : Program} {w : World} {o : Oper} {a : Act} {K : Act → World → Prop} {Q : Exit → Act → World → Prop} (s x : Operand) (t : TypeId)
    (ho : o.op = .call { callee := .builtin .append, args := #[s, x], argTypes := #[t, t] })
    (base : Nat) (e : TypeId) (z : Value) (size bytes : Nat) (ht : P.underlying t = some (.slice e)) (hinfo : (P.info? e).map (fun i => (i.zero, i.size, i.bytes)) = some (some z, size, bytes))
    (hzs : z.cells.size = size) (hsz : 0 < size) (hby : bytes ≤ 64)
    (f : α → List Value) (xs ys : List α) (A : Option Addr) (c : Nat) (hs : a.eval s = .slice A xs.length c) (hown : Own w base e size f A c xs)
    (A' : Option Addr) (c' B : Nat) (hx : a.eval x = .slice A' ys.length c') (hrd : Rd w B size f A' ys) (hl : ∀ y, (f y).length = size) (h1 : ∀ y, ∀ u ∈ f y, u.oneCell' = true)
    (hm : xs.length + ys.length < 1000000000) (hbase : base ≤ w.heap.size)
    (h : ∀ A2 c2 w', Own w' base e size f A2 c2 (xs ++ ys) → Below base w w' → (∀ g, g < w.heap.size → Apart A g → Apart A2 g ∧ w'.heap[g]? = w.heap[g]?) → K (a.put o.dst (.slice A2 (xs.length + ys.length) c2)) w') :
    Oper.wp P o a w K Q := by
  obtain ⟨i, hi, hz, hsi, hb⟩ := info_parts hinfo
  by_cases hpos : 0 < ys.length
  · obtain ⟨b, off, rfl, hB, hc⟩ := hrd hpos
    refine wp_append_lies w s x t ho base e i z size bytes ht hi hz hsi hb hzs hsz _ xs.length (xs.flatMap f) hs hown ⟨b, off, none⟩ ys.length c' (ys.flatMap f) hx (flatMap_len hl ys) (fun j u hj => ?_) (fun u hu => ?_) hpos (by unfold maxLen; omega) ?_ hbase _ rfl ?_
    · obtain ⟨k, y, q, h2, h3, rfl⟩ := flat_back hl ys j u hj
      rw [Addr.add_lit, ← Nat.add_assoc]
      exact hc k y h2 q u h3
    · obtain ⟨y, _, hy⟩ := List.mem_flatMap.1 hu
      exact h1 y u hy
    · calc (xs.length + ys.length) * bytes ≤ 1000000000 * 64 := Nat.mul_le_mul (by omega) hby
        _ ≤ 140737488355328 := by omega
    · intro g cap w' ho2 hg hor _
      refine h _ _ w' ?_ (hown.grown hg hbase) fun q hq ha => ⟨fun b o e => ?_, hg.block q hq fun e => ?_⟩
      · unfold Own
        rw [List.flatMap_append, List.length_append]
        exact ho2
      · simp only [Option.some.injEq, Addr.mk.injEq] at e
        obtain ⟨rfl, rfl, _⟩ := e
        rcases hor with hor | hor
        · intro hgq
          subst hgq
          cases A with
          | none => simp [Value.ownBlock] at hor
          | some ad =>
            rcases hown.2 with ⟨h2, _⟩ | ⟨g', cap', cur, e', _⟩
            · cases h2
            · injection e' with e1 e2 e3
              injection e1 with e1
              subst e1
              simp [Value.ownBlock] at hor
              exact ha _ _ rfl hor
        · omega
      · cases A with
        | none => simp [Value.ownBlock] at e
        | some ad =>
          rcases hown.2 with ⟨h2, _⟩ | ⟨g', cap', cur, e', _⟩
          · cases h2
          · injection e' with e1 e2 e3
            injection e1 with e1
            subst e1
            simp [Value.ownBlock] at e
            exact ha _ _ rfl e.symm
  · obtain rfl : ys = [] := List.eq_nil_of_length_eq_zero (by omega)
    have hsrc : Src P i.size t (.slice A' 0 c') 0 [] w := by
      cases A' with
      | none => exact Src.ofNil w ht c'
      | some ad => exact Src.ofSlice w ht ad 0 c' [] (by simp) (fun j u hj => by simp at hj) (fun u hu => by cases hu)
    have hrun := run_append_nothing w t t o.type e i ht hi A xs.length c hown.cap (.slice A' 0 c') hsrc
    have h2 := h A c w (by simpa using hown) (Below.refl _ _) fun g _ ha => ⟨ha, rfl⟩
    unfold Oper.wp
    simp only [List.length_nil, Nat.add_zero] at hx h2
    simp [execOp, ho, resolve, invoke, builtin, hs, hx, hrun, Result.andThen]
    exact h2
theorem wpList_append_slice {α : Type} {P : Program} {w : World} {ops : Array Oper} {rest : List Oper} {o : Oper} {a : Act} {Q : Exit → Act → World → Prop} (hgd : o.guard = none) (s x : Operand) (t : TypeId)
    (ho : o.op = .call { callee := .builtin .append, args := #[s, x], argTypes := #[t, t] })
    (base : Nat) (e : TypeId) (z : Value) (size bytes : Nat) (ht : P.underlying t = some (.slice e)) (hinfo : (P.info? e).map (fun i => (i.zero, i.size, i.bytes)) = some (some z, size, bytes))
    (hzs : z.cells.size = size) (hsz : 0 < size) (hby : bytes ≤ 64)
    (f : α → List Value) (xs ys : List α) (A : Option Addr) (c : Nat) (hs : a.eval s = .slice A xs.length c) (hown : Own w base e size f A c xs)
    (A' : Option Addr) (c' B : Nat) (hx : a.eval x = .slice A' ys.length c') (hrd : Rd w B size f A' ys) (hl : ∀ y, (f y).length = size) (h1 : ∀ y, ∀ u ∈ f y, u.oneCell' = true)
    (hm : xs.length + ys.length < 1000000000) (hbase : base ≤ w.heap.size)
    (h : ∀ A2 c2 w', Own w' base e size f A2 c2 (xs ++ ys) → Below base w w' → (∀ g, g < w.heap.size → Apart A g → Apart A2 g ∧ w'.heap[g]? = w.heap[g]?) → wpList P ops Q rest (a.put o.dst (.slice A2 (xs.length + ys.length) c2)) w') :
    wpList P ops Q (o :: rest) a w :=
  wpList_plain hgd fun _ hK => wp_append_slice s x t ho base e z size bytes ht hinfo hzs hsz hby f xs ys A c hs hown A' c' B hx hrd hl h1 hm hbase fun A2 c2 w' h2 h3 h4 => hK _ _ (h A2 c2 w' h2 h3 h4)
theorem step_append_slice {α : Type} {P : Program} {w : World} {ops : Array Oper} {o : Oper} {a : Act} {K : Act → World → Prop} {Q : Exit → Act → World → Prop} {Ep : Prop} (hgd : o.guard = none) (s x : Operand) (t : TypeId)
    (ho : o.op = .call { callee := .builtin .append, args := #[s, x], argTypes := #[t, t] })
    (base : Nat) (e : TypeId) (z : Value) (size bytes : Nat) (ht : P.underlying t = some (.slice e)) (hinfo : (P.info? e).map (fun i => (i.zero, i.size, i.bytes)) = some (some z, size, bytes))
    (hzs : z.cells.size = size) (hsz : 0 < size) (hby : bytes ≤ 64)
    (f : α → List Value) (xs ys : List α) (A : Option Addr) (c : Nat) (hs : a.eval s = .slice A xs.length c) (hown : Own w base e size f A c xs)
    (A' : Option Addr) (c' B : Nat) (hx : a.eval x = .slice A' ys.length c') (hrd : Rd w B size f A' ys) (hl : ∀ y, (f y).length = size) (h1 : ∀ y, ∀ u ∈ f y, u.oneCell' = true)
    (hm : xs.length + ys.length < 1000000000) (hbase : base ≤ w.heap.size)
    (h : ∀ A2 c2 w', Own w' base e size f A2 c2 (xs ++ ys) → Below base w w' → (∀ g, g < w.heap.size → Apart A g → Apart A2 g ∧ w'.heap[g]? = w.heap[g]?) → K (a.put o.dst (.slice A2 (xs.length + ys.length) c2)) w') :
    if Region.wanted o (yielded ops a.tmps) = true then Oper.wp P o a w K Q else Ep := by
  have hw : Region.wanted o (yielded ops a.tmps) = true := by simp [Region.wanted, hgd]
  rw [if_pos hw]
  exact wp_append_slice s x t ho base e z size bytes ht hinfo hzs hsz hby f xs ys A c hs hown A' c' B hx hrd hl h1 hm hbase h
/-- Its own block alone has to stay. -/
theorem Flat.keepAt {α : Type} {w w' : World} {lo hi sz : Nat} {E : TypeId} {f : α → List Value} {A : Option Addr} {xs : List α} (h : Flat w lo hi E sz f A xs) (hb : ∀ g, A = some ⟨g, 0, none⟩ → 0 < xs.length → w'.heap[g]? = w.heap[g]?) : Flat w' lo hi E sz f A xs := fun hx => by
  obtain ⟨g, m, e, hl, hg, hr, hm, hc⟩ := h hx
  exact ⟨g, m, e, hl, hg, hr.kept (hb g e hx), hm, fun k x hk j v hj => (World.cell?_of_block (a := ⟨g, _, none⟩) (hb g e hx)).trans (hc k x hk j v hj)⟩
end Go.Proofs.Ytioblfbhjkkgoaa
