/- DERIVED. An argument that is a slice of plain structs, opened: the elements as a list, each in its cells. -/
import Derived.Test.YtioblfbhjkkgoaaMem
import Derived.Test.YtioblfbhjkkgoaaHead
import Derived.Lib.SmallJoins
import Derived.Deep.Slices
import Derived.Deep.Fields
namespace Go.Proofs.Ytioblfbhjkkgoaa
set_option maxRecDepth 100000
open Go.RowKit Go.ChangeShapes Go.WideShapes Go.ChangeAt Go.Joins Go.Deep

theorem list_of {α : Type} {p : Nat → α → Prop} : ∀ n : Nat, (∀ i, i < n → ∃ x, p i x) → ∃ xs : List α, xs.length = n ∧ ∀ i x, xs[i]? = some x → p i x
  | 0, _ => ⟨[], rfl, fun i x h => by simp at h⟩
  | n + 1, h => by
    obtain ⟨xs, hl, hx⟩ := list_of n (fun i hi => h i (by omega))
    obtain ⟨y, hy⟩ := h n (by omega)
    refine ⟨xs ++ [y], by simp [hl], fun i x hi => ?_⟩
    by_cases e : i < n
    · rw [List.getElem?_append_left (by omega)] at hi
      exact hx i x hi
    · have : i < (xs ++ [y]).length := (List.getElem?_eq_some_iff.1 hi).1
      simp [hl] at this
      obtain rfl : i = n := by omega
      rw [List.getElem?_append_right (by omega), hl] at hi
      simp at hi
      subst hi
      exact hy

section
variable {H : Type} {enc : TypeId × Value → H} {P : Program} {W : World} {spare : Nat → Bool}
theorem add_cell {a : Addr} {n : Nat} (hs : a.spot = none) : a.add n = ⟨a.block, a.off + n, none⟩ := by
  obtain ⟨b, o, s⟩ := a
  simp at hs
  subst hs
  unfold Addr.add
  split <;> simp_all
theorem open_flat {α : Type} (Good : α → Prop) (f : α → List Value) {t e : TypeId} {sz : Nat} (ht : P.underlying t = some (.slice e)) (hC : P.cellsOf e = sz) (h0 : 0 < sz)
    (hel : ∀ (n : Nat) (cs : List Value) (y : DataW H × List MemPlace), cs.length = sz → DataW.trod enc P W 0 spare true n e cs = some y → ∃ x, Good x ∧ cs = f x)
    {r : Reach} {b0 : Nat} {v : Value} {d : DataW H} {p : List MemPlace} (hv : Value.okWide P W r b0 t v) (h : DataW.Trod enc P W 0 spare true t v d p) :
    ∃ A c xs, v = .slice A xs.length c ∧ xs.length ≤ maxLen ∧ (∀ x ∈ xs, Good x) ∧ Rd W W.heap.size sz f A xs := by
  obtain ⟨a0, len0, cap0, rfl⟩ := okWide_slice ht hv
  obtain ⟨fuel, hf⟩ := h
  rcases open_slice ht hf with ⟨hcs, _⟩ | ⟨a, len, cap, m, n, D, Pl, hcs, hb, hl, hm, hmm, hx, hi⟩
  · simp [Value.cells] at hcs
    obtain ⟨rfl, rfl, rfl⟩ := hcs
    exact ⟨none, 0, [], rfl, by simp, fun x hx => by simp at hx, fun h => absurd h (by simp)⟩
  · simp [Value.cells] at hcs
    obtain ⟨rfl, rfl, rfl⟩ := hcs
    have hlm : len0 ≤ m := by rw [hmm]; split <;> omega
    have hgood : ∀ i, i < len0 → ∃ x : α, Good x ∧ ∀ j u, (f x)[j]? = some u → W.cell? (a.add (i * sz + j)) = some u := fun i hlt => by
      obtain ⟨cs', hc, ht'⟩ := hi i (by omega)
      rw [hC] at hc
      obtain ⟨_, hcl, hat⟩ := World.cells?_some hc
      obtain ⟨x, hg, rfl⟩ := hel _ _ _ hcl ht'
      refine ⟨x, hg, fun j u hj => ?_⟩
      have hjl : j < sz := by
        have := (List.getElem?_eq_some_iff.1 hj).1
        omega
      rw [← hj, ← hat j hjl]
      congr 1
      unfold Addr.add
      by_cases e1 : i * sz = 0 <;> by_cases e2 : j = 0 <;> simp [e1, e2, Nat.add_assoc]
    obtain ⟨xs, hlen, hxs⟩ := list_of len0 hgood
    refine ⟨some a, cap0, xs, by rw [hlen], by rw [hlen]; omega, fun x hx => ?_, fun hpos => ?_⟩
    · obtain ⟨i, hi2, rfl⟩ := List.getElem_of_mem hx
      exact (hxs i _ (List.getElem?_eq_getElem hi2)).1
    · have hx0 : xs[0]? = some xs[0] := List.getElem?_eq_getElem hpos
      obtain ⟨cs', hc, ht'⟩ := hi 0 (by omega)
      rw [hC] at hc
      obtain ⟨_, hcl, hat⟩ := World.cells?_some hc
      have hc0 := hat 0 h0
      rw [List.getElem?_eq_getElem (by omega)] at hc0
      have hadd : (a.add (0 * sz)).add 0 = a := by simp [Addr.add]
      rw [hadd] at hc0
      have hspot : a.spot = none := by
        unfold World.cell? at hc0
        split at hc0
        · split at hc0
          · cases hc0
          · rename_i hs
            cases hh : a.spot with
            | none => rfl
            | some _ => exact absurd (by simp [hh]) hs
        · cases hc0
      have hblk : a.block < W.heap.size := World.block_lt_of_cell? W a hc0
      refine ⟨a.block, a.off, by rw [← hspot], hblk, fun k x hk j u hj => ?_⟩
      have := (hxs k x hk).2 j u hj
      rw [add_cell hspot] at this
      rw [← this]
      congr 2
      omega
theorem el2 {t f0 f1 : _} {n : Nat} {cs : List Value} {y : DataW H × List MemPlace} (hs : P.underlying t = some (.struct #[f0, f1])) (hone : oneCellFields P #[f0, f1] = true) (hl : cs.length = 2) (h : DataW.trod enc P W 0 spare true n t cs = some y) :
    ∃ c0 c1 y0 y1 m, cs = [c0, c1] ∧ DataW.trod enc P W 0 spare true m f0.type [c0] = some y0 ∧ DataW.trod enc P W 0 spare true m f1.type [c1] = some y1 := by
  match cs, hl with
  | [c0, c1], _ =>
    obtain ⟨xs, m, _, hx, _, hlen, hg⟩ := DataW.trod_struct hs h
    obtain ⟨o0, k0⟩ := hone_of hone 0 f0 rfl
    obtain ⟨o1, k1⟩ := hone_of hone 1 f1 rfl
    match xs, hlen with
    | [y0, y1], _ => exact ⟨c0, c1, y0, y1, m, rfl, by simpa [o0, k0] using hg 0 f0 rfl, by simpa [o1, k1] using hg 1 f1 rfl⟩
theorem el3 {t f0 f1 f2 : _} {n : Nat} {cs : List Value} {y : DataW H × List MemPlace} (hs : P.underlying t = some (.struct #[f0, f1, f2])) (hone : oneCellFields P #[f0, f1, f2] = true) (hl : cs.length = 3) (h : DataW.trod enc P W 0 spare true n t cs = some y) :
    ∃ c0 c1 c2 y0 y1 y2 m, cs = [c0, c1, c2] ∧ DataW.trod enc P W 0 spare true m f0.type [c0] = some y0 ∧ DataW.trod enc P W 0 spare true m f1.type [c1] = some y1 ∧ DataW.trod enc P W 0 spare true m f2.type [c2] = some y2 := by
  match cs, hl with
  | [c0, c1, c2], _ =>
    obtain ⟨xs, m, _, hx, _, hlen, hg⟩ := DataW.trod_struct hs h
    obtain ⟨o0, k0⟩ := hone_of hone 0 f0 rfl
    obtain ⟨o1, k1⟩ := hone_of hone 1 f1 rfl
    obtain ⟨o2, k2⟩ := hone_of hone 2 f2 rfl
    match xs, hlen with
    | [y0, y1, y2], _ => exact ⟨c0, c1, c2, y0, y1, y2, m, rfl, by simpa [o0, k0] using hg 0 f0 rfl, by simpa [o1, k1] using hg 1 f1 rfl, by simpa [o2, k2] using hg 2 f2 rfl⟩
theorem el4 {t f0 f1 f2 f3 : _} {n : Nat} {cs : List Value} {y : DataW H × List MemPlace} (hs : P.underlying t = some (.struct #[f0, f1, f2, f3])) (hone : oneCellFields P #[f0, f1, f2, f3] = true) (hl : cs.length = 4) (h : DataW.trod enc P W 0 spare true n t cs = some y) :
    ∃ c0 c1 c2 c3 y0 y1 y2 y3 m, cs = [c0, c1, c2, c3] ∧ DataW.trod enc P W 0 spare true m f0.type [c0] = some y0 ∧ DataW.trod enc P W 0 spare true m f1.type [c1] = some y1 ∧ DataW.trod enc P W 0 spare true m f2.type [c2] = some y2 ∧ DataW.trod enc P W 0 spare true m f3.type [c3] = some y3 := by
  match cs, hl with
  | [c0, c1, c2, c3], _ =>
    obtain ⟨xs, m, _, hx, _, hlen, hg⟩ := DataW.trod_struct hs h
    obtain ⟨o0, k0⟩ := hone_of hone 0 f0 rfl
    obtain ⟨o1, k1⟩ := hone_of hone 1 f1 rfl
    obtain ⟨o2, k2⟩ := hone_of hone 2 f2 rfl
    obtain ⟨o3, k3⟩ := hone_of hone 3 f3 rfl
    match xs, hlen with
    | [y0, y1, y2, y3], _ => exact ⟨c0, c1, c2, c3, y0, y1, y2, y3, m, rfl, by simpa [o0, k0] using hg 0 f0 rfl, by simpa [o1, k1] using hg 1 f1 rfl, by simpa [o2, k2] using hg 2 f2 rfl, by simpa [o3, k3] using hg 3 f3 rfl⟩
theorem el5 {t f0 f1 f2 f3 f4 : _} {n : Nat} {cs : List Value} {y : DataW H × List MemPlace} (hs : P.underlying t = some (.struct #[f0, f1, f2, f3, f4])) (hone : oneCellFields P #[f0, f1, f2, f3, f4] = true) (hl : cs.length = 5) (h : DataW.trod enc P W 0 spare true n t cs = some y) :
    ∃ c0 c1 c2 c3 c4 y0 y1 y2 y3 y4 m, cs = [c0, c1, c2, c3, c4] ∧ DataW.trod enc P W 0 spare true m f0.type [c0] = some y0 ∧ DataW.trod enc P W 0 spare true m f1.type [c1] = some y1 ∧ DataW.trod enc P W 0 spare true m f2.type [c2] = some y2 ∧ DataW.trod enc P W 0 spare true m f3.type [c3] = some y3 ∧ DataW.trod enc P W 0 spare true m f4.type [c4] = some y4 := by
  match cs, hl with
  | [c0, c1, c2, c3, c4], _ =>
    obtain ⟨xs, m, _, hx, _, hlen, hg⟩ := DataW.trod_struct hs h
    obtain ⟨o0, k0⟩ := hone_of hone 0 f0 rfl
    obtain ⟨o1, k1⟩ := hone_of hone 1 f1 rfl
    obtain ⟨o2, k2⟩ := hone_of hone 2 f2 rfl
    obtain ⟨o3, k3⟩ := hone_of hone 3 f3 rfl
    obtain ⟨o4, k4⟩ := hone_of hone 4 f4 rfl
    match xs, hlen with
    | [y0, y1, y2, y3, y4], _ => exact ⟨c0, c1, c2, c3, c4, y0, y1, y2, y3, y4, m, rfl, by simpa [o0, k0] using hg 0 f0 rfl, by simpa [o1, k1] using hg 1 f1 rfl, by simpa [o2, k2] using hg 2 f2 rfl, by simpa [o3, k3] using hg 3 f3 rfl, by simpa [o4, k4] using hg 4 f4 rfl⟩
end

end Go.Proofs.Ytioblfbhjkkgoaa
