/- DERIVED. A slice that lies within another value, opened. -/
import Derived.Test.YtioblfbhjkkgoaaOpen
namespace Go.Proofs.Ytioblfbhjkkgoaa
set_option maxRecDepth 100000
open Go.RowKit Go.ChangeShapes Go.WideShapes Go.ChangeAt Go.Joins Go.Deep

section
variable {H : Type} {enc : TypeId × Value → H} {P : Program} {W : World} {spare : Nat → Bool}
theorem open_in {α : Type} (Good : α → Prop) (f : α → List Value) {t e : TypeId} {sz : Nat} (ht : P.underlying t = some (.slice e)) (hC : P.cellsOf e = sz) (h0 : 0 < sz)
    (hel : ∀ (n : Nat) (cs : List Value) (y : DataW H × List MemPlace), cs.length = sz → DataW.trod enc P W 0 spare true n e cs = some y → ∃ x, Good x ∧ cs = f x)
    {fuel : Nat} {cs : List Value} {y : DataW H × List MemPlace} (hf : DataW.trod enc P W 0 spare true fuel t cs = some y) :
    ∃ A c xs, cs = [.slice A (List.length xs) c] ∧ List.length xs ≤ c ∧ List.length xs ≤ maxLen ∧ (∀ x ∈ xs, Good x) ∧ Rd W W.heap.size sz f A xs := by
  rcases open_slice ht hf with ⟨rfl, _⟩ | ⟨a, len0, cap0, m, n, D, Pl, rfl, hb, hl, hm, hmm, hx, hi⟩
  · exact ⟨none, 0, [], rfl, by simp, by simp, fun x hx => by simp at hx, fun h => absurd h (by simp)⟩
  · have hlm : len0 ≤ m := by rw [hmm]; split <;> omega
    have hgood : ∀ i, i < len0 → ∃ x : α, Good x ∧ ∀ j u, (f x)[j]? = some u → W.cell? (a.add (i * sz + j)) = some u := fun i hlt => by
      obtain ⟨cs', hc, ht'⟩ := hi i (by omega)
      rw [hC] at hc
      obtain ⟨_, hcl, hat⟩ := World.cells?_some hc
      obtain ⟨x, hg, rfl⟩ := hel _ _ _ hcl ht'
      refine ⟨x, hg, fun j u hj => ?_⟩
      have hjl : j < sz := by
        have := (List.getElem?_eq_some_iff.1 hj).1
        omega
      rw [← hj, ← hat j hjl]
      congr 1
      unfold Addr.add
      by_cases e1 : i * sz = 0 <;> by_cases e2 : j = 0 <;> simp [e1, e2, Nat.add_assoc]
    obtain ⟨xs, hlen, hxs⟩ := list_of len0 hgood
    refine ⟨some a, cap0, xs, by rw [hlen], by rw [hlen]; omega, by rw [hlen]; omega, fun x hx => ?_, fun hpos => ?_⟩
    · obtain ⟨i, hi2, rfl⟩ := List.getElem_of_mem hx
      exact (hxs i _ (List.getElem?_eq_getElem hi2)).1
    · obtain ⟨cs', hc, ht'⟩ := hi 0 (by omega)
      rw [hC] at hc
      obtain ⟨_, hcl, hat⟩ := World.cells?_some hc
      have hc0 := hat 0 h0
      rw [List.getElem?_eq_getElem (by omega)] at hc0
      have hadd : (a.add (0 * sz)).add 0 = a := by simp [Addr.add]
      rw [hadd] at hc0
      have hspot : a.spot = none := by
        unfold World.cell? at hc0
        split at hc0
        · split at hc0
          · cases hc0
          · rename_i hs
            cases hh : a.spot with
            | none => rfl
            | some _ => exact absurd (by simp [hh]) hs
        · cases hc0
      have hblk : a.block < W.heap.size := World.block_lt_of_cell? W a hc0
      refine ⟨a.block, a.off, by rw [← hspot], hblk, fun k x hk j u hj => ?_⟩
      have := (hxs k x hk).2 j u hj
      rw [add_cell hspot] at this
      rw [← this]
      congr 2
      omega
end
end Go.Proofs.Ytioblfbhjkkgoaa
