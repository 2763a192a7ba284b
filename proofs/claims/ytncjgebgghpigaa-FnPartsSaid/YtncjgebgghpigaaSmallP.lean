/- DERIVED. Lists of parts that are not too long. -/
import Derived.Test.YtncjgebgghpigaaPlainP
import Derived.Test.YtncjgebgghpigaaKitPart
namespace Go.Proofs.Ytncjgebgghpigaa
set_option maxRecDepth 100000
open Go.RowKit

theorem keepTo_mem {α β : Type} {p : α → Bool} {g : α → β} {xs : List α} : ∀ (k : Nat) (y : β), y ∈ keepTo p g xs k → ∃ x ∈ xs, y = g x
  | 0, y, h => by simp [keepTo] at h
  | k + 1, y, h => by
    unfold keepTo at h
    split at h
    · rename_i x hx
      split at h
      · rcases List.mem_append.1 h with h | h
        · exact keepTo_mem k y h
        · exact ⟨x, List.mem_of_getElem? hx, by simpa using h⟩
      · exact keepTo_mem k y h
    · exact keepTo_mem k y h
theorem dropR_small (vs : List PartT) (code : ByteArray) (h : SmallV vs) : SmallV (dropR vs code).1 := by
  have h0 : SmallV [] := ⟨by simp, fun _ h => absurd h (by simp)⟩
  unfold dropR
  split
  · split
    · exact h0
    · refine ⟨Nat.le_trans (keepTo_le _ _ _ _) h.1, fun x hx => ?_⟩
      obtain ⟨y, hy, rfl⟩ := keepTo_mem _ _ hx
      exact h.2 _ hy
  · exact h0
theorem addTo_mem {p : PartT} {vs : List PartT} : ∀ (k : Nat) (x : PartT), x ∈ (addTo p vs k).1 → x = p ∨ x ∈ vs
  | 0, x, h => by simp [addTo] at h
  | k + 1, x, h => by
    unfold addTo at h
    split at h
    · rename_i y hy
      split at h
      · simp only [List.mem_append, List.mem_singleton] at h
        rcases h with (h | h) | h
        · exact addTo_mem k x h
        · exact Or.inl h
        · exact Or.inr (h ▸ List.mem_of_getElem? hy)
      · simp only [List.mem_append, List.mem_singleton] at h
        rcases h with h | h
        · exact addTo_mem k x h
        · exact Or.inr (h ▸ List.mem_of_getElem? hy)
    · exact addTo_mem k x h
theorem addR_small (vs : List PartT) (p : PartT) (h : SmallV vs) (h1 : p.code.size ≤ maxLen) (h2 : p.ports.length ≤ 1048576) : SmallV (addR vs p).1 := by
  have h0 : SmallV [] := ⟨by simp, fun _ h => absurd h (by simp)⟩
  have hmem : ∀ x, x = p ∨ x ∈ vs → x.code.size ≤ maxLen ∧ x.ports.length ≤ 1048576 := fun x hx => by
    rcases hx with rfl | hx
    · exact ⟨h1, h2⟩
    · exact h.2 x hx
  unfold addR
  split
  · rename_i hp
    have hl := partsB_len hp
    split
    · split
      · split
        · exact h0
        · have hle := addTo_le p vs vs.length
          unfold addL
          simp only
          split
          · rename_i hd
            rw [if_pos hd] at hle
            exact ⟨by omega, fun x hx => hmem x (addTo_mem _ _ hx)⟩
          · rename_i hd
            rw [if_neg hd] at hle
            refine ⟨by simp; omega, fun x hx => ?_⟩
            rcases List.mem_append.1 hx with hx | hx
            · exact hmem x (addTo_mem _ _ hx)
            · exact hmem x (Or.inl (by simpa using hx))
      · exact h0
    · exact h0
  · exact h0

end Go.Proofs.Ytncjgebgghpigaa
