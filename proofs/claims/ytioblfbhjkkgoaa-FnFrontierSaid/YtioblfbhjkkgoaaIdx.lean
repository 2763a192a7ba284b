/- DERIVED. Indices of elements, elements kept; what functions give that make a slice by append. -/
import Derived.Test.YtioblfbhjkkgoaaOwn
namespace Go.Proofs.Ytioblfbhjkkgoaa
set_option maxRecDepth 100000
open Go.RowKit

/-- The indices, less than k, of the elements that p takes. -/
def idxTo {α : Type} (p : α → Bool) (xs : List α) : Nat → List Int
  | 0 => []
  | k + 1 => match xs[k]? with
    | some x => if p x = true then idxTo p xs k ++ [(k : Int)] else idxTo p xs k
    | none => idxTo p xs k
theorem idxTo_le {α : Type} (p : α → Bool) (xs : List α) : ∀ k, (idxTo p xs k).length ≤ k
  | 0 => Nat.le_refl _
  | k + 1 => by
    have := idxTo_le p xs k
    unfold idxTo
    split
    · split
      · simp; omega
      · omega
    · omega
theorem idxTo_yes {α : Type} {p : α → Bool} {xs : List α} {k : Nat} {x : α} (hx : xs[k]? = some x) (h : p x = true) : idxTo p xs (k + 1) = idxTo p xs k ++ [(k : Int)] := by
  simp [idxTo, hx, h]
theorem idxTo_no {α : Type} {p : α → Bool} {xs : List α} {k : Nat} {x : α} (hx : xs[k]? = some x) (h : p x = false) : idxTo p xs (k + 1) = idxTo p xs k := by
  simp [idxTo, hx, h]
theorem idxTo_mem {α : Type} {p : α → Bool} {xs : List α} : ∀ {k : Nat} {n : Int}, n ∈ idxTo p xs k → ∃ (j : Nat) (x : α), n = (j : Int) ∧ j < k ∧ xs[j]? = some x ∧ p x = true
  | 0, n, h => by simp [idxTo] at h
  | k + 1, n, h => by
    unfold idxTo at h
    split at h
    · rename_i x hx
      split at h
      · rename_i hp
        rcases List.mem_append.1 h with h | h
        · obtain ⟨j, x, h1, h2, h3⟩ := idxTo_mem h
          exact ⟨j, x, h1, by omega, h3⟩
        · exact ⟨k, x, by simpa using h, by omega, hx, hp⟩
      · obtain ⟨j, x, h1, h2, h3⟩ := idxTo_mem h
        exact ⟨j, x, h1, by omega, h3⟩
    · obtain ⟨j, x, h1, h2, h3⟩ := idxTo_mem h
      exact ⟨j, x, h1, by omega, h3⟩
/-- What a function gives that makes a slice by append. -/
def GivesOwn {α : Type} (w : World) (E : TypeId) (sz : Nat) (f : α → List Value) (xs : List α) (e : Ending) (w' : World) : Prop :=
  ∃ A c, e = .returned (.slice A xs.length c) ∧ Flat w' w.heap.size w'.heap.size E sz f A xs ∧ xs.length ≤ c ∧ Below w.heap.size w w'
/-- What g says of those among the first k that p takes. -/
def keepTo {α β : Type} (p : α → Bool) (g : α → β) (xs : List α) : Nat → List β
  | 0 => []
  | k + 1 => match xs[k]? with
    | some x => if p x = true then keepTo p g xs k ++ [g x] else keepTo p g xs k
    | none => keepTo p g xs k
theorem keepTo_le {α β : Type} (p : α → Bool) (g : α → β) (xs : List α) : ∀ k, (keepTo p g xs k).length ≤ k
  | 0 => Nat.le_refl _
  | k + 1 => by
    have := keepTo_le p g xs k
    unfold keepTo
    split
    · split
      · simp; omega
      · omega
    · omega
theorem keepTo_yes {α β : Type} {p : α → Bool} {g : α → β} {xs : List α} {k : Nat} {x : α} (hx : xs[k]? = some x) (h : p x = true) : keepTo p g xs (k + 1) = keepTo p g xs k ++ [g x] := by
  simp [keepTo, hx, h]
theorem keepTo_no {α β : Type} {p : α → Bool} {g : α → β} {xs : List α} {k : Nat} {x : α} (hx : xs[k]? = some x) (h : p x = false) : keepTo p g xs (k + 1) = keepTo p g xs k := by
  simp [keepTo, hx, h]
def atI {α β : Type} (g : α → β) (z : β) (xs : List α) (n : Int) : β := match xs[n.toNat]? with
  | some x => g x
  | none => z
theorem idx_keep {α β : Type} {p : α → Bool} {g : α → β} {z : β} {xs : List α} : ∀ k, (idxTo p xs k).map (atI g z xs) = keepTo p g xs k
  | 0 => rfl
  | k + 1 => by
    unfold idxTo keepTo
    cases hx : xs[k]? with
    | none => exact idx_keep k
    | some x =>
      simp only
      by_cases hp : p x = true
      · rw [if_pos hp, if_pos hp, List.map_append, idx_keep k]
        simp [atI, hx]
      · rw [if_neg hp, if_neg hp]
        exact idx_keep k

/-- What a function gives that makes a slice by append, with a code. -/
def GivesRes {α : Type} (w : World) (E : TypeId) (sz : Nat) (f : α → List Value) (r : List α × Int) (e : Ending) (w' : World) : Prop :=
  ∃ A c, e = .returned (.tuple #[.slice A r.1.length c, .int .i64 r.2]) ∧ Flat w' w.heap.size w'.heap.size E sz f A r.1 ∧ r.1.length ≤ c ∧ Below w.heap.size w w'
theorem flat_nil {α : Type} {w : World} {lo hi sz : Nat} {E : TypeId} {f : α → List Value} {A : Option Addr} : Flat w lo hi E sz f A [] := fun h => absurd h (by simp)

theorem infoInt64 : (Try.prog.info? 2).map (fun i => (i.zero, i.size, i.bytes)) = some (some (.int .i64 0), 1, 8) := by kernel_rfl

theorem infoString : (Try.prog.info? 9).map (fun i => (i.zero, i.size, i.bytes)) = some (some (.string ⟨#[]⟩), 1, 16) := by kernel_rfl

end Go.Proofs.Ytioblfbhjkkgoaa
