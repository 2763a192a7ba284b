/- DERIVED. Words for the laws: rows of marks; ports marked and held; parts marked. -/
import Derived.Test.YtioblfbhjkkgoaaMark
namespace Go.Proofs.Ytioblfbhjkkgoaa
set_option maxRecDepth 100000
open Go.RowKit

def marksOf {α : Type} (g : Int → α) (s k : Int) (n : Nat) : List α := (List.range n).map fun j : Nat => g (k + s * (j : Int))
theorem marksOf_len {α : Type} (g : Int → α) (s k : Int) (n : Nat) : (marksOf g s k n).length = n := by simp [marksOf]
theorem marksOf_at {α : Type} (g : Int → α) (s k : Int) {n j : Nat} (h : j < n) : (marksOf g s k n)[j]? = some (g (k + s * (j : Int))) := by
  simp [marksOf, h]
/-- Each row stays a row. -/
def RowsKept (w w' : World) : Prop := ∀ g E m, Row w g E m → Row w' g E m
/-- A slice's room told by its own block alone. -/
theorem Room.tight {w : World} {lo hi sz n g : Nat} {E : TypeId} {A : Option Addr} (h : Room w lo hi E sz A n) (ha : 0 < n → Apart A g) :
    ∃ a b, ¬ (a ≤ g ∧ g < b) ∧ Room w a b E sz A n ∧ (∀ w1 w2, Only a b w1 w2 → Only lo hi w1 w2) ∧ (b = 0 ∨ lo ≤ a ∧ b ≤ hi) := by
  by_cases hn : 0 < n
  · obtain ⟨g', m, rfl, h1, h2, h3, h4⟩ := h hn
    have := ha hn g' 0 rfl
    exact ⟨g', g' + 1, by omega, fun _ => ⟨g', m, rfl, Nat.le_refl _, by omega, h3, h4⟩, fun _ _ ho => ho.mono h1 (by omega), Or.inr ⟨h1, by omega⟩⟩
  · exact ⟨0, 0, by omega, fun hp => absurd hp hn, fun _ _ ho => ⟨ho.os, ho.tape, ho.output, ho.size, fun i hi _ => ho.block i hi (by omega)⟩, Or.inl rfl⟩
theorem Only.row {w w' : World} {a b g m : Nat} {E : TypeId} (h : Only a b w w') (hg : ¬ (a ≤ g ∧ g < b)) (hr : Row w g E m) : Row w' g E m := hr.kept (h.block g hr.lt hg)
theorem Only.cell {w w' : World} {a b g o : Nat} {v : Value} (h : Only a b w w') (hg : ¬ (a ≤ g ∧ g < b)) (hc : w.cell? ⟨g, o, none⟩ = some v) : w'.cell? ⟨g, o, none⟩ = some v :=
  (World.cell?_of_block (a := ⟨g, o, none⟩) (h.block g (World.block_lt_of_cell? w _ hc) hg)).trans hc
end Go.Proofs.Ytioblfbhjkkgoaa
