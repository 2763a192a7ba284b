/- DERIVED. The first bicycle, in the program and in the reference. By program (gfirst.py). -/
import Derived.Test.YtioblfbhjkkgoaaBikeS
import Derived.Deep.RegionLaw
namespace Go.Proofs.Ytioblfbhjkkgoaa
set_option maxRecDepth 100000
open Go.RowKit

/-- A bicycle, a number and a code. -/
def GivesRes2 (w : World) (lo : Nat) (r : List ByteArray × Int × Int) (e : Ending) (w' : World) : Prop :=
  ∃ A c, e = .returned (.tuple #[.slice A r.1.length c, .int .i64 r.2.1, .int .i64 r.2.2]) ∧ Flat w' lo w'.heap.size 9 1 tC A r.1 ∧ r.1.length ≤ c ∧ Below w.heap.size w w'
section
variable {W w : World} {C : SrC} {bs : List ByteArray} {st : St (List ByteArray)} {FA : Option Addr} {fc : Nat} {ms : List RowM}
theorem RunSt.setMost (h : RunSt W w C bs st FA fc ms) (m : Int) : RunSt W (w.setCell ⟨C.b, 5, none⟩ (.int .i64 m)) { C with most := m } bs st FA fc ms := by
  obtain ⟨h1, h2, h3, h4, h5, h6, h7, h8, h9⟩ := h.word 5 (.int .i64 m)
  have hne : ∀ j, j ≠ 5 → (w.setCell ⟨C.b, 5, none⟩ (.int .i64 m)).cell? ⟨C.b, j, none⟩ = w.cell? ⟨C.b, j, none⟩ := fun j hj => setCell_other (by omega)
  exact ⟨h1, (hne 0 (by omega)).trans h.c0, (hne 1 (by omega)).trans h.c1, (hne 2 (by omega)).trans h.c2, (hne 3 (by omega)).trans h.c3, (hne 4 (by omega)).trans h.c4, setCell_same h.c5, (hne 6 (by omega)).trans h.c6, (hne 7 (by omega)).trans h.c7, (hne 8 (by omega)).trans h.c8, h2, h3, h4, h5, h6, h7, h8, h.rowsb, h.vals, h9, h.bW, h.bbW⟩
theorem RunSt.setSingle (h : RunSt W w C bs st FA fc ms) (s : Bool) : RunSt W (w.setCell ⟨C.b, 7, none⟩ (.bool s)) { C with single := s } bs st FA fc ms := by
  obtain ⟨h1, h2, h3, h4, h5, h6, h7, h8, h9⟩ := h.word 7 (.bool s)
  have hne : ∀ j, j ≠ 7 → (w.setCell ⟨C.b, 7, none⟩ (.bool s)).cell? ⟨C.b, j, none⟩ = w.cell? ⟨C.b, j, none⟩ := fun j hj => setCell_other (by omega)
  exact ⟨h1, (hne 0 (by omega)).trans h.c0, (hne 1 (by omega)).trans h.c1, (hne 2 (by omega)).trans h.c2, (hne 3 (by omega)).trans h.c3, (hne 4 (by omega)).trans h.c4, (hne 5 (by omega)).trans h.c5, (hne 6 (by omega)).trans h.c6, setCell_same h.c7, (hne 8 (by omega)).trans h.c8, h2, h3, h4, h5, h6, h7, h8, h.rowsb, h.vals, h9, h.bW, h.bbW⟩
end
/-- The three ways that the search for the first one ends. -/
theorem first_ways {vs : List PartT} {js : List JointT} {m : Int} (hb : bothB vs js = true) (hi : inB m 0 5000 = true) :
    (∃ b k, firstR vs js m = (b, k, 0) ∧ (allB vs js)[0]? = some b ∧ (atsOf 0 (tr vs js))[0]? = some k ∧ k ≤ m ∧ (runs m true ⟨0, false, []⟩ (tr vs js)).found = [b] ∧ (runs m true ⟨0, false, []⟩ (tr vs js)).nodes = k) ∨
    (firstR vs js m = ([], 0, 3) ∧ ((allB vs js).length = 0 ∨ ∃ k, (atsOf 0 (tr vs js))[0]? = some k ∧ m < k) ∧ m < nodesOf (tr vs js) ∧ (runs m true ⟨0, false, []⟩ (tr vs js)).found = [] ∧ (runs m true ⟨0, false, []⟩ (tr vs js)).full = true) ∨
    (firstR vs js m = ([], 0, 4) ∧ (allB vs js).length = 0 ∧ nodesOf (tr vs js) ≤ m ∧ (runs m true ⟨0, false, []⟩ (tr vs js)).found = [] ∧ (runs m true ⟨0, false, []⟩ (tr vs js)).full = false) := by
  have h0 := (inB_true hi).1
  unfold firstR
  rw [if_pos hb, if_pos hi]
  have hl := atsOf_length 0 (tr vs js)
  unfold allB
  rcases runs_first (m := m) (tr vs js) 0 h0 with ⟨b, k, h1, h2, h3, h4, h5⟩ | ⟨h1, h2, h3, h4⟩ | ⟨h1, h2, h3⟩
  · refine Or.inl ⟨b, k, ?_, h1, h2, h3, h4, h5⟩
    rw [h1, h2]
    simp only
    rw [if_pos h3]
  · refine Or.inr (Or.inl ⟨?_, ?_, by omega, h3, h4⟩)
    · rcases h1 with h1 | ⟨k, h1, h5⟩
      · rw [h1]
        simp only [List.getElem?_nil]
        rw [if_pos (by omega)]
      · have : ∃ b, (founds (tr vs js))[0]? = some b := by
          have := (List.getElem?_eq_some_iff.1 h1).1
          exact ⟨_, List.getElem?_eq_getElem (by omega)⟩
        obtain ⟨b, hbb⟩ := this
        rw [hbb, h1]
        simp only
        rw [if_neg (by omega)]
    · rcases h1 with h1 | h1
      · exact Or.inl (by rw [h1]; rfl)
      · exact Or.inr h1
  · refine Or.inr (Or.inr ⟨?_, by rw [h1]; rfl, by omega, by rw [h3], by rw [h3]⟩)
    rw [h1]
    simp only [List.getElem?_nil]
    rw [if_neg (by omega)]

end Go.Proofs.Ytioblfbhjkkgoaa
