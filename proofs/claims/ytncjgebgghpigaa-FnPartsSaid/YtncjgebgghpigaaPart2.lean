/- DERIVED. Parts carried over, compared, counted. -/
import Derived.Test.YtncjgebgghpigaaFlPart
import Derived.Test.YtncjgebgghpigaaOwn
namespace Go.Proofs.Ytncjgebgghpigaa
set_option maxRecDepth 100000
open Go.RowKit Go.ChangeShapes Go.WideShapes Go.ChangeAt Go.Joins Go.Deep

/-- The ports lie in memory of the call's own. -/
def GivesPart (w : World) (m : PartM) (e : Ending) (w' : World) : Prop :=
  ∃ A', e = .returned (partV { m with pA := A', pc := m.ports.length }) ∧ Flat w' w.heap.size w'.heap.size 62 3 portC A' m.ports ∧ Below w.heap.size w w'

theorem cell_set {w : World} {g j g' j' : Nat} {u : Value} : (w.setCell ⟨g, j, none⟩ u).cell? ⟨g', j', none⟩ = if g' = g ∧ j' = j then (if (w.cell? ⟨g', j', none⟩).isSome then some u else none) else w.cell? ⟨g', j', none⟩ := by
  by_cases h : g' = g ∧ j' = j
  · obtain ⟨rfl, rfl⟩ := h
    rw [if_pos ⟨rfl, rfl⟩]
    cases hc : w.cell? ⟨g', j', none⟩ with
    | some v => simpa using setCell_same hc
    | none =>
      simp only [Option.isSome_none, Bool.false_eq_true, if_false]
      unfold World.cell? World.setCell at *
      simp only [Array.getElem?_modify, if_true] at *
      cases hh : w.heap[g']? with
      | none => simp
      | some o => cases o <;> simp_all
  · rw [if_neg h, setCell_other h]

/-- A slice of parts of the call's own: the row, and each part's ports in another block. -/
def FlatP (w : World) (lo hi : Nat) (A : Option Addr) (ms : List PartM) : Prop :=
  Flat w lo hi 27 5 partC A ms ∧ ∀ m ∈ ms, Flat w lo hi 62 3 portC m.pA m.ports ∧ m.ports.length ≤ m.pc ∧ (0 < m.ports.length → ∀ g o, A = some ⟨g, o, none⟩ → Apart m.pA g)
theorem FlatP.rd {w : World} {lo hi : Nat} {A : Option Addr} {ms : List PartM} (h : FlatP w lo hi A ms) : RdP w hi A ms := ⟨h.1.rd, fun m hm => ⟨(h.2 m hm).1.rd, (h.2 m hm).2.1⟩⟩
theorem FlatP.only {w w' : World} {lo hi a b : Nat} {A : Option Addr} {ms : List PartM} (h : FlatP w lo hi A ms) (hb : Only a b w w') (hs : hi ≤ w.heap.size) (hd : hi ≤ a ∨ b ≤ lo) : FlatP w' lo hi A ms :=
  ⟨h.1.only hb hs hd, fun m hm => ⟨(h.2 m hm).1.only hb hs hd, (h.2 m hm).2⟩⟩
theorem FlatP.below {w w' : World} {B lo hi : Nat} {A : Option Addr} {ms : List PartM} (h : FlatP w lo hi A ms) (hb : Below B w w') (hB : hi ≤ B) : FlatP w' lo hi A ms :=
  ⟨h.1.below hb hB, fun m hm => ⟨(h.2 m hm).1.below hb hB, (h.2 m hm).2⟩⟩
/-- What a function gives that makes a new slice of these parts. -/
def GivesParts (w : World) (ms : List PartM) (e : Ending) (w' : World) : Prop :=
  ∃ A' ms', e = .returned (.slice A' ms.length ms.length) ∧ ms'.map PartM.val = ms.map PartM.val ∧ FlatP w' w.heap.size w'.heap.size A' ms' ∧ Below w.heap.size w w'
theorem infoPart : (Try.prog.info? 27).map (fun i => (i.zero, i.size, i.bytes)) = some (some (.agg #[.string ⟨#[]⟩, .int .i64 0, .slice none 0 0, .int .i64 0, .int .i64 0]), 5, 64) := by kernel_rfl

end Go.Proofs.Ytncjgebgghpigaa
