/- DERIVED. In how many bicycles each part is, counted row by row. -/
import Derived.Test.YtpdkhmnbabccnaaBest20
namespace Go.Proofs.Ytpdkhmnbabccnaa
set_option maxRecDepth 100000
open Go.RowKit

def timesAt (vs : List PartT) (L : List (List ByteArray)) (n k : Nat) : Int := match vs[k]? with
  | some x => timesOf (L.take n) x
  | none => 0
theorem timesAt_zero (vs : List PartT) (L : List (List ByteArray)) (k : Nat) : timesAt vs L 0 k = 0 := by
  unfold timesAt
  cases vs[k]? <;> simp [timesOf]
theorem timesAt_yes {vs : List PartT} {L : List (List ByteArray)} {n k : Nat} {x : PartT} {b : List ByteArray} (hx : vs[k]? = some x) (hb : L[n]? = some b) (h : usesB x b = true) : timesAt vs L (n + 1) k = timesAt vs L n k + 1 := by
  unfold timesAt timesOf
  rw [hx, List.take_add_one, hb]
  simp [List.filter_append, h]
theorem timesAt_no {vs : List PartT} {L : List (List ByteArray)} {n k : Nat} {x : PartT} {b : List ByteArray} (hx : vs[k]? = some x) (hb : L[n]? = some b) (h : usesB x b = false) : timesAt vs L (n + 1) k = timesAt vs L n k := by
  unfold timesAt timesOf
  rw [hx, List.take_add_one, hb]
  simp [List.filter_append, h]
theorem timesAt_bd (vs : List PartT) (L : List (List ByteArray)) (n k : Nat) : 0 ≤ timesAt vs L n k ∧ timesAt vs L n k ≤ L.length := by
  unfold timesAt timesOf
  cases vs[k]? with
  | none => exact ⟨Int.le_refl _, Int.natCast_nonneg _⟩
  | some x =>
    have h1 := List.length_filter_le (usesB x) (L.take n)
    have h2 : (L.take n).length ≤ L.length := by rw [List.length_take]; omega
    simp only
    omega
theorem timesAt_all {vs : List PartT} {L : List (List ByteArray)} {n k : Nat} {x : PartT} (hx : vs[k]? = some x) (h : L.length ≤ n) : timesAt vs L n k = timesOf L x := by
  unfold timesAt
  rw [hx, List.take_of_length_le h]

/-- The counts, rows below n and of row n the first j parts. -/
def CntSt (w : World) (g : Nat) (E : TypeId) (vs : List PartT) (L : List (List ByteArray)) (n j : Nat) : Prop :=
  Row w g E vs.length ∧ ∀ k, k < vs.length → w.cell? ⟨g, k, none⟩ = some (.int .i64 (timesAt vs L (if k < j then n + 1 else n) k))
section
variable {w w' : World} {g : Nat} {E : TypeId} {vs : List PartT} {L : List (List ByteArray)} {n j : Nat}
theorem CntSt.keep (h : CntSt w g E vs L n j) (hb : w'.heap[g]? = w.heap[g]?) : CntSt w' g E vs L n j :=
  ⟨h.1.kept hb, fun k hk => (World.cell?_of_block (a := ⟨g, _, none⟩) hb).trans (h.2 k hk)⟩
theorem CntSt.next (h : CntSt w g E vs L n j) (hb : Below w.heap.size w w') : CntSt w' g E vs L n j := h.keep (hb.block g h.1.lt)
theorem CntSt.turn (h : CntSt w g E vs L n vs.length) : CntSt w g E vs L (n + 1) 0 :=
  ⟨h.1, fun k hk => by rw [h.2 k hk, if_pos hk, if_neg (by omega)]⟩
theorem CntSt.skip {x : PartT} {b : List ByteArray} (h : CntSt w g E vs L n j) (hx : vs[j]? = some x) (hb : L[n]? = some b) (hu : usesB x b = false) : CntSt w g E vs L n (j + 1) :=
  ⟨h.1, fun k hk => by
    rw [h.2 k hk]
    by_cases e : k = j
    · subst e
      rw [if_neg (by omega), if_pos (by omega), timesAt_no hx hb hu]
    · by_cases e2 : k < j
      · rw [if_pos e2, if_pos (by omega)]
      · rw [if_neg e2, if_neg (by omega)]⟩
theorem CntSt.here (h : CntSt w g E vs L n j) (hj : j < vs.length) : w.cell? ⟨g, j, none⟩ = some (.int .i64 (timesAt vs L n j)) := by
  rw [h.2 j hj, if_neg (by omega)]
theorem CntSt.put {x : PartT} {b : List ByteArray} (h : CntSt w g E vs L n j) (hx : vs[j]? = some x) (hb : L[n]? = some b) (hu : usesB x b = true) : CntSt (w.setCell ⟨g, j, none⟩ (.int .i64 (timesAt vs L n j + 1))) g E vs L n (j + 1) :=
  ⟨h.1.setCell _ _, fun k hk => by
    by_cases e : k = j
    · subst e
      rw [setCell_same (h.here hk), if_pos (by omega), timesAt_yes hx hb hu]
    · rw [setCell_other (by omega), h.2 k hk]
      by_cases e2 : k < j
      · rw [if_pos e2, if_pos (by omega)]
      · rw [if_neg e2, if_neg (by omega)]⟩
theorem made_cell (z : Value) {n k : Nat} (h : k < n) : (madeCells #[z] n)[k]? = some z := by
  simp [madeCells, h, Nat.mod_one]
theorem CntSt.start (W : World) (E : TypeId) (vs : List PartT) (L : List (List ByteArray)) : CntSt (W.alloc (.cells (madeCells #[.int .i64 0] vs.length) E)) W.heap.size E vs L 0 0 := by
  refine ⟨Row.made (w := W) (E := E) #[.int .i64 0] vs.length, fun k hk => ?_⟩
  rw [if_neg (by omega), timesAt_zero, cell_of_row _ _ k _ E (0, 0) (heap_alloc_new W _)]
  exact made_cell _ hk
theorem CntSt.flat {lo : Nat} (h : CntSt w g E vs L n 0) (hl : lo ≤ g) (hn : L.length ≤ n) : Flat w lo w.heap.size E 1 nC (some ⟨g, 0, none⟩) (vs.map (timesOf L)) := fun hx => by
  refine ⟨g, vs.length, rfl, hl, h.1.lt, h.1, by rw [List.length_map, Nat.mul_one]; exact Nat.le_refl _, fun k x hk i v hi => ?_⟩
  rw [List.getElem?_map, Option.map_eq_some_iff] at hk
  obtain ⟨y, hy, rfl⟩ := hk
  have hk := (List.getElem?_eq_some_iff.1 hy).1
  match i with
  | 0 =>
    obtain rfl : Value.int .i64 (timesOf L y) = v := by simpa [nC] using hi
    have := h.2 k hk
    rw [if_neg (by omega), timesAt_all hy hn] at this
    simpa using this
  | i + 1 => simp [nC] at hi
end
end Go.Proofs.Ytpdkhmnbabccnaa
