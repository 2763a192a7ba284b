/- DERIVED. The search of the program: its state in memory, and what keeps it; whether the last part put breaks a joint. -/
import Derived.Test.YtioblfbhjkkgoaaSrch
import Derived.Test.YtioblfbhjkkgoaaRowsT
import Derived.Test.YtioblfbhjkkgoaaSl
import Derived.StillTailTactics
namespace Go.Proofs.Ytioblfbhjkkgoaa
set_option maxRecDepth 100000
open Go.RowKit

/-- What does not change during a search. -/
structure SrC where
  b : Nat
  bb : Nat
  LA : Option Addr
  lc : Nat
  JA : Option Addr
  jc : Nat
  SA : Option Addr
  sc : Nat
  bc : Nat
  vs : List PartT
  js : List JointT
  ss : List Int
  most : Int
  single : Bool
/-- A search under way: its block b, its build in block bb, what it has found; all of it made since W. -/
structure RunSt (W w : World) (C : SrC) (bs : List ByteArray) (st : St (List ByteArray)) (FA : Option Addr) (fc : Nat) (ms : List RowM) : Prop where
  row : Row w C.b 93 9
  c0 : w.cell? ⟨C.b, 0, none⟩ = some (.slice C.LA C.vs.length C.lc)
  c1 : w.cell? ⟨C.b, 1, none⟩ = some (.slice C.JA C.js.length C.jc)
  c2 : w.cell? ⟨C.b, 2, none⟩ = some (.slice C.SA C.ss.length C.sc)
  c3 : w.cell? ⟨C.b, 3, none⟩ = some (.slice (some ⟨C.bb, 0, none⟩) bs.length C.bc)
  c4 : w.cell? ⟨C.b, 4, none⟩ = some (.int .i64 st.nodes)
  c5 : w.cell? ⟨C.b, 5, none⟩ = some (.int .i64 C.most)
  c6 : w.cell? ⟨C.b, 6, none⟩ = some (.bool st.full)
  c7 : w.cell? ⟨C.b, 7, none⟩ = some (.bool C.single)
  c8 : w.cell? ⟨C.b, 8, none⟩ = some (.slice FA ms.length fc)
  list : RdV w W.heap.size C.LA C.vs
  joints : Rd w W.heap.size 3 jointC C.JA C.js
  slots : Flat w W.heap.size w.heap.size 2 1 nC C.SA C.ss
  build : Flat w W.heap.size w.heap.size 9 1 tC (some ⟨C.bb, 0, none⟩) bs
  brow : ∃ m, Row w C.bb 9 m ∧ bs.length ≤ m
  found : Own w W.heap.size 44 1 rowC FA fc ms
  rows : RowsF w W.heap.size w.heap.size ms
  rowsb : ∀ m ∈ ms, Apart m.A C.bb
  vals : ms.map RowM.bs = st.found
  low : Below W.heap.size W w
  bW : W.heap.size ≤ C.b
  bbW : W.heap.size ≤ C.bb
section
variable {W w w' : World} {C : SrC} {bs : List ByteArray} {st : St (List ByteArray)} {FA : Option Addr} {fc : Nat} {ms : List RowM}
theorem RunSt.next (h : RunSt W w C bs st FA fc ms) (hb : Below w.heap.size w w') : RunSt W w' C bs st FA fc ms := by
  have hl := h.row.lt
  have e := hb.block C.b hl
  have hs := hb.size
  have hW := h.low.size
  obtain ⟨m, hr, hm⟩ := h.brow
  exact ⟨h.row.kept e, (World.cell?_of_block (a := ⟨C.b, 0, none⟩) e).trans h.c0, (World.cell?_of_block (a := ⟨C.b, 1, none⟩) e).trans h.c1, (World.cell?_of_block (a := ⟨C.b, 2, none⟩) e).trans h.c2, (World.cell?_of_block (a := ⟨C.b, 3, none⟩) e).trans h.c3, (World.cell?_of_block (a := ⟨C.b, 4, none⟩) e).trans h.c4, (World.cell?_of_block (a := ⟨C.b, 5, none⟩) e).trans h.c5, (World.cell?_of_block (a := ⟨C.b, 6, none⟩) e).trans h.c6, (World.cell?_of_block (a := ⟨C.b, 7, none⟩) e).trans h.c7, (World.cell?_of_block (a := ⟨C.b, 8, none⟩) e).trans h.c8,
    h.list.below (hb.mono hW), h.joints.below (hb.mono hW), (h.slots.below hb (Nat.le_refl _)).mono (Nat.le_refl _) hs, (h.build.below hb (Nat.le_refl _)).mono (Nat.le_refl _) hs, ⟨m, hr.next hb, hm⟩, h.found.keep hb, h.rows.next hb, h.rowsb, h.vals, bthen h.low hb |> fun x => x, h.bW, h.bbW⟩
/-- One of the words of the search is stored: all else keeps. -/
theorem RunSt.word (h : RunSt W w C bs st FA fc ms) (j : Nat) (u : Value) : Row (w.setCell ⟨C.b, j, none⟩ u) C.b 93 9 ∧ RdV (w.setCell ⟨C.b, j, none⟩ u) W.heap.size C.LA C.vs ∧ Rd (w.setCell ⟨C.b, j, none⟩ u) W.heap.size 3 jointC C.JA C.js ∧ Flat (w.setCell ⟨C.b, j, none⟩ u) W.heap.size (w.setCell ⟨C.b, j, none⟩ u).heap.size 2 1 nC C.SA C.ss ∧ Flat (w.setCell ⟨C.b, j, none⟩ u) W.heap.size (w.setCell ⟨C.b, j, none⟩ u).heap.size 9 1 tC (some ⟨C.bb, 0, none⟩) bs ∧ (∃ m, Row (w.setCell ⟨C.b, j, none⟩ u) C.bb 9 m ∧ bs.length ≤ m) ∧ Own (w.setCell ⟨C.b, j, none⟩ u) W.heap.size 44 1 rowC FA fc ms ∧ RowsF (w.setCell ⟨C.b, j, none⟩ u) W.heap.size (w.setCell ⟨C.b, j, none⟩ u).heap.size ms ∧ Below W.heap.size W (w.setCell ⟨C.b, j, none⟩ u) := by
  have hz : (w.setCell ⟨C.b, j, none⟩ u).heap.size = w.heap.size := by simp [World.setCell]
  have hlow : Below W.heap.size w (w.setCell ⟨C.b, j, none⟩ u) := (Below.refl _ _).setCell (p := ⟨C.b, j, none⟩) h.bW u
  have h1 : (2 : TypeId) ≠ 93 := by decide
  have h2 : (9 : TypeId) ≠ 93 := by decide
  have h3 : (44 : TypeId) ≠ 93 := by decide
  have h4 : (93 : TypeId) ≠ 9 := by decide
  obtain ⟨m, hr, hm⟩ := h.brow
  rw [hz]
  exact ⟨h.row.setCell _ _, h.list.below hlow, h.joints.below hlow, h.slots.setType (p := ⟨C.b, j, none⟩) h.row h1 u, h.build.setType (p := ⟨C.b, j, none⟩) h.row h2 u, ⟨m, hr.setCell _ _, hm⟩, h.found.setType (p := ⟨C.b, j, none⟩) h.row h3 u, h.rows.setType (p := ⟨C.b, j, none⟩) h.row h4 u, h.low.trans hlow⟩
theorem RunSt.setNodes (h : RunSt W w C bs st FA fc ms) (n : Int) : RunSt W (w.setCell ⟨C.b, 4, none⟩ (.int .i64 n)) C bs ⟨n, st.full, st.found⟩ FA fc ms := by
  obtain ⟨h1, h2, h3, h4, h5, h6, h7, h8, h9⟩ := h.word 4 (.int .i64 n)
  have hne : ∀ j, j ≠ 4 → (w.setCell ⟨C.b, 4, none⟩ (.int .i64 n)).cell? ⟨C.b, j, none⟩ = w.cell? ⟨C.b, j, none⟩ := fun j hj => setCell_other (by omega)
  exact ⟨h1, (hne 0 (by omega)).trans h.c0, (hne 1 (by omega)).trans h.c1, (hne 2 (by omega)).trans h.c2, (hne 3 (by omega)).trans h.c3, setCell_same h.c4, (hne 5 (by omega)).trans h.c5, (hne 6 (by omega)).trans h.c6, (hne 7 (by omega)).trans h.c7, (hne 8 (by omega)).trans h.c8, h2, h3, h4, h5, h6, h7, h8, h.rowsb, h.vals, h9, h.bW, h.bbW⟩
theorem RunSt.setFull (h : RunSt W w C bs st FA fc ms) (f : Bool) : RunSt W (w.setCell ⟨C.b, 6, none⟩ (.bool f)) C bs ⟨st.nodes, f, st.found⟩ FA fc ms := by
  obtain ⟨h1, h2, h3, h4, h5, h6, h7, h8, h9⟩ := h.word 6 (.bool f)
  have hne : ∀ j, j ≠ 6 → (w.setCell ⟨C.b, 6, none⟩ (.bool f)).cell? ⟨C.b, j, none⟩ = w.cell? ⟨C.b, j, none⟩ := fun j hj => setCell_other (by omega)
  exact ⟨h1, (hne 0 (by omega)).trans h.c0, (hne 1 (by omega)).trans h.c1, (hne 2 (by omega)).trans h.c2, (hne 3 (by omega)).trans h.c3, (hne 4 (by omega)).trans h.c4, (hne 5 (by omega)).trans h.c5, setCell_same h.c6, (hne 7 (by omega)).trans h.c7, (hne 8 (by omega)).trans h.c8, h2, h3, h4, h5, h6, h7, h8, h.rowsb, h.vals, h9, h.bW, h.bbW⟩
/-- A text of the build is stored. -/
theorem RunSt.setBuild (h : RunSt W w C bs st FA fc ms) (i : Nat) (v : ByteArray) (hi : i < bs.length) : RunSt W (w.setCell ⟨C.bb, i, none⟩ (.string v)) C (bs.set i v) st FA fc ms := by
  obtain ⟨m, hr, hm⟩ := h.brow
  have hz : (w.setCell ⟨C.bb, i, none⟩ (.string v)).heap.size = w.heap.size := by simp [World.setCell]
  have hlow : Below W.heap.size w (w.setCell ⟨C.bb, i, none⟩ (.string v)) := (Below.refl _ _).setCell (p := ⟨C.bb, i, none⟩) h.bbW _
  have h1 : (2 : TypeId) ≠ 9 := by decide
  have h3 : (44 : TypeId) ≠ 9 := by decide
  have hne : C.b ≠ C.bb := h.row.ne hr (by decide)
  have e : (w.setCell ⟨C.bb, i, none⟩ (.string v)).heap[C.b]? = w.heap[C.b]? := Below.heap_setCell _ _ _ _ hne
  have hc := fun (j : Nat) (u : Value) (hj : w.cell? ⟨C.b, j, none⟩ = some u) => (World.cell?_of_block (a := ⟨C.b, j, none⟩) e).trans hj
  refine ⟨h.row.kept e, hc 0 _ h.c0, hc 1 _ h.c1, hc 2 _ h.c2, ?_, hc 4 _ h.c4, hc 5 _ h.c5, hc 6 _ h.c6, hc 7 _ h.c7, hc 8 _ h.c8, h.list.below hlow, h.joints.below hlow, ?_, ?_, ⟨m, hr.setCell _ _, by rw [List.length_set]; exact hm⟩, h.found.setType (p := ⟨C.bb, i, none⟩) hr h3 _, ?_, h.rowsb, h.vals, h.low.trans hlow, h.bW, h.bbW⟩
  · rw [List.length_set]
    exact hc 3 _ h.c3
  · rw [hz]
    exact h.slots.setType (p := ⟨C.bb, i, none⟩) hr h1 _
  · rw [hz]
    exact h.build.set1 hi
  · rw [hz]
    refine fun r hrm => ⟨(h.rows r hrm).1.keepAt fun g e' hp => ?_, (h.rows r hrm).2⟩
    have := h.rowsb r hrm g 0 e'
    exact Below.heap_setCell _ _ _ _ this
/-- A bicycle is found: a copy of the build, made since, and the list of what is found has grown. -/
theorem RunSt.grow {w1 w2 w4 : World} {A2 A4 : Option Addr} {c2 c4 : Nat} (h : RunSt W w C bs st FA fc ms) (hb1 : Below w.heap.size w w1) (hf : Flat w1 w.heap.size w1.heap.size 9 1 tC A2 bs) (hc2 : bs.length ≤ c2) (hlen : 0 < bs.length) (hb2 : Below w1.heap.size w1 w2)
    (hown : Own w4 W.heap.size 44 1 rowC A4 c4 (ms ++ [⟨A2, c2, bs⟩])) (hb4 : Below W.heap.size w2 w4) (hfar : ∀ g, g < w2.heap.size → Apart FA g → Apart A4 g ∧ w4.heap[g]? = w2.heap[g]?) :
    RunSt W (w4.setCell ⟨C.b, 8, none⟩ (.slice A4 (ms.length + 1) c4)) C bs ⟨st.nodes, st.full, st.found ++ [bs]⟩ A4 c4 (ms ++ [⟨A2, c2, bs⟩]) := by
  have h2 := h.next (bthen hb1 hb2)
  obtain ⟨m, hr, hm⟩ := h2.brow
  have hsS : (44 : TypeId) ≠ 9 := by decide
  have hsI : (44 : TypeId) ≠ 2 := by decide
  have hsQ : (44 : TypeId) ≠ 93 := by decide
  have eb := h2.row.farType h2.found hsQ hfar
  have ebb := hr.farType h2.found hsS hfar
  have hs4 := hb4.size
  have hf2 : Flat w2 w.heap.size w2.heap.size 9 1 tC A2 bs := (hf.below hb2 (Nat.le_refl _)).mono (Nat.le_refl _) hb2.size
  have hcW := h.low.size
  have hcell := fun (j : Nat) (u : Value) (hj : w2.cell? ⟨C.b, j, none⟩ = some u) => (World.cell?_of_block (a := ⟨C.b, j, none⟩) eb).trans hj
  have hrow4 := h2.row.kept eb
  -- the state with the list grown, ahead of the store
  have hz : (w4.setCell ⟨C.b, 8, none⟩ (.slice A4 (ms.length + 1) c4)).heap.size = w4.heap.size := by simp [World.setCell]
  have hne : ∀ j, j ≠ 8 → (w4.setCell ⟨C.b, 8, none⟩ (.slice A4 (ms.length + 1) c4)).cell? ⟨C.b, j, none⟩ = w4.cell? ⟨C.b, j, none⟩ := fun j hj => setCell_other (by omega)
  have hlow : Below W.heap.size w4 (w4.setCell ⟨C.b, 8, none⟩ (.slice A4 (ms.length + 1) c4)) := (Below.refl _ _).setCell (p := ⟨C.b, 8, none⟩) h.bW _
  have hlow2 := hb4.trans hlow
  have t1 : (2 : TypeId) ≠ 93 := by decide
  have t2 : (9 : TypeId) ≠ 93 := by decide
  have t3 : (44 : TypeId) ≠ 93 := by decide
  have t4 : (93 : TypeId) ≠ 9 := by decide
  refine ⟨hrow4.setCell _ _, (hne 0 (by omega)).trans (hcell 0 _ h2.c0), (hne 1 (by omega)).trans (hcell 1 _ h2.c1), (hne 2 (by omega)).trans (hcell 2 _ h2.c2), (hne 3 (by omega)).trans (hcell 3 _ h2.c3), (hne 4 (by omega)).trans (hcell 4 _ h2.c4), (hne 5 (by omega)).trans (hcell 5 _ h2.c5), (hne 6 (by omega)).trans (hcell 6 _ h2.c6), (hne 7 (by omega)).trans (hcell 7 _ h2.c7), ?_, h2.list.below hlow2, h2.joints.below hlow2, ?_, ?_, ⟨m, (hr.kept ebb).setCell _ _, hm⟩, hown.setType (p := ⟨C.b, 8, none⟩) hrow4 t3 _, ?_, ?_, ?_, h2.low.trans hlow2, h.bW, h.bbW⟩
  · rw [setCell_same (hcell 8 _ h2.c8)]
    simp
  · rw [hz]
    exact ((h2.slots.farType h2.found hsI (Nat.le_refl _) hfar).mono (Nat.le_refl _) hs4).setType (p := ⟨C.b, 8, none⟩) hrow4 t1 _
  · rw [hz]
    exact ((h2.build.farType h2.found hsS (Nat.le_refl _) hfar).mono (Nat.le_refl _) hs4).setType (p := ⟨C.b, 8, none⟩) hrow4 t2 _
  · rw [hz]
    have hn : RowsF w2 W.heap.size w2.heap.size (ms ++ [⟨A2, c2, bs⟩]) := h2.rows.append (RowsF.one (m := ⟨A2, c2, bs⟩) (hf2.mono hcW (Nat.le_refl _)) hc2)
    exact ((hn.far h2.found hsS (Nat.le_refl _) hfar).mono (Nat.le_refl _) hs4).setType (p := ⟨C.b, 8, none⟩) hrow4 t4 _
  · intro r hrm
    rcases List.mem_append.1 hrm with hrm | hrm
    · exact h.rowsb r hrm
    · simp only [List.mem_singleton] at hrm
      subst hrm
      intro b o e
      obtain ⟨g, _, e', hg, _⟩ := hf hlen
      simp only at e
      rw [e] at e'
      simp only [Option.some.injEq, Addr.mk.injEq] at e'
      obtain ⟨_, hr0, _⟩ := h.brow
      have := hr0.lt
      omega
  · rw [List.map_append, h.vals]
    rfl
end
theorem any_take_next {α : Type} {f : α → Bool} {xs : List α} {k : Nat} {x : α} (hx : xs[k]? = some x) (h : (xs.take k).any f = false) (hf : f x = false) : (xs.take (k + 1)).any f = false := by
  rw [List.take_add_one, hx, List.any_append, h]
  simpa using hf
theorem any_yes {α : Type} {f : α → Bool} {xs : List α} {k : Nat} {x : α} (hx : xs[k]? = some x) (hf : f x = true) : xs.any f = true := List.any_eq_true.2 ⟨x, List.mem_of_getElem? hx, hf⟩

set_option maxHeartbeats 1000000 in
theorem broken_any (W w : World) (C : SrC) (bs : List ByteArray) (st : St (List ByteArray)) (FA : Option Addr) (fc : Nat) (ms : List RowM) (h : RunSt W w C bs st FA fc ms) (hs : SmallV C.vs) (hj : jointsB C.js = true) (hC : Codes C.vs bs) :
    Calls Try.prog 69 #[.pointer (some ⟨C.b, 0, none⟩)] w fun e w' => e = .returned (.bool (anyBroken C.vs C.js bs)) ∧ Below w.heap.size w w' := by
  have hr := h.list.more h.low.size
  have hr2 := h.joints.more h.low.size
  have hrb := h.build.rd
  have q0 := h.c0
  have q1 := h.c1
  have q3 := h.c3
  clear h
  obtain ⟨b, bb, LA, lc, JA, jc, SA, sc, bc, vs, js, ss, most, single⟩ := C
  simp only at hr hr2 hrb q0 q1 q3 hs hj hC ⊢
  have HJS := Lib.hid (jointsB_in hj).2
  have hj12 := (jointsB_in hj).1
  have hle : bs.length ≤ 8 := by have := hC.len; omega
  have hv16 := partsB_len hC.parts
  have HB : Hid (∀ (v : World) (j : JointT), SlotsIn j → RdV v v.heap.size LA vs → Rd v v.heap.size 1 tC (some ⟨bb, 0, none⟩) bs → Calls Try.prog 79 #[.slice LA vs.length lc, .slice (some ⟨bb, 0, none⟩) bs.length bc, .agg #[.int .i64 j.1, .int .i64 j.2.1, .int .i64 j.2.2]] v fun e w' => e = .returned (.bool (brokenB vs bs j)) ∧ Below v.heap.size v w') := fun v j h1 h2 h3 => isBroken_any LA (some ⟨bb, 0, none⟩) lc bc vs bs j v h2 h3 hs hC h1
  clear hs hC hj
  have HA : Hid (anyBroken vs js bs = js.any (brokenB vs bs)) := rfl
  generalize anyBroken vs js bs = R at HA ⊢
  go_enter Try.func69, Try.ntmps69
  go_wp2_with fail
  go_loopw [10] (fun i wr => ∃ k : Nat, k ≤ js.length ∧ i = .int .i64 k ∧ Below w.heap.size w wr ∧ (js.take k).any (brokenB vs bs) = false) (fun i _ => js.length - (intOf i).toNat)
  case atStart => exact ⟨0, Nat.zero_le _, rfl, Below.refl _ _, rfl⟩
  case round =>
    obtain ⟨k, hk, rfl, hb, hall⟩ := hrel
    have Ha := Lib.hid hall; clear hall
    by_cases hlt : k < js.length
    · have hx : js[k]? = some js[k] := List.getElem?_eq_getElem hlt
      obtain ⟨jb, jo, rfl, hB, r0, r1, r2⟩ := (hr2.below hb).at3 hx rfl
      have hsj := HJS.out _ (List.mem_of_getElem? hx)
      generalize js[k] = t at r0 r1 r2 hx hsj
      have Hx := Lib.hid hx; clear hx
      have Hsj := Lib.hid hsj; clear hsj
      have p0 := (hb.cell (p := ⟨b, 0, none⟩) (World.block_lt_of_cell? w _ q0)).trans q0
      have p3 := (hb.cell (p := ⟨b, 3, none⟩) (World.block_lt_of_cell? w _ q3)).trans q3
      have hbs := hb.size
      have hbl := World.block_lt_of_cell? w _ q0
      simp only at hbl
      have hnb : ¬ b = wr.heap.size := by omega
      go_wp2_with fail
      have hbV : Below w.heap.size w (wr.alloc (.cells #[.int .i64 t.1, .int .i64 t.2.1, .int .i64 t.2.2] 62)) := hb.alloc hbs _
      have hrV := (hr.below hbV).more hbV.size
      have hrbV := (hrb.below hbV).more hbV.size
      have e0 : ∀ v : Later (wr.alloc (.cells #[.int .i64 t.1, .int .i64 t.2.1, .int .i64 t.2.2] 62)), v.w.cell? ⟨b, 0, none⟩ = some (.slice LA vs.length lc) := Later.cell ((hbV.cell (p := ⟨b, 0, none⟩) (World.block_lt_of_cell? w _ q0)).trans q0)
      have e3 : ∀ v : Later (wr.alloc (.cells #[.int .i64 t.1, .int .i64 t.2.1, .int .i64 t.2.2] 62)), v.w.cell? ⟨b, 3, none⟩ = some (.slice (some ⟨bb, 0, none⟩) bs.length bc) := Later.cell ((hbV.cell (p := ⟨b, 3, none⟩) (World.block_lt_of_cell? w _ q3)).trans q3)
      have y0 : ∀ v : Later (wr.alloc (.cells #[.int .i64 t.1, .int .i64 t.2.1, .int .i64 t.2.2] 62)), v.w.cell? ⟨wr.heap.size, 0, none⟩ = some (.int .i64 t.1) := Later.cell (by go_simp)
      have y1 : ∀ v : Later (wr.alloc (.cells #[.int .i64 t.1, .int .i64 t.2.1, .int .i64 t.2.2] 62)), v.w.cell? ⟨wr.heap.size, 1, none⟩ = some (.int .i64 t.2.1) := Later.cell (by go_simp)
      have y2 : ∀ v : Later (wr.alloc (.cells #[.int .i64 t.1, .int .i64 t.2.1, .int .i64 t.2.2] 62)), v.w.cell? ⟨wr.heap.size, 2, none⟩ = some (.int .i64 t.2.2) := Later.cell (by go_simp)
      clear p0 p3 r0 r1 r2
      generalize wr.alloc (.cells #[.int .i64 t.1, .int .i64 t.2.1, .int .i64 t.2.2] 62) = V at hbV hrV hrbV e0 e3 y0 y1 y2 ⊢
      generalize wr.heap.size = g0 at hbs hnb y0 y1 y2 ⊢
      have HBt : Hid (∀ v : Later V, Calls Try.prog 79 #[.slice LA vs.length lc, .slice (some ⟨bb, 0, none⟩) bs.length bc, .agg #[.int .i64 t.1, .int .i64 t.2.1, .int .i64 t.2.2]] v.w fun e w' => e = .returned (.bool (brokenB vs bs t)) ∧ Below v.w.heap.size v.w w') := fun v => HB.out v.w t Hsj.out (Later.rdv hrV v) (Later.rd hrbV v)
      by_cases hbk : brokenB vs bs t = true
      · have HR : Hid (R = true) := by unfold Hid; rw [HA.out]; exact any_yes Hx.out hbk
        rw [hbk] at HBt
        clear hbk
        refine wp_region_later (by kernel_rfl) (by kernel_rfl) ?_
        repeat (go_big_quiet_step ((go_at_call 79; exact Later.call (HBt.out _))))
        refine wpQuiet_nil ?_
        rintro _ ⟨⟨w2, hb2⟩, rfl⟩
        clear e0 e3 y0 y1 y2
        go_wp2_with fail
        go_ret
        exact ⟨ret_bool HR.out.symm, bthen hbV hb2⟩
      · have hbk' : brokenB vs bs t = false := by simpa using hbk
        have HN := Lib.hid (any_take_next Hx.out Ha.out hbk')
        rw [hbk'] at HBt
        clear hbk hbk'
        refine wp_region_later (by kernel_rfl) (by kernel_rfl) ?_
        repeat (go_big_quiet_step ((go_at_call 79; exact Later.call (HBt.out _))))
        refine wpQuiet_nil ?_
        rintro _ ⟨⟨w2, hb2⟩, rfl⟩
        clear e0 e3 y0 y1 y2
        go_wp2_with fail
        exact ⟨⟨k + 1, by omega, by go_num, bthen hbV hb2, HN.out⟩, by simp [intOf]; omega⟩
    · have HF : Hid (R = false) := by
        unfold Hid
        rw [HA.out]
        have := Ha.out
        rwa [List.take_of_length_le (by omega)] at this
      go_wp2_with fail
      go_ret
      exact ⟨ret_bool HF.out.symm, hb⟩
end Go.Proofs.Ytioblfbhjkkgoaa
