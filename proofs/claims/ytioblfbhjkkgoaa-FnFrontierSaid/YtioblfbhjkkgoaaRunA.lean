/- DERIVED. The search of the program: all of it; how it begins. -/
import Derived.Test.YtioblfbhjkkgoaaRunC
namespace Go.Proofs.Ytioblfbhjkkgoaa
set_option maxRecDepth 100000
open Go.RowKit

theorem run_all (W : World) (C : SrC) (hs : SmallV C.vs) (hj : jointsB C.js = true) (hn8 : C.ss.length ≤ 8) (hnd : C.ss.Nodup) (hb : ∀ s ∈ C.ss, 0 ≤ s ∧ s < 8) : ∀ (ss' : List Int) (k : Nat), C.ss.drop k = ss' → k ≤ C.ss.length → RunOk W C ss' k
  | [], k, hd, hk => run_nil W C k (by have := congrArg List.length hd; simp at this; omega) hn8
  | s :: rest, k, hd, hk => by
    have hlt : k < C.ss.length := by
      have := congrArg List.length hd
      simp at this
      omega
    have hsk : C.ss[k]? = some s := by
      have := congrArg (fun l => l[0]?) hd
      simpa using this
    have hd2 : C.ss.drop (k + 1) = rest := by
      have := congrArg List.tail hd
      simpa using this
    have hnd2 : (s :: rest).Nodup := by rw [← hd]; exact hnd.sublist (List.drop_sublist _ _)
    have hmem : ∀ t ∈ s :: rest, t ∈ C.ss := fun t ht => List.mem_of_mem_drop (hd ▸ ht)
    exact run_cons W C k s rest hs hj hlt hsk (hb s (hmem s (by simp))) hn8 hnd2 (fun t ht => hb t (hmem t (by simp [ht]))) (run_all W C hs hj hn8 hnd hb rest (k + 1) hd2 hlt)

/-- The slots of a search that is being made have grown. -/
theorem RunSt.growSlots {W w w4 : World} {C : SrC} {bs : List ByteArray} {st : St (List ByteArray)} {FA A4 : Option Addr} {fc c4 : Nat} {ms : List RowM} {s : Int} (h : RunSt W w C bs st FA fc ms) (ho : Own w W.heap.size 2 1 nC C.SA C.sc C.ss)
    (hown : Own w4 W.heap.size 2 1 nC A4 c4 (C.ss ++ [s])) (hb4 : Below W.heap.size w w4) (hfar : ∀ g, g < w.heap.size → Apart C.SA g → Apart A4 g ∧ w4.heap[g]? = w.heap[g]?) :
    RunSt W (w4.setCell ⟨C.b, 2, none⟩ (.slice A4 (C.ss.length + 1) c4)) { C with SA := A4, sc := c4, ss := C.ss ++ [s] } bs st FA fc ms ∧ Own (w4.setCell ⟨C.b, 2, none⟩ (.slice A4 (C.ss.length + 1) c4)) W.heap.size 2 1 nC A4 c4 (C.ss ++ [s]) := by
  obtain ⟨m, hr, hm⟩ := h.brow
  have hsS : (2 : TypeId) ≠ 9 := by decide
  have hsR : (2 : TypeId) ≠ 44 := by decide
  have hsQ : (2 : TypeId) ≠ 93 := by decide
  have eb := h.row.farType ho hsQ hfar
  have ebb := hr.farType ho hsS hfar
  have hs4 := hb4.size
  have hcell := fun (j : Nat) (u : Value) (hj : w.cell? ⟨C.b, j, none⟩ = some u) => (World.cell?_of_block (a := ⟨C.b, j, none⟩) eb).trans hj
  have hrow4 := h.row.kept eb
  have hz : (w4.setCell ⟨C.b, 2, none⟩ (.slice A4 (C.ss.length + 1) c4)).heap.size = w4.heap.size := by simp [World.setCell]
  have hne : ∀ j, j ≠ 2 → (w4.setCell ⟨C.b, 2, none⟩ (.slice A4 (C.ss.length + 1) c4)).cell? ⟨C.b, j, none⟩ = w4.cell? ⟨C.b, j, none⟩ := fun j hj => setCell_other (by omega)
  have hlow : Below W.heap.size w4 (w4.setCell ⟨C.b, 2, none⟩ (.slice A4 (C.ss.length + 1) c4)) := (Below.refl _ _).setCell (p := ⟨C.b, 2, none⟩) h.bW _
  have hlow2 := hb4.trans hlow
  have t1 : (2 : TypeId) ≠ 93 := by decide
  have t2 : (9 : TypeId) ≠ 93 := by decide
  have t3 : (44 : TypeId) ≠ 93 := by decide
  have t4 : (93 : TypeId) ≠ 9 := by decide
  have hown' := hown.setType (p := ⟨C.b, 2, none⟩) hrow4 t1 (.slice A4 (C.ss.length + 1) c4)
  have hflat := hown'.flat (fun _ => rfl)
  refine ⟨⟨hrow4.setCell _ _, (hne 0 (by omega)).trans (hcell 0 _ h.c0), (hne 1 (by omega)).trans (hcell 1 _ h.c1), ?_, (hne 3 (by omega)).trans (hcell 3 _ h.c3), (hne 4 (by omega)).trans (hcell 4 _ h.c4), (hne 5 (by omega)).trans (hcell 5 _ h.c5), (hne 6 (by omega)).trans (hcell 6 _ h.c6), (hne 7 (by omega)).trans (hcell 7 _ h.c7), (hne 8 (by omega)).trans (hcell 8 _ h.c8), h.list.below hlow2, h.joints.below hlow2, hflat, ?_, ⟨m, (hr.kept ebb).setCell _ _, hm⟩, (h.found.farType ho hsR hfar).setType (p := ⟨C.b, 2, none⟩) hrow4 t3 _, ?_, h.rowsb, h.vals, h.low.trans hlow2, h.bW, h.bbW⟩, hown'⟩
  · rw [setCell_same (hcell 2 _ h.c2)]
    simp
  · rw [hz]
    exact ((h.build.farType ho hsS (Nat.le_refl _) hfar).mono (Nat.le_refl _) hs4).setType (p := ⟨C.b, 2, none⟩) hrow4 t2 _
  · rw [hz]
    exact ((h.rows.far ho hsS (Nat.le_refl _) hfar).mono (Nat.le_refl _) hs4).setType (p := ⟨C.b, 2, none⟩) hrow4 t4 _

def GivesNew (w : World) (vs : List PartT) (js : List JointT) (e : Ending) (w' : World) : Prop := ∃ C : SrC, e = .returned (.pointer (some ⟨C.b, 0, none⟩)) ∧ C.vs = vs ∧ C.js = js ∧ C.ss = slotsOf js ∧ C.most = -1 ∧ C.single = false ∧ RunSt w w' C bare ⟨0, false, []⟩ none 0 []

theorem bare_cells (k : Nat) (h : k < 8) : (madeCells (Value.string ⟨#[]⟩).cells 8)[k]? = some (.string noText) := by
  have e : (Value.string ⟨#[]⟩).cells = #[.string noText] := rfl
  rw [e]
  unfold madeCells
  simp [h, Nat.mod_one]
theorem bare_flat (w : World) : Flat (w.alloc (.cells (madeCells (Value.string ⟨#[]⟩).cells 8) 9)) w.heap.size (w.heap.size + 1) 9 1 tC (some ⟨w.heap.size, 0, none⟩) bare := fun _ => by
  refine ⟨w.heap.size, 8, rfl, Nat.le_refl _, Nat.lt_succ_self _, Row.made _ _, by decide, fun k x hk j v hj => ?_⟩
  have hk8 : k < 8 := (List.getElem?_eq_some_iff.1 hk).1
  have hx : x = noText := List.eq_of_mem_replicate (List.mem_of_getElem? hk)
  match j with
  | 0 =>
    obtain rfl : Value.string x = v := by simpa [tC] using hj
    rw [hx, Nat.mul_one, Nat.add_zero, cell_of_row _ _ _ _ 9 (0, 0) (heap_alloc_new w _)]
    exact bare_cells k hk8
  | j + 1 => simp [tC] at hj
set_option maxHeartbeats 2000000 in
theorem newSearch_any (LA JA : Option Addr) (lc jc : Nat) (vs : List PartT) (js : List JointT) (w : World) (hr : RdV w w.heap.size LA vs) (hr2 : Rd w w.heap.size 3 jointC JA js) (hm : vs.length ≤ 1048576) (hj12 : js.length ≤ 12) :
    Calls Try.prog 54 #[.slice LA vs.length lc, .slice JA js.length jc] w (GivesNew w vs js) := by
  have hmk : ∀ W : World, (Instr.makeSlice 44 (.int .i64 8) (.int .i64 8)).run Try.prog W = .ok (.slice (some ⟨W.heap.size, 0, none⟩) 8 8) (W.alloc (.cells (madeCells (Value.string ⟨#[]⟩).cells 8) 9)) := fun W => made Try.underlying44 infoString 8 (by omega) (by omega) W
  go_enter Try.func54, Try.ntmps54
  go_wp2_with fail
  clear hmk
  change Code.wp _ _ _ _ ((w.alloc (.cells (madeCells (Value.string ⟨#[]⟩).cells 8) 9)).alloc (.cells #[.slice LA vs.length lc, .slice JA js.length jc, .slice none 0 0, .slice (some ⟨w.heap.size, 0, none⟩) 8 8, .int .i64 0, .int .i64 (-1), .bool false, .bool false, .slice none 0 0] 93))
  have hS : Hid (RunSt w ((w.alloc (.cells (madeCells (Value.string ⟨#[]⟩).cells 8) 9)).alloc (.cells #[.slice LA vs.length lc, .slice JA js.length jc, .slice none 0 0, .slice (some ⟨w.heap.size, 0, none⟩) 8 8, .int .i64 0, .int .i64 (-1), .bool false, .bool false, .slice none 0 0] 93)) ⟨w.heap.size + 1, w.heap.size, LA, lc, JA, jc, none, 0, 8, vs, js, [], -1, false⟩ bare ⟨0, false, []⟩ none 0 []) := by
    have e1 : (w.alloc (.cells (madeCells (Value.string ⟨#[]⟩).cells 8) 9)).heap.size = w.heap.size + 1 := by simp
    have hb1 := balloc w (.cells (madeCells (Value.string ⟨#[]⟩).cells 8) 9)
    have hb2 := balloc (w.alloc (.cells (madeCells (Value.string ⟨#[]⟩).cells 8) 9)) (.cells #[.slice LA vs.length lc, .slice JA js.length jc, .slice none 0 0, .slice (some ⟨w.heap.size, 0, none⟩) 8 8, .int .i64 0, .int .i64 (-1), .bool false, .bool false, .slice none 0 0] 93)
    have hbb := bthen hb1 hb2
    have hrow : Row ((w.alloc (.cells (madeCells (Value.string ⟨#[]⟩).cells 8) 9)).alloc (.cells #[.slice LA vs.length lc, .slice JA js.length jc, .slice none 0 0, .slice (some ⟨w.heap.size, 0, none⟩) 8 8, .int .i64 0, .int .i64 (-1), .bool false, .bool false, .slice none 0 0] 93)) (w.heap.size + 1) 93 9 := by
      rw [← e1]
      exact Row.new _ _ _
    have hcell : ∀ (j : Nat) (u : Value), (#[Value.slice LA vs.length lc, .slice JA js.length jc, .slice none 0 0, .slice (some ⟨w.heap.size, 0, none⟩) 8 8, .int .i64 0, .int .i64 (-1), .bool false, .bool false, .slice none 0 0] : Array Value)[j]? = some u → ((w.alloc (.cells (madeCells (Value.string ⟨#[]⟩).cells 8) 9)).alloc (.cells #[.slice LA vs.length lc, .slice JA js.length jc, .slice none 0 0, .slice (some ⟨w.heap.size, 0, none⟩) 8 8, .int .i64 0, .int .i64 (-1), .bool false, .bool false, .slice none 0 0] 93)).cell? ⟨w.heap.size + 1, j, none⟩ = some u := fun j u hj => by
      rw [← e1, cell_of_row _ _ _ _ 93 (0, 0) (heap_alloc_new _ _)]
      exact hj
    refine ⟨hrow, hcell 0 _ rfl, hcell 1 _ rfl, hcell 2 _ rfl, hcell 3 _ rfl, hcell 4 _ rfl, hcell 5 _ rfl, hcell 6 _ rfl, hcell 7 _ rfl, hcell 8 _ rfl, hr.below hbb, hr2.below hbb, flat_nil, (((bare_flat w).below hb2 (by omega)).mono (Nat.le_refl _) (by simp)), ⟨8, (Row.made _ _).alloc _, by decide⟩, Own.nil, RowsF.nil, fun m hm => absurd hm (by simp), rfl, hbb, by simp, by simp⟩
  generalize (w.alloc (.cells (madeCells (Value.string ⟨#[]⟩).cells 8) 9)).alloc (.cells #[.slice LA vs.length lc, .slice JA js.length jc, .slice none 0 0, .slice (some ⟨w.heap.size, 0, none⟩) 8 8, .int .i64 0, .int .i64 (-1), .bool false, .bool false, .slice none 0 0] 93) = V at hS ⊢
  have hOw0 : Own V w.heap.size 2 1 nC none 0 ([] : List Int) := Own.nil
  go_loopw [6] (fun i wr => ∃ (k : Nat) (SA : Option Addr) (sc : Nat), k ≤ 8 ∧ i = .int .i64 k ∧ RunSt w wr ⟨w.heap.size + 1, w.heap.size, LA, lc, JA, jc, SA, sc, 8, vs, js, slotsTo js k, -1, false⟩ bare ⟨0, false, []⟩ none 0 [] ∧ Own wr w.heap.size 2 1 nC SA sc (slotsTo js k)) (fun i _ => 8 - (intOf i).toNat)
  case atStart => exact ⟨0, none, 0, by omega, rfl, hS.out, hOw0⟩
  case round =>
    obtain ⟨k, SA, sc, hk, rfl, hst, hown⟩ := hrel
    have HS := Lib.hid hst; clear hst
    have HO := Lib.hid hown; clear hown
    by_cases hlt : k < 8
    · go_wp2_with fail
      go_loopw [20] (fun i wi => ∃ (q : Nat), q ≤ js.length ∧ i = .int .i64 q ∧ (js.take q).any (touchJ (k : Int)) = false ∧ RunSt w wi ⟨w.heap.size + 1, w.heap.size, LA, lc, JA, jc, SA, sc, 8, vs, js, slotsTo js k, -1, false⟩ bare ⟨0, false, []⟩ none 0 [] ∧ Own wi w.heap.size 2 1 nC SA sc (slotsTo js k)) (fun i _ => js.length - (intOf i).toNat)
      case atStart => exact ⟨0, Nat.zero_le _, rfl, rfl, HS.out, HO.out⟩
      case round =>
        obtain ⟨q, hq, rfl, hany, hst2, hown2⟩ := hrel
        have HS2 := Lib.hid hst2; clear hst2
        have HO2 := Lib.hid hown2; clear hown2
        have HA := Lib.hid hany; clear hany
        by_cases hqlt : q < js.length
        · have hx : js[q]? = some js[q] := List.getElem?_eq_getElem hqlt
          obtain ⟨jb, jo, rfl, hB, r0, r1, r2⟩ := HS2.out.joints.at3 hx rfl
          have hB' : jb < wr.heap.size := by have := HS2.out.low.size; omega
          generalize js[q] = t at r0 r1 r2 hx
          have Hx := Lib.hid hx; clear hx
          have hlw : w.heap.size + 1 < wr.heap.size := HS2.out.row.lt
          have nlw : ¬ w.heap.size + 1 = wr.heap.size := by omega
          have nlw' : ¬ wr.heap.size = w.heap.size + 1 := by omega
          have hWr := HS2.out.low.size
          by_cases h1 : t.1 = (k : Int)
          · have h1b : (t.1 == (k : Int)) = true := by simp [h1]
            have HTch : Hid (touchJ (k : Int) t = true) := by unfold Hid; simp [touchJ, h1]
            clear h1
            have c2 := HS2.out.c2
            have HT := Lib.hid (slotsTo_yes (js := js) (k := k) (any_yes Hx.out HTch.out))
            have hls := slotsTo_len js k
            simp only at c2
            have HGs : Hid (∀ (w4 : World) (o1 o2 : Obj) (A4 : Option Addr) (c4 : Nat), Own w4 w.heap.size 2 1 nC A4 c4 (slotsTo js k ++ [(k : Int)]) → Below w.heap.size ((wr.alloc o1).alloc o2) w4 → (∀ g, g < ((wr.alloc o1).alloc o2).heap.size → Apart SA g → Apart A4 g ∧ w4.heap[g]? = ((wr.alloc o1).alloc o2).heap[g]?) → (w4.cell? ⟨w.heap.size + 1, 2, none⟩ = some (.slice SA (slotsTo js k).length sc) ∧ w4.frozen? ⟨w.heap.size + 1, 2, none⟩ = false) ∧ RunSt w (w4.setCell ⟨w.heap.size + 1, 2, none⟩ (.slice A4 ((slotsTo js k).length + 1) c4)) ⟨w.heap.size + 1, w.heap.size, LA, lc, (some ⟨jb, jo, none⟩), jc, A4, c4, 8, vs, js, slotsTo js (k + 1), -1, false⟩ bare ⟨0, false, []⟩ none 0 [] ∧ Own (w4.setCell ⟨w.heap.size + 1, 2, none⟩ (.slice A4 ((slotsTo js k).length + 1) c4)) w.heap.size 2 1 nC A4 c4 (slotsTo js (k + 1))) := fun w4 o1 o2 A4 c4 h1 h2 h3 => by
              have hS3 := (HS2.out.next (balloc _ o1)).next (balloc _ o2)
              have hO3 := (HO2.out.keep (balloc _ o1)).keep (balloc _ o2)
              have eb := hS3.row.farType hO3 (by decide) h3
              have := hS3.growSlots hO3 h1 h2 h3
              rw [HT.out]
              exact ⟨⟨(World.cell?_of_block (a := ⟨w.heap.size + 1, 2, none⟩) eb).trans hS3.c2, (hS3.row.kept eb).frozen 2⟩, this⟩
            have hO0 := Lib.hid (fun (o1 o2 : Obj) => (HO2.out.keep (balloc wr o1)).keep (balloc _ o2))
            clear HT HTch
            generalize slotsTo js k = sk at c2 HGs hO0 hls
            go_wp2_with (at_builtin; refine wpList_append_far rfl _ _ _ rfl w.heap.size 2 (.int .i64 0) 1 8 Try.underlying47 infoInt64 rfl (by omega) (by omega) nC sk (k : Int) SA sc rfl (hO0.out _ _) (wr.heap.size + 1) _ rfl rfl (one_cell (by go_simp)) (by simp [nC]; rfl) (by omega) (by simp; omega) ?_)
            intro A4 c4 w6 hown6 hb6 hfar6
            obtain ⟨⟨z2, f2⟩, hg6, ho6⟩ := HGs.out w6 _ _ A4 c4 hown6 hb6 (fun g hg ha => hfar6 g (by simpa using hg) ha)
            have HG6 := Lib.hid hg6
            have HO6 := Lib.hid ho6
            clear hown6 hb6 hfar6 hg6 ho6 HGs hO0
            go_wp2_with fail
            exact ⟨⟨k + 1, A4, c4, by omega, by go_num, HG6.out, HO6.out⟩, by simp [intOf]; omega⟩
          · have h1b : (t.1 == (k : Int)) = false := by simp [h1]
            by_cases h2 : t.2.1 = (k : Int)
            · have h2b : (t.2.1 == (k : Int)) = true := by simp [h2]
              have HTch : Hid (touchJ (k : Int) t = true) := by unfold Hid; simp [touchJ, h2]
              clear h1 h2
              have c2 := HS2.out.c2
              have HT := Lib.hid (slotsTo_yes (js := js) (k := k) (any_yes Hx.out HTch.out))
              have hls := slotsTo_len js k
              simp only at c2
              have HGs : Hid (∀ (w4 : World) (o1 o2 : Obj) (A4 : Option Addr) (c4 : Nat), Own w4 w.heap.size 2 1 nC A4 c4 (slotsTo js k ++ [(k : Int)]) → Below w.heap.size ((wr.alloc o1).alloc o2) w4 → (∀ g, g < ((wr.alloc o1).alloc o2).heap.size → Apart SA g → Apart A4 g ∧ w4.heap[g]? = ((wr.alloc o1).alloc o2).heap[g]?) → (w4.cell? ⟨w.heap.size + 1, 2, none⟩ = some (.slice SA (slotsTo js k).length sc) ∧ w4.frozen? ⟨w.heap.size + 1, 2, none⟩ = false) ∧ RunSt w (w4.setCell ⟨w.heap.size + 1, 2, none⟩ (.slice A4 ((slotsTo js k).length + 1) c4)) ⟨w.heap.size + 1, w.heap.size, LA, lc, (some ⟨jb, jo, none⟩), jc, A4, c4, 8, vs, js, slotsTo js (k + 1), -1, false⟩ bare ⟨0, false, []⟩ none 0 [] ∧ Own (w4.setCell ⟨w.heap.size + 1, 2, none⟩ (.slice A4 ((slotsTo js k).length + 1) c4)) w.heap.size 2 1 nC A4 c4 (slotsTo js (k + 1))) := fun w4 o1 o2 A4 c4 h1 h2 h3 => by
                have hS3 := (HS2.out.next (balloc _ o1)).next (balloc _ o2)
                have hO3 := (HO2.out.keep (balloc _ o1)).keep (balloc _ o2)
                have eb := hS3.row.farType hO3 (by decide) h3
                have := hS3.growSlots hO3 h1 h2 h3
                rw [HT.out]
                exact ⟨⟨(World.cell?_of_block (a := ⟨w.heap.size + 1, 2, none⟩) eb).trans hS3.c2, (hS3.row.kept eb).frozen 2⟩, this⟩
              have hO0 := Lib.hid (fun (o1 o2 : Obj) => (HO2.out.keep (balloc wr o1)).keep (balloc _ o2))
              clear HT HTch
              generalize slotsTo js k = sk at c2 HGs hO0 hls
              go_wp2_with (at_builtin; refine wpList_append_far rfl _ _ _ rfl w.heap.size 2 (.int .i64 0) 1 8 Try.underlying47 infoInt64 rfl (by omega) (by omega) nC sk (k : Int) SA sc rfl (hO0.out _ _) (wr.heap.size + 1) _ rfl rfl (one_cell (by go_simp)) (by simp [nC]; rfl) (by omega) (by simp; omega) ?_)
              intro A4 c4 w6 hown6 hb6 hfar6
              obtain ⟨⟨z2, f2⟩, hg6, ho6⟩ := HGs.out w6 _ _ A4 c4 hown6 hb6 (fun g hg ha => hfar6 g (by simpa using hg) ha)
              have HG6 := Lib.hid hg6
              have HO6 := Lib.hid ho6
              clear hown6 hb6 hfar6 hg6 ho6 HGs hO0
              go_wp2_with fail
              exact ⟨⟨k + 1, A4, c4, by omega, by go_num, HG6.out, HO6.out⟩, by simp [intOf]; omega⟩
            · have h2b : (t.2.1 == (k : Int)) = false := by simp [h2]
              have HN := Lib.hid (any_take_next Hx.out HA.out (f := touchJ (k : Int)) (by simp [touchJ, h1, h2]))
              clear h1 h2
              have HSn := Lib.hid (HS2.out.next (balloc wr (.cells #[.int .i64 t.1, .int .i64 t.2.1, .int .i64 t.2.2] 62)))
              have HOn := Lib.hid (HO2.out.keep (balloc wr (.cells #[.int .i64 t.1, .int .i64 t.2.1, .int .i64 t.2.2] 62)))
              go_wp2_with fail
              exact ⟨⟨q + 1, by omega, by go_num, HN.out, HSn.out, HOn.out⟩, by simp [intOf]; omega⟩
        · have HT := Lib.hid (slotsTo_no (js := js) (k := k) (by have := HA.out; rw [List.take_of_length_le (by omega)] at this; exact this))
          go_wp2_with fail
          refine ⟨⟨k + 1, SA, sc, by omega, by go_num, ?_, ?_⟩, by simp [intOf]; omega⟩
          · rw [HT.out]; exact HS2.out
          · rw [HT.out]; exact HO2.out
    · go_wp2_with fail
      go_ret
      obtain rfl : k = 8 := by omega
      exact ⟨_, rfl, rfl, rfl, rfl, rfl, rfl, HS.out⟩
end Go.Proofs.Ytioblfbhjkkgoaa
