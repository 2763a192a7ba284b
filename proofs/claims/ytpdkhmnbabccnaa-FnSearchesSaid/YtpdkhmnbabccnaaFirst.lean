/- DERIVED. The first bicycle, in the program and in the reference. By program (gfirst.py). -/
import Derived.Test.YtpdkhmnbabccnaaBikeS
import Derived.Deep.RegionLaw
namespace Go.Proofs.Ytpdkhmnbabccnaa
set_option maxRecDepth 100000
open Go.RowKit

/-- A bicycle, a number and a code. -/
def GivesRes2 (w : World) (lo : Nat) (r : List ByteArray × Int × Int) (e : Ending) (w' : World) : Prop :=
  ∃ A c, e = .returned (.tuple #[.slice A r.1.length c, .int .i64 r.2.1, .int .i64 r.2.2]) ∧ Flat w' lo w'.heap.size 9 1 tC A r.1 ∧ r.1.length ≤ c ∧ Below w.heap.size w w'
section
variable {W w : World} {C : SrC} {bs : List ByteArray} {st : St (List ByteArray)} {FA : Option Addr} {fc : Nat} {ms : List RowM}
theorem RunSt.setMost (h : RunSt W w C bs st FA fc ms) (m : Int) : RunSt W (w.setCell ⟨C.b, 5, none⟩ (.int .i64 m)) { C with most := m } bs st FA fc ms := by
  obtain ⟨h1, h2, h3, h4, h5, h6, h7, h8, h9⟩ := h.word 5 (.int .i64 m)
  have hne : ∀ j, j ≠ 5 → (w.setCell ⟨C.b, 5, none⟩ (.int .i64 m)).cell? ⟨C.b, j, none⟩ = w.cell? ⟨C.b, j, none⟩ := fun j hj => setCell_other (by omega)
  exact ⟨h1, (hne 0 (by omega)).trans h.c0, (hne 1 (by omega)).trans h.c1, (hne 2 (by omega)).trans h.c2, (hne 3 (by omega)).trans h.c3, (hne 4 (by omega)).trans h.c4, setCell_same h.c5, (hne 6 (by omega)).trans h.c6, (hne 7 (by omega)).trans h.c7, (hne 8 (by omega)).trans h.c8, h2, h3, h4, h5, h6, h7, h8, h.rowsb, h.vals, h9, h.bW, h.bbW⟩
theorem RunSt.setSingle (h : RunSt W w C bs st FA fc ms) (s : Bool) : RunSt W (w.setCell ⟨C.b, 7, none⟩ (.bool s)) { C with single := s } bs st FA fc ms := by
  obtain ⟨h1, h2, h3, h4, h5, h6, h7, h8, h9⟩ := h.word 7 (.bool s)
  have hne : ∀ j, j ≠ 7 → (w.setCell ⟨C.b, 7, none⟩ (.bool s)).cell? ⟨C.b, j, none⟩ = w.cell? ⟨C.b, j, none⟩ := fun j hj => setCell_other (by omega)
  exact ⟨h1, (hne 0 (by omega)).trans h.c0, (hne 1 (by omega)).trans h.c1, (hne 2 (by omega)).trans h.c2, (hne 3 (by omega)).trans h.c3, (hne 4 (by omega)).trans h.c4, (hne 5 (by omega)).trans h.c5, (hne 6 (by omega)).trans h.c6, setCell_same h.c7, (hne 8 (by omega)).trans h.c8, h2, h3, h4, h5, h6, h7, h8, h.rowsb, h.vals, h9, h.bW, h.bbW⟩
end
/-- The three ways that the search for the first one ends. -/
theorem first_ways {vs : List PartT} {js : List JointT} {m : Int} (hb : bothB vs js = true) (hi : inB m 0 5000 = true) :
    (∃ b k, firstR vs js m = (b, k, 0) ∧ (allB vs js)[0]? = some b ∧ (atsOf 0 (tr vs js))[0]? = some k ∧ k ≤ m ∧ (runs m true ⟨0, false, []⟩ (tr vs js)).found = [b] ∧ (runs m true ⟨0, false, []⟩ (tr vs js)).nodes = k) ∨
    (firstR vs js m = ([], 0, 3) ∧ ((allB vs js).length = 0 ∨ ∃ k, (atsOf 0 (tr vs js))[0]? = some k ∧ m < k) ∧ m < nodesOf (tr vs js) ∧ (runs m true ⟨0, false, []⟩ (tr vs js)).found = [] ∧ (runs m true ⟨0, false, []⟩ (tr vs js)).full = true) ∨
    (firstR vs js m = ([], 0, 4) ∧ (allB vs js).length = 0 ∧ nodesOf (tr vs js) ≤ m ∧ (runs m true ⟨0, false, []⟩ (tr vs js)).found = [] ∧ (runs m true ⟨0, false, []⟩ (tr vs js)).full = false) := by
  have h0 := (inB_true hi).1
  unfold firstR
  rw [if_pos hb, if_pos hi]
  have hl := atsOf_length 0 (tr vs js)
  unfold allB
  rcases runs_first (m := m) (tr vs js) 0 h0 with ⟨b, k, h1, h2, h3, h4, h5⟩ | ⟨h1, h2, h3, h4⟩ | ⟨h1, h2, h3⟩
  · refine Or.inl ⟨b, k, ?_, h1, h2, h3, h4, h5⟩
    rw [h1, h2]
    simp only
    rw [if_pos h3]
  · refine Or.inr (Or.inl ⟨?_, ?_, by omega, h3, h4⟩)
    · rcases h1 with h1 | ⟨k, h1, h5⟩
      · rw [h1]
        simp only [List.getElem?_nil]
        rw [if_pos (by omega)]
      · have : ∃ b, (founds (tr vs js))[0]? = some b := by
          have := (List.getElem?_eq_some_iff.1 h1).1
          exact ⟨_, List.getElem?_eq_getElem (by omega)⟩
        obtain ⟨b, hbb⟩ := this
        rw [hbb, h1]
        simp only
        rw [if_neg (by omega)]
    · rcases h1 with h1 | h1
      · exact Or.inl (by rw [h1]; rfl)
      · exact Or.inr h1
  · refine Or.inr (Or.inr ⟨?_, by rw [h1]; rfl, by omega, by rw [h3], by rw [h3]⟩)
    rw [h1]
    simp only [List.getElem?_nil]
    rw [if_neg (by omega)]

set_option maxHeartbeats 2000000 in
theorem FirstBicycle_impl (LA JA : Option Addr) (lc jc : Nat) (vs : List PartT) (js : List JointT) (w : World) (hr : RdV w w.heap.size LA vs) (hr2 : Rd w w.heap.size 3 jointC JA js) (hs : SmallV vs) (hm2 : js.length ≤ 1048576) (m : Int) (hm : -9223372036854775808 ≤ m ∧ m ≤ 9223372036854775807) :
    Calls Try.prog 100 #[.slice LA vs.length lc, .slice JA js.length jc, .int .i64 m] w (GivesRes2 w w.heap.size (firstR vs js m)) := by
  have hBo := areBoth_any LA JA lc jc vs js w hr hr2 hs hm2
  have hI := within_any m 0 5000
  by_cases hb : bothB vs js = true
  · rw [hb] at hBo
    have HBo := Lib.hid hBo; clear hBo
    by_cases hi : inB m 0 5000 = true
    · rw [hi] at hI
      have HI := Lib.hid hI; clear hI
      obtain ⟨hp, hj⟩ := bothB_true hb
      have hv16 := partsB_len hp
      have HN : Hid (∀ v : World, RdV v v.heap.size LA vs → Rd v v.heap.size 3 jointC JA js → Calls Try.prog 168 #[.slice LA vs.length lc, .slice JA js.length jc] v (GivesNew v vs js)) := fun v h1 h2 => newSearch_any LA JA lc jc vs js v h1 h2 hs.1 (jointsB_in hj).1
      have HRun : Hid (∀ (W v : World) (C : SrC), C.vs = vs → C.js = js → C.ss = slotsOf js → C.most = m → C.single = true → RunSt W v C bare ⟨0, false, []⟩ none 0 [] → Calls Try.prog 169 #[.pointer (some ⟨C.b, 0, none⟩), .int .i64 0] v (RunPost W C bare (runs m true ⟨0, false, []⟩ (tr vs js)))) := fun W v C e1 e2 e3 e4 e5 h => by
        obtain ⟨k1, k2, k3⟩ := slotsOf_ok js
        have h1 := run_all W C (by rw [e1]; exact hs) (by rw [e2]; exact hj) (by rw [e3]; exact k3) (by rw [e3]; exact k1) (by rw [e3]; exact k2) C.ss 0 (by simp) (Nat.zero_le _)
        have htr : traceS C.vs C.js C.ss bare = tr vs js := by rw [e1, e2, e3]; rfl
        have hl := tr_len js hv16
        have h2 := h1 v bare ⟨0, false, []⟩ none 0 [] h (by rw [e1]; exact codes_bare hp) (fun s hsm => by rw [e3] at hsm; exact bare_emp s (k2 s hsm).1 (k2 s hsm).2) (by rw [e5]; rfl) (by simp) (by rw [htr]; simp only; omega) (by rw [htr]; simp only [List.length_nil]; omega)
        rw [htr, e4, e5] at h2
        exact h2
      have HW3 := Lib.hid (first_ways hb hi)
      clear hs hb hp hj hi hm2 hv16
      generalize firstR vs js m = R at HW3 ⊢
      generalize runs m true ⟨0, false, []⟩ (tr vs js) = F at HRun HW3
      go_enter Try.func100, Try.ntmps100
      go_wp2_with fail
      refine HBo.out.mono ?_
      rintro e w1 ⟨rfl, hb1⟩
      go_wp2_with (go_at_call 112; refine (HI.out _).mono ?_; rintro e w' ⟨rfl, rfl⟩)
      refine (HN.out w1 (hr.next hb1) (hr2.next hb1)).mono ?_
      rintro e w2 ⟨C, rfl, e1, e2, e3, e4, e5, hst⟩
      have f5 := hst.row.frozen 5
      have f7 := hst.row.frozen 7
      have c5 := hst.c5
      have c7 := hst.c7
      rw [e4] at c5
      rw [e5] at c7
      have HS2 := Lib.hid ((hst.setMost m).setSingle true)
      have hE1 := Lib.hid e1
      have hE2 := Lib.hid e2
      have hE3 := Lib.hid e3
      clear e1 e2 e3 e4 e5 hst HN
      go_wp2_with fail
      have HC := Lib.hid (HRun.out w1 _ { C with most := m, single := true } hE1.out hE2.out hE3.out rfl rfl HS2.out)
      clear c5 c7 f5 f7
      generalize (w2.setCell ⟨C.b, 5, none⟩ (.int .i64 m)).setCell ⟨C.b, 7, none⟩ (.bool true) = V at HC HS2 ⊢
      refine HC.out.mono ?_
      rintro e w3 ⟨rfl, FA, fc, ms, hst3⟩
      have HS3 := Lib.hid hst3
      have c4 := hst3.c4
      have c6 := hst3.c6
      have c8 := hst3.c8
      have hlow := bthen hb1 hst3.low
      have hvals := hst3.vals
      have hs1 := hb1.size
      simp only at c4 c6 c8
      clear hst3 HC HS2
      rcases HW3.out with ⟨b, k, hR, _, _, _, hF1, hF2⟩ | ⟨hR, _, _, hF1, hF2⟩ | ⟨hR, _, _, hF1, hF2⟩
      · have HR := Lib.hid hR; clear hR
        rw [hF1] at hvals
        rw [hF2] at c4
        obtain ⟨r, rfl⟩ : ∃ r, ms = [r] := by
          match ms, hvals with
          | [r], _ => exact ⟨r, rfl⟩
        have hrb : r.bs = b := by simpa using hvals
        have hfl := HS3.out.found.flat rowC_len
        obtain ⟨g, rfl⟩ := hfl.some (by simp)
        have q0 := hfl.cell1 (k := 0) (x := r) rfl rfl
        have hrow := (HS3.out.rows r (by simp))
        have HRw := Lib.hid hrow.1
        have hcap := hrow.2
        clear hfl hrow hvals hF1 hF2 HRun HW3
        simp only [List.length_singleton] at c8
        go_wp2_with fail
        go_quiet (fail)
        go_wp2_with fail
        go_ret3
        refine ⟨r.A, r.c, by rw [HR.out, ← hrb]; rfl, ?_, by rw [HR.out, ← hrb]; exact hcap, below_drewN hlow _⟩
        rw [HR.out, ← hrb]
        exact (HRw.out.below (below_drewN (Below.refl _ _) _) (Nat.le_refl _)).mono hs1 (Nat.le_refl _)
      · have HR := Lib.hid hR; clear hR
        rw [hF1] at hvals
        rw [hF2] at c6
        obtain rfl : ms = [] := List.map_eq_nil_iff.1 hvals
        simp only [List.length_nil] at c8
        clear hvals hF1 hF2 HRun HW3
        go_wp2_with fail
        go_ret3
        exact ⟨none, 0, by rw [HR.out]; rfl, by rw [HR.out]; exact flat_nil, by rw [HR.out]; exact Nat.le_refl _, hlow⟩
      · have HR := Lib.hid hR; clear hR
        rw [hF1] at hvals
        rw [hF2] at c6
        obtain rfl : ms = [] := List.map_eq_nil_iff.1 hvals
        simp only [List.length_nil] at c8
        clear hvals hF1 hF2 HRun HW3
        go_wp2_with fail
        go_ret3
        exact ⟨none, 0, by rw [HR.out]; rfl, by rw [HR.out]; exact flat_nil, by rw [HR.out]; exact Nat.le_refl _, hlow⟩
    · have HR : Hid (firstR vs js m = ([], 0, 2)) := by unfold Hid firstR; rw [if_pos hb, if_neg hi]
      rw [eq_false_of_ne_true hi] at hI
      have HI := Lib.hid hI; clear hI hi hb hs hm2
      generalize firstR vs js m = R at HR ⊢
      go_enter Try.func100, Try.ntmps100
      go_wp2_with fail
      refine HBo.out.mono ?_
      rintro e w1 ⟨rfl, hb1⟩
      go_wp2_with (go_at_call 112; refine (HI.out _).mono ?_; rintro e w' ⟨rfl, rfl⟩)
      go_ret3
      exact ⟨none, 0, by rw [HR.out]; rfl, by rw [HR.out]; exact flat_nil, by rw [HR.out]; exact Nat.le_refl _, hb1⟩
  · have HR : Hid (firstR vs js m = ([], 0, 1)) := by unfold Hid firstR; rw [if_neg hb]
    have hb' : bothB vs js = false := by simpa using hb
    rw [hb'] at hBo
    have HBo := Lib.hid hBo; clear hBo hb hb' hs hm2 hI
    generalize firstR vs js m = R at HR ⊢
    go_enter Try.func100, Try.ntmps100
    go_wp2_with fail
    refine HBo.out.mono ?_
    rintro e w1 ⟨rfl, hb1⟩
    go_wp2_with fail
    go_ret3
    exact ⟨none, 0, by rw [HR.out]; rfl, by rw [HR.out]; exact flat_nil, by rw [HR.out]; exact Nat.le_refl _, hb1⟩

set_option maxHeartbeats 2000000 in
theorem FirstBicycle_spec (LA JA : Option Addr) (lc jc : Nat) (vs : List PartT) (js : List JointT) (w : World) (hr : RdV w w.heap.size LA vs) (hr2 : Rd w w.heap.size 3 jointC JA js) (hs : SmallV vs) (hm2 : js.length ≤ 1048576) (m : Int) (hm : -9223372036854775808 ≤ m ∧ m ≤ 9223372036854775807) :
    Calls Try.prog 101 #[.slice LA vs.length lc, .slice JA js.length jc, .int .i64 m] w (GivesRes2 w 0 (firstR vs js m)) := by
  have hCo := l18Code_any LA JA lc jc vs js w hr hr2 hs hm2
  have hI := l01In_any m 0 5000
  by_cases hb : bothB vs js = true
  · rw [bothI_yes hb] at hCo
    have HCo := Lib.hid hCo; clear hCo
    by_cases hi : inB m 0 5000 = true
    · rw [hi] at hI
      have HI := Lib.hid hI; clear hI
      obtain ⟨hp, hj⟩ := bothB_true hb
      have hj12 := (jointsB_in hj).1
      have hmk : ∀ W : World, (Instr.makeSlice 61 (.int .i64 8) (.int .i64 8)).run Try.prog W = .ok (.slice (some ⟨W.heap.size, 0, none⟩) 8 8) (W.alloc (.cells (madeCells (Value.string ⟨#[]⟩).cells 8) 9)) := fun W => made Try.underlying61 infoString 8 (by omega) (by omega) W
      have HSl : Hid (∀ v : World, Rd v v.heap.size 3 jointC JA js → Calls Try.prog 171 #[.slice JA js.length jc] v (GivesOwn v 2 1 nC (slotsOf js))) := fun v h => l18Slots_any JA jc js v h hj12
      have HSe : Hid (∀ (v : World) (bA sA : Option Addr) (sc : Nat), (slotsOf js).length ≤ sc → RdV v v.heap.size LA vs → Rd v v.heap.size 3 jointC JA js → Flat v 0 v.heap.size 9 1 tC bA bare → Rd v v.heap.size 1 nC sA (slotsOf js) → Calls Try.prog 170 #[.slice LA vs.length lc, .slice JA js.length jc, .slice bA 8 8, .slice sA (slotsOf js).length sc] v (GivesSearch v (tr vs js))) := fun v bA sA sc h1 h2 h3 h4 h5 => by
        obtain ⟨k1, k2, k3⟩ := slotsOf_ok js
        exact search_all LA JA lc jc vs js hs hp hj (slotsOf js) k1 k2 bare (codes_bare hp) bA sA 8 sc (by decide) h1 v h2 h3 h4 h5
      have hsl8 := (slotsOf_ok js).2.2
      have hbf : ∀ W : World, Flat (W.alloc (.cells (madeCells (Value.string ⟨#[]⟩).cells 8) 9)) 0 (W.alloc (.cells (madeCells (Value.string ⟨#[]⟩).cells 8) 9)).heap.size 9 1 tC (some ⟨W.heap.size, 0, none⟩) bare := fun W => (bare_flat W).mono (Nat.zero_le _) (by simp)
      have HBF := Lib.hid hbf; clear hbf
      have HW3 := Lib.hid (first_ways hb hi)
      have hmb := inB_true hi
      have HAl : Hid (∀ ms : List RowM, ms.map RowM.bs = founds (tr vs js) → ms.map RowM.bs = allB vs js ∧ (atsOf 0 (tr vs js)).length = ms.length ∧ ms.length ≤ 131071) := fun ms h => ⟨h, rows_len h, by
        have h1 := congrArg List.length h
        rw [List.length_map] at h1
        have := allB_len js hp
        unfold allB at this
        omega⟩
      have HAb : Hid (∀ k, k ∈ atsOf 0 (tr vs js) → 0 ≤ k ∧ k ≤ 131071) := fun k hk => by
        have h1 := atsOf_bd 0 _ k hk
        have h2 := nodesOf_le (tr vs js)
        have h3 := tr_len js (partsB_len hp)
        omega
      have hnb : 0 ≤ nodesOf (tr vs js) ∧ nodesOf (tr vs js) ≤ 131071 := by
        have h1 := nodesOf_nonneg (tr vs js)
        have h2 := nodesOf_le (tr vs js)
        have h3 := tr_len js (partsB_len hp)
        omega
      clear hs hb hp hj hi hm2
      generalize firstR vs js m = R at HW3 ⊢
      go_enter Try.func101, Try.ntmps101
      go_wp2_with fail
      refine HCo.out.mono ?_
      rintro e w1 ⟨rfl, hb1⟩
      go_wp2_with (go_at_call 114; refine (HI.out _).mono ?_; rintro e w' ⟨rfl, rfl⟩)
      have hrW := hr.next hb1
      have hr2W := hr2.next hb1
      go_region_law (first
        | (go_simp; go_at_call 171; (first
            | ((with_reducible refine (HSl.out w1.drew (hr2W.next (bdrew _))).mono ?_); rintro e w3 ⟨sA, sc, rfl, fsl, hscl, hb3⟩; have HFA : True := trivial; have HB3 := Lib.hid (bthen (bdrew w1) hb3); have HFS := Lib.hid fsl.rd; clear fsl hb3)
            | (change Calls _ _ _ (w1.drew.alloc (.cells (madeCells (Value.string ⟨#[]⟩).cells 8) 9)) _; refine (HSl.out (w1.drew.alloc (.cells (madeCells (Value.string ⟨#[]⟩).cells 8) 9)) ((hr2W.next (bdrew _)).next (balloc _ _))).mono ?_; rintro e w3 ⟨sA, sc, rfl, fsl, hscl, hb3⟩; have HFA := Lib.hid (((HBF.out w1.drew).below hb3 (Nat.le_refl _)).mono (Nat.le_refl _) hb3.size); have HB3 := Lib.hid (bthen (bthen (bdrew w1) (balloc _ _)) hb3); have HFS := Lib.hid fsl.rd; clear fsl hb3)); go_wp2_with fail)
        | (go_simp; go_at_call 170; (first
            | (refine (HSe.out w3 (some ⟨w1.heap.size, 0, none⟩) sA sc hscl (hrW.next HB3.out) (hr2W.next HB3.out) HFA.out HFS.out).mono ?_; rintro e w5 ⟨RA, rc, ms, NA, nc, rfl, hms, fms, rms, fns, hb5⟩; have HB5 := Lib.hid (bthen HB3.out hb5))
            | (change Calls _ _ _ (w3.alloc (.cells (madeCells (Value.string ⟨#[]⟩).cells 8) 9)) _; refine (HSe.out (w3.alloc (.cells (madeCells (Value.string ⟨#[]⟩).cells 8) 9)) (some ⟨w3.heap.size, 0, none⟩) sA sc hscl ((hrW.next HB3.out).next (balloc _ _)) ((hr2W.next HB3.out).next (balloc _ _)) (HBF.out w3) (HFS.out.next (balloc _ _))).mono ?_; rintro e w5 ⟨RA, rc, ms, NA, nc, rfl, hms, fms, rms, fns, hb5⟩; have HB5 := Lib.hid (bthen (bthen HB3.out (balloc _ _)) hb5))); go_wp2_with fail))
      all_goals
        obtain ⟨hma, hal, hml⟩ := HAl.out ms hms
        have hlow := bthen hb1 HB5.out
        rcases HW3.out with ⟨b, k, hR, hA0, hA1, hkm, _, _⟩ | ⟨hR, hA0, hA1, _, _⟩ | ⟨hR, hA0, hA1, _, _⟩
        · have HR := Lib.hid hR; clear hR
          have hm0 : 0 < ms.length := by
            rw [← List.length_map (f := RowM.bs), hma]
            exact (List.getElem?_eq_some_iff.1 hA0).1
          have hx : ms[0]? = some ms[0] := List.getElem?_eq_getElem hm0
          have hrb : ms[0].bs = b := by
            have := congrArg (fun l => l[0]?) hma
            simp only [List.getElem?_map, hx, hA0, Option.map_some, Option.some.injEq] at this
            exact this
          obtain ⟨g, rfl⟩ := fms.some hm0
          have q0 := fms.cell1 hx rfl
          obtain ⟨g2, rfl⟩ := fns.some (by rw [hal]; exact hm0)
          have q1 := fns.cell1 hA1 rfl
          have hrow := rms ms[0] (List.mem_of_getElem? hx)
          have HRw := Lib.hid hrow.1
          have hcap := hrow.2
          generalize ms[0] = r at hrb q0 HRw hcap
          have hkb := HAb.out k (List.mem_of_getElem? hA1)
          have hbr := hlow
          clear hx hrow hma hal hA0 hA1 HW3 HAl HAb HSl HSe HBF hmk fms fns rms hms HB5 HB3 HFS HFA
          go_wp2_with fail
          go_quiet (fail)
          go_wp2_with fail
          go_ret3
          refine ⟨r.A, r.c, by rw [HR.out, ← hrb]; rfl, ?_, by rw [HR.out, ← hrb]; exact hcap, below_drewN hlow _⟩
          rw [HR.out, ← hrb]
          exact (HRw.out.below (below_drewN (Below.refl _ _) _) (Nat.le_refl _)).mono (Nat.zero_le _) (Nat.le_refl _)
        · have HR := Lib.hid hR; clear hR
          rcases hA0 with hA0 | ⟨k, hA0, hkm⟩
          · have hm0 : ms.length = 0 := by rw [← List.length_map (f := RowM.bs), hma]; exact hA0
            have hm0' : ms.length ≤ 0 := by omega
            clear hm0 hma hal hA0 HW3 HAl HAb HSl HSe HBF hmk fms fns rms hms HB5 HB3 HFS HFA
            go_wp2_with fail
            go_ret3
            exact ⟨none, 0, by rw [HR.out]; rfl, by rw [HR.out]; exact flat_nil, by rw [HR.out]; exact Nat.le_refl _, hlow⟩
          · have hm0 : 0 < ms.length := by
              rw [← hal]
              exact (List.getElem?_eq_some_iff.1 hA0).1
            obtain ⟨g2, rfl⟩ := fns.some (by rw [hal]; exact hm0)
            have q1 := fns.cell1 hA0 rfl
            have hkb := HAb.out k (List.mem_of_getElem? hA0)
            clear hma hal hA0 HW3 HAl HAb HSl HSe HBF hmk fms fns rms hms HB5 HB3 HFS HFA
            go_wp2_with fail
            go_ret3
            exact ⟨none, 0, by rw [HR.out]; rfl, by rw [HR.out]; exact flat_nil, by rw [HR.out]; exact Nat.le_refl _, hlow⟩
        · have HR := Lib.hid hR; clear hR
          have hm0 : ms.length = 0 := by rw [← List.length_map (f := RowM.bs), hma]; exact hA0
          have hm0' : ms.length ≤ 0 := by omega
          clear hm0 hma hal hA0 HW3 HAl HAb HSl HSe HBF hmk fms fns rms hms HB5 HB3 HFS HFA
          go_wp2_with fail
          go_ret3
          exact ⟨none, 0, by rw [HR.out]; rfl, by rw [HR.out]; exact flat_nil, by rw [HR.out]; exact Nat.le_refl _, hlow⟩
    · have HR : Hid (firstR vs js m = ([], 0, 2)) := by unfold Hid firstR; rw [if_pos hb, if_neg hi]
      rw [eq_false_of_ne_true hi] at hI
      have HI := Lib.hid hI; clear hI hi hb hs hm2
      generalize firstR vs js m = R at HR ⊢
      go_enter Try.func101, Try.ntmps101
      go_wp2_with fail
      refine HCo.out.mono ?_
      rintro e w1 ⟨rfl, hb1⟩
      go_wp2_with (go_at_call 114; refine (HI.out _).mono ?_; rintro e w' ⟨rfl, rfl⟩)
      go_ret3
      exact ⟨none, 0, by rw [HR.out]; rfl, by rw [HR.out]; exact flat_nil, by rw [HR.out]; exact Nat.le_refl _, hb1⟩
  · rw [bothI_no hb] at hCo
    have HCo := Lib.hid hCo; clear hCo
    have HR : Hid (firstR vs js m = ([], 0, 1)) := by unfold Hid firstR; rw [if_neg hb]
    clear hb hs hm2 hI
    generalize firstR vs js m = R at HR ⊢
    go_enter Try.func101, Try.ntmps101
    go_wp2_with fail
    refine HCo.out.mono ?_
    rintro e w1 ⟨rfl, hb1⟩
    go_wp2_with fail
    go_ret3
    exact ⟨none, 0, by rw [HR.out]; rfl, by rw [HR.out]; exact flat_nil, by rw [HR.out]; exact Nat.le_refl _, hb1⟩

end Go.Proofs.Ytpdkhmnbabccnaa
