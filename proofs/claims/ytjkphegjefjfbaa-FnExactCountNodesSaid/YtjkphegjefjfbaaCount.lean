/- DERIVED. How many bicycles, how many nodes, in the program and in the reference. By program (gcount.py). -/
import Derived.Test.YtjkphegjefjfbaaBikeS
import Derived.Deep.RegionLaw
namespace Go.Proofs.Ytjkphegjefjfbaa
set_option maxRecDepth 100000
open Go.RowKit

set_option maxHeartbeats 1000000 in
theorem CountBicycles_impl (LA JA : Option Addr) (lc jc : Nat) (vs : List PartT) (js : List JointT) (w : World) (hr : RdV w w.heap.size LA vs) (hr2 : Rd w w.heap.size 3 jointC JA js) (hs : SmallV vs) (hm2 : js.length ≤ 1048576) :
    Calls Try.prog 20 #[.slice LA vs.length lc, .slice JA js.length jc] w fun e w' => e = .returned (.tuple #[.int .i64 (countR vs js).1, .int .i64 (countR vs js).2]) ∧ Below w.heap.size w w' := by
  have hBo := areBoth_any LA JA lc jc vs js w hr hr2 hs hm2
  by_cases hb : bothB vs js = true
  · have HB : Hid (∀ v : World, RdV v v.heap.size LA vs → Rd v v.heap.size 3 jointC JA js → Calls Try.prog 70 #[.slice LA vs.length lc, .slice JA js.length jc] v (GivesRowsN v (allB vs js) (nodesOf (tr vs js)))) := fun v h1 h2 => bicycles_any LA JA lc jc vs js v h1 h2 hs hb
    have HR : Hid (countR vs js = (((allB vs js).length : Int), 0)) := by unfold Hid countR; rw [if_pos hb]
    have hl := allB_len js (bothB_true hb).1
    rw [hb] at hBo
    have HBo := Lib.hid hBo; clear hBo hb hs hm2
    generalize countR vs js = R at HR ⊢
    go_enter Try.func20, Try.ntmps20
    go_wp2_with fail
    refine HBo.out.mono ?_
    rintro e w1 ⟨rfl, hb1⟩
    go_wp2_with fail
    refine (HB.out w1 (hr.next hb1) (hr2.next hb1)).mono ?_
    rintro e w2 ⟨A, c, ms, rfl, hms, _, _, hb2⟩
    have HL : Hid (ms.length = (allB vs js).length) := by unfold Hid; rw [← hms, List.length_map]
    have hml : ms.length ≤ 131071 := by rw [HL.out]; exact hl
    clear hms hl
    go_wp2_with fail
    go_ret2
    exact ⟨by rw [HR.out, ← HL.out]; rfl, bthen hb1 hb2⟩
  · have HR : Hid (countR vs js = (0, 1)) := by unfold Hid countR; rw [if_neg hb]
    have hb' : bothB vs js = false := by simpa using hb
    rw [hb'] at hBo
    have HBo := Lib.hid hBo; clear hBo hb hb' hs hm2
    generalize countR vs js = R at HR ⊢
    go_enter Try.func20, Try.ntmps20
    go_wp2_with fail
    refine HBo.out.mono ?_
    rintro e w1 ⟨rfl, hb1⟩
    go_wp2_with fail
    go_ret2
    exact ⟨by rw [HR.out]; rfl, hb1⟩

set_option maxHeartbeats 1000000 in
theorem CountNodes_impl (LA JA : Option Addr) (lc jc : Nat) (vs : List PartT) (js : List JointT) (w : World) (hr : RdV w w.heap.size LA vs) (hr2 : Rd w w.heap.size 3 jointC JA js) (hs : SmallV vs) (hm2 : js.length ≤ 1048576) :
    Calls Try.prog 24 #[.slice LA vs.length lc, .slice JA js.length jc] w fun e w' => e = .returned (.tuple #[.int .i64 (nodesR vs js).1, .int .i64 (nodesR vs js).2]) ∧ Below w.heap.size w w' := by
  have hBo := areBoth_any LA JA lc jc vs js w hr hr2 hs hm2
  by_cases hb : bothB vs js = true
  · have HB : Hid (∀ v : World, RdV v v.heap.size LA vs → Rd v v.heap.size 3 jointC JA js → Calls Try.prog 70 #[.slice LA vs.length lc, .slice JA js.length jc] v (GivesRowsN v (allB vs js) (nodesOf (tr vs js)))) := fun v h1 h2 => bicycles_any LA JA lc jc vs js v h1 h2 hs hb
    have HR : Hid (nodesR vs js = (nodesOf (tr vs js), 0)) := by unfold Hid nodesR; rw [if_pos hb]
    have hl := allB_len js (bothB_true hb).1
    rw [hb] at hBo
    have HBo := Lib.hid hBo; clear hBo hb hs hm2
    generalize nodesR vs js = R at HR ⊢
    go_enter Try.func24, Try.ntmps24
    go_wp2_with fail
    refine HBo.out.mono ?_
    rintro e w1 ⟨rfl, hb1⟩
    go_wp2_with fail
    refine (HB.out w1 (hr.next hb1) (hr2.next hb1)).mono ?_
    rintro e w2 ⟨A, c, ms, rfl, hms, _, _, hb2⟩
    have HL : Hid (ms.length = (allB vs js).length) := by unfold Hid; rw [← hms, List.length_map]
    have hml : ms.length ≤ 131071 := by rw [HL.out]; exact hl
    clear hms hl
    go_wp2_with fail
    go_ret2
    exact ⟨by rw [HR.out]; rfl, bthen hb1 hb2⟩
  · have HR : Hid (nodesR vs js = (0, 1)) := by unfold Hid nodesR; rw [if_neg hb]
    have hb' : bothB vs js = false := by simpa using hb
    rw [hb'] at hBo
    have HBo := Lib.hid hBo; clear hBo hb hb' hs hm2
    generalize nodesR vs js = R at HR ⊢
    go_enter Try.func24, Try.ntmps24
    go_wp2_with fail
    refine HBo.out.mono ?_
    rintro e w1 ⟨rfl, hb1⟩
    go_wp2_with fail
    go_ret2
    exact ⟨by rw [HR.out]; rfl, hb1⟩

set_option maxHeartbeats 2000000 in
theorem CountBicycles_spec (LA JA : Option Addr) (lc jc : Nat) (vs : List PartT) (js : List JointT) (w : World) (hr : RdV w w.heap.size LA vs) (hr2 : Rd w w.heap.size 3 jointC JA js) (hs : SmallV vs) (hm2 : js.length ≤ 1048576) :
    Calls Try.prog 17 #[.slice LA vs.length lc, .slice JA js.length jc] w fun e w' => e = .returned (.tuple #[.int .i64 (countR vs js).1, .int .i64 (countR vs js).2]) ∧ Below w.heap.size w w' := by
  have hCo := l18Code_any LA JA lc jc vs js w hr hr2 hs hm2
  by_cases hb : bothB vs js = true
  · rw [bothI_yes hb] at hCo
    have HCo := Lib.hid hCo; clear hCo
    have HR : Hid (countR vs js = (((allB vs js).length : Int), 0)) := by unfold Hid countR; rw [if_pos hb]
    have hl := allB_len js (bothB_true hb).1
    have HB : Hid (∀ v : World, RdV v v.heap.size LA vs → Rd v v.heap.size 3 jointC JA js → Calls Try.prog 66 #[.slice LA vs.length lc, .slice JA js.length jc] v (GivesAllS v (allB vs js))) := fun v h1 h2 => l18All_any LA JA lc jc vs js v h1 h2 hs hb
    clear hb hs hm2
    generalize countR vs js = R at HR ⊢
    go_enter Try.func17, Try.ntmps17
    go_wp2_with fail
    refine HCo.out.mono ?_
    rintro e w1 ⟨rfl, hb1⟩
    go_wp2_with fail
    refine (HB.out w1 (hr.next hb1) (hr2.next hb1)).mono ?_
    rintro e w2 ⟨A, c, ms, rfl, hms, _, _, hb2⟩
    have HL : Hid (ms.length = (allB vs js).length) := by unfold Hid; rw [← hms, List.length_map]
    have hml : ms.length ≤ 131071 := by rw [HL.out]; exact hl
    clear hms hl
    go_wp2_with fail
    go_ret2
    exact ⟨by rw [HR.out, ← HL.out]; rfl, bthen hb1 hb2⟩
  · rw [bothI_no hb] at hCo
    have HCo := Lib.hid hCo; clear hCo
    have HR : Hid (countR vs js = (0, 1)) := by unfold Hid countR; rw [if_neg hb]
    clear hb hs hm2
    generalize countR vs js = R at HR ⊢
    go_enter Try.func17, Try.ntmps17
    go_wp2_with fail
    refine HCo.out.mono ?_
    rintro e w1 ⟨rfl, hb1⟩
    go_wp2_with fail
    go_ret2
    exact ⟨by rw [HR.out]; rfl, hb1⟩

set_option maxHeartbeats 2000000 in
theorem CountNodes_spec (LA JA : Option Addr) (lc jc : Nat) (vs : List PartT) (js : List JointT) (w : World) (hr : RdV w w.heap.size LA vs) (hr2 : Rd w w.heap.size 3 jointC JA js) (hs : SmallV vs) (hm2 : js.length ≤ 1048576) :
    Calls Try.prog 23 #[.slice LA vs.length lc, .slice JA js.length jc] w fun e w' => e = .returned (.tuple #[.int .i64 (nodesR vs js).1, .int .i64 (nodesR vs js).2]) ∧ Below w.heap.size w w' := by
  have hCo := l18Code_any LA JA lc jc vs js w hr hr2 hs hm2
  by_cases hb : bothB vs js = true
  · rw [bothI_yes hb] at hCo
    have HCo := Lib.hid hCo; clear hCo
    have HR : Hid (nodesR vs js = (nodesOf (tr vs js), 0)) := by unfold Hid nodesR; rw [if_pos hb]
    have hl := allB_len js (bothB_true hb).1
    obtain ⟨hp, hj⟩ := bothB_true hb
    have hj12 := (jointsB_in hj).1
    have hmk : ∀ W : World, (Instr.makeSlice 35 (.int .i64 8) (.int .i64 8)).run Try.prog W = .ok (.slice (some ⟨W.heap.size, 0, none⟩) 8 8) (W.alloc (.cells (madeCells (Value.string ⟨#[]⟩).cells 8) 9)) := fun W => made Try.underlying35 infoString 8 (by omega) (by omega) W
    have HSl : Hid (∀ v : World, Rd v v.heap.size 3 jointC JA js → Calls Try.prog 74 #[.slice JA js.length jc] v (GivesOwn v 2 1 nC (slotsOf js))) := fun v h => l18Slots_any JA jc js v h hj12
    have HSe : Hid (∀ (v : World) (bA sA : Option Addr) (sc : Nat), (slotsOf js).length ≤ sc → RdV v v.heap.size LA vs → Rd v v.heap.size 3 jointC JA js → Flat v 0 v.heap.size 9 1 tC bA bare → Rd v v.heap.size 1 nC sA (slotsOf js) → Calls Try.prog 73 #[.slice LA vs.length lc, .slice JA js.length jc, .slice bA 8 8, .slice sA (slotsOf js).length sc] v (GivesSearch v (tr vs js))) := fun v bA sA sc h1 h2 h3 h4 h5 => by
      obtain ⟨k1, k2, k3⟩ := slotsOf_ok js
      exact search_all LA JA lc jc vs js hs hp hj (slotsOf js) k1 k2 bare (codes_bare hp) bA sA 8 sc (by decide) h1 v h2 h3 h4 h5
    have hsl8 := (slotsOf_ok js).2.2
    have hbf : ∀ W : World, Flat (W.alloc (.cells (madeCells (Value.string ⟨#[]⟩).cells 8) 9)) 0 (W.alloc (.cells (madeCells (Value.string ⟨#[]⟩).cells 8) 9)).heap.size 9 1 tC (some ⟨W.heap.size, 0, none⟩) bare := fun W => (bare_flat W).mono (Nat.zero_le _) (by simp)
    have HBF := Lib.hid hbf; clear hbf
    clear hb hs hm2 hp hj
    generalize nodesR vs js = R at HR ⊢
    go_enter Try.func23, Try.ntmps23
    go_wp2_with fail
    refine HCo.out.mono ?_
    rintro e w1 ⟨rfl, hb1⟩
    go_wp2_with fail
    have hrW := hr.next hb1
    have hr2W := hr2.next hb1
    go_region_law (first
      | (go_simp; go_at_call 74; (first
          | ((with_reducible refine (HSl.out w1.drew (hr2W.next (bdrew _))).mono ?_); rintro e w3 ⟨sA, sc, rfl, fsl, hscl, hb3⟩; have HFA : True := trivial; have HB3 := Lib.hid (bthen (bdrew w1) hb3); have HFS := Lib.hid fsl.rd; clear fsl hb3)
          | (change Calls _ _ _ (w1.drew.alloc (.cells (madeCells (Value.string ⟨#[]⟩).cells 8) 9)) _; refine (HSl.out (w1.drew.alloc (.cells (madeCells (Value.string ⟨#[]⟩).cells 8) 9)) ((hr2W.next (bdrew _)).next (balloc _ _))).mono ?_; rintro e w3 ⟨sA, sc, rfl, fsl, hscl, hb3⟩; have HFA := Lib.hid (((HBF.out w1.drew).below hb3 (Nat.le_refl _)).mono (Nat.le_refl _) hb3.size); have HB3 := Lib.hid (bthen (bthen (bdrew w1) (balloc _ _)) hb3); have HFS := Lib.hid fsl.rd; clear fsl hb3)); go_wp2_with fail)
      | (go_simp; go_at_call 73; (first
          | (refine (HSe.out w3 (some ⟨w1.heap.size, 0, none⟩) sA sc hscl (hrW.next HB3.out) (hr2W.next HB3.out) HFA.out HFS.out).mono ?_; rintro e w5 ⟨RA, rc, ms, NA, nc, rfl, hms, fms, rms, fns, hb5⟩; have HB5 := Lib.hid (bthen HB3.out hb5))
          | (change Calls _ _ _ (w3.alloc (.cells (madeCells (Value.string ⟨#[]⟩).cells 8) 9)) _; refine (HSe.out (w3.alloc (.cells (madeCells (Value.string ⟨#[]⟩).cells 8) 9)) (some ⟨w3.heap.size, 0, none⟩) sA sc hscl ((hrW.next HB3.out).next (balloc _ _)) ((hr2W.next HB3.out).next (balloc _ _)) (HBF.out w3) (HFS.out.next (balloc _ _))).mono ?_; rintro e w5 ⟨RA, rc, ms, NA, nc, rfl, hms, fms, rms, fns, hb5⟩; have HB5 := Lib.hid (bthen (bthen HB3.out (balloc _ _)) hb5))); go_wp2_with fail))
    all_goals
      go_wp2_with fail
      go_ret2
      exact ⟨by rw [HR.out]; rfl, bthen hb1 HB5.out⟩
  · rw [bothI_no hb] at hCo
    have HCo := Lib.hid hCo; clear hCo
    have HR : Hid (nodesR vs js = (0, 1)) := by unfold Hid nodesR; rw [if_neg hb]
    clear hb hs hm2
    generalize nodesR vs js = R at HR ⊢
    go_enter Try.func23, Try.ntmps23
    go_wp2_with fail
    refine HCo.out.mono ?_
    rintro e w1 ⟨rfl, hb1⟩
    go_wp2_with fail
    go_ret2
    exact ⟨by rw [HR.out]; rfl, hb1⟩

end Go.Proofs.Ytjkphegjefjfbaa
