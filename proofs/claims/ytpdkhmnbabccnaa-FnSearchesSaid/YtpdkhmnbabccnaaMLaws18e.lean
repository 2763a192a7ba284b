/- DERIVED. The law on searches: the first bicycle is found with as many nodes as it takes, and not with one less. By program (laws18e.py). -/
import Derived.Test.YtpdkhmnbabccnaaBikeS
import Derived.Test.YtpdkhmnbabccnaaJList
import Derived.Test.YtpdkhmnbabccnaaSrch
import Derived.Test.YtpdkhmnbabccnaaDraw4
import Derived.Test.YtpdkhmnbabccnaaOwn3
import Derived.Test.YtpdkhmnbabccnaaDraw5
import Derived.Test.YtpdkhmnbabccnaaPartV
import Derived.Test.YtpdkhmnbabccnaaOwn2
import Derived.Test.YtpdkhmnbabccnaaKitPart
import Derived.Test.YtpdkhmnbabccnaaFind
import Derived.Test.YtpdkhmnbabccnaaIdx
import Derived.Test.YtpdkhmnbabccnaaFlJoint
import Derived.Test.YtpdkhmnbabccnaaSl
import Derived.Test.YtpdkhmnbabccnaaDraw
import Derived.Test.YtpdkhmnbabccnaaOpen
import Derived.Test.YtpdkhmnbabccnaaHead
import Derived.Test.YtpdkhmnbabccnaaFirst
import Derived.Deep.RegionLaw
import Derived.Deep.RegionHeld3
import Derived.Lib.SmallJoins
import Derived.Deep.Slices
import Derived.Deep.Fields
import Derived.ChangeMaps5
import Derived.Carry

namespace Go.Proofs.Ytpdkhmnbabccnaa
set_option maxRecDepth 100000
open Go.RowKit

set_option maxHeartbeats 1000000 in
theorem CountBicycles_impl (LA JA : Option Addr) (lc jc : Nat) (vs : List PartT) (js : List JointT) (w : World) (hr : RdV w w.heap.size LA vs) (hr2 : Rd w w.heap.size 3 jointC JA js) (hs : SmallV vs) (hm2 : js.length ≤ 1048576) :
    Calls Try.prog 102 #[.slice LA vs.length lc, .slice JA js.length jc] w fun e w' => e = .returned (.tuple #[.int .i64 (countR vs js).1, .int .i64 (countR vs js).2]) ∧ Below w.heap.size w w' := by
  have hBo := areBoth_any LA JA lc jc vs js w hr hr2 hs hm2
  by_cases hb : bothB vs js = true
  · have HB : Hid (∀ v : World, RdV v v.heap.size LA vs → Rd v v.heap.size 3 jointC JA js → Calls Try.prog 159 #[.slice LA vs.length lc, .slice JA js.length jc] v (GivesRowsN v (allB vs js) (nodesOf (tr vs js)))) := fun v h1 h2 => bicycles_any LA JA lc jc vs js v h1 h2 hs hb
    have HR : Hid (countR vs js = (((allB vs js).length : Int), 0)) := by unfold Hid countR; rw [if_pos hb]
    have hl := allB_len js (bothB_true hb).1
    rw [hb] at hBo
    have HBo := Lib.hid hBo; clear hBo hb hs hm2
    generalize countR vs js = R at HR ⊢
    go_enter Try.func102, Try.ntmps102
    go_wp2_with fail
    refine HBo.out.mono ?_
    rintro e w1 ⟨rfl, hb1⟩
    go_wp2_with fail
    refine (HB.out w1 (hr.next hb1) (hr2.next hb1)).mono ?_
    rintro e w2 ⟨A, c, ms, rfl, hms, _, _, hb2⟩
    have HL : Hid (ms.length = (allB vs js).length) := by unfold Hid; rw [← hms, List.length_map]
    have hml : ms.length ≤ 131071 := by rw [HL.out]; exact hl
    clear hms hl
    go_wp2_with fail
    go_ret2
    exact ⟨by rw [HR.out, ← HL.out]; rfl, bthen hb1 hb2⟩
  · have HR : Hid (countR vs js = (0, 1)) := by unfold Hid countR; rw [if_neg hb]
    have hb' : bothB vs js = false := by simpa using hb
    rw [hb'] at hBo
    have HBo := Lib.hid hBo; clear hBo hb hb' hs hm2
    generalize countR vs js = R at HR ⊢
    go_enter Try.func102, Try.ntmps102
    go_wp2_with fail
    refine HBo.out.mono ?_
    rintro e w1 ⟨rfl, hb1⟩
    go_wp2_with fail
    go_ret2
    exact ⟨by rw [HR.out]; rfl, hb1⟩

set_option maxHeartbeats 1000000 in
theorem CountNodes_impl (LA JA : Option Addr) (lc jc : Nat) (vs : List PartT) (js : List JointT) (w : World) (hr : RdV w w.heap.size LA vs) (hr2 : Rd w w.heap.size 3 jointC JA js) (hs : SmallV vs) (hm2 : js.length ≤ 1048576) :
    Calls Try.prog 104 #[.slice LA vs.length lc, .slice JA js.length jc] w fun e w' => e = .returned (.tuple #[.int .i64 (nodesR vs js).1, .int .i64 (nodesR vs js).2]) ∧ Below w.heap.size w w' := by
  have hBo := areBoth_any LA JA lc jc vs js w hr hr2 hs hm2
  by_cases hb : bothB vs js = true
  · have HB : Hid (∀ v : World, RdV v v.heap.size LA vs → Rd v v.heap.size 3 jointC JA js → Calls Try.prog 159 #[.slice LA vs.length lc, .slice JA js.length jc] v (GivesRowsN v (allB vs js) (nodesOf (tr vs js)))) := fun v h1 h2 => bicycles_any LA JA lc jc vs js v h1 h2 hs hb
    have HR : Hid (nodesR vs js = (nodesOf (tr vs js), 0)) := by unfold Hid nodesR; rw [if_pos hb]
    have hl := allB_len js (bothB_true hb).1
    rw [hb] at hBo
    have HBo := Lib.hid hBo; clear hBo hb hs hm2
    generalize nodesR vs js = R at HR ⊢
    go_enter Try.func104, Try.ntmps104
    go_wp2_with fail
    refine HBo.out.mono ?_
    rintro e w1 ⟨rfl, hb1⟩
    go_wp2_with fail
    refine (HB.out w1 (hr.next hb1) (hr2.next hb1)).mono ?_
    rintro e w2 ⟨A, c, ms, rfl, hms, _, _, hb2⟩
    have HL : Hid (ms.length = (allB vs js).length) := by unfold Hid; rw [← hms, List.length_map]
    have hml : ms.length ≤ 131071 := by rw [HL.out]; exact hl
    clear hms hl
    go_wp2_with fail
    go_ret2
    exact ⟨by rw [HR.out]; rfl, bthen hb1 hb2⟩
  · have HR : Hid (nodesR vs js = (0, 1)) := by unfold Hid nodesR; rw [if_neg hb]
    have hb' : bothB vs js = false := by simpa using hb
    rw [hb'] at hBo
    have HBo := Lib.hid hBo; clear hBo hb hb' hs hm2
    generalize nodesR vs js = R at HR ⊢
    go_enter Try.func104, Try.ntmps104
    go_wp2_with fail
    refine HBo.out.mono ?_
    rintro e w1 ⟨rfl, hb1⟩
    go_wp2_with fail
    go_ret2
    exact ⟨by rw [HR.out]; rfl, hb1⟩

set_option maxHeartbeats 2000000 in
theorem CountBicycles_spec (LA JA : Option Addr) (lc jc : Nat) (vs : List PartT) (js : List JointT) (w : World) (hr : RdV w w.heap.size LA vs) (hr2 : Rd w w.heap.size 3 jointC JA js) (hs : SmallV vs) (hm2 : js.length ≤ 1048576) :
    Calls Try.prog 103 #[.slice LA vs.length lc, .slice JA js.length jc] w fun e w' => e = .returned (.tuple #[.int .i64 (countR vs js).1, .int .i64 (countR vs js).2]) ∧ Below w.heap.size w w' := by
  have hCo := l18Code_any LA JA lc jc vs js w hr hr2 hs hm2
  by_cases hb : bothB vs js = true
  · rw [bothI_yes hb] at hCo
    have HCo := Lib.hid hCo; clear hCo
    have HR : Hid (countR vs js = (((allB vs js).length : Int), 0)) := by unfold Hid countR; rw [if_pos hb]
    have hl := allB_len js (bothB_true hb).1
    have HB : Hid (∀ v : World, RdV v v.heap.size LA vs → Rd v v.heap.size 3 jointC JA js → Calls Try.prog 155 #[.slice LA vs.length lc, .slice JA js.length jc] v (GivesAllS v (allB vs js))) := fun v h1 h2 => l18All_any LA JA lc jc vs js v h1 h2 hs hb
    clear hb hs hm2
    generalize countR vs js = R at HR ⊢
    go_enter Try.func103, Try.ntmps103
    go_wp2_with fail
    refine HCo.out.mono ?_
    rintro e w1 ⟨rfl, hb1⟩
    go_wp2_with fail
    refine (HB.out w1 (hr.next hb1) (hr2.next hb1)).mono ?_
    rintro e w2 ⟨A, c, ms, rfl, hms, _, _, hb2⟩
    have HL : Hid (ms.length = (allB vs js).length) := by unfold Hid; rw [← hms, List.length_map]
    have hml : ms.length ≤ 131071 := by rw [HL.out]; exact hl
    clear hms hl
    go_wp2_with fail
    go_ret2
    exact ⟨by rw [HR.out, ← HL.out]; rfl, bthen hb1 hb2⟩
  · rw [bothI_no hb] at hCo
    have HCo := Lib.hid hCo; clear hCo
    have HR : Hid (countR vs js = (0, 1)) := by unfold Hid countR; rw [if_neg hb]
    clear hb hs hm2
    generalize countR vs js = R at HR ⊢
    go_enter Try.func103, Try.ntmps103
    go_wp2_with fail
    refine HCo.out.mono ?_
    rintro e w1 ⟨rfl, hb1⟩
    go_wp2_with fail
    go_ret2
    exact ⟨by rw [HR.out]; rfl, hb1⟩

set_option maxHeartbeats 2000000 in
theorem CountNodes_spec (LA JA : Option Addr) (lc jc : Nat) (vs : List PartT) (js : List JointT) (w : World) (hr : RdV w w.heap.size LA vs) (hr2 : Rd w w.heap.size 3 jointC JA js) (hs : SmallV vs) (hm2 : js.length ≤ 1048576) :
    Calls Try.prog 105 #[.slice LA vs.length lc, .slice JA js.length jc] w fun e w' => e = .returned (.tuple #[.int .i64 (nodesR vs js).1, .int .i64 (nodesR vs js).2]) ∧ Below w.heap.size w w' := by
  have hCo := l18Code_any LA JA lc jc vs js w hr hr2 hs hm2
  by_cases hb : bothB vs js = true
  · rw [bothI_yes hb] at hCo
    have HCo := Lib.hid hCo; clear hCo
    have HR : Hid (nodesR vs js = (nodesOf (tr vs js), 0)) := by unfold Hid nodesR; rw [if_pos hb]
    have hl := allB_len js (bothB_true hb).1
    obtain ⟨hp, hj⟩ := bothB_true hb
    have hj12 := (jointsB_in hj).1
    have hmk : ∀ W : World, (Instr.makeSlice 61 (.int .i64 8) (.int .i64 8)).run Try.prog W = .ok (.slice (some ⟨W.heap.size, 0, none⟩) 8 8) (W.alloc (.cells (madeCells (Value.string ⟨#[]⟩).cells 8) 9)) := fun W => made Try.underlying61 infoString 8 (by omega) (by omega) W
    have HSl : Hid (∀ v : World, Rd v v.heap.size 3 jointC JA js → Calls Try.prog 171 #[.slice JA js.length jc] v (GivesOwn v 2 1 nC (slotsOf js))) := fun v h => l18Slots_any JA jc js v h hj12
    have HSe : Hid (∀ (v : World) (bA sA : Option Addr) (sc : Nat), (slotsOf js).length ≤ sc → RdV v v.heap.size LA vs → Rd v v.heap.size 3 jointC JA js → Flat v 0 v.heap.size 9 1 tC bA bare → Rd v v.heap.size 1 nC sA (slotsOf js) → Calls Try.prog 170 #[.slice LA vs.length lc, .slice JA js.length jc, .slice bA 8 8, .slice sA (slotsOf js).length sc] v (GivesSearch v (tr vs js))) := fun v bA sA sc h1 h2 h3 h4 h5 => by
      obtain ⟨k1, k2, k3⟩ := slotsOf_ok js
      exact search_all LA JA lc jc vs js hs hp hj (slotsOf js) k1 k2 bare (codes_bare hp) bA sA 8 sc (by decide) h1 v h2 h3 h4 h5
    have hsl8 := (slotsOf_ok js).2.2
    have hbf : ∀ W : World, Flat (W.alloc (.cells (madeCells (Value.string ⟨#[]⟩).cells 8) 9)) 0 (W.alloc (.cells (madeCells (Value.string ⟨#[]⟩).cells 8) 9)).heap.size 9 1 tC (some ⟨W.heap.size, 0, none⟩) bare := fun W => (bare_flat W).mono (Nat.zero_le _) (by simp)
    have HBF := Lib.hid hbf; clear hbf
    clear hb hs hm2 hp hj
    generalize nodesR vs js = R at HR ⊢
    go_enter Try.func105, Try.ntmps105
    go_wp2_with fail
    refine HCo.out.mono ?_
    rintro e w1 ⟨rfl, hb1⟩
    go_wp2_with fail
    have hrW := hr.next hb1
    have hr2W := hr2.next hb1
    go_region_law (first
      | (go_simp; go_at_call 171; (first
          | ((with_reducible refine (HSl.out w1.drew (hr2W.next (bdrew _))).mono ?_); rintro e w3 ⟨sA, sc, rfl, fsl, hscl, hb3⟩; have HFA : True := trivial; have HB3 := Lib.hid (bthen (bdrew w1) hb3); have HFS := Lib.hid fsl.rd; clear fsl hb3)
          | (change Calls _ _ _ (w1.drew.alloc (.cells (madeCells (Value.string ⟨#[]⟩).cells 8) 9)) _; refine (HSl.out (w1.drew.alloc (.cells (madeCells (Value.string ⟨#[]⟩).cells 8) 9)) ((hr2W.next (bdrew _)).next (balloc _ _))).mono ?_; rintro e w3 ⟨sA, sc, rfl, fsl, hscl, hb3⟩; have HFA := Lib.hid (((HBF.out w1.drew).below hb3 (Nat.le_refl _)).mono (Nat.le_refl _) hb3.size); have HB3 := Lib.hid (bthen (bthen (bdrew w1) (balloc _ _)) hb3); have HFS := Lib.hid fsl.rd; clear fsl hb3)); go_wp2_with fail)
      | (go_simp; go_at_call 170; (first
          | (refine (HSe.out w3 (some ⟨w1.heap.size, 0, none⟩) sA sc hscl (hrW.next HB3.out) (hr2W.next HB3.out) HFA.out HFS.out).mono ?_; rintro e w5 ⟨RA, rc, ms, NA, nc, rfl, hms, fms, rms, fns, hb5⟩; have HB5 := Lib.hid (bthen HB3.out hb5))
          | (change Calls _ _ _ (w3.alloc (.cells (madeCells (Value.string ⟨#[]⟩).cells 8) 9)) _; refine (HSe.out (w3.alloc (.cells (madeCells (Value.string ⟨#[]⟩).cells 8) 9)) (some ⟨w3.heap.size, 0, none⟩) sA sc hscl ((hrW.next HB3.out).next (balloc _ _)) ((hr2W.next HB3.out).next (balloc _ _)) (HBF.out w3) (HFS.out.next (balloc _ _))).mono ?_; rintro e w5 ⟨RA, rc, ms, NA, nc, rfl, hms, fms, rms, fns, hb5⟩; have HB5 := Lib.hid (bthen (bthen HB3.out (balloc _ _)) hb5))); go_wp2_with fail))
    all_goals
      go_wp2_with fail
      go_ret2
      exact ⟨by rw [HR.out]; rfl, bthen hb1 HB5.out⟩
  · rw [bothI_no hb] at hCo
    have HCo := Lib.hid hCo; clear hCo
    have HR : Hid (nodesR vs js = (0, 1)) := by unfold Hid nodesR; rw [if_neg hb]
    clear hb hs hm2
    generalize nodesR vs js = R at HR ⊢
    go_enter Try.func105, Try.ntmps105
    go_wp2_with fail
    refine HCo.out.mono ?_
    rintro e w1 ⟨rfl, hb1⟩
    go_wp2_with fail
    go_ret2
    exact ⟨by rw [HR.out]; rfl, hb1⟩

end Go.Proofs.Ytpdkhmnbabccnaa

namespace Go.Proofs.Ytpdkhmnbabccnaa
set_option maxRecDepth 100000
open Go.RowKit

theorem idxTo_full {α : Type} (p : α → Bool) (xs : List α) : ∀ k, k ≤ xs.length → ((idxTo p xs k).length = k ↔ ∀ (j : Nat) (x : α), j < k → xs[j]? = some x → p x = true)
  | 0, _ => by simp [idxTo]
  | k + 1, h => by
    have ih := idxTo_full p xs k (by omega)
    have hle := idxTo_le p xs k
    have hx : xs[k]? = some (xs[k]'(by omega)) := List.getElem?_eq_getElem (by omega)
    cases hp : p (xs[k]'(by omega)) with
    | true =>
      rw [idxTo_yes hx hp]
      simp only [List.length_append, List.length_singleton]
      constructor
      · intro he j x hj hxj
        by_cases e : j = k
        · subst e
          rw [hx] at hxj
          rw [← Option.some.inj hxj]
          exact hp
        · exact ih.1 (by omega) j x (by omega) hxj
      · intro hall
        rw [ih.2 fun j x hj hxj => hall j x (by omega) hxj]
    | false =>
      rw [idxTo_no hx hp]
      constructor
      · intro he
        omega
      · intro hall
        have := hall k _ (by omega) hx
        rw [hp] at this
        cases this
def soundB (vs : List PartT) (js : List JointT) (bs : List ByteArray) : Bool := js.all (isState vs bs 2)
theorem soundB_len (vs : List PartT) (js : List JointT) (bs : List ByteArray) : soundB vs js bs = decide ((idxTo (isState vs bs 2) js js.length).length = js.length) := by
  rw [Bool.eq_iff_iff]
  unfold soundB
  rw [List.all_eq_true, decide_eq_true_eq, idxTo_full _ _ _ (Nat.le_refl _)]
  constructor
  · intro h j x _ hx
    exact h x (List.mem_of_getElem? hx)
  · intro h x hx
    obtain ⟨j, hj⟩ := List.mem_iff_getElem?.1 hx
    exact h j x (List.getElem?_eq_some_iff.1 hj).1 hj
theorem soundB_false {vs : List PartT} {js : List JointT} {bs : List ByteArray} {k : Nat} {t : JointT} (hx : js[k]? = some t) (h : isState vs bs 2 t = false) : soundB vs js bs = false := by
  unfold soundB
  rw [List.all_eq_false]
  exact ⟨t, List.mem_of_getElem? hx, by simp [h]⟩
theorem soundB_true {vs : List PartT} {js : List JointT} {bs : List ByteArray} (h : ∀ j t, j < js.length → js[j]? = some t → isState vs bs 2 t = true) : soundB vs js bs = true := by
  unfold soundB
  rw [List.all_eq_true]
  intro x hx
  obtain ⟨j, hj⟩ := List.mem_iff_getElem?.1 hx
  exact h j x (List.getElem?_eq_some_iff.1 hj).1 hj

set_option maxHeartbeats 1000000 in
theorem isSound_any (A A2 A' : Option Addr) (c c2 c' : Nat) (vs : List PartT) (js : List JointT) (bs : List ByteArray) (w : World) (hr : RdV w w.heap.size A vs) (hr2 : Rd w w.heap.size 3 jointC A2 js) (hr' : Rd w w.heap.size 1 tC A' bs) (hs : SmallV vs) (hm2 : js.length ≤ 1048576) (hC : Codes vs bs) (hj : ∀ j ∈ js, SlotsIn j) :
    Calls Try.prog 150 #[.slice A vs.length c, .slice A2 js.length c2, .slice A' bs.length c'] w fun e w' => e = .returned (.bool (soundB vs js bs)) ∧ Below w.heap.size w w' := by
  have HO : Hid (∀ (v : World) (t : JointT), Rd v v.heap.size 1 tC A' bs → SlotsIn t → Calls Try.prog 149 #[.slice A' bs.length c', .agg #[.int .i64 t.1, .int .i64 t.2.1, .int .i64 t.2.2]] v fun e w' => e = .returned (.bool (openB vs bs t)) ∧ Below v.heap.size v w') := fun v t h2 h3 => by have h4 := isOpen_any A' c' bs t v h2 hC.len h3; rwa [← openB_eq hC h3] at h4
  have HK : Hid (∀ (v : World) (t : JointT), RdV v v.heap.size A vs → Rd v v.heap.size 1 tC A' bs → SlotsIn t → Calls Try.prog 147 #[.slice A vs.length c, .slice A' bs.length c', .agg #[.int .i64 t.1, .int .i64 t.2.1, .int .i64 t.2.2]] v fun e w' => e = .returned (.bool (brokenB vs bs t)) ∧ Below v.heap.size v w') := fun v t h1 h2 h3 => isBroken_any A A' c c' vs bs t v h1 h2 hs hC h3
  have HJ := Lib.hid hj; clear hj hs hC
  go_enter Try.func150, Try.ntmps150
  go_wp2_with fail
  go_loopw [11] (fun i wr => ∃ k : Nat, k ≤ js.length ∧ i = .int .i64 k ∧ Below w.heap.size w wr ∧ ∀ j t, j < k → js[j]? = some t → isState vs bs 2 t = true) (fun i _ => js.length - (intOf i).toNat)
  case atStart => exact ⟨0, Nat.zero_le _, rfl, Below.refl _ _, fun j t hj => by omega⟩
  case round =>
    obtain ⟨k, hk, rfl, hb, hall⟩ := hrel
    have Ha := Lib.hid hall; clear hall
    by_cases hlt : k < js.length
    · have hx : js[k]? = some js[k] := List.getElem?_eq_getElem hlt
      obtain ⟨b2, o2, rfl, hB2, q0, q1, q2⟩ := (hr2.below hb).at3 hx rfl
      have hsl := HJ.out _ (List.mem_of_getElem? hx)
      generalize js[k] = t at q0 q1 q2 hx hsl
      have Hx := Lib.hid hx; clear hx
      have HOt : Hid (∀ v : World, Rd v v.heap.size 1 tC A' bs → Calls Try.prog 149 #[.slice A' bs.length c', .agg #[.int .i64 t.1, .int .i64 t.2.1, .int .i64 t.2.2]] v fun e w' => e = .returned (.bool (openB vs bs t)) ∧ Below v.heap.size v w') := fun v h2 => HO.out v t h2 hsl
      have HKt : Hid (∀ v : World, RdV v v.heap.size A vs → Rd v v.heap.size 1 tC A' bs → Calls Try.prog 147 #[.slice A vs.length c, .slice A' bs.length c', .agg #[.int .i64 t.1, .int .i64 t.2.1, .int .i64 t.2.2]] v fun e w' => e = .returned (.bool (brokenB vs bs t)) ∧ Below v.heap.size v w') := fun v h1 h2 => HK.out v t h1 h2 hsl
      have HB := Lib.hid (stateJ_bd vs bs t)
      have E0 : Hid (openB vs bs t = decide (stateJ vs bs t = 0)) := rfl
      have E1 : Hid (brokenB vs bs t = decide (stateJ vs bs t = 1)) := rfl
      have E2 : Hid (isState vs bs 2 t = decide (stateJ vs bs t = 2)) := rfl
      have HFs : Hid (isState vs bs 2 t = false → soundB vs js bs = false) := fun h => soundB_false Hx.out h
      have HNs : Hid (isState vs bs 2 t = true → ∀ j y, j < k + 1 → js[j]? = some y → isState vs bs 2 y = true) := fun h j y hj hy => by
        by_cases e : j = k
        · subst e
          have := Hx.out
          rw [hy] at this
          rw [Option.some.inj this]
          exact h
        · exact Ha.out j y (by omega) hy
      generalize stateJ vs bs t = sj at HB E0 E1 E2
      generalize isState vs bs 2 t = s2 at E2 HFs HNs
      generalize openB vs bs t = ob at HOt E0
      generalize brokenB vs bs t = bb at HKt E1
      go_wp2_with fail
      have f0 : (wr.alloc (.cells #[.int .i64 t.1, .int .i64 t.2.1, .int .i64 t.2.2] 83)).cell? ⟨wr.heap.size, 0, none⟩ = some (.int .i64 t.1) := by go_simp
      have f1 : (wr.alloc (.cells #[.int .i64 t.1, .int .i64 t.2.1, .int .i64 t.2.2] 83)).cell? ⟨wr.heap.size, 1, none⟩ = some (.int .i64 t.2.1) := by go_simp
      have f2 : (wr.alloc (.cells #[.int .i64 t.1, .int .i64 t.2.1, .int .i64 t.2.2] 83)).cell? ⟨wr.heap.size, 2, none⟩ = some (.int .i64 t.2.2) := by go_simp
      have hbV := hb.alloc hb.size (.cells #[.int .i64 t.1, .int .i64 t.2.1, .int .i64 t.2.2] 83)
      generalize wr.alloc (.cells #[.int .i64 t.1, .int .i64 t.2.1, .int .i64 t.2.2] 83) = U at f0 f1 f2 hbV ⊢
      generalize wr.heap.size = gx at f0 f1 f2 ⊢
      clear q0 q1 q2 hb
      refine (HOt.out _ (hr'.next hbV)).mono ?_
      rintro e w3 ⟨rfl, hb3⟩
      have hbb := bthen hbV hb3
      have e0 := (hb3.cell (p := ⟨gx, 0, none⟩) (World.block_lt_of_cell? U _ f0)).trans f0
      have e1 := (hb3.cell (p := ⟨gx, 1, none⟩) (World.block_lt_of_cell? U _ f1)).trans f1
      have e2 := (hb3.cell (p := ⟨gx, 2, none⟩) (World.block_lt_of_cell? U _ f2)).trans f2
      clear f0 f1 f2
      cases ob
      case true =>
        have HR : Hid (soundB vs js bs = false) := HFs.out (by
          rw [E2.out]
          have := of_decide_eq_true E0.out.symm
          exact decide_eq_false (by omega))
        go_wp2_with fail
        go_ret
        exact ⟨ret_bool HR.out.symm, hbb⟩
      case false =>
        go_wp2_with fail
        refine (HKt.out _ (hr.next hbb) (hr'.next hbb)).mono ?_
        rintro e w4 ⟨rfl, hb4⟩
        clear e0 e1 e2
        cases bb
        case true =>
          have HR : Hid (soundB vs js bs = false) := HFs.out (by
            rw [E2.out]
            have := of_decide_eq_true E1.out.symm
            exact decide_eq_false (by omega))
          go_wp2_with fail
          go_ret
          exact ⟨ret_bool HR.out.symm, bthen hbb hb4⟩
        case false =>
          have HR : Hid (∀ j y, j < k + 1 → js[j]? = some y → isState vs bs 2 y = true) := HNs.out (by
            rw [E2.out]
            have h0 := of_decide_eq_false E0.out.symm
            have h1 := of_decide_eq_false E1.out.symm
            have := HB.out
            exact decide_eq_true (by omega))
          go_wp2_with fail
          exact ⟨⟨k + 1, by omega, by go_num, bthen hbb hb4, HR.out⟩, by simp [intOf]; omega⟩
    · have HR : Hid (soundB vs js bs = true) := soundB_true fun j t hj hx => Ha.out j t (by omega) hx
      go_wp2_with fail
      go_ret
      exact ⟨ret_bool HR.out.symm, hb⟩

def soundR (vs : List PartT) (js : List JointT) (bs : List ByteArray) : Bool × Int := if jointsB js = true then (if buildB vs bs = true then (soundB vs js bs, 0) else (false, 1)) else (false, 1)
theorem IsSound_impl (A A2 A' : Option Addr) (c c2 c' : Nat) (vs : List PartT) (js : List JointT) (bs : List ByteArray) (w : World) (hr : RdV w w.heap.size A vs) (hr2 : Rd w w.heap.size 3 jointC A2 js) (hr' : Rd w w.heap.size 1 tC A' bs) (hs : SmallV vs) (hm2 : js.length ≤ 1048576) (hm' : bs.length ≤ 1048576) :
    Calls Try.prog 63 #[.slice A vs.length c, .slice A2 js.length c2, .slice A' bs.length c'] w fun e w' => e = .returned (.tuple #[.bool (soundR vs js bs).1, .int .i64 (soundR vs js bs).2]) ∧ Below w.heap.size w w' := by
  have hJ := areJoints_impl A2 c2 js w hr2 hm2
  have HB : Hid (∀ v : World, RdV v v.heap.size A vs → Rd v v.heap.size 1 tC A' bs → Calls Try.prog 57 #[.slice A vs.length c, .slice A' bs.length c'] v fun e w' => e = .returned (.bool (buildB vs bs)) ∧ Below v.heap.size v w') := fun v h1 h2 => isBuild_impl A A' c c' vs bs v h1 h2 hs hm'
  have HS : Hid (jointsB js = true → buildB vs bs = true → ∀ v : World, RdV v v.heap.size A vs → Rd v v.heap.size 3 jointC A2 js → Rd v v.heap.size 1 tC A' bs → Calls Try.prog 150 #[.slice A vs.length c, .slice A2 js.length c2, .slice A' bs.length c'] v fun e w' => e = .returned (.bool (soundB vs js bs)) ∧ Below v.heap.size v w') := fun h1 h2 v h3 h4 h5 => isSound_any A A2 A' c c2 c' vs js bs v h3 h4 h5 hs hm2 (buildB_codes h2).1 (jointsB_in h1).2
  have HR : Hid (soundR vs js bs = if jointsB js = true then (if buildB vs bs = true then (soundB vs js bs, 0) else (false, 1)) else (false, 1)) := rfl
  generalize soundR vs js bs = R at HR ⊢
  generalize jointsB js = bj at hJ HR HS
  generalize buildB vs bs = bb at HB HR HS
  generalize soundB vs js bs = sb at HR HS
  have HJ := Lib.hid hJ; clear hJ
  go_enter Try.func63, Try.ntmps63
  go_wp2_with fail
  refine HJ.out.mono ?_
  rintro e w1 ⟨rfl, hb1⟩
  cases bj
  case false =>
    go_wp2_with fail
    go_ret2
    exact ⟨by rw [HR.out]; rfl, hb1⟩
  case true =>
    go_wp2_with fail
    refine (HB.out w1 (hr.next hb1) (hr'.next hb1)).mono ?_
    rintro e w2 ⟨rfl, hb2⟩
    have hb12 := bthen hb1 hb2
    cases bb
    case false =>
      go_wp2_with fail
      go_ret2
      exact ⟨by rw [HR.out]; rfl, hb12⟩
    case true =>
      go_wp2_with fail
      refine (HS.out (by trivial) (by trivial) w2 (hr.next hb12) (hr2.next hb12) (hr'.next hb12)).mono ?_
      rintro e w3 ⟨rfl, hb3⟩
      go_wp2_with fail
      go_ret2
      exact ⟨by rw [HR.out]; rfl, bthen hb12 hb3⟩
theorem IsSound_spec (A A2 A' : Option Addr) (c c2 c' : Nat) (vs : List PartT) (js : List JointT) (bs : List ByteArray) (w : World) (hr : RdV w w.heap.size A vs) (hr2 : Rd w w.heap.size 3 jointC A2 js) (hr' : Rd w w.heap.size 1 tC A' bs) (hs : SmallV vs) (hm2 : js.length ≤ 1048576) (hm' : bs.length ≤ 1048576) :
    Calls Try.prog 64 #[.slice A vs.length c, .slice A2 js.length c2, .slice A' bs.length c'] w fun e w' => e = .returned (.tuple #[.bool (soundR vs js bs).1, .int .i64 (soundR vs js bs).2]) ∧ Below w.heap.size w w' := by
  have hJ := l17Code_any A A2 A' c c2 c' vs js bs 0 w hr hr2 hr' hs hm2 hm'
  have hz := codeL_zero vs js bs
  by_cases hg : jointsB js = true ∧ buildB vs bs = true
  · obtain ⟨hj, hB⟩ := hg
    have HF : Hid (soundR vs js bs = (soundB vs js bs, 0)) := by unfold Hid soundR; rw [if_pos hj, if_pos hB]
    have HL : Hid (∀ v : World, RdV v v.heap.size A vs → Rd v v.heap.size 3 jointC A2 js → Rd v v.heap.size 1 tC A' bs → Calls Try.prog 148 #[.slice A vs.length c, .slice A2 js.length c2, .slice A' bs.length c', .int .i64 2] v (GivesOwn v 2 1 nC (idxTo (isState vs bs 2) js js.length))) := fun v h1 h2 h3 => l17Joints_any A A2 A' c c2 c' vs js bs 2 v h1 h2 h3 hs hm2 (buildB_codes hB).1 (jointsB_in hj).2
    have HE : Hid (soundB vs js bs = decide ((idxTo (isState vs bs 2) js js.length).length = js.length)) := soundB_len vs js bs
    have hle := idxTo_le (isState vs bs 2) js js.length
    rw [hz, if_pos ⟨hj, hB⟩] at hJ
    have HJ := Lib.hid hJ; clear hJ hj hB hz hs
    generalize soundR vs js bs = R at HF ⊢
    generalize soundB vs js bs = sb at HF HE
    generalize idxTo (isState vs bs 2) js js.length = L at HL HE hle
    go_enter Try.func64, Try.ntmps64
    go_wp2_with fail
    refine HJ.out.mono ?_
    rintro e w1 ⟨rfl, hb1⟩
    go_wp2_with fail
    refine (HL.out w1 (hr.next hb1) (hr2.next hb1) (hr'.next hb1)).mono ?_
    rintro e w2 ⟨A3, c3, rfl, hf2, hc2, hb2⟩
    by_cases hq : L.length = js.length
    · have hq1 : ((L.length : Int) == (js.length : Int)) = true := by simp [hq]
      have HT : Hid (sb = true) := by unfold Hid; rw [HE.out]; exact decide_eq_true hq
      clear hq
      go_wp2_with fail
      go_ret2
      exact ⟨by rw [HF.out, HT.out]; rfl, bthen hb1 hb2⟩
    · have hq1 : ((L.length : Int) == (js.length : Int)) = false := by rw [beq_eq_false_iff_ne]; omega
      have HT : Hid (sb = false) := by unfold Hid; rw [HE.out]; exact decide_eq_false hq
      clear hq
      go_wp2_with fail
      go_ret2
      exact ⟨by rw [HF.out, HT.out]; rfl, bthen hb1 hb2⟩
  · have HF : Hid (soundR vs js bs = (false, 1)) := by
      unfold Hid soundR
      by_cases h1 : jointsB js = true
      · rw [if_pos h1, if_neg (fun h2 => hg ⟨h1, h2⟩)]
      · rw [if_neg h1]
    rw [hz, if_neg hg] at hJ
    have HJ := Lib.hid hJ; clear hJ hg hz hs
    generalize soundR vs js bs = R at HF ⊢
    go_enter Try.func64, Try.ntmps64
    go_wp2_with fail
    refine HJ.out.mono ?_
    rintro e w1 ⟨rfl, hb1⟩
    go_wp2_with fail
    go_ret2
    exact ⟨by rw [HF.out]; rfl, hb1⟩

end Go.Proofs.Ytpdkhmnbabccnaa

namespace Go.Proofs.Ytpdkhmnbabccnaa
set_option maxRecDepth 100000
open Go.RowKit

theorem textAt_set {b : List ByteArray} {s t : Int} {c : ByteArray} (hs : 0 ≤ s) (ht : 0 ≤ t) (hl : s.toNat < b.length) : textAt (setT b s c) t = if t = s then c else textAt b t := by
  unfold textAt setT
  by_cases e : t = s
  · subst e
    rw [if_pos rfl, List.getElem?_set_self hl]
  · rw [if_neg e, List.getElem?_set_ne (by omega)]
theorem founds_unbroken {vs : List PartT} {js : List JointT} : ∀ (ss : List Int) (b : List ByteArray), ss ≠ [] → ∀ r ∈ founds (traceS vs js ss b), anyBroken vs js r = false
  | [], _, h, _, _ => absurd rfl h
  | s :: ss, b, _, r, hr => by
    rw [traceS_cons] at hr
    simp only [founds, List.mem_filterMap, id, ways, List.mem_flatMap] at hr
    obtain ⟨_, ⟨o, ho, hr⟩, rfl⟩ := hr
    simp only [List.mem_cons, reduceCtorEq, false_or] at hr
    cases o with
    | none => simp at hr
    | some b' =>
      simp only at hr
      simp only [stepS, List.mem_map, List.mem_filter, decide_eq_true_eq] at ho
      obtain ⟨x, _, he⟩ := ho
      obtain ⟨_, hb⟩ := wayOf_some he
      have hr2 : r ∈ founds (traceS vs js ss b') := by
        simp only [founds, List.mem_filterMap, id, exists_eq_right]
        exact hr
      cases ss with
      | nil =>
        rw [traceS_nil] at hr2
        simp only [founds, List.filterMap_cons, id, List.filterMap_nil, List.mem_singleton] at hr2
        rw [hr2]
        exact hb
      | cons s2 ss2 => exact founds_unbroken (s2 :: ss2) b' (by simp) r hr2
theorem slotsTo_of {js : List JointT} {s : Nat} (h : touched js (s : Int) = true) : ∀ k, s < k → (s : Int) ∈ slotsTo js k
  | 0, hk => by omega
  | k + 1, hk => by
    unfold slotsTo
    by_cases e : s = k
    · subst e
      rw [if_pos h]
      simp
    · have := slotsTo_of h k (by omega)
      split
      · exact List.mem_append_left _ this
      · exact this
theorem slots_ends {js : List JointT} (hj : jointsB js = true) {j : JointT} (h : j ∈ js) : j.1 ∈ slotsOf js ∧ j.2.1 ∈ slotsOf js := by
  have h1 := (jointsB_in hj).2 j h
  unfold SlotsIn at h1
  have key : ∀ s : Int, 0 ≤ s → s ≤ 7 → (j.1 = s ∨ j.2.1 = s) → s ∈ slotsOf js := fun s h0 h7 hs => by
    have ht : touched js ((s.toNat : Nat) : Int) = true := by
      unfold touched touchJ
      rw [List.any_eq_true]
      refine ⟨j, h, ?_⟩
      rcases hs with hs | hs <;> simp [hs] <;> omega
    have := slotsTo_of ht 8 (by omega)
    rwa [Int.toNat_of_nonneg h0] at this
  exact ⟨key _ h1.1 h1.2.1 (Or.inl rfl), key _ h1.2.2.1 h1.2.2.2 (Or.inr rfl)⟩
/-- What every build on the way keeps. -/
def OnWay (vs : List PartT) (js : List JointT) (ss : List Int) (b : List ByteArray) : Prop :=
  b.length = 8 ∧ (∀ (i : Nat) (c : ByteArray), b[i]? = some c → c ≠ noText → ∃ (k : Nat) (x : PartT), findI vs c = (k : Int) ∧ vs[k]? = some x ∧ x.slot = (i : Int)) ∧
    (∀ s ∈ slotsOf js, s ∉ ss → textAt b s ≠ noText) ∧ (∀ s ∈ ss, 0 ≤ s ∧ s < 8)
theorem founds_way {vs : List PartT} {js : List JointT} (hp : partsB vs = true) {r : List ByteArray} (hr : r ∈ allB vs js) : OnWay vs js [] r := by
  refine founds_all (G := OnWay vs js) (fun s ss b x h hx hs => ?_) (slotsOf js) bare ⟨rfl, fun i c hc hn => ?_, fun s h1 h2 => absurd h1 h2, fun s h => by have := slotsTo_mem h; omega⟩ r hr
  · obtain ⟨h1, h2, h3, h4⟩ := h
    have hs0 := h4 s (by simp)
    refine ⟨by rw [setT_len]; exact h1, fun i c hc hn => ?_, fun s' h5 h6 => ?_, fun s' h5 => h4 s' (List.mem_cons_of_mem _ h5)⟩
    · unfold setT at hc
      by_cases e : s.toNat = i
      · subst e
        rw [List.getElem?_set_self (by omega)] at hc
        obtain ⟨k, hk⟩ := List.mem_iff_getElem?.1 hx
        refine ⟨k, x, ?_, hk, by omega⟩
        rw [← Option.some.inj hc]
        exact findI_at hp hk
      · rw [List.getElem?_set_ne e] at hc
        exact h2 i c hc hn
    · have h50 := slotsTo_mem h5
      rw [textAt_set hs0.1 h50.1 (by omega)]
      by_cases e : s' = s
      · rw [if_pos e]
        exact word_some (partsB_mem hp hx).word
      · rw [if_neg e]
        exact h3 s' h5 (by simp [e, h6])
  · exfalso
    refine hn ?_
    have := List.mem_of_getElem? hc
    exact List.eq_of_mem_replicate this
theorem founds_good {vs : List PartT} {js : List JointT} (h : bothB vs js = true) {r : List ByteArray} (hr : r ∈ allB vs js) : buildB vs r = true ∧ soundB vs js r = true := by
  have hpj : partsB vs = true ∧ jointsB js = true := by
    unfold bothB at h
    simpa using h
  obtain ⟨hp, hj⟩ := hpj
  obtain ⟨h1, h2, h3, _⟩ := founds_way hp hr
  refine ⟨buildB_mk hp h1 h2, ?_⟩
  have hC : Codes vs r := founds_codes hp hr
  unfold soundB
  rw [List.all_eq_true]
  intro j hjm
  have hin := (jointsB_in hj).2 j hjm
  obtain ⟨e1, e2⟩ := slots_ends hj hjm
  have ho : openB vs r j = false := by
    rw [openB_eq hC hin]
    unfold openT
    have a1 := h3 _ e1 (by simp)
    have a2 := h3 _ e2 (by simp)
    simp [a1, a2]
  have hb : brokenB vs r j = false := by
    have hne : slotsOf js ≠ [] := by
      intro e
      rw [e] at e1
      simp at e1
    have hany := founds_unbroken (slotsOf js) bare hne r hr
    unfold anyBroken at hany
    rw [List.any_eq_false] at hany
    have := hany j hjm
    simpa using this
  have hbd := stateJ_bd vs r j
  unfold openB at ho
  unfold brokenB at hb
  unfold isState
  simp only [decide_eq_false_iff_not] at ho hb
  simp only [decide_eq_true_eq]
  omega
theorem founds_sound {vs : List PartT} {js : List JointT} (h : bothB vs js = true) {r : List ByteArray} (hr : r ∈ allB vs js) : soundR vs js r = (true, 0) := by
  obtain ⟨h1, h2⟩ := founds_good h hr
  have hj : jointsB js = true := by
    unfold bothB at h
    simp only [Bool.and_eq_true] at h
    exact h.2
  unfold soundR
  rw [if_pos hj, if_pos h1, h2]

theorem ats_none {vs : List PartT} {js : List JointT} (h : (allB vs js)[0]? = none) : allB vs js = [] ∧ (atsOf 0 (tr vs js))[0]? = none := by
  have hl := atsOf_length 0 (tr vs js)
  have h0 : allB vs js = [] := by
    cases e : allB vs js with
    | nil => rfl
    | cons a l => rw [e] at h; simp at h
  have h1 : (founds (tr vs js)) = [] := h0
  rw [h1] at hl
  refine ⟨h0, ?_⟩
  rw [List.eq_nil_of_length_eq_zero hl]
  rfl
/-- What the first bicycle and the counts say of one another. -/
structure FirstLaw (vs : List PartT) (js : List JointT) (m : Int) (R : List ByteArray × Int × Int) (cn nd : Int) : Prop where
  notFound : R.2.2 = 4 → cn ≤ 0 ∧ nd ≤ m
  limit : R.2.2 = 3 → m < nd
  sound : R.2.2 = 0 → soundR vs js R.1 = (true, 0)
  some : R.2.2 = 0 → 1 ≤ cn ∧ R.2.1 ≤ nd ∧ R.2.1 ≤ m ∧ 0 ≤ R.2.1 ∧ R.2.1 ≤ 5000
  less : R.2.2 = 0 → R.2.1 ≠ 0 → (firstR vs js (R.2.1 - 1)).2.2 = 3
  len : R.1.length ≤ 8
theorem first_law (vs : List PartT) (js : List JointT) (m : Int) : FirstLaw vs js m (firstR vs js m) (countR vs js).1 (nodesR vs js).1 := by
  by_cases hb : bothB vs js = true
  · have ec : countR vs js = (((allB vs js).length : Int), 0) := by unfold countR; rw [if_pos hb]
    have en : nodesR vs js = (nodesOf (tr vs js), 0) := by unfold nodesR; rw [if_pos hb]
    rw [ec, en]
    by_cases hi : inB m 0 5000 = true
    · have hm := inB_true hi
      cases h0 : (allB vs js)[0]? with
      | none =>
        obtain ⟨e0, e1⟩ := ats_none h0
        have eR : firstR vs js m = if m < nodesOf (tr vs js) then ([], 0, 3) else ([], 0, 4) := by
          unfold firstR
          rw [if_pos hb, if_pos hi, h0]
        rw [eR, e0]
        by_cases hlt : m < nodesOf (tr vs js)
        · rw [if_pos hlt]
          exact ⟨fun h => by simp at h, fun _ => hlt, fun h => by simp at h, fun h => by simp at h, fun h => by simp at h, by simp⟩
        · rw [if_neg hlt]
          exact ⟨fun _ => ⟨by simp, by simp only; omega⟩, fun h => by simp at h, fun h => by simp at h, fun h => by simp at h, fun h => by simp at h, by simp⟩
      | some b =>
        have hmem := List.mem_of_getElem? h0
        have hlen := (founds_codes (r := b) (js := js) (by unfold bothB at hb; simp only [Bool.and_eq_true] at hb; exact hb.1) hmem).len
        cases h1 : (atsOf 0 (tr vs js))[0]? with
        | none =>
          exfalso
          have hl := atsOf_length 0 (tr vs js)
          have : (atsOf 0 (tr vs js)).length = 0 := by
            cases e : atsOf 0 (tr vs js) with
            | nil => rfl
            | cons a l => rw [e] at h1; simp at h1
          have h2 : (allB vs js).length = 0 := by rw [← this]; exact hl.symm
          have := (List.getElem?_eq_some_iff.1 h0).1
          omega
        | some k =>
          have hk := atsOf_bd 0 (tr vs js) k (List.mem_of_getElem? h1)
          have hpos := (List.getElem?_eq_some_iff.1 h0).1
          have key : ∀ q : Int, inB q 0 5000 = true → firstR vs js q = if k ≤ q then (b, k, 0) else ([], 0, 3) := fun q hq => by
            unfold firstR
            rw [if_pos hb, if_pos hq, h0, h1]
          rw [key m hi]
          by_cases hkm : k ≤ m
          · rw [if_pos hkm]
            refine ⟨fun h => by simp at h, fun h => by simp at h, fun _ => founds_sound hb hmem, fun _ => by simp only; omega, fun _ hne => ?_, by simp only; omega⟩
            simp only at hne ⊢
            rw [key (k - 1) (by unfold inB; simp; omega), if_neg (by omega)]
          · rw [if_neg hkm]
            exact ⟨fun h => by simp at h, fun _ => by simp only; omega, fun h => by simp at h, fun h => by simp at h, fun h => by simp at h, by simp⟩
    · have eR : firstR vs js m = ([], 0, 2) := by unfold firstR; rw [if_pos hb, if_neg hi]
      rw [eR]
      exact ⟨fun h => by simp at h, fun h => by simp at h, fun h => by simp at h, fun h => by simp at h, fun h => by simp at h, by simp⟩
  · have eR : firstR vs js m = ([], 0, 1) := by unfold firstR; rw [if_neg hb]
    rw [eR]
    exact ⟨fun h => by simp at h, fun h => by simp at h, fun h => by simp at h, fun h => by simp at h, fun h => by simp at h, by simp⟩

end Go.Proofs.Ytpdkhmnbabccnaa

namespace Go.Proofs.Ytpdkhmnbabccnaa
set_option maxRecDepth 100000
open Go.RowKit

theorem Own.setAt {α : Type} {w : World} {base sz c lo hi : Nat} {E : TypeId} {f : α → List Value} {A : Option Addr} {xs : List α} {w' : World} (h : Own w base E sz f A c xs) (ho : Only lo hi w w') (hh : hi ≤ base) : Own w' base E sz f A c xs := h.only ho hh
/-- A list that grows, a source in hand; below the base nothing but the source turns. -/
structure GrowSt {α : Type} (V w : World) (b : Nat) (A : Option Addr) (c : Nat) (xs : List Int) (E : TypeId) (sz : Nat) (f : α → List Value) (LA : Option Addr) (lc : Nat) (ms : List α) : Prop where
  feed : Feed w b A c xs
  own : Own w V.heap.size E sz f LA lc ms
  old : Only b (b + 1) V w
  lt : b < V.heap.size
section
variable {α : Type} {V w w' : World} {b c lc sz : Nat} {A LA : Option Addr} {xs : List Int} {E : TypeId} {f : α → List Value} {ms : List α}
theorem GrowSt.made (hF : Feed w b A c xs) : GrowSt w (w.alloc (.cells #[] E)) b A c xs E sz f (some ⟨w.heap.size, 0, none⟩) 0 ([] : List α) :=
  ⟨hF.next (balloc _ _), Own.made _ (Nat.le_refl _) rfl, Only.alloc _, hF.src.lt⟩
theorem GrowSt.turn (h : GrowSt V w b A c xs E sz f LA lc ms) (hF : Feed w' b A c xs) (hO : Only b (b + 1) w w') : GrowSt V w' b A c xs E sz f LA lc ms := by
  have := h.lt
  exact ⟨hF, h.own.only hO (by omega), h.old.trans hO, h.lt⟩
theorem GrowSt.next (h : GrowSt V w b A c xs E sz f LA lc ms) (hb : Below w.heap.size w w') : GrowSt V w' b A c xs E sz f LA lc ms := h.turn (h.feed.next hb) (Only.of_below hb)
/-- One more. -/
theorem GrowSt.grow {w4 : World} {m : α} {A2 : Option Addr} {c2 : Nat} {o : Obj} (h : GrowSt V w b A c xs E sz f LA lc ms) (hown : Own w4 V.heap.size E sz f A2 c2 (ms ++ [m])) (hb4 : Below V.heap.size (w.alloc o) w4) : GrowSt V w4 b A c xs E sz f A2 c2 (ms ++ [m]) := by
  have hlt := h.lt
  have hVs := h.old.size
  have hb24 : Below V.heap.size w w4 := ((balloc w o).mono hVs).trans hb4
  have ho2 := h.old
  exact ⟨h.feed.under hb24 hlt, hown, ⟨hb24.os.trans ho2.os, hb24.tape.trans ho2.tape, hb24.output.trans ho2.output, Nat.le_trans ho2.size hb24.size, fun k hk hn => (hb24.block k hk).trans (ho2.block k hk hn)⟩, hlt⟩
end
/-- A list drawn: any list of at most m elements. -/
def DrawnList {α : Type} (m : Nat) (E : TypeId) (sz : Nat) (f : α → List Value) (G : α → Prop) (w : World) (b : Nat) (A : Option Addr) (c : Nat) (xs : List Int) (e : Ending) (w' : World) : Prop :=
  ∃ (LA : Option Addr) (lc : Nat) (ms : List α), e = .returned (.slice LA ms.length lc) ∧ Flat w' w.heap.size w'.heap.size E sz f LA ms ∧ ms.length ≤ lc ∧ ms.length ≤ m ∧ (∀ x ∈ ms, G x) ∧ Feed w' b A c xs ∧ Only b (b + 1) w w'
theorem GrowSt.drawn {α : Type} {V w : World} {b c lc sz m : Nat} {A LA : Option Addr} {xs : List Int} {E : TypeId} {f : α → List Value} {G : α → Prop} {ms : List α} (h : GrowSt V w b A c xs E sz f LA lc ms) (hf : ∀ x, (f x).length = sz) (hm : ms.length ≤ m) (hG : ∀ x ∈ ms, G x) : DrawnList m E sz f G V b A c xs (.returned (.slice LA ms.length lc)) w :=
  ⟨LA, lc, ms, rfl, h.own.flat hf, h.own.cap, hm, hG, h.feed, h.old⟩
theorem mem_snoc {α : Type} {G : α → Prop} {ms : List α} {x : α} (h : ∀ y ∈ ms, G y) (hx : G x) : ∀ y ∈ ms ++ [x], G y := fun y hy => by
  rcases List.mem_append.1 hy with hy | hy
  · exact h y hy
  · simp only [List.mem_singleton] at hy
    subst hy
    exact hx
def lenOf : Value → Nat
  | .slice _ n _ => n
  | _ => 0

end Go.Proofs.Ytpdkhmnbabccnaa

namespace Go.Proofs.Ytpdkhmnbabccnaa
set_option maxRecDepth 100000
open Go.RowKit

/-- A part in its box r, its ports in memory behind it, a source in hand; nothing of what lay there at V has turned but the source. -/
structure GoodSt (V w : World) (r r4 b : Nat) (A : Option Addr) (c : Nat) (xs : List Int) (x : PartT) (PA : Option Addr) (pc : Nat) : Prop where
  feed : Feed w b A c xs
  row : Row w r 26 5
  row4 : Row w r4 26 5
  c0 : w.cell? ⟨r, 0, none⟩ = some (.string x.code)
  c1 : w.cell? ⟨r, 1, none⟩ = some (.int .i64 x.slot)
  c2 : w.cell? ⟨r, 2, none⟩ = some (.slice PA x.ports.length pc)
  c3 : w.cell? ⟨r, 3, none⟩ = some (.int .i64 x.price)
  c4 : w.cell? ⟨r, 4, none⟩ = some (.int .i64 x.grams)
  own : Own w V.heap.size 32 3 portC PA pc x.ports
  old : Only b (b + 1) V w
  lt : b < V.heap.size
  rV : V.heap.size ≤ r
  r4V : V.heap.size ≤ r4
section
variable {V w w' : World} {r r4 b c pc : Nat} {A PA : Option Addr} {xs : List Int} {x : PartT}
theorem GoodSt.turn (h : GoodSt V w r r4 b A c xs x PA pc) (hF : Feed w' b A c xs) (hO : Only b (b + 1) w w') : GoodSt V w' r r4 b A c xs x PA pc := by
  have hl := h.row.lt
  have hl4 := h.row4.lt
  have := h.lt
  have := h.rV
  have := h.r4V
  have e := hO.block r hl (by omega)
  have e4 := hO.block r4 hl4 (by omega)
  exact ⟨hF, h.row.kept e, h.row4.kept e4, (World.cell?_of_block (a := ⟨r, 0, none⟩) e).trans h.c0, (World.cell?_of_block (a := ⟨r, 1, none⟩) e).trans h.c1, (World.cell?_of_block (a := ⟨r, 2, none⟩) e).trans h.c2, (World.cell?_of_block (a := ⟨r, 3, none⟩) e).trans h.c3, (World.cell?_of_block (a := ⟨r, 4, none⟩) e).trans h.c4, h.own.only hO (by omega), h.old.trans hO, h.lt, h.rV, h.r4V⟩
theorem GoodSt.next (h : GoodSt V w r r4 b A c xs x PA pc) (hb : Below w.heap.size w w') : GoodSt V w' r r4 b A c xs x PA pc := h.turn (h.feed.next hb) (Only.of_below hb)
/-- A port more. -/
theorem GoodSt.grow {w4 : World} {p : PortT} {A2 : Option Addr} {c2 : Nat} (h : GoodSt V w r r4 b A c xs x PA pc) (hown : Own w4 V.heap.size 32 3 portC A2 c2 (x.ports ++ [p])) (hb : Below V.heap.size w w4) (hfar : ∀ g, g < w.heap.size → Apart PA g → Apart A2 g ∧ w4.heap[g]? = w.heap[g]?) :
    GoodSt V (w4.setCell ⟨r, 2, none⟩ (.slice A2 (x.ports.length + 1) c2)) r r4 b A c xs { x with ports := x.ports ++ [p] } A2 c2 := by
  have hlt := h.lt
  have hrV := h.rV
  have hl := h.row.lt
  have hE : (32 : TypeId) ≠ 26 := by decide
  obtain ⟨_, e⟩ := hfar r hl (h.own.apartType h.row hE)
  obtain ⟨_, e4⟩ := hfar r4 h.row4.lt (h.own.apartType h.row4 hE)
  have hF4 := h.feed.under hb hlt
  have hne : ∀ j, j ≠ 2 → (w4.setCell ⟨r, 2, none⟩ (.slice A2 (x.ports.length + 1) c2)).cell? ⟨r, j, none⟩ = w.cell? ⟨r, j, none⟩ := fun j hj => by
    rw [setCell_other (by omega)]
    exact World.cell?_of_block (a := ⟨r, j, none⟩) e
  have z := (World.cell?_of_block (a := ⟨r, 2, none⟩) e).trans h.c2
  have hold : Only b (b + 1) V w4 := ⟨hb.os.trans h.old.os, hb.tape.trans h.old.tape, hb.output.trans h.old.output, Nat.le_trans h.old.size hb.size, fun k hk hn => (hb.block k hk).trans (h.old.block k hk hn)⟩
  have hrow := h.row.kept e
  have hdif : ∀ g m, Row w4 g 32 m → g ≠ r := fun g m hg => hg.ne hrow hE
  refine ⟨hF4.setFar (p := ⟨r, 2, none⟩) (show b < r by omega) _, hrow.setCell _ _, (h.row4.kept e4).setCell _ _, (hne 0 (by omega)).trans h.c0, (hne 1 (by omega)).trans h.c1, ?_, (hne 3 (by omega)).trans h.c3, (hne 4 (by omega)).trans h.c4, ?_, hold.setNew hrV _, hlt, hrV, h.r4V⟩
  · rw [setCell_same z]
    simp
  · refine ⟨hown.1, ?_⟩
    rcases hown.2 with h2 | ⟨g, cap, cur, e', hB, hg, h3⟩
    · exact Or.inl h2
    · exact Or.inr ⟨g, cap, cur, e', hB, (Below.heap_setCell _ _ _ _ (hdif g _ ⟨cur, hg, rfl⟩)).trans hg, h3⟩
end
section
variable {V w w' : World} {r r4 b c pc : Nat} {A PA : Option Addr} {xs : List Int} {x : PartT}
theorem GoodSt.setOne (h : GoodSt V w r r4 b A c xs x PA pc) (j : Nat) (u : Value) : Feed (w.setCell ⟨r, j, none⟩ u) b A c xs ∧ Row (w.setCell ⟨r, j, none⟩ u) r 26 5 ∧ Row (w.setCell ⟨r, j, none⟩ u) r4 26 5 ∧ Own (w.setCell ⟨r, j, none⟩ u) V.heap.size 32 3 portC PA pc x.ports ∧ Only b (b + 1) V (w.setCell ⟨r, j, none⟩ u) := by
  have hlt := h.lt
  have hrV := h.rV
  have hE : (32 : TypeId) ≠ 26 := by decide
  refine ⟨h.feed.setFar (p := ⟨r, j, none⟩) (show b < r by omega) _, h.row.setCell _ _, h.row4.setCell _ _, ⟨h.own.1, ?_⟩, h.old.setNew hrV _⟩
  rcases h.own.2 with h2 | ⟨g, cap, cur, e', hB, hg, h3⟩
  · exact Or.inl h2
  · exact Or.inr ⟨g, cap, cur, e', hB, (Below.heap_setCell _ _ _ _ (Row.ne (E := 32) ⟨cur, hg, rfl⟩ h.row hE)).trans hg, h3⟩
theorem GoodSt.setCode (h : GoodSt V w r r4 b A c xs x PA pc) (v : ByteArray) : GoodSt V (w.setCell ⟨r, 0, none⟩ (.string v)) r r4 b A c xs { x with code := v } PA pc := by
  obtain ⟨h1, h2, h3, h4, h5⟩ := h.setOne 0 (.string v)
  have hne : ∀ j, j ≠ 0 → (w.setCell ⟨r, 0, none⟩ (.string v)).cell? ⟨r, j, none⟩ = w.cell? ⟨r, j, none⟩ := fun j hj => setCell_other (by omega)
  exact ⟨h1, h2, h3, setCell_same h.c0, (hne 1 (by omega)).trans h.c1, (hne 2 (by omega)).trans h.c2, (hne 3 (by omega)).trans h.c3, (hne 4 (by omega)).trans h.c4, h4, h5, h.lt, h.rV, h.r4V⟩
theorem GoodSt.setSlot (h : GoodSt V w r r4 b A c xs x PA pc) (v : Int) : GoodSt V (w.setCell ⟨r, 1, none⟩ (.int .i64 v)) r r4 b A c xs { x with slot := v } PA pc := by
  obtain ⟨h1, h2, h3, h4, h5⟩ := h.setOne 1 (.int .i64 v)
  have hne : ∀ j, j ≠ 1 → (w.setCell ⟨r, 1, none⟩ (.int .i64 v)).cell? ⟨r, j, none⟩ = w.cell? ⟨r, j, none⟩ := fun j hj => setCell_other (by omega)
  exact ⟨h1, h2, h3, (hne 0 (by omega)).trans h.c0, setCell_same h.c1, (hne 2 (by omega)).trans h.c2, (hne 3 (by omega)).trans h.c3, (hne 4 (by omega)).trans h.c4, h4, h5, h.lt, h.rV, h.r4V⟩
theorem GoodSt.setPrice (h : GoodSt V w r r4 b A c xs x PA pc) (v : Int) : GoodSt V (w.setCell ⟨r, 3, none⟩ (.int .i64 v)) r r4 b A c xs { x with price := v } PA pc := by
  obtain ⟨h1, h2, h3, h4, h5⟩ := h.setOne 3 (.int .i64 v)
  have hne : ∀ j, j ≠ 3 → (w.setCell ⟨r, 3, none⟩ (.int .i64 v)).cell? ⟨r, j, none⟩ = w.cell? ⟨r, j, none⟩ := fun j hj => setCell_other (by omega)
  exact ⟨h1, h2, h3, (hne 0 (by omega)).trans h.c0, (hne 1 (by omega)).trans h.c1, (hne 2 (by omega)).trans h.c2, setCell_same h.c3, (hne 4 (by omega)).trans h.c4, h4, h5, h.lt, h.rV, h.r4V⟩
end
/-- A part handed out through its result box r4. -/
structure PartOut (V w : World) (r4 b : Nat) (A : Option Addr) (c : Nat) (xs : List Int) (ps : List PortT) (PA : Option Addr) (pc : Nat) : Prop where
  feed : Feed w b A c xs
  row4 : Row w r4 26 5
  own : Own w V.heap.size 32 3 portC PA pc ps
  old : Only b (b + 1) V w
  lt : b < V.heap.size
  r4V : V.heap.size ≤ r4
theorem GoodSt.out {V w : World} {r r4 b c pc : Nat} {A PA : Option Addr} {xs : List Int} {x : PartT} (h : GoodSt V w r r4 b A c xs x PA pc) : PartOut V w r4 b A c xs x.ports PA pc := ⟨h.feed, h.row4, h.own, h.old, h.lt, h.r4V⟩
theorem PartOut.set {V w : World} {r4 b c pc : Nat} {A PA : Option Addr} {xs : List Int} {ps : List PortT} (h : PartOut V w r4 b A c xs ps PA pc) (j : Nat) (u : Value) : PartOut V (w.setCell ⟨r4, j, none⟩ u) r4 b A c xs ps PA pc := by
  have hlt := h.lt
  have hrV := h.r4V
  have hE : (32 : TypeId) ≠ 26 := by decide
  refine ⟨h.feed.setFar (p := ⟨r4, j, none⟩) (show b < r4 by omega) _, h.row4.setCell _ _, ⟨h.own.1, ?_⟩, h.old.setNew hrV _, hlt, hrV⟩
  rcases h.own.2 with h2 | ⟨g, cap, cur, e', hB, hg, h3⟩
  · exact Or.inl h2
  · exact Or.inr ⟨g, cap, cur, e', hB, (Below.heap_setCell _ _ _ _ (Row.ne (E := 32) ⟨cur, hg, rfl⟩ h.row4 hE)).trans hg, h3⟩
/-- A part that was drawn: any part of small size. -/
def DrawnPart (m : Nat) (w : World) (b : Nat) (A : Option Addr) (c : Nat) (xs : List Int) (e : Ending) (w' : World) : Prop := ∃ (x : PartT) (pA : Option Addr) (pc : Nat), e = .returned (argV x pA pc) ∧ x.code.size ≤ 64 ∧ x.ports.length ≤ m ∧ Own w' w.heap.size 32 3 portC pA pc x.ports ∧ Feed w' b A c xs ∧ Only b (b + 1) w w'
theorem portC_len3 (p : PortT) : (portC p).length = 3 := rfl
theorem portC_one3 (p : PortT) : ∀ u ∈ portC p, u.oneCell' = true := fun u hu => by
  simp only [portC, List.mem_cons, List.not_mem_nil, or_false] at hu
  rcases hu with rfl | rfl | rfl <;> rfl

end Go.Proofs.Ytpdkhmnbabccnaa

namespace Go.Proofs.Ytpdkhmnbabccnaa
set_option maxRecDepth 100000
open Go.RowKit

set_option maxHeartbeats 1000000 in
theorem l16Good_any (A : Option Addr) (c b : Nat) (xs : List Int) (code : ByteArray) (hcode : code.size ≤ 64) (w : World) (hF : Feed w b A c xs) :
    Calls Try.prog 172 #[.pointer (some ⟨b, 0, none⟩), .string code] w (DrawnPart 3 w b A c xs) := by
  have HN : Hid (∀ (v : World) (n : Int), n < 20000 → Feed v b A c xs → Calls Try.prog 111 #[.pointer (some ⟨b, 0, none⟩), .int .i64 n] v (Drawn v b A c xs n)) := fun v n hn h => l01Next_any A c b xs n v h.src h.rd h.byte h.small (by omega)
  have hlb := hF.src.lt
  have HF := Lib.hid hF; clear hF
  go_enter Try.func172, Try.ntmps172
  go_wp2_with fail
  have HF0 := Lib.hid (HF.out.next (balloc w (.cells #[.string ⟨#[]⟩, .int .i64 0, .slice none 0 0, .int .i64 0, .int .i64 0] 26)))
  refine (HN.out _ 3 (by omega) HF0.out).mono ?_
  rintro e w1 ⟨v1, rfl, a0, a1, _, hS, hO⟩
  have HF1 := Lib.hid (HF0.out.turn hS hO)
  clear hS
  go_wp2_with fail
  have HF1' := Lib.hid (HF1.out.next (balloc w1 (.cells #[] 32)))
  refine (HN.out _ 60 (by omega) HF1'.out).mono ?_
  rintro e w2 ⟨v2, rfl, b0, b1, _, hS, hO2⟩
  have HF2 := Lib.hid (HF1'.out.turn hS hO2)
  clear hS
  have b1 := b1 (by omega)
  go_wp2_with fail
  refine (HN.out _ 900 (by omega) HF2.out).mono ?_
  rintro e w3 ⟨v3, rfl, c0, c1, _, hS, hO3⟩
  have HF3 := Lib.hid (HF2.out.turn hS hO3)
  clear hS
  have c1 := c1 (by omega)
  go_wp2_with fail
  have hO0 : Only b (b + 1) w (w.alloc (.cells #[.string ⟨#[]⟩, .int .i64 0, .slice none 0 0, .int .i64 0, .int .i64 0] 26)) := Only.alloc _
  have hO1a : Only b (b + 1) w1 (w1.alloc (.cells #[] 32)) := Only.alloc _
  have hOW : Only b (b + 1) w3 (w3.alloc (.cells #[.string code, .int .i64 v1, .slice (some ⟨w1.heap.size, 0, none⟩) 0 0, .int .i64 (100 * (1 + v2)), .int .i64 (50 + v3)] 26)) := Only.alloc _
  have s0 := hO0.size
  have s1 := hO.size
  have s1a := hO1a.size
  have s2 := hO2.size
  have s3 := hO3.size
  have z0 : (w.alloc (.cells #[.string ⟨#[]⟩, .int .i64 0, .slice none 0 0, .int .i64 0, .int .i64 0] 26)).heap.size = w.heap.size + 1 := by simp
  have z1 : (w1.alloc (.cells #[] 32)).heap.size = w1.heap.size + 1 := by simp
  have hG : Hid (GoodSt w (w3.alloc (.cells #[.string code, .int .i64 v1, .slice (some ⟨w1.heap.size, 0, none⟩) 0 0, .int .i64 (100 * (1 + v2)), .int .i64 (50 + v3)] 26)) w3.heap.size w.heap.size b A c xs ⟨code, v1, [], 100 * (1 + v2), 50 + v3⟩ (some ⟨w1.heap.size, 0, none⟩) 0) := by
    have hO3' := (((hO0.trans hO).trans hO1a).trans hO2).trans hO3
    have hrow4 : Row w3 w.heap.size 26 5 := (Row.new w #[.string ⟨#[]⟩, .int .i64 0, .slice none 0 0, .int .i64 0, .int .i64 0] 26).kept ((((hO.trans hO1a).trans hO2).trans hO3).block w.heap.size (by omega) (by omega))
    have hownp : Own (w1.alloc (.cells #[] 32)) w.heap.size 32 3 portC (some ⟨w1.heap.size, 0, none⟩) 0 [] := Own.made _ (by omega) rfl
    exact ⟨HF3.out.next (balloc _ _), Row.new w3 _ _, hrow4.alloc _, by go_simp, by go_simp, by go_simp, by go_simp, by go_simp, (((hownp.only hO2 (by omega)).only hO3 (by omega)).keep (balloc _ _)), hO3'.trans hOW, hlb, by omega, Nat.le_refl _⟩
  clear hO0 hO hO1a hO2 hO3 hOW s0 s1 s1a s2 z0 z1 HF HF0 HF1 HF1' HF2 HF3
  generalize w3.alloc (.cells #[.string code, .int .i64 v1, .slice (some ⟨w1.heap.size, 0, none⟩) 0 0, .int .i64 (100 * (1 + v2)), .int .i64 (50 + v3)] 26) = W at hG ⊢
  generalize w3.heap.size = r at hG s3 ⊢
  generalize hr4 : w.heap.size = r4 at hG hlb ⊢
  go_loopw [6] (fun i wr => ∃ (k : Nat) (x : PartT) (PA : Option Addr) (pc : Nat), k ≤ 3 ∧ i = .int .i64 k ∧ x.code = code ∧ x.ports.length ≤ k ∧ GoodSt w wr r r4 b A c xs x PA pc) (fun i _ => 3 - (intOf i).toNat)
  case atStart => exact ⟨0, _, _, _, Nat.zero_le _, rfl, rfl, Nat.le_refl _, hG.out⟩
  case round =>
    obtain ⟨k, x, PA, pc, hk, rfl, hxc, hxl, hg⟩ := hrel
    have HG := Lib.hid hg; clear hg
    by_cases hlt : k < 3
    · go_wp2_with fail
      refine (HN.out wr 4 (by omega) HG.out.feed).mono ?_
      rintro e w4 ⟨v4, rfl, d0, d1, _, hS, hO⟩
      have HG4 := Lib.hid (HG.out.turn (HG.out.feed.turn hS hO) hO)
      clear hS hO HG
      by_cases hv : 0 < v4
      · have z4 := HG4.out.c2
        have l4 := HG4.out.row.lt
        have n4 : ¬ r = w4.heap.size := by omega
        have n4' : ¬ w4.heap.size = r := by omega
        go_wp2_with fail
        go_region_law (first
          | (go_simp; go_at_call 110; change Calls _ _ _ (w4.drew.alloc (.cells (([286, 318] : List Int).map (Value.int .i64)).toArray 2)) _; refine (pick_next A c b xs w4.drew 2 [286, 318] (by simp) (by simp) (HG4.out.feed.next (bdrew _))).mono ?_; rintro e w5 ⟨v5, hv5, rfl, hF5, hO5⟩; have HG5 := Lib.hid ((HG4.out.next (bdrew _)).turn hF5 hO5); have z5 := HG5.out.c2; clear hF5 hO5 hv5; go_wp2_with fail)
          | (go_simp; go_at_call 111; refine (HN.out w5 2 (by omega) HG5.out.feed).mono ?_; rintro e w6 ⟨v6, rfl, e0, e1, _, hS6, hO6⟩; have HG6 := Lib.hid (HG5.out.turn (HG5.out.feed.turn hS6 hO6) hO6); have z6 := HG6.out.c2; have l6 := HG6.out.row.lt; have n6 : ¬ r = w6.heap.size := (by omega); have n6' : ¬ w6.heap.size = r := (by omega); have s6 := HG6.out.old.size; clear hS6 hO6; go_wp2_with fail)
          | (have HG6a := Lib.hid (HG6.out.next (balloc w6 (.cells #[.int .i64 (k : Int), .int .i64 v5, .bool (v6 == 0)] 32))); refine step_append_el (by rfl) _ _ _ (by rfl) w.heap.size 32 (.agg #[.int .i64 0, .int .i64 0, .bool false]) 3 24 Try.underlying24 infoPort rfl (by omega) (by omega) portC x.ports ((k : Int), v5, v6 == 0) PA pc (by rfl) HG6a.out.own w6.heap.size _ (by rfl) (by simp) portC_len3 (three_cells (by go_simp) (by go_simp) (by go_simp)) portC_one3 (by omega) (by simp; omega) ?_; intro A2 c2 w7 hown7 hb7 hfar7; have h7 := hfar7 r HG6a.out.row.lt (HG6a.out.own.apartType HG6a.out.row (by decide)); have z7 := (World.cell?_of_block (a := ⟨r, 2, none⟩) h7.2).trans HG6a.out.c2; have f7 : w7.frozen? ⟨r, 2, none⟩ = false := (HG6a.out.row.kept h7.2).frozen 2; have HG7 := Lib.hid (HG6a.out.grow hown7 hb7 hfar7); clear h7 hown7 hb7 hfar7))
        all_goals
          go_wp2_with fail
          exact ⟨⟨k + 1, { x with ports := x.ports ++ [((k : Int), v5, v6 == 0)] }, A2, c2, by omega, by go_num, hxc, by simp; omega, HG7.out⟩, by simp [intOf]; omega⟩
      · go_wp2_with fail
        exact ⟨⟨k + 1, x, PA, pc, by omega, by go_num, hxc, by omega, HG4.out⟩, by simp [intOf]; omega⟩
    · have c0 := HG.out.c0
      have c1 := HG.out.c1
      have c2 := HG.out.c2
      have c3 := HG.out.c3
      have c4 := HG.out.c4
      obtain ⟨y0, hy0⟩ := HG.out.row4.cell (j := 0) (by omega)
      obtain ⟨y1, hy1⟩ := HG.out.row4.cell (j := 1) (by omega)
      obtain ⟨y2, hy2⟩ := HG.out.row4.cell (j := 2) (by omega)
      obtain ⟨y3, hy3⟩ := HG.out.row4.cell (j := 3) (by omega)
      obtain ⟨y4, hy4⟩ := HG.out.row4.cell (j := 4) (by omega)
      have f0 := HG.out.row4.frozen 0
      have f1 := HG.out.row4.frozen 1
      have f2 := HG.out.row4.frozen 2
      have f3 := HG.out.row4.frozen 3
      have f4 := HG.out.row4.frozen 4
      go_wp2_with fail
      refine bodyPost_ret (v := argV x PA pc) (by simp [results, Try.results172, go_sem, cell_set, hy0, hy1, hy2, hy3, hy4, argV, hxc]) rfl ?_
      have hP := fun (u0 u1 u2 u3 u4 : Value) => ((((HG.out.out.set 0 u0).set 1 u1).set 2 u2).set 3 u3).set 4 u4
      have hp := hP (.string code) (.int .i64 x.slot) (.slice PA x.ports.length pc) (.int .i64 x.price) (.int .i64 x.grams)
      exact ⟨x, PA, pc, rfl, by rw [hxc]; exact hcode, by omega, hp.own, hp.feed, hp.old⟩

end Go.Proofs.Ytpdkhmnbabccnaa

namespace Go.Proofs.Ytpdkhmnbabccnaa
set_option maxRecDepth 100000
open Go.RowKit

structure Inner (w : World) (lo hi : Nat) (A : Option Addr) (ms : List PartM) : Prop where
  flat : ∀ m ∈ ms, Flat w lo hi 32 3 portC m.pA m.ports
  cap : ∀ m ∈ ms, m.ports.length ≤ m.pc
  far : ∀ m ∈ ms, 0 < m.ports.length → ∀ g, m.pA = some ⟨g, 0, none⟩ → Apart A g
  apart : ms.Pairwise fun m n => 0 < m.ports.length → 0 < n.ports.length → m.pA ≠ n.pA
theorem Inner.nil {w : World} {lo hi : Nat} {A : Option Addr} : Inner w lo hi A [] := ⟨fun _ hm => absurd hm (by simp), fun _ hm => absurd hm (by simp), fun _ hm => absurd hm (by simp), List.Pairwise.nil⟩
theorem Inner.below {w w' : World} {lo hi hi' B : Nat} {A : Option Addr} {ms : List PartM} (h : Inner w lo hi A ms) (hb : Below B w w') (hB : hi ≤ B) (hh : hi ≤ hi') : Inner w' lo hi' A ms :=
  ⟨fun m hm => ((h.flat m hm).below hb hB).mono (Nat.le_refl _) hh, h.cap, h.far, h.apart⟩
/-- One part more: its ports are new, the row has grown. -/
theorem Inner.append {wr w2 w3 w4 : World} {base n c : Nat} {A A2 : Option Addr} {ms : List PartM} {m : PartM} {o : Obj} (h : Inner wr base wr.heap.size A ms)
    (hA : ∀ k, (Value.slice A n c).ownBlock = some k → base ≤ k ∧ k < wr.heap.size) (hbase : base ≤ wr.heap.size) (hb2 : Below wr.heap.size wr w2) (fm : Flat w2 wr.heap.size w2.heap.size 32 3 portC m.pA m.ports) (hpc : m.ports.length ≤ m.pc)
    (e3 : w3 = w2.alloc o) (hfar : ∀ g, g < w2.heap.size + 1 → Apart A g → Apart A2 g ∧ w4.heap[g]? = w3.heap[g]?) (hs4 : w3.heap.size ≤ w4.heap.size) : Inner w4 base w4.heap.size A2 (ms ++ [m]) := by
  have hs2 := hb2.size
  have hs3 : w3.heap.size = w2.heap.size + 1 := by rw [e3]; simp
  have h32 : ∀ g, g < w2.heap.size → w3.heap[g]? = w2.heap[g]? := fun g hg => by rw [e3]; exact (balloc w2 o).block g hg
  -- the block of an older part
  have hold : ∀ m' ∈ ms, ∀ g, m'.pA = some ⟨g, 0, none⟩ → 0 < m'.ports.length → g < wr.heap.size := fun m' hm' g e hp => by
    obtain ⟨g', _, e', _, h2, _⟩ := h.flat m' hm' hp
    rw [e] at e'
    simp only [Option.some.injEq, Addr.mk.injEq] at e'
    omega
  have hnew : ∀ g, m.pA = some ⟨g, 0, none⟩ → 0 < m.ports.length → wr.heap.size ≤ g ∧ g < w2.heap.size := fun g e hp => by
    obtain ⟨g', _, e', h1, h2, _⟩ := fm hp
    rw [e] at e'
    simp only [Option.some.injEq, Addr.mk.injEq] at e'
    omega
  have hAn : ∀ g, wr.heap.size ≤ g → Apart A g := fun g hg b o' e => by
    subst e
    have := hA b rfl
    omega
  refine ⟨fun m' hm' => ?_, fun m' hm' => ?_, fun m' hm' hp g e => ?_, ?_⟩
  · rcases List.mem_append.1 hm' with h1 | h1
    · refine ((h.flat m' h1).keepAt fun g e hp => ?_).mono (Nat.le_refl _) (by omega)
      have hg := hold m' h1 g e hp
      rw [(hfar g (by omega) (h.far m' h1 hp g e)).2, h32 g (by omega), hb2.block g hg]
    · simp only [List.mem_singleton] at h1
      subst h1
      refine (fm.keepAt fun g e hp => ?_).mono hbase (by omega)
      have hg := hnew g e hp
      rw [(hfar g (by omega) (hAn g hg.1)).2, h32 g hg.2]
  · rcases List.mem_append.1 hm' with h1 | h1
    · exact h.cap m' h1
    · simp only [List.mem_singleton] at h1
      subst h1
      exact hpc
  · rcases List.mem_append.1 hm' with h1 | h1
    · have hg := hold m' h1 g e hp
      exact (hfar g (by omega) (h.far m' h1 hp g e)).1
    · simp only [List.mem_singleton] at h1
      subst h1
      have hg := hnew g e hp
      exact (hfar g (by omega) (hAn g hg.1)).1
  · rw [List.pairwise_append]
    refine ⟨h.apart, List.pairwise_singleton _ _, fun m1 h1 m2 h2 hp1 hp2 => ?_⟩
    simp only [List.mem_singleton] at h2
    subst h2
    obtain ⟨g1, _, e1, _⟩ := h.flat m1 h1 hp1
    obtain ⟨g2, _, e2, _⟩ := fm hp2
    have a1 := hold m1 h1 g1 e1 hp1
    have a2 := hnew g2 e2 hp2
    rw [e1, e2]
    intro e
    simp only [Option.some.injEq, Addr.mk.injEq] at e
    omega

/-- A row of parts between lo and hi, each part's ports apart. -/
def FlatQ (w : World) (lo hi : Nat) (A : Option Addr) (ms : List PartM) : Prop := Flat w lo hi 26 5 partC A ms ∧ Inner w lo hi A ms
/-- The same, by its values. -/
def FlatR (w : World) (lo hi : Nat) (A : Option Addr) (vs : List PartT) : Prop := ∃ ms : List PartM, ms.map PartM.val = vs ∧ FlatQ w lo hi A ms
section
variable {w w' : World} {lo hi lo' hi' : Nat} {A : Option Addr} {ms : List PartM} {vs : List PartT}
theorem FlatQ.only {a b : Nat} (h : FlatQ w lo hi A ms) (hb : Only a b w w') (hs : hi ≤ w.heap.size) (hd : hi ≤ a ∨ b ≤ lo) : FlatQ w' lo hi A ms :=
  ⟨h.1.only hb hs hd, fun m hm => (h.2.flat m hm).only hb hs hd, h.2.cap, h.2.far, h.2.apart⟩
theorem FlatQ.below {B : Nat} (h : FlatQ w lo hi A ms) (hb : Below B w w') (hB : hi ≤ B) : FlatQ w' lo hi A ms := ⟨h.1.below hb hB, h.2.below hb hB (Nat.le_refl _)⟩
theorem FlatQ.mono (h : FlatQ w lo hi A ms) (h1 : lo' ≤ lo) (h2 : hi ≤ hi') : FlatQ w lo' hi' A ms := ⟨h.1.mono h1 h2, fun m hm => (h.2.flat m hm).mono h1 h2, h.2.cap, h.2.far, h.2.apart⟩
theorem FlatQ.rd (h : FlatQ w lo hi A ms) : RdP w hi A ms := ⟨h.1.rd, fun m hm => ⟨(h.2.flat m hm).rd, h.2.cap m hm⟩⟩
theorem FlatR.only {a b : Nat} (h : FlatR w lo hi A vs) (hb : Only a b w w') (hs : hi ≤ w.heap.size) (hd : hi ≤ a ∨ b ≤ lo) : FlatR w' lo hi A vs := by
  obtain ⟨ms, e, h⟩ := h
  exact ⟨ms, e, h.only hb hs hd⟩
theorem FlatR.below {B : Nat} (h : FlatR w lo hi A vs) (hb : Below B w w') (hB : hi ≤ B) : FlatR w' lo hi A vs := by
  obtain ⟨ms, e, h⟩ := h
  exact ⟨ms, e, h.below hb hB⟩
theorem FlatR.mono (h : FlatR w lo hi A vs) (h1 : lo' ≤ lo) (h2 : hi ≤ hi') : FlatR w lo' hi' A vs := by
  obtain ⟨ms, e, h⟩ := h
  exact ⟨ms, e, h.mono h1 h2⟩
theorem FlatR.rd (h : FlatR w lo hi A vs) : RdV w hi A vs := by
  obtain ⟨ms, e, h⟩ := h
  exact ⟨ms, e, h.rd⟩
theorem FlatR.nil : FlatR w lo hi A [] := ⟨[], rfl, fun h => absurd h (by simp), Inner.nil⟩
end
/-- What a function gives that makes parts by append, with a code. -/
def GivesParts2 (w : World) (r : List PartT × Int) (e : Ending) (w' : World) : Prop :=
  ∃ A c, e = .returned (.tuple #[.slice A r.1.length c, .int .i64 r.2]) ∧ FlatR w' w.heap.size w'.heap.size A r.1 ∧ r.1.length ≤ c ∧ Below w.heap.size w w'

end Go.Proofs.Ytpdkhmnbabccnaa

namespace Go.Proofs.Ytpdkhmnbabccnaa
set_option maxRecDepth 100000
open Go.RowKit

def GivesCopy (w : World) (x : PartT) (e : Ending) (w' : World) : Prop :=
  ∃ A' c', e = .returned (.agg #[.string x.code, .int .i64 x.slot, .slice A' x.ports.length c', .int .i64 x.price, .int .i64 x.grams]) ∧ Flat w' w.heap.size w'.heap.size 32 3 portC A' x.ports ∧ x.ports.length ≤ c' ∧ Below w.heap.size w w'
theorem set5_heap {w : World} {g1 g : Nat} (h : g ≠ g1) (u0 u1 u2 u3 u4 : Value) : (((((w.setCell ⟨g1, 0, none⟩ u0).setCell ⟨g1, 1, none⟩ u1).setCell ⟨g1, 2, none⟩ u2).setCell ⟨g1, 3, none⟩ u3).setCell ⟨g1, 4, none⟩ u4).heap[g]? = w.heap[g]? := by
  rw [Below.heap_setCell _ _ _ _ (by exact h), Below.heap_setCell _ _ _ _ (by exact h), Below.heap_setCell _ _ _ _ (by exact h), Below.heap_setCell _ _ _ _ (by exact h), Below.heap_setCell _ _ _ _ (by exact h)]
theorem portC_one : ∀ y, ∀ u ∈ portC y, u.oneCell' = true := fun y u hu => by
  simp only [portC, List.mem_cons, List.not_mem_nil, or_false] at hu
  rcases hu with rfl | rfl | rfl <;> rfl

set_option maxHeartbeats 1000000 in
theorem copyPart_any (x : PartT) (pA : Option Addr) (pc : Nat) (w : World) (hr : Rd w w.heap.size 3 portC pA x.ports) (hm : x.ports.length ≤ 1048576) :
    Calls Try.prog 128 #[.agg #[.string x.code, .int .i64 x.slot, .slice pA x.ports.length pc, .int .i64 x.price, .int .i64 x.grams]] w (GivesCopy w x) := by
  have hb3 : Below w.heap.size w (((w.alloc (.cells #[.string x.code, .int .i64 x.slot, .slice pA x.ports.length pc, .int .i64 x.price, .int .i64 x.grams] 26)).alloc (.cells #[.string ⟨#[]⟩, .int .i64 0, .slice none 0 0, .int .i64 0, .int .i64 0] 26)).alloc (.cells #[] 32)) := bthen (bthen (balloc w _) (balloc _ _)) (balloc _ _)
  have hown0 : Own (((w.alloc (.cells #[.string x.code, .int .i64 x.slot, .slice pA x.ports.length pc, .int .i64 x.price, .int .i64 x.grams] 26)).alloc (.cells #[.string ⟨#[]⟩, .int .i64 0, .slice none 0 0, .int .i64 0, .int .i64 0] 26)).alloc (.cells #[] 32)) w.heap.size 32 3 portC (some ⟨w.heap.size + 1 + 1, 0, none⟩) 0 [] := by
    have := Own.made (w := ((w.alloc (.cells #[.string x.code, .int .i64 x.slot, .slice pA x.ports.length pc, .int .i64 x.price, .int .i64 x.grams] 26)).alloc (.cells #[.string ⟨#[]⟩, .int .i64 0, .slice none 0 0, .int .i64 0, .int .i64 0] 26))) (base := w.heap.size) (E := 32) (sz := 3) (f := portC) #[] (by simp; omega) rfl
    simpa using this
  have hrW := hr.below hb3
  go_enter Try.func128, Try.ntmps128
  go_wp2_with (at_builtin; refine wpList_append_slice rfl _ _ _ rfl w.heap.size 32 (.agg #[.int .i64 0, .int .i64 0, .bool false]) 3 24 Try.underlying24 infoPort rfl (by omega) (by omega) portC [] x.ports (some ⟨w.heap.size + 1 + 1, 0, none⟩) 0 rfl hown0 pA pc w.heap.size rfl hrW portC_len portC_one (by simp; omega) (by simp; omega) ?_)
  intro A2 c2 w4 hown4 hb4 hfar
  have hapart : ∀ g, g < w.heap.size + 2 → Apart (some ⟨w.heap.size + 1 + 1, 0, none⟩) g := fun g hg b o e => by
    simp only [Option.some.injEq, Addr.mk.injEq] at e
    omega
  have h30 : (((w.alloc (.cells #[.string x.code, .int .i64 x.slot, .slice pA x.ports.length pc, .int .i64 x.price, .int .i64 x.grams] 26)).alloc (.cells #[.string ⟨#[]⟩, .int .i64 0, .slice none 0 0, .int .i64 0, .int .i64 0] 26)).alloc (.cells #[] 32)).heap.size = w.heap.size + 3 := by simp
  have q0 := hfar w.heap.size (by omega) (hapart _ (by omega))
  have q1 := hfar (w.heap.size + 1) (by omega) (hapart _ (by omega))
  have hs4 := hb4.size
  have y0 : w4.cell? ⟨w.heap.size, 0, none⟩ = some (.string x.code) := (World.cell?_of_block (a := ⟨w.heap.size, 0, none⟩) q0.2).trans (by go_simp)
  have y1 : w4.cell? ⟨w.heap.size, 1, none⟩ = some (.int .i64 x.slot) := (World.cell?_of_block (a := ⟨w.heap.size, 1, none⟩) q0.2).trans (by go_simp)
  have y2 : w4.cell? ⟨w.heap.size, 2, none⟩ = some (.slice pA x.ports.length pc) := (World.cell?_of_block (a := ⟨w.heap.size, 2, none⟩) q0.2).trans (by go_simp)
  have y3 : w4.cell? ⟨w.heap.size, 3, none⟩ = some (.int .i64 x.price) := (World.cell?_of_block (a := ⟨w.heap.size, 3, none⟩) q0.2).trans (by go_simp)
  have y4 : w4.cell? ⟨w.heap.size, 4, none⟩ = some (.int .i64 x.grams) := (World.cell?_of_block (a := ⟨w.heap.size, 4, none⟩) q0.2).trans (by go_simp)
  have z0 : w4.cell? ⟨w.heap.size + 1, 0, none⟩ = some (.string ⟨#[]⟩) := (World.cell?_of_block (a := ⟨w.heap.size + 1, 0, none⟩) q1.2).trans (by go_simp)
  have z1 : w4.cell? ⟨w.heap.size + 1, 1, none⟩ = some (.int .i64 0) := (World.cell?_of_block (a := ⟨w.heap.size + 1, 1, none⟩) q1.2).trans (by go_simp)
  have z2 : w4.cell? ⟨w.heap.size + 1, 2, none⟩ = some (.slice none 0 0) := (World.cell?_of_block (a := ⟨w.heap.size + 1, 2, none⟩) q1.2).trans (by go_simp)
  have z3 : w4.cell? ⟨w.heap.size + 1, 3, none⟩ = some (.int .i64 0) := (World.cell?_of_block (a := ⟨w.heap.size + 1, 3, none⟩) q1.2).trans (by go_simp)
  have z4 : w4.cell? ⟨w.heap.size + 1, 4, none⟩ = some (.int .i64 0) := (World.cell?_of_block (a := ⟨w.heap.size + 1, 4, none⟩) q1.2).trans (by go_simp)
  have f0 : ∀ j, w4.frozen? ⟨w.heap.size, j, none⟩ = false := fun j => (World.frozen?_of_block (a := ⟨w.heap.size, j, none⟩) q0.2).trans (by go_simp)
  have f1 : ∀ j, w4.frozen? ⟨w.heap.size + 1, j, none⟩ = false := fun j => (World.frozen?_of_block (a := ⟨w.heap.size + 1, j, none⟩) q1.2).trans (by go_simp)
  have hcap := hown4.cap
  have HF := Lib.hid ((hown4.flat portC_len)); clear hown4
  have Q0 := Lib.hid q0.1
  have Q1 := Lib.hid q1.1
  have HB := Lib.hid (hb3.trans hb4)
  clear hfar hb4 q0 q1 hapart hown0 hrW hb3
  go_wp2_with fail
  refine bodyPost_ret (v := .agg #[.string x.code, .int .i64 x.slot, .slice A2 x.ports.length c2, .int .i64 x.price, .int .i64 x.grams]) ?_ rfl ?_
  · simp [results, Try.results128, go_sem, cell_set, z0, z1, z2, z3, z4]
  · have hk : ∀ (u0 u1 u2 u3 u4 u5 : Value) g, g ≠ w.heap.size → g ≠ w.heap.size + 1 → ((((((w4.setCell ⟨w.heap.size, 2, none⟩ u0).setCell ⟨w.heap.size + 1, 0, none⟩ u1).setCell ⟨w.heap.size + 1, 1, none⟩ u2).setCell ⟨w.heap.size + 1, 2, none⟩ u3).setCell ⟨w.heap.size + 1, 3, none⟩ u4).setCell ⟨w.heap.size + 1, 4, none⟩ u5).heap[g]? = w4.heap[g]? := fun u0 u1 u2 u3 u4 u5 g h0 h1 => by
      rw [Below.heap_setCell _ _ _ _ (by exact h1), Below.heap_setCell _ _ _ _ (by exact h1), Below.heap_setCell _ _ _ _ (by exact h1), Below.heap_setCell _ _ _ _ (by exact h1), Below.heap_setCell _ _ _ _ (by exact h1), Below.heap_setCell _ _ _ _ (by exact h0)]
    have h0 : w.heap.size ≤ w.heap.size := Nat.le_refl _
    have h1 : w.heap.size ≤ w.heap.size + 1 := by omega
    refine ⟨A2, c2, rfl, (HF.out.keepAt fun g e _ => hk _ _ _ _ _ _ g (Q0.out g 0 e) (Q1.out g 0 e)).mono (Nat.le_refl _) (by simp [World.setCell]), hcap, ?_⟩
    exact (((((HB.out.setCell (p := ⟨w.heap.size, 2, none⟩) h0 _).setCell (p := ⟨w.heap.size + 1, 0, none⟩) h1 _).setCell (p := ⟨w.heap.size + 1, 1, none⟩) h1 _).setCell (p := ⟨w.heap.size + 1, 2, none⟩) h1 _).setCell (p := ⟨w.heap.size + 1, 3, none⟩) h1 _).setCell (p := ⟨w.heap.size + 1, 4, none⟩) h1 _

set_option maxHeartbeats 400000 in
theorem l16Copy_any (x : PartT) (pA : Option Addr) (pc : Nat) (w : World) (hr : Rd w w.heap.size 3 portC pA x.ports) (hm : x.ports.length ≤ 1048576) :
    Calls Try.prog 131 #[.agg #[.string x.code, .int .i64 x.slot, .slice pA x.ports.length pc, .int .i64 x.price, .int .i64 x.grams]] w (GivesCopy w x) := by
  have hb2 : Below w.heap.size w ((w.alloc (.cells #[.string x.code, .int .i64 x.slot, .slice pA x.ports.length pc, .int .i64 x.price, .int .i64 x.grams] 26)).alloc (.cells #[.string ⟨#[]⟩, .int .i64 0, .slice none 0 0, .int .i64 0, .int .i64 0] 26)) := bthen (balloc w _) (balloc _ _)
  have hrW := hr.below hb2
  go_enter Try.func131, Try.ntmps131
  go_wp2_with fail
  have y0 : ((w.alloc (.cells #[.string x.code, .int .i64 x.slot, .slice pA x.ports.length pc, .int .i64 x.price, .int .i64 x.grams] 26)).alloc (.cells #[.string ⟨#[]⟩, .int .i64 0, .slice none 0 0, .int .i64 0, .int .i64 0] 26)).cell? ⟨w.heap.size, 0, none⟩ = some (.string x.code) := by go_simp
  have y1 : ((w.alloc (.cells #[.string x.code, .int .i64 x.slot, .slice pA x.ports.length pc, .int .i64 x.price, .int .i64 x.grams] 26)).alloc (.cells #[.string ⟨#[]⟩, .int .i64 0, .slice none 0 0, .int .i64 0, .int .i64 0] 26)).cell? ⟨w.heap.size, 1, none⟩ = some (.int .i64 x.slot) := by go_simp
  have y2 : ((w.alloc (.cells #[.string x.code, .int .i64 x.slot, .slice pA x.ports.length pc, .int .i64 x.price, .int .i64 x.grams] 26)).alloc (.cells #[.string ⟨#[]⟩, .int .i64 0, .slice none 0 0, .int .i64 0, .int .i64 0] 26)).cell? ⟨w.heap.size, 2, none⟩ = some (.slice pA x.ports.length pc) := by go_simp
  have y3 : ((w.alloc (.cells #[.string x.code, .int .i64 x.slot, .slice pA x.ports.length pc, .int .i64 x.price, .int .i64 x.grams] 26)).alloc (.cells #[.string ⟨#[]⟩, .int .i64 0, .slice none 0 0, .int .i64 0, .int .i64 0] 26)).cell? ⟨w.heap.size, 3, none⟩ = some (.int .i64 x.price) := by go_simp
  have y4 : ((w.alloc (.cells #[.string x.code, .int .i64 x.slot, .slice pA x.ports.length pc, .int .i64 x.price, .int .i64 x.grams] 26)).alloc (.cells #[.string ⟨#[]⟩, .int .i64 0, .slice none 0 0, .int .i64 0, .int .i64 0] 26)).cell? ⟨w.heap.size, 4, none⟩ = some (.int .i64 x.grams) := by go_simp
  have z0 : ((w.alloc (.cells #[.string x.code, .int .i64 x.slot, .slice pA x.ports.length pc, .int .i64 x.price, .int .i64 x.grams] 26)).alloc (.cells #[.string ⟨#[]⟩, .int .i64 0, .slice none 0 0, .int .i64 0, .int .i64 0] 26)).cell? ⟨w.heap.size + 1, 0, none⟩ = some (.string ⟨#[]⟩) := by go_simp
  have z1 : ((w.alloc (.cells #[.string x.code, .int .i64 x.slot, .slice pA x.ports.length pc, .int .i64 x.price, .int .i64 x.grams] 26)).alloc (.cells #[.string ⟨#[]⟩, .int .i64 0, .slice none 0 0, .int .i64 0, .int .i64 0] 26)).cell? ⟨w.heap.size + 1, 1, none⟩ = some (.int .i64 0) := by go_simp
  have z2 : ((w.alloc (.cells #[.string x.code, .int .i64 x.slot, .slice pA x.ports.length pc, .int .i64 x.price, .int .i64 x.grams] 26)).alloc (.cells #[.string ⟨#[]⟩, .int .i64 0, .slice none 0 0, .int .i64 0, .int .i64 0] 26)).cell? ⟨w.heap.size + 1, 2, none⟩ = some (.slice none 0 0) := by go_simp
  have z3 : ((w.alloc (.cells #[.string x.code, .int .i64 x.slot, .slice pA x.ports.length pc, .int .i64 x.price, .int .i64 x.grams] 26)).alloc (.cells #[.string ⟨#[]⟩, .int .i64 0, .slice none 0 0, .int .i64 0, .int .i64 0] 26)).cell? ⟨w.heap.size + 1, 3, none⟩ = some (.int .i64 0) := by go_simp
  have z4 : ((w.alloc (.cells #[.string x.code, .int .i64 x.slot, .slice pA x.ports.length pc, .int .i64 x.price, .int .i64 x.grams] 26)).alloc (.cells #[.string ⟨#[]⟩, .int .i64 0, .slice none 0 0, .int .i64 0, .int .i64 0] 26)).cell? ⟨w.heap.size + 1, 4, none⟩ = some (.int .i64 0) := by go_simp
  have f1 : ∀ j, ((w.alloc (.cells #[.string x.code, .int .i64 x.slot, .slice pA x.ports.length pc, .int .i64 x.price, .int .i64 x.grams] 26)).alloc (.cells #[.string ⟨#[]⟩, .int .i64 0, .slice none 0 0, .int .i64 0, .int .i64 0] 26)).frozen? ⟨w.heap.size + 1, j, none⟩ = false := fun j => by go_simp
  have hs2 : ((w.alloc (.cells #[.string x.code, .int .i64 x.slot, .slice pA x.ports.length pc, .int .i64 x.price, .int .i64 x.grams] 26)).alloc (.cells #[.string ⟨#[]⟩, .int .i64 0, .slice none 0 0, .int .i64 0, .int .i64 0] 26)).heap.size ≤ w.heap.size + 2 := by simp
  have hs3 : w.heap.size + 2 ≤ ((w.alloc (.cells #[.string x.code, .int .i64 x.slot, .slice pA x.ports.length pc, .int .i64 x.price, .int .i64 x.grams] 26)).alloc (.cells #[.string ⟨#[]⟩, .int .i64 0, .slice none 0 0, .int .i64 0, .int .i64 0] 26)).heap.size := by simp
  generalize ((w.alloc (.cells #[.string x.code, .int .i64 x.slot, .slice pA x.ports.length pc, .int .i64 x.price, .int .i64 x.grams] 26)).alloc (.cells #[.string ⟨#[]⟩, .int .i64 0, .slice none 0 0, .int .i64 0, .int .i64 0] 26)) = W at y0 y1 y2 y3 y4 z0 z1 z2 z3 z4 f1 hs2 hs3 hb2 hrW ⊢
  generalize hg1 : w.heap.size + 1 = g1 at z0 z1 z2 z3 z4 f1 ⊢
  generalize hg0 : w.heap.size = g0 at y0 y1 y2 y3 y4 hb2 hrW hs2 hs3 ⊢
  have hownE : ∀ v : World, v.heap.size = W.heap.size → Own (v.alloc (.cells #[] 32)) g0 32 3 portC (some ⟨W.heap.size, 0, none⟩) 0 [] := fun v hv => by
    have := Own.made (w := v) (base := g0) (E := 32) (sz := 3) (f := portC) #[] (by omega) rfl
    rwa [hv] at this
  have HO := Lib.hid hownE; clear hownE
  have HR : Hid (∀ v : World, Below W.heap.size W v → Rd v g0 3 portC pA x.ports) := fun v hv => hrW.below (hv.mono (by omega))
  have HS : Hid (∀ v : World, v.heap[g0]? = W.heap[g0]? → v.cell? ⟨g0, 0, none⟩ = some (.string x.code) ∧ v.cell? ⟨g0, 1, none⟩ = some (.int .i64 x.slot) ∧ v.cell? ⟨g0, 2, none⟩ = some (.slice pA x.ports.length pc) ∧ v.cell? ⟨g0, 3, none⟩ = some (.int .i64 x.price) ∧ v.cell? ⟨g0, 4, none⟩ = some (.int .i64 x.grams)) := fun v hv => ⟨(World.cell?_of_block (a := ⟨g0, 0, none⟩) hv).trans y0, (World.cell?_of_block (a := ⟨g0, 1, none⟩) hv).trans y1, (World.cell?_of_block (a := ⟨g0, 2, none⟩) hv).trans y2, (World.cell?_of_block (a := ⟨g0, 3, none⟩) hv).trans y3, (World.cell?_of_block (a := ⟨g0, 4, none⟩) hv).trans y4⟩
  have hSA := Lib.hid (fun o : Obj => HS.out (W.alloc o) ((balloc W o).block g0 (by omega)))
  have hSB := Lib.hid (fun o : Obj => HS.out (W.alloc o).drew ((balloc W o).block g0 (by omega)))
  have hg01 : g0 ≠ g1 := by omega
  have hAp : ∀ g, g < W.heap.size → Apart (some ⟨W.heap.size, 0, none⟩) g := fun g hg b o e => by
    simp only [Option.some.injEq, Addr.mk.injEq] at e
    omega
  go_region_held3 (fun w' => w'.cell? ⟨g0, 0, none⟩ = some (.string x.code) ∧ w'.cell? ⟨g0, 1, none⟩ = some (.int .i64 x.slot) ∧ w'.cell? ⟨g0, 2, none⟩ = some (.slice pA x.ports.length pc) ∧ w'.cell? ⟨g0, 3, none⟩ = some (.int .i64 x.price) ∧ w'.cell? ⟨g0, 4, none⟩ = some (.int .i64 x.grams)) (first | (with_reducible exact hS5.out _ _ _ _ _) | (with_reducible exact hSS.out) | (with_reducible exact HS.out _ rfl) | (with_reducible exact hSA.out _) | (with_reducible exact hSB.out _) | go_keep)
    ((refine step_append_slice (by rfl) _ _ _ (by rfl) g0 32 (.agg #[.int .i64 0, .int .i64 0, .bool false]) 3 24 Try.underlying24 infoPort rfl (by omega) (by omega) portC [] x.ports (some ⟨W.heap.size, 0, none⟩) 0 (by rfl) (by first | exact HO.out _ rfl | exact (HO.out _ rfl).keep (bdrew _)) pA pc g0 (by rfl) (by first | exact HR.out _ (balloc _ _) | exact HR.out _ ((balloc _ _).drew)) portC_len portC_one (by simp; omega) (by simp; omega) ?_; intro A2 c2 w4 hown4 hb4 hfar; have hp0 := hfar g0 (by first | omega | (simp; omega)) (hAp g0 (by omega)); have hp1 := hfar g1 (by first | omega | (simp; omega)) (hAp g1 (by omega)); have hq0 : w4.heap[g0]? = W.heap[g0]? := hp0.2.trans ((balloc W _).block g0 (by omega)); have hq1 : w4.heap[g1]? = W.heap[g1]? := hp1.2.trans ((balloc W _).block g1 (by omega)); have f2 : ∀ j, w4.frozen? ⟨g1, j, none⟩ = false := (fun j => (World.frozen?_of_block (a := ⟨g1, j, none⟩) hq1).trans (f1 j)); have x0 := (World.cell?_of_block (a := ⟨g1, 0, none⟩) hq1).trans z0; have x1 := (World.cell?_of_block (a := ⟨g1, 1, none⟩) hq1).trans z1; have x2 := (World.cell?_of_block (a := ⟨g1, 2, none⟩) hq1).trans z2; have x3 := (World.cell?_of_block (a := ⟨g1, 3, none⟩) hq1).trans z3; have x4 := (World.cell?_of_block (a := ⟨g1, 4, none⟩) hq1).trans z4; have hSS := Lib.hid (HS.out _ hq0); have hS5 := Lib.hid (fun u0 u1 u2 u3 u4 : Value => HS.out _ ((set5_heap hg01 u0 u1 u2 u3 u4).trans hq0)); have Q0 := Lib.hid hp0.1; have Q1 := Lib.hid hp1.1; have HF := Lib.hid (hown4.flat portC_len); have HC := Lib.hid hown4.cap; have HB := Lib.hid hb4; clear hfar hp0 hp1 hq0 hq1 hown4 hb4))
  go_wp2_with fail
  refine bodyPost_ret (v := .agg #[.string x.code, .int .i64 x.slot, .slice A2 x.ports.length c2, .int .i64 x.price, .int .i64 x.grams]) ?_ rfl ?_
  · simp [results, Try.results131, go_sem, cell_set, x0, x1, x2, x3, x4]
  · subst hg0
    have h1 : w.heap.size ≤ g1 := by omega
    refine ⟨A2, c2, rfl, (HF.out.keepAt fun g e _ => set5_heap (Q1.out g 0 e) _ _ _ _ _).mono (Nat.le_refl _) (by simp [World.setCell]), HC.out, ?_⟩
    exact ((((((hb2.trans ((balloc W _).drew.mono (by omega))).trans HB.out).setCell (p := ⟨g1, 0, none⟩) h1 _).setCell (p := ⟨g1, 1, none⟩) h1 _).setCell (p := ⟨g1, 2, none⟩) h1 _).setCell (p := ⟨g1, 3, none⟩) h1 _).setCell (p := ⟨g1, 4, none⟩) h1 _

end Go.Proofs.Ytpdkhmnbabccnaa

namespace Go.Proofs.Ytpdkhmnbabccnaa
set_option maxRecDepth 100000
open Go.RowKit

def idP (x : PartT) : PartT := x
def notCode (code : ByteArray) (x : PartT) : Bool := decide (¬ x.code = code)
def dropR (vs : List PartT) (code : ByteArray) : List PartT × Int := if partsB vs = true then (if findI vs code < 0 then ([], 4) else (keepTo (notCode code) idP vs vs.length, 0)) else ([], 1)
theorem five_cells {w : World} {g : Nat} {v0 v1 v2 v3 v4 : Value} (h0 : w.cell? ⟨g, 0, none⟩ = some v0) (h1 : w.cell? ⟨g, 1, none⟩ = some v1) (h2 : w.cell? ⟨g, 2, none⟩ = some v2) (h3 : w.cell? ⟨g, 3, none⟩ = some v3) (h4 : w.cell? ⟨g, 4, none⟩ = some v4) :
    ∀ j u, [v0, v1, v2, v3, v4][j]? = some u → w.cell? ⟨g, j, none⟩ = some u
  | 0, u, hj => by simp at hj; rw [← hj]; exact h0
  | 1, u, hj => by simp at hj; rw [← hj]; exact h1
  | 2, u, hj => by simp at hj; rw [← hj]; exact h2
  | 3, u, hj => by simp at hj; rw [← hj]; exact h3
  | 4, u, hj => by simp at hj; rw [← hj]; exact h4
  | _ + 5, u, hj => by simp at hj
theorem partC_one (m : PartM) : ∀ u ∈ partC m, u.oneCell' = true := fun u hu => by
  simp only [partC, List.mem_cons, List.not_mem_nil, or_false] at hu
  rcases hu with rfl | rfl | rfl | rfl | rfl <;> rfl
/-- A slice of parts that grows. -/
def GrowP (base : Nat) (w : World) (A : Option Addr) (c : Nat) (ms : List PartM) : Prop := Own w base 26 5 partC A c ms ∧ Inner w base w.heap.size A ms
theorem GrowP.step {base : Nat} {w w' : World} {A : Option Addr} {c : Nat} {ms : List PartM} (h : GrowP base w A c ms) (hb : Below w.heap.size w w') : GrowP base w' A c ms := ⟨h.1.keep hb, h.2.below hb (Nat.le_refl _) hb.size⟩

set_option maxHeartbeats 2000000 in
theorem DropPart_impl (A : Option Addr) (c : Nat) (vs : List PartT) (code : ByteArray) (w : World) (hr : RdV w w.heap.size A vs) (hs : SmallV vs) :
    Calls Try.prog 30 #[.slice A vs.length c, .string code] w (GivesParts2 w (dropR vs code)) := by
  have hJ := areParts_impl A c vs w hr hs.1 hs.2
  have hm := hs.1
  have hs2 := Lib.hid hs.2
  have hbd := findI_bd vs code hs.1
  have HF0 : Hid (∀ v : World, RdV v v.heap.size A vs → Calls Try.prog 127 #[.slice A vs.length c, .string code] v fun e w' => e = .returned (.int .i64 (findI vs code)) ∧ Below v.heap.size v w') := fun v hv => findPart_any A c vs code v hv hs.1
  clear hs
  rcases codeI_cases vs code with ⟨hp, _⟩ | ⟨hp, hn, _⟩ | ⟨hp, hn, _⟩
  · have HF : Hid (dropR vs code = ([], 1)) := by unfold Hid dropR; rw [if_neg (by simp [hp])]
    generalize dropR vs code = R at HF ⊢
    rw [hp] at hJ
    have HJ := Lib.hid hJ; clear hJ hp
    go_enter Try.func30, Try.ntmps30
    go_wp2_with fail
    refine HJ.out.mono ?_
    rintro e w1 ⟨rfl, hb1⟩
    go_wp2_with fail
    go_ret2
    exact ⟨none, 0, by rw [HF.out]; rfl, by rw [HF.out]; exact FlatR.nil, by rw [HF.out]; exact Nat.le_refl _, hb1⟩
  · have HF : Hid (dropR vs code = ([], 4)) := by unfold Hid dropR; rw [if_pos hp, if_pos hn]
    generalize dropR vs code = R at HF ⊢
    rw [hp] at hJ
    have HJ := Lib.hid hJ; clear hJ hp
    generalize findI vs code = n at hbd hn HF0
    go_enter Try.func30, Try.ntmps30
    go_wp2_with fail
    refine HJ.out.mono ?_
    rintro e w1 ⟨rfl, hb1⟩
    go_wp2_with fail
    refine (HF0.out w1 (hr.next hb1)).mono ?_
    rintro e w2 ⟨rfl, hb2⟩
    go_wp2_with fail
    go_ret2
    exact ⟨none, 0, by rw [HF.out]; rfl, by rw [HF.out]; exact FlatR.nil, by rw [HF.out]; exact Nat.le_refl _, bthen hb1 hb2⟩
  · have HF : Hid (dropR vs code = (keepTo (notCode code) idP vs vs.length, 0)) := by unfold Hid dropR; rw [if_pos hp, if_neg (by omega)]
    generalize dropR vs code = R at HF ⊢
    have hlen := partsB_len hp
    rw [hp] at hJ
    have HJ := Lib.hid hJ; clear hJ hp
    generalize findI vs code = n at hbd hn HF0
    go_enter Try.func30, Try.ntmps30
    go_wp2_with fail
    refine HJ.out.mono ?_
    rintro e w1 ⟨rfl, hb1⟩
    go_wp2_with fail
    refine (HF0.out w1 (hr.next hb1)).mono ?_
    rintro e w2 ⟨rfl, hb2⟩
    have hb12 := bthen hb1 hb2
    clear hb1 hb2
    go_wp2_with fail
    go_loopw [6, 18] (fun out i wr => ∃ (k : Nat) (A' : Option Addr) (c' : Nat) (ms : List PartM), k ≤ vs.length ∧ i = .int .i64 k ∧ out = .slice A' ms.length c' ∧ ms.map PartM.val = keepTo (notCode code) idP vs k ∧ GrowP w.heap.size wr A' c' ms ∧ Below w.heap.size w wr) (fun _ i _ => vs.length - (intOf i).toNat)
    case atStart => exact ⟨0, _, _, [], Nat.zero_le _, rfl, rfl, rfl, ⟨Own.nil, Inner.nil⟩, hb12⟩
    case round =>
      obtain ⟨k, A', c', ms, hk, rfl, rfl, hval, hown, hb⟩ := hrel
      have Ho := Lib.hid hown; clear hown
      have Hv := Lib.hid hval; clear hval
      have hml : ms.length ≤ k := by
        have := congrArg List.length Hv.out
        rw [List.length_map] at this
        rw [this]
        exact keepTo_le _ _ _ _
      by_cases hlt : k < vs.length
      · have hx : vs[k]? = some vs[k] := List.getElem?_eq_getElem hlt
        obtain ⟨b, o, rfl⟩ := hr.addr (by omega)
        obtain ⟨hB, pA, pc, q0, q1, q2, q3, q4, hpr, _⟩ := (hr.below hb).cells hx
        generalize vs[k] = t at q0 q1 q2 q3 q4 hx hpr
        have hpl := (hs2.out t (List.mem_of_getElem? hx)).2
        have Hx := Lib.hid hx; clear hx
        by_cases hc : t.code = code
        · have HD := Lib.hid (keepTo_no (p := notCode code) (g := idP) Hx.out (by simp [notCode, hc]))
          have hcc : (t.code.toList == code.toList) = true := by simp [hc]
          clear hc
          go_wp2_with fail
          exact ⟨⟨k + 1, A', c', ms, by omega, by go_num, rfl, by rw [Hv.out, HD.out], Ho.out.step (balloc _ _), (hb.alloc hb.size (.cells #[.string t.code, .int .i64 t.slot, .slice pA t.ports.length pc, .int .i64 t.price, .int .i64 t.grams] 26))⟩, by simp [intOf]; omega⟩
        · have HD := Lib.hid (keepTo_yes (p := notCode code) (g := idP) Hx.out (by simp [notCode, hc]))
          have hcc : (t.code.toList == code.toList) = false := by simp; exact fun e => hc (str_eq.1 e)
          clear hc
          go_wp2_with fail
          have hprV : Rd (wr.alloc (.cells #[.string t.code, .int .i64 t.slot, .slice pA t.ports.length pc, .int .i64 t.price, .int .i64 t.grams] 26)) (wr.alloc (.cells #[.string t.code, .int .i64 t.slot, .slice pA t.ports.length pc, .int .i64 t.price, .int .i64 t.grams] 26)).heap.size 3 portC pA t.ports := (hpr.more hb.size).next (balloc wr _)
          have HoV := Lib.hid (Ho.out.step (balloc wr (.cells #[.string t.code, .int .i64 t.slot, .slice pA t.ports.length pc, .int .i64 t.price, .int .i64 t.grams] 26)))
          have hbV := hb.alloc hb.size (.cells #[.string t.code, .int .i64 t.slot, .slice pA t.ports.length pc, .int .i64 t.price, .int .i64 t.grams] 26)
          generalize (wr.alloc (.cells #[.string t.code, .int .i64 t.slot, .slice pA t.ports.length pc, .int .i64 t.price, .int .i64 t.grams] 26)) = V at hprV HoV hbV ⊢
          clear q0 q1 q2 q3 q4 hpr Ho hb
          refine (copyPart_any t pA pc V hprV hpl).mono ?_
          rintro e w2 ⟨A1, c1, rfl, f1, hc1, hb2⟩
          have hs2' := hb2.size
          have hbase := hbV.size
          have f1' := Lib.hid f1; clear f1
          have hb2' := Lib.hid hb2; clear hb2
          go_wp2_with (at_builtin; refine wpList_append_far rfl _ _ _ rfl w.heap.size 26 (.agg #[.string ⟨#[]⟩, .int .i64 0, .slice none 0 0, .int .i64 0, .int .i64 0]) 5 64 Try.underlying41 infoPart rfl (by omega) (by omega) partC ms ⟨t.code, t.slot, A1, c1, t.ports, t.price, t.grams⟩ A' c' rfl ((HoV.out.1.keep hb2'.out).keep (balloc _ _)) (w2.heap.size) _ rfl rfl (five_cells (by go_simp) (by go_simp) (by go_simp) (by go_simp) (by go_simp)) (partC_one _) (by omega) (by simp; omega) ?_)
          intro A2 c2 w4 hown4 hb4 hfar
          have hI := Lib.hid (HoV.out.2.append (m := ⟨t.code, t.slot, A1, c1, t.ports, t.price, t.grams⟩) HoV.out.1.lt hbase hb2'.out f1'.out hc1 rfl hfar hb4.size)
          have Ho4 := Lib.hid hown4; clear hown4 hfar
          have hb4' := Lib.hid hb4; clear hb4
          go_wp2_with fail
          exact ⟨⟨k + 1, A2, c2, ms ++ [⟨t.code, t.slot, A1, c1, t.ports, t.price, t.grams⟩], by omega, by go_num, by simp, by rw [HD.out, List.map_append, Hv.out]; rfl, ⟨Ho4.out, hI.out⟩, (bthen' (bthen' hbV hb2'.out) (balloc _ _)).trans hb4'.out⟩, by simp [intOf]; omega⟩
      · obtain rfl : k = vs.length := by omega
        go_wp2_with fail
        go_ret2
        exact ⟨A', c', by rw [HF.out, ← Hv.out]; simp only [List.length_map]; rfl, by rw [HF.out]; exact ⟨ms, Hv.out, Ho.out.1.flat partC_len, Ho.out.2⟩, by rw [HF.out, ← Hv.out]; simp only [List.length_map]; exact Ho.out.1.cap, hb⟩

set_option maxHeartbeats 2000000 in
theorem DropPart_spec (A : Option Addr) (c : Nat) (vs : List PartT) (code : ByteArray) (w : World) (hr : RdV w w.heap.size A vs) (hs : SmallV vs) :
    Calls Try.prog 31 #[.slice A vs.length c, .string code] w (GivesParts2 w (dropR vs code)) := by
  have hJ := l16Code_any A c vs code w hr hs
  have hm := hs.1
  have hs2 := Lib.hid hs.2
  clear hs
  rcases codeI_cases vs code with ⟨hp, e⟩ | ⟨hp, hn, e⟩ | ⟨hp, hn, e⟩
  · have HF : Hid (dropR vs code = ([], 1)) := by unfold Hid dropR; rw [if_neg (by simp [hp])]
    generalize dropR vs code = R at HF ⊢
    rw [e] at hJ
    have HJ := Lib.hid hJ; clear hJ hp e
    go_enter Try.func31, Try.ntmps31
    go_wp2_with fail
    refine HJ.out.mono ?_
    rintro e w1 ⟨rfl, hb1⟩
    go_wp2_with fail
    go_ret2
    exact ⟨none, 0, by rw [HF.out]; rfl, by rw [HF.out]; exact FlatR.nil, by rw [HF.out]; exact Nat.le_refl _, hb1⟩
  · have HF : Hid (dropR vs code = ([], 4)) := by unfold Hid dropR; rw [if_pos hp, if_pos hn]
    generalize dropR vs code = R at HF ⊢
    rw [e] at hJ
    have HJ := Lib.hid hJ; clear hJ hp e hn
    go_enter Try.func31, Try.ntmps31
    go_wp2_with fail
    refine HJ.out.mono ?_
    rintro e w1 ⟨rfl, hb1⟩
    go_wp2_with fail
    go_ret2
    exact ⟨none, 0, by rw [HF.out]; rfl, by rw [HF.out]; exact FlatR.nil, by rw [HF.out]; exact Nat.le_refl _, hb1⟩
  · have HF : Hid (dropR vs code = (keepTo (notCode code) idP vs vs.length, 0)) := by unfold Hid dropR; rw [if_pos hp, if_neg (by omega)]
    generalize dropR vs code = R at HF ⊢
    have hlen := partsB_len hp
    rw [e] at hJ
    have HJ := Lib.hid hJ; clear hJ hp e hn
    go_enter Try.func31, Try.ntmps31
    go_wp2_with fail
    refine HJ.out.mono ?_
    rintro e w1 ⟨rfl, hb12⟩
    go_wp2_with fail
    go_loopw [7, 8] (fun out i wr => ∃ (k : Nat) (A' : Option Addr) (c' : Nat) (ms : List PartM), k ≤ vs.length ∧ i = .int .i64 k ∧ out = .slice A' ms.length c' ∧ ms.map PartM.val = keepTo (notCode code) idP vs k ∧ GrowP w.heap.size wr A' c' ms ∧ Below w.heap.size w wr) (fun _ i _ => vs.length - (intOf i).toNat)
    case atStart => exact ⟨0, _, _, [], Nat.zero_le _, rfl, rfl, rfl, ⟨Own.made _ hb12.size rfl, Inner.nil⟩, bthen hb12 (balloc _ _)⟩
    case round =>
      obtain ⟨k, A', c', ms, hk, rfl, rfl, hval, hown, hb⟩ := hrel
      have Ho := Lib.hid hown; clear hown
      have Hv := Lib.hid hval; clear hval
      have hml : ms.length ≤ k := by
        have := congrArg List.length Hv.out
        rw [List.length_map] at this
        rw [this]
        exact keepTo_le _ _ _ _
      by_cases hlt : k < vs.length
      · have hx : vs[k]? = some vs[k] := List.getElem?_eq_getElem hlt
        obtain ⟨b, o, rfl⟩ := hr.addr (by omega)
        obtain ⟨hB, pA, pc, q0, q1, q2, q3, q4, hpr, _⟩ := (hr.below hb).cells hx
        generalize vs[k] = t at q0 q1 q2 q3 q4 hx hpr
        have hpl := (hs2.out t (List.mem_of_getElem? hx)).2
        have Hx := Lib.hid hx; clear hx
        by_cases hc : t.code = code
        · have HD := Lib.hid (keepTo_no (p := notCode code) (g := idP) Hx.out (by simp [notCode, hc]))
          have hcc : (t.code.toList == code.toList) = true := by simp [hc]
          clear hc
          go_wp2_with fail
          exact ⟨⟨k + 1, A', c', ms, by omega, by go_num, rfl, by rw [Hv.out, HD.out], Ho.out, hb⟩, by simp [intOf]; omega⟩
        · have HD := Lib.hid (keepTo_yes (p := notCode code) (g := idP) Hx.out (by simp [notCode, hc]))
          have hcc : (t.code.toList == code.toList) = false := by simp; exact fun e => hc (str_eq.1 e)
          clear hc
          go_wp2_with fail
          have hprV := hpr.more hb.size
          have HoV := Lib.hid Ho.out
          have hbV := hb
          clear q0 q1 q2 q3 q4 hpr Ho hb
          generalize wr = V at hprV HoV hbV ⊢
          refine (l16Copy_any t pA pc V hprV hpl).mono ?_
          rintro e w2 ⟨A1, c1, rfl, f1, hc1, hb2⟩
          have hs2' := hb2.size
          have hbase := hbV.size
          have f1' := Lib.hid f1; clear f1
          have hb2' := Lib.hid hb2; clear hb2
          go_wp2_with (at_builtin; refine wpList_append_far rfl _ _ _ rfl w.heap.size 26 (.agg #[.string ⟨#[]⟩, .int .i64 0, .slice none 0 0, .int .i64 0, .int .i64 0]) 5 64 Try.underlying41 infoPart rfl (by omega) (by omega) partC ms ⟨t.code, t.slot, A1, c1, t.ports, t.price, t.grams⟩ A' c' rfl ((HoV.out.1.keep hb2'.out).keep (balloc _ _)) (w2.heap.size) _ rfl rfl (five_cells (by go_simp) (by go_simp) (by go_simp) (by go_simp) (by go_simp)) (partC_one _) (by omega) (by simp; omega) ?_)
          intro A2 c2 w4 hown4 hb4 hfar
          have hI := Lib.hid (HoV.out.2.append (m := ⟨t.code, t.slot, A1, c1, t.ports, t.price, t.grams⟩) HoV.out.1.lt hbase hb2'.out f1'.out hc1 rfl hfar hb4.size)
          have Ho4 := Lib.hid hown4; clear hown4 hfar
          have hb4' := Lib.hid hb4; clear hb4
          go_wp2_with fail
          exact ⟨⟨k + 1, A2, c2, ms ++ [⟨t.code, t.slot, A1, c1, t.ports, t.price, t.grams⟩], by omega, by go_num, by simp, by rw [HD.out, List.map_append, Hv.out]; rfl, ⟨Ho4.out, hI.out⟩, (bthen' (bthen' hbV hb2'.out) (balloc _ _)).trans hb4'.out⟩, by simp [intOf]; omega⟩
      · obtain rfl : k = vs.length := by omega
        go_wp2_with fail
        go_ret2
        exact ⟨A', c', by rw [HF.out, ← Hv.out]; simp only [List.length_map]; rfl, by rw [HF.out]; exact ⟨ms, Hv.out, Ho.out.1.flat partC_len, Ho.out.2⟩, by rw [HF.out, ← Hv.out]; simp only [List.length_map]; exact Ho.out.1.cap, hb⟩

end Go.Proofs.Ytpdkhmnbabccnaa

namespace Go.Proofs.Ytpdkhmnbabccnaa
set_option maxRecDepth 100000
open Go.RowKit

theorem Inner.only {w w' : World} {lo hi hi' a b : Nat} {A : Option Addr} {ms : List PartM} (h : Inner w lo hi A ms) (hb : Only a b w w') (hs : hi ≤ w.heap.size) (hd : hi ≤ a ∨ b ≤ lo) (hh : hi ≤ hi') : Inner w' lo hi' A ms :=
  ⟨fun m hm => ((h.flat m hm).only hb hs hd).mono (Nat.le_refl _) hh, h.cap, h.far, h.apart⟩
/-- One part more: its ports are new, the row has grown; a block below the base may have turned. -/
theorem Inner.appendO {wr w2 w3 w4 : World} {base n c b : Nat} {A A2 : Option Addr} {ms : List PartM} {m : PartM} {o : Obj} (h : Inner wr base wr.heap.size A ms)
    (hA : ∀ k, (Value.slice A n c).ownBlock = some k → base ≤ k ∧ k < wr.heap.size) (hbase : base ≤ wr.heap.size) (hb2 : Only b (b + 1) wr w2) (hbb : b < base) (fm : Flat w2 wr.heap.size w2.heap.size 32 3 portC m.pA m.ports) (hpc : m.ports.length ≤ m.pc)
    (e3 : w3 = w2.alloc o) (hfar : ∀ g, g < w2.heap.size + 1 → Apart A g → Apart A2 g ∧ w4.heap[g]? = w3.heap[g]?) (hs4 : w3.heap.size ≤ w4.heap.size) : Inner w4 base w4.heap.size A2 (ms ++ [m]) := by
  have hs2 := hb2.size
  have hs3 : w3.heap.size = w2.heap.size + 1 := by rw [e3]; simp
  have h32 : ∀ g, g < w2.heap.size → w3.heap[g]? = w2.heap[g]? := fun g hg => by rw [e3]; exact (balloc w2 o).block g hg
  have hold : ∀ m' ∈ ms, ∀ g, m'.pA = some ⟨g, 0, none⟩ → 0 < m'.ports.length → base ≤ g ∧ g < wr.heap.size := fun m' hm' g e hp => by
    obtain ⟨g', _, e', h1, h2, _⟩ := h.flat m' hm' hp
    rw [e] at e'
    simp only [Option.some.injEq, Addr.mk.injEq] at e'
    omega
  have hnew : ∀ g, m.pA = some ⟨g, 0, none⟩ → 0 < m.ports.length → wr.heap.size ≤ g ∧ g < w2.heap.size := fun g e hp => by
    obtain ⟨g', _, e', h1, h2, _⟩ := fm hp
    rw [e] at e'
    simp only [Option.some.injEq, Addr.mk.injEq] at e'
    omega
  have hAn : ∀ g, wr.heap.size ≤ g → Apart A g := fun g hg b o' e => by
    subst e
    have := hA b rfl
    omega
  refine ⟨fun m' hm' => ?_, fun m' hm' => ?_, fun m' hm' hp g e => ?_, ?_⟩
  · rcases List.mem_append.1 hm' with h1 | h1
    · refine ((h.flat m' h1).keepAt fun g e hp => ?_).mono (Nat.le_refl _) (by omega)
      have hg := hold m' h1 g e hp
      rw [(hfar g (by omega) (h.far m' h1 hp g e)).2, h32 g (by omega), hb2.block g hg.2 (by omega)]
    · simp only [List.mem_singleton] at h1
      subst h1
      refine (fm.keepAt fun g e hp => ?_).mono hbase (by omega)
      have hg := hnew g e hp
      rw [(hfar g (by omega) (hAn g hg.1)).2, h32 g hg.2]
  · rcases List.mem_append.1 hm' with h1 | h1
    · exact h.cap m' h1
    · simp only [List.mem_singleton] at h1
      subst h1
      exact hpc
  · rcases List.mem_append.1 hm' with h1 | h1
    · have hg := hold m' h1 g e hp
      exact (hfar g (by omega) (h.far m' h1 hp g e)).1
    · simp only [List.mem_singleton] at h1
      subst h1
      have hg := hnew g e hp
      exact (hfar g (by omega) (hAn g hg.1)).1
  · rw [List.pairwise_append]
    refine ⟨h.apart, List.pairwise_singleton _ _, fun m1 h1 m2 h2 hp1 hp2 => ?_⟩
    simp only [List.mem_singleton] at h2
    subst h2
    obtain ⟨g1, _, e1, _⟩ := h.flat m1 h1 hp1
    obtain ⟨g2, _, e2, _⟩ := fm hp2
    have a1 := hold m1 h1 g1 e1 hp1
    have a2 := hnew g2 e2 hp2
    rw [e1, e2]
    intro e
    simp only [Option.some.injEq, Addr.mk.injEq] at e
    omega

def SmallM (m : PartM) : Prop := m.code.size ≤ 64 ∧ m.ports.length ≤ 64
def PartT.at_ (x : PartT) (pA : Option Addr) (pc : Nat) : PartM := ⟨x.code, x.slot, pA, pc, x.ports, x.price, x.grams⟩
/-- A list of parts that grows, a table of texts in block nt, a source in hand. -/
structure ListSt (V w : World) (b : Nat) (A : Option Addr) (c : Nat) (xs : List Int) (nt : Nat) (tb : Array Value) (LA : Option Addr) (lc : Nat) (ms : List PartM) : Prop where
  feed : Feed w b A c xs
  own : Own w V.heap.size 26 5 partC LA lc ms
  inner : Inner w V.heap.size w.heap.size LA ms
  old : Only b (b + 1) V w
  lt : b < V.heap.size
  small : ∀ m ∈ ms, SmallM m
  tab : w.heap[nt]? = some (.cells tb 9 (0, 0))
  ntV : V.heap.size ≤ nt
section
variable {V w w' : World} {b c lc nt : Nat} {A LA : Option Addr} {xs : List Int} {tb : Array Value} {ms : List PartM}
theorem ListSt.turn (h : ListSt V w b A c xs nt tb LA lc ms) (hF : Feed w' b A c xs) (hO : Only b (b + 1) w w') : ListSt V w' b A c xs nt tb LA lc ms := by
  have := h.lt
  have := h.ntV
  have hnt := (Array.getElem?_eq_some_iff.1 h.tab).1
  exact ⟨hF, h.own.only hO (by omega), h.inner.only hO (Nat.le_refl _) (Or.inr (by omega)) hO.size, h.old.trans hO, h.lt, h.small, (hO.block nt hnt (by omega)).trans h.tab, h.ntV⟩
theorem ListSt.next (h : ListSt V w b A c xs nt tb LA lc ms) (hb : Below w.heap.size w w') : ListSt V w' b A c xs nt tb LA lc ms := h.turn (h.feed.next hb) (Only.of_below hb)
theorem ListSt.cell (h : ListSt V w b A c xs nt tb LA lc ms) {k : Nat} {v : Value} (hv : tb[k]? = some v) : w.cell? ⟨nt, k, none⟩ = some v := by
  rw [cell_of_row w nt k tb 9 (0, 0) h.tab]
  exact hv
/-- A part more. -/
theorem ListSt.grow {w2 w4 : World} {x : PartT} {pA A2 : Option Addr} {pc c2 : Nat} {o : Obj} (h : ListSt V w b A c xs nt tb LA lc ms) (hF2 : Feed w2 b A c xs) (hO2 : Only b (b + 1) w w2) (fm : Flat w2 w.heap.size w2.heap.size 32 3 portC pA x.ports) (hpc : x.ports.length ≤ pc) (h1 : x.code.size ≤ 64) (h2 : x.ports.length ≤ 64)
    (hown : Own w4 V.heap.size 26 5 partC A2 c2 (ms ++ [x.at_ pA pc])) (hb4 : Below V.heap.size (w2.alloc o) w4) (hfar : ∀ g, g < w2.heap.size + 1 → Apart LA g → Apart A2 g ∧ w4.heap[g]? = (w2.alloc o).heap[g]?) :
    ListSt V w4 b A c xs nt tb A2 c2 (ms ++ [x.at_ pA pc]) := by
  have hlt := h.lt
  have hVs := h.old.size
  have hs2 := hO2.size
  have hb24 : Below V.heap.size w2 w4 := ((balloc w2 o).mono (by omega)).trans hb4
  have ht2 := h.turn hF2 hO2
  have hrowt : Row w2 nt 9 tb.size := ⟨tb, ht2.tab, rfl⟩
  have hap : Apart LA nt := ht2.own.apartType hrowt (by decide)
  have hnt2 := hrowt.lt
  have hsz : (w2.alloc o).heap.size = w2.heap.size + 1 := by simp
  refine ⟨hF2.under hb24 hlt, hown, h.inner.appendO (h.own.lt) hVs hO2 hlt fm hpc rfl hfar hb4.size, ?_, hlt, fun m hm => ?_, ?_, h.ntV⟩
  · have ho2 := ht2.old
    exact ⟨hb24.os.trans ho2.os, hb24.tape.trans ho2.tape, hb24.output.trans ho2.output, Nat.le_trans ho2.size hb24.size, fun k hk hn => (hb24.block k hk).trans (ho2.block k hk hn)⟩
  · rcases List.mem_append.1 hm with hm | hm
    · exact h.small m hm
    · simp only [List.mem_singleton] at hm
      subst hm
      exact ⟨h1, h2⟩
  · rw [(hfar nt (by omega) hap).2, (balloc w2 o).block nt hnt2]
    exact ht2.tab
end
/-- Parts that were drawn: any parts of small size. -/
def DrawnParts (w : World) (b : Nat) (A : Option Addr) (c : Nat) (xs : List Int) (e : Ending) (w' : World) : Prop := ∃ (LA : Option Addr) (lc : Nat) (vs : List PartT), e = .returned (.slice LA vs.length lc) ∧ FlatR w' w.heap.size w'.heap.size LA vs ∧ vs.length ≤ lc ∧ vs.length ≤ 64 ∧ (∀ x ∈ vs, x.code.size ≤ 64 ∧ x.ports.length ≤ 64) ∧ Feed w' b A c xs ∧ Only b (b + 1) w w'
theorem partC_len5 (m : PartM) : (partC m).length = 5 := rfl
theorem ListSt.drawn {V w : World} {b c lc nt : Nat} {A LA : Option Addr} {xs : List Int} {tb : Array Value} {ms : List PartM} (h : ListSt V w b A c xs nt tb LA lc ms) (hl : ms.length ≤ 64) : DrawnParts V b A c xs (.returned (.slice LA ms.length lc)) w :=
  ⟨LA, lc, ms.map PartM.val, by simp, ⟨ms, rfl, h.own.flat partC_len5, h.inner⟩, by simpa using h.own.cap, by simpa using hl, fun x hx => by
    obtain ⟨m, hm, rfl⟩ := List.mem_map.1 hx
    exact h.small m hm, h.feed, h.old⟩

end Go.Proofs.Ytpdkhmnbabccnaa

namespace Go.Proofs.Ytpdkhmnbabccnaa
set_option maxRecDepth 100000
open Go.RowKit

def outLen : Value → Nat
  | .slice _ n _ => n
  | _ => 0
set_option maxHeartbeats 2000000 in
theorem l16List_any (A : Option Addr) (c b : Nat) (xs : List Int) (w : World) (hF : Feed w b A c xs) :
    Calls Try.prog 126 #[.pointer (some ⟨b, 0, none⟩)] w (DrawnParts w b A c xs) := by
  have HN : Hid (∀ (v : World) (n : Int), n < 20000 → Feed v b A c xs → Calls Try.prog 111 #[.pointer (some ⟨b, 0, none⟩), .int .i64 n] v (Drawn v b A c xs n)) := fun v n hn h => l01Next_any A c b xs n v h.src h.rd h.byte h.small (by omega)
  have HG : Hid (∀ (v : World) (code : ByteArray), code.size ≤ 64 → Feed v b A c xs → Calls Try.prog 172 #[.pointer (some ⟨b, 0, none⟩), .string code] v (DrawnPart 3 v b A c xs)) := fun v code h1 h => l16Good_any A c b xs code h1 v h
  have hlb := hF.src.lt
  have hT : ∀ k, k < 8 → ∃ t : ByteArray, t.size ≤ 64 ∧ (names.map Value.string).toArray[k]? = some (.string t) := fun k hk => by
    have hk' : k < names.length := hk
    refine ⟨names[k], ?_, by simp [hk']⟩
    have : ∀ t ∈ names, t.size ≤ 64 := by decide
    exact this _ (List.getElem_mem _)
  have HT := Lib.hid hT; clear hT
  have HF := Lib.hid hF; clear hF
  go_enter Try.func126, Try.ntmps126
  go_wp2_with fail
  refine (l16Names_any _).mono ?_
  rintro e w1 ⟨rfl, rfl⟩
  have HL : Hid (ListSt w ((w.alloc (.cells #[] 26)).alloc (.cells (names.map Value.string).toArray 9)) b A c xs (w.heap.size + 1) (names.map Value.string).toArray (some ⟨w.heap.size, 0, none⟩) 0 []) := by
    have h1 := balloc w (.cells #[] 26)
    have h2 := balloc (w.alloc (.cells #[] 26)) (.cells (names.map Value.string).toArray 9)
    have e1 : (w.alloc (.cells #[] 26)).heap.size = w.heap.size + 1 := by simp
    refine ⟨(HF.out.next h1).next h2, (Own.made _ (Nat.le_refl _) rfl).keep h2, Inner.nil, Only.of_below (bthen h1 h2), hlb, fun m hm => absurd hm (by simp), ?_, by omega⟩
    rw [← e1]
    exact heap_alloc_new _ _
  have e1 : (w.alloc (.cells #[] 26)).heap.size = w.heap.size + 1 := by simp
  rw [e1]
  clear e1
  generalize (w.alloc (.cells #[] 26)).alloc (.cells (names.map Value.string).toArray 9) = W at HL ⊢
  generalize (names.map Value.string).toArray = tb at HT HL
  generalize hnt : w.heap.size + 1 = nt at HL ⊢
  go_wp2_with fail
  go_loopw [3, 5] (fun out i wr => ∃ (k : Nat) (LA : Option Addr) (lc : Nat) (ms : List PartM), k ≤ 8 ∧ ms.length ≤ k ∧ i = .int .i64 k ∧ out = .slice LA ms.length lc ∧ ListSt w wr b A c xs nt tb LA lc ms) (fun _ i _ => 8 - (intOf i).toNat)
  case atStart => exact ⟨0, _, _, [], by omega, Nat.zero_le _, rfl, rfl, HL.out⟩
  case round =>
    obtain ⟨k, LA, lc, ms, hk, hml, rfl, rfl, hL⟩ := hrel
    have HL1 := Lib.hid hL; clear hL
    by_cases hlt : k < 8
    · go_wp2_with fail
      refine (HN.out wr 3 (by omega) HL1.out.feed).mono ?_
      rintro e w2 ⟨v2, rfl, a0, a1, _, hS, hO⟩
      have HL2 := Lib.hid (HL1.out.turn (HL1.out.feed.turn hS hO) hO)
      clear hS hO HL1
      by_cases hv : 0 < v2
      · obtain ⟨t, ht, htb⟩ := HT.out k hlt
        have q := HL2.out.cell htb
        clear htb
        go_wp2_with fail
        refine (HG.out w2 t ht HL2.out.feed).mono ?_
        rintro e w3 ⟨x, pA, pc, rfl, x1, x2, ox, hF3, hO3⟩
        have hpc := ox.cap; have Fx := Lib.hid (ox.flat portC_len3); clear ox
        have HF3 := Lib.hid hF3; clear hF3
        have HO3 := Lib.hid hO3; clear hO3
        have s2 := HL2.out.old.size
        have s3 := HO3.out.size
        have HL3 := Lib.hid (HL2.out.turn HF3.out HO3.out)
        dsimp only [argV]
        go_wp2_with (at_builtin; refine wpList_append_far rfl _ _ _ rfl w.heap.size 26 (.agg #[.string ⟨#[]⟩, .int .i64 0, .slice none 0 0, .int .i64 0, .int .i64 0]) 5 64 Try.underlying41 infoPart rfl (by omega) (by omega) partC ms ⟨x.code, x.slot, pA, pc, x.ports, x.price, x.grams⟩ LA lc rfl (HL3.out.own.keep (balloc _ _)) w3.heap.size _ rfl rfl (five_cells (by go_simp) (by go_simp) (by go_simp) (by go_simp) (by go_simp)) (partC_one _) (by omega) (by simp; omega) ?_)
        intro A2 c2 w4 hown4 hb4 hfar
        have HL4 := Lib.hid (HL2.out.grow HF3.out HO3.out Fx.out hpc x1 (Nat.le_trans x2 (by omega)) hown4 hb4 hfar)
        clear hown4 hb4 hfar
        go_wp2_with fail
        exact ⟨⟨k + 1, A2, c2, ms ++ [x.at_ pA pc], by omega, by simp; omega, by go_num, by simp, HL4.out⟩, by simp [intOf]; omega⟩
      · go_wp2_with fail
        exact ⟨⟨k + 1, LA, lc, ms, by omega, by omega, by go_num, rfl, HL2.out⟩, by simp [intOf]; omega⟩
    · go_wp2_with fail
      refine (HN.out wr 40 (by omega) HL1.out.feed).mono ?_
      rintro e w2 ⟨v2, rfl, a0, a1, _, hS, hO⟩
      have HL2 := Lib.hid (HL1.out.turn (HL1.out.feed.turn hS hO) hO)
      clear hS hO HL1
      by_cases hv : v2 = 0
      · subst hv
        go_wp2_with fail
        refine (HG.out w2 ⟨#[97, 110, 99, 104, 111, 114]⟩ (by decide) HL2.out.feed).mono ?_
        rintro e w3 ⟨x, pA, pc, rfl, x1, x2, ox, hF3, hO3⟩
        have hpc := ox.cap; have Fx := Lib.hid (ox.flat portC_len3); clear ox
        have HF3 := Lib.hid hF3; clear hF3
        have HO3 := Lib.hid hO3; clear hO3
        have s2 := HL2.out.old.size
        have s3 := HO3.out.size
        have HL3 := Lib.hid (HL2.out.turn HF3.out HO3.out)
        dsimp only [argV]
        go_wp2_with (at_builtin; refine wpList_append_far rfl _ _ _ rfl w.heap.size 26 (.agg #[.string ⟨#[]⟩, .int .i64 0, .slice none 0 0, .int .i64 0, .int .i64 0]) 5 64 Try.underlying41 infoPart rfl (by omega) (by omega) partC ms ⟨x.code, x.slot, pA, pc, x.ports, x.price, x.grams⟩ LA lc rfl (HL3.out.own.keep (balloc _ _)) w3.heap.size _ rfl rfl (five_cells (by go_simp) (by go_simp) (by go_simp) (by go_simp) (by go_simp)) (partC_one _) (by omega) (by simp; omega) ?_)
        intro A2 c2 w4 hown4 hb4 hfar
        have HL4 := Lib.hid (HL2.out.grow HF3.out HO3.out Fx.out hpc x1 (Nat.le_trans x2 (by omega)) hown4 hb4 hfar)
        clear hown4 hb4 hfar
        go_wp2_with fail
        go_ret
        have := HL4.out.drawn (by simp; omega)
        simpa using this
      · have hvb : (v2 == 0) = false := by simp [hv]
        by_cases hv1 : v2 = 1
        · subst hv1
          go_wp2_with fail
          go_loopw [3, 6] (fun out i wr => ∃ (k2 : Nat) (MA : Option Addr) (mc : Nat) (ns : List PartM), k2 ≤ ns.length ∧ ns.length ≤ 17 ∧ i = .int .i64 k2 ∧ out = .slice MA ns.length mc ∧ ListSt w wr b A c xs nt tb MA mc ns) (fun out _ _ => 17 - outLen out)
          case atStart => exact ⟨0, LA, lc, ms, Nat.zero_le _, by omega, rfl, rfl, HL2.out⟩
          case round =>
            obtain ⟨k2, MA, mc, ns, hk2, hnl, rfl, rfl, hM⟩ := hrel
            have HM1 := Lib.hid hM; clear hM
            go_wp2_with fail
            refine (HN.out _ 2 (by omega) HM1.out.feed).mono ?_
            rintro e w4 ⟨v4, rfl, c0, c1, _, hS, hO⟩
            have HM2 := Lib.hid (HM1.out.turn (HM1.out.feed.turn hS hO) hO)
            have c1 := c1 (by omega)
            clear hS hO HM1
            by_cases hlt2 : (ns.length : Int) < 16 + v4
            · have hk17 : k2 ≤ 16 := by omega
              have hnl2 : ns.length ≤ 16 := by omega
              go_wp2_with fail
              have hsz : ∀ t : ByteArray, (⟨#[120]⟩ ++ t.extract k2 (k2 + 1) : ByteArray).size ≤ 64 := fun t => by
                rw [ByteArray.size_append, ByteArray.size_extract]
                have : (⟨#[120]⟩ : ByteArray).size = 1 := rfl
                omega
              refine (HG.out w4 _ (hsz _) HM2.out.feed).mono ?_
              rintro e w5 ⟨x, pA, pc, rfl, x1, x2, ox, hF5, hO5⟩
              have hpc := ox.cap; have Fx := Lib.hid (ox.flat portC_len3); clear ox
              have HF5 := Lib.hid hF5; clear hF5
              have HO5 := Lib.hid hO5; clear hO5
              have s4 := HM2.out.old.size
              have s5 := HO5.out.size
              have HM3 := Lib.hid (HM2.out.turn HF5.out HO5.out)
              dsimp only [argV]
              go_wp2_with (at_builtin; refine wpList_append_far rfl _ _ _ rfl w.heap.size 26 (.agg #[.string ⟨#[]⟩, .int .i64 0, .slice none 0 0, .int .i64 0, .int .i64 0]) 5 64 Try.underlying41 infoPart rfl (by omega) (by omega) partC ns ⟨x.code, x.slot, pA, pc, x.ports, x.price, x.grams⟩ MA mc rfl (HM3.out.own.keep (balloc _ _)) w5.heap.size _ rfl rfl (five_cells (by go_simp) (by go_simp) (by go_simp) (by go_simp) (by go_simp)) (partC_one _) (by omega) (by simp; omega) ?_)
              intro A6 c6 w6 hown6 hb6 hfar6
              have HM4 := Lib.hid (HM2.out.grow HF5.out HO5.out Fx.out hpc x1 (Nat.le_trans x2 (by omega)) hown6 hb6 hfar6)
              clear hown6 hb6 hfar6
              go_wp2_with fail
              exact ⟨⟨k2 + 1, A6, c6, ns ++ [x.at_ pA pc], by simp; omega, by simp; omega, by go_num, by simp, HM4.out⟩, by simp [outLen]; omega⟩
            · go_wp2_with fail
              go_ret
              exact HM2.out.drawn (by omega)
        · have hvb1 : (v2 == 1) = false := by simp [hv1]
          clear hv hv1
          go_wp2_with fail
          go_ret
          exact HL2.out.drawn (by omega)

end Go.Proofs.Ytpdkhmnbabccnaa

namespace Go.Proofs.Ytpdkhmnbabccnaa
set_option maxRecDepth 100000
open Go.RowKit

def DrawnJoints : World → Nat → Option Addr → Nat → List Int → Ending → World → Prop := DrawnList 64 83 3 jointC (fun _ => True)
set_option maxHeartbeats 2000000 in
theorem l17DrawJoints_any (A : Option Addr) (c b : Nat) (xs : List Int) (w : World) (hF : Feed w b A c xs) :
    Calls Try.prog 146 #[.pointer (some ⟨b, 0, none⟩)] w (DrawnJoints w b A c xs) := by
  have HN : Hid (∀ (v : World) (n : Int), n < 20000 → Feed v b A c xs → Calls Try.prog 111 #[.pointer (some ⟨b, 0, none⟩), .int .i64 n] v (Drawn v b A c xs n)) := fun v n hn h => l01Next_any A c b xs n v h.src h.rd h.byte h.small (by omega)
  have HL : Hid (GrowSt w (w.alloc (.cells #[] 83)) b A c xs 83 3 jointC (some ⟨w.heap.size, 0, none⟩) 0 []) := GrowSt.made hF
  have hjl : ∀ j, (jointC j).length = 3 := fun j => rfl
  have hj1 : ∀ j, ∀ u ∈ jointC j, u.oneCell' = true := fun j u hu => by
    simp only [jointC, List.mem_cons, List.not_mem_nil, or_false] at hu
    rcases hu with rfl | rfl | rfl <;> rfl
  have HJL := Lib.hid hjl; clear hjl
  have HJ1 := Lib.hid hj1; clear hj1
  clear hF
  go_enter Try.func146, Try.ntmps146
  go_wp2_with fail
  generalize w.alloc (.cells #[] 83) = W at HL ⊢
  refine (HN.out W 4 (by omega) HL.out.feed).mono ?_
  rintro e w1 ⟨v, rfl, v0, v1, _, hS, hO⟩
  have HL1 := Lib.hid (HL.out.turn (HL.out.feed.turn hS hO) hO)
  have v1 := v1 (by omega)
  clear hS hO HL
  go_wp2_with fail
  go_loopw [3, 4] (fun out i wr => ∃ (q : Int) (LA : Option Addr) (lc : Nat) (ms : List (Int × Int × Int)), 0 ≤ q ∧ (ms.length : Int) + q ≤ 4 ∧ i = .int .i64 q ∧ out = .slice LA ms.length lc ∧ GrowSt w wr b A c xs 83 3 jointC LA lc ms) (fun _ i _ => (intOf i).toNat)
  case atStart => exact ⟨v, _, _, [], v0, by simp; omega, rfl, rfl, HL1.out⟩
  case round =>
    obtain ⟨q, LA, lc, ms, q0, q1, rfl, rfl, hL⟩ := hrel
    have HL1 := Lib.hid hL; clear hL
    by_cases hq : 0 < q
    · go_wp2_with fail
      refine (HN.out wr 2 (by omega) HL1.out.feed).mono ?_
      rintro e w2 ⟨a, rfl, a0, a1, _, hS, hO⟩
      have HL2 := Lib.hid (HL1.out.turn (HL1.out.feed.turn hS hO) hO)
      have a1 := a1 (by omega)
      clear hS hO HL1
      go_wp2_with fail
      refine (HN.out w2 (2 - a) (by omega) HL2.out.feed).mono ?_
      rintro e w3 ⟨d, rfl, d0, d1, d2, hS, hO⟩
      have HL3 := Lib.hid (HL2.out.turn (HL2.out.feed.turn hS hO) hO)
      have hd : d < 3 := by
        by_cases h : 1 < 2 - a
        · have := d1 h; omega
        · have := d2 (by omega); omega
      clear hS hO HL2 d1 d2
      go_wp2_with fail
      refine (HN.out w3 3 (by omega) HL3.out.feed).mono ?_
      rintro e w4 ⟨k, rfl, k0, k1, _, hS, hO⟩
      have HL4 := Lib.hid (HL3.out.turn (HL3.out.feed.turn hS hO) hO)
      have s4 := HL4.out.old.size
      clear hS hO HL3 k1
      go_wp2_with (at_builtin; refine wpList_append_far rfl _ _ _ rfl w.heap.size 83 (.agg #[.int .i64 0, .int .i64 0, .int .i64 0]) 3 24 Try.underlying72 infoJoint rfl (by omega) (by omega) jointC ms (a, a + 1 + d, k) LA lc rfl (HL4.out.own.keep (balloc _ _)) w4.heap.size _ rfl rfl (three_cells (by go_simp) (by go_simp) (by go_simp)) (HJ1.out _) (by omega) (by simp; omega) ?_)
      intro A2 c2 w5 hown5 hb5 _
      have HL5 := Lib.hid (HL4.out.grow hown5 hb5)
      clear hown5 hb5
      go_wp2_with fail
      exact ⟨⟨q - 1, A2, c2, ms ++ [(a, a + 1 + d, k)], by omega, by simp; omega, by go_num, by simp, HL5.out⟩, by simp [intOf]; omega⟩
    · go_wp2_with fail
      refine (HN.out wr 40 (by omega) HL1.out.feed).mono ?_
      rintro e w2 ⟨v2, rfl, a0, a1, _, hS, hO⟩
      have HL2 := Lib.hid (HL1.out.turn (HL1.out.feed.turn hS hO) hO)
      clear hS hO HL1 a1
      by_cases hv : v2 = 0
      · subst hv
        go_wp2_with fail
        refine (HN.out w2 9 (by omega) HL2.out.feed).mono ?_
        rintro e w3 ⟨a, rfl, a0, a1, _, hS, hO⟩
        have HL3 := Lib.hid (HL2.out.turn (HL2.out.feed.turn hS hO) hO)
        have a1 := a1 (by omega)
        clear hS hO HL2
        go_wp2_with fail
        refine (HN.out w3 9 (by omega) HL3.out.feed).mono ?_
        rintro e w4 ⟨d, rfl, d0, d1, _, hS, hO⟩
        have HL4 := Lib.hid (HL3.out.turn (HL3.out.feed.turn hS hO) hO)
        clear hS hO HL3 d1
        go_wp2_with fail
        refine (HN.out w4 11 (by omega) HL4.out.feed).mono ?_
        rintro e w5 ⟨k, rfl, k0, k1, _, hS, hO⟩
        have HL5 := Lib.hid (HL4.out.turn (HL4.out.feed.turn hS hO) hO)
        have s5 := HL5.out.old.size
        clear hS hO HL4 k1
        go_wp2_with (at_builtin; refine wpList_append_far rfl _ _ _ rfl w.heap.size 83 (.agg #[.int .i64 0, .int .i64 0, .int .i64 0]) 3 24 Try.underlying72 infoJoint rfl (by omega) (by omega) jointC ms (a - 1, d, k) LA lc rfl (HL5.out.own.keep (balloc _ _)) w5.heap.size _ rfl rfl (three_cells (by go_simp) (by go_simp) (by go_simp)) (HJ1.out _) (by omega) (by simp; omega) ?_)
        intro A2 c2 w6 hown6 hb6 _
        have HL6 := Lib.hid (HL5.out.grow hown6 hb6)
        clear hown6 hb6
        go_wp2_with fail
        go_ret
        have := HL6.out.drawn (m := 64) (G := fun _ => True) HJL.out (by simp; omega) (fun _ _ => trivial)
        simp only [List.length_append, List.length_cons, List.length_nil, Nat.zero_add] at this
        exact this
      · have hvb : (v2 == 0) = false := by simp [hv]
        by_cases hv1 : v2 = 1
        · subst hv1
          go_wp2_with fail
          go_loopw [3] (fun out wr => ∃ (MA : Option Addr) (mc : Nat) (ns : List (Int × Int × Int)), ns.length ≤ 13 ∧ out = .slice MA ns.length mc ∧ GrowSt w wr b A c xs 83 3 jointC MA mc ns) (fun out _ => 13 - lenOf out)
          case atStart => exact ⟨LA, lc, ms, by omega, rfl, HL2.out⟩
          case round =>
            obtain ⟨MA, mc, ns, hnl, rfl, hM⟩ := hrel
            have HM1 := Lib.hid hM; clear hM
            go_wp2_with fail
            refine (HN.out _ 2 (by omega) HM1.out.feed).mono ?_
            rintro e w4 ⟨v4, rfl, c0, c1, _, hS, hO⟩
            have HM2 := Lib.hid (HM1.out.turn (HM1.out.feed.turn hS hO) hO)
            have c1 := c1 (by omega)
            have s4 := HM2.out.old.size
            clear hS hO HM1
            by_cases hlt2 : (ns.length : Int) < 12 + v4
            · have hnl2 : ns.length ≤ 12 := by omega
              go_wp2_with (at_builtin; refine wpList_append_far rfl _ _ _ rfl w.heap.size 83 (.agg #[.int .i64 0, .int .i64 0, .int .i64 0]) 3 24 Try.underlying72 infoJoint rfl (by omega) (by omega) jointC ns (0, 1, 0) MA mc rfl (HM2.out.own.keep (balloc _ _)) w4.heap.size _ rfl rfl (three_cells (by go_simp) (by go_simp) (by go_simp)) (HJ1.out _) (by omega) (by simp; omega) ?_)
              intro A6 c6 w6 hown6 hb6 _
              have HM4 := Lib.hid (HM2.out.grow hown6 hb6)
              clear hown6 hb6
              go_wp2_with fail
              exact ⟨⟨A6, c6, ns ++ [(0, 1, 0)], by simp; omega, by simp, HM4.out⟩, by simp [lenOf]; omega⟩
            · go_wp2_with fail
              go_ret
              exact HM2.out.drawn HJL.out (by omega) (fun _ _ => trivial)
        · have hvb1 : (v2 == 1) = false := by simp [hv1]
          clear hv hv1
          go_wp2_with fail
          go_ret
          exact HL2.out.drawn HJL.out (by omega) (fun _ _ => trivial)

/-- Parts and joints drawn. -/
def DrawnBoth (w : World) (b : Nat) (A : Option Addr) (c : Nat) (xs : List Int) (e : Ending) (w' : World) : Prop :=
  ∃ (LA JA : Option Addr) (lc jc : Nat) (vs : List PartT) (js : List (Int × Int × Int)), e = .returned (.tuple #[.slice LA vs.length lc, .slice JA js.length jc]) ∧ FlatR w' w.heap.size w'.heap.size LA vs ∧ vs.length ≤ 64 ∧ (∀ x ∈ vs, x.code.size ≤ 64 ∧ x.ports.length ≤ 64) ∧ Flat w' w.heap.size w'.heap.size 83 3 jointC JA js ∧ js.length ≤ 64 ∧ Feed w' b A c xs ∧ Only b (b + 1) w w'
theorem l18Draw_any (A : Option Addr) (c b : Nat) (xs : List Int) (w : World) (hF : Feed w b A c xs) :
    Calls Try.prog 165 #[.pointer (some ⟨b, 0, none⟩)] w (DrawnBoth w b A c xs) := by
  have HP := Lib.hid (l16List_any A c b xs w hF)
  have HJ : Hid (∀ v : World, Feed v b A c xs → Calls Try.prog 146 #[.pointer (some ⟨b, 0, none⟩)] v (DrawnJoints v b A c xs)) := fun v h => l17DrawJoints_any A c b xs v h
  have hlb := hF.src.lt
  clear hF
  go_enter Try.func165, Try.ntmps165
  go_wp2_with fail
  refine HP.out.mono ?_
  rintro e w1 ⟨LA, lc, vs, rfl, fv, _, hvl, hvs, hF1, hO1⟩
  have HF1 := Lib.hid hF1; clear hF1
  have HVS := Lib.hid hvs; clear hvs
  go_wp2_with fail
  refine (HJ.out w1 HF1.out).mono ?_
  rintro e w2 ⟨JA, jc, js, rfl, fj, _, hjl, _, hF2, hO2⟩
  have HF2 := Lib.hid hF2; clear hF2 HF1
  have HR := Lib.hid ((fv.only hO2 (Nat.le_refl _) (Or.inr (by omega))).mono (Nat.le_refl _) hO2.size)
  have HRj := Lib.hid (fj.mono hO1.size (Nat.le_refl _))
  clear fv fj
  go_wp2_with fail
  go_ret2
  exact ⟨LA, JA, lc, jc, vs, js, rfl, HR.out, hvl, HVS.out, HRj.out, hjl, HF2.out, hO1.trans hO2⟩

end Go.Proofs.Ytpdkhmnbabccnaa

namespace Go.Proofs.Ytpdkhmnbabccnaa
set_option maxRecDepth 100000
open Go.RowKit

/-- A source over the law's code. -/
theorem feed_made {w v : World} {b c : Nat} {A : Option Addr} {xs : List Int} (hr : Rd w w.heap.size 1 uC A xs) (hx : ∀ x ∈ xs, 0 ≤ x ∧ x < 256) (hm : xs.length ≤ 4096) (h1 : Src v b A c xs) (h2 : w.heap.size ≤ b) (h3 : Below w.heap.size w v) : Feed v b A c xs :=
  ⟨h1, (hr.below h3).more h2, hx, hm⟩
theorem smallV_of {vs : List PartT} (h1 : vs.length ≤ 64) (h2 : ∀ x ∈ vs, x.code.size ≤ 64 ∧ x.ports.length ≤ 64) : SmallV vs := ⟨by omega, fun x hx => by
  have := h2 x hx
  unfold maxLen
  omega⟩
/-- Parts and joints, and a number between 0 and M. -/
def GivenBoth (M : Int) (w : World) (e : Ending) (w' : World) : Prop := ∃ (LA JA : Option Addr) (lc jc : Nat) (vs : List PartT) (js : List (Int × Int × Int)) (m : Int), e = .returned (.tuple #[.slice LA vs.length lc, .slice JA js.length jc, .int .i64 m]) ∧ RdV w' w'.heap.size LA vs ∧ SmallV vs ∧ Rd w' w'.heap.size 3 jointC JA js ∧ js.length ≤ 64 ∧ 0 ≤ m ∧ m ≤ M ∧ Below w.heap.size w w'

set_option maxHeartbeats 1000000 in
theorem DrawFirst_any (A : Option Addr) (c : Nat) (xs : List Int) (w : World) (hr : Rd w w.heap.size 1 uC A xs) (hx : ∀ x ∈ xs, 0 ≤ x ∧ x < 256) (hm : xs.length ≤ 4096) :
    Calls Try.prog 99 #[.slice A xs.length c] w (GivenBoth 5001 w) := by
  have HS := Lib.hid (l01From_any A c xs w hr hx hm)
  have HFd : Hid (∀ (v : World) (b : Nat), Src v b A c xs → w.heap.size ≤ b → Below w.heap.size w v → Feed v b A c xs) := fun v b h1 h2 h3 => feed_made hr hx hm h1 h2 h3
  have HB : Hid (∀ (v : World) (b : Nat), Feed v b A c xs → Calls Try.prog 165 #[.pointer (some ⟨b, 0, none⟩)] v (DrawnBoth v b A c xs)) := fun v b h => l18Draw_any A c b xs v h
  have HN : Hid (∀ (v : World) (b : Nat) (n : Int), n < 20000 → Feed v b A c xs → Calls Try.prog 111 #[.pointer (some ⟨b, 0, none⟩), .int .i64 n] v (Drawn v b A c xs n)) := fun v b n hn h => l01Next_any A c b xs n v h.src h.rd h.byte h.small (by omega)
  clear hr hx
  go_enter Try.func99, Try.ntmps99
  go_wp2_with fail
  refine HS.out.mono ?_
  rintro e w1 ⟨b, rfl, hS, hbl, hb1⟩
  have HF1 := Lib.hid (HFd.out w1 b hS hbl hb1)
  have hlt1 := hS.lt
  clear hS HS HFd
  go_wp2_with fail
  refine (HB.out w1 b HF1.out).mono ?_
  rintro e w2 ⟨LA, JA, lc, jc, vs, js, rfl, fv, hvl, hvs, fj, hjl, hF2, hO2⟩
  have HF2 := Lib.hid hF2; clear hF2 HF1
  have HSm := Lib.hid (smallV_of hvl hvs)
  have HV := Lib.hid fv; clear fv hvs hvl
  have HJ := Lib.hid fj; clear fj
  have HO2 := Lib.hid (Only.refl b (b + 1) w2)
  go_wp2_with fail
  refine (HN.out w2 b 12 (by omega) HF2.out).mono ?_
  rintro e w3 ⟨v3, rfl, a0, a1, _, hS, hO⟩
  have HF3 := Lib.hid (HF2.out.turn hS hO)
  have HO3 := Lib.hid (HO2.out.trans hO)
  have v3lt := a1 (by omega)
  have v3ge := a0
  clear hS hO HF2 HO2 a1 a0
  go_wp2_with fail
  refine (HN.out w3 b 5 (by omega) HF3.out).mono ?_
  rintro e w4 ⟨v4, rfl, a0, a1, _, hS, hO⟩
  have HF4 := Lib.hid (HF3.out.turn hS hO)
  have HO4 := Lib.hid (HO3.out.trans hO)
  have v4lt := a1 (by omega)
  have v4ge := a0
  clear hS hO HF3 HO3 a1 a0
  have HPk := Lib.hid (pick_next A c b xs w4 2 [v3, v4, 100, 0, 5000, 5001] (by simp) (by simp) HF4.out)
  go_wp2_with fail
  refine HPk.out.mono ?_
  rintro e w5 ⟨m, hv, rfl, hF9, hO⟩
  have hmb : 0 ≤ m ∧ m ≤ 5001 := by
    simp only [List.mem_cons, List.not_mem_nil, or_false] at hv
    omega
  have hO9 := HO4.out.trans hO
  have hR := ((HV.out.only hO9 (Nat.le_refl _) (Or.inr hlt1)).rd.more hO9.size)
  have hRJ := ((HJ.out.only hO9 (Nat.le_refl _) (Or.inr hlt1)).rd.more hO9.size)
  have hBl : Below w.heap.size w w5 := hb1.trans ((hO2.trans hO9).below hbl hb1.size)
  have HEnd : Hid (GivenBoth 5001 w (.returned (.tuple #[.slice LA vs.length lc, .slice JA js.length jc, .int .i64 m])) w5) := ⟨LA, JA, lc, jc, vs, js, m, rfl, hR, HSm.out, hRJ, hjl, hmb.1, hmb.2, hBl⟩
  clear hR hRJ hBl HPk HF4 HO4 hO9 hF9 hO hv HV HJ HSm
  go_wp2_with fail
  go_ret3
  exact HEnd.out

set_option maxHeartbeats 1000000 in
theorem DrawLightest_any (A : Option Addr) (c : Nat) (xs : List Int) (w : World) (hr : Rd w w.heap.size 1 uC A xs) (hx : ∀ x ∈ xs, 0 ≤ x ∧ x < 256) (hm : xs.length ≤ 4096) :
    Calls Try.prog 94 #[.slice A xs.length c] w (GivenBoth 100000001 w) := by
  have HS := Lib.hid (l01From_any A c xs w hr hx hm)
  have HFd : Hid (∀ (v : World) (b : Nat), Src v b A c xs → w.heap.size ≤ b → Below w.heap.size w v → Feed v b A c xs) := fun v b h1 h2 h3 => feed_made hr hx hm h1 h2 h3
  have HB : Hid (∀ (v : World) (b : Nat), Feed v b A c xs → Calls Try.prog 165 #[.pointer (some ⟨b, 0, none⟩)] v (DrawnBoth v b A c xs)) := fun v b h => l18Draw_any A c b xs v h
  have HN : Hid (∀ (v : World) (b : Nat) (n : Int), n < 20000 → Feed v b A c xs → Calls Try.prog 111 #[.pointer (some ⟨b, 0, none⟩), .int .i64 n] v (Drawn v b A c xs n)) := fun v b n hn h => l01Next_any A c b xs n v h.src h.rd h.byte h.small (by omega)
  clear hr hx
  go_enter Try.func94, Try.ntmps94
  go_wp2_with fail
  refine HS.out.mono ?_
  rintro e w1 ⟨b, rfl, hS, hbl, hb1⟩
  have HF1 := Lib.hid (HFd.out w1 b hS hbl hb1)
  have hlt1 := hS.lt
  clear hS HS HFd
  go_wp2_with fail
  refine (HB.out w1 b HF1.out).mono ?_
  rintro e w2 ⟨LA, JA, lc, jc, vs, js, rfl, fv, hvl, hvs, fj, hjl, hF2, hO2⟩
  have HF2 := Lib.hid hF2; clear hF2 HF1
  have HSm := Lib.hid (smallV_of hvl hvs)
  have HV := Lib.hid fv; clear fv hvs hvl
  have HJ := Lib.hid fj; clear fj
  have HO2 := Lib.hid (Only.refl b (b + 1) w2)
  go_wp2_with fail
  refine (HN.out w2 b 16000 (by omega) HF2.out).mono ?_
  rintro e w3 ⟨v3, rfl, a0, a1, _, hS, hO⟩
  have HF3 := Lib.hid (HF2.out.turn hS hO)
  have HO3 := Lib.hid (HO2.out.trans hO)
  have v3lt := a1 (by omega)
  have v3ge := a0
  clear hS hO HF2 HO2 a1 a0
  have HPk := Lib.hid (pick_next A c b xs w3 2 [1000 + v3, 10000, 0, 100000000, 100000001] (by simp) (by simp) HF3.out)
  go_wp2_with fail
  refine HPk.out.mono ?_
  rintro e w4 ⟨m, hv, rfl, hF9, hO⟩
  have hmb : 0 ≤ m ∧ m ≤ 100000001 := by
    simp only [List.mem_cons, List.not_mem_nil, or_false] at hv
    omega
  have hO9 := HO3.out.trans hO
  have hR := ((HV.out.only hO9 (Nat.le_refl _) (Or.inr hlt1)).rd.more hO9.size)
  have hRJ := ((HJ.out.only hO9 (Nat.le_refl _) (Or.inr hlt1)).rd.more hO9.size)
  have hBl : Below w.heap.size w w4 := hb1.trans ((hO2.trans hO9).below hbl hb1.size)
  have HEnd : Hid (GivenBoth 100000001 w (.returned (.tuple #[.slice LA vs.length lc, .slice JA js.length jc, .int .i64 m])) w4) := ⟨LA, JA, lc, jc, vs, js, m, rfl, hR, HSm.out, hRJ, hjl, hmb.1, hmb.2, hBl⟩
  clear hR hRJ hBl HPk HF3 HO3 hO9 hF9 hO hv HV HJ HSm
  go_wp2_with fail
  go_ret3
  exact HEnd.out

/-- Parts and joints. -/
def GivenJust (w : World) (e : Ending) (w' : World) : Prop := ∃ (LA JA : Option Addr) (lc jc : Nat) (vs : List PartT) (js : List (Int × Int × Int)), e = .returned (.tuple #[.slice LA vs.length lc, .slice JA js.length jc]) ∧ RdV w' w'.heap.size LA vs ∧ SmallV vs ∧ Rd w' w'.heap.size 3 jointC JA js ∧ js.length ≤ 64 ∧ Below w.heap.size w w'
theorem DrawFrontier_any (A : Option Addr) (c : Nat) (xs : List Int) (w : World) (hr : Rd w w.heap.size 1 uC A xs) (hx : ∀ x ∈ xs, 0 ≤ x ∧ x < 256) (hm : xs.length ≤ 4096) :
    Calls Try.prog 106 #[.slice A xs.length c] w (GivenJust w) := by
  have HS := Lib.hid (l01From_any A c xs w hr hx hm)
  have HFd : Hid (∀ (v : World) (b : Nat), Src v b A c xs → w.heap.size ≤ b → Below w.heap.size w v → Feed v b A c xs) := fun v b h1 h2 h3 => feed_made hr hx hm h1 h2 h3
  have HB : Hid (∀ (v : World) (b : Nat), Feed v b A c xs → Calls Try.prog 165 #[.pointer (some ⟨b, 0, none⟩)] v (DrawnBoth v b A c xs)) := fun v b h => l18Draw_any A c b xs v h
  clear hr hx
  go_enter Try.func106, Try.ntmps106
  go_wp2_with fail
  refine HS.out.mono ?_
  rintro e w1 ⟨b, rfl, hS, hbl, hb1⟩
  have HF1 := Lib.hid (HFd.out w1 b hS hbl hb1)
  clear hS HS HFd
  go_wp2_with fail
  refine (HB.out w1 b HF1.out).mono ?_
  rintro e w2 ⟨LA, JA, lc, jc, vs, js, rfl, fv, hvl, hvs, fj, hjl, hF2, hO2⟩
  have HEnd : Hid (GivenJust w (.returned (.tuple #[.slice LA vs.length lc, .slice JA js.length jc])) w2) := ⟨LA, JA, lc, jc, vs, js, rfl, fv.rd, smallV_of hvl hvs, fj.rd, hjl, hb1.trans (hO2.below hbl hb1.size)⟩
  clear fv hvl hvs fj hF2 hO2 HF1
  go_wp2_with fail
  go_ret2
  exact HEnd.out

end Go.Proofs.Ytpdkhmnbabccnaa

namespace Go.Proofs.Ytpdkhmnbabccnaa
set_option maxRecDepth 100000
open Go.RowKit

set_option maxHeartbeats 400000 in
theorem likeTexts_any (A A' : Option Addr) (c c' : Nat) (xs ys : List ByteArray) (w : World) (hr : Rd w w.heap.size 1 tC A xs) (hr' : Rd w w.heap.size 1 tC A' ys) (hm : xs.length ≤ 1048576) :
    Calls Try.prog 56 #[.slice A xs.length c, .slice A' ys.length c'] w fun e w' => e = .returned (.bool (decide (xs = ys))) ∧ Below w.heap.size w w' := by
  by_cases hl : xs.length = ys.length
  · have hn : ((xs.length : Int) != (ys.length : Int)) = false := by simp [hl]
    have Hl := Lib.hid hl; clear hl
    go_enter Try.func56, Try.ntmps56
    go_wp2_with fail
    go_loopw [5] (fun i wr => ∃ k : Nat, k ≤ xs.length ∧ i = .int .i64 k ∧ Below w.heap.size w wr ∧ xs.take k = ys.take k) (fun i _ => xs.length - (intOf i).toNat)
    case atStart => exact ⟨0, Nat.zero_le _, rfl, Below.refl _ _, rfl⟩
    case round =>
      obtain ⟨k, hk, rfl, hb, hpre⟩ := hrel
      have Hp := Lib.hid hpre; clear hpre
      by_cases hlt : k < xs.length
      · have hlt' : k < ys.length := by have := Hl.out; omega
        have hx : xs[k]? = some xs[k] := List.getElem?_eq_getElem hlt
        have hy : ys[k]? = some ys[k] := List.getElem?_eq_getElem hlt'
        obtain ⟨b, o, rfl, hB, h0⟩ := (hr.below hb).at1 hx rfl
        obtain ⟨b', o', rfl, hB', h0'⟩ := (hr'.below hb).at1 hy rfl
        rw [Nat.mul_one] at h0 h0'
        generalize xs[k] = t at h0 hx
        generalize ys[k] = t' at h0' hy
        have Hx := Lib.hid hx; clear hx
        have Hy := Lib.hid hy; clear hy
        by_cases ht : t = t'
        · have htt : (t.toList == t'.toList) = true := by simp [ht]
          have Ht := Lib.hid ht; clear ht
          go_wp2_with fail
          go_quiet (fail)
          go_wp2_with fail
          exact ⟨⟨k + 1, by omega, by go_num, below_drewN hb _, take_next Hp.out Hx.out Hy.out Ht.out⟩, by simp [intOf]; omega⟩
        · have htt : (t.toList == t'.toList) = false := by simp; exact fun e => ht (str_eq.1 e)
          have hne : decide (xs = ys) = false := decide_eq_false (ne_next Hx.out Hy.out ht)
          have Ht := Lib.hid ht; clear ht
          have Hne := Lib.hid hne; clear hne
          go_wp2_with fail
          go_quiet (fail)
          go_wp2_with fail
          go_ret
          exact ⟨ret_bool Hne.out.symm, below_drewN hb _⟩
      · have e : decide (xs = ys) = true := decide_eq_true (take_all Hp.out Hl.out (by omega))
        have E := Lib.hid e; clear e
        go_wp2_with fail
        go_ret
        exact ⟨ret_bool E.out.symm, hb⟩
  · have hd : decide (xs = ys) = false := by simp; intro h; exact hl (by rw [h])
    have hn : ((xs.length : Int) != (ys.length : Int)) = true := by simp; omega
    rw [hd]
    go_enter Try.func56, Try.ntmps56
    go_wp2_with fail
    go_ret
    exact ⟨rfl, Below.refl _ _⟩

set_option maxHeartbeats 400000 in
theorem likeInts_any (A A' : Option Addr) (c c' : Nat) (xs ys : List Int) (w : World) (hr : Rd w w.heap.size 1 nC A xs) (hr' : Rd w w.heap.size 1 nC A' ys) (hm : xs.length ≤ 1048576) :
    Calls Try.prog 41 #[.slice A xs.length c, .slice A' ys.length c'] w fun e w' => e = .returned (.bool (decide (xs = ys))) ∧ Below w.heap.size w w' := by
  by_cases hl : xs.length = ys.length
  · have hn : ((xs.length : Int) != (ys.length : Int)) = false := by simp [hl]
    have Hl := Lib.hid hl; clear hl
    go_enter Try.func41, Try.ntmps41
    go_wp2_with fail
    go_loopw [5] (fun i wr => ∃ k : Nat, k ≤ xs.length ∧ i = .int .i64 k ∧ Below w.heap.size w wr ∧ xs.take k = ys.take k) (fun i _ => xs.length - (intOf i).toNat)
    case atStart => exact ⟨0, Nat.zero_le _, rfl, Below.refl _ _, rfl⟩
    case round =>
      obtain ⟨k, hk, rfl, hb, hpre⟩ := hrel
      have Hp := Lib.hid hpre; clear hpre
      by_cases hlt : k < xs.length
      · have hlt' : k < ys.length := by have := Hl.out; omega
        have hx : xs[k]? = some xs[k] := List.getElem?_eq_getElem hlt
        have hy : ys[k]? = some ys[k] := List.getElem?_eq_getElem hlt'
        obtain ⟨b, o, rfl, hB, h0⟩ := (hr.below hb).at1 hx rfl
        obtain ⟨b', o', rfl, hB', h0'⟩ := (hr'.below hb).at1 hy rfl
        rw [Nat.mul_one] at h0 h0'
        generalize xs[k] = t at h0 hx
        generalize ys[k] = t' at h0' hy
        have Hx := Lib.hid hx; clear hx
        have Hy := Lib.hid hy; clear hy
        by_cases ht : t = t'
        · have htt : (t != t') = false := by simp [ht]
          have Ht := Lib.hid ht; clear ht
          go_wp2_with fail
          go_quiet (fail)
          go_wp2_with fail
          exact ⟨⟨k + 1, by omega, by go_num, below_drewN hb _, take_next Hp.out Hx.out Hy.out Ht.out⟩, by simp [intOf]; omega⟩
        · have htt : (t != t') = true := by simp [ht]
          have hne : decide (xs = ys) = false := decide_eq_false (ne_next Hx.out Hy.out ht)
          have Ht := Lib.hid ht; clear ht
          have Hne := Lib.hid hne; clear hne
          go_wp2_with fail
          go_quiet (fail)
          go_wp2_with fail
          go_ret
          exact ⟨ret_bool Hne.out.symm, below_drewN hb _⟩
      · have e : decide (xs = ys) = true := decide_eq_true (take_all Hp.out Hl.out (by omega))
        have E := Lib.hid e; clear e
        go_wp2_with fail
        go_ret
        exact ⟨ret_bool E.out.symm, hb⟩
  · have hd : decide (xs = ys) = false := by simp; intro h; exact hl (by rw [h])
    have hn : ((xs.length : Int) != (ys.length : Int)) = true := by simp; omega
    rw [hd]
    go_enter Try.func41, Try.ntmps41
    go_wp2_with fail
    go_ret
    exact ⟨rfl, Below.refl _ _⟩

theorem likeTexts_k (A A' : Option Addr) (c c' : Nat) (xs : List ByteArray) (w : World) (hr : Rd w w.heap.size 1 tC A xs) (hr' : Rd w w.heap.size 1 tC A' xs) (hl : xs.length ≤ 1048576) :
    Calls Try.prog 56 #[.slice A xs.length c, .slice A' xs.length c'] w fun e w' => e = .returned (.bool true) ∧ Below w.heap.size w w' := by
  have := likeTexts_any A A' c c' xs xs w hr hr' hl
  rwa [decide_eq_true (rfl : xs = xs)] at this

theorem likeInts_k (A A' : Option Addr) (c c' : Nat) (xs : List Int) (w : World) (hr : Rd w w.heap.size 1 nC A xs) (hr' : Rd w w.heap.size 1 nC A' xs) (hl : xs.length ≤ 1048576) :
    Calls Try.prog 41 #[.slice A xs.length c, .slice A' xs.length c'] w fun e w' => e = .returned (.bool true) ∧ Below w.heap.size w w' := by
  have := likeInts_any A A' c c' xs xs w hr hr' hl
  rwa [decide_eq_true (rfl : xs = xs)] at this

theorem hasInt_any (A : Option Addr) (c : Nat) (xs : List Int) (n : Int) (w : World) (hr : Rd w w.heap.size 1 nC A xs) (hm : xs.length ≤ 1048576) :
    Calls Try.prog 70 #[.slice A xs.length c, .int .i64 n] w fun e w' => e = .returned (.bool (decide (n ∈ xs))) ∧ Below w.heap.size w w' := by
  have HR : Hid (decide (n ∈ xs) = decide (n ∈ xs)) := rfl
  have HY : Hid (∀ k : Nat, xs[k]? = some n → decide (n ∈ xs) = true) := fun k h => decide_eq_true (List.mem_of_getElem? h)
  have HN : Hid ((∀ k : Nat, k < xs.length → xs[k]? ≠ some n) → decide (n ∈ xs) = false) := fun h => decide_eq_false fun hm => by
    obtain ⟨k, hk⟩ := List.mem_iff_getElem?.1 hm
    exact h k (List.getElem?_eq_some_iff.1 hk).1 hk
  clear HR
  generalize decide (n ∈ xs) = R at HY HN ⊢
  go_enter Try.func70, Try.ntmps70
  go_wp2_with fail
  go_loopw [5] (fun i wr => ∃ k : Nat, k ≤ xs.length ∧ i = .int .i64 k ∧ Below w.heap.size w wr ∧ ∀ j : Nat, j < k → xs[j]? ≠ some n) (fun i _ => xs.length - (intOf i).toNat)
  case atStart => exact ⟨0, Nat.zero_le _, rfl, Below.refl _ _, fun j hj => by omega⟩
  case round =>
    obtain ⟨k, hk, rfl, hb, hall⟩ := hrel
    have Ha := Lib.hid hall; clear hall
    by_cases hlt : k < xs.length
    · have hx : xs[k]? = some xs[k] := List.getElem?_eq_getElem hlt
      obtain ⟨b, o, rfl, hB, q0⟩ := (hr.below hb).at1 hx rfl
      rw [Nat.mul_one] at q0
      generalize xs[k] = t at q0 hx
      have Hx := Lib.hid hx; clear hx
      by_cases ht : t = n
      · have HF : Hid (R = true) := HY.out k (by rw [Hx.out, ht])
        have hb1 : (t == n) = true := by simp [ht]
        clear ht
        go_wp2_with fail
        go_ret
        exact ⟨ret_bool HF.out.symm, hb⟩
      · have hb1 : (t == n) = false := by simp [ht]
        have Ht := Lib.hid ht; clear ht
        go_wp2_with fail
        exact ⟨⟨k + 1, by omega, by go_num, hb, fun j hj => by
          by_cases e : j = k
          · subst e
            rw [Hx.out]
            intro e
            exact Ht.out (Option.some.inj e)
          · exact Ha.out j (by omega)⟩, by simp [intOf]; omega⟩
    · have HF : Hid (R = false) := HN.out fun j hj => Ha.out j (by omega)
      go_wp2_with fail
      go_ret
      exact ⟨ret_bool HF.out.symm, hb⟩

theorem hasText_any (A : Option Addr) (c : Nat) (xs : List ByteArray) (n : ByteArray) (w : World) (hr : Rd w w.heap.size 1 tC A xs) (hm : xs.length ≤ 1048576) :
    Calls Try.prog 98 #[.slice A xs.length c, .string n] w fun e w' => e = .returned (.bool ((xs.any fun t => decide (t = n)))) ∧ Below w.heap.size w w' := by
  have HR : True := trivial
  have HY : Hid (∀ k : Nat, xs[k]? = some n → (xs.any fun t => decide (t = n)) = true) := fun k h => List.any_eq_true.2 ⟨n, List.mem_of_getElem? h, by simp⟩
  have HN : Hid ((∀ k : Nat, k < xs.length → xs[k]? ≠ some n) → (xs.any fun t => decide (t = n)) = false) := fun h => List.any_eq_false.2 fun t ht => by
    obtain ⟨k, hk⟩ := List.mem_iff_getElem?.1 ht
    simp only [decide_eq_true_eq]
    rintro rfl
    exact h k (List.getElem?_eq_some_iff.1 hk).1 hk
  clear HR
  generalize (xs.any fun t => decide (t = n)) = R at HY HN ⊢
  go_enter Try.func98, Try.ntmps98
  go_wp2_with fail
  go_loopw [5] (fun i wr => ∃ k : Nat, k ≤ xs.length ∧ i = .int .i64 k ∧ Below w.heap.size w wr ∧ ∀ j : Nat, j < k → xs[j]? ≠ some n) (fun i _ => xs.length - (intOf i).toNat)
  case atStart => exact ⟨0, Nat.zero_le _, rfl, Below.refl _ _, fun j hj => by omega⟩
  case round =>
    obtain ⟨k, hk, rfl, hb, hall⟩ := hrel
    have Ha := Lib.hid hall; clear hall
    by_cases hlt : k < xs.length
    · have hx : xs[k]? = some xs[k] := List.getElem?_eq_getElem hlt
      obtain ⟨b, o, rfl, hB, q0⟩ := (hr.below hb).at1 hx rfl
      rw [Nat.mul_one] at q0
      generalize xs[k] = t at q0 hx
      have Hx := Lib.hid hx; clear hx
      by_cases ht : t = n
      · have HF : Hid (R = true) := HY.out k (by rw [Hx.out, ht])
        have hb1 : (t.toList == n.toList) = true := by simp [ht]
        clear ht
        go_wp2_with fail
        go_ret
        exact ⟨ret_bool HF.out.symm, hb⟩
      · have hb1 : (t.toList == n.toList) = false := by simp; exact fun e => ht (str_eq.1 e)
        have Ht := Lib.hid ht; clear ht
        go_wp2_with fail
        exact ⟨⟨k + 1, by omega, by go_num, hb, fun j hj => by
          by_cases e : j = k
          · subst e
            rw [Hx.out]
            intro e
            exact Ht.out (Option.some.inj e)
          · exact Ha.out j (by omega)⟩, by simp [intOf]; omega⟩
    · have HF : Hid (R = false) := HN.out fun j hj => Ha.out j (by omega)
      go_wp2_with fail
      go_ret
      exact ⟨ret_bool HF.out.symm, hb⟩

end Go.Proofs.Ytpdkhmnbabccnaa

namespace Go.Proofs.Ytpdkhmnbabccnaa
set_option maxRecDepth 100000
open Go.RowKit Go.ChangeShapes Go.WideShapes Go.ChangeAt Go.Joins Go.Deep

theorem bd_u8 {n : Int} (h : (Lit.int .u8 n).wf = true) : 0 ≤ n ∧ n < 256 := by
  simp [Lit.wf, IntKind.min, IntKind.max, IntKind.signed, IntKind.bits] at h
  omega
theorem open_bytes {H : Type} {enc : TypeId × Value → H} {W : World} {spare : Nat → Bool} {r : Reach} {b0 : Nat} {v : Value} {d : DataW H} {p : List MemPlace}
    (hv : Value.okWide Try.prog W r b0 22 v) (h : DataW.Trod enc Try.prog W 0 spare true 22 v d p) :
    ∃ A c xs, v = .slice A (List.length xs) c ∧ List.length xs ≤ maxLen ∧ (∀ x ∈ xs, (fun n : Int => 0 ≤ n ∧ n < 256) x) ∧ Rd W W.heap.size 1 uC A xs :=
  open_flat (fun n : Int => 0 ≤ n ∧ n < 256) uC Try.underlying22 (show Try.prog.cellsOf 5 = 1 by kernel_rfl) (by omega) (fun n cs y hl h => by
    match cs, hl with
    | [c0], _ =>
      obtain ⟨x0, e0, -, wx0⟩ := DataW.trod_int Try.underlying5 h
      simp at e0
      subst e0
      exact ⟨x0, bd_u8 wx0, rfl⟩) hv h

theorem big_k (A : Option Addr) (c n : Nat) (w : World) : Calls Try.prog 15 #[.slice A n c] w fun e w' => e = .returned (.bool (decide ((4096 : Int) < n))) ∧ w = w' := by
  go_enter Try.func15, Try.ntmps15
  go_wp2_with fail
  go_ret
  exact ⟨rfl, rfl⟩

end Go.Proofs.Ytpdkhmnbabccnaa

namespace Go.Proofs.Ytpdkhmnbabccnaa
set_option maxRecDepth 100000
open Go.RowKit Go.ChangeShapes Go.WideShapes Go.ChangeAt Go.Joins Go.Deep

set_option maxHeartbeats 4000000 in
theorem law_FnSearches (A : Option Addr) (c : Nat) (xs : List Int) (w : World) (hr : Rd w w.heap.size 1 uC A xs) (hx : ∀ x ∈ xs, 0 ≤ x ∧ x < 256) (hm : xs.length ≤ maxLen) :
    Calls Try.prog 13 #[.slice A xs.length c] w fun e w' => e = .returned (.bool true) ∧ Below w.heap.size w w' := by
  unfold maxLen at hm
  by_cases hbig : (4096 : Int) < xs.length
  · go_enter Try.func13, Try.ntmps13
    go_wp2_with (go_at_call 15; refine (big_k A c xs.length _).mono ?_; rintro e w' ⟨rfl, rfl⟩)
    go_ret
    exact ⟨rfl, Below.refl _ _⟩
  have HBig : Hid (∀ v : World, Calls Try.prog 15 #[.slice A xs.length c] v fun e w' => e = .returned (.bool false) ∧ v = w') := fun v => (big_k A c xs.length v).mono (by rintro e w' ⟨rfl, rfl⟩; exact ⟨by simp only [hbig, decide_false], rfl⟩)
  have HD := Lib.hid (DrawFirst_any A c xs w hr hx (by omega))
  clear hr hx hbig
  go_enter Try.func13, Try.ntmps13
  go_wp2_with (go_at_call 15; refine (HBig.out _).mono ?_; rintro e w' ⟨rfl, rfl⟩)
  refine HD.out.mono ?_
  rintro e w1 ⟨LA, JA, lc, jc, vs, js, m, rfl, hrv, hsv, hrj, hjl, m0, m1, hb1⟩
  have HI : Hid (∀ (v : World) (q : Int), Below w1.heap.size w1 v → -9223372036854775808 ≤ q ∧ q ≤ 9223372036854775807 → Calls Try.prog 100 #[.slice LA vs.length lc, .slice JA js.length jc, .int .i64 q] v (GivesRes2 v v.heap.size (firstR vs js q))) := fun v q hv hq => FirstBicycle_impl LA JA lc jc vs js v (hrv.next hv) (hrj.next hv) hsv (by omega) q hq
  have HS : Hid (∀ (v : World), Below w1.heap.size w1 v → Calls Try.prog 101 #[.slice LA vs.length lc, .slice JA js.length jc, .int .i64 m] v (GivesRes2 v 0 (firstR vs js m))) := fun v hv => FirstBicycle_spec LA JA lc jc vs js v (hrv.next hv) (hrj.next hv) hsv (by omega) m (by omega)
  have HCI : Hid (∀ (v : World), Below w1.heap.size w1 v → Calls Try.prog 102 #[.slice LA vs.length lc, .slice JA js.length jc] v fun e w' => e = .returned (.tuple #[.int .i64 (countR vs js).1, .int .i64 (countR vs js).2]) ∧ Below v.heap.size v w') := fun v hv => CountBicycles_impl LA JA lc jc vs js v (hrv.next hv) (hrj.next hv) hsv (by omega)
  have HCS : Hid (∀ (v : World), Below w1.heap.size w1 v → Calls Try.prog 103 #[.slice LA vs.length lc, .slice JA js.length jc] v fun e w' => e = .returned (.tuple #[.int .i64 (countR vs js).1, .int .i64 (countR vs js).2]) ∧ Below v.heap.size v w') := fun v hv => CountBicycles_spec LA JA lc jc vs js v (hrv.next hv) (hrj.next hv) hsv (by omega)
  have HNI : Hid (∀ (v : World), Below w1.heap.size w1 v → Calls Try.prog 104 #[.slice LA vs.length lc, .slice JA js.length jc] v fun e w' => e = .returned (.tuple #[.int .i64 (nodesR vs js).1, .int .i64 (nodesR vs js).2]) ∧ Below v.heap.size v w') := fun v hv => CountNodes_impl LA JA lc jc vs js v (hrv.next hv) (hrj.next hv) hsv (by omega)
  have HNS : Hid (∀ (v : World), Below w1.heap.size w1 v → Calls Try.prog 105 #[.slice LA vs.length lc, .slice JA js.length jc] v fun e w' => e = .returned (.tuple #[.int .i64 (nodesR vs js).1, .int .i64 (nodesR vs js).2]) ∧ Below v.heap.size v w') := fun v hv => CountNodes_spec LA JA lc jc vs js v (hrv.next hv) (hrj.next hv) hsv (by omega)
  have HSo : Hid (∀ (v : World) (B : Option Addr) (d : Nat) (bs : List ByteArray), Below w1.heap.size w1 v → Rd v v.heap.size 1 tC B bs → bs.length ≤ 8 → Calls Try.prog 63 #[.slice LA vs.length lc, .slice JA js.length jc, .slice B bs.length d] v fun e w' => e = .returned (.tuple #[.bool (soundR vs js bs).1, .int .i64 (soundR vs js bs).2]) ∧ Below v.heap.size v w') := fun v B d bs hv hr hl => IsSound_impl LA JA B lc jc d vs js bs v (hrv.next hv) (hrj.next hv) hr hsv (by omega) (by omega)
  have HL := Lib.hid (first_law vs js m)
  clear hrv hsv hrj HD
  have HIm := Lib.hid (fun v hv => HI.out v m hv (by omega))
  generalize firstR vs js m = R at HIm HS HL
  generalize countR vs js = C at HCI HCS HL
  generalize nodesR vs js = D at HNI HNS HL
  obtain ⟨f, n, bad⟩ := R
  obtain ⟨cn, c1⟩ := C
  obtain ⟨nd, n1⟩ := D
  go_wp2_with fail
  refine (HIm.out w1 (Below.refl _ _)).mono ?_
  rintro e w2 ⟨FA, fc, rfl, ff, hfc, hb2⟩
  simp only at ff hfc
  have Hf2 := Lib.hid ff.rd; clear ff
  go_wp2_with fail
  refine (HS.out w2 hb2).mono ?_
  rintro e w3 ⟨GA, gc, rfl, fg, hgc, hb3⟩
  simp only at fg hgc
  have Hf3 := Lib.hid (Hf2.out.next hb3)
  have Hg3 := Lib.hid fg.rd; clear fg Hf2
  have hb13 := bthen hb2 hb3
  go_wp2_with fail
  refine (HCI.out w3 hb13).mono ?_
  rintro e w4 ⟨rfl, hb4⟩
  have hb14 := bthen hb13 hb4
  go_wp2_with fail
  refine (HCS.out w4 hb14).mono ?_
  rintro e w5 ⟨rfl, hb5⟩
  have hb15 := bthen hb14 hb5
  have hb35 := bthen hb4 hb5
  go_wp2_with fail
  refine (HNI.out w5 hb15).mono ?_
  rintro e w6 ⟨rfl, hb6⟩
  have hb16 := bthen hb15 hb6
  have hb36 := bthen hb35 hb6
  go_wp2_with fail
  refine (HNS.out w6 hb16).mono ?_
  rintro e w7 ⟨rfl, hb7⟩
  have hb17 := bthen hb16 hb7
  have hb37 := bthen hb36 hb7
  have Hf7 := Lib.hid (Hf3.out.next hb37)
  have HLk := Lib.hid (likeTexts_k FA GA fc gc f w7 (Hf3.out.next hb37) (Hg3.out.next hb37) (by have := HL.out.len; simp only at this; omega))
  clear Hf3 Hg3 hb2 hb3 hb4 hb5 hb6 hb7 hb13 hb14 hb15 hb16 hb35 hb36 hb37 HCI HCS HNI HNS HS HIm
  by_cases h4 : bad = 4
  · obtain ⟨a1, a2⟩ := HL.out.notFound h4
    try simp only at a1 a2
    subst h4
    go_wp2_with fail
    refine HLk.out.mono ?_
    rintro e w8 ⟨rfl, hb8⟩
    go_wp2_with fail
    go_ret
    exact ⟨rfl, hb1.trans ((bthen hb17 hb8).mono hb1.size)⟩
  have h4b : (bad == 4) = false := by simp [h4]
  by_cases h3 : bad = 3
  · have a1 := HL.out.limit h3
    try simp only at a1
    subst h3
    go_wp2_with fail
    refine HLk.out.mono ?_
    rintro e w8 ⟨rfl, hb8⟩
    go_wp2_with fail
    go_ret
    exact ⟨rfl, hb1.trans ((bthen hb17 hb8).mono hb1.size)⟩
  have h3b : (bad == 3) = false := by simp [h3]
  by_cases h0 : bad = 0
  · have a1 := HL.out.sound h0
    have a3 := HL.out.some h0
    have a4 := Lib.hid (HL.out.less h0)
    have a5 := HL.out.len
    try simp only at a1 a3 a4 a5
    obtain ⟨b1, b2, b3, b4, b5⟩ := a3
    have HSf : Hid (∀ (v : World), Below w7.heap.size w7 v → Calls Try.prog 63 #[.slice LA vs.length lc, .slice JA js.length jc, .slice FA f.length fc] v fun e w' => e = .returned (.tuple #[.bool true, .int .i64 0]) ∧ Below v.heap.size v w') := fun v hv => by
      have := HSo.out v FA fc f (bthen hb17 hv) (Hf7.out.next hv) a5
      rwa [a1] at this
    subst h0
    clear a1 HSo HL h4 h3 h4b h3b
    go_wp2_with fail
    refine HLk.out.mono ?_
    rintro e w8 ⟨rfl, hb8⟩
    go_wp2_with fail
    refine (HSf.out w8 hb8).mono ?_
    rintro e w9 ⟨rfl, hb9⟩
    have hb19 := bthen (bthen hb17 hb8) hb9
    by_cases hn : n = 0
    · subst hn
      go_wp2_with fail
      go_ret
      exact ⟨rfl, hb1.trans (hb19.mono hb1.size)⟩
    · have hnb : (n == 0) = false := by simp [hn]
      have HI9 := Lib.hid (HI.out w9 (n - 1) hb19 (by omega))
      have a6 := Lib.hid (a4.out hn)
      clear a4 HI
      generalize firstR vs js (n - 1) = R2 at HI9 a6
      obtain ⟨f2, n2, bad2⟩ := R2
      have a7 : bad2 = 3 := a6.out
      subst a7
      go_wp2_with fail
      refine HI9.out.mono ?_
      rintro e w10 ⟨XA, xc, rfl, _, _, hb10⟩
      go_wp2_with fail
      go_ret
      exact ⟨rfl, hb1.trans ((bthen hb19 hb10).mono hb1.size)⟩
  · have h0b : (bad == 0) = false := by simp [h0]
    have h0c : (bad != 0) = true := by simp [h0]
    go_wp2_with fail
    refine HLk.out.mono ?_
    rintro e w8 ⟨rfl, hb8⟩
    go_wp2_with fail
    go_ret
    exact ⟨rfl, hb1.trans ((bthen hb17 hb8).mono hb1.size)⟩

set_option maxRecDepth 100000 in
theorem fnSearches_lifted (os : Os) (started : os.Started) (H : Type) (enc : TypeId × Value → H) :
    ReturnsInHanded {} Try.checked os 13 .any (Rows.fnSearchesSpec.pre6 enc Try.prog Try.f13 Rows.fnSearchesRow.domain false) (Rows.fnSearchesSpec.post enc Try.prog Try.f13 false true false false) := by
  refine returnsInHanded_of_change (C := Try.checked) own started (by kernel_rfl) Try.func13
    (ChangeSpec.witness6 (enc := enc) (C := Try.checked) false ⟨#[], #[.slice none 0 0], []⟩ 8 (by kernel_rfl) (by kernel_rfl) (by kernel_rfl) (by kernel_rfl)) ?_
  intro W base args ds gs before hval0 hW hcnd _
  have hval : ∀ (j : Nat) t v, Try.f13.params[j]? = some t → args[j]? = some v → Value.okWide Try.prog W .any base t v := hval0
  have hlt : ∀ x ∈ before, x.block < W.heap.size := fun x hx => hW.lt x hx
  have hW' := hW
  obtain ⟨p, q, hA0, hV, rfl, hfz, hnd⟩ := hW
  have hA : DataW.TrodAll enc Try.prog W 0 (fun _ => true) true Try.f13.params.toList args.toList ds p := hA0
  rw [Try.params13] at hA hval
  obtain ⟨v0, d0, rfl, rfl, h0⟩ := trodAll_one hA
  obtain ⟨A, c, xs, rfl, hm, hx, hr⟩ := open_bytes (hval 0 22 v0 rfl rfl) h0
  refine (law_FnSearches A c xs W hr hx hm).mono fun e W' ⟨he, hb⟩ => ?_
  subst he
  exact ⟨_, rfl, law_post (tb := 4) laidOut (by kernel_rfl) rfl rfl Try.underlying4 hW' rfl hb⟩
theorem fnSearches_closed : joinedFacts Try.prog 13 Try.f13 Rows.fnSearchesSpec Rows.fnSearchesRow = true := by
  unfold joinedFacts; rw [mayEnter_yes, liftsFinal_no, make_cut]; kernel_rfl
theorem fnSearches_holds : Rows.FnSearchesSaid :=
  OpenClaim.holds_of_wide 13 Try.f13 rfl rfl rfl rfl rfl rfl rfl ⟨rfl, rfl, rfl, rfl, rfl⟩ rfl rfl rfl rfl rfl (by kernel_rfl) Try.func13 fnSearches_closed
    (of_decide_eq_true (by kernel_rfl)) (by unfold Func.isWrapper; rw [if_neg (of_decide_eq_false (by kernel_rfl))]; exact ⟨rfl, rfl⟩)
    (fun os started H enc _ => fnSearches_lifted os started H enc)
#print axioms fnSearches_holds

end Go.Proofs.Ytpdkhmnbabccnaa
