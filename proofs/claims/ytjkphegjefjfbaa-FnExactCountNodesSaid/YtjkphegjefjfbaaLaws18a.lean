/- DERIVED. The laws on how many bicycles and nodes there are. -/
import Derived.Test.YtjkphegjefjfbaaCount
import Derived.Test.YtjkphegjefjfbaaKitPart
import Derived.Test.YtjkphegjefjfbaaKitJoint
import Derived.Test.YtjkphegjefjfbaaHead
import Derived.Lib.SmallJoins
import Derived.Deep.Slices
import Derived.Deep.Fields
import Derived.ChangeMaps5
import Derived.Carry
import Derived.Deep.RegionHeld3
namespace Go.Proofs.Ytjkphegjefjfbaa
set_option maxRecDepth 100000
open Go.RowKit Go.ChangeShapes Go.WideShapes Go.ChangeAt Go.Joins Go.Deep

set_option maxHeartbeats 1000000 in
theorem law_FnExactCountBicycles (A0 : Option Addr) (c0 : Nat) (xs0 : List PartT) (A1 : Option Addr) (c1 : Nat) (xs1 : List (Int × Int × Int)) (w : World) (hr0 : xs0.length ≤ maxLen ∧ (∀ x ∈ xs0, goodV x) ∧ RdV w w.heap.size A0 xs0) (hr1 : xs1.length ≤ maxLen ∧ (∀ x ∈ xs1, (fun _ => True) x) ∧ Rd w w.heap.size 3 jointC A1 xs1) :
    Calls Try.prog 3 #[.slice A0 xs0.length c0, .slice A1 xs1.length c1] w fun e w' => e = .returned (.bool true) ∧ Below w.heap.size w w' := by
  obtain ⟨hm0, hg0, hr0⟩ := hr0
  obtain ⟨hm1, hg1, hr1⟩ := hr1
  have Hg0 := Lib.hid hg0; clear hg0
  have Hg1 := Lib.hid hg1; clear hg1
  go_enter Try.func3, Try.ntmps3
  go_wp2_with fail
  have hbW := Below.refl w.heap.size w
  have sz0 := Nat.le_refl w.heap.size
  refine (szPartS_k A0 c0 xs0 1048576 _ ((hr0.below hbW).more hbW.size) hm0 Hg0.out (by omega) (by omega)).mono ?_
  rintro e w1 ⟨r1, rfl, hq1, hb1⟩
  have sz1 := hb1.size
  replace hbW := bthen' hbW hb1
  rcases hq1 with rfl | ⟨hq1, hl1, hS0⟩
  · go_wp2_with fail
    go_ret
    exact ⟨rfl, hbW⟩
  have HS0 := Lib.hid hS0; clear hS0
  go_wp2_with fail
  refine (szJointS_k A1 c1 xs1 r1 _ ((hr1.below hbW).more hbW.size) hm1 Hg1.out (by omega) (by omega)).mono ?_
  rintro e w2 ⟨r2, rfl, hq2, hb2⟩
  have sz2 := hb2.size
  replace hbW := bthen' hbW hb2
  rcases hq2 with rfl | ⟨hq2, hl2, hS1⟩
  · go_wp2_with fail
    go_ret
    exact ⟨rfl, hbW⟩
  have HS1 := Lib.hid hS1; clear hS1
  go_wp2_with fail
  have hSp := Lib.hid (fun A0' c0' A1' c1' v q0 q1 => CountBicycles_spec A0' A1' c0' c1' xs0 xs1 v q0 q1 HS0.out HS1.out)
  have hIm := Lib.hid (fun A0' c0' A1' c1' v q0 q1 => CountBicycles_impl A0' A1' c0' c1' xs0 xs1 v q0 q1 HS0.out HS1.out)
  generalize countR xs0 xs1 = res at hSp hIm
  obtain ⟨y0, y1⟩ := res
  refine (toPartS_k A0 c0 xs0 _ ((hr0.below hbW).more hbW.size) HS0.out).mono ?_
  rintro e w3 ⟨aA0, rfl, af0, hb3⟩
  have sz3 := hb3.size
  replace hbW := bthen' hbW hb3
  go_wp2_with fail
  refine (toJointS_k A1 c1 xs1 _ ((hr1.below hbW).more hbW.size) HS1.out).mono ?_
  rintro e w4 ⟨aA1, rfl, af1, hb4⟩
  have sz4 := hb4.size
  replace hbW := bthen' hbW hb4
  replace af0 := af0.below hb4 (by omega)
  go_wp2_with fail
  refine (hSp.out aA0 _ aA1 _ _ (af0.rd.more (by omega)) (af1.rd.more (by omega))).mono ?_
  rintro e w5 ⟨rfl, hb5⟩
  have sz5 := hb5.size
  replace hbW := bthen' hbW hb5
  replace af0 := af0.below hb5 (by omega)
  replace af1 := af1.below hb5 (by omega)
  go_wp2_with fail
  clear af0 af1
  refine (toPartS_k A0 c0 xs0 _ ((hr0.below hbW).more hbW.size) HS0.out).mono ?_
  rintro e w6 ⟨bA0, rfl, bf0, hb6⟩
  have sz6 := hb6.size
  replace hbW := bthen' hbW hb6
  go_wp2_with fail
  refine (toJointS_k A1 c1 xs1 _ ((hr1.below hbW).more hbW.size) HS1.out).mono ?_
  rintro e w7 ⟨bA1, rfl, bf1, hb7⟩
  have sz7 := hb7.size
  replace hbW := bthen' hbW hb7
  replace bf0 := bf0.below hb7 (by omega)
  go_wp2_with fail
  refine (hIm.out bA0 _ bA1 _ _ (bf0.rd.more (by omega)) (bf1.rd.more (by omega))).mono ?_
  rintro e w8 ⟨rfl, hb8⟩
  have sz8 := hb8.size
  replace hbW := bthen' hbW hb8
  replace bf0 := bf0.below hb8 (by omega)
  replace bf1 := bf1.below hb8 (by omega)
  go_wp2_with fail
  refine (toPartS_k A0 c0 xs0 _ ((hr0.below hbW).more hbW.size) HS0.out).mono ?_
  rintro e w9 ⟨dA0, rfl, df0, hb9⟩
  have sz9 := hb9.size
  replace hbW := bthen' hbW hb9
  replace bf0 := bf0.below hb9 (by omega)
  replace bf1 := bf1.below hb9 (by omega)
  go_wp2_with fail
  refine (eqPartS_k bA0 dA0 _ _ xs0 _ (bf0.rd.more (by omega)) (df0.rd.more (by omega)) HS0.out).mono ?_
  rintro e w10 ⟨rfl, hb10⟩
  have sz10 := hb10.size
  replace hbW := bthen' hbW hb10
  replace bf0 := bf0.below hb10 (by omega)
  replace bf1 := bf1.below hb10 (by omega)
  clear df0
  go_wp2_with fail
  refine (toJointS_k A1 c1 xs1 _ ((hr1.below hbW).more hbW.size) HS1.out).mono ?_
  rintro e w11 ⟨dA1, rfl, df1, hb11⟩
  have sz11 := hb11.size
  replace hbW := bthen' hbW hb11
  replace bf0 := bf0.below hb11 (by omega)
  replace bf1 := bf1.below hb11 (by omega)
  go_wp2_with fail
  refine (eqJointS_k bA1 dA1 _ _ xs1 _ (bf1.rd.more (by omega)) (df1.rd.more (by omega)) HS1.out).mono ?_
  rintro e w12 ⟨rfl, hb12⟩
  have sz12 := hb12.size
  replace hbW := bthen' hbW hb12
  replace bf0 := bf0.below hb12 (by omega)
  replace bf1 := bf1.below hb12 (by omega)
  clear df1
  go_wp2_with fail
  go_ret
  exact ⟨rfl, hbW⟩

set_option maxRecDepth 100000 in
theorem fnExactCountBicycles_lifted (os : Os) (started : os.Started) (H : Type) (enc : TypeId × Value → H) :
    ReturnsInHanded {} Try.checked os 3 .any (Rows.fnExactCountBicyclesSpec.pre6 enc Try.prog Try.f3 Rows.fnExactCountBicyclesRow.domain false) (Rows.fnExactCountBicyclesSpec.post enc Try.prog Try.f3 false true false false) := by
  refine returnsInHanded_of_change (C := Try.checked) own started (by kernel_rfl) Try.func3
    (ChangeSpec.witness6 (enc := enc) (C := Try.checked) false ⟨#[], #[.slice none 0 0, .slice none 0 0], []⟩ 8 (by kernel_rfl) (by kernel_rfl) (by kernel_rfl) (by kernel_rfl)) ?_
  intro W base args ds gs before hval0 hW hcnd _
  have hval : ∀ (j : Nat) t v, Try.f3.params[j]? = some t → args[j]? = some v → Value.okWide Try.prog W .any base t v := hval0
  have hlt : ∀ x ∈ before, x.block < W.heap.size := fun x hx => hW.lt x hx
  have hW' := hW
  obtain ⟨p, q, hA0, hV, rfl, hfz, hnd⟩ := hW
  have hA : DataW.TrodAll enc Try.prog W 0 (fun _ => true) true Try.f3.params.toList args.toList ds p := hA0
  rw [Try.params3] at hA hval
  obtain ⟨v0, v1, d0, d1, p0, p1, rfl, rfl, rfl, h0, h1⟩ := trodAll_two hA
  obtain ⟨A0, k0, xs0, rfl, hr0⟩ := open_partsV (hval 0 22 v0 rfl rfl) h0
  obtain ⟨A1, k1, xs1, rfl, hr1⟩ := open_joints (hval 1 23 v1 rfl rfl) h1
  refine (law_FnExactCountBicycles A0 k0 xs0 A1 k1 xs1 W hr0 hr1).mono fun e W' ⟨he, hb⟩ => ?_
  subst he
  exact ⟨_, rfl, law_post (tb := 4) laidOut (by kernel_rfl) rfl rfl Try.underlying4 hW' rfl hb⟩
theorem fnExactCountBicycles_closed : joinedFacts Try.prog 3 Try.f3 Rows.fnExactCountBicyclesSpec Rows.fnExactCountBicyclesRow = true := by
  unfold joinedFacts; rw [mayEnter_yes, liftsFinal_no, make_cut]; kernel_rfl
theorem fnExactCountBicycles_holds : Rows.FnExactCountBicyclesSaid :=
  OpenClaim.holds_of_wide 3 Try.f3 rfl rfl rfl rfl rfl rfl rfl ⟨rfl, rfl, rfl, rfl, rfl⟩ rfl rfl rfl rfl rfl (by kernel_rfl) Try.func3 fnExactCountBicycles_closed
    (of_decide_eq_true (by kernel_rfl)) (by unfold Func.isWrapper; rw [if_neg (of_decide_eq_false (by kernel_rfl))]; exact ⟨rfl, rfl⟩)
    (fun os started H enc _ => fnExactCountBicycles_lifted os started H enc)
#print axioms fnExactCountBicycles_holds

set_option maxHeartbeats 1000000 in
theorem law_FnExactCountNodes (A0 : Option Addr) (c0 : Nat) (xs0 : List PartT) (A1 : Option Addr) (c1 : Nat) (xs1 : List (Int × Int × Int)) (w : World) (hr0 : xs0.length ≤ maxLen ∧ (∀ x ∈ xs0, goodV x) ∧ RdV w w.heap.size A0 xs0) (hr1 : xs1.length ≤ maxLen ∧ (∀ x ∈ xs1, (fun _ => True) x) ∧ Rd w w.heap.size 3 jointC A1 xs1) :
    Calls Try.prog 4 #[.slice A0 xs0.length c0, .slice A1 xs1.length c1] w fun e w' => e = .returned (.bool true) ∧ Below w.heap.size w w' := by
  obtain ⟨hm0, hg0, hr0⟩ := hr0
  obtain ⟨hm1, hg1, hr1⟩ := hr1
  have Hg0 := Lib.hid hg0; clear hg0
  have Hg1 := Lib.hid hg1; clear hg1
  go_enter Try.func4, Try.ntmps4
  go_wp2_with fail
  have hbW := Below.refl w.heap.size w
  have sz0 := Nat.le_refl w.heap.size
  refine (szPartS_k A0 c0 xs0 1048576 _ ((hr0.below hbW).more hbW.size) hm0 Hg0.out (by omega) (by omega)).mono ?_
  rintro e w1 ⟨r1, rfl, hq1, hb1⟩
  have sz1 := hb1.size
  replace hbW := bthen' hbW hb1
  rcases hq1 with rfl | ⟨hq1, hl1, hS0⟩
  · go_wp2_with fail
    go_ret
    exact ⟨rfl, hbW⟩
  have HS0 := Lib.hid hS0; clear hS0
  go_wp2_with fail
  refine (szJointS_k A1 c1 xs1 r1 _ ((hr1.below hbW).more hbW.size) hm1 Hg1.out (by omega) (by omega)).mono ?_
  rintro e w2 ⟨r2, rfl, hq2, hb2⟩
  have sz2 := hb2.size
  replace hbW := bthen' hbW hb2
  rcases hq2 with rfl | ⟨hq2, hl2, hS1⟩
  · go_wp2_with fail
    go_ret
    exact ⟨rfl, hbW⟩
  have HS1 := Lib.hid hS1; clear hS1
  go_wp2_with fail
  have hSp := Lib.hid (fun A0' c0' A1' c1' v q0 q1 => CountNodes_spec A0' A1' c0' c1' xs0 xs1 v q0 q1 HS0.out HS1.out)
  have hIm := Lib.hid (fun A0' c0' A1' c1' v q0 q1 => CountNodes_impl A0' A1' c0' c1' xs0 xs1 v q0 q1 HS0.out HS1.out)
  generalize nodesR xs0 xs1 = res at hSp hIm
  obtain ⟨y0, y1⟩ := res
  refine (toPartS_k A0 c0 xs0 _ ((hr0.below hbW).more hbW.size) HS0.out).mono ?_
  rintro e w3 ⟨aA0, rfl, af0, hb3⟩
  have sz3 := hb3.size
  replace hbW := bthen' hbW hb3
  go_wp2_with fail
  refine (toJointS_k A1 c1 xs1 _ ((hr1.below hbW).more hbW.size) HS1.out).mono ?_
  rintro e w4 ⟨aA1, rfl, af1, hb4⟩
  have sz4 := hb4.size
  replace hbW := bthen' hbW hb4
  replace af0 := af0.below hb4 (by omega)
  go_wp2_with fail
  refine (hSp.out aA0 _ aA1 _ _ (af0.rd.more (by omega)) (af1.rd.more (by omega))).mono ?_
  rintro e w5 ⟨rfl, hb5⟩
  have sz5 := hb5.size
  replace hbW := bthen' hbW hb5
  replace af0 := af0.below hb5 (by omega)
  replace af1 := af1.below hb5 (by omega)
  go_wp2_with fail
  clear af0 af1
  refine (toPartS_k A0 c0 xs0 _ ((hr0.below hbW).more hbW.size) HS0.out).mono ?_
  rintro e w6 ⟨bA0, rfl, bf0, hb6⟩
  have sz6 := hb6.size
  replace hbW := bthen' hbW hb6
  go_wp2_with fail
  refine (toJointS_k A1 c1 xs1 _ ((hr1.below hbW).more hbW.size) HS1.out).mono ?_
  rintro e w7 ⟨bA1, rfl, bf1, hb7⟩
  have sz7 := hb7.size
  replace hbW := bthen' hbW hb7
  replace bf0 := bf0.below hb7 (by omega)
  go_wp2_with fail
  refine (hIm.out bA0 _ bA1 _ _ (bf0.rd.more (by omega)) (bf1.rd.more (by omega))).mono ?_
  rintro e w8 ⟨rfl, hb8⟩
  have sz8 := hb8.size
  replace hbW := bthen' hbW hb8
  replace bf0 := bf0.below hb8 (by omega)
  replace bf1 := bf1.below hb8 (by omega)
  go_wp2_with fail
  refine (toPartS_k A0 c0 xs0 _ ((hr0.below hbW).more hbW.size) HS0.out).mono ?_
  rintro e w9 ⟨dA0, rfl, df0, hb9⟩
  have sz9 := hb9.size
  replace hbW := bthen' hbW hb9
  replace bf0 := bf0.below hb9 (by omega)
  replace bf1 := bf1.below hb9 (by omega)
  go_wp2_with fail
  refine (eqPartS_k bA0 dA0 _ _ xs0 _ (bf0.rd.more (by omega)) (df0.rd.more (by omega)) HS0.out).mono ?_
  rintro e w10 ⟨rfl, hb10⟩
  have sz10 := hb10.size
  replace hbW := bthen' hbW hb10
  replace bf0 := bf0.below hb10 (by omega)
  replace bf1 := bf1.below hb10 (by omega)
  clear df0
  go_wp2_with fail
  refine (toJointS_k A1 c1 xs1 _ ((hr1.below hbW).more hbW.size) HS1.out).mono ?_
  rintro e w11 ⟨dA1, rfl, df1, hb11⟩
  have sz11 := hb11.size
  replace hbW := bthen' hbW hb11
  replace bf0 := bf0.below hb11 (by omega)
  replace bf1 := bf1.below hb11 (by omega)
  go_wp2_with fail
  refine (eqJointS_k bA1 dA1 _ _ xs1 _ (bf1.rd.more (by omega)) (df1.rd.more (by omega)) HS1.out).mono ?_
  rintro e w12 ⟨rfl, hb12⟩
  have sz12 := hb12.size
  replace hbW := bthen' hbW hb12
  replace bf0 := bf0.below hb12 (by omega)
  replace bf1 := bf1.below hb12 (by omega)
  clear df1
  go_wp2_with fail
  go_ret
  exact ⟨rfl, hbW⟩

set_option maxRecDepth 100000 in
theorem fnExactCountNodes_lifted (os : Os) (started : os.Started) (H : Type) (enc : TypeId × Value → H) :
    ReturnsInHanded {} Try.checked os 4 .any (Rows.fnExactCountNodesSpec.pre6 enc Try.prog Try.f4 Rows.fnExactCountNodesRow.domain false) (Rows.fnExactCountNodesSpec.post enc Try.prog Try.f4 false true false false) := by
  refine returnsInHanded_of_change (C := Try.checked) own started (by kernel_rfl) Try.func4
    (ChangeSpec.witness6 (enc := enc) (C := Try.checked) false ⟨#[], #[.slice none 0 0, .slice none 0 0], []⟩ 8 (by kernel_rfl) (by kernel_rfl) (by kernel_rfl) (by kernel_rfl)) ?_
  intro W base args ds gs before hval0 hW hcnd _
  have hval : ∀ (j : Nat) t v, Try.f4.params[j]? = some t → args[j]? = some v → Value.okWide Try.prog W .any base t v := hval0
  have hlt : ∀ x ∈ before, x.block < W.heap.size := fun x hx => hW.lt x hx
  have hW' := hW
  obtain ⟨p, q, hA0, hV, rfl, hfz, hnd⟩ := hW
  have hA : DataW.TrodAll enc Try.prog W 0 (fun _ => true) true Try.f4.params.toList args.toList ds p := hA0
  rw [Try.params4] at hA hval
  obtain ⟨v0, v1, d0, d1, p0, p1, rfl, rfl, rfl, h0, h1⟩ := trodAll_two hA
  obtain ⟨A0, k0, xs0, rfl, hr0⟩ := open_partsV (hval 0 22 v0 rfl rfl) h0
  obtain ⟨A1, k1, xs1, rfl, hr1⟩ := open_joints (hval 1 23 v1 rfl rfl) h1
  refine (law_FnExactCountNodes A0 k0 xs0 A1 k1 xs1 W hr0 hr1).mono fun e W' ⟨he, hb⟩ => ?_
  subst he
  exact ⟨_, rfl, law_post (tb := 4) laidOut (by kernel_rfl) rfl rfl Try.underlying4 hW' rfl hb⟩
theorem fnExactCountNodes_closed : joinedFacts Try.prog 4 Try.f4 Rows.fnExactCountNodesSpec Rows.fnExactCountNodesRow = true := by
  unfold joinedFacts; rw [mayEnter_yes, liftsFinal_no, make_cut]; kernel_rfl
theorem fnExactCountNodes_holds : Rows.FnExactCountNodesSaid :=
  OpenClaim.holds_of_wide 4 Try.f4 rfl rfl rfl rfl rfl rfl rfl ⟨rfl, rfl, rfl, rfl, rfl⟩ rfl rfl rfl rfl rfl (by kernel_rfl) Try.func4 fnExactCountNodes_closed
    (of_decide_eq_true (by kernel_rfl)) (by unfold Func.isWrapper; rw [if_neg (of_decide_eq_false (by kernel_rfl))]; exact ⟨rfl, rfl⟩)
    (fun os started H enc _ => fnExactCountNodes_lifted os started H enc)
#print axioms fnExactCountNodes_holds

end Go.Proofs.Ytjkphegjefjfbaa
