/- DERIVED. The law on the parts that fit. -/
import Derived.Test.YtphkmlgifhggnaaFit
import Derived.Test.YtphkmlgifhggnaaKitPart
import Derived.Test.YtphkmlgifhggnaaKitStr
import Derived.Test.YtphkmlgifhggnaaKitJoint
import Derived.Test.YtphkmlgifhggnaaResInt
import Derived.Test.YtphkmlgifhggnaaHead
import Derived.Lib.SmallJoins
import Derived.Deep.Slices
import Derived.Deep.Fields
import Derived.ChangeMaps5
import Derived.Carry
import Derived.Deep.RegionHeld3
namespace Go.Proofs.Ytphkmlgifhggnaa
set_option maxRecDepth 100000
open Go.RowKit Go.ChangeShapes Go.WideShapes Go.ChangeAt Go.Joins Go.Deep

theorem fitR_small (vs : List PartT) (js : List JointT) (bs : List ByteArray) (slot : Int) (h : vs.length ≤ 1048576) : (fitR vs js bs slot).1.length ≤ 1048576 := by
  have := idxTo_le (fitP vs js bs slot) vs vs.length
  unfold fitR
  split
  · split
    · simp only
      omega
    · simp
  · simp
set_option maxHeartbeats 1000000 in
theorem law_FnExactFittingParts (A0 : Option Addr) (c0 : Nat) (xs0 : List PartT) (A1 : Option Addr) (c1 : Nat) (xs1 : List (Int × Int × Int)) (A2 : Option Addr) (c2 : Nat) (xs2 : List ByteArray) (x3 : Int) (hx3 : -9223372036854775808 ≤ x3 ∧ x3 ≤ 9223372036854775807) (w : World) (hr0 : xs0.length ≤ maxLen ∧ (∀ x ∈ xs0, goodV x) ∧ RdV w w.heap.size A0 xs0) (hr1 : xs1.length ≤ maxLen ∧ (∀ x ∈ xs1, (fun _ => True) x) ∧ Rd w w.heap.size 3 jointC A1 xs1) (hr2 : xs2.length ≤ maxLen ∧ (∀ x ∈ xs2, (fun t => t.size ≤ maxLen) x) ∧ Rd w w.heap.size 1 tC A2 xs2) :
    Calls Try.prog 11 #[.slice A0 xs0.length c0, .slice A1 xs1.length c1, .slice A2 xs2.length c2, .int .i64 x3] w fun e w' => e = .returned (.bool true) ∧ Below w.heap.size w w' := by
  obtain ⟨hm0, hg0, hr0⟩ := hr0
  obtain ⟨hm1, hg1, hr1⟩ := hr1
  obtain ⟨hm2, hg2, hr2⟩ := hr2
  have Hg0 := Lib.hid hg0; clear hg0
  have Hg1 := Lib.hid hg1; clear hg1
  have Hg2 := Lib.hid hg2; clear hg2
  go_enter Try.func11, Try.ntmps11
  go_wp2_with fail
  have hbW := Below.refl w.heap.size w
  have sz0 := Nat.le_refl w.heap.size
  refine (szPartS_k A0 c0 xs0 1048576 _ ((hr0.below hbW).more hbW.size) hm0 Hg0.out (by omega) (by omega)).mono ?_
  rintro e w1 ⟨r1, rfl, hq1, hb1⟩
  have sz1 := hb1.size
  replace hbW := bthen' hbW hb1
  rcases hq1 with rfl | ⟨hq1, hl1, hS0⟩
  · go_wp2_with fail
    go_ret
    exact ⟨rfl, hbW⟩
  have HS0 := Lib.hid hS0; clear hS0
  go_wp2_with fail
  refine (szJointS_k A1 c1 xs1 r1 _ ((hr1.below hbW).more hbW.size) hm1 Hg1.out (by omega) (by omega)).mono ?_
  rintro e w2 ⟨r2, rfl, hq2, hb2⟩
  have sz2 := hb2.size
  replace hbW := bthen' hbW hb2
  rcases hq2 with rfl | ⟨hq2, hl2, hS1⟩
  · go_wp2_with fail
    go_ret
    exact ⟨rfl, hbW⟩
  have HS1 := Lib.hid hS1; clear hS1
  go_wp2_with fail
  refine (szStringS_k A2 c2 xs2 r2 _ ((hr2.below hbW).more hbW.size) hm2 Hg2.out (by omega) (by omega)).mono ?_
  rintro e w3 ⟨r3, rfl, hq3, hb3⟩
  have sz3 := hb3.size
  replace hbW := bthen' hbW hb3
  rcases hq3 with rfl | ⟨hq3, hl3, hS2⟩
  · go_wp2_with fail
    go_ret
    exact ⟨rfl, hbW⟩
  have HS2 := Lib.hid hS2; clear hS2
  go_wp2_with fail
  have hSp := Lib.hid (fun A0' c0' A1' c1' A2' c2' v q0 q1 q2 => FittingParts_spec A0' A1' A2' c0' c1' c2' xs0 xs1 xs2 x3 v q0 q1 q2 HS0.out HS1.out HS2.out.1)
  have hIm := Lib.hid (fun A0' c0' A1' c1' A2' c2' v q0 q1 q2 => FittingParts_impl A0' A1' A2' c0' c1' c2' xs0 xs1 xs2 x3 v q0 q1 q2 HS0.out HS1.out HS2.out.1)
  have hSm := Lib.hid (fitR_small xs0 xs1 xs2 x3 HS0.out.1)
  generalize fitR xs0 xs1 xs2 x3 = res at hSp hIm hSm
  obtain ⟨y0, y1⟩ := res
  refine (toPartS_k A0 c0 xs0 _ ((hr0.below hbW).more hbW.size) HS0.out).mono ?_
  rintro e w4 ⟨aA0, rfl, af0, hb4⟩
  have sz4 := hb4.size
  replace hbW := bthen' hbW hb4
  go_wp2_with fail
  refine (toJointS_k A1 c1 xs1 _ ((hr1.below hbW).more hbW.size) HS1.out).mono ?_
  rintro e w5 ⟨aA1, rfl, af1, hb5⟩
  have sz5 := hb5.size
  replace hbW := bthen' hbW hb5
  replace af0 := af0.below hb5 (by omega)
  go_wp2_with fail
  refine (toStringS_k A2 c2 xs2 _ ((hr2.below hbW).more hbW.size) HS2.out).mono ?_
  rintro e w6 ⟨aA2, rfl, af2, hb6⟩
  have sz6 := hb6.size
  replace hbW := bthen' hbW hb6
  replace af0 := af0.below hb6 (by omega)
  replace af1 := af1.below hb6 (by omega)
  go_wp2_with fail
  refine (hSp.out aA0 _ aA1 _ aA2 _ _ (af0.rd.more (by omega)) (af1.rd.more (by omega)) (af2.rd.more (by omega))).mono ?_
  rintro e w7 ⟨aG, ac, rfl, ag, -, hb7⟩
  have sz7 := hb7.size
  replace hbW := bthen' hbW hb7
  replace af0 := af0.below hb7 (by omega)
  replace af1 := af1.below hb7 (by omega)
  replace af2 := af2.below hb7 (by omega)
  simp only at ag
  go_wp2_with fail
  clear af0 af1 af2
  refine (toPartS_k A0 c0 xs0 _ ((hr0.below hbW).more hbW.size) HS0.out).mono ?_
  rintro e w8 ⟨bA0, rfl, bf0, hb8⟩
  have sz8 := hb8.size
  replace hbW := bthen' hbW hb8
  replace ag := ag.below hb8 (by omega)
  go_wp2_with fail
  refine (toJointS_k A1 c1 xs1 _ ((hr1.below hbW).more hbW.size) HS1.out).mono ?_
  rintro e w9 ⟨bA1, rfl, bf1, hb9⟩
  have sz9 := hb9.size
  replace hbW := bthen' hbW hb9
  replace ag := ag.below hb9 (by omega)
  replace bf0 := bf0.below hb9 (by omega)
  go_wp2_with fail
  refine (toStringS_k A2 c2 xs2 _ ((hr2.below hbW).more hbW.size) HS2.out).mono ?_
  rintro e w10 ⟨bA2, rfl, bf2, hb10⟩
  have sz10 := hb10.size
  replace hbW := bthen' hbW hb10
  replace ag := ag.below hb10 (by omega)
  replace bf0 := bf0.below hb10 (by omega)
  replace bf1 := bf1.below hb10 (by omega)
  go_wp2_with fail
  refine (hIm.out bA0 _ bA1 _ bA2 _ _ (bf0.rd.more (by omega)) (bf1.rd.more (by omega)) (bf2.rd.more (by omega))).mono ?_
  rintro e w11 ⟨bG, bc, rfl, bg, -, hb11⟩
  have sz11 := hb11.size
  replace hbW := bthen' hbW hb11
  replace ag := ag.below hb11 (by omega)
  replace bf0 := bf0.below hb11 (by omega)
  replace bf1 := bf1.below hb11 (by omega)
  replace bf2 := bf2.below hb11 (by omega)
  simp only at bg
  go_wp2_with fail
  refine (eqInt64S_r bG aG _ _ y0 _ (bg.rd.more (by omega)) (ag.rd.more (by omega)) hSm.out).mono ?_
  rintro e w12 ⟨rfl, hb12⟩
  have sz12 := hb12.size
  replace hbW := bthen' hbW hb12
  replace ag := ag.below hb12 (by omega)
  replace bf0 := bf0.below hb12 (by omega)
  replace bf1 := bf1.below hb12 (by omega)
  replace bf2 := bf2.below hb12 (by omega)
  replace bg := bg.below hb12 (by omega)
  go_wp2_with fail
  refine (toPartS_k A0 c0 xs0 _ ((hr0.below hbW).more hbW.size) HS0.out).mono ?_
  rintro e w13 ⟨dA0, rfl, df0, hb13⟩
  have sz13 := hb13.size
  replace hbW := bthen' hbW hb13
  replace ag := ag.below hb13 (by omega)
  replace bf0 := bf0.below hb13 (by omega)
  replace bf1 := bf1.below hb13 (by omega)
  replace bf2 := bf2.below hb13 (by omega)
  replace bg := bg.below hb13 (by omega)
  go_wp2_with fail
  refine (eqPartS_k bA0 dA0 _ _ xs0 _ (bf0.rd.more (by omega)) (df0.rd.more (by omega)) HS0.out).mono ?_
  rintro e w14 ⟨rfl, hb14⟩
  have sz14 := hb14.size
  replace hbW := bthen' hbW hb14
  replace ag := ag.below hb14 (by omega)
  replace bf0 := bf0.below hb14 (by omega)
  replace bf1 := bf1.below hb14 (by omega)
  replace bf2 := bf2.below hb14 (by omega)
  replace bg := bg.below hb14 (by omega)
  clear df0
  go_wp2_with fail
  refine (toJointS_k A1 c1 xs1 _ ((hr1.below hbW).more hbW.size) HS1.out).mono ?_
  rintro e w15 ⟨dA1, rfl, df1, hb15⟩
  have sz15 := hb15.size
  replace hbW := bthen' hbW hb15
  replace ag := ag.below hb15 (by omega)
  replace bf0 := bf0.below hb15 (by omega)
  replace bf1 := bf1.below hb15 (by omega)
  replace bf2 := bf2.below hb15 (by omega)
  replace bg := bg.below hb15 (by omega)
  go_wp2_with fail
  refine (eqJointS_k bA1 dA1 _ _ xs1 _ (bf1.rd.more (by omega)) (df1.rd.more (by omega)) HS1.out).mono ?_
  rintro e w16 ⟨rfl, hb16⟩
  have sz16 := hb16.size
  replace hbW := bthen' hbW hb16
  replace ag := ag.below hb16 (by omega)
  replace bf0 := bf0.below hb16 (by omega)
  replace bf1 := bf1.below hb16 (by omega)
  replace bf2 := bf2.below hb16 (by omega)
  replace bg := bg.below hb16 (by omega)
  clear df1
  go_wp2_with fail
  refine (toStringS_k A2 c2 xs2 _ ((hr2.below hbW).more hbW.size) HS2.out).mono ?_
  rintro e w17 ⟨dA2, rfl, df2, hb17⟩
  have sz17 := hb17.size
  replace hbW := bthen' hbW hb17
  replace ag := ag.below hb17 (by omega)
  replace bf0 := bf0.below hb17 (by omega)
  replace bf1 := bf1.below hb17 (by omega)
  replace bf2 := bf2.below hb17 (by omega)
  replace bg := bg.below hb17 (by omega)
  go_wp2_with fail
  refine (eqStringS_k bA2 dA2 _ _ xs2 _ (bf2.rd.more (by omega)) (df2.rd.more (by omega)) HS2.out).mono ?_
  rintro e w18 ⟨rfl, hb18⟩
  have sz18 := hb18.size
  replace hbW := bthen' hbW hb18
  replace ag := ag.below hb18 (by omega)
  replace bf0 := bf0.below hb18 (by omega)
  replace bf1 := bf1.below hb18 (by omega)
  replace bf2 := bf2.below hb18 (by omega)
  replace bg := bg.below hb18 (by omega)
  clear df2
  go_wp2_with fail
  refine (markPartS_k bA0 _ xs0 1 _ _ _ bf0 HS0.out (by omega) (by omega)).mono ?_
  rintro e w19 ⟨k19, rfl, kl19, ku19, ho19⟩
  have sz19 := ho19.size
  clear bf0
  replace hbW := hbW.trans (ho19.below (B := w.heap.size) (by omega) (by omega))
  replace ag := ag.only ho19 (by omega) (by omega)
  replace bf1 := bf1.only ho19 (by omega) (by omega)
  replace bf2 := bf2.only ho19 (by omega) (by omega)
  replace bg := bg.only ho19 (by omega) (by omega)
  go_wp2_with fail
  refine (markJointS_k bA1 _ xs1 k19 _ _ _ bf1 HS1.out (by omega) (by omega)).mono ?_
  rintro e w20 ⟨k20, rfl, kl20, ku20, ho20⟩
  have sz20 := ho20.size
  clear bf1
  replace hbW := hbW.trans (ho20.below (B := w.heap.size) (by omega) (by omega))
  replace ag := ag.only ho20 (by omega) (by omega)
  replace bf2 := bf2.only ho20 (by omega) (by omega)
  replace bg := bg.only ho20 (by omega) (by omega)
  go_wp2_with fail
  refine (markStringS_k bA2 _ xs2 k20 _ _ _ bf2 HS2.out (by omega) (by omega)).mono ?_
  rintro e w21 ⟨k21, rfl, kl21, ku21, ho21⟩
  have sz21 := ho21.size
  clear bf2
  replace hbW := hbW.trans (ho21.below (B := w.heap.size) (by omega) (by omega))
  replace ag := ag.only ho21 (by omega) (by omega)
  replace bg := bg.only ho21 (by omega) (by omega)
  go_wp2_with fail
  refine (eqInt64S_r bG aG _ _ y0 _ (bg.rd.more (by omega)) (ag.rd.more (by omega)) hSm.out).mono ?_
  rintro e w22 ⟨rfl, hb22⟩
  have sz22 := hb22.size
  replace hbW := bthen' hbW hb22
  replace ag := ag.below hb22 (by omega)
  replace bg := bg.below hb22 (by omega)
  go_wp2_with fail
  refine (markInt64S_r bG _ y0 _ _ _ bg hSm.out).mono ?_
  rintro e w23 ⟨rfl, ho23, mg⟩
  have sz23 := ho23.size
  clear bg
  replace hbW := hbW.trans (ho23.below (B := w.heap.size) (by omega) (by omega))
  replace ag := ag.only ho23 (by omega) (by omega)
  go_wp2_with fail
  refine (heldInt64S_r bG _ y0 _ _ _ mg (by omega) hSm.out).mono ?_
  rintro e w24 ⟨rfl, hb24⟩
  have sz24 := hb24.size
  replace hbW := bthen' hbW hb24
  replace ag := ag.below hb24 (by omega)
  replace mg := mg.below hb24 (by omega)
  go_wp2_with fail
  refine (toPartS_k A0 c0 xs0 _ ((hr0.below hbW).more hbW.size) HS0.out).mono ?_
  rintro e w25 ⟨cA0, rfl, cf0, hb25⟩
  have sz25 := hb25.size
  replace hbW := bthen' hbW hb25
  replace ag := ag.below hb25 (by omega)
  replace mg := mg.below hb25 (by omega)
  go_wp2_with fail
  refine (toJointS_k A1 c1 xs1 _ ((hr1.below hbW).more hbW.size) HS1.out).mono ?_
  rintro e w26 ⟨cA1, rfl, cf1, hb26⟩
  have sz26 := hb26.size
  replace hbW := bthen' hbW hb26
  replace ag := ag.below hb26 (by omega)
  replace mg := mg.below hb26 (by omega)
  replace cf0 := cf0.below hb26 (by omega)
  go_wp2_with fail
  refine (toStringS_k A2 c2 xs2 _ ((hr2.below hbW).more hbW.size) HS2.out).mono ?_
  rintro e w27 ⟨cA2, rfl, cf2, hb27⟩
  have sz27 := hb27.size
  replace hbW := bthen' hbW hb27
  replace ag := ag.below hb27 (by omega)
  replace mg := mg.below hb27 (by omega)
  replace cf0 := cf0.below hb27 (by omega)
  replace cf1 := cf1.below hb27 (by omega)
  go_wp2_with fail
  refine (hIm.out cA0 _ cA1 _ cA2 _ _ (cf0.rd.more (by omega)) (cf1.rd.more (by omega)) (cf2.rd.more (by omega))).mono ?_
  rintro e w28 ⟨cG, cc, rfl, cg, -, hb28⟩
  have sz28 := hb28.size
  replace hbW := bthen' hbW hb28
  replace ag := ag.below hb28 (by omega)
  replace mg := mg.below hb28 (by omega)
  replace cf0 := cf0.below hb28 (by omega)
  replace cf1 := cf1.below hb28 (by omega)
  replace cf2 := cf2.below hb28 (by omega)
  simp only at cg
  go_wp2_with fail
  refine (eqInt64S_r cG aG _ _ y0 _ (cg.rd.more (by omega)) (ag.rd.more (by omega)) hSm.out).mono ?_
  rintro e w29 ⟨rfl, hb29⟩
  have sz29 := hb29.size
  replace hbW := bthen' hbW hb29
  replace ag := ag.below hb29 (by omega)
  replace mg := mg.below hb29 (by omega)
  replace cf0 := cf0.below hb29 (by omega)
  replace cf1 := cf1.below hb29 (by omega)
  replace cf2 := cf2.below hb29 (by omega)
  replace cg := cg.below hb29 (by omega)
  go_wp2_with fail
  refine (heldInt64S_r bG _ y0 _ _ _ mg (by omega) hSm.out).mono ?_
  rintro e w30 ⟨rfl, hb30⟩
  have sz30 := hb30.size
  replace hbW := bthen' hbW hb30
  replace ag := ag.below hb30 (by omega)
  replace mg := mg.below hb30 (by omega)
  replace cf0 := cf0.below hb30 (by omega)
  replace cf1 := cf1.below hb30 (by omega)
  replace cf2 := cf2.below hb30 (by omega)
  replace cg := cg.below hb30 (by omega)
  go_wp2_with fail
  go_ret
  exact ⟨rfl, hbW⟩

set_option maxRecDepth 100000 in
theorem fnExactFittingParts_lifted (os : Os) (started : os.Started) (H : Type) (enc : TypeId × Value → H) :
    ReturnsInHanded {} Try.checked os 11 .any (Rows.fnExactFittingPartsSpec.pre6 enc Try.prog Try.f11 Rows.fnExactFittingPartsRow.domain false) (Rows.fnExactFittingPartsSpec.post enc Try.prog Try.f11 false true false false) := by
  refine returnsInHanded_of_change (C := Try.checked) own started (by kernel_rfl) Try.func11
    (ChangeSpec.witness6 (enc := enc) (C := Try.checked) false ⟨#[], #[.slice none 0 0, .slice none 0 0, .slice none 0 0, .int .i64 0], []⟩ 8 (by kernel_rfl) (by kernel_rfl) (by kernel_rfl) (by kernel_rfl)) ?_
  intro W base args ds gs before hval0 hW hcnd _
  have hval : ∀ (j : Nat) t v, Try.f11.params[j]? = some t → args[j]? = some v → Value.okWide Try.prog W .any base t v := hval0
  have hlt : ∀ x ∈ before, x.block < W.heap.size := fun x hx => hW.lt x hx
  have hW' := hW
  obtain ⟨p, q, hA0, hV, rfl, hfz, hnd⟩ := hW
  have hA : DataW.TrodAll enc Try.prog W 0 (fun _ => true) true Try.f11.params.toList args.toList ds p := hA0
  rw [Try.params11] at hA hval
  obtain ⟨v0, v1, v2, v3, d0, d1, d2, d3, p0, p1, p2, p3, rfl, rfl, rfl, h0, h1, h2, h3⟩ := trodAll_four hA
  obtain ⟨A0, k0, xs0, rfl, hr0⟩ := open_partsV (hval 0 22 v0 rfl rfl) h0
  obtain ⟨A1, k1, xs1, rfl, hr1⟩ := open_joints (hval 1 39 v1 rfl rfl) h1
  obtain ⟨A2, k2, xs2, rfl, hr2⟩ := open_strings (hval 2 23 v2 rfl rfl) h2
  obtain ⟨x3, rfl, -, -, wx3⟩ := open_int Try.underlying2 (hval 3 2 v3 rfl rfl) h3
  refine (law_FnExactFittingParts A0 k0 xs0 A1 k1 xs1 A2 k2 xs2 x3 (bd_i64 wx3) W hr0 hr1 hr2).mono fun e W' ⟨he, hb⟩ => ?_
  subst he
  exact ⟨_, rfl, law_post (tb := 4) laidOut (by kernel_rfl) rfl rfl Try.underlying4 hW' rfl hb⟩
theorem fnExactFittingParts_closed : joinedFacts Try.prog 11 Try.f11 Rows.fnExactFittingPartsSpec Rows.fnExactFittingPartsRow = true := by
  unfold joinedFacts; rw [mayEnter_yes, liftsFinal_no, make_cut]; kernel_rfl
theorem fnExactFittingParts_holds : Rows.FnExactFittingPartsSaid :=
  OpenClaim.holds_of_wide 11 Try.f11 rfl rfl rfl rfl rfl rfl rfl ⟨rfl, rfl, rfl, rfl, rfl⟩ rfl rfl rfl rfl rfl (by kernel_rfl) Try.func11 fnExactFittingParts_closed
    (of_decide_eq_true (by kernel_rfl)) (by unfold Func.isWrapper; rw [if_neg (of_decide_eq_false (by kernel_rfl))]; exact ⟨rfl, rfl⟩)
    (fun os started H enc _ => fnExactFittingParts_lifted os started H enc)
#print axioms fnExactFittingParts_holds

end Go.Proofs.Ytphkmlgifhggnaa
