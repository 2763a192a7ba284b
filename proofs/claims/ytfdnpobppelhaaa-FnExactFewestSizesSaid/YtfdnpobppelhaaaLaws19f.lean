/- DERIVED. The law on the fewest sizes. -/
import Derived.Test.YtfdnpobppelhaaaFewT
import Derived.Test.YtfdnpobppelhaaaKitRider
import Derived.Test.YtfdnpobppelhaaaKitSize
import Derived.Test.YtfdnpobppelhaaaResInt
import Derived.Test.YtfdnpobppelhaaaHead
import Derived.Lib.SmallJoins
import Derived.Deep.Slices
import Derived.Deep.Fields
import Derived.ChangeMaps5
import Derived.Carry
import Derived.Deep.RegionHeld3
namespace Go.Proofs.Ytfdnpobppelhaaa
set_option maxRecDepth 100000
open Go.RowKit Go.ChangeShapes Go.WideShapes Go.ChangeAt Go.Joins Go.Deep

set_option maxHeartbeats 1000000 in
theorem law_FnExactFewestSizes (A0 : Option Addr) (c0 : Nat) (xs0 : List (Int × Int × Int)) (A1 : Option Addr) (c1 : Nat) (xs1 : List (ByteArray × Int × Int × Int)) (w : World) (hr0 : xs0.length ≤ maxLen ∧ (∀ x ∈ xs0, (fun _ => True) x) ∧ Rd w w.heap.size 3 ridrC A0 xs0) (hr1 : xs1.length ≤ maxLen ∧ (∀ x ∈ xs1, (fun t => t.1.size ≤ maxLen) x) ∧ Rd w w.heap.size 4 sizeC A1 xs1) :
    Calls Try.prog 6 #[.slice A0 xs0.length c0, .slice A1 xs1.length c1] w fun e w' => e = .returned (.bool true) ∧ Below w.heap.size w w' := by
  obtain ⟨hm0, hg0, hr0⟩ := hr0
  obtain ⟨hm1, hg1, hr1⟩ := hr1
  have Hg0 := Lib.hid hg0; clear hg0
  have Hg1 := Lib.hid hg1; clear hg1
  go_enter Try.func6, Try.ntmps6
  go_wp2_with fail
  have hbW := Below.refl w.heap.size w
  have sz0 := Nat.le_refl w.heap.size
  refine (szRiderS_k A0 c0 xs0 1048576 _ ((hr0.below hbW).more hbW.size) hm0 Hg0.out (by omega) (by omega)).mono ?_
  rintro e w1 ⟨r1, rfl, hq1, hb1⟩
  have sz1 := hb1.size
  replace hbW := bthen' hbW hb1
  rcases hq1 with rfl | ⟨hq1, hl1, hS0⟩
  · go_wp2_with fail
    go_ret
    exact ⟨rfl, hbW⟩
  have HS0 := Lib.hid hS0; clear hS0
  go_wp2_with fail
  refine (szSizeS_k A1 c1 xs1 r1 _ ((hr1.below hbW).more hbW.size) hm1 Hg1.out (by omega) (by omega)).mono ?_
  rintro e w2 ⟨r2, rfl, hq2, hb2⟩
  have sz2 := hb2.size
  replace hbW := bthen' hbW hb2
  rcases hq2 with rfl | ⟨hq2, hl2, hS1⟩
  · go_wp2_with fail
    go_ret
    exact ⟨rfl, hbW⟩
  have HS1 := Lib.hid hS1; clear hS1
  go_wp2_with fail
  have hSp := Lib.hid (fun A0' c0' A1' c1' v q0 q1 => FewestSizes_spec A0' c0' xs0 A1' c1' xs1 v q0 HS0.out q1 HS1.out.1 HS1.out.good)
  have hIm := Lib.hid (fun A0' c0' A1' c1' v q0 q1 kc1 => FewestSizes_impl A0' c0' xs0 A1' c1' xs1 v q0 HS0.out q1 HS1.out.1 kc1 HS1.out.good)
  have hSm := Lib.hid (fewR_len xs0 xs1)
  generalize fewR xs0 xs1 = res at hSp hIm hSm
  obtain ⟨y0, y1⟩ := res
  refine (toRiderS_k A0 c0 xs0 _ ((hr0.below hbW).more hbW.size) HS0.out).mono ?_
  rintro e w3 ⟨aA0, rfl, af0, hb3⟩
  have sz3 := hb3.size
  replace hbW := bthen' hbW hb3
  go_wp2_with fail
  refine (toSizeS_k A1 c1 xs1 _ ((hr1.below hbW).more hbW.size) HS1.out).mono ?_
  rintro e w4 ⟨aA1, rfl, af1, hb4⟩
  have sz4 := hb4.size
  replace hbW := bthen' hbW hb4
  replace af0 := af0.below hb4 (by omega)
  go_wp2_with fail
  refine (hSp.out aA0 _ aA1 _ _ (af0.rd.more (by omega)) (af1.rd.more (by omega))).mono ?_
  rintro e w5 ⟨aG, ac, rfl, ag, -, hb5⟩
  have sz5 := hb5.size
  replace hbW := bthen' hbW hb5
  replace af0 := af0.below hb5 (by omega)
  replace af1 := af1.below hb5 (by omega)
  simp only at ag
  go_wp2_with fail
  clear af0 af1
  refine (toRiderS_k A0 c0 xs0 _ ((hr0.below hbW).more hbW.size) HS0.out).mono ?_
  rintro e w6 ⟨bA0, rfl, bf0, hb6⟩
  have sz6 := hb6.size
  replace hbW := bthen' hbW hb6
  replace ag := ag.below hb6 (by omega)
  go_wp2_with fail
  refine (toSizeS_k A1 c1 xs1 _ ((hr1.below hbW).more hbW.size) HS1.out).mono ?_
  rintro e w7 ⟨bA1, rfl, bf1, hb7⟩
  have sz7 := hb7.size
  replace hbW := bthen' hbW hb7
  replace ag := ag.below hb7 (by omega)
  replace bf0 := bf0.below hb7 (by omega)
  go_wp2_with fail
  refine (hIm.out bA0 _ bA1 _ _ (bf0.rd.more (by omega)) (bf1.rd.more (by omega)) (Nat.le_refl _)).mono ?_
  rintro e w8 ⟨bG, bc, rfl, bg, -, hb8⟩
  have sz8 := hb8.size
  replace hbW := bthen' hbW hb8
  replace ag := ag.below hb8 (by omega)
  replace bf0 := bf0.below hb8 (by omega)
  replace bf1 := bf1.below hb8 (by omega)
  simp only at bg
  go_wp2_with fail
  refine (eqInt64S_r bG aG _ _ y0 _ (bg.rd.more (by omega)) (ag.rd.more (by omega)) hSm.out).mono ?_
  rintro e w9 ⟨rfl, hb9⟩
  have sz9 := hb9.size
  replace hbW := bthen' hbW hb9
  replace ag := ag.below hb9 (by omega)
  replace bf0 := bf0.below hb9 (by omega)
  replace bf1 := bf1.below hb9 (by omega)
  replace bg := bg.below hb9 (by omega)
  go_wp2_with fail
  refine (toRiderS_k A0 c0 xs0 _ ((hr0.below hbW).more hbW.size) HS0.out).mono ?_
  rintro e w10 ⟨dA0, rfl, df0, hb10⟩
  have sz10 := hb10.size
  replace hbW := bthen' hbW hb10
  replace ag := ag.below hb10 (by omega)
  replace bf0 := bf0.below hb10 (by omega)
  replace bf1 := bf1.below hb10 (by omega)
  replace bg := bg.below hb10 (by omega)
  go_wp2_with fail
  refine (eqRiderS_k bA0 dA0 _ _ xs0 _ (bf0.rd.more (by omega)) (df0.rd.more (by omega)) HS0.out).mono ?_
  rintro e w11 ⟨rfl, hb11⟩
  have sz11 := hb11.size
  replace hbW := bthen' hbW hb11
  replace ag := ag.below hb11 (by omega)
  replace bf0 := bf0.below hb11 (by omega)
  replace bf1 := bf1.below hb11 (by omega)
  replace bg := bg.below hb11 (by omega)
  clear df0
  go_wp2_with fail
  refine (toSizeS_k A1 c1 xs1 _ ((hr1.below hbW).more hbW.size) HS1.out).mono ?_
  rintro e w12 ⟨dA1, rfl, df1, hb12⟩
  have sz12 := hb12.size
  replace hbW := bthen' hbW hb12
  replace ag := ag.below hb12 (by omega)
  replace bf0 := bf0.below hb12 (by omega)
  replace bf1 := bf1.below hb12 (by omega)
  replace bg := bg.below hb12 (by omega)
  go_wp2_with fail
  refine (eqSizeS_k bA1 dA1 _ _ xs1 _ (bf1.rd.more (by omega)) (df1.rd.more (by omega)) HS1.out).mono ?_
  rintro e w13 ⟨rfl, hb13⟩
  have sz13 := hb13.size
  replace hbW := bthen' hbW hb13
  replace ag := ag.below hb13 (by omega)
  replace bf0 := bf0.below hb13 (by omega)
  replace bf1 := bf1.below hb13 (by omega)
  replace bg := bg.below hb13 (by omega)
  clear df1
  go_wp2_with fail
  refine (markRiderS_k bA0 _ xs0 1 _ _ _ bf0 HS0.out (by omega) (by omega)).mono ?_
  rintro e w14 ⟨k14, rfl, kl14, ku14, ho14⟩
  have sz14 := ho14.size
  clear bf0
  replace hbW := hbW.trans (ho14.below (B := w.heap.size) (by omega) (by omega))
  replace ag := ag.only ho14 (by omega) (by omega)
  replace bf1 := bf1.only ho14 (by omega) (by omega)
  replace bg := bg.only ho14 (by omega) (by omega)
  go_wp2_with fail
  refine (markSizeS_k bA1 _ xs1 k14 _ _ _ bf1 HS1.out (by omega) (by omega)).mono ?_
  rintro e w15 ⟨k15, rfl, kl15, ku15, ho15⟩
  have sz15 := ho15.size
  clear bf1
  replace hbW := hbW.trans (ho15.below (B := w.heap.size) (by omega) (by omega))
  replace ag := ag.only ho15 (by omega) (by omega)
  replace bg := bg.only ho15 (by omega) (by omega)
  go_wp2_with fail
  refine (eqInt64S_r bG aG _ _ y0 _ (bg.rd.more (by omega)) (ag.rd.more (by omega)) hSm.out).mono ?_
  rintro e w16 ⟨rfl, hb16⟩
  have sz16 := hb16.size
  replace hbW := bthen' hbW hb16
  replace ag := ag.below hb16 (by omega)
  replace bg := bg.below hb16 (by omega)
  go_wp2_with fail
  refine (markInt64S_r bG _ y0 _ _ _ bg hSm.out).mono ?_
  rintro e w17 ⟨rfl, ho17, mg⟩
  have sz17 := ho17.size
  clear bg
  replace hbW := hbW.trans (ho17.below (B := w.heap.size) (by omega) (by omega))
  replace ag := ag.only ho17 (by omega) (by omega)
  go_wp2_with fail
  refine (heldInt64S_r bG _ y0 _ _ _ mg (by omega) hSm.out).mono ?_
  rintro e w18 ⟨rfl, hb18⟩
  have sz18 := hb18.size
  replace hbW := bthen' hbW hb18
  replace ag := ag.below hb18 (by omega)
  replace mg := mg.below hb18 (by omega)
  go_wp2_with fail
  refine (toRiderS_k A0 c0 xs0 _ ((hr0.below hbW).more hbW.size) HS0.out).mono ?_
  rintro e w19 ⟨cA0, rfl, cf0, hb19⟩
  have sz19 := hb19.size
  replace hbW := bthen' hbW hb19
  replace ag := ag.below hb19 (by omega)
  replace mg := mg.below hb19 (by omega)
  go_wp2_with fail
  refine (toSizeS_k A1 c1 xs1 _ ((hr1.below hbW).more hbW.size) HS1.out).mono ?_
  rintro e w20 ⟨cA1, rfl, cf1, hb20⟩
  have sz20 := hb20.size
  replace hbW := bthen' hbW hb20
  replace ag := ag.below hb20 (by omega)
  replace mg := mg.below hb20 (by omega)
  replace cf0 := cf0.below hb20 (by omega)
  go_wp2_with fail
  refine (hIm.out cA0 _ cA1 _ _ (cf0.rd.more (by omega)) (cf1.rd.more (by omega)) (Nat.le_refl _)).mono ?_
  rintro e w21 ⟨cG, cc, rfl, cg, -, hb21⟩
  have sz21 := hb21.size
  replace hbW := bthen' hbW hb21
  replace ag := ag.below hb21 (by omega)
  replace mg := mg.below hb21 (by omega)
  replace cf0 := cf0.below hb21 (by omega)
  replace cf1 := cf1.below hb21 (by omega)
  simp only at cg
  go_wp2_with fail
  refine (eqInt64S_r cG aG _ _ y0 _ (cg.rd.more (by omega)) (ag.rd.more (by omega)) hSm.out).mono ?_
  rintro e w22 ⟨rfl, hb22⟩
  have sz22 := hb22.size
  replace hbW := bthen' hbW hb22
  replace ag := ag.below hb22 (by omega)
  replace mg := mg.below hb22 (by omega)
  replace cf0 := cf0.below hb22 (by omega)
  replace cf1 := cf1.below hb22 (by omega)
  replace cg := cg.below hb22 (by omega)
  go_wp2_with fail
  refine (heldInt64S_r bG _ y0 _ _ _ mg (by omega) hSm.out).mono ?_
  rintro e w23 ⟨rfl, hb23⟩
  have sz23 := hb23.size
  replace hbW := bthen' hbW hb23
  replace ag := ag.below hb23 (by omega)
  replace mg := mg.below hb23 (by omega)
  replace cf0 := cf0.below hb23 (by omega)
  replace cf1 := cf1.below hb23 (by omega)
  replace cg := cg.below hb23 (by omega)
  go_wp2_with fail
  go_ret
  exact ⟨rfl, hbW⟩

set_option maxRecDepth 100000 in
theorem fnExactFewestSizes_lifted (os : Os) (started : os.Started) (H : Type) (enc : TypeId × Value → H) :
    ReturnsInHanded {} Try.checked os 6 .any (Rows.fnExactFewestSizesSpec.pre6 enc Try.prog Try.f6 Rows.fnExactFewestSizesRow.domain false) (Rows.fnExactFewestSizesSpec.post enc Try.prog Try.f6 false true false false) := by
  refine returnsInHanded_of_change (C := Try.checked) own started (by kernel_rfl) Try.func6
    (ChangeSpec.witness6 (enc := enc) (C := Try.checked) false ⟨#[], #[.slice none 0 0, .slice none 0 0], []⟩ 8 (by kernel_rfl) (by kernel_rfl) (by kernel_rfl) (by kernel_rfl)) ?_
  intro W base args ds gs before hval0 hW hcnd _
  have hval : ∀ (j : Nat) t v, Try.f6.params[j]? = some t → args[j]? = some v → Value.okWide Try.prog W .any base t v := hval0
  have hlt : ∀ x ∈ before, x.block < W.heap.size := fun x hx => hW.lt x hx
  have hW' := hW
  obtain ⟨p, q, hA0, hV, rfl, hfz, hnd⟩ := hW
  have hA : DataW.TrodAll enc Try.prog W 0 (fun _ => true) true Try.f6.params.toList args.toList ds p := hA0
  rw [Try.params6] at hA hval
  obtain ⟨v0, v1, d0, d1, p0, p1, rfl, rfl, rfl, h0, h1⟩ := trodAll_two hA
  obtain ⟨A0, k0, xs0, rfl, hr0⟩ := open_ridrs (hval 0 47 v0 rfl rfl) h0
  obtain ⟨A1, k1, xs1, rfl, hr1⟩ := open_sizes (hval 1 48 v1 rfl rfl) h1
  refine (law_FnExactFewestSizes A0 k0 xs0 A1 k1 xs1 W hr0 hr1).mono fun e W' ⟨he, hb⟩ => ?_
  subst he
  exact ⟨_, rfl, law_post (tb := 4) laidOut (by kernel_rfl) rfl rfl Try.underlying4 hW' rfl hb⟩
theorem fnExactFewestSizes_closed : joinedFacts Try.prog 6 Try.f6 Rows.fnExactFewestSizesSpec Rows.fnExactFewestSizesRow = true := by
  unfold joinedFacts; rw [mayEnter_yes, liftsFinal_no, make_cut]; kernel_rfl
theorem fnExactFewestSizes_holds : Rows.FnExactFewestSizesSaid :=
  OpenClaim.holds_of_wide 6 Try.f6 rfl rfl rfl rfl rfl rfl rfl ⟨rfl, rfl, rfl, rfl, rfl⟩ rfl rfl rfl rfl rfl (by kernel_rfl) Try.func6 fnExactFewestSizes_closed
    (of_decide_eq_true (by kernel_rfl)) (by unfold Func.isWrapper; rw [if_neg (of_decide_eq_false (by kernel_rfl))]; exact ⟨rfl, rfl⟩)
    (fun os started H enc _ => fnExactFewestSizes_lifted os started H enc)
#print axioms fnExactFewestSizes_holds

end Go.Proofs.Ytfdnpobppelhaaa
