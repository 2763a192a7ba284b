/- DERIVED. The law on tubes turned. -/
import Derived.Test.YtmhaloigcpanpaaTurn
import Derived.Test.YtmhaloigcpanpaaKitTube
import Derived.Test.YtmhaloigcpanpaaResTube
import Derived.Test.YtmhaloigcpanpaaHead
import Derived.Lib.SmallJoins
import Derived.Deep.Slices
import Derived.Deep.Fields
import Derived.ChangeMaps5
import Derived.Carry
import Derived.Deep.RegionHeld3
namespace Go.Proofs.Ytmhaloigcpanpaa
set_option maxRecDepth 100000
open Go.RowKit Go.ChangeShapes Go.WideShapes Go.ChangeAt Go.Joins Go.Deep

set_option maxHeartbeats 1000000 in
theorem law_FnExactTurnTubes (A0 : Option Addr) (c0 : Nat) (xs0 : List (Int × Int)) (x1 : Int) (hx1 : -9223372036854775808 ≤ x1 ∧ x1 ≤ 9223372036854775807) (w : World) (hr0 : xs0.length ≤ maxLen ∧ (∀ x ∈ xs0, (fun _ => True) x) ∧ Rd w w.heap.size 2 tubeC A0 xs0) :
    Calls Try.prog 3 #[.slice A0 xs0.length c0, .int .i64 x1] w fun e w' => e = .returned (.bool true) ∧ Below w.heap.size w w' := by
  obtain ⟨hm0, hg0, hr0⟩ := hr0
  have Hg0 := Lib.hid hg0; clear hg0
  go_enter Try.func3, Try.ntmps3
  go_wp2_with fail
  have hbW := Below.refl w.heap.size w
  have sz0 := Nat.le_refl w.heap.size
  refine (szTubeS_k A0 c0 xs0 1048576 _ ((hr0.below hbW).more hbW.size) hm0 Hg0.out (by omega) (by omega)).mono ?_
  rintro e w1 ⟨r1, rfl, hq1, hb1⟩
  have sz1 := hb1.size
  replace hbW := bthen' hbW hb1
  rcases hq1 with rfl | ⟨hq1, hl1, hS0⟩
  · go_wp2_with fail
    go_ret
    exact ⟨rfl, hbW⟩
  have HS0 := Lib.hid hS0; clear hS0
  go_wp2_with fail
  have hSp := Lib.hid (fun A0' c0' v q0 => TurnTubes_spec A0' c0' xs0 x1 hx1 v q0 HS0.out)
  have hIm := Lib.hid (fun A0' c0' v q0 => TurnTubes_impl A0' c0' xs0 x1 hx1 v q0 HS0.out)
  have hSm := Lib.hid (turnR_small xs0 x1)
  generalize turnR xs0 x1 = res at hSp hIm hSm
  obtain ⟨y0, y1⟩ := res
  refine (toTubeS_k A0 c0 xs0 _ ((hr0.below hbW).more hbW.size) HS0.out).mono ?_
  rintro e w2 ⟨aA0, rfl, af0, hb2⟩
  have sz2 := hb2.size
  replace hbW := bthen' hbW hb2
  go_wp2_with fail
  refine (hSp.out aA0 _ _ (af0.rd.more (by omega))).mono ?_
  rintro e w3 ⟨aG, ac, rfl, ag, -, hb3⟩
  have sz3 := hb3.size
  replace hbW := bthen' hbW hb3
  replace af0 := af0.below hb3 (by omega)
  simp only at ag
  go_wp2_with fail
  clear af0
  refine (toTubeS_k A0 c0 xs0 _ ((hr0.below hbW).more hbW.size) HS0.out).mono ?_
  rintro e w4 ⟨bA0, rfl, bf0, hb4⟩
  have sz4 := hb4.size
  replace hbW := bthen' hbW hb4
  replace ag := ag.below hb4 (by omega)
  go_wp2_with fail
  refine (hIm.out bA0 _ _ (bf0.rd.more (by omega))).mono ?_
  rintro e w5 ⟨bG, bc, rfl, bg, -, hb5⟩
  have sz5 := hb5.size
  replace hbW := bthen' hbW hb5
  replace ag := ag.below hb5 (by omega)
  replace bf0 := bf0.below hb5 (by omega)
  simp only at bg
  go_wp2_with fail
  refine (eqTubeS_r bG aG _ _ y0 _ (bg.rd.more (by omega)) (ag.rd.more (by omega)) hSm.out).mono ?_
  rintro e w6 ⟨rfl, hb6⟩
  have sz6 := hb6.size
  replace hbW := bthen' hbW hb6
  replace ag := ag.below hb6 (by omega)
  replace bf0 := bf0.below hb6 (by omega)
  replace bg := bg.below hb6 (by omega)
  go_wp2_with fail
  refine (toTubeS_k A0 c0 xs0 _ ((hr0.below hbW).more hbW.size) HS0.out).mono ?_
  rintro e w7 ⟨dA0, rfl, df0, hb7⟩
  have sz7 := hb7.size
  replace hbW := bthen' hbW hb7
  replace ag := ag.below hb7 (by omega)
  replace bf0 := bf0.below hb7 (by omega)
  replace bg := bg.below hb7 (by omega)
  go_wp2_with fail
  refine (eqTubeS_k bA0 dA0 _ _ xs0 _ (bf0.rd.more (by omega)) (df0.rd.more (by omega)) HS0.out).mono ?_
  rintro e w8 ⟨rfl, hb8⟩
  have sz8 := hb8.size
  replace hbW := bthen' hbW hb8
  replace ag := ag.below hb8 (by omega)
  replace bf0 := bf0.below hb8 (by omega)
  replace bg := bg.below hb8 (by omega)
  clear df0
  go_wp2_with fail
  refine (markTubeS_k bA0 _ xs0 1 _ _ _ bf0 HS0.out (by omega) (by omega)).mono ?_
  rintro e w9 ⟨k9, rfl, kl9, ku9, ho9⟩
  have sz9 := ho9.size
  clear bf0
  replace hbW := hbW.trans (ho9.below (B := w.heap.size) (by omega) (by omega))
  replace ag := ag.only ho9 (by omega) (by omega)
  replace bg := bg.only ho9 (by omega) (by omega)
  go_wp2_with fail
  refine (eqTubeS_r bG aG _ _ y0 _ (bg.rd.more (by omega)) (ag.rd.more (by omega)) hSm.out).mono ?_
  rintro e w10 ⟨rfl, hb10⟩
  have sz10 := hb10.size
  replace hbW := bthen' hbW hb10
  replace ag := ag.below hb10 (by omega)
  replace bg := bg.below hb10 (by omega)
  go_wp2_with fail
  refine (markTubeS_r bG _ y0 _ _ _ bg hSm.out).mono ?_
  rintro e w11 ⟨rfl, ho11, mg⟩
  have sz11 := ho11.size
  clear bg
  replace hbW := hbW.trans (ho11.below (B := w.heap.size) (by omega) (by omega))
  replace ag := ag.only ho11 (by omega) (by omega)
  go_wp2_with fail
  refine (heldTubeS_r bG _ y0 _ _ _ mg (by omega) hSm.out).mono ?_
  rintro e w12 ⟨rfl, hb12⟩
  have sz12 := hb12.size
  replace hbW := bthen' hbW hb12
  replace ag := ag.below hb12 (by omega)
  replace mg := mg.below hb12 (by omega)
  go_wp2_with fail
  refine (toTubeS_k A0 c0 xs0 _ ((hr0.below hbW).more hbW.size) HS0.out).mono ?_
  rintro e w13 ⟨cA0, rfl, cf0, hb13⟩
  have sz13 := hb13.size
  replace hbW := bthen' hbW hb13
  replace ag := ag.below hb13 (by omega)
  replace mg := mg.below hb13 (by omega)
  go_wp2_with fail
  refine (hIm.out cA0 _ _ (cf0.rd.more (by omega))).mono ?_
  rintro e w14 ⟨cG, cc, rfl, cg, -, hb14⟩
  have sz14 := hb14.size
  replace hbW := bthen' hbW hb14
  replace ag := ag.below hb14 (by omega)
  replace mg := mg.below hb14 (by omega)
  replace cf0 := cf0.below hb14 (by omega)
  simp only at cg
  go_wp2_with fail
  refine (eqTubeS_r cG aG _ _ y0 _ (cg.rd.more (by omega)) (ag.rd.more (by omega)) hSm.out).mono ?_
  rintro e w15 ⟨rfl, hb15⟩
  have sz15 := hb15.size
  replace hbW := bthen' hbW hb15
  replace ag := ag.below hb15 (by omega)
  replace mg := mg.below hb15 (by omega)
  replace cf0 := cf0.below hb15 (by omega)
  replace cg := cg.below hb15 (by omega)
  go_wp2_with fail
  refine (heldTubeS_r bG _ y0 _ _ _ mg (by omega) hSm.out).mono ?_
  rintro e w16 ⟨rfl, hb16⟩
  have sz16 := hb16.size
  replace hbW := bthen' hbW hb16
  replace ag := ag.below hb16 (by omega)
  replace mg := mg.below hb16 (by omega)
  replace cf0 := cf0.below hb16 (by omega)
  replace cg := cg.below hb16 (by omega)
  go_wp2_with fail
  go_ret
  exact ⟨rfl, hbW⟩

set_option maxRecDepth 100000 in
theorem fnExactTurnTubes_lifted (os : Os) (started : os.Started) (H : Type) (enc : TypeId × Value → H) :
    ReturnsInHanded {} Try.checked os 3 .any (Rows.fnExactTurnTubesSpec.pre6 enc Try.prog Try.f3 Rows.fnExactTurnTubesRow.domain false) (Rows.fnExactTurnTubesSpec.post enc Try.prog Try.f3 false true false false) := by
  refine returnsInHanded_of_change (C := Try.checked) own started (by kernel_rfl) Try.func3
    (ChangeSpec.witness6 (enc := enc) (C := Try.checked) false ⟨#[], #[.slice none 0 0, .int .i64 0], []⟩ 8 (by kernel_rfl) (by kernel_rfl) (by kernel_rfl) (by kernel_rfl)) ?_
  intro W base args ds gs before hval0 hW hcnd _
  have hval : ∀ (j : Nat) t v, Try.f3.params[j]? = some t → args[j]? = some v → Value.okWide Try.prog W .any base t v := hval0
  have hlt : ∀ x ∈ before, x.block < W.heap.size := fun x hx => hW.lt x hx
  have hW' := hW
  obtain ⟨p, q, hA0, hV, rfl, hfz, hnd⟩ := hW
  have hA : DataW.TrodAll enc Try.prog W 0 (fun _ => true) true Try.f3.params.toList args.toList ds p := hA0
  rw [Try.params3] at hA hval
  obtain ⟨v0, v1, d0, d1, p0, p1, rfl, rfl, rfl, h0, h1⟩ := trodAll_two hA
  obtain ⟨A0, k0, xs0, rfl, hr0⟩ := open_tubes (hval 0 22 v0 rfl rfl) h0
  obtain ⟨x1, rfl, -, -, wx1⟩ := open_int Try.underlying2 (hval 1 2 v1 rfl rfl) h1
  refine (law_FnExactTurnTubes A0 k0 xs0 x1 (bd_i64 wx1) W hr0).mono fun e W' ⟨he, hb⟩ => ?_
  subst he
  exact ⟨_, rfl, law_post (tb := 4) laidOut (by kernel_rfl) rfl rfl Try.underlying4 hW' rfl hb⟩
theorem fnExactTurnTubes_closed : joinedFacts Try.prog 3 Try.f3 Rows.fnExactTurnTubesSpec Rows.fnExactTurnTubesRow = true := by
  unfold joinedFacts; rw [mayEnter_yes, liftsFinal_no, make_cut]; kernel_rfl
theorem fnExactTurnTubes_holds : Rows.FnExactTurnTubesSaid :=
  OpenClaim.holds_of_wide 3 Try.f3 rfl rfl rfl rfl rfl rfl rfl ⟨rfl, rfl, rfl, rfl, rfl⟩ rfl rfl rfl rfl rfl (by kernel_rfl) Try.func3 fnExactTurnTubes_closed
    (of_decide_eq_true (by kernel_rfl)) (by unfold Func.isWrapper; rw [if_neg (of_decide_eq_false (by kernel_rfl))]; exact ⟨rfl, rfl⟩)
    (fun os started H enc _ => fnExactTurnTubes_lifted os started H enc)
#print axioms fnExactTurnTubes_holds

end Go.Proofs.Ytmhaloigcpanpaa
