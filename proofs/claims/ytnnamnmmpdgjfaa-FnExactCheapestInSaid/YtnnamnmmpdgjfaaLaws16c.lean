/- DERIVED. The law on the cheapest part of a slot. -/
import Derived.Test.YtnnamnmmpdgjfaaCheap
import Derived.Test.YtnnamnmmpdgjfaaHead
import Derived.Lib.SmallJoins
import Derived.Deep.Slices
import Derived.Deep.Fields
import Derived.ChangeMaps5
import Derived.Carry
namespace Go.Proofs.Ytnnamnmmpdgjfaa
set_option maxRecDepth 100000
open Go.RowKit Go.ChangeShapes Go.WideShapes Go.ChangeAt Go.Joins Go.Deep

set_option maxHeartbeats 1000000 in
theorem law_FnExactCheapestIn (A0 : Option Addr) (c0 : Nat) (xs0 : List PartT) (x1 : Int) (hx1 : -9223372036854775808 ≤ x1 ∧ x1 ≤ 9223372036854775807) (w : World) (hr0 : xs0.length ≤ maxLen ∧ (∀ x ∈ xs0, goodV x) ∧ RdV w w.heap.size A0 xs0) :
    Calls Try.prog 10 #[.slice A0 xs0.length c0, .int .i64 x1] w fun e w' => e = .returned (.bool true) ∧ Below w.heap.size w w' := by
  obtain ⟨hm0, hg0, hr0⟩ := hr0
  have Hg0 := Lib.hid hg0; clear hg0
  go_enter Try.func10, Try.ntmps10
  go_wp2_with fail
  have hbW := Below.refl w.heap.size w
  have sz0 := Nat.le_refl w.heap.size
  refine (szPartS_k A0 c0 xs0 1048576 _ ((hr0.below hbW).more hbW.size) hm0 Hg0.out (by omega) (by omega)).mono ?_
  rintro e w1 ⟨r1, rfl, hq1, hb1⟩
  have sz1 := hb1.size
  replace hbW := bthen' hbW hb1
  rcases hq1 with rfl | ⟨hq1, hl1, hS0⟩
  · go_wp2_with fail
    go_ret
    exact ⟨rfl, hbW⟩
  have HS0 := Lib.hid hS0; clear hS0
  go_wp2_with fail
  have hSp := Lib.hid (fun A0' c0' v q0 => CheapestIn_spec A0' c0' xs0 x1 v q0 HS0.out)
  have hIm := Lib.hid (fun A0' c0' v q0 => CheapestIn_impl A0' c0' xs0 x1 v q0 HS0.out)
  generalize cheapR xs0 x1 = res at hSp hIm
  obtain ⟨y0, y1⟩ := res
  refine (toPartS_k A0 c0 xs0 _ ((hr0.below hbW).more hbW.size) HS0.out).mono ?_
  rintro e w2 ⟨aA0, rfl, af0, hb2⟩
  have sz2 := hb2.size
  replace hbW := bthen' hbW hb2
  go_wp2_with fail
  refine (hSp.out aA0 _ _ (af0.rd.more (by omega))).mono ?_
  rintro e w3 ⟨rfl, hb3⟩
  have sz3 := hb3.size
  replace hbW := bthen' hbW hb3
  replace af0 := af0.below hb3 (by omega)
  go_wp2_with fail
  clear af0
  refine (toPartS_k A0 c0 xs0 _ ((hr0.below hbW).more hbW.size) HS0.out).mono ?_
  rintro e w4 ⟨bA0, rfl, bf0, hb4⟩
  have sz4 := hb4.size
  replace hbW := bthen' hbW hb4
  go_wp2_with fail
  refine (hIm.out bA0 _ _ (bf0.rd.more (by omega))).mono ?_
  rintro e w5 ⟨rfl, hb5⟩
  have sz5 := hb5.size
  replace hbW := bthen' hbW hb5
  replace bf0 := bf0.below hb5 (by omega)
  go_wp2_with fail
  refine (toPartS_k A0 c0 xs0 _ ((hr0.below hbW).more hbW.size) HS0.out).mono ?_
  rintro e w6 ⟨dA0, rfl, df0, hb6⟩
  have sz6 := hb6.size
  replace hbW := bthen' hbW hb6
  replace bf0 := bf0.below hb6 (by omega)
  go_wp2_with fail
  refine (eqPartS_k bA0 dA0 _ _ xs0 _ (bf0.rd.more (by omega)) (df0.rd.more (by omega)) HS0.out).mono ?_
  rintro e w7 ⟨rfl, hb7⟩
  have sz7 := hb7.size
  replace hbW := bthen' hbW hb7
  replace bf0 := bf0.below hb7 (by omega)
  clear df0
  go_wp2_with fail
  go_ret
  exact ⟨rfl, hbW⟩

set_option maxRecDepth 100000 in
theorem fnExactCheapestIn_lifted (os : Os) (started : os.Started) (H : Type) (enc : TypeId × Value → H) :
    ReturnsInHanded {} Try.checked os 10 .any (Rows.fnExactCheapestInSpec.pre6 enc Try.prog Try.f10 Rows.fnExactCheapestInRow.domain false) (Rows.fnExactCheapestInSpec.post enc Try.prog Try.f10 false true false false) := by
  refine returnsInHanded_of_change (C := Try.checked) own started (by kernel_rfl) Try.func10
    (ChangeSpec.witness6 (enc := enc) (C := Try.checked) false ⟨#[], #[.slice none 0 0, .int .i64 0], []⟩ 8 (by kernel_rfl) (by kernel_rfl) (by kernel_rfl) (by kernel_rfl)) ?_
  intro W base args ds gs before hval0 hW hcnd _
  have hval : ∀ (j : Nat) t v, Try.f10.params[j]? = some t → args[j]? = some v → Value.okWide Try.prog W .any base t v := hval0
  have hlt : ∀ x ∈ before, x.block < W.heap.size := fun x hx => hW.lt x hx
  have hW' := hW
  obtain ⟨p, q, hA0, hV, rfl, hfz, hnd⟩ := hW
  have hA : DataW.TrodAll enc Try.prog W 0 (fun _ => true) true Try.f10.params.toList args.toList ds p := hA0
  rw [Try.params10] at hA hval
  obtain ⟨v0, v1, d0, d1, p0, p1, rfl, rfl, rfl, h0, h1⟩ := trodAll_two hA
  obtain ⟨A0, k0, xs0, rfl, hr0⟩ := open_partsV (hval 0 33 v0 rfl rfl) h0
  obtain ⟨x1, rfl, -, -, wx1⟩ := open_int Try.underlying2 (hval 1 2 v1 rfl rfl) h1
  refine (law_FnExactCheapestIn A0 k0 xs0 x1 (bd_i64 wx1) W hr0).mono fun e W' ⟨he, hb⟩ => ?_
  subst he
  exact ⟨_, rfl, law_post (tb := 4) laidOut (by kernel_rfl) rfl rfl Try.underlying4 hW' rfl hb⟩
theorem fnExactCheapestIn_closed : joinedFacts Try.prog 10 Try.f10 Rows.fnExactCheapestInSpec Rows.fnExactCheapestInRow = true := by
  unfold joinedFacts; rw [mayEnter_yes, liftsFinal_no, make_cut]; kernel_rfl
theorem fnExactCheapestIn_holds : Rows.FnExactCheapestInSaid :=
  OpenClaim.holds_of_wide 10 Try.f10 rfl rfl rfl rfl rfl rfl rfl ⟨rfl, rfl, rfl, rfl, rfl⟩ rfl rfl rfl rfl rfl (by kernel_rfl) Try.func10 fnExactCheapestIn_closed
    (of_decide_eq_true (by kernel_rfl)) (by unfold Func.isWrapper; rw [if_neg (of_decide_eq_false (by kernel_rfl))]; exact ⟨rfl, rfl⟩)
    (fun os started H enc _ => fnExactCheapestIn_lifted os started H enc)
#print axioms fnExactCheapestIn_holds

end Go.Proofs.Ytnnamnmmpdgjfaa
