/- DERIVED. The law on what makes sizes. -/
import Derived.Test.YtenejfhbcpkfdaaSizes
namespace Go.Proofs.Ytenejfhbcpkfdaa
set_option maxRecDepth 100000
open Go.RowKit Go.ChangeShapes Go.WideShapes Go.ChangeAt Go.Joins Go.Deep

set_option maxHeartbeats 400000 in
theorem law_FnExactAreSizes (A : Option Addr) (c : Nat) (xs : List (ByteArray × Int × Int × Int)) (w : World) (hr : xs.length ≤ maxLen ∧ (∀ x ∈ xs, (fun t => t.1.size ≤ maxLen) x) ∧ Rd w w.heap.size 4 sizeC A xs) :
    Calls Try.prog 7 #[.slice A xs.length c] w fun e w' => e = .returned (.bool true) ∧ Below w.heap.size w w' := by
  obtain ⟨hm, hg, hr⟩ := hr
  have Hg := Lib.hid hg
  go_enter Try.func7, Try.ntmps7
  go_wp2_with fail
  refine (szSizeS_any A c xs 1048576 _ hr hm hg (by omega) (by omega)).mono ?_
  clear hg
  rintro e w0 ⟨r, rfl, hr1, hb0⟩
  rcases hr1 with rfl | ⟨r0, r1, hs, _⟩
  · go_wp2_with fail
    go_ret
    exact ⟨rfl, hb0⟩
  · go_wp2_with fail
    refine (toSizeS_any A c xs _ ((hr.below hb0).more hb0.size) hs).mono ?_
    rintro e w1 ⟨A1, rfl, hf1, hb1⟩
    go_wp2_with fail
    refine (areSizes_spec A1 _ xs _ hf1.rd hs Hg.out).mono ?_
    rintro e w2 ⟨rfl, hb2⟩
    have hb12 := bthen (bthen hb0 hb1) hb2
    go_wp2_with fail
    refine (toSizeS_any A c xs _ ((hr.below hb12).more hb12.size) hs).mono ?_
    rintro e w3 ⟨A3, rfl, hf3, hb3⟩
    have hb13 := bthen hb12 hb3
    go_wp2_with fail
    refine (areSizes_impl A3 _ xs _ hf3.rd hs (Nat.le_refl _) Hg.out).mono ?_
    rintro e w4 ⟨rfl, hb4⟩
    have hb14 := bthen hb13 hb4
    go_wp2_with fail
    refine (toSizeS_any A c xs _ ((hr.below hb14).more hb14.size) hs).mono ?_
    rintro e w5 ⟨A5, rfl, hf5, hb5⟩
    have hb15 := bthen hb14 hb5
    go_wp2_with fail
    refine (eqSizeS_any A3 A5 _ _ xs xs _ (((hf3.rd.below hb4).more hb4.size |>.below hb5).more hb5.size) hf5.rd hs).mono ?_
    rw [decide_eq_true (rfl : xs = xs)]
    rintro e w6 ⟨rfl, hb6⟩
    go_wp2_with fail
    go_ret
    exact ⟨rfl, bthen hb15 hb6⟩

set_option maxRecDepth 100000 in
theorem fnExactAreSizes_lifted (os : Os) (started : os.Started) (H : Type) (enc : TypeId × Value → H) :
    ReturnsInHanded {} Try.checked os 7 .any (Rows.fnExactAreSizesSpec.pre6 enc Try.prog Try.f7 Rows.fnExactAreSizesRow.domain false) (Rows.fnExactAreSizesSpec.post enc Try.prog Try.f7 false true false false) := by
  refine returnsInHanded_of_change (C := Try.checked) own started (by kernel_rfl) Try.func7
    (ChangeSpec.witness6 (enc := enc) (C := Try.checked) false ⟨#[], #[.slice none 0 0], []⟩ 8 (by kernel_rfl) (by kernel_rfl) (by kernel_rfl) (by kernel_rfl)) ?_
  intro W base args ds gs before hval0 hW hcnd _
  have hval : ∀ (j : Nat) t v, Try.f7.params[j]? = some t → args[j]? = some v → Value.okWide Try.prog W .any base t v := hval0
  have hlt : ∀ x ∈ before, x.block < W.heap.size := fun x hx => hW.lt x hx
  have hW' := hW
  obtain ⟨p, q, hA0, hV, rfl, hfz, hnd⟩ := hW
  have hA : DataW.TrodAll enc Try.prog W 0 (fun _ => true) true Try.f7.params.toList args.toList ds p := hA0
  rw [Try.params7] at hA hval
  obtain ⟨v0, d0, rfl, rfl, h0⟩ := trodAll_one hA
  obtain ⟨A0, k0, xs0, rfl, hr0⟩ := open_sizes (hval 0 48 v0 rfl rfl) h0
  refine (law_FnExactAreSizes A0 k0 xs0 W hr0).mono fun e W' ⟨he, hb⟩ => ?_
  subst he
  exact ⟨_, rfl, law_post (tb := 4) laidOut (by kernel_rfl) rfl rfl Try.underlying4 hW' rfl hb⟩
theorem fnExactAreSizes_closed : joinedFacts Try.prog 7 Try.f7 Rows.fnExactAreSizesSpec Rows.fnExactAreSizesRow = true := by
  unfold joinedFacts; rw [mayEnter_yes, liftsFinal_no, make_cut]; kernel_rfl
theorem fnExactAreSizes_holds : Rows.FnExactAreSizesSaid :=
  OpenClaim.holds_of_wide 7 Try.f7 rfl rfl rfl rfl rfl rfl rfl ⟨rfl, rfl, rfl, rfl, rfl⟩ rfl rfl rfl rfl rfl (by kernel_rfl) Try.func7 fnExactAreSizes_closed
    (of_decide_eq_true (by kernel_rfl)) (by unfold Func.isWrapper; rw [if_neg (of_decide_eq_false (by kernel_rfl))]; exact ⟨rfl, rfl⟩)
    (fun os started H enc _ => fnExactAreSizes_lifted os started H enc)
#print axioms fnExactAreSizes_holds

end Go.Proofs.Ytenejfhbcpkfdaa
