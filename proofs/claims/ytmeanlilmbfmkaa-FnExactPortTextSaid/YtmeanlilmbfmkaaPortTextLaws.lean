/- DERIVED. The law on a port's text. -/
import Derived.Test.YtmeanlilmbfmkaaPortText
namespace Go.Proofs.Ytmeanlilmbfmkaa
open Go.RowKit Go.ChangeShapes Go.WideShapes Go.ChangeAt Go.Joins Go.Deep

theorem law_FnExactPortText (k s : Int) (p : Bool) (_ : -9223372036854775808 ≤ k ∧ k ≤ 9223372036854775807) (_ : -9223372036854775808 ≤ s ∧ s ≤ 9223372036854775807) (w : World) :
    Calls Try.prog 6 #[.agg #[.int .i64 k, .int .i64 s, .bool p]] w fun e w' => e = .returned (.bool true) ∧ Below w.heap.size w w' := by
  go_enter Try.func6, Try.ntmps6
  go_wp2_with fail
  refine (toPort_any _ _ _ _).mono ?_
  rintro e w1 ⟨rfl, hb1⟩
  go_wp2_with fail
  refine (PortText_spec _ _ _ _).mono ?_
  rintro e w2 ⟨rfl, hb2⟩
  have hb12 := bthen hb1 hb2
  obtain ⟨hc, hf⟩ := bcell hb12
  go_wp2_with fail
  refine (toPort_any _ _ _ _).mono ?_
  rintro e w3 ⟨rfl, hb3⟩
  go_wp2_with fail
  refine (PortText_impl _ _ _ _).mono ?_
  rintro e w4 ⟨rfl, hb4⟩
  go_wp2_with fail
  go_ret
  exact ⟨rfl, bthen (bthen (bthen (balloc _ _) hb12) hb3) hb4⟩

set_option maxRecDepth 100000 in
theorem fnExactPortText_lifted (os : Os) (started : os.Started) (H : Type) (enc : TypeId × Value → H) :
    ReturnsInHanded {} Try.checked os 6 .any (Rows.fnExactPortTextSpec.pre6 enc Try.prog Try.f6 Rows.fnExactPortTextRow.domain false) (Rows.fnExactPortTextSpec.post enc Try.prog Try.f6 false true false false) := by
  refine returnsInHanded_of_change (C := Try.checked) own started (by kernel_rfl) Try.func6
    (ChangeSpec.witness6 (enc := enc) (C := Try.checked) false ⟨#[], #[.agg #[.int .i64 0, .int .i64 0, .bool false]], []⟩ 8 (by kernel_rfl) (by kernel_rfl) (by kernel_rfl) (by kernel_rfl)) ?_
  intro W base args ds gs before hval0 hW hcnd _
  have hval : ∀ (j : Nat) t v, Try.f6.params[j]? = some t → args[j]? = some v → Value.okWide Try.prog W .any base t v := hval0
  have hlt : ∀ x ∈ before, x.block < W.heap.size := fun x hx => hW.lt x hx
  have hW' := hW
  obtain ⟨p, q, hA0, hV, rfl, hfz, hnd⟩ := hW
  have hA : DataW.TrodAll enc Try.prog W 0 (fun _ => true) true Try.f6.params.toList args.toList ds p := hA0
  rw [Try.params6] at hA hval
  obtain ⟨v0, d0, rfl, rfl, h0⟩ := trodAll_one hA
  obtain ⟨c00, c01, c02, y00, y01, y02, m0, rfl, -, -, hy00, hy01, hy02⟩ := open_agg3 Try.underlying31 (by kernel_rfl) (show Try.prog.cellsOf 31 = 3 by kernel_rfl) (hval 0 31 v0 rfl rfl) h0
  obtain ⟨a0, e00, -, wa0⟩ := DataW.trod_int Try.underlying2 hy00
  obtain ⟨b0, e01, -, wb0⟩ := DataW.trod_int Try.underlying2 hy01
  obtain ⟨c0, e02, -⟩ := DataW.trod_bool Try.underlying4 hy02
  simp at e00 e01 e02
  subst e00 e01 e02
  refine (law_FnExactPortText a0 b0 c0 (bd_i64 wa0) (bd_i64 wb0) W ).mono fun e W' ⟨he, hb⟩ => ?_
  subst he
  exact ⟨_, rfl, law_post (tb := 4) laidOut (by kernel_rfl) rfl rfl Try.underlying4 hW' rfl hb⟩
theorem fnExactPortText_closed : joinedFacts Try.prog 6 Try.f6 Rows.fnExactPortTextSpec Rows.fnExactPortTextRow = true := by
  unfold joinedFacts; rw [mayEnter_yes, liftsFinal_no, make_cut]; kernel_rfl
theorem fnExactPortText_holds : Rows.FnExactPortTextSaid :=
  OpenClaim.holds_of_wide 6 Try.f6 rfl rfl rfl rfl rfl rfl rfl ⟨rfl, rfl, rfl, rfl, rfl⟩ rfl rfl rfl rfl rfl (by kernel_rfl) Try.func6 fnExactPortText_closed
    (of_decide_eq_true (by kernel_rfl)) (by unfold Func.isWrapper; rw [if_neg (of_decide_eq_false (by kernel_rfl))]; exact ⟨rfl, rfl⟩)
    (fun os started H enc _ => fnExactPortText_lifted os started H enc)
#print axioms fnExactPortText_holds

end Go.Proofs.Ytmeanlilmbfmkaa
