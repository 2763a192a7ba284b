/- DERIVED. The saddle height and the wanted reach with their codes; the laws on them. -/
import Derived.Test.YtmeanlilmbfmkaaRider
import Derived.Test.YtmeanlilmbfmkaaHead
import Derived.Lib.SmallJoins
namespace Go.Proofs.Ytmeanlilmbfmkaa
open Go.RowKit Go.ChangeShapes Go.WideShapes Go.ChangeAt Go.Joins

def saddleR (h i a : Int) : Int × Int := if riderB h i a = true then (saddleN i, 0) else (0, 1)
def wantedR (h i a : Int) : Int × Int := if riderB h i a = true then (reachN h i a, 0) else (0, 1)

theorem SaddleHeight_impl (h i a : Int) (w : World) :
    Calls Try.prog 15 #[.agg #[.int .i64 h, .int .i64 i, .int .i64 a]] w fun e w' => e = .returned (.tuple #[.int .i64 (saddleR h i a).1, .int .i64 (saddleR h i a).2]) ∧ Below w.heap.size w w' := by
  by_cases r : riderB h i a = true
  · unfold saddleR
    rw [if_pos r]
    go_enter Try.func15, Try.ntmps15
    go_wp2_with fail
    refine (isRider_impl _ _ _ _).mono ?_
    rintro e w1 ⟨rfl, hb1⟩
    obtain ⟨hc, hf⟩ := bcell hb1
    go_wp2_with fail
    refine (saddle_impl _ _ _ r _).mono ?_
    rintro e w2 ⟨rfl, hb2⟩
    go_wp2_with fail
    go_ret2
    exact ⟨rfl, bthen (bthen (balloc _ _) hb1) hb2⟩
  · unfold saddleR
    rw [if_neg r]
    go_enter Try.func15, Try.ntmps15
    go_wp2_with fail
    refine (isRider_impl _ _ _ _).mono ?_
    rintro e w1 ⟨rfl, hb1⟩
    go_wp2_with fail
    go_ret2
    exact ⟨rfl, bthen (balloc _ _) hb1⟩

theorem SaddleHeight_spec (h i a : Int) (w : World) :
    Calls Try.prog 14 #[.agg #[.int .i64 h, .int .i64 i, .int .i64 a]] w fun e w' => e = .returned (.tuple #[.int .i64 (saddleR h i a).1, .int .i64 (saddleR h i a).2]) ∧ Below w.heap.size w w' := by
  by_cases r : riderB h i a = true
  · unfold saddleR
    rw [if_pos r]
    go_enter Try.func14, Try.ntmps14
    go_wp2_with fail
    refine (isRider_spec _ _ _ _).mono ?_
    rintro e w1 ⟨rfl, hb1⟩
    obtain ⟨hc, hf⟩ := bcell hb1
    go_wp2_with fail
    refine (saddle_spec _ _ _ r _).mono ?_
    rintro e w2 ⟨rfl, hb2⟩
    go_wp2_with fail
    go_ret2
    exact ⟨rfl, bthen (bthen (balloc _ _) hb1) hb2⟩
  · unfold saddleR
    rw [if_neg r]
    go_enter Try.func14, Try.ntmps14
    go_wp2_with fail
    refine (isRider_spec _ _ _ _).mono ?_
    rintro e w1 ⟨rfl, hb1⟩
    go_wp2_with fail
    go_ret2
    exact ⟨rfl, bthen (balloc _ _) hb1⟩

theorem WantedReach_impl (h i a : Int) (w : World) :
    Calls Try.prog 13 #[.agg #[.int .i64 h, .int .i64 i, .int .i64 a]] w fun e w' => e = .returned (.tuple #[.int .i64 (wantedR h i a).1, .int .i64 (wantedR h i a).2]) ∧ Below w.heap.size w w' := by
  by_cases r : riderB h i a = true
  · unfold wantedR
    rw [if_pos r]
    go_enter Try.func13, Try.ntmps13
    go_wp2_with fail
    refine (isRider_impl _ _ _ _).mono ?_
    rintro e w1 ⟨rfl, hb1⟩
    obtain ⟨hc, hf⟩ := bcell hb1
    go_wp2_with fail
    refine (reach_impl _ _ _ r _).mono ?_
    rintro e w2 ⟨rfl, hb2⟩
    go_wp2_with fail
    go_ret2
    exact ⟨rfl, bthen (bthen (balloc _ _) hb1) hb2⟩
  · unfold wantedR
    rw [if_neg r]
    go_enter Try.func13, Try.ntmps13
    go_wp2_with fail
    refine (isRider_impl _ _ _ _).mono ?_
    rintro e w1 ⟨rfl, hb1⟩
    go_wp2_with fail
    go_ret2
    exact ⟨rfl, bthen (balloc _ _) hb1⟩

theorem WantedReach_spec (h i a : Int) (w : World) :
    Calls Try.prog 12 #[.agg #[.int .i64 h, .int .i64 i, .int .i64 a]] w fun e w' => e = .returned (.tuple #[.int .i64 (wantedR h i a).1, .int .i64 (wantedR h i a).2]) ∧ Below w.heap.size w w' := by
  by_cases r : riderB h i a = true
  · unfold wantedR
    rw [if_pos r]
    go_enter Try.func12, Try.ntmps12
    go_wp2_with fail
    refine (isRider_spec _ _ _ _).mono ?_
    rintro e w1 ⟨rfl, hb1⟩
    obtain ⟨hc, hf⟩ := bcell hb1
    go_wp2_with fail
    refine (reach_spec _ _ _ r _).mono ?_
    rintro e w2 ⟨rfl, hb2⟩
    go_wp2_with fail
    go_ret2
    exact ⟨rfl, bthen (bthen (balloc _ _) hb1) hb2⟩
  · unfold wantedR
    rw [if_neg r]
    go_enter Try.func12, Try.ntmps12
    go_wp2_with fail
    refine (isRider_spec _ _ _ _).mono ?_
    rintro e w1 ⟨rfl, hb1⟩
    go_wp2_with fail
    go_ret2
    exact ⟨rfl, bthen (balloc _ _) hb1⟩

theorem law_FnExactSaddleHeight (h i a : Int) (_ : -9223372036854775808 ≤ h ∧ h ≤ 9223372036854775807) (_ : -9223372036854775808 ≤ i ∧ i ≤ 9223372036854775807) (_ : -9223372036854775808 ≤ a ∧ a ≤ 9223372036854775807) (w : World) :
    Calls Try.prog 5 #[.agg #[.int .i64 h, .int .i64 i, .int .i64 a]] w fun e w' => e = .returned (.bool true) ∧ Below w.heap.size w w' := by
  go_enter Try.func5, Try.ntmps5
  go_wp2_with fail
  refine (toRider_any _ _ _ _).mono ?_
  rintro e w1 ⟨rfl, hb1⟩
  go_wp2_with fail
  refine (SaddleHeight_spec _ _ _ _).mono ?_
  rintro e w2 ⟨rfl, hb2⟩
  have hb12 := bthen hb1 hb2
  obtain ⟨hc, hf⟩ := bcell hb12
  go_wp2_with fail
  refine (toRider_any _ _ _ _).mono ?_
  rintro e w3 ⟨rfl, hb3⟩
  go_wp2_with fail
  refine (SaddleHeight_impl _ _ _ _).mono ?_
  rintro e w4 ⟨rfl, hb4⟩
  go_wp2_with fail
  go_ret
  exact ⟨rfl, bthen (bthen (bthen (balloc _ _) hb12) hb3) hb4⟩

set_option maxRecDepth 100000 in
theorem fnExactSaddleHeight_lifted (os : Os) (started : os.Started) (H : Type) (enc : TypeId × Value → H) :
    ReturnsInHanded {} Try.checked os 5 .any (Rows.fnExactSaddleHeightSpec.pre6 enc Try.prog Try.f5 Rows.fnExactSaddleHeightRow.domain false) (Rows.fnExactSaddleHeightSpec.post enc Try.prog Try.f5 false true false false) := by
  refine returnsInHanded_of_change (C := Try.checked) own started (by kernel_rfl) Try.func5
    (ChangeSpec.witness6 (enc := enc) (C := Try.checked) false ⟨#[], #[.agg #[.int .i64 0, .int .i64 0, .int .i64 0]], []⟩ 8 (by kernel_rfl) (by kernel_rfl) (by kernel_rfl) (by kernel_rfl)) ?_
  intro W base args ds gs before hval0 hW hcnd _
  have hval : ∀ (j : Nat) t v, Try.f5.params[j]? = some t → args[j]? = some v → Value.okWide Try.prog W .any base t v := hval0
  have hlt : ∀ x ∈ before, x.block < W.heap.size := fun x hx => hW.lt x hx
  have hW' := hW
  obtain ⟨p, q, hA0, hV, rfl, hfz, hnd⟩ := hW
  have hA : DataW.TrodAll enc Try.prog W 0 (fun _ => true) true Try.f5.params.toList args.toList ds p := hA0
  rw [Try.params5] at hA hval
  obtain ⟨v0, d0, rfl, rfl, h0⟩ := trodAll_one hA
  obtain ⟨c00, c01, c02, y00, y01, y02, m0, rfl, -, -, hy00, hy01, hy02⟩ := open_agg3 Try.underlying23 (by kernel_rfl) (show Try.prog.cellsOf 23 = 3 by kernel_rfl) (hval 0 23 v0 rfl rfl) h0
  obtain ⟨a0, e00, -, wa0⟩ := DataW.trod_int Try.underlying2 hy00
  obtain ⟨b0, e01, -, wb0⟩ := DataW.trod_int Try.underlying2 hy01
  obtain ⟨c0, e02, -, wc0⟩ := DataW.trod_int Try.underlying2 hy02
  simp at e00 e01 e02
  subst e00 e01 e02
  refine (law_FnExactSaddleHeight a0 b0 c0 (bd_i64 wa0) (bd_i64 wb0) (bd_i64 wc0) W).mono fun e W' ⟨he, hb⟩ => ?_
  subst he
  exact ⟨_, rfl, law_post (tb := 4) laidOut (by kernel_rfl) rfl rfl Try.underlying4 hW' rfl hb⟩
theorem fnExactSaddleHeight_closed : joinedFacts Try.prog 5 Try.f5 Rows.fnExactSaddleHeightSpec Rows.fnExactSaddleHeightRow = true := by
  unfold joinedFacts; rw [mayEnter_yes, liftsFinal_no, make_cut]; kernel_rfl
theorem fnExactSaddleHeight_holds : Rows.FnExactSaddleHeightSaid :=
  OpenClaim.holds_of_wide 5 Try.f5 rfl rfl rfl rfl rfl rfl rfl ⟨rfl, rfl, rfl, rfl, rfl⟩ rfl rfl rfl rfl rfl (by kernel_rfl) Try.func5 fnExactSaddleHeight_closed
    (of_decide_eq_true (by kernel_rfl)) (by unfold Func.isWrapper; rw [if_neg (of_decide_eq_false (by kernel_rfl))]; exact ⟨rfl, rfl⟩)
    (fun os started H enc _ => fnExactSaddleHeight_lifted os started H enc)
#print axioms fnExactSaddleHeight_holds

theorem law_FnExactWantedReach (h i a : Int) (_ : -9223372036854775808 ≤ h ∧ h ≤ 9223372036854775807) (_ : -9223372036854775808 ≤ i ∧ i ≤ 9223372036854775807) (_ : -9223372036854775808 ≤ a ∧ a ≤ 9223372036854775807) (w : World) :
    Calls Try.prog 4 #[.agg #[.int .i64 h, .int .i64 i, .int .i64 a]] w fun e w' => e = .returned (.bool true) ∧ Below w.heap.size w w' := by
  go_enter Try.func4, Try.ntmps4
  go_wp2_with fail
  refine (toRider_any _ _ _ _).mono ?_
  rintro e w1 ⟨rfl, hb1⟩
  go_wp2_with fail
  refine (WantedReach_spec _ _ _ _).mono ?_
  rintro e w2 ⟨rfl, hb2⟩
  have hb12 := bthen hb1 hb2
  obtain ⟨hc, hf⟩ := bcell hb12
  go_wp2_with fail
  refine (toRider_any _ _ _ _).mono ?_
  rintro e w3 ⟨rfl, hb3⟩
  go_wp2_with fail
  refine (WantedReach_impl _ _ _ _).mono ?_
  rintro e w4 ⟨rfl, hb4⟩
  go_wp2_with fail
  go_ret
  exact ⟨rfl, bthen (bthen (bthen (balloc _ _) hb12) hb3) hb4⟩

set_option maxRecDepth 100000 in
theorem fnExactWantedReach_lifted (os : Os) (started : os.Started) (H : Type) (enc : TypeId × Value → H) :
    ReturnsInHanded {} Try.checked os 4 .any (Rows.fnExactWantedReachSpec.pre6 enc Try.prog Try.f4 Rows.fnExactWantedReachRow.domain false) (Rows.fnExactWantedReachSpec.post enc Try.prog Try.f4 false true false false) := by
  refine returnsInHanded_of_change (C := Try.checked) own started (by kernel_rfl) Try.func4
    (ChangeSpec.witness6 (enc := enc) (C := Try.checked) false ⟨#[], #[.agg #[.int .i64 0, .int .i64 0, .int .i64 0]], []⟩ 8 (by kernel_rfl) (by kernel_rfl) (by kernel_rfl) (by kernel_rfl)) ?_
  intro W base args ds gs before hval0 hW hcnd _
  have hval : ∀ (j : Nat) t v, Try.f4.params[j]? = some t → args[j]? = some v → Value.okWide Try.prog W .any base t v := hval0
  have hlt : ∀ x ∈ before, x.block < W.heap.size := fun x hx => hW.lt x hx
  have hW' := hW
  obtain ⟨p, q, hA0, hV, rfl, hfz, hnd⟩ := hW
  have hA : DataW.TrodAll enc Try.prog W 0 (fun _ => true) true Try.f4.params.toList args.toList ds p := hA0
  rw [Try.params4] at hA hval
  obtain ⟨v0, d0, rfl, rfl, h0⟩ := trodAll_one hA
  obtain ⟨c00, c01, c02, y00, y01, y02, m0, rfl, -, -, hy00, hy01, hy02⟩ := open_agg3 Try.underlying23 (by kernel_rfl) (show Try.prog.cellsOf 23 = 3 by kernel_rfl) (hval 0 23 v0 rfl rfl) h0
  obtain ⟨a0, e00, -, wa0⟩ := DataW.trod_int Try.underlying2 hy00
  obtain ⟨b0, e01, -, wb0⟩ := DataW.trod_int Try.underlying2 hy01
  obtain ⟨c0, e02, -, wc0⟩ := DataW.trod_int Try.underlying2 hy02
  simp at e00 e01 e02
  subst e00 e01 e02
  refine (law_FnExactWantedReach a0 b0 c0 (bd_i64 wa0) (bd_i64 wb0) (bd_i64 wc0) W).mono fun e W' ⟨he, hb⟩ => ?_
  subst he
  exact ⟨_, rfl, law_post (tb := 4) laidOut (by kernel_rfl) rfl rfl Try.underlying4 hW' rfl hb⟩
theorem fnExactWantedReach_closed : joinedFacts Try.prog 4 Try.f4 Rows.fnExactWantedReachSpec Rows.fnExactWantedReachRow = true := by
  unfold joinedFacts; rw [mayEnter_yes, liftsFinal_no, make_cut]; kernel_rfl
theorem fnExactWantedReach_holds : Rows.FnExactWantedReachSaid :=
  OpenClaim.holds_of_wide 4 Try.f4 rfl rfl rfl rfl rfl rfl rfl ⟨rfl, rfl, rfl, rfl, rfl⟩ rfl rfl rfl rfl rfl (by kernel_rfl) Try.func4 fnExactWantedReach_closed
    (of_decide_eq_true (by kernel_rfl)) (by unfold Func.isWrapper; rw [if_neg (of_decide_eq_false (by kernel_rfl))]; exact ⟨rfl, rfl⟩)
    (fun os started H enc _ => fnExactWantedReach_lifted os started H enc)
#print axioms fnExactWantedReach_holds

theorem law_FnExactIsRider (h i a : Int) (_ : -9223372036854775808 ≤ h ∧ h ≤ 9223372036854775807) (_ : -9223372036854775808 ≤ i ∧ i ≤ 9223372036854775807) (_ : -9223372036854775808 ≤ a ∧ a ≤ 9223372036854775807) (w : World) :
    Calls Try.prog 3 #[.agg #[.int .i64 h, .int .i64 i, .int .i64 a]] w fun e w' => e = .returned (.bool true) ∧ Below w.heap.size w w' := by
  go_enter Try.func3, Try.ntmps3
  go_wp2_with fail
  refine (toRider_any _ _ _ _).mono ?_
  rintro e w1 ⟨rfl, hb1⟩
  go_wp2_with fail
  refine (isRider_spec _ _ _ _).mono ?_
  rintro e w2 ⟨rfl, hb2⟩
  have hb12 := bthen hb1 hb2
  obtain ⟨hc, hf⟩ := bcell hb12
  go_wp2_with fail
  refine (toRider_any _ _ _ _).mono ?_
  rintro e w3 ⟨rfl, hb3⟩
  go_wp2_with fail
  refine (isRider_impl _ _ _ _).mono ?_
  rintro e w4 ⟨rfl, hb4⟩
  go_wp2_with fail
  go_ret
  exact ⟨rfl, bthen (bthen (bthen (balloc _ _) hb12) hb3) hb4⟩

set_option maxRecDepth 100000 in
theorem fnExactIsRider_lifted (os : Os) (started : os.Started) (H : Type) (enc : TypeId × Value → H) :
    ReturnsInHanded {} Try.checked os 3 .any (Rows.fnExactIsRiderSpec.pre6 enc Try.prog Try.f3 Rows.fnExactIsRiderRow.domain false) (Rows.fnExactIsRiderSpec.post enc Try.prog Try.f3 false true false false) := by
  refine returnsInHanded_of_change (C := Try.checked) own started (by kernel_rfl) Try.func3
    (ChangeSpec.witness6 (enc := enc) (C := Try.checked) false ⟨#[], #[.agg #[.int .i64 0, .int .i64 0, .int .i64 0]], []⟩ 8 (by kernel_rfl) (by kernel_rfl) (by kernel_rfl) (by kernel_rfl)) ?_
  intro W base args ds gs before hval0 hW hcnd _
  have hval : ∀ (j : Nat) t v, Try.f3.params[j]? = some t → args[j]? = some v → Value.okWide Try.prog W .any base t v := hval0
  have hlt : ∀ x ∈ before, x.block < W.heap.size := fun x hx => hW.lt x hx
  have hW' := hW
  obtain ⟨p, q, hA0, hV, rfl, hfz, hnd⟩ := hW
  have hA : DataW.TrodAll enc Try.prog W 0 (fun _ => true) true Try.f3.params.toList args.toList ds p := hA0
  rw [Try.params3] at hA hval
  obtain ⟨v0, d0, rfl, rfl, h0⟩ := trodAll_one hA
  obtain ⟨c00, c01, c02, y00, y01, y02, m0, rfl, -, -, hy00, hy01, hy02⟩ := open_agg3 Try.underlying23 (by kernel_rfl) (show Try.prog.cellsOf 23 = 3 by kernel_rfl) (hval 0 23 v0 rfl rfl) h0
  obtain ⟨a0, e00, -, wa0⟩ := DataW.trod_int Try.underlying2 hy00
  obtain ⟨b0, e01, -, wb0⟩ := DataW.trod_int Try.underlying2 hy01
  obtain ⟨c0, e02, -, wc0⟩ := DataW.trod_int Try.underlying2 hy02
  simp at e00 e01 e02
  subst e00 e01 e02
  refine (law_FnExactIsRider a0 b0 c0 (bd_i64 wa0) (bd_i64 wb0) (bd_i64 wc0) W).mono fun e W' ⟨he, hb⟩ => ?_
  subst he
  exact ⟨_, rfl, law_post (tb := 4) laidOut (by kernel_rfl) rfl rfl Try.underlying4 hW' rfl hb⟩
theorem fnExactIsRider_closed : joinedFacts Try.prog 3 Try.f3 Rows.fnExactIsRiderSpec Rows.fnExactIsRiderRow = true := by
  unfold joinedFacts; rw [mayEnter_yes, liftsFinal_no, make_cut]; kernel_rfl
theorem fnExactIsRider_holds : Rows.FnExactIsRiderSaid :=
  OpenClaim.holds_of_wide 3 Try.f3 rfl rfl rfl rfl rfl rfl rfl ⟨rfl, rfl, rfl, rfl, rfl⟩ rfl rfl rfl rfl rfl (by kernel_rfl) Try.func3 fnExactIsRider_closed
    (of_decide_eq_true (by kernel_rfl)) (by unfold Func.isWrapper; rw [if_neg (of_decide_eq_false (by kernel_rfl))]; exact ⟨rfl, rfl⟩)
    (fun os started H enc _ => fnExactIsRider_lifted os started H enc)
#print axioms fnExactIsRider_holds

end Go.Proofs.Ytmeanlilmbfmkaa
