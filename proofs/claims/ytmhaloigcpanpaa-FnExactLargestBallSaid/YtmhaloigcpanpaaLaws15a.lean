/- DERIVED. The law on the largest ball. -/
import Derived.Test.YtmhaloigcpanpaaBall
import Derived.Test.YtmhaloigcpanpaaHead
import Derived.Lib.SmallJoins
import Derived.Deep.Slices
import Derived.Deep.Fields
import Derived.ChangeMaps5
import Derived.Carry
namespace Go.Proofs.Ytmhaloigcpanpaa
set_option maxRecDepth 100000
open Go.RowKit Go.ChangeShapes Go.WideShapes Go.ChangeAt Go.Joins Go.Deep

theorem law_FnExactLargestBall (d b : Int) (_ : -9223372036854775808 ≤ d ∧ d ≤ 9223372036854775807) (_ : -9223372036854775808 ≤ b ∧ b ≤ 9223372036854775807) (n : Int) (_ : -9223372036854775808 ≤ n ∧ n ≤ 9223372036854775807) (w : World) :
    Calls Try.prog 8 #[.agg #[.int .i64 d, .int .i64 b], .int .i64 n] w fun e w' => e = .returned (.bool true) ∧ Below w.heap.size w w' := by
  have HS : Hid (∀ v : World, Calls Try.prog 60 #[.agg #[.int .i64 d, .int .i64 b], .int .i64 n] v fun e w' => e = .returned (.tuple #[.int .i64 (ballR d b n).1, .int .i64 (ballR d b n).2]) ∧ Below v.heap.size v w') := fun v => LargestBall_spec d b n v
  have HI : Hid (∀ v : World, Calls Try.prog 62 #[.agg #[.int .i64 d, .int .i64 b], .int .i64 n] v fun e w' => e = .returned (.tuple #[.int .i64 (ballR d b n).1, .int .i64 (ballR d b n).2]) ∧ Below v.heap.size v w') := fun v => LargestBall_impl d b n v
  generalize ballR d b n = R at HS HI
  obtain ⟨x, y⟩ := R
  go_enter Try.func8, Try.ntmps8
  go_wp2_with fail
  refine (toRace_any _ _ _).mono ?_
  rintro e w1 ⟨rfl, hb1⟩
  go_wp2_with fail
  refine (HS.out w1).mono ?_
  rintro e w2 ⟨rfl, hb2⟩
  have hb12 := bthen hb1 hb2
  obtain ⟨hc, hf⟩ := bcell hb12
  go_wp2_with fail
  refine (toRace_any _ _ _).mono ?_
  rintro e w3 ⟨rfl, hb3⟩
  go_wp2_with fail
  refine (HI.out w3).mono ?_
  rintro e w4 ⟨rfl, hb4⟩
  go_wp2_with fail
  go_ret
  exact ⟨rfl, bthen (bthen (bthen (balloc _ _) hb12) hb3) hb4⟩

set_option maxRecDepth 100000 in
theorem fnExactLargestBall_lifted (os : Os) (started : os.Started) (H : Type) (enc : TypeId × Value → H) :
    ReturnsInHanded {} Try.checked os 8 .any (Rows.fnExactLargestBallSpec.pre6 enc Try.prog Try.f8 Rows.fnExactLargestBallRow.domain false) (Rows.fnExactLargestBallSpec.post enc Try.prog Try.f8 false true false false) := by
  refine returnsInHanded_of_change (C := Try.checked) own started (by kernel_rfl) Try.func8
    (ChangeSpec.witness6 (enc := enc) (C := Try.checked) false ⟨#[], #[.agg #[.int .i64 0, .int .i64 0], .int .i64 0], []⟩ 8 (by kernel_rfl) (by kernel_rfl) (by kernel_rfl) (by kernel_rfl)) ?_
  intro W base args ds gs before hval0 hW hcnd _
  have hval : ∀ (j : Nat) t v, Try.f8.params[j]? = some t → args[j]? = some v → Value.okWide Try.prog W .any base t v := hval0
  have hlt : ∀ x ∈ before, x.block < W.heap.size := fun x hx => hW.lt x hx
  have hW' := hW
  obtain ⟨p, q, hA0, hV, rfl, hfz, hnd⟩ := hW
  have hA : DataW.TrodAll enc Try.prog W 0 (fun _ => true) true Try.f8.params.toList args.toList ds p := hA0
  rw [Try.params8] at hA hval
  obtain ⟨v0, v1, d0, d1, p0, p1, rfl, rfl, rfl, h0, h1⟩ := trodAll_two hA
  obtain ⟨c00, c01, y00, y01, m0, rfl, -, -, hy00, hy01⟩ := open_agg2 Try.underlying82 (by kernel_rfl) (show Try.prog.cellsOf 82 = 2 by kernel_rfl) (hval 0 82 v0 rfl rfl) h0
  obtain ⟨a0, e00, -, wa0⟩ := DataW.trod_int Try.underlying2 hy00
  obtain ⟨b0, e01, -, wb0⟩ := DataW.trod_int Try.underlying2 hy01
  simp at e00 e01
  subst e00 e01
  obtain ⟨x1, rfl, -, -, wx1⟩ := open_int Try.underlying2 (hval 1 2 v1 rfl rfl) h1
  refine (law_FnExactLargestBall a0 b0 (bd_i64 wa0) (bd_i64 wb0) x1 (bd_i64 wx1) W ).mono fun e W' ⟨he, hb⟩ => ?_
  subst he
  exact ⟨_, rfl, law_post (tb := 4) laidOut (by kernel_rfl) rfl rfl Try.underlying4 hW' rfl hb⟩
theorem fnExactLargestBall_closed : joinedFacts Try.prog 8 Try.f8 Rows.fnExactLargestBallSpec Rows.fnExactLargestBallRow = true := by
  unfold joinedFacts; rw [mayEnter_yes, liftsFinal_no, make_cut]; kernel_rfl
theorem fnExactLargestBall_holds : Rows.FnExactLargestBallSaid :=
  OpenClaim.holds_of_wide 8 Try.f8 rfl rfl rfl rfl rfl rfl rfl ⟨rfl, rfl, rfl, rfl, rfl⟩ rfl rfl rfl rfl rfl (by kernel_rfl) Try.func8 fnExactLargestBall_closed
    (of_decide_eq_true (by kernel_rfl)) (by unfold Func.isWrapper; rw [if_neg (of_decide_eq_false (by kernel_rfl))]; exact ⟨rfl, rfl⟩)
    (fun os started H enc _ => fnExactLargestBall_lifted os started H enc)
#print axioms fnExactLargestBall_holds

end Go.Proofs.Ytmhaloigcpanpaa
