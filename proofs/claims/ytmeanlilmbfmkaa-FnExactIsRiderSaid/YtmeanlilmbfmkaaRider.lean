/- DERIVED. Riders. -/
import Derived.Test.YtmeanlilmbfmkaaBase
import Derived.Lib.SmallJoins
namespace Go.Proofs.Ytmeanlilmbfmkaa
open Go.RowKit Go.ChangeShapes Go.WideShapes Go.ChangeAt Go.Joins

def inB (n lo hi : Int) : Bool := decide (lo ≤ n ∧ n ≤ hi)
theorem inB_true {n lo hi : Int} (h : inB n lo hi = true) : lo ≤ n ∧ n ≤ hi := by simpa [inB] using h
theorem within_any (n lo hi : Int) (w : World) :
    Calls Try.prog 30 #[.int .i64 n, .int .i64 lo, .int .i64 hi] w fun e w' => e = .returned (.bool (inB n lo hi)) ∧ w = w' := by
  by_cases h1 : lo ≤ n <;> by_cases h2 : n ≤ hi
  all_goals
    go_enter Try.func30, Try.ntmps30
    go_wp2
    go_ret
    simp [inB, h1, h2]
theorem l01In_any (n lo hi : Int) (w : World) :
    Calls Try.prog 29 #[.int .i64 n, .int .i64 lo, .int .i64 hi] w fun e w' => e = .returned (.bool (inB n lo hi)) ∧ w = w' := by
  by_cases h1 : lo ≤ n <;> by_cases h2 : n ≤ hi
  all_goals
    go_enter Try.func29, Try.ntmps29
    go_wp2
    go_ret
    simp [inB, h1, h2]
/-- What makes a rider. -/
def riderB (h i a : Int) : Bool := inB h 1000 2300 && inB i 400 1100 && decide (i < h) && inB a 300 900
theorem ret_bool {a b : Bool} (h : a = b) : Ending.returned (.bool a) = .returned (.bool b) := by rw [h]

theorem isRider_impl (h i a : Int) (w : World) :
    Calls Try.prog 11 #[.agg #[.int .i64 h, .int .i64 i, .int .i64 a]] w fun e w' => e = .returned (.bool (riderB h i a)) ∧ Below w.heap.size w w' := by
  go_enter Try.func11, Try.ntmps11
  go_wp2_with (go_at_call 30; refine (within_any _ _ _ _).mono ?_; rintro e w' ⟨rfl, rfl⟩)
  all_goals
    go_ret
    refine ⟨ret_bool ?_, (Below.refl _ _).alloc (Nat.le_refl _) _⟩
    simp only [riderB, Bool.not_eq_true] at *
    first | (simp [*]; done) | (simp [*]; omega)
theorem isRider_spec (h i a : Int) (w : World) :
    Calls Try.prog 9 #[.agg #[.int .i64 h, .int .i64 i, .int .i64 a]] w fun e w' => e = .returned (.bool (riderB h i a)) ∧ Below w.heap.size w w' := by
  by_cases h1 : inB h 1000 2300 = true
  · obtain ⟨b1, b2⟩ := inB_true h1
    go_enter Try.func9, Try.ntmps9
    go_wp2_with (go_at_call 29; refine (l01In_any _ _ _ _).mono ?_; rintro e w' ⟨rfl, rfl⟩)
    all_goals
      go_ret
      refine ⟨ret_bool ?_, (Below.refl _ _).alloc (Nat.le_refl _) _⟩
      rw [Bool.eq_iff_iff]
      simp [riderB, inB] at *
      omega
  · go_enter Try.func9, Try.ntmps9
    go_wp2_with (go_at_call 29; refine (l01In_any _ _ _ _).mono ?_; rintro e w' ⟨rfl, rfl⟩)
    all_goals
      go_ret
      refine ⟨ret_bool ?_, (Below.refl _ _).alloc (Nat.le_refl _) _⟩
      simp [riderB, *]
theorem toRider_any (h i a : Int) (w : World) :
    Calls Try.prog 10 #[.agg #[.int .i64 h, .int .i64 i, .int .i64 a]] w fun e w' => e = .returned (.agg #[.int .i64 h, .int .i64 i, .int .i64 a]) ∧ Below w.heap.size w w' := by
  go_enter Try.func10, Try.ntmps10
  go_wp2
  refine bodyPost_ret (v := .agg #[.int .i64 h, .int .i64 i, .int .i64 a]) (by simp [results, Try.results10, go_sem]) rfl ⟨rfl, ?_⟩
  exact (((Below.refl _ _).alloc (Nat.le_refl _) _).alloc (by simp) _).alloc (by simp; omega) _

theorem law_isRider (h i a : Int) (w : World) :
    Calls Try.prog 3 #[.agg #[.int .i64 h, .int .i64 i, .int .i64 a]] w fun e w' => e = .returned (.bool true) ∧ Below w.heap.size w w' := by
  go_enter Try.func3, Try.ntmps3
  go_wp2_with fail
  refine (toRider_any _ _ _ _).mono ?_
  rintro e w1 ⟨rfl, hb1⟩
  go_wp2_with fail
  refine (isRider_spec _ _ _ _).mono ?_
  rintro e w2 ⟨rfl, hb2⟩
  have hb12 := hb1.trans (hb2.mono hb1.size)
  obtain ⟨hc, hf⟩ := bcell hb12
  go_wp2_with fail
  refine (toRider_any _ _ _ _).mono ?_
  rintro e w3 ⟨rfl, hb3⟩
  go_wp2_with fail
  refine (isRider_impl _ _ _ _).mono ?_
  rintro e w4 ⟨rfl, hb4⟩
  go_wp2_with fail
  go_ret
  refine ⟨rfl, ?_⟩
  have hb34 := hb12.trans ((hb3.trans (hb4.mono hb3.size)).mono hb12.size)
  exact ((Below.refl _ _).alloc (Nat.le_refl _) _).trans (hb34.mono (by simp))
theorem own : ownKnob Try.prog.godebug = none := by kernel_rfl
theorem laidOut : laidOutB Try.prog = true := by kernel_rfl
theorem cellsRider : Try.prog.cellsOf 23 = 3 := by kernel_rfl

set_option maxRecDepth 100000 in
theorem fnExactIsRider_lifted (os : Os) (started : os.Started) (H : Type) (enc : TypeId × Value → H) :
    ReturnsInHanded {} Try.checked os 3 .any (Rows.fnExactIsRiderSpec.pre6 enc Try.prog Try.f3 Rows.fnExactIsRiderRow.domain false) (Rows.fnExactIsRiderSpec.post enc Try.prog Try.f3 false true false false) := by
  refine returnsInHanded_of_change (C := Try.checked) own started (by kernel_rfl) Try.func3
    (ChangeSpec.witness6 (enc := enc) (C := Try.checked) false ⟨#[], #[.agg #[.int .i64 0, .int .i64 0, .int .i64 0]], []⟩ 8 (by kernel_rfl) (by kernel_rfl) (by kernel_rfl) (by kernel_rfl)) ?_
  intro W base args ds gs before hval0 hW hcnd _
  have hval : ∀ (j : Nat) t v, Try.f3.params[j]? = some t → args[j]? = some v → Value.okWide Try.prog W .any base t v := hval0
  have hW' := hW
  obtain ⟨p, q, hA0, hV, rfl, hfz, hnd⟩ := hW
  have hA : DataW.TrodAll enc Try.prog W 0 (fun _ => true) true Try.f3.params.toList args.toList ds p := hA0
  rw [Try.params3] at hA hval
  obtain ⟨v0, d0, rfl, rfl, h0⟩ := trodAll_one hA
  obtain ⟨c0, c1, c2, y0, y1, y2, m, rfl, hd0, hp0, hy0, hy1, hy2⟩ := open_agg3 Try.underlying23 (by kernel_rfl) cellsRider (hval 0 23 v0 rfl rfl) h0
  obtain ⟨a, e0, -, wa⟩ := DataW.trod_int Try.underlying2 hy0
  obtain ⟨b, e1, -, wb⟩ := DataW.trod_int Try.underlying2 hy1
  obtain ⟨c, e2, -, wc⟩ := DataW.trod_int Try.underlying2 hy2
  simp at e0 e1 e2
  subst e0 e1 e2
  refine (law_isRider a b c W).mono fun e W' ⟨he, hb⟩ => ?_
  subst he
  refine ⟨_, rfl, law_post (tb := 4) laidOut (by kernel_rfl) rfl rfl Try.underlying4 hW' rfl hb⟩
theorem fnExactIsRider_holds : Rows.FnExactIsRiderSaid :=
  OpenClaim.holds_of_wide 3 Try.f3 rfl rfl rfl rfl rfl rfl rfl ⟨rfl, rfl, rfl, rfl, rfl⟩ rfl rfl rfl rfl rfl (by kernel_rfl) Try.func3 (by kernel_rfl)
    (of_decide_eq_true (by kernel_rfl)) (by unfold Func.isWrapper; first | (rw [if_pos (by decide +kernel)]; kernel_rfl) | (rw [if_neg (by decide +kernel)]; exact ⟨rfl, rfl⟩))
    (fun os started H enc _ => fnExactIsRider_lifted os started H enc)
#print axioms fnExactIsRider_holds
end Go.Proofs.Ytmeanlilmbfmkaa
