/- DERIVED. The saddle height and the wanted reach with their codes; the laws on them. -/
import Derived.Test.YtfdnpobppelhaaaRider
import Derived.Test.YtfdnpobppelhaaaHead
import Derived.Lib.SmallJoins
namespace Go.Proofs.Ytfdnpobppelhaaa
set_option maxRecDepth 100000
open Go.RowKit Go.ChangeShapes Go.WideShapes Go.ChangeAt Go.Joins

def saddleR (h i a : Int) : Int × Int := if riderB h i a = true then (saddleN i, 0) else (0, 1)
def wantedR (h i a : Int) : Int × Int := if riderB h i a = true then (reachN h i a, 0) else (0, 1)

theorem SaddleHeight_impl (h i a : Int) (w : World) :
    Calls Try.prog 14 #[.agg #[.int .i64 h, .int .i64 i, .int .i64 a]] w fun e w' => e = .returned (.tuple #[.int .i64 (saddleR h i a).1, .int .i64 (saddleR h i a).2]) ∧ Below w.heap.size w w' := by
  by_cases r : riderB h i a = true
  · unfold saddleR
    rw [if_pos r]
    go_enter Try.func14, Try.ntmps14
    go_wp2_with fail
    refine (isRider_impl _ _ _ _).mono ?_
    rintro e w1 ⟨rfl, hb1⟩
    obtain ⟨hc, hf⟩ := bcell hb1
    go_wp2_with fail
    refine (saddle_impl _ _ _ r _).mono ?_
    rintro e w2 ⟨rfl, hb2⟩
    go_wp2_with fail
    go_ret2
    exact ⟨rfl, bthen (bthen (balloc _ _) hb1) hb2⟩
  · unfold saddleR
    rw [if_neg r]
    go_enter Try.func14, Try.ntmps14
    go_wp2_with fail
    refine (isRider_impl _ _ _ _).mono ?_
    rintro e w1 ⟨rfl, hb1⟩
    go_wp2_with fail
    go_ret2
    exact ⟨rfl, bthen (balloc _ _) hb1⟩

theorem SaddleHeight_spec (h i a : Int) (w : World) :
    Calls Try.prog 15 #[.agg #[.int .i64 h, .int .i64 i, .int .i64 a]] w fun e w' => e = .returned (.tuple #[.int .i64 (saddleR h i a).1, .int .i64 (saddleR h i a).2]) ∧ Below w.heap.size w w' := by
  by_cases r : riderB h i a = true
  · unfold saddleR
    rw [if_pos r]
    go_enter Try.func15, Try.ntmps15
    go_wp2_with fail
    refine (isRider_spec _ _ _ _).mono ?_
    rintro e w1 ⟨rfl, hb1⟩
    obtain ⟨hc, hf⟩ := bcell hb1
    go_wp2_with fail
    refine (saddle_spec _ _ _ r _).mono ?_
    rintro e w2 ⟨rfl, hb2⟩
    go_wp2_with fail
    go_ret2
    exact ⟨rfl, bthen (bthen (balloc _ _) hb1) hb2⟩
  · unfold saddleR
    rw [if_neg r]
    go_enter Try.func15, Try.ntmps15
    go_wp2_with fail
    refine (isRider_spec _ _ _ _).mono ?_
    rintro e w1 ⟨rfl, hb1⟩
    go_wp2_with fail
    go_ret2
    exact ⟨rfl, bthen (balloc _ _) hb1⟩

theorem WantedReach_impl (h i a : Int) (w : World) :
    Calls Try.prog 16 #[.agg #[.int .i64 h, .int .i64 i, .int .i64 a]] w fun e w' => e = .returned (.tuple #[.int .i64 (wantedR h i a).1, .int .i64 (wantedR h i a).2]) ∧ Below w.heap.size w w' := by
  by_cases r : riderB h i a = true
  · unfold wantedR
    rw [if_pos r]
    go_enter Try.func16, Try.ntmps16
    go_wp2_with fail
    refine (isRider_impl _ _ _ _).mono ?_
    rintro e w1 ⟨rfl, hb1⟩
    obtain ⟨hc, hf⟩ := bcell hb1
    go_wp2_with fail
    refine (reach_impl _ _ _ r _).mono ?_
    rintro e w2 ⟨rfl, hb2⟩
    go_wp2_with fail
    go_ret2
    exact ⟨rfl, bthen (bthen (balloc _ _) hb1) hb2⟩
  · unfold wantedR
    rw [if_neg r]
    go_enter Try.func16, Try.ntmps16
    go_wp2_with fail
    refine (isRider_impl _ _ _ _).mono ?_
    rintro e w1 ⟨rfl, hb1⟩
    go_wp2_with fail
    go_ret2
    exact ⟨rfl, bthen (balloc _ _) hb1⟩

theorem WantedReach_spec (h i a : Int) (w : World) :
    Calls Try.prog 17 #[.agg #[.int .i64 h, .int .i64 i, .int .i64 a]] w fun e w' => e = .returned (.tuple #[.int .i64 (wantedR h i a).1, .int .i64 (wantedR h i a).2]) ∧ Below w.heap.size w w' := by
  by_cases r : riderB h i a = true
  · unfold wantedR
    rw [if_pos r]
    go_enter Try.func17, Try.ntmps17
    go_wp2_with fail
    refine (isRider_spec _ _ _ _).mono ?_
    rintro e w1 ⟨rfl, hb1⟩
    obtain ⟨hc, hf⟩ := bcell hb1
    go_wp2_with fail
    refine (reach_spec _ _ _ r _).mono ?_
    rintro e w2 ⟨rfl, hb2⟩
    go_wp2_with fail
    go_ret2
    exact ⟨rfl, bthen (bthen (balloc _ _) hb1) hb2⟩
  · unfold wantedR
    rw [if_neg r]
    go_enter Try.func17, Try.ntmps17
    go_wp2_with fail
    refine (isRider_spec _ _ _ _).mono ?_
    rintro e w1 ⟨rfl, hb1⟩
    go_wp2_with fail
    go_ret2
    exact ⟨rfl, bthen (balloc _ _) hb1⟩

end Go.Proofs.Ytfdnpobppelhaaa
