/- DERIVED. Contracts of what makes a rider, the saddle height and the wanted reach, in the program and in the reference. -/
import Derived.Test.YtenejfhbcpkfdaaNum
namespace Go.Proofs.Ytenejfhbcpkfdaa
set_option maxRecDepth 100000
open Go.RowKit

/-- What makes a rider. -/
def riderB (h i a : Int) : Bool := inB h 1000 2300 && inB i 400 1100 && decide (i < h) && inB a 300 900
def riderV (h i a : Int) : Value := .agg #[.int .i64 h, .int .i64 i, .int .i64 a]
theorem riderB_true {h i a : Int} (r : riderB h i a = true) : 1000 ≤ h ∧ h ≤ 2300 ∧ 400 ≤ i ∧ i ≤ 1100 ∧ i < h ∧ 300 ≤ a ∧ a ≤ 900 := by
  simp [riderB, inB] at r
  omega

theorem isRider_impl (h i a : Int) (w : World) :
    Calls Try.prog 66 #[.agg #[.int .i64 h, .int .i64 i, .int .i64 a]] w fun e w' => e = .returned (.bool (riderB h i a)) ∧ Below w.heap.size w w' := by
  go_enter Try.func66, Try.ntmps66
  go_wp2_with (go_at_call 83; refine (within_any _ _ _ _).mono ?_; rintro e w' ⟨rfl, rfl⟩)
  all_goals
    go_ret
    refine ⟨ret_bool ?_, (Below.refl _ _).alloc (Nat.le_refl _) _⟩
    simp only [riderB, Bool.not_eq_true] at *
    first | (simp [*]; done) | (simp [*]; omega)

theorem isRider_spec (h i a : Int) (w : World) :
    Calls Try.prog 84 #[.agg #[.int .i64 h, .int .i64 i, .int .i64 a]] w fun e w' => e = .returned (.bool (riderB h i a)) ∧ Below w.heap.size w w' := by
  by_cases h1 : inB h 1000 2300 = true
  · obtain ⟨b1, b2⟩ := inB_true h1
    go_enter Try.func84, Try.ntmps84
    go_wp2_with (go_at_call 82; refine (l01In_any _ _ _ _).mono ?_; rintro e w' ⟨rfl, rfl⟩)
    all_goals
      go_ret
      refine ⟨ret_bool ?_, (Below.refl _ _).alloc (Nat.le_refl _) _⟩
      rw [Bool.eq_iff_iff]
      simp [riderB, inB] at *
      omega
  · go_enter Try.func84, Try.ntmps84
    go_wp2_with (go_at_call 82; refine (l01In_any _ _ _ _).mono ?_; rintro e w' ⟨rfl, rfl⟩)
    all_goals
      go_ret
      refine ⟨ret_bool ?_, (Below.refl _ _).alloc (Nat.le_refl _) _⟩
      simp [riderB, *]

theorem toRider_any (h i a : Int) (w : World) :
    Calls Try.prog 28 #[.agg #[.int .i64 h, .int .i64 i, .int .i64 a]] w fun e w' => e = .returned (.agg #[.int .i64 h, .int .i64 i, .int .i64 a]) ∧ Below w.heap.size w w' := by
  go_enter Try.func28, Try.ntmps28
  go_wp2
  refine bodyPost_ret (v := .agg #[.int .i64 h, .int .i64 i, .int .i64 a]) (by simp [results, Try.results28, go_sem]) rfl ⟨rfl, ?_⟩
  exact (((Below.refl _ _).alloc (Nat.le_refl _) _).alloc (by simp) _).alloc (by simp; omega) _

/-- The saddle height; the wanted reach. -/
def saddleN (i : Int) : Int := (2 * (i * 883) + 1000) / (2 * 1000)
def reachN (h i a : Int) : Int := (h - i + a) * 40 / 100 - 60

theorem saddle_impl (h i a : Int) (r : riderB h i a = true) (w : World) :
    Calls Try.prog 97 #[.agg #[.int .i64 h, .int .i64 i, .int .i64 a]] w fun e w' => e = .returned (.int .i64 (saddleN i)) ∧ Below w.heap.size w w' := by
  obtain ⟨r1, r2, r3, r4, r5, r6, r7⟩ := riderB_true r
  clear r
  go_enter Try.func97, Try.ntmps97
  go_wp2_with (go_at_call 114; refine (nearest_any _ _ (by omega) (by omega) (by omega) (by omega) _).mono ?_; rintro e w' ⟨rfl, rfl⟩)
  go_ret
  exact ⟨rfl, (Below.refl _ _).alloc (Nat.le_refl _) _⟩

theorem saddle_spec (h i a : Int) (r : riderB h i a = true) (w : World) :
    Calls Try.prog 95 #[.agg #[.int .i64 h, .int .i64 i, .int .i64 a]] w fun e w' => e = .returned (.int .i64 (saddleN i)) ∧ Below w.heap.size w w' := by
  obtain ⟨r1, r2, r3, r4, r5, r6, r7⟩ := riderB_true r
  clear r
  go_enter Try.func95, Try.ntmps95
  go_wp2_with (go_at_call 113; refine (l01Nearest_any _ _ (by omega) (by omega) (by omega) (by omega) _).mono ?_; rintro e w' ⟨rfl, rfl⟩)
  go_ret
  exact ⟨rfl, (Below.refl _ _).alloc (Nat.le_refl _) _⟩

theorem reach_impl (h i a : Int) (r : riderB h i a = true) (w : World) :
    Calls Try.prog 105 #[.agg #[.int .i64 h, .int .i64 i, .int .i64 a]] w fun e w' => e = .returned (.int .i64 (reachN h i a)) ∧ Below w.heap.size w w' := by
  obtain ⟨r1, r2, r3, r4, r5, r6, r7⟩ := riderB_true r
  clear r
  go_enter Try.func105, Try.ntmps105
  go_wp2
  go_ret
  exact ⟨rfl, (Below.refl _ _).alloc (Nat.le_refl _) _⟩

theorem reach_spec (h i a : Int) (r : riderB h i a = true) (w : World) :
    Calls Try.prog 106 #[.agg #[.int .i64 h, .int .i64 i, .int .i64 a]] w fun e w' => e = .returned (.int .i64 (reachN h i a)) ∧ Below w.heap.size w w' := by
  obtain ⟨r1, r2, r3, r4, r5, r6, r7⟩ := riderB_true r
  clear r
  go_enter Try.func106, Try.ntmps106
  go_wp2_with (go_at_call 120; refine (l01Floor_any _ _ (by omega) (by omega) (by omega) (by omega) _).mono ?_; rintro e w' ⟨rfl, rfl⟩)
  go_ret
  exact ⟨rfl, (Below.refl _ _).alloc (Nat.le_refl _) _⟩

end Go.Proofs.Ytenejfhbcpkfdaa
