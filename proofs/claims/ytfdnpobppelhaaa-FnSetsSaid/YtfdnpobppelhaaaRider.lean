/- DERIVED. Contracts of what makes a rider, the saddle height and the wanted reach, in the program and in the reference. -/
import Derived.Test.YtfdnpobppelhaaaNum
namespace Go.Proofs.Ytfdnpobppelhaaa
set_option maxRecDepth 100000
open Go.RowKit

/-- What makes a rider. -/
def riderB (h i a : Int) : Bool := inB h 1000 2300 && inB i 400 1100 && decide (i < h) && inB a 300 900
def riderV (h i a : Int) : Value := .agg #[.int .i64 h, .int .i64 i, .int .i64 a]
theorem riderB_true {h i a : Int} (r : riderB h i a = true) : 1000 ≤ h ∧ h ≤ 2300 ∧ 400 ≤ i ∧ i ≤ 1100 ∧ i < h ∧ 300 ≤ a ∧ a ≤ 900 := by
  simp [riderB, inB] at r
  omega

theorem isRider_impl (h i a : Int) (w : World) :
    Calls Try.prog 18 #[.agg #[.int .i64 h, .int .i64 i, .int .i64 a]] w fun e w' => e = .returned (.bool (riderB h i a)) ∧ Below w.heap.size w w' := by
  go_enter Try.func18, Try.ntmps18
  go_wp2_with (go_at_call 71; refine (within_any _ _ _ _).mono ?_; rintro e w' ⟨rfl, rfl⟩)
  all_goals
    go_ret
    refine ⟨ret_bool ?_, (Below.refl _ _).alloc (Nat.le_refl _) _⟩
    simp only [riderB, Bool.not_eq_true] at *
    first | (simp [*]; done) | (simp [*]; omega)

theorem isRider_spec (h i a : Int) (w : World) :
    Calls Try.prog 62 #[.agg #[.int .i64 h, .int .i64 i, .int .i64 a]] w fun e w' => e = .returned (.bool (riderB h i a)) ∧ Below w.heap.size w w' := by
  by_cases h1 : inB h 1000 2300 = true
  · obtain ⟨b1, b2⟩ := inB_true h1
    go_enter Try.func62, Try.ntmps62
    go_wp2_with (go_at_call 102; refine (l01In_any _ _ _ _).mono ?_; rintro e w' ⟨rfl, rfl⟩)
    all_goals
      go_ret
      refine ⟨ret_bool ?_, (Below.refl _ _).alloc (Nat.le_refl _) _⟩
      rw [Bool.eq_iff_iff]
      simp [riderB, inB] at *
      omega
  · go_enter Try.func62, Try.ntmps62
    go_wp2_with (go_at_call 102; refine (l01In_any _ _ _ _).mono ?_; rintro e w' ⟨rfl, rfl⟩)
    all_goals
      go_ret
      refine ⟨ret_bool ?_, (Below.refl _ _).alloc (Nat.le_refl _) _⟩
      simp [riderB, *]

theorem toRider_any (h i a : Int) (w : World) :
    Calls Try.prog 85 #[.agg #[.int .i64 h, .int .i64 i, .int .i64 a]] w fun e w' => e = .returned (.agg #[.int .i64 h, .int .i64 i, .int .i64 a]) ∧ Below w.heap.size w w' := by
  go_enter Try.func85, Try.ntmps85
  go_wp2
  refine bodyPost_ret (v := .agg #[.int .i64 h, .int .i64 i, .int .i64 a]) (by simp [results, Try.results85, go_sem]) rfl ⟨rfl, ?_⟩
  exact (((Below.refl _ _).alloc (Nat.le_refl _) _).alloc (by simp) _).alloc (by simp; omega) _

/-- The saddle height; the wanted reach. -/
def saddleN (i : Int) : Int := (2 * (i * 883) + 1000) / (2 * 1000)
def reachN (h i a : Int) : Int := (h - i + a) * 40 / 100 - 60

theorem saddle_impl (h i a : Int) (r : riderB h i a = true) (w : World) :
    Calls Try.prog 67 #[.agg #[.int .i64 h, .int .i64 i, .int .i64 a]] w fun e w' => e = .returned (.int .i64 (saddleN i)) ∧ Below w.heap.size w w' := by
  obtain ⟨r1, r2, r3, r4, r5, r6, r7⟩ := riderB_true r
  clear r
  go_enter Try.func67, Try.ntmps67
  go_wp2_with (go_at_call 104; refine (nearest_any _ _ (by omega) (by omega) (by omega) (by omega) _).mono ?_; rintro e w' ⟨rfl, rfl⟩)
  go_ret
  exact ⟨rfl, (Below.refl _ _).alloc (Nat.le_refl _) _⟩

theorem saddle_spec (h i a : Int) (r : riderB h i a = true) (w : World) :
    Calls Try.prog 68 #[.agg #[.int .i64 h, .int .i64 i, .int .i64 a]] w fun e w' => e = .returned (.int .i64 (saddleN i)) ∧ Below w.heap.size w w' := by
  obtain ⟨r1, r2, r3, r4, r5, r6, r7⟩ := riderB_true r
  clear r
  go_enter Try.func68, Try.ntmps68
  go_wp2_with (go_at_call 105; refine (l01Nearest_any _ _ (by omega) (by omega) (by omega) (by omega) _).mono ?_; rintro e w' ⟨rfl, rfl⟩)
  go_ret
  exact ⟨rfl, (Below.refl _ _).alloc (Nat.le_refl _) _⟩

theorem reach_impl (h i a : Int) (r : riderB h i a = true) (w : World) :
    Calls Try.prog 69 #[.agg #[.int .i64 h, .int .i64 i, .int .i64 a]] w fun e w' => e = .returned (.int .i64 (reachN h i a)) ∧ Below w.heap.size w w' := by
  obtain ⟨r1, r2, r3, r4, r5, r6, r7⟩ := riderB_true r
  clear r
  go_enter Try.func69, Try.ntmps69
  go_wp2
  go_ret
  exact ⟨rfl, (Below.refl _ _).alloc (Nat.le_refl _) _⟩

theorem reach_spec (h i a : Int) (r : riderB h i a = true) (w : World) :
    Calls Try.prog 70 #[.agg #[.int .i64 h, .int .i64 i, .int .i64 a]] w fun e w' => e = .returned (.int .i64 (reachN h i a)) ∧ Below w.heap.size w w' := by
  obtain ⟨r1, r2, r3, r4, r5, r6, r7⟩ := riderB_true r
  clear r
  go_enter Try.func70, Try.ntmps70
  go_wp2_with (go_at_call 106; refine (l01Floor_any _ _ (by omega) (by omega) (by omega) (by omega) _).mono ?_; rintro e w' ⟨rfl, rfl⟩)
  go_ret
  exact ⟨rfl, (Below.refl _ _).alloc (Nat.le_refl _) _⟩

end Go.Proofs.Ytfdnpobppelhaaa
