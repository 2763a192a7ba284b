/- DERIVED. Contracts of the small functions on numbers: within a range, rounding down, the nearest integer. -/
import Derived.Test.YtfdnpobppelhaaaBase
namespace Go.Proofs.Ytfdnpobppelhaaa
set_option maxRecDepth 100000
open Go.RowKit

theorem within_any (n lo hi : Int) (w : World) :
    Calls Try.prog 71 #[.int .i64 n, .int .i64 lo, .int .i64 hi] w fun e w' => e = .returned (.bool (inB n lo hi)) ∧ w = w' := by
  by_cases h1 : lo ≤ n <;> by_cases h2 : n ≤ hi
  all_goals
    go_enter Try.func71, Try.ntmps71
    go_wp2
    go_ret
    simp [inB, h1, h2]

theorem l01In_any (n lo hi : Int) (w : World) :
    Calls Try.prog 102 #[.int .i64 n, .int .i64 lo, .int .i64 hi] w fun e w' => e = .returned (.bool (inB n lo hi)) ∧ w = w' := by
  by_cases h1 : lo ≤ n <;> by_cases h2 : n ≤ hi
  all_goals
    go_enter Try.func102, Try.ntmps102
    go_wp2
    go_ret
    simp [inB, h1, h2]

theorem tdiv_neg_floor (a b : Int) (hb : 0 < b) (h : a.tmod b < 0) : a.tdiv b - 1 = a / b := by
  have h1 := Int.tmod_add_mul_tdiv a b
  have h2 := Int.emod_add_mul_ediv a b
  have h3 := Int.emod_nonneg a (show b ≠ 0 by omega)
  have h4 := Int.emod_lt_of_pos a hb
  have h5 := Int.lt_tmod_of_pos a hb
  have e : b * (a.tdiv b - a / b - 1) = a % b - a.tmod b - b := by rw [Int.mul_sub, Int.mul_sub]; omega
  have : a.tdiv b - a / b - 1 = 0 := by
    rcases Int.lt_trichotomy (a.tdiv b - a / b - 1) 0 with h | h | h
    · have := Int.mul_le_mul_of_nonneg_left (show a.tdiv b - a / b - 1 ≤ -1 by omega) (show 0 ≤ b by omega)
      omega
    · exact h
    · have := Int.mul_le_mul_of_nonneg_left (show 1 ≤ a.tdiv b - a / b - 1 by omega) (show 0 ≤ b by omega)
      omega
  omega
theorem tdiv_pos_floor (a b : Int) (hb : 0 < b) (h : ¬ a.tmod b < 0) : a.tdiv b = a / b := by
  have h1 := Int.tmod_add_mul_tdiv a b
  have h2 := Int.emod_add_mul_ediv a b
  have h3 := Int.emod_nonneg a (show b ≠ 0 by omega)
  have h4 := Int.emod_lt_of_pos a hb
  have h5 := Int.tmod_lt_of_pos a hb
  have e : b * (a.tdiv b - a / b) = a % b - a.tmod b := by rw [Int.mul_sub]; omega
  have : a.tdiv b - a / b = 0 := by
    rcases Int.lt_trichotomy (a.tdiv b - a / b) 0 with h | h | h
    · have := Int.mul_le_mul_of_nonneg_left (show a.tdiv b - a / b ≤ -1 by omega) (show 0 ≤ b by omega)
      omega
    · exact h
    · have := Int.mul_le_mul_of_nonneg_left (show 1 ≤ a.tdiv b - a / b by omega) (show 0 ≤ b by omega)
      omega
  omega
theorem tdiv_small (a b : Int) (h1 : -4611686018427387904 ≤ a) (h2 : a ≤ 4611686018427387904) : -4611686018427387904 ≤ a.tdiv b ∧ a.tdiv b ≤ 4611686018427387904 := by
  have h := Int.natAbs_tdiv_le_natAbs a b
  omega

theorem floorDiv_any (a b : Int) (hb : 0 < b) (hb2 : b ≤ 4611686018427387904) (h1 : -4611686018427387904 ≤ a) (h2 : a ≤ 4611686018427387904) (w : World) :
    Calls Try.prog 114 #[.int .i64 a, .int .i64 b] w fun e w' => e = .returned (.int .i64 (a / b)) ∧ w = w' := by
  have ht := tdiv_small a b h1 h2
  obtain ⟨t1, t2⟩ := ht
  go_enter Try.func114, Try.ntmps114
  go_wp2
  · go_ret
    have h : a.tmod b < 0 := by assumption
    exact ⟨ret_int (tdiv_neg_floor a b hb h), rfl⟩
  · go_ret
    have h : 0 ≤ a.tmod b := by assumption
    exact ⟨ret_int (tdiv_pos_floor a b hb (by omega)), rfl⟩

theorem l01Floor_any (a b : Int) (hb : 0 < b) (hb2 : b ≤ 4611686018427387904) (h1 : -4611686018427387904 ≤ a) (h2 : a ≤ 4611686018427387904) (w : World) :
    Calls Try.prog 106 #[.int .i64 a, .int .i64 b] w fun e w' => e = .returned (.int .i64 (a / b)) ∧ w = w' := by
  have ht := tdiv_small a b h1 h2
  obtain ⟨t1, t2⟩ := ht
  go_enter Try.func106, Try.ntmps106
  go_wp2
  · go_ret
    have h : a.tmod b < 0 := by assumption
    exact ⟨ret_int (tdiv_neg_floor a b hb h), rfl⟩
  · go_ret
    have h : 0 ≤ a.tmod b := by assumption
    exact ⟨ret_int (tdiv_pos_floor a b hb (by omega)), rfl⟩

theorem nearest_any (a b : Int) (hb : 0 < b) (hb2 : b ≤ 1152921504606846976) (h1 : -1152921504606846976 ≤ a) (h2 : a ≤ 1152921504606846976) (w : World) :
    Calls Try.prog 104 #[.int .i64 a, .int .i64 b] w fun e w' => e = .returned (.int .i64 ((2 * a + b) / (2 * b))) ∧ w = w' := by
  go_enter Try.func104, Try.ntmps104
  go_wp2_with (go_at_call 114; refine (floorDiv_any _ _ (by omega) (by omega) (by omega) (by omega) _).mono ?_; rintro e w' ⟨rfl, rfl⟩)
  go_ret
  exact ⟨rfl, rfl⟩

theorem l01Nearest_any (a b : Int) (hb : 0 < b) (hb2 : b ≤ 1152921504606846976) (h1 : -1152921504606846976 ≤ a) (h2 : a ≤ 1152921504606846976) (w : World) :
    Calls Try.prog 105 #[.int .i64 a, .int .i64 b] w fun e w' => e = .returned (.int .i64 ((2 * a + b) / (2 * b))) ∧ w = w' := by
  go_enter Try.func105, Try.ntmps105
  go_wp2_with (go_at_call 106; refine (l01Floor_any _ _ (by omega) (by omega) (by omega) (by omega) _).mono ?_; rintro e w' ⟨rfl, rfl⟩)
  go_ret
  exact ⟨rfl, rfl⟩

def absI (n : Int) : Int := if n < 0 then -n else n
theorem abs_any (n : Int) (h1 : -4611686018427387904 ≤ n) (h2 : n ≤ 4611686018427387904) (w : World) :
    Calls Try.prog 96 #[.int .i64 n] w fun e w' => e = .returned (.int .i64 (absI n)) ∧ w = w' := by
  by_cases h : n < 0
  · go_enter Try.func96, Try.ntmps96
    go_wp2_with fail
    go_ret
    exact ⟨ret_int (by rw [absI, if_pos h]), rfl⟩
  · go_enter Try.func96, Try.ntmps96
    go_wp2_with fail
    go_ret
    exact ⟨ret_int (by rw [absI, if_neg (by omega)]), rfl⟩

theorem l01Abs_any (n : Int) (h1 : -4611686018427387904 ≤ n) (h2 : n ≤ 4611686018427387904) (w : World) :
    Calls Try.prog 98 #[.int .i64 n] w fun e w' => e = .returned (.int .i64 (absI n)) ∧ w = w' := by
  by_cases h : n < 0
  · go_enter Try.func98, Try.ntmps98
    go_wp2_with fail
    all_goals first | (exfalso; omega) | (go_ret; exact ⟨ret_int (by rw [absI, if_pos h]), rfl⟩)
  · go_enter Try.func98, Try.ntmps98
    go_wp2_with fail
    all_goals first | (exfalso; omega) | (go_ret; exact ⟨ret_int (by rw [absI, if_neg (by omega)]; try omega), rfl⟩)

end Go.Proofs.Ytfdnpobppelhaaa
