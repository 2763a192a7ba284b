/- DERIVED. Races, chords, the most balls and the largest one, in the program and in the reference. By program (gball.py). -/
import Derived.Test.YtmhaloigcpanpaaCos
namespace Go.Proofs.Ytmhaloigcpanpaa
set_option maxRecDepth 100000
open Go.RowKit

def raceB (d b : Int) : Bool := inB d 50 2000 && inB b 10 200 && decide (b < d)
theorem raceB_true {d b : Int} (h : raceB d b = true) : 50 ≤ d ∧ d ≤ 2000 ∧ 10 ≤ b ∧ b ≤ 200 ∧ b < d := by
  simp [raceB, inB] at h
  omega

theorem isRace_impl (d b : Int) (w : World) :
    Calls Try.prog 68 #[.agg #[.int .i64 d, .int .i64 b]] w fun e w' => e = .returned (.bool (raceB d b)) ∧ Below w.heap.size w w' := by
  go_enter Try.func68, Try.ntmps68
  go_wp2_with (go_at_call 82; refine (within_any _ _ _ _).mono ?_; rintro e w' ⟨rfl, rfl⟩)
  all_goals
    go_ret
    refine ⟨ret_bool ?_, (Below.refl _ _).alloc (Nat.le_refl _) _⟩
    simp only [raceB, Bool.not_eq_true] at *
    first | (simp [*]; done) | (simp [*]; omega)

theorem isRace_spec (d b : Int) (w : World) :
    Calls Try.prog 138 #[.agg #[.int .i64 d, .int .i64 b]] w fun e w' => e = .returned (.bool (raceB d b)) ∧ Below w.heap.size w w' := by
  go_enter Try.func138, Try.ntmps138
  go_wp2_with (go_at_call 79; refine (l01In_any _ _ _ _).mono ?_; rintro e w' ⟨rfl, rfl⟩)
  all_goals
    go_ret
    refine ⟨ret_bool ?_, (Below.refl _ _).alloc (Nat.le_refl _) _⟩
    simp only [raceB, Bool.not_eq_true] at *
    first | (simp [*]; done) | (simp [*]; omega)

theorem toRace_any (d b : Int) (w : World) :
    Calls Try.prog 61 #[.agg #[.int .i64 d, .int .i64 b]] w fun e w' => e = .returned (.agg #[.int .i64 d, .int .i64 b]) ∧ Below w.heap.size w w' := by
  go_enter Try.func61, Try.ntmps61
  go_wp2
  refine bodyPost_ret (v := .agg #[.int .i64 d, .int .i64 b]) (by simp [results, Try.results61, go_sem]) rfl ⟨rfl, ?_⟩
  exact (((Below.refl _ _).alloc (Nat.le_refl _) _).alloc (by simp) _).alloc (by simp; omega) _

theorem isBalls_any (n : Int) (w : World) : Calls Try.prog 116 #[.int .i64 n] w fun e w' => e = .returned (.bool (inB n 3 40)) ∧ w = w' := by
  go_enter Try.func116, Try.ntmps116
  go_wp2_with (go_at_call 82; refine (within_any _ _ _ _).mono ?_; rintro e w' ⟨rfl, rfl⟩)
  go_ret
  exact ⟨rfl, rfl⟩
theorem ret2_int {a b c d : Int} (h1 : a = c) (h2 : b = d) : Ending.returned (.tuple #[.int .i64 a, .int .i64 b]) = Ending.returned (.tuple #[.int .i64 c, .int .i64 d]) := by rw [h1, h2]
def raceI (d b n : Int) : Int := if raceB d b = true then (if inB n 3 40 = true then 0 else 2) else 1
theorem race_cases (d b n : Int) : (raceB d b = false ∧ raceI d b n = 1) ∨ (raceB d b = true ∧ inB n 3 40 = false ∧ raceI d b n = 2) ∨ (raceB d b = true ∧ inB n 3 40 = true ∧ raceI d b n = 0) := by
  unfold raceI
  by_cases h1 : raceB d b = true
  · by_cases h2 : inB n 3 40 = true
    · exact Or.inr (Or.inr ⟨h1, h2, by rw [if_pos h1, if_pos h2]⟩)
    · exact Or.inr (Or.inl ⟨h1, by simpa using h2, by rw [if_pos h1, if_neg h2]⟩)
  · exact Or.inl ⟨by simpa using h1, by rw [if_neg h1]⟩
theorem l15Code_any (d b n : Int) (w : World) :
    Calls Try.prog 114 #[.agg #[.int .i64 d, .int .i64 b], .int .i64 n] w fun e w' => e = .returned (.int .i64 (raceI d b n)) ∧ Below w.heap.size w w' := by
  have HJ : Hid (∀ v : World, Calls Try.prog 138 #[.agg #[.int .i64 d, .int .i64 b]] v fun e w' => e = .returned (.bool (raceB d b)) ∧ Below v.heap.size v w') := fun v => isRace_spec d b v
  have hI := l01In_any n 3 40
  rcases race_cases d b n with ⟨h1, e⟩ | ⟨h1, h2, e⟩ | ⟨h1, h2, e⟩
  all_goals
    rw [h1] at HJ
    rw [e]
    try rw [h2] at hI
    have HI := Lib.hid hI; clear hI
    clear e h1
    try clear h2
    go_enter Try.func114, Try.ntmps114
    go_wp2_with fail
    refine (HJ.out _).mono ?_
    rintro e w1 ⟨rfl, hb1⟩
    go_wp2_with (go_at_call 79; refine (HI.out _).mono ?_; rintro e w' ⟨rfl, rfl⟩)
    go_ret
    exact ⟨rfl, bthen (balloc _ _) hb1⟩
def ballN (d n : Int) : Int := min (min (chordN d n) 200) (d - 1)
def ballR (d b n : Int) : Int × Int := if raceI d b n = 0 then (if ballN d n < 10 then (0, 4) else (ballN d n, 0)) else (0, raceI d b n)
theorem chordN_bd {d n : Int} (d0 : 0 ≤ d) (d1 : d ≤ 2000) (h0 : 3 ≤ n) (h1 : n ≤ 40) : 0 ≤ chordN d n ∧ chordN d n ≤ 20000000 := by
  obtain ⟨t0, t1⟩ := turn_bd h0 h1
  have hsb := sqN_bd (s := (720 : Int).tdiv n) d0 d1 (by omega) (by omega)
  have hnb := nearRoot_bd hsb.1
  unfold chordN
  omega

set_option maxHeartbeats 2000000 in
theorem LargestBall_impl (d b n : Int) (w : World) :
    Calls Try.prog 62 #[.agg #[.int .i64 d, .int .i64 b], .int .i64 n] w fun e w' => e = .returned (.tuple #[.int .i64 (ballR d b n).1, .int .i64 (ballR d b n).2]) ∧ Below w.heap.size w w' := by
  have HJ : Hid (∀ v : World, Calls Try.prog 68 #[.agg #[.int .i64 d, .int .i64 b]] v fun e w' => e = .returned (.bool (raceB d b)) ∧ Below v.heap.size v w') := fun v => isRace_impl d b v
  have hI := isBalls_any n
  rcases race_cases d b n with ⟨h1, e⟩ | ⟨h1, h2, e⟩ | ⟨h1, h2, e⟩
  · have hR : ballR d b n = if raceI d b n = 0 then (if ballN d n < 10 then (0, 4) else (ballN d n, 0)) else (0, raceI d b n) := rfl
    rw [e] at hR
    rw [h1] at HJ
    clear hI
    rw [if_neg (by omega)] at hR
    have HR := Lib.hid hR; clear hR e h1
    generalize ballR d b n = R at HR ⊢
    go_enter Try.func62, Try.ntmps62
    go_wp2_with fail
    refine (HJ.out _).mono ?_
    rintro e w1 ⟨rfl, hb1⟩
    go_wp2_with fail
    go_ret2
    exact ⟨by rw [HR.out]; rfl, bthen (balloc _ _) hb1⟩
  · have hR : ballR d b n = if raceI d b n = 0 then (if ballN d n < 10 then (0, 4) else (ballN d n, 0)) else (0, raceI d b n) := rfl
    rw [e] at hR
    rw [h1] at HJ
    rw [h2] at hI
    have HI := Lib.hid hI; clear hI
    rw [if_neg (by omega)] at hR
    have HR := Lib.hid hR; clear hR e h1
    generalize ballR d b n = R at HR ⊢
    go_enter Try.func62, Try.ntmps62
    go_wp2_with fail
    refine (HJ.out _).mono ?_
    rintro e w1 ⟨rfl, hb1⟩
    go_wp2_with (go_at_call 116; refine (HI.out _).mono ?_; rintro e w' ⟨rfl, rfl⟩)
    go_ret2
    exact ⟨by rw [HR.out]; rfl, bthen (balloc _ _) hb1⟩
  · have hR : ballR d b n = if raceI d b n = 0 then (if ballN d n < 10 then (0, 4) else (ballN d n, 0)) else (0, raceI d b n) := rfl
    rw [e] at hR
    rw [h1] at HJ
    rw [h2] at hI
    have HI := Lib.hid hI; clear hI
    rw [if_pos rfl] at hR
    obtain ⟨d0, d1, b0, b1, bd⟩ := raceB_true h1
    obtain ⟨n0, n1⟩ := inB_true h2
    have hcb := chordN_bd (d := d) (n := n) (by omega) (by omega) n0 n1
    have HC : Hid (∀ v : World, Calls Try.prog 117 #[.agg #[.int .i64 d, .int .i64 b], .int .i64 n] v fun e w' => e = .returned (.int .i64 (chordN d n)) ∧ Below v.heap.size v w') := fun v => chord_any d b n (by omega) (by omega) n0 n1 v
    have hB : ballN d n = min (min (chordN d n) 200) (d - 1) := rfl
    have HR := Lib.hid hR; clear hR e h1 h2
    generalize ballR d b n = R at HR ⊢
    generalize chordN d n = cv at *
    generalize ballN d n = bv at *
    have q0 : (w.alloc (.cells #[.int .i64 d, .int .i64 b] 84)).cell? ⟨w.heap.size, 0, none⟩ = some (.int .i64 d) := by go_simp
    have q1 : (w.alloc (.cells #[.int .i64 d, .int .i64 b] 84)).cell? ⟨w.heap.size, 1, none⟩ = some (.int .i64 b) := by go_simp
    have ql : w.heap.size < (w.alloc (.cells #[.int .i64 d, .int .i64 b] 84)).heap.size := by simp
    have hbA : Below w.heap.size w (w.alloc (.cells #[.int .i64 d, .int .i64 b] 84)) := balloc _ _
    go_enter Try.func62, Try.ntmps62
    go_wp2_with fail
    generalize w.alloc (.cells #[.int .i64 d, .int .i64 b] 84) = V at q0 q1 ql hbA ⊢
    generalize hr : w.heap.size = r at q0 q1 ql hbA ⊢
    refine (HJ.out V).mono ?_
    rintro e w1 ⟨rfl, hb1⟩
    have p0 := (hb1.cell (p := ⟨r, 0, none⟩) ql).trans q0
    have p1 := (hb1.cell (p := ⟨r, 1, none⟩) ql).trans q1
    have pl : r < w1.heap.size := by have := hb1.size; omega
    have hbB : Below r w w1 := hbA.trans (hb1.mono (by omega))
    clear q0 q1 hb1 hbA
    go_wp2_with (go_at_call 116; refine (HI.out _).mono ?_; rintro e w' ⟨rfl, rfl⟩)
    have hw : IntKind.i64.wrap (d - 1) = d - 1 := IntWalk.i64_in _ (by omega)
    go_region_law (first
      | (go_simp; go_at_call 117; refine (HC.out w1.drew).mono ?_; rintro e w3 ⟨rfl, hb3⟩; have z0 := (hb3.cell (p := ⟨r, 0, none⟩) pl).trans (show w1.drew.cell? ⟨r, 0, none⟩ = _ from p0); have z1 := (hb3.cell (p := ⟨r, 1, none⟩) pl).trans (show w1.drew.cell? ⟨r, 1, none⟩ = _ from p1); have HB3 := Lib.hid (hbB.trans ((bthen (bdrew w1) hb3).mono (by omega))); clear hb3; go_wp2_with fail))
    all_goals
      have hpath : (bv = cv ∧ cv ≤ 200 ∧ cv ≤ d - 1) ∨ (bv = 200 ∧ 200 < cv ∧ 200 ≤ d - 1) ∨ (bv = d - 1 ∧ d - 1 < cv ∧ d - 1 < 200) := by omega
      clear hB
      rcases hpath with ⟨e, e1, e2⟩ | ⟨e, e1, e2⟩ | ⟨e, e1, e2⟩
      all_goals
        by_cases hx : bv < 10
        · have HR2 : Hid (R = (0, 4)) := by unfold Hid; rw [HR.out, if_pos hx]
          subst e
          go_wp2_with fail
          all_goals first
            | (exfalso; omega)
            | (go_ret2; exact ⟨by rw [HR2.out]; rfl, HB3.out⟩)
            | (go_ret2; exact ⟨by rw [HR2.out]; exact ret2_int (by show _ = bv; omega) rfl, HB3.out⟩)
            | (go_ret2; exact ⟨by rw [HR2.out]; exact ret2_int (by show _ = d - 1; omega) rfl, HB3.out⟩)
            | (go_ret2; exact ⟨by rw [HR2.out]; exact ret2_int (by show _ = (200 : Int); omega) rfl, HB3.out⟩)
        · have HR2 : Hid (R = (bv, 0)) := by unfold Hid; rw [HR.out, if_neg hx]
          subst e
          go_wp2_with fail
          all_goals first
            | (exfalso; omega)
            | (go_ret2; exact ⟨by rw [HR2.out]; rfl, HB3.out⟩)
            | (go_ret2; exact ⟨by rw [HR2.out]; exact ret2_int (by show _ = bv; omega) rfl, HB3.out⟩)
            | (go_ret2; exact ⟨by rw [HR2.out]; exact ret2_int (by show _ = d - 1; omega) rfl, HB3.out⟩)
            | (go_ret2; exact ⟨by rw [HR2.out]; exact ret2_int (by show _ = (200 : Int); omega) rfl, HB3.out⟩)

set_option maxHeartbeats 2000000 in
theorem LargestBall_spec (d b n : Int) (w : World) :
    Calls Try.prog 60 #[.agg #[.int .i64 d, .int .i64 b], .int .i64 n] w fun e w' => e = .returned (.tuple #[.int .i64 (ballR d b n).1, .int .i64 (ballR d b n).2]) ∧ Below w.heap.size w w' := by
  have HJ : Hid (∀ v : World, Calls Try.prog 114 #[.agg #[.int .i64 d, .int .i64 b], .int .i64 n] v fun e w' => e = .returned (.int .i64 (raceI d b n)) ∧ Below v.heap.size v w') := fun v => l15Code_any d b n v
  rcases race_cases d b n with ⟨h1, e⟩ | ⟨h1, h2, e⟩ | ⟨h1, h2, e⟩
  · have hR : ballR d b n = if raceI d b n = 0 then (if ballN d n < 10 then (0, 4) else (ballN d n, 0)) else (0, raceI d b n) := rfl
    rw [e] at hR
    rw [e] at HJ
    rw [if_neg (by omega)] at hR
    have HR := Lib.hid hR; clear hR e h1
    generalize ballR d b n = R at HR ⊢
    go_enter Try.func60, Try.ntmps60
    go_wp2_with fail
    refine (HJ.out _).mono ?_
    rintro e w1 ⟨rfl, hb1⟩
    go_wp2_with fail
    go_ret2
    exact ⟨by rw [HR.out]; rfl, bthen (balloc _ _) hb1⟩
  · have hR : ballR d b n = if raceI d b n = 0 then (if ballN d n < 10 then (0, 4) else (ballN d n, 0)) else (0, raceI d b n) := rfl
    rw [e] at hR
    rw [e] at HJ
    rw [if_neg (by omega)] at hR
    have HR := Lib.hid hR; clear hR e h1
    generalize ballR d b n = R at HR ⊢
    go_enter Try.func60, Try.ntmps60
    go_wp2_with fail
    refine (HJ.out _).mono ?_
    rintro e w1 ⟨rfl, hb1⟩
    go_wp2_with fail
    go_ret2
    exact ⟨by rw [HR.out]; rfl, bthen (balloc _ _) hb1⟩
  · have hR : ballR d b n = if raceI d b n = 0 then (if ballN d n < 10 then (0, 4) else (ballN d n, 0)) else (0, raceI d b n) := rfl
    rw [e] at hR
    rw [e] at HJ
    rw [if_pos rfl] at hR
    obtain ⟨d0, d1, b0, b1, bd⟩ := raceB_true h1
    obtain ⟨n0, n1⟩ := inB_true h2
    have hcb := chordN_bd (d := d) (n := n) (by omega) (by omega) n0 n1
    have HC : Hid (∀ v : World, Calls Try.prog 115 #[.int .i64 d, .int .i64 n] v fun e w' => e = .returned (.int .i64 (chordN d n)) ∧ Below v.heap.size v w') := fun v => l15Chord_any d n (by omega) (by omega) n0 n1 v
    have hB : ballN d n = min (min (chordN d n) 200) (d - 1) := rfl
    have HR := Lib.hid hR; clear hR e h1 h2
    generalize ballR d b n = R at HR ⊢
    generalize chordN d n = cv at *
    generalize ballN d n = bv at *
    have q0 : (w.alloc (.cells #[.int .i64 d, .int .i64 b] 84)).cell? ⟨w.heap.size, 0, none⟩ = some (.int .i64 d) := by go_simp
    have q1 : (w.alloc (.cells #[.int .i64 d, .int .i64 b] 84)).cell? ⟨w.heap.size, 1, none⟩ = some (.int .i64 b) := by go_simp
    have ql : w.heap.size < (w.alloc (.cells #[.int .i64 d, .int .i64 b] 84)).heap.size := by simp
    have hbA : Below w.heap.size w (w.alloc (.cells #[.int .i64 d, .int .i64 b] 84)) := balloc _ _
    go_enter Try.func60, Try.ntmps60
    go_wp2_with fail
    generalize w.alloc (.cells #[.int .i64 d, .int .i64 b] 84) = V at q0 q1 ql hbA ⊢
    generalize hr : w.heap.size = r at q0 q1 ql hbA ⊢
    refine (HJ.out V).mono ?_
    rintro e w1 ⟨rfl, hb1⟩
    have p0 := (hb1.cell (p := ⟨r, 0, none⟩) ql).trans q0
    have p1 := (hb1.cell (p := ⟨r, 1, none⟩) ql).trans q1
    have pl : r < w1.heap.size := by have := hb1.size; omega
    have hbB : Below r w w1 := hbA.trans (hb1.mono (by omega))
    clear q0 q1 hb1 hbA
    go_wp2_with fail
    have hw : IntKind.i64.wrap (d - 1) = d - 1 := IntWalk.i64_in _ (by omega)
    go_region_law (first
      | (go_simp; go_at_call 115; refine (HC.out w1.drew).mono ?_; rintro e w3 ⟨rfl, hb3⟩; have z0 := (hb3.cell (p := ⟨r, 0, none⟩) pl).trans (show w1.drew.cell? ⟨r, 0, none⟩ = _ from p0); have z1 := (hb3.cell (p := ⟨r, 1, none⟩) pl).trans (show w1.drew.cell? ⟨r, 1, none⟩ = _ from p1); have HB3 := Lib.hid (hbB.trans ((bthen (bdrew w1) hb3).mono (by omega))); clear hb3; go_wp2_with fail))
    all_goals
      have hpath : (bv = cv ∧ cv ≤ 200 ∧ cv ≤ d - 1) ∨ (bv = 200 ∧ 200 < cv ∧ 200 ≤ d - 1) ∨ (bv = d - 1 ∧ d - 1 < cv ∧ d - 1 < 200) := by omega
      clear hB
      rcases hpath with ⟨e, e1, e2⟩ | ⟨e, e1, e2⟩ | ⟨e, e1, e2⟩
      all_goals
        by_cases hx : bv < 10
        · have HR2 : Hid (R = (0, 4)) := by unfold Hid; rw [HR.out, if_pos hx]
          subst e
          go_wp2_with fail
          all_goals first
            | (exfalso; omega)
            | (go_ret2; exact ⟨by rw [HR2.out]; rfl, HB3.out⟩)
            | (go_ret2; exact ⟨by rw [HR2.out]; exact ret2_int (by show _ = bv; omega) rfl, HB3.out⟩)
            | (go_ret2; exact ⟨by rw [HR2.out]; exact ret2_int (by show _ = d - 1; omega) rfl, HB3.out⟩)
            | (go_ret2; exact ⟨by rw [HR2.out]; exact ret2_int (by show _ = (200 : Int); omega) rfl, HB3.out⟩)
        · have HR2 : Hid (R = (bv, 0)) := by unfold Hid; rw [HR.out, if_neg hx]
          subst e
          go_wp2_with fail
          all_goals first
            | (exfalso; omega)
            | (go_ret2; exact ⟨by rw [HR2.out]; rfl, HB3.out⟩)
            | (go_ret2; exact ⟨by rw [HR2.out]; exact ret2_int (by show _ = bv; omega) rfl, HB3.out⟩)
            | (go_ret2; exact ⟨by rw [HR2.out]; exact ret2_int (by show _ = d - 1; omega) rfl, HB3.out⟩)
            | (go_ret2; exact ⟨by rw [HR2.out]; exact ret2_int (by show _ = (200 : Int); omega) rfl, HB3.out⟩)

end Go.Proofs.Ytmhaloigcpanpaa
