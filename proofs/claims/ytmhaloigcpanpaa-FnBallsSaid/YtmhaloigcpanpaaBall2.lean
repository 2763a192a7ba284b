/- DERIVED. The most balls; the chord asked; what they and the largest ball say of one another. By program (gball2.py). -/
import Derived.Test.YtmhaloigcpanpaaBall
namespace Go.Proofs.Ytmhaloigcpanpaa
set_option maxRecDepth 100000
open Go.RowKit

/-- The most balls, at most k. -/
def mostD (d b : Int) : Nat → Int
  | 0 => 0
  | k + 1 => if k + 1 < 3 then 0 else if b ≤ chordN d ((k : Int) + 1) then (k : Int) + 1 else mostD d b k
theorem mostD_yes {d b : Int} {k : Nat} (h3 : 3 ≤ k) (h : b ≤ chordN d (k : Int)) : mostD d b k = k := by
  obtain ⟨j, rfl⟩ : ∃ j, k = j + 1 := ⟨k - 1, by omega⟩
  have e : ((j + 1 : Nat) : Int) = (j : Int) + 1 := by omega
  rw [e] at h ⊢
  simp only [mostD]
  rw [if_neg (by omega), if_pos h]
theorem mostD_no {d b : Int} {k : Nat} (h3 : 3 ≤ k) (h : ¬ b ≤ chordN d (k : Int)) : mostD d b k = mostD d b (k - 1) := by
  obtain ⟨j, rfl⟩ : ∃ j, k = j + 1 := ⟨k - 1, by omega⟩
  have e : ((j + 1 : Nat) : Int) = (j : Int) + 1 := by omega
  rw [e] at h
  simp only [mostD]
  rw [if_neg (by omega), if_neg h]
  rfl
theorem mostD_few {d b : Int} {k : Nat} (h : k < 3) : mostD d b k = 0 := by
  cases k with
  | zero => rfl
  | succ j => simp only [mostD]; rw [if_pos h]
theorem mostD_is (d b : Int) : ∀ k : Nat, k ≤ 40 → mostD d b k = 0 ∨ (3 ≤ mostD d b k ∧ mostD d b k ≤ k ∧ b ≤ chordN d (mostD d b k) ∧ (mostD d b k < k → chordN d (mostD d b k + 1) < b))
  | 0, _ => Or.inl rfl
  | k + 1, hk => by
    by_cases h3 : k + 1 < 3
    · exact Or.inl (mostD_few h3)
    · by_cases h : b ≤ chordN d ((k + 1 : Nat) : Int)
      · rw [mostD_yes (by omega) h]
        exact Or.inr ⟨by omega, by omega, h, by omega⟩
      · rw [mostD_no (by omega) h]
        simp only [Nat.add_sub_cancel]
        rcases mostD_is d b k (by omega) with h0 | ⟨h1, h2, h4, h5⟩
        · exact Or.inl h0
        · refine Or.inr ⟨h1, by omega, h4, fun hlt => ?_⟩
          by_cases e : mostD d b k < k
          · exact h5 e
          · have e2 : mostD d b k = (k : Int) := by omega
            rw [e2]
            have e3 : ((k + 1 : Nat) : Int) = (k : Int) + 1 := by omega
            rw [e3] at h
            omega
def mostR (d b : Int) : Int × Int := if raceB d b = true then (if mostD d b 40 = 0 then (0, 4) else (mostD d b 40, 0)) else (0, 1)
def chordR (d b n : Int) : Int × Int := if raceI d b n = 0 then (chordN d n, 0) else (0, raceI d b n)
structure BallLaw (d b n : Int) (R M C : Int × Int) : Prop where
  race : raceB d b = (decide (C.2 = 0) || decide (C.2 = 2))
  most : M.2 = 0 → 3 ≤ M.1 ∧ M.1 ≤ 40 ∧ chordR d b M.1 = (chordN d M.1, 0) ∧ b ≤ chordN d M.1 ∧ (M.1 < 40 → chordR d b (M.1 + 1) = (chordN d (M.1 + 1), 0) ∧ chordN d (M.1 + 1) < b)
  large : R.2 = 0 → R.1 ≤ C.1 ∧ 10 ≤ R.1 ∧ R.1 < d ∧ raceB d R.1 = true
theorem raceI_ok {d b n : Int} (h : raceB d b = true) (h0 : 3 ≤ n) (h1 : n ≤ 40) : raceI d b n = 0 := by
  unfold raceI
  rw [if_pos h, if_pos (by unfold inB; simp; omega)]
theorem ball_law (d b n : Int) : BallLaw d b n (ballR d b n) (mostR d b) (chordR d b n) := by
  refine ⟨?_, fun h => ?_, fun h => ?_⟩
  · unfold chordR
    rcases race_cases d b n with ⟨h1, e⟩ | ⟨h1, h2, e⟩ | ⟨h1, h2, e⟩ <;> rw [h1, e] <;> simp
  · unfold mostR at h ⊢
    by_cases hr : raceB d b = true
    · rw [if_pos hr] at h ⊢
      by_cases h0 : mostD d b 40 = 0
      · rw [if_pos h0] at h
        simp at h
      · rw [if_neg h0]
        simp only
        rcases mostD_is d b 40 (by omega) with h1 | ⟨h1, h2, h3, h4⟩
        · exact absurd h1 h0
        · have key : ∀ m : Int, 3 ≤ m → m ≤ 40 → chordR d b m = (chordN d m, 0) := fun m a1 a2 => by unfold chordR; rw [if_pos (raceI_ok hr a1 a2)]
          exact ⟨h1, by omega, key _ h1 (by omega), h3, fun hlt => ⟨key _ (by omega) (by omega), h4 (by omega)⟩⟩
    · rw [if_neg hr] at h
      simp at h
  · unfold ballR at h ⊢
    unfold chordR
    by_cases h0 : raceI d b n = 0
    · rw [if_pos h0] at h ⊢
      rw [if_pos h0]
      by_cases hx : ballN d n < 10
      · rw [if_pos hx] at h
        simp at h
      · rw [if_neg hx]
        simp only
        have hr : raceB d b = true := by
          rcases race_cases d b n with ⟨h1, e⟩ | ⟨h1, h2, e⟩ | ⟨h1, h2, e⟩
          · omega
          · omega
          · exact h1
        obtain ⟨a0, a1, a2, a3, a4⟩ := raceB_true hr
        have hb : ballN d n = min (min (chordN d n) 200) (d - 1) := rfl
        refine ⟨by omega, by omega, by omega, ?_⟩
        simp [raceB, inB]
        omega
    · rw [if_neg h0] at h
      exact absurd h h0

set_option maxHeartbeats 2000000 in
theorem ChordOf_impl (d b n : Int) (w : World) :
    Calls Try.prog 66 #[.agg #[.int .i64 d, .int .i64 b], .int .i64 n] w fun e w' => e = .returned (.tuple #[.int .i64 (chordR d b n).1, .int .i64 (chordR d b n).2]) ∧ Below w.heap.size w w' := by
  have HJ : Hid (∀ v : World, Calls Try.prog 68 #[.agg #[.int .i64 d, .int .i64 b]] v fun e w' => e = .returned (.bool (raceB d b)) ∧ Below v.heap.size v w') := fun v => isRace_impl d b v
  have hI := isBalls_any n
  rcases race_cases d b n with ⟨h1, e⟩ | ⟨h1, h2, e⟩ | ⟨h1, h2, e⟩
  · have hR : chordR d b n = if raceI d b n = 0 then (chordN d n, 0) else (0, raceI d b n) := rfl
    rw [e] at hR
    rw [h1] at HJ
    clear hI
    rw [if_neg (by omega)] at hR
    have HR := Lib.hid hR; clear hR e h1
    generalize chordR d b n = R at HR ⊢
    go_enter Try.func66, Try.ntmps66
    go_wp2_with fail
    refine (HJ.out _).mono ?_
    rintro e w1 ⟨rfl, hb1⟩
    go_wp2_with fail
    go_ret2
    exact ⟨by rw [HR.out]; rfl, bthen (balloc _ _) hb1⟩
  · have hR : chordR d b n = if raceI d b n = 0 then (chordN d n, 0) else (0, raceI d b n) := rfl
    rw [e] at hR
    rw [h1] at HJ
    rw [h2] at hI
    have HI := Lib.hid hI; clear hI
    rw [if_neg (by omega)] at hR
    have HR := Lib.hid hR; clear hR e h1
    generalize chordR d b n = R at HR ⊢
    go_enter Try.func66, Try.ntmps66
    go_wp2_with fail
    refine (HJ.out _).mono ?_
    rintro e w1 ⟨rfl, hb1⟩
    go_wp2_with (go_at_call 116; refine (HI.out _).mono ?_; rintro e w' ⟨rfl, rfl⟩)
    go_ret2
    exact ⟨by rw [HR.out]; rfl, bthen (balloc _ _) hb1⟩
  · have hR : chordR d b n = if raceI d b n = 0 then (chordN d n, 0) else (0, raceI d b n) := rfl
    rw [e] at hR
    rw [h1] at HJ
    rw [h2] at hI
    have HI := Lib.hid hI; clear hI
    rw [if_pos rfl] at hR
    obtain ⟨d0, d1, b0, b1, bd⟩ := raceB_true h1
    obtain ⟨n0, n1⟩ := inB_true h2
    have HC : Hid (∀ v : World, Calls Try.prog 117 #[.agg #[.int .i64 d, .int .i64 b], .int .i64 n] v fun e w' => e = .returned (.int .i64 (chordN d n)) ∧ Below v.heap.size v w') := fun v => chord_any d b n (by omega) (by omega) n0 n1 v
    have HR := Lib.hid hR; clear hR e h1 h2
    generalize chordR d b n = R at HR ⊢
    generalize chordN d n = cv at *
    have q0 : (w.alloc (.cells #[.int .i64 d, .int .i64 b] 84)).cell? ⟨w.heap.size, 0, none⟩ = some (.int .i64 d) := by go_simp
    have q1 : (w.alloc (.cells #[.int .i64 d, .int .i64 b] 84)).cell? ⟨w.heap.size, 1, none⟩ = some (.int .i64 b) := by go_simp
    have ql : w.heap.size < (w.alloc (.cells #[.int .i64 d, .int .i64 b] 84)).heap.size := by simp
    have hbA : Below w.heap.size w (w.alloc (.cells #[.int .i64 d, .int .i64 b] 84)) := balloc _ _
    go_enter Try.func66, Try.ntmps66
    go_wp2_with fail
    generalize w.alloc (.cells #[.int .i64 d, .int .i64 b] 84) = V at q0 q1 ql hbA ⊢
    generalize hr : w.heap.size = r at q0 q1 ql hbA ⊢
    refine (HJ.out V).mono ?_
    rintro e w1 ⟨rfl, hb1⟩
    have p0 := (hb1.cell (p := ⟨r, 0, none⟩) ql).trans q0
    have p1 := (hb1.cell (p := ⟨r, 1, none⟩) ql).trans q1
    have hbB : Below r w w1 := hbA.trans (hb1.mono (by omega))
    have pl : r ≤ w1.heap.size := by have := hb1.size; omega
    clear q0 q1 hb1 hbA
    go_wp2_with (go_at_call 116; refine (HI.out _).mono ?_; rintro e w' ⟨rfl, rfl⟩)
    refine (HC.out w1).mono ?_
    rintro e w2 ⟨rfl, hb2⟩
    go_wp2_with fail
    go_ret2
    exact ⟨by rw [HR.out]; rfl, by first | exact hbB.trans (hb2.mono pl) | (rw [hr]; exact hbB.trans (hb2.mono pl))⟩

set_option maxHeartbeats 2000000 in
theorem ChordOf_spec (d b n : Int) (w : World) :
    Calls Try.prog 67 #[.agg #[.int .i64 d, .int .i64 b], .int .i64 n] w fun e w' => e = .returned (.tuple #[.int .i64 (chordR d b n).1, .int .i64 (chordR d b n).2]) ∧ Below w.heap.size w w' := by
  have HJ : Hid (∀ v : World, Calls Try.prog 114 #[.agg #[.int .i64 d, .int .i64 b], .int .i64 n] v fun e w' => e = .returned (.int .i64 (raceI d b n)) ∧ Below v.heap.size v w') := fun v => l15Code_any d b n v
  rcases race_cases d b n with ⟨h1, e⟩ | ⟨h1, h2, e⟩ | ⟨h1, h2, e⟩
  · have hR : chordR d b n = if raceI d b n = 0 then (chordN d n, 0) else (0, raceI d b n) := rfl
    rw [e] at hR
    rw [e] at HJ
    rw [if_neg (by omega)] at hR
    have HR := Lib.hid hR; clear hR e h1
    generalize chordR d b n = R at HR ⊢
    go_enter Try.func67, Try.ntmps67
    go_wp2_with fail
    refine (HJ.out _).mono ?_
    rintro e w1 ⟨rfl, hb1⟩
    go_wp2_with fail
    go_ret2
    exact ⟨by rw [HR.out]; rfl, bthen (balloc _ _) hb1⟩
  · have hR : chordR d b n = if raceI d b n = 0 then (chordN d n, 0) else (0, raceI d b n) := rfl
    rw [e] at hR
    rw [e] at HJ
    rw [if_neg (by omega)] at hR
    have HR := Lib.hid hR; clear hR e h1
    generalize chordR d b n = R at HR ⊢
    go_enter Try.func67, Try.ntmps67
    go_wp2_with fail
    refine (HJ.out _).mono ?_
    rintro e w1 ⟨rfl, hb1⟩
    go_wp2_with fail
    go_ret2
    exact ⟨by rw [HR.out]; rfl, bthen (balloc _ _) hb1⟩
  · have hR : chordR d b n = if raceI d b n = 0 then (chordN d n, 0) else (0, raceI d b n) := rfl
    rw [e] at hR
    rw [e] at HJ
    rw [if_pos rfl] at hR
    obtain ⟨d0, d1, b0, b1, bd⟩ := raceB_true h1
    obtain ⟨n0, n1⟩ := inB_true h2
    have HC : Hid (∀ v : World, Calls Try.prog 115 #[.int .i64 d, .int .i64 n] v fun e w' => e = .returned (.int .i64 (chordN d n)) ∧ Below v.heap.size v w') := fun v => l15Chord_any d n (by omega) (by omega) n0 n1 v
    have HR := Lib.hid hR; clear hR e h1 h2
    generalize chordR d b n = R at HR ⊢
    generalize chordN d n = cv at *
    have q0 : (w.alloc (.cells #[.int .i64 d, .int .i64 b] 84)).cell? ⟨w.heap.size, 0, none⟩ = some (.int .i64 d) := by go_simp
    have q1 : (w.alloc (.cells #[.int .i64 d, .int .i64 b] 84)).cell? ⟨w.heap.size, 1, none⟩ = some (.int .i64 b) := by go_simp
    have ql : w.heap.size < (w.alloc (.cells #[.int .i64 d, .int .i64 b] 84)).heap.size := by simp
    have hbA : Below w.heap.size w (w.alloc (.cells #[.int .i64 d, .int .i64 b] 84)) := balloc _ _
    go_enter Try.func67, Try.ntmps67
    go_wp2_with fail
    generalize w.alloc (.cells #[.int .i64 d, .int .i64 b] 84) = V at q0 q1 ql hbA ⊢
    generalize hr : w.heap.size = r at q0 q1 ql hbA ⊢
    refine (HJ.out V).mono ?_
    rintro e w1 ⟨rfl, hb1⟩
    have p0 := (hb1.cell (p := ⟨r, 0, none⟩) ql).trans q0
    have p1 := (hb1.cell (p := ⟨r, 1, none⟩) ql).trans q1
    have hbB : Below r w w1 := hbA.trans (hb1.mono (by omega))
    have pl : r ≤ w1.heap.size := by have := hb1.size; omega
    clear q0 q1 hb1 hbA
    go_wp2_with fail
    refine (HC.out w1).mono ?_
    rintro e w2 ⟨rfl, hb2⟩
    go_wp2_with fail
    go_ret2
    exact ⟨by rw [HR.out]; rfl, by first | exact hbB.trans (hb2.mono pl) | (rw [hr]; exact hbB.trans (hb2.mono pl))⟩

set_option maxHeartbeats 2000000 in
theorem MostBalls_impl (d b : Int) (w : World) :
    Calls Try.prog 64 #[.agg #[.int .i64 d, .int .i64 b]] w fun e w' => e = .returned (.tuple #[.int .i64 (mostR d b).1, .int .i64 (mostR d b).2]) ∧ Below w.heap.size w w' := by
  have HJ : Hid (∀ v : World, Calls Try.prog 68 #[.agg #[.int .i64 d, .int .i64 b]] v fun e w' => e = .returned (.bool (raceB d b)) ∧ Below v.heap.size v w') := fun v => isRace_impl d b v
  by_cases h1 : raceB d b = true
  · have HR : Hid (mostR d b = if mostD d b 40 = 0 then (0, 4) else (mostD d b 40, 0)) := by unfold Hid mostR; rw [if_pos h1]
    obtain ⟨d0, d1, b0, b1, bd⟩ := raceB_true h1
    have HC : Hid (∀ (n : Int) (v : World), 3 ≤ n → n ≤ 40 → Calls Try.prog 117 #[.agg #[.int .i64 d, .int .i64 b], .int .i64 n] v fun e w' => e = .returned (.int .i64 (chordN d n)) ∧ Below v.heap.size v w') := fun n v n0 n1 => chord_any d b n (by omega) (by omega) n0 n1 v
    have HY : Hid (∀ k : Nat, 3 ≤ k → b ≤ chordN d (k : Int) → mostD d b k = k) := fun k => mostD_yes
    have HN : Hid (∀ k : Nat, 3 ≤ k → ¬ b ≤ chordN d (k : Int) → mostD d b k = mostD d b (k - 1)) := fun k => mostD_no
    have HF : Hid (∀ k : Nat, k < 3 → mostD d b k = 0) := fun k => mostD_few
    rw [h1] at HJ
    clear h1
    generalize mostR d b = R at HR ⊢
    generalize mostD d b = M at HR HY HN HF
    have q0 : (w.alloc (.cells #[.int .i64 d, .int .i64 b] 84)).cell? ⟨w.heap.size, 0, none⟩ = some (.int .i64 d) := by go_simp
    have q1 : (w.alloc (.cells #[.int .i64 d, .int .i64 b] 84)).cell? ⟨w.heap.size, 1, none⟩ = some (.int .i64 b) := by go_simp
    have ql : w.heap.size < (w.alloc (.cells #[.int .i64 d, .int .i64 b] 84)).heap.size := by simp
    have hbA : Below w.heap.size w (w.alloc (.cells #[.int .i64 d, .int .i64 b] 84)) := balloc _ _
    go_enter Try.func64, Try.ntmps64
    go_wp2_with fail
    generalize w.alloc (.cells #[.int .i64 d, .int .i64 b] 84) = V at q0 q1 ql hbA ⊢
    generalize hr : w.heap.size = r at q0 q1 ql hbA ⊢
    refine (HJ.out V).mono ?_
    rintro e w1 ⟨rfl, hb1⟩
    have p0 := (hb1.cell (p := ⟨r, 0, none⟩) ql).trans q0
    have p1 := (hb1.cell (p := ⟨r, 1, none⟩) ql).trans q1
    have hbB : Below r w w1 := hbA.trans (hb1.mono (by omega))
    have pl : r < w1.heap.size := by have := hb1.size; omega
    clear q0 q1 hb1 hbA
    go_wp2_with fail
    go_loopw [4] (fun i wr => ∃ k : Nat, 2 ≤ k ∧ k ≤ 40 ∧ i = .int .i64 k ∧ M 40 = M k ∧ wr.cell? ⟨r, 0, none⟩ = some (.int .i64 d) ∧ wr.cell? ⟨r, 1, none⟩ = some (.int .i64 b) ∧ r < wr.heap.size ∧ Below r w wr) (fun i _ => (intOf i).toNat)
    case atStart => exact ⟨40, by omega, by omega, rfl, rfl, p0, p1, pl, hbB⟩
    case round =>
      obtain ⟨k, hk2, hk, rfl, hM, z0, z1, zl, hb⟩ := hrel
      have HM := Lib.hid hM; clear hM p0 p1 pl hbB
      by_cases h3 : 3 ≤ k
      · have HCk : Hid (∀ v : World, Calls Try.prog 117 #[.agg #[.int .i64 d, .int .i64 b], .int .i64 (k : Int)] v fun e w' => e = .returned (.int .i64 (chordN d (k : Int))) ∧ Below v.heap.size v w') := fun v => HC.out k v (by omega) (by omega)
        have HYk := Lib.hid (HY.out k h3)
        have HNk := Lib.hid (HN.out k h3)
        generalize chordN d (k : Int) = cv at HCk HYk HNk
        have hge : (k : Int) ≥ 3 := by omega
        go_wp2_with fail
        go_region_law (first
          | (go_simp; go_at_call 117; refine (HCk.out wr.drew).mono ?_; rintro e w3 ⟨rfl, hb3⟩; have y0 := (hb3.cell (p := ⟨r, 0, none⟩) zl).trans (show wr.drew.cell? ⟨r, 0, none⟩ = _ from z0); have y1 := (hb3.cell (p := ⟨r, 1, none⟩) zl).trans (show wr.drew.cell? ⟨r, 1, none⟩ = _ from z1); have yl : r < w3.heap.size := (by have := hb3.size; have e : wr.drew.heap.size = wr.heap.size := rfl; omega); have HB3 := Lib.hid (hb.trans ((bthen (bdrew wr) hb3).mono (by omega))); clear hb3; go_wp2_with fail))
        all_goals
          by_cases hc : b ≤ cv
          · have hm := HYk.out (by omega)
            have HR2 : Hid (R = ((k : Int), 0)) := by unfold Hid; rw [HR.out, HM.out, hm, if_neg (by omega)]
            clear hm
            go_wp2_with fail
            go_ret2
            exact ⟨by rw [HR2.out]; rfl, by first | exact HB3.out | (rw [hr]; exact HB3.out)⟩
          · have hm := Lib.hid (HNk.out (by omega))
            go_wp2_with fail
            exact ⟨⟨k - 1, by omega, by omega, by go_num, by rw [HM.out, hm.out], y0, y1, yl, HB3.out⟩, by simp [intOf]; omega⟩
      · have hm := HF.out k (by omega)
        have HR2 : Hid (R = (0, 4)) := by unfold Hid; rw [HR.out, HM.out, hm, if_pos rfl]
        clear hm
        go_wp2_with fail
        go_ret2
        exact ⟨by rw [HR2.out]; rfl, by first | exact hb | (rw [hr]; exact hb)⟩
  · have h1' : raceB d b = false := by simpa using h1
    have HR : Hid (mostR d b = (0, 1)) := by unfold Hid mostR; rw [if_neg h1]
    rw [h1'] at HJ
    generalize mostR d b = R at HR ⊢
    clear h1 h1'
    go_enter Try.func64, Try.ntmps64
    go_wp2_with fail
    refine (HJ.out _).mono ?_
    rintro e w1 ⟨rfl, hb1⟩
    go_wp2_with fail
    go_ret2
    exact ⟨by rw [HR.out]; rfl, bthen (balloc _ _) hb1⟩

set_option maxHeartbeats 2000000 in
theorem MostBalls_spec (d b : Int) (w : World) :
    Calls Try.prog 65 #[.agg #[.int .i64 d, .int .i64 b]] w fun e w' => e = .returned (.tuple #[.int .i64 (mostR d b).1, .int .i64 (mostR d b).2]) ∧ Below w.heap.size w w' := by
  have HJ : Hid (∀ v : World, Calls Try.prog 114 #[.agg #[.int .i64 d, .int .i64 b], .int .i64 3] v fun e w' => e = .returned (.int .i64 (raceI d b 3)) ∧ Below v.heap.size v w') := fun v => l15Code_any d b 3 v
  by_cases h1 : raceB d b = true
  · have HR : Hid (mostR d b = if mostD d b 40 = 0 then (0, 4) else (mostD d b 40, 0)) := by unfold Hid mostR; rw [if_pos h1]
    obtain ⟨d0, d1, b0, b1, bd⟩ := raceB_true h1
    have HC : Hid (∀ (n : Int) (v : World), 3 ≤ n → n ≤ 40 → Calls Try.prog 115 #[.int .i64 d, .int .i64 n] v fun e w' => e = .returned (.int .i64 (chordN d n)) ∧ Below v.heap.size v w') := fun n v n0 n1 => l15Chord_any d n (by omega) (by omega) n0 n1 v
    have HY : Hid (∀ k : Nat, 3 ≤ k → b ≤ chordN d (k : Int) → mostD d b k = k) := fun k => mostD_yes
    have HN : Hid (∀ k : Nat, 3 ≤ k → ¬ b ≤ chordN d (k : Int) → mostD d b k = mostD d b (k - 1)) := fun k => mostD_no
    have HF : Hid (∀ k : Nat, k < 3 → mostD d b k = 0) := fun k => mostD_few
    rw [raceI_ok h1 (by omega) (by omega)] at HJ
    clear h1
    generalize mostR d b = R at HR ⊢
    generalize mostD d b = M at HR HY HN HF
    have q0 : (w.alloc (.cells #[.int .i64 d, .int .i64 b] 84)).cell? ⟨w.heap.size, 0, none⟩ = some (.int .i64 d) := by go_simp
    have q1 : (w.alloc (.cells #[.int .i64 d, .int .i64 b] 84)).cell? ⟨w.heap.size, 1, none⟩ = some (.int .i64 b) := by go_simp
    have ql : w.heap.size < (w.alloc (.cells #[.int .i64 d, .int .i64 b] 84)).heap.size := by simp
    have hbA : Below w.heap.size w (w.alloc (.cells #[.int .i64 d, .int .i64 b] 84)) := balloc _ _
    go_enter Try.func65, Try.ntmps65
    go_wp2_with fail
    generalize w.alloc (.cells #[.int .i64 d, .int .i64 b] 84) = V at q0 q1 ql hbA ⊢
    generalize hr : w.heap.size = r at q0 q1 ql hbA ⊢
    refine (HJ.out V).mono ?_
    rintro e w1 ⟨rfl, hb1⟩
    have p0 := (hb1.cell (p := ⟨r, 0, none⟩) ql).trans q0
    have p1 := (hb1.cell (p := ⟨r, 1, none⟩) ql).trans q1
    have hbB : Below r w w1 := hbA.trans (hb1.mono (by omega))
    have pl : r < w1.heap.size := by have := hb1.size; omega
    clear q0 q1 hb1 hbA
    go_wp2_with fail
    go_loopw [5] (fun i wr => ∃ k : Nat, 2 ≤ k ∧ k ≤ 40 ∧ i = .int .i64 k ∧ M 40 = M k ∧ wr.cell? ⟨r, 0, none⟩ = some (.int .i64 d) ∧ wr.cell? ⟨r, 1, none⟩ = some (.int .i64 b) ∧ r < wr.heap.size ∧ Below r w wr) (fun i _ => (intOf i).toNat)
    case atStart => exact ⟨40, by omega, by omega, rfl, rfl, p0, p1, pl, hbB⟩
    case round =>
      obtain ⟨k, hk2, hk, rfl, hM, z0, z1, zl, hb⟩ := hrel
      have HM := Lib.hid hM; clear hM p0 p1 pl hbB
      by_cases h3 : 3 ≤ k
      · have HCk : Hid (∀ v : World, Calls Try.prog 115 #[.int .i64 d, .int .i64 (k : Int)] v fun e w' => e = .returned (.int .i64 (chordN d (k : Int))) ∧ Below v.heap.size v w') := fun v => HC.out k v (by omega) (by omega)
        have HYk := Lib.hid (HY.out k h3)
        have HNk := Lib.hid (HN.out k h3)
        generalize chordN d (k : Int) = cv at HCk HYk HNk
        have hge : (k : Int) ≥ 3 := by omega
        go_wp2_with fail
        go_region_law (first
          | (go_simp; go_at_call 115; refine (HCk.out wr.drew).mono ?_; rintro e w3 ⟨rfl, hb3⟩; have y0 := (hb3.cell (p := ⟨r, 0, none⟩) zl).trans (show wr.drew.cell? ⟨r, 0, none⟩ = _ from z0); have y1 := (hb3.cell (p := ⟨r, 1, none⟩) zl).trans (show wr.drew.cell? ⟨r, 1, none⟩ = _ from z1); have yl : r < w3.heap.size := (by have := hb3.size; have e : wr.drew.heap.size = wr.heap.size := rfl; omega); have HB3 := Lib.hid (hb.trans ((bthen (bdrew wr) hb3).mono (by omega))); clear hb3; go_wp2_with fail))
        all_goals
          by_cases hc : b ≤ cv
          · have hm := HYk.out (by omega)
            have HR2 : Hid (R = ((k : Int), 0)) := by unfold Hid; rw [HR.out, HM.out, hm, if_neg (by omega)]
            clear hm
            go_wp2_with fail
            go_ret2
            exact ⟨by rw [HR2.out]; rfl, by first | exact HB3.out | (rw [hr]; exact HB3.out)⟩
          · have hm := Lib.hid (HNk.out (by omega))
            go_wp2_with fail
            exact ⟨⟨k - 1, by omega, by omega, by go_num, by rw [HM.out, hm.out], y0, y1, yl, HB3.out⟩, by simp [intOf]; omega⟩
      · have hm := HF.out k (by omega)
        have HR2 : Hid (R = (0, 4)) := by unfold Hid; rw [HR.out, HM.out, hm, if_pos rfl]
        clear hm
        go_wp2_with fail
        go_ret2
        exact ⟨by rw [HR2.out]; rfl, by first | exact hb | (rw [hr]; exact hb)⟩
  · have h1' : raceB d b = false := by simpa using h1
    have HR : Hid (mostR d b = (0, 1)) := by unfold Hid mostR; rw [if_neg h1]
    rw [show raceI d b 3 = 1 by unfold raceI; rw [if_neg h1]] at HJ
    generalize mostR d b = R at HR ⊢
    clear h1 h1'
    go_enter Try.func65, Try.ntmps65
    go_wp2_with fail
    refine (HJ.out _).mono ?_
    rintro e w1 ⟨rfl, hb1⟩
    go_wp2_with fail
    go_ret2
    exact ⟨by rw [HR.out]; rfl, bthen (balloc _ _) hb1⟩

end Go.Proofs.Ytmhaloigcpanpaa
