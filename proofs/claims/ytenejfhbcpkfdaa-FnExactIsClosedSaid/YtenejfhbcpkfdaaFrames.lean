/- DERIVED. The error of a frame and whether it is closed, in the program and in the reference. -/
import Derived.Test.YtenejfhbcpkfdaaTubes
namespace Go.Proofs.Ytenejfhbcpkfdaa
set_option maxRecDepth 100000
open Go.RowKit

def sumX (xs : List (Int × Int)) : Int := (xs.map fun t => t.1).sum
def sumY (xs : List (Int × Int)) : Int := (xs.map fun t => t.2).sum
theorem sumX_next {xs : List (Int × Int)} {k : Nat} {t : Int × Int} (h : xs[k]? = some t) : sumX (xs.take (k + 1)) = sumX (xs.take k) + t.1 := by
  simp [sumX, List.take_add_one, h]
theorem sumY_next {xs : List (Int × Int)} {k : Nat} {t : Int × Int} (h : xs[k]? = some t) : sumY (xs.take (k + 1)) = sumY (xs.take k) + t.2 := by
  simp [sumY, List.take_add_one, h]
theorem tubesB_true {xs : List (Int × Int)} (h : tubesB xs = true) : 3 ≤ xs.length ∧ xs.length ≤ 8 ∧ ∀ (k : Nat) t, xs[k]? = some t → -2000 ≤ t.1 ∧ t.1 ≤ 2000 ∧ -2000 ≤ t.2 ∧ t.2 ≤ 2000 := by
  simp only [tubesB, Bool.and_eq_true, decide_eq_true_eq, List.all_eq_true] at h
  refine ⟨h.1.1, h.1.2, fun k t hk => ?_⟩
  have := h.2 t (List.mem_of_getElem? hk)
  simp [okTube, inB] at this
  omega
theorem sums_bd {xs : List (Int × Int)} (h : ∀ (k : Nat) t, xs[k]? = some t → -2000 ≤ t.1 ∧ t.1 ≤ 2000 ∧ -2000 ≤ t.2 ∧ t.2 ≤ 2000) :
    ∀ k : Nat, -2000 * (k : Int) ≤ sumX (xs.take k) ∧ sumX (xs.take k) ≤ 2000 * (k : Int) ∧ -2000 * (k : Int) ≤ sumY (xs.take k) ∧ sumY (xs.take k) ≤ 2000 * (k : Int)
  | 0 => by simp [sumX, sumY]
  | k + 1 => by
    have ih := sums_bd h k
    cases hk : xs[k]? with
    | none =>
      have e : xs.take (k + 1) = xs.take k := by rw [List.take_add_one, hk]; simp
      rw [e]
      omega
    | some t =>
      have := h k t hk
      rw [sumX_next hk, sumY_next hk]
      omega

set_option maxHeartbeats 400000 in
theorem l20Error_any (A : Option Addr) (c : Nat) (xs : List (Int × Int)) (w : World) (hr : Rd w w.heap.size 2 tubeC A xs) (hv : tubesB xs = true) :
    Calls Try.prog 75 #[.slice A xs.length c] w fun e w' => e = .returned (.tuple #[.int .i64 (sumX xs), .int .i64 (sumY xs)]) ∧ w = w' := by
  obtain ⟨v1, v2, v3⟩ := tubesB_true hv
  have Hb := Lib.hid (sums_bd v3)
  have Hv := Lib.hid v3
  clear hv v3
  go_enter Try.func75, Try.ntmps75
  go_wp2_with fail
  go_loop [4, 5, 6] (fun x y i => ∃ k : Nat, k ≤ xs.length ∧ i = .int .i64 k ∧ x = .int .i64 (sumX (xs.take k)) ∧ y = .int .i64 (sumY (xs.take k))) (fun _ _ i => xs.length - (intOf i).toNat)
  case atStart => exact ⟨0, Nat.zero_le _, rfl, rfl, rfl⟩
  case round =>
    obtain ⟨k, hk, rfl, rfl, rfl⟩ := hrel
    by_cases hlt : k < xs.length
    · have hx : xs[k]? = some xs[k] := List.getElem?_eq_getElem hlt
      obtain ⟨b, o, rfl, hB, h0, h1⟩ := hr.at2 hx rfl
      generalize xs[k] = t at h0 h1 hx
      obtain ⟨a1, a2, a3, a4⟩ := Hv.out k t hx
      obtain ⟨b1, b2, b3, b4⟩ := Hb.out k
      have ex := sumX_next hx
      have ey := sumY_next hx
      have Hx := Lib.hid ex; clear ex
      have Hy := Lib.hid ey; clear ey
      clear hx
      generalize sumX (xs.take k) = p at b1 b2 Hx ⊢
      generalize sumY (xs.take k) = q at b3 b4 Hy ⊢
      go_wp2_with fail
      go_round
      case rel => exact ⟨k + 1, by omega, by go_num, by rw [Hx.out], by rw [Hy.out]⟩
      case measure => simp [intOf]; omega
    · have e : k = xs.length := by omega
      subst e
      rw [List.take_length]
      go_wp2_with fail
      go_ret2
      exact ⟨rfl, rfl⟩

set_option maxHeartbeats 400000 in
theorem errorOf_any (A : Option Addr) (c : Nat) (xs : List (Int × Int)) (w : World) (hr : Rd w w.heap.size 2 tubeC A xs) (hv : tubesB xs = true) :
    Calls Try.prog 78 #[.slice A xs.length c] w fun e w' => e = .returned (.agg #[.int .i64 (sumX xs), .int .i64 (sumY xs)]) ∧ Below w.heap.size w w' := by
  obtain ⟨v1, v2, v3⟩ := tubesB_true hv
  have Hb := Lib.hid (sums_bd v3)
  have Hv := Lib.hid v3
  clear hv v3
  go_enter Try.func78, Try.ntmps78
  go_wp2_with fail
  go_loopw [8] (fun i wr => ∃ k : Nat, k ≤ xs.length ∧ i = .int .i64 k ∧ Row wr w.heap.size 97 2 ∧ Row wr (w.heap.size + 1) 97 2 ∧ wr.cell? ⟨w.heap.size + 1, 0, none⟩ = some (.int .i64 (sumX (xs.take k))) ∧ wr.cell? ⟨w.heap.size + 1, 1, none⟩ = some (.int .i64 (sumY (xs.take k))) ∧ Below w.heap.size w wr) (fun i _ => xs.length - (intOf i).toNat)
  case atStart => exact ⟨0, Nat.zero_le _, rfl, (Row.new _ _ _).alloc _, by have := Row.new (w.alloc (.cells #[.int .i64 0, .int .i64 0] 97)) #[.int .i64 0, .int .i64 0] 97; simpa using this, by go_simp; rfl, by go_simp; rfl, bthen (balloc _ _) (balloc _ _)⟩
  case round =>
    obtain ⟨k, hk, rfl, hr0, hr1, c0, c1, hb⟩ := hrel
    by_cases hlt : k < xs.length
    · have hx : xs[k]? = some xs[k] := List.getElem?_eq_getElem hlt
      obtain ⟨b, o, rfl, hB, h0, h1⟩ := (hr.below hb).at2 hx rfl
      generalize xs[k] = t at h0 h1 hx
      obtain ⟨a1, a2, a3, a4⟩ := Hv.out k t hx
      obtain ⟨b1, b2, b3, b4⟩ := Hb.out k
      have Hx := Lib.hid (sumX_next hx)
      have Hy := Lib.hid (sumY_next hx)
      clear hx
      generalize sumX (xs.take k) = p at b1 b2 Hx c0 ⊢
      generalize sumY (xs.take k) = q at b3 b4 Hy c1 ⊢
      have f0 := hr1.frozen 0
      have f1 := hr1.frozen 1
      have hlt1 := hr1.lt
      go_wp2_with fail
      exact ⟨⟨k + 1, by omega, by go_num, ((hr0.setCell _ _).setCell _ _).alloc _, ((hr1.setCell _ _).setCell _ _).alloc _, by rw [Hx.out]; go_simp, by rw [Hy.out]; go_simp, ((hb.setCell (by simp) _).setCell (by simp) _).alloc (by simpa using hb.size) _⟩, by simp [intOf]; omega⟩
    · have e : k = xs.length := by omega
      subst e
      rw [List.take_length] at c0 c1
      obtain ⟨z0, y0⟩ := hr0.cell (j := 0) (by omega)
      obtain ⟨z1, y1⟩ := hr0.cell (j := 1) (by omega)
      have f0 := hr0.frozen 0
      have f1 := hr0.frozen 1
      go_wp2_with fail
      refine bodyPost_ret (v := .agg #[.int .i64 (sumX xs), .int .i64 (sumY xs)]) (by simp [results, Try.results78, go_sem, y0, y1]) rfl ⟨rfl, ?_⟩
      exact (hb.setCell (by simp) _).setCell (by simp) _

/-- The error with its code; whether closed, with its code. -/
def errorR (xs : List (Int × Int)) : Int × Int × Int := if tubesB xs = true then (sumX xs, sumY xs, 0) else (0, 0, 1)
def shutB (xs : List (Int × Int)) : Bool := (sumX xs == 0) && (sumY xs == 0)
def closedR (xs : List (Int × Int)) : Bool × Int := if tubesB xs = true then (shutB xs, 0) else (false, 1)

set_option maxHeartbeats 400000 in
theorem ErrorOf_impl (A : Option Addr) (c : Nat) (xs : List (Int × Int)) (w : World) (hr : Rd w w.heap.size 2 tubeC A xs) (hm : xs.length ≤ 1048576) :
    Calls Try.prog 18 #[.slice A xs.length c] w fun e w' => e = .returned (.tuple #[.int .i64 (errorR xs).1, .int .i64 (errorR xs).2.1, .int .i64 (errorR xs).2.2]) ∧ Below w.heap.size w w' := by
  by_cases hv : tubesB xs = true
  · unfold errorR
    rw [if_pos hv]
    go_enter Try.func18, Try.ntmps18
    go_wp2_with fail
    refine (areTubes_impl A c xs _ hr hm).mono ?_
    rw [hv]
    rintro e w1 ⟨rfl, hb1⟩
    go_wp2_with fail
    refine (errorOf_any A c xs _ ((hr.below hb1).more hb1.size) hv).mono ?_
    rintro e w2 ⟨rfl, hb2⟩
    go_wp2_with fail
    go_quiet (fail)
    go_wp2_with fail
    go_ret3
    exact ⟨rfl, below_drewN (bthen (bthen hb1 hb2) (balloc _ _)) _⟩
  · unfold errorR
    rw [if_neg hv]
    have hv' : tubesB xs = false := by simpa using hv
    go_enter Try.func18, Try.ntmps18
    go_wp2_with fail
    refine (areTubes_impl A c xs _ hr hm).mono ?_
    rw [hv']
    rintro e w1 ⟨rfl, hb1⟩
    go_wp2_with fail
    go_ret3
    exact ⟨rfl, hb1⟩

set_option maxHeartbeats 400000 in
theorem ErrorOf_spec (A : Option Addr) (c : Nat) (xs : List (Int × Int)) (w : World) (hr : Rd w w.heap.size 2 tubeC A xs) (hm : xs.length ≤ 1048576) :
    Calls Try.prog 16 #[.slice A xs.length c] w fun e w' => e = .returned (.tuple #[.int .i64 (errorR xs).1, .int .i64 (errorR xs).2.1, .int .i64 (errorR xs).2.2]) ∧ Below w.heap.size w w' := by
  by_cases hv : tubesB xs = true
  · unfold errorR
    rw [if_pos hv]
    go_enter Try.func16, Try.ntmps16
    go_wp2_with fail
    refine (areTubes_spec A c xs _ hr hm).mono ?_
    rw [hv]
    rintro e w1 ⟨rfl, hb1⟩
    go_wp2_with fail
    refine (l20Error_any A c xs _ ((hr.below hb1).more hb1.size) hv).mono ?_
    rintro e w2 ⟨rfl, rfl⟩
    go_wp2_with fail
    go_ret3
    exact ⟨rfl, hb1⟩
  · unfold errorR
    rw [if_neg hv]
    have hv' : tubesB xs = false := by simpa using hv
    go_enter Try.func16, Try.ntmps16
    go_wp2_with fail
    refine (areTubes_spec A c xs _ hr hm).mono ?_
    rw [hv']
    rintro e w1 ⟨rfl, hb1⟩
    go_wp2_with fail
    go_ret3
    exact ⟨rfl, hb1⟩

theorem isClosed_any (A : Option Addr) (c : Nat) (xs : List (Int × Int)) (w : World) (hr : Rd w w.heap.size 2 tubeC A xs) (hv : tubesB xs = true) :
    Calls Try.prog 81 #[.slice A xs.length c] w fun e w' => e = .returned (.bool (shutB xs)) ∧ Below w.heap.size w w' := by
  unfold shutB
  go_enter Try.func81, Try.ntmps81
  go_wp2_with fail
  refine (errorOf_any A c xs _ hr hv).mono ?_
  rintro e w2 ⟨rfl, hb2⟩
  go_wp2_with fail
  all_goals
    go_ret
    refine ⟨ret_bool ?_, hb2⟩
    simp [*]

theorem l20Code_any (A : Option Addr) (c : Nat) (xs : List (Int × Int)) (w : World) (hr : Rd w w.heap.size 2 tubeC A xs) (hm : xs.length ≤ 1048576) :
    Calls Try.prog 80 #[.slice A xs.length c] w fun e w' => e = .returned (.int .i64 (if tubesB xs = true then (if shutB xs = true then 0 else 5) else 1)) ∧ Below w.heap.size w w' := by
  by_cases hv : tubesB xs = true
  · rw [if_pos hv]
    by_cases hs : shutB xs = true
    · rw [if_pos hs]
      simp only [shutB, Bool.and_eq_true] at hs
      obtain ⟨s1, s2⟩ := hs
      have s1' : (sumX xs != 0) = false := by simpa using s1
      have s2' : (sumY xs != 0) = false := by simpa using s2
      clear s1 s2
      go_enter Try.func80, Try.ntmps80
      go_wp2_with fail
      refine (areTubes_spec A c xs _ hr hm).mono ?_
      rw [hv]
      rintro e w1 ⟨rfl, hb1⟩
      go_wp2_with fail
      refine (l20Error_any A c xs _ ((hr.below hb1).more hb1.size) hv).mono ?_
      rintro e w2 ⟨rfl, rfl⟩
      go_wp2_with fail
      go_ret
      exact ⟨rfl, hb1⟩
    · rw [if_neg hs]
      have hs' : (sumX xs != 0) = true ∨ (sumX xs != 0) = false ∧ (sumY xs != 0) = true := by
        simp only [shutB, Bool.and_eq_true] at hs
        by_cases e : sumX xs = 0
        · right
          simp [e] at hs ⊢
          exact hs
        · left
          simpa using e
      clear hs
      rcases hs' with s1 | ⟨s1, s2⟩
      · go_enter Try.func80, Try.ntmps80
        go_wp2_with fail
        refine (areTubes_spec A c xs _ hr hm).mono ?_
        rw [hv]
        rintro e w1 ⟨rfl, hb1⟩
        go_wp2_with fail
        refine (l20Error_any A c xs _ ((hr.below hb1).more hb1.size) hv).mono ?_
        rintro e w2 ⟨rfl, rfl⟩
        go_wp2_with fail
        go_ret
        exact ⟨rfl, hb1⟩
      · go_enter Try.func80, Try.ntmps80
        go_wp2_with fail
        refine (areTubes_spec A c xs _ hr hm).mono ?_
        rw [hv]
        rintro e w1 ⟨rfl, hb1⟩
        go_wp2_with fail
        refine (l20Error_any A c xs _ ((hr.below hb1).more hb1.size) hv).mono ?_
        rintro e w2 ⟨rfl, rfl⟩
        go_wp2_with fail
        go_ret
        exact ⟨rfl, hb1⟩
  · rw [if_neg hv]
    have hv' : tubesB xs = false := by simpa using hv
    go_enter Try.func80, Try.ntmps80
    go_wp2_with fail
    refine (areTubes_spec A c xs _ hr hm).mono ?_
    rw [hv']
    rintro e w1 ⟨rfl, hb1⟩
    go_wp2_with fail
    go_ret
    exact ⟨rfl, hb1⟩

theorem IsClosed_impl (A : Option Addr) (c : Nat) (xs : List (Int × Int)) (w : World) (hr : Rd w w.heap.size 2 tubeC A xs) (hm : xs.length ≤ 1048576) :
    Calls Try.prog 21 #[.slice A xs.length c] w fun e w' => e = .returned (.tuple #[.bool (closedR xs).1, .int .i64 (closedR xs).2]) ∧ Below w.heap.size w w' := by
  by_cases hv : tubesB xs = true
  · unfold closedR
    rw [if_pos hv]
    go_enter Try.func21, Try.ntmps21
    go_wp2_with fail
    refine (areTubes_impl A c xs _ hr hm).mono ?_
    rw [hv]
    rintro e w1 ⟨rfl, hb1⟩
    go_wp2_with fail
    refine (isClosed_any A c xs _ ((hr.below hb1).more hb1.size) hv).mono ?_
    rintro e w2 ⟨rfl, hb2⟩
    go_wp2_with fail
    go_ret2
    exact ⟨rfl, bthen hb1 hb2⟩
  · unfold closedR
    rw [if_neg hv]
    have hv' : tubesB xs = false := by simpa using hv
    go_enter Try.func21, Try.ntmps21
    go_wp2_with fail
    refine (areTubes_impl A c xs _ hr hm).mono ?_
    rw [hv']
    rintro e w1 ⟨rfl, hb1⟩
    go_wp2_with fail
    go_ret2
    exact ⟨rfl, hb1⟩

theorem IsClosed_spec (A : Option Addr) (c : Nat) (xs : List (Int × Int)) (w : World) (hr : Rd w w.heap.size 2 tubeC A xs) (hm : xs.length ≤ 1048576) :
    Calls Try.prog 20 #[.slice A xs.length c] w fun e w' => e = .returned (.tuple #[.bool (closedR xs).1, .int .i64 (closedR xs).2]) ∧ Below w.heap.size w w' := by
  have hc := l20Code_any A c xs w hr hm
  unfold closedR
  by_cases hv : tubesB xs = true
  · rw [if_pos hv] at hc ⊢
    by_cases hs : shutB xs = true
    · rw [if_pos hs] at hc
      rw [hs]
      have HC := Lib.hid hc; clear hc
      go_enter Try.func20, Try.ntmps20
      go_wp2_with fail
      refine HC.out.mono ?_
      rintro e w1 ⟨rfl, hb1⟩
      go_wp2_with fail
      go_ret2
      exact ⟨rfl, hb1⟩
    · rw [if_neg hs] at hc
      rw [show shutB xs = false by simpa using hs]
      have HC := Lib.hid hc; clear hc
      go_enter Try.func20, Try.ntmps20
      go_wp2_with fail
      refine HC.out.mono ?_
      rintro e w1 ⟨rfl, hb1⟩
      go_wp2_with fail
      go_ret2
      exact ⟨rfl, hb1⟩
  · rw [if_neg hv] at hc ⊢
    have HC := Lib.hid hc; clear hc
    go_enter Try.func20, Try.ntmps20
    go_wp2_with fail
    refine HC.out.mono ?_
    rintro e w1 ⟨rfl, hb1⟩
    go_wp2_with fail
    go_ret2
    exact ⟨rfl, hb1⟩

end Go.Proofs.Ytenejfhbcpkfdaa
