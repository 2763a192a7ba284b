/- DERIVED. Riders and sizes drawn. By program (gdrawr.py). -/
import Derived.Test.YtfdnpobppelhaaaBlk
import Derived.Test.YtfdnpobppelhaaaRider
import Derived.Test.YtfdnpobppelhaaaFlSize
import Derived.Test.YtfdnpobppelhaaaDraw5
import Derived.Deep.RegionLaw
namespace Go.Proofs.Ytfdnpobppelhaaa
set_option maxRecDepth 100000
open Go.RowKit

def DrawnRider (w : World) (b : Nat) (A : Option Addr) (c : Nat) (xs : List Int) (e : Ending) (w' : World) : Prop := ∃ h i a : Int, e = .returned (riderV h i a) ∧ -100000 ≤ h ∧ h ≤ 100000 ∧ Feed w' b A c xs ∧ Only b (b + 1) w w'

set_option maxHeartbeats 4000000 in
theorem l19Rider_any (A : Option Addr) (c b : Nat) (xs : List Int) (w : World) (hF : Feed w b A c xs) :
    Calls Try.prog 99 #[.pointer (some ⟨b, 0, none⟩)] w (DrawnRider w b A c xs) := by
  have HN : Hid (∀ (v : World) (n : Int), n < 20000 → Feed v b A c xs → Calls Try.prog 75 #[.pointer (some ⟨b, 0, none⟩), .int .i64 n] v (Drawn v b A c xs n)) := fun v n hn h => l01Next_any A c b xs n v h.src h.rd h.byte h.small (by omega)
  have HP3 : Hid (∀ (v : World) (ys : List Int), 0 < ys.length → ys.length ≤ 1000 → Feed v b A c xs → Calls Try.prog 74 #[.pointer (some ⟨b, 0, none⟩), .slice (some ⟨v.heap.size, 0, none⟩) ys.length ys.length] (v.alloc (.cells (ys.map (Value.int .i64)).toArray 2)) (PickHit v b A c xs ys)) := fun v ys h0 h1 h => pick_next A c b xs v 2 ys h0 h1 h
  have hlb := hF.src.lt
  have hF0 := hF.next (balloc w (.cells #[.int .i64 0, .int .i64 0, .int .i64 0] 25))
  have hO0 : Only b (b + 1) w (w.alloc (.cells #[.int .i64 0, .int .i64 0, .int .i64 0] 25)) := Only.alloc _
  have hB0 : Blk (w.alloc (.cells #[.int .i64 0, .int .i64 0, .int .i64 0] 25)) w.heap.size 25 [.int .i64 0, .int .i64 0, .int .i64 0] := Blk.made w _ _
  have s0 : (w.alloc (.cells #[.int .i64 0, .int .i64 0, .int .i64 0] 25)).heap.size = w.heap.size + 1 := by simp
  clear hF
  go_enter Try.func99, Try.ntmps99
  go_wp2_with fail
  generalize w.alloc (.cells #[.int .i64 0, .int .i64 0, .int .i64 0] 25) = W0 at hF0 hO0 hB0 s0 ⊢
  refine (HN.out W0 500 (by omega) hF0).mono ?_
  rintro e w1 ⟨v1, rfl, a0, a1, _, hS, hO⟩
  have hF1 := hF0.turn hS hO
  have hB1 := hB0.only hO (by omega)
  have hO1 := hO0.trans hO
  have a1 := a1 (by omega)
  have s1 := hO.size
  clear hS hO hF0 hO0 hB0
  go_wp2_with fail
  have hF2 := hF1.next (balloc w1 (.cells #[.int .i64 (1500 + v1), .int .i64 0, .int .i64 0] 25))
  have hO2 : Only b (b + 1) w (w1.alloc (.cells #[.int .i64 (1500 + v1), .int .i64 0, .int .i64 0] 25)) := hO1.trans (Only.alloc _)
  have hB2 := hB1.next (balloc w1 (.cells #[.int .i64 (1500 + v1), .int .i64 0, .int .i64 0] 25))
  have hR2 : Blk (w1.alloc (.cells #[.int .i64 (1500 + v1), .int .i64 0, .int .i64 0] 25)) w1.heap.size 25 [.int .i64 (1500 + v1), .int .i64 0, .int .i64 0] := Blk.made w1 _ _
  clear hF1 hO1 hB1
  generalize w1.alloc (.cells #[.int .i64 (1500 + v1), .int .i64 0, .int .i64 0] 25) = W2 at hF2 hO2 hB2 hR2 ⊢
  have hne : ¬ w1.heap.size = w.heap.size := by omega
  have hne' : ¬ w.heap.size = w1.heap.size := by omega
  have hrb : b < w1.heap.size := by omega
  have hrw : w.heap.size ≤ w1.heap.size := by omega
  clear s0 s1
  generalize w1.heap.size = r at hR2 hne hne' hrb hrw ⊢
  generalize hr2 : w.heap.size = r2 at hB2 hne hne' hrw hlb ⊢
  have HF2 := Lib.hid hF2; clear hF2
  have HO2 := Lib.hid hO2; clear hO2
  have HB2 := Lib.hid hB2; clear hB2
  have HR2 := Lib.hid hR2
  have q0 := hR2.cell (j := 0) rfl
  clear hR2
  go_region_law (first
    | (go_simp; go_at_call 75; (refine (HN.out W2.drew 60 (by omega) (HF2.out.next (bdrew _))).mono ?_); rintro e w3 ⟨v3, rfl, b0, b1, _, hS, hO⟩; have HF3 := Lib.hid ((HF2.out.next (bdrew _)).turn hS hO); have HO3 := Lib.hid ((HO2.out.trans (Only.of_below (bdrew _))).trans hO); have HB3 := Lib.hid ((HB2.out.next (bdrew _)).only hO (by omega)); have HR3 := Lib.hid ((HR2.out.next (bdrew _)).only hO (by omega)); have b1 := b1 (by omega); have q3 := HR3.out.cell (j := 0) rfl; have q31 := HR3.out.cell (j := 1) rfl; have f31 := HR3.out.frozen 1; have l3 := HR3.out.lt; clear hS hO; go_wp2_with fail))
  all_goals
    go_wp2_with fail
    have hF4 := HF3.out.setBlk hrb 1 (.int .i64 ((1500 + v1) * 46 / 100 + v3 - 30))
    have hB4 := HB3.out.far (p := ⟨r, 1, none⟩) hne (.int .i64 ((1500 + v1) * 46 / 100 + v3 - 30))
    have hR4 := HR3.out.set 1 (.int .i64 ((1500 + v1) * 46 / 100 + v3 - 30))
    have hO4 := HO3.out.setNew (p := ⟨r, 1, none⟩) (show w.heap.size ≤ r by omega) (.int .i64 ((1500 + v1) * 46 / 100 + v3 - 30))
    clear q3 q31 f31 l3 HF3 HB3 HR3 HO3
    generalize w3.setCell ⟨r, 1, none⟩ (.int .i64 ((1500 + v1) * 46 / 100 + v3 - 30)) = W4 at hF4 hB4 hR4 hO4 ⊢
    generalize (1500 + v1) * 46 / 100 + v3 - 30 = iv at hR4
    generalize hh1 : 1500 + v1 = hh at hR4
    simp only [List.set_cons_succ, List.set_cons_zero] at hR4
    have hhb : -100000 ≤ hh ∧ hh ≤ 100000 := by omega
    clear hh1
    refine (HN.out W4 200 (by omega) hF4).mono ?_
    rintro e w5 ⟨v5, rfl, c0, c1, _, hS, hO⟩
    have HF5 := Lib.hid (hF4.turn hS hO)
    have HB5 := Lib.hid (hB4.only hO (by omega))
    have HR5 := Lib.hid (hR4.only hO (by omega))
    have HO5 := Lib.hid (hO4.trans hO)
    have c1 := c1 (by omega)
    have y2 := HR5.out.cell (j := 2) rfl
    have g2 := HR5.out.frozen 2
    clear hS hO hF4 hB4 hR4 hO4
    go_wp2_with fail
    have hF6 := HF5.out.setBlk hrb 2 (.int .i64 (500 + v5))
    have hB6 := HB5.out.far (p := ⟨r, 2, none⟩) hne (.int .i64 (500 + v5))
    have hR6 := HR5.out.set 2 (.int .i64 (500 + v5))
    have hO6 := HO5.out.setNew (p := ⟨r, 2, none⟩) (show w.heap.size ≤ r by omega) (.int .i64 (500 + v5))
    clear y2 g2 HF5 HB5 HR5 HO5
    generalize w5.setCell ⟨r, 2, none⟩ (.int .i64 (500 + v5)) = W6 at hF6 hB6 hR6 hO6 ⊢
    generalize 500 + v5 = av at hR6
    simp only [List.set_cons_succ, List.set_cons_zero] at hR6
    refine (HN.out W6 40 (by omega) hF6).mono ?_
    rintro e w7 ⟨v7, rfl, d0, d1, _, hS, hO⟩
    have HF7 := Lib.hid (hF6.turn hS hO)
    have HB7 := Lib.hid (hB6.only hO (by omega))
    have HR7 := Lib.hid (hR6.only hO (by omega))
    have HO7 := Lib.hid (hO6.trans hO)
    clear hS hO hF6 hB6 hR6 hO6 d1 c1
    by_cases h0 : v7 = 0
    · subst h0
      go_wp2_with fail
      refine (HP3.out w7 [999, 1000, 2300, 2301] (by simp) (by simp) HF7.out).mono ?_
      rintro e w8 ⟨v8, hv8, rfl, hF8, hO8⟩
      have hv8b : -100000 ≤ v8 ∧ v8 ≤ 100000 := by
        simp only [List.mem_cons, List.not_mem_nil, or_false] at hv8
        omega
      have HF8 := Lib.hid hF8
      have HB8 := Lib.hid (HB7.out.only hO8 (by omega))
      have HR8 := Lib.hid (HR7.out.only hO8 (by omega))
      have HO8 := Lib.hid (HO7.out.trans hO8)
      clear hF8 hO8 hv8
      have c0x := HR8.out.cell (j := 0) rfl
      have f0 := HR8.out.frozen 0
      have d0x := HB8.out.cell (j := 0) rfl
      have g0 := HB8.out.frozen 0
      have c1x := HR8.out.cell (j := 1) rfl
      have f1 := HR8.out.frozen 1
      have d1x := HB8.out.cell (j := 1) rfl
      have g1 := HB8.out.frozen 1
      have c2x := HR8.out.cell (j := 2) rfl
      have f2 := HR8.out.frozen 2
      have d2x := HB8.out.cell (j := 2) rfl
      have g2 := HB8.out.frozen 2
      have hX : Blk ((((w8.setCell ⟨r, 0, none⟩ (.int .i64 v8)).setCell ⟨r2, 0, none⟩ (.int .i64 v8)).setCell ⟨r2, 1, none⟩ (.int .i64 iv)).setCell ⟨r2, 2, none⟩ (.int .i64 av)) r2 25 [.int .i64 v8, .int .i64 iv, .int .i64 av] := ((((HB8.out.far (p := ⟨r, 0, none⟩) hne (.int .i64 v8)).set 0 (.int .i64 v8)).set 1 (.int .i64 iv)).set 2 (.int .i64 av))
      have hXF : Feed ((((w8.setCell ⟨r, 0, none⟩ (.int .i64 v8)).setCell ⟨r2, 0, none⟩ (.int .i64 v8)).setCell ⟨r2, 1, none⟩ (.int .i64 iv)).setCell ⟨r2, 2, none⟩ (.int .i64 av)) b A c xs := ((((HF8.out.setBlk hrb 0 (.int .i64 v8)).setBlk hlb 0 (.int .i64 v8)).setBlk hlb 1 (.int .i64 iv)).setBlk hlb 2 (.int .i64 av))
      have hXO : Only b (b + 1) w ((((w8.setCell ⟨r, 0, none⟩ (.int .i64 v8)).setCell ⟨r2, 0, none⟩ (.int .i64 v8)).setCell ⟨r2, 1, none⟩ (.int .i64 iv)).setCell ⟨r2, 2, none⟩ (.int .i64 av)) := ((((HO8.out.setNew (p := ⟨r, 0, none⟩) (show w.heap.size ≤ r by omega) (.int .i64 v8)).setNew (p := ⟨r2, 0, none⟩) (show w.heap.size ≤ r2 by omega) (.int .i64 v8)).setNew (p := ⟨r2, 1, none⟩) (show w.heap.size ≤ r2 by omega) (.int .i64 iv)).setNew (p := ⟨r2, 2, none⟩) (show w.heap.size ≤ r2 by omega) (.int .i64 av))
      have u0 := hX.cell (j := 0) rfl
      have u1 := hX.cell (j := 1) rfl
      have u2 := hX.cell (j := 2) rfl
      have HX := Lib.hid (show DrawnRider w b A c xs (.returned (.agg #[.int .i64 v8, .int .i64 iv, .int .i64 av])) ((((w8.setCell ⟨r, 0, none⟩ (.int .i64 v8)).setCell ⟨r2, 0, none⟩ (.int .i64 v8)).setCell ⟨r2, 1, none⟩ (.int .i64 iv)).setCell ⟨r2, 2, none⟩ (.int .i64 av)) from ⟨_, _, _, rfl, by omega, by omega, hXF, hXO⟩)
      clear hX hXF hXO
      go_wp2_with fail
      refine bodyPost_ret (v := .agg #[.int .i64 v8, .int .i64 iv, .int .i64 av]) (by simp [results, Try.results99, go_sem, u0, u1, u2]) rfl ?_
      exact HX.out
    · have hb0 : (v7 == 0) = false := by simp [h0]
      by_cases h1 : v7 = 1
      · subst h1
        go_wp2_with fail
        refine (HP3.out w7 [399, 400, 1100, 1101] (by simp) (by simp) HF7.out).mono ?_
        rintro e w8 ⟨v8, hv8, rfl, hF8, hO8⟩
        have hv8b : -100000 ≤ v8 ∧ v8 ≤ 100000 := by
          simp only [List.mem_cons, List.not_mem_nil, or_false] at hv8
          omega
        have HF8 := Lib.hid hF8
        have HB8 := Lib.hid (HB7.out.only hO8 (by omega))
        have HR8 := Lib.hid (HR7.out.only hO8 (by omega))
        have HO8 := Lib.hid (HO7.out.trans hO8)
        clear hF8 hO8 hv8
        have c0x := HR8.out.cell (j := 0) rfl
        have f0 := HR8.out.frozen 0
        have d0x := HB8.out.cell (j := 0) rfl
        have g0 := HB8.out.frozen 0
        have c1x := HR8.out.cell (j := 1) rfl
        have f1 := HR8.out.frozen 1
        have d1x := HB8.out.cell (j := 1) rfl
        have g1 := HB8.out.frozen 1
        have c2x := HR8.out.cell (j := 2) rfl
        have f2 := HR8.out.frozen 2
        have d2x := HB8.out.cell (j := 2) rfl
        have g2 := HB8.out.frozen 2
        have hX : Blk ((((w8.setCell ⟨r, 1, none⟩ (.int .i64 v8)).setCell ⟨r2, 0, none⟩ (.int .i64 hh)).setCell ⟨r2, 1, none⟩ (.int .i64 v8)).setCell ⟨r2, 2, none⟩ (.int .i64 av)) r2 25 [.int .i64 hh, .int .i64 v8, .int .i64 av] := ((((HB8.out.far (p := ⟨r, 1, none⟩) hne (.int .i64 v8)).set 0 (.int .i64 hh)).set 1 (.int .i64 v8)).set 2 (.int .i64 av))
        have hXF : Feed ((((w8.setCell ⟨r, 1, none⟩ (.int .i64 v8)).setCell ⟨r2, 0, none⟩ (.int .i64 hh)).setCell ⟨r2, 1, none⟩ (.int .i64 v8)).setCell ⟨r2, 2, none⟩ (.int .i64 av)) b A c xs := ((((HF8.out.setBlk hrb 1 (.int .i64 v8)).setBlk hlb 0 (.int .i64 hh)).setBlk hlb 1 (.int .i64 v8)).setBlk hlb 2 (.int .i64 av))
        have hXO : Only b (b + 1) w ((((w8.setCell ⟨r, 1, none⟩ (.int .i64 v8)).setCell ⟨r2, 0, none⟩ (.int .i64 hh)).setCell ⟨r2, 1, none⟩ (.int .i64 v8)).setCell ⟨r2, 2, none⟩ (.int .i64 av)) := ((((HO8.out.setNew (p := ⟨r, 1, none⟩) (show w.heap.size ≤ r by omega) (.int .i64 v8)).setNew (p := ⟨r2, 0, none⟩) (show w.heap.size ≤ r2 by omega) (.int .i64 hh)).setNew (p := ⟨r2, 1, none⟩) (show w.heap.size ≤ r2 by omega) (.int .i64 v8)).setNew (p := ⟨r2, 2, none⟩) (show w.heap.size ≤ r2 by omega) (.int .i64 av))
        have u0 := hX.cell (j := 0) rfl
        have u1 := hX.cell (j := 1) rfl
        have u2 := hX.cell (j := 2) rfl
        have HX := Lib.hid (show DrawnRider w b A c xs (.returned (.agg #[.int .i64 hh, .int .i64 v8, .int .i64 av])) ((((w8.setCell ⟨r, 1, none⟩ (.int .i64 v8)).setCell ⟨r2, 0, none⟩ (.int .i64 hh)).setCell ⟨r2, 1, none⟩ (.int .i64 v8)).setCell ⟨r2, 2, none⟩ (.int .i64 av)) from ⟨_, _, _, rfl, by omega, by omega, hXF, hXO⟩)
        clear hX hXF hXO
        go_wp2_with fail
        refine bodyPost_ret (v := .agg #[.int .i64 hh, .int .i64 v8, .int .i64 av]) (by simp [results, Try.results99, go_sem, u0, u1, u2]) rfl ?_
        exact HX.out
      · have hb1 : (v7 == 1) = false := by simp [h1]
        by_cases h2 : v7 = 2
        · subst h2
          go_wp2_with fail
          refine (HP3.out w7 [299, 300, 900, 901] (by simp) (by simp) HF7.out).mono ?_
          rintro e w8 ⟨v8, hv8, rfl, hF8, hO8⟩
          have hv8b : -100000 ≤ v8 ∧ v8 ≤ 100000 := by
            simp only [List.mem_cons, List.not_mem_nil, or_false] at hv8
            omega
          have HF8 := Lib.hid hF8
          have HB8 := Lib.hid (HB7.out.only hO8 (by omega))
          have HR8 := Lib.hid (HR7.out.only hO8 (by omega))
          have HO8 := Lib.hid (HO7.out.trans hO8)
          clear hF8 hO8 hv8
          have c0x := HR8.out.cell (j := 0) rfl
          have f0 := HR8.out.frozen 0
          have d0x := HB8.out.cell (j := 0) rfl
          have g0 := HB8.out.frozen 0
          have c1x := HR8.out.cell (j := 1) rfl
          have f1 := HR8.out.frozen 1
          have d1x := HB8.out.cell (j := 1) rfl
          have g1 := HB8.out.frozen 1
          have c2x := HR8.out.cell (j := 2) rfl
          have f2 := HR8.out.frozen 2
          have d2x := HB8.out.cell (j := 2) rfl
          have g2 := HB8.out.frozen 2
          have hX : Blk ((((w8.setCell ⟨r, 2, none⟩ (.int .i64 v8)).setCell ⟨r2, 0, none⟩ (.int .i64 hh)).setCell ⟨r2, 1, none⟩ (.int .i64 iv)).setCell ⟨r2, 2, none⟩ (.int .i64 v8)) r2 25 [.int .i64 hh, .int .i64 iv, .int .i64 v8] := ((((HB8.out.far (p := ⟨r, 2, none⟩) hne (.int .i64 v8)).set 0 (.int .i64 hh)).set 1 (.int .i64 iv)).set 2 (.int .i64 v8))
          have hXF : Feed ((((w8.setCell ⟨r, 2, none⟩ (.int .i64 v8)).setCell ⟨r2, 0, none⟩ (.int .i64 hh)).setCell ⟨r2, 1, none⟩ (.int .i64 iv)).setCell ⟨r2, 2, none⟩ (.int .i64 v8)) b A c xs := ((((HF8.out.setBlk hrb 2 (.int .i64 v8)).setBlk hlb 0 (.int .i64 hh)).setBlk hlb 1 (.int .i64 iv)).setBlk hlb 2 (.int .i64 v8))
          have hXO : Only b (b + 1) w ((((w8.setCell ⟨r, 2, none⟩ (.int .i64 v8)).setCell ⟨r2, 0, none⟩ (.int .i64 hh)).setCell ⟨r2, 1, none⟩ (.int .i64 iv)).setCell ⟨r2, 2, none⟩ (.int .i64 v8)) := ((((HO8.out.setNew (p := ⟨r, 2, none⟩) (show w.heap.size ≤ r by omega) (.int .i64 v8)).setNew (p := ⟨r2, 0, none⟩) (show w.heap.size ≤ r2 by omega) (.int .i64 hh)).setNew (p := ⟨r2, 1, none⟩) (show w.heap.size ≤ r2 by omega) (.int .i64 iv)).setNew (p := ⟨r2, 2, none⟩) (show w.heap.size ≤ r2 by omega) (.int .i64 v8))
          have u0 := hX.cell (j := 0) rfl
          have u1 := hX.cell (j := 1) rfl
          have u2 := hX.cell (j := 2) rfl
          have HX := Lib.hid (show DrawnRider w b A c xs (.returned (.agg #[.int .i64 hh, .int .i64 iv, .int .i64 v8])) ((((w8.setCell ⟨r, 2, none⟩ (.int .i64 v8)).setCell ⟨r2, 0, none⟩ (.int .i64 hh)).setCell ⟨r2, 1, none⟩ (.int .i64 iv)).setCell ⟨r2, 2, none⟩ (.int .i64 v8)) from ⟨_, _, _, rfl, by omega, by omega, hXF, hXO⟩)
          clear hX hXF hXO
          go_wp2_with fail
          refine bodyPost_ret (v := .agg #[.int .i64 hh, .int .i64 iv, .int .i64 v8]) (by simp [results, Try.results99, go_sem, u0, u1, u2]) rfl ?_
          exact HX.out
        · have hb2 : (v7 == 2) = false := by simp [h2]
          clear h0 h1 h2
          have c0x := HR7.out.cell (j := 0) rfl
          have f0 := HR7.out.frozen 0
          have d0x := HB7.out.cell (j := 0) rfl
          have g0 := HB7.out.frozen 0
          have c1x := HR7.out.cell (j := 1) rfl
          have f1 := HR7.out.frozen 1
          have d1x := HB7.out.cell (j := 1) rfl
          have g1 := HB7.out.frozen 1
          have c2x := HR7.out.cell (j := 2) rfl
          have f2 := HR7.out.frozen 2
          have d2x := HB7.out.cell (j := 2) rfl
          have g2 := HB7.out.frozen 2
          have hX : Blk (((w7.setCell ⟨r2, 0, none⟩ (.int .i64 hh)).setCell ⟨r2, 1, none⟩ (.int .i64 iv)).setCell ⟨r2, 2, none⟩ (.int .i64 av)) r2 25 [.int .i64 hh, .int .i64 iv, .int .i64 av] := (((HB7.out.set 0 (.int .i64 hh)).set 1 (.int .i64 iv)).set 2 (.int .i64 av))
          have hXF : Feed (((w7.setCell ⟨r2, 0, none⟩ (.int .i64 hh)).setCell ⟨r2, 1, none⟩ (.int .i64 iv)).setCell ⟨r2, 2, none⟩ (.int .i64 av)) b A c xs := (((HF7.out.setBlk hlb 0 (.int .i64 hh)).setBlk hlb 1 (.int .i64 iv)).setBlk hlb 2 (.int .i64 av))
          have hXO : Only b (b + 1) w (((w7.setCell ⟨r2, 0, none⟩ (.int .i64 hh)).setCell ⟨r2, 1, none⟩ (.int .i64 iv)).setCell ⟨r2, 2, none⟩ (.int .i64 av)) := (((HO7.out.setNew (p := ⟨r2, 0, none⟩) (show w.heap.size ≤ r2 by omega) (.int .i64 hh)).setNew (p := ⟨r2, 1, none⟩) (show w.heap.size ≤ r2 by omega) (.int .i64 iv)).setNew (p := ⟨r2, 2, none⟩) (show w.heap.size ≤ r2 by omega) (.int .i64 av))
          have u0 := hX.cell (j := 0) rfl
          have u1 := hX.cell (j := 1) rfl
          have u2 := hX.cell (j := 2) rfl
          have HX := Lib.hid (show DrawnRider w b A c xs (.returned (.agg #[.int .i64 hh, .int .i64 iv, .int .i64 av])) (((w7.setCell ⟨r2, 0, none⟩ (.int .i64 hh)).setCell ⟨r2, 1, none⟩ (.int .i64 iv)).setCell ⟨r2, 2, none⟩ (.int .i64 av)) from ⟨_, _, _, rfl, by omega, by omega, hXF, hXO⟩)
          clear hX hXF hXO
          go_wp2_with fail
          refine bodyPost_ret (v := .agg #[.int .i64 hh, .int .i64 iv, .int .i64 av]) (by simp [results, Try.results99, go_sem, u0, u1, u2]) rfl ?_
          exact HX.out

def DrawnSize (name : ByteArray) (w : World) (b : Nat) (A : Option Addr) (c : Nat) (xs : List Int) (e : Ending) (w' : World) : Prop := ∃ x y z : Int, e = .returned (.agg #[.string name, .int .i64 x, .int .i64 y, .int .i64 z]) ∧ -100000 ≤ x ∧ x ≤ 100000 ∧ -100000 ≤ y ∧ y ≤ 100000 ∧ Feed w' b A c xs ∧ Only b (b + 1) w w'
set_option maxHeartbeats 4000000 in
theorem l19Good_any (A : Option Addr) (c b : Nat) (xs : List Int) (name : ByteArray) (w : World) (hF : Feed w b A c xs) :
    Calls Try.prog 100 #[.pointer (some ⟨b, 0, none⟩), .string name] w (DrawnSize name w b A c xs) := by
  have HN : Hid (∀ (v : World) (n : Int), n < 20000 → Feed v b A c xs → Calls Try.prog 75 #[.pointer (some ⟨b, 0, none⟩), .int .i64 n] v (Drawn v b A c xs n)) := fun v n hn h => l01Next_any A c b xs n v h.src h.rd h.byte h.small (by omega)
  have hlb := hF.src.lt
  have hF0 := hF.next (balloc w (.cells #[.string ⟨#[]⟩, .int .i64 0, .int .i64 0, .int .i64 0] 27))
  have hO0 : Only b (b + 1) w (w.alloc (.cells #[.string ⟨#[]⟩, .int .i64 0, .int .i64 0, .int .i64 0] 27)) := Only.alloc _
  have hB0 : Blk (w.alloc (.cells #[.string ⟨#[]⟩, .int .i64 0, .int .i64 0, .int .i64 0] 27)) w.heap.size 27 [.string ⟨#[]⟩, .int .i64 0, .int .i64 0, .int .i64 0] := Blk.made w _ _
  clear hF
  go_enter Try.func100, Try.ntmps100
  go_wp2_with fail
  generalize w.alloc (.cells #[.string ⟨#[]⟩, .int .i64 0, .int .i64 0, .int .i64 0] 27) = W0 at hF0 hO0 hB0 ⊢
  generalize hr2 : w.heap.size = r2 at hB0 hlb ⊢
  refine (HN.out W0 200 (by omega) hF0).mono ?_
  rintro e w1 ⟨v1, rfl, a0, a1, _, hS, hO⟩
  have hF1 := hF0.turn hS hO
  have hB1 := hB0.only hO (by omega)
  have hO1 := hO0.trans hO
  have a1 := a1 (by omega)
  have HF1 := Lib.hid hF1
  clear hS hO hF0 hO0 hB0 hF1
  go_wp2_with fail
  refine (HN.out w1 180 (by omega) HF1.out).mono ?_
  rintro e w2 ⟨v2, rfl, b0, b1, _, hS, hO⟩
  have HF2 := Lib.hid (HF1.out.turn hS hO)
  have hB2 := hB1.only hO (by omega)
  have hO2 := hO1.trans hO
  have b1 := b1 (by omega)
  clear hS hO HF1 hB1 hO1
  go_wp2_with fail
  refine (HN.out w2 120 (by omega) HF2.out).mono ?_
  rintro e w3 ⟨v3, rfl, c0, c1, _, hS, hO⟩
  have HF3 := Lib.hid (HF2.out.turn hS hO)
  have hB3 := hB2.only hO (by omega)
  have hO3 := hO2.trans hO
  have c1 := c1 (by omega)
  clear hS hO HF2 hB2 hO2
  have d0 := hB3.cell (j := 0) rfl
  have d1 := hB3.cell (j := 1) rfl
  have d2 := hB3.cell (j := 2) rfl
  have d3 := hB3.cell (j := 3) rfl
  have g0 := hB3.frozen 0
  have g1 := hB3.frozen 1
  have g2 := hB3.frozen 2
  have g3 := hB3.frozen 3
  have hX : Blk ((((w3.setCell ⟨r2, 0, none⟩ (.string name)).setCell ⟨r2, 1, none⟩ (.int .i64 (400 + v1))).setCell ⟨r2, 2, none⟩ (.int .i64 (340 + v2))).setCell ⟨r2, 3, none⟩ (.int .i64 (500 + v3))) r2 27 [.string name, .int .i64 (400 + v1), .int .i64 (340 + v2), .int .i64 (500 + v3)] := (((hB3.set 0 _).set 1 _).set 2 _).set 3 _
  have hXF := (((HF3.out.setBlk hlb 0 (.string name)).setBlk hlb 1 (.int .i64 (400 + v1))).setBlk hlb 2 (.int .i64 (340 + v2))).setBlk hlb 3 (.int .i64 (500 + v3))
  have hXO := (((hO3.setNew (p := ⟨r2, 0, none⟩) (show w.heap.size ≤ r2 by omega) (.string name)).setNew (p := ⟨r2, 1, none⟩) (show w.heap.size ≤ r2 by omega) (.int .i64 (400 + v1))).setNew (p := ⟨r2, 2, none⟩) (show w.heap.size ≤ r2 by omega) (.int .i64 (340 + v2))).setNew (p := ⟨r2, 3, none⟩) (show w.heap.size ≤ r2 by omega) (.int .i64 (500 + v3))
  have u0 := hX.cell (j := 0) rfl
  have u1 := hX.cell (j := 1) rfl
  have u2 := hX.cell (j := 2) rfl
  have u3 := hX.cell (j := 3) rfl
  have HX := Lib.hid (show DrawnSize name w b A c xs (.returned (.agg #[.string name, .int .i64 (400 + v1), .int .i64 (340 + v2), .int .i64 (500 + v3)])) _ from ⟨_, _, _, rfl, by omega, by omega, by omega, by omega, hXF, hXO⟩)
  clear hX hXF hXO hB3 hO3
  go_wp2_with fail
  refine bodyPost_ret (v := .agg #[.string name, .int .i64 (400 + v1), .int .i64 (340 + v2), .int .i64 (500 + v3)]) (by simp [results, Try.results100, go_sem, u0, u1, u2, u3]) rfl ?_
  exact HX.out
end Go.Proofs.Ytfdnpobppelhaaa
