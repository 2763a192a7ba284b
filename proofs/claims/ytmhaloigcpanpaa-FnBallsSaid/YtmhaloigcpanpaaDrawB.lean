/- DERIVED. Races drawn. By program (gdrawb.py). -/
import Derived.Test.YtmhaloigcpanpaaBlk
import Derived.Test.YtmhaloigcpanpaaDraw5
import Derived.Deep.RegionLaw
namespace Go.Proofs.Ytmhaloigcpanpaa
set_option maxRecDepth 100000
open Go.RowKit

def DrawnRace (w : World) (b : Nat) (A : Option Addr) (c : Nat) (xs : List Int) (e : Ending) (w' : World) : Prop := ∃ d q : Int, e = .returned (.agg #[.int .i64 d, .int .i64 q]) ∧ Feed w' b A c xs ∧ Only b (b + 1) w w'

set_option maxHeartbeats 4000000 in
theorem l15Draw_any (A : Option Addr) (c b : Nat) (xs : List Int) (w : World) (hF : Feed w b A c xs) :
    Calls Try.prog 143 #[.pointer (some ⟨b, 0, none⟩)] w (DrawnRace w b A c xs) := by
  have HN : Hid (∀ (v : World) (n : Int), n < 20000 → Feed v b A c xs → Calls Try.prog 109 #[.pointer (some ⟨b, 0, none⟩), .int .i64 n] v (Drawn v b A c xs n)) := fun v n hn h => l01Next_any A c b xs n v h.src h.rd h.byte h.small (by omega)
  have HP3 : Hid (∀ (v : World) (ys : List Int), 0 < ys.length → ys.length ≤ 1000 → Feed v b A c xs → Calls Try.prog 120 #[.pointer (some ⟨b, 0, none⟩), .slice (some ⟨v.heap.size, 0, none⟩) ys.length ys.length] (v.alloc (.cells (ys.map (Value.int .i64)).toArray 2)) (PickHit v b A c xs ys)) := fun v ys h0 h1 h => pick_next A c b xs v 2 ys h0 h1 h
  have hlb := hF.src.lt
  have hF0 := hF.next (balloc w (.cells #[.int .i64 0, .int .i64 0] 84))
  have hO0 : Only b (b + 1) w (w.alloc (.cells #[.int .i64 0, .int .i64 0] 84)) := Only.alloc _
  have hB0 : Blk (w.alloc (.cells #[.int .i64 0, .int .i64 0] 84)) w.heap.size 84 [.int .i64 0, .int .i64 0] := Blk.made w _ _
  have s0 : (w.alloc (.cells #[.int .i64 0, .int .i64 0] 84)).heap.size = w.heap.size + 1 := by simp
  clear hF
  go_enter Try.func143, Try.ntmps143
  go_wp2_with fail
  generalize w.alloc (.cells #[.int .i64 0, .int .i64 0] 84) = W0 at hF0 hO0 hB0 s0 ⊢
  refine (HN.out W0 400 (by omega) hF0).mono ?_
  rintro e w1 ⟨v1, rfl, a0, a1, _, hS, hO⟩
  have hF1 := hF0.turn hS hO
  have hB1 := hB0.only hO (by omega)
  have hO1 := hO0.trans hO
  have a1 := a1 (by omega)
  have s1 := hO.size
  clear hS hO hF0 hO0 hB0
  have HF1 := Lib.hid hF1; clear hF1
  go_wp2_with fail
  refine (HP3.out w1 [32, 40, 48, 64] (by simp) (by simp) HF1.out).mono ?_
  rintro e w2 ⟨v2, hv2, rfl, hF2, hO⟩
  have hB2 := hB1.only hO (by omega)
  have hO2 := hO1.trans hO
  have s2 := hO.size
  clear hO hv2 hB1 hO1 HF1
  go_wp2_with fail
  have hF3 := hF2.next (balloc w2 (.cells #[.int .i64 (150 + v1), .int .i64 v2] 84))
  have hO3 : Only b (b + 1) w (w2.alloc (.cells #[.int .i64 (150 + v1), .int .i64 v2] 84)) := hO2.trans (Only.alloc _)
  have hB3 := hB2.next (balloc w2 (.cells #[.int .i64 (150 + v1), .int .i64 v2] 84))
  have hR3 : Blk (w2.alloc (.cells #[.int .i64 (150 + v1), .int .i64 v2] 84)) w2.heap.size 84 [.int .i64 (150 + v1), .int .i64 v2] := Blk.made w2 _ _
  clear hF2 hO2 hB2
  generalize w2.alloc (.cells #[.int .i64 (150 + v1), .int .i64 v2] 84) = W3 at hF3 hO3 hB3 hR3 ⊢
  have hne : ¬ w2.heap.size = w.heap.size := by omega
  have hne' : ¬ w.heap.size = w2.heap.size := by omega
  have hrb : b < w2.heap.size := by omega
  have hrw : w.heap.size ≤ w2.heap.size := by omega
  clear s0 s1 s2
  generalize w2.heap.size = r at hR3 hne hne' hrb hrw ⊢
  generalize hr2 : w.heap.size = r2 at hB3 hne hne' hrw hlb ⊢
  have hr2w : w.heap.size ≤ r2 := by omega
  have hrw2 : w.heap.size ≤ r := by omega
  refine (HN.out W3 24 (by omega) hF3).mono ?_
  rintro e w4 ⟨v4, rfl, c0, c1, _, hS, hO⟩
  have HF4 := Lib.hid (hF3.turn hS hO)
  have HB4 := Lib.hid (hB3.only hO (by omega))
  have HR4 := Lib.hid (hR3.only hO (by omega))
  have HO4 := Lib.hid (hO3.trans hO)
  clear hS hO hF3 hB3 hR3 hO3 c1
  by_cases h0 : v4 = 0
  · subst h0
    go_wp2_with fail
    refine (HP3.out w4 [49, 50, 2000, 2001] (by simp) (by simp) HF4.out).mono ?_
    rintro e w5 ⟨v5, hv5, rfl, hF5, hO5⟩
    have HF5 := Lib.hid hF5
    have HB5 := Lib.hid (HB4.out.only hO5 (by omega))
    have HR5 := Lib.hid (HR4.out.only hO5 (by omega))
    have HO5 := Lib.hid (HO4.out.trans hO5)
    clear hF5 hO5 hv5
    have c0 := HR5.out.cell (j := 0) rfl
    have c1 := HR5.out.cell (j := 1) rfl
    have f0 := HR5.out.frozen 0
    have f1 := HR5.out.frozen 1
    have d0 := HB5.out.cell (j := 0) rfl
    have d1 := HB5.out.cell (j := 1) rfl
    have g0 := HB5.out.frozen 0
    have g1 := HB5.out.frozen 1
    have hX : Blk (((w5.setCell ⟨r, 0, none⟩ (.int .i64 v5)).setCell ⟨r2, 0, none⟩ (.int .i64 v5)).setCell ⟨r2, 1, none⟩ (.int .i64 v2)) r2 84 [.int .i64 v5, .int .i64 v2] := ((HB5.out.far (p := ⟨r, 0, none⟩) hne (.int .i64 v5)).set 0 (.int .i64 v5)).set 1 (.int .i64 v2)
    have hXF : Feed (((w5.setCell ⟨r, 0, none⟩ (.int .i64 v5)).setCell ⟨r2, 0, none⟩ (.int .i64 v5)).setCell ⟨r2, 1, none⟩ (.int .i64 v2)) b A c xs := ((HF5.out.setBlk hrb 0 (.int .i64 v5)).setBlk hlb 0 (.int .i64 v5)).setBlk hlb 1 (.int .i64 v2)
    have hXO : Only b (b + 1) w (((w5.setCell ⟨r, 0, none⟩ (.int .i64 v5)).setCell ⟨r2, 0, none⟩ (.int .i64 v5)).setCell ⟨r2, 1, none⟩ (.int .i64 v2)) := ((HO5.out.setNew (p := ⟨r, 0, none⟩) hrw2 (.int .i64 v5)).setNew (p := ⟨r2, 0, none⟩) hr2w (.int .i64 v5)).setNew (p := ⟨r2, 1, none⟩) hr2w (.int .i64 v2)
    have u0 := hX.cell (j := 0) rfl
    have u1 := hX.cell (j := 1) rfl
    have HX := Lib.hid (show DrawnRace w b A c xs (.returned (.agg #[.int .i64 v5, .int .i64 v2])) (((w5.setCell ⟨r, 0, none⟩ (.int .i64 v5)).setCell ⟨r2, 0, none⟩ (.int .i64 v5)).setCell ⟨r2, 1, none⟩ (.int .i64 v2)) from ⟨_, _, rfl, hXF, hXO⟩)
    clear hX hXF hXO
    go_wp2_with fail
    refine bodyPost_ret (v := .agg #[.int .i64 v5, .int .i64 v2]) (by simp [results, Try.results143, go_sem, u0, u1]) rfl ?_
    exact HX.out
  · have hb0 : (v4 == 0) = false := by simp [h0]
    by_cases h1 : v4 = 1
    · subst h1
      go_wp2_with fail
      refine (HP3.out w4 [9, 10, 200, 201] (by simp) (by simp) HF4.out).mono ?_
      rintro e w5 ⟨v5, hv5, rfl, hF5, hO5⟩
      have HF5 := Lib.hid hF5
      have HB5 := Lib.hid (HB4.out.only hO5 (by omega))
      have HR5 := Lib.hid (HR4.out.only hO5 (by omega))
      have HO5 := Lib.hid (HO4.out.trans hO5)
      clear hF5 hO5 hv5
      have c0 := HR5.out.cell (j := 0) rfl
      have c1 := HR5.out.cell (j := 1) rfl
      have f0 := HR5.out.frozen 0
      have f1 := HR5.out.frozen 1
      have d0 := HB5.out.cell (j := 0) rfl
      have d1 := HB5.out.cell (j := 1) rfl
      have g0 := HB5.out.frozen 0
      have g1 := HB5.out.frozen 1
      have hX : Blk (((w5.setCell ⟨r, 1, none⟩ (.int .i64 v5)).setCell ⟨r2, 0, none⟩ (.int .i64 (150 + v1))).setCell ⟨r2, 1, none⟩ (.int .i64 v5)) r2 84 [.int .i64 (150 + v1), .int .i64 v5] := ((HB5.out.far (p := ⟨r, 1, none⟩) hne (.int .i64 v5)).set 0 (.int .i64 (150 + v1))).set 1 (.int .i64 v5)
      have hXF : Feed (((w5.setCell ⟨r, 1, none⟩ (.int .i64 v5)).setCell ⟨r2, 0, none⟩ (.int .i64 (150 + v1))).setCell ⟨r2, 1, none⟩ (.int .i64 v5)) b A c xs := ((HF5.out.setBlk hrb 1 (.int .i64 v5)).setBlk hlb 0 (.int .i64 (150 + v1))).setBlk hlb 1 (.int .i64 v5)
      have hXO : Only b (b + 1) w (((w5.setCell ⟨r, 1, none⟩ (.int .i64 v5)).setCell ⟨r2, 0, none⟩ (.int .i64 (150 + v1))).setCell ⟨r2, 1, none⟩ (.int .i64 v5)) := ((HO5.out.setNew (p := ⟨r, 1, none⟩) hrw2 (.int .i64 v5)).setNew (p := ⟨r2, 0, none⟩) hr2w (.int .i64 (150 + v1))).setNew (p := ⟨r2, 1, none⟩) hr2w (.int .i64 v5)
      have u0 := hX.cell (j := 0) rfl
      have u1 := hX.cell (j := 1) rfl
      have HX := Lib.hid (show DrawnRace w b A c xs (.returned (.agg #[.int .i64 (150 + v1), .int .i64 v5])) (((w5.setCell ⟨r, 1, none⟩ (.int .i64 v5)).setCell ⟨r2, 0, none⟩ (.int .i64 (150 + v1))).setCell ⟨r2, 1, none⟩ (.int .i64 v5)) from ⟨_, _, rfl, hXF, hXO⟩)
      clear hX hXF hXO
      go_wp2_with fail
      refine bodyPost_ret (v := .agg #[.int .i64 (150 + v1), .int .i64 v5]) (by simp [results, Try.results143, go_sem, u0, u1]) rfl ?_
      exact HX.out
    · have hb1 : (v4 == 1) = false := by simp [h1]
      clear h0 h1
      have c0 := HR4.out.cell (j := 0) rfl
      have c1 := HR4.out.cell (j := 1) rfl
      have f0 := HR4.out.frozen 0
      have f1 := HR4.out.frozen 1
      have d0 := HB4.out.cell (j := 0) rfl
      have d1 := HB4.out.cell (j := 1) rfl
      have g0 := HB4.out.frozen 0
      have g1 := HB4.out.frozen 1
      have hX : Blk ((w4.setCell ⟨r2, 0, none⟩ (.int .i64 (150 + v1))).setCell ⟨r2, 1, none⟩ (.int .i64 v2)) r2 84 [.int .i64 (150 + v1), .int .i64 v2] := (HB4.out.set 0 (.int .i64 (150 + v1))).set 1 (.int .i64 v2)
      have hXF : Feed ((w4.setCell ⟨r2, 0, none⟩ (.int .i64 (150 + v1))).setCell ⟨r2, 1, none⟩ (.int .i64 v2)) b A c xs := (HF4.out.setBlk hlb 0 (.int .i64 (150 + v1))).setBlk hlb 1 (.int .i64 v2)
      have hXO : Only b (b + 1) w ((w4.setCell ⟨r2, 0, none⟩ (.int .i64 (150 + v1))).setCell ⟨r2, 1, none⟩ (.int .i64 v2)) := (HO4.out.setNew (p := ⟨r2, 0, none⟩) hr2w (.int .i64 (150 + v1))).setNew (p := ⟨r2, 1, none⟩) hr2w (.int .i64 v2)
      have u0 := hX.cell (j := 0) rfl
      have u1 := hX.cell (j := 1) rfl
      have HX := Lib.hid (show DrawnRace w b A c xs (.returned (.agg #[.int .i64 (150 + v1), .int .i64 v2])) ((w4.setCell ⟨r2, 0, none⟩ (.int .i64 (150 + v1))).setCell ⟨r2, 1, none⟩ (.int .i64 v2)) from ⟨_, _, rfl, hXF, hXO⟩)
      clear hX hXF hXO
      go_wp2_with fail
      refine bodyPost_ret (v := .agg #[.int .i64 (150 + v1), .int .i64 v2]) (by simp [results, Try.results143, go_sem, u0, u1]) rfl ?_
      exact HX.out

/-- A race and a number. -/
def GivenRace (w : World) (e : Ending) (w' : World) : Prop := ∃ d q n : Int, e = .returned (.tuple #[.agg #[.int .i64 d, .int .i64 q], .int .i64 n]) ∧ Below w.heap.size w w'
set_option maxHeartbeats 4000000 in
theorem DrawChordOf_any (A : Option Addr) (c : Nat) (xs : List Int) (w : World) (hr : Rd w w.heap.size 1 uC A xs) (hx : ∀ x ∈ xs, 0 ≤ x ∧ x < 256) (hm : xs.length ≤ 4096) :
    Calls Try.prog 118 #[.slice A xs.length c] w (GivenRace w) := by
  have hlV : w.heap.size < (w.alloc (.cells #[.int .i64 0, .int .i64 0] 84)).heap.size := by simp
  have sV : (w.alloc (.cells #[.int .i64 0, .int .i64 0] 84)).heap.size = w.heap.size + 1 := by simp
  have hbV : Below w.heap.size w (w.alloc (.cells #[.int .i64 0, .int .i64 0] 84)) := balloc _ _
  have hB0 : Blk (w.alloc (.cells #[.int .i64 0, .int .i64 0] 84)) w.heap.size 84 [.int .i64 0, .int .i64 0] := Blk.made w _ _
  have hrV : Rd (w.alloc (.cells #[.int .i64 0, .int .i64 0] 84)) (w.alloc (.cells #[.int .i64 0, .int .i64 0] 84)).heap.size 1 uC A xs := (hr.below hbV).more (Nat.le_of_lt hlV)
  have HFd : Hid (∀ (v : World) (b : Nat), Src v b A c xs → w.heap.size ≤ b → Below w.heap.size w v → Feed v b A c xs) := fun v b h1 h2 h3 => ⟨h1, (hr.below h3).more h2, hx, hm⟩
  have HS := Lib.hid (l01From_any A c xs (w.alloc (.cells #[.int .i64 0, .int .i64 0] 84)) hrV hx hm)
  have HD : Hid (∀ (v : World) (b : Nat), Feed v b A c xs → Calls Try.prog 143 #[.pointer (some ⟨b, 0, none⟩)] v (DrawnRace v b A c xs)) := fun v b h => l15Draw_any A c b xs v h
  have HN : Hid (∀ (v : World) (b : Nat) (n : Int), n < 20000 → Feed v b A c xs → Calls Try.prog 109 #[.pointer (some ⟨b, 0, none⟩), .int .i64 n] v (Drawn v b A c xs n)) := fun v b n hn h => l01Next_any A c b xs n v h.src h.rd h.byte h.small (by omega)
  have HP3 : Hid (∀ (v : World) (b : Nat) (ys : List Int), 0 < ys.length → ys.length ≤ 1000 → Feed v b A c xs → Calls Try.prog 120 #[.pointer (some ⟨b, 0, none⟩), .slice (some ⟨v.heap.size, 0, none⟩) ys.length ys.length] (v.alloc (.cells (ys.map (Value.int .i64)).toArray 2)) (PickHit v b A c xs ys)) := fun v b ys h0 h1 h => pick_next A c b xs v 2 ys h0 h1 h
  clear hr hx hrV
  go_enter Try.func118, Try.ntmps118
  go_wp2_with fail
  generalize w.alloc (.cells #[.int .i64 0, .int .i64 0] 84) = V at hlV hbV HS hB0 sV ⊢
  generalize hr0 : w.heap.size = r at hlV hB0 hbV HFd sV ⊢
  refine HS.out.mono ?_
  rintro e w1 ⟨b, rfl, hS, hbl, hb1⟩
  have hbw1 : Below r w w1 := hbV.trans (hb1.mono (by omega))
  have HF1 := Lib.hid (HFd.out w1 b hS (by omega) hbw1)
  have hB1 := hB0.next hb1
  have hlt1 := hS.lt
  clear hS HS HFd hb1 hbV hB0
  go_wp2_with fail
  refine (HD.out w1 b HF1.out).mono ?_
  rintro e w2 ⟨d, q, rfl, hF2, hO2⟩
  have hB2 := hB1.only hO2 (by omega)
  have hbw2 : Below r w w2 := hbw1.trans (hO2.below (by omega) (by omega))
  have s2 := hO2.size
  clear hB1 hO2 HF1 HD hbw1
  have HF2 := Lib.hid hF2; clear hF2
  go_wp2_with fail
  have hF3 := HF2.out.next (balloc w2 (.cells #[.int .i64 d, .int .i64 q] 84))
  have hB3 := hB2.next (balloc w2 (.cells #[.int .i64 d, .int .i64 q] 84))
  have hR3 : Blk (w2.alloc (.cells #[.int .i64 d, .int .i64 q] 84)) w2.heap.size 84 [.int .i64 d, .int .i64 q] := Blk.made w2 _ _
  have hbw3 : Below r w (w2.alloc (.cells #[.int .i64 d, .int .i64 q] 84)) := hbw2.alloc (by omega) _
  have s3 : (w2.alloc (.cells #[.int .i64 d, .int .i64 q] 84)).heap.size = w2.heap.size + 1 := by simp
  clear HF2 hB2 hbw2
  generalize w2.alloc (.cells #[.int .i64 d, .int .i64 q] 84) = W at hF3 hB3 hR3 hbw3 s3 ⊢
  have hne : ¬ w2.heap.size = r := by omega
  have hne' : ¬ r = w2.heap.size := by omega
  have hbr : b < w2.heap.size := by omega
  generalize w2.heap.size = r5 at hR3 hne hne' hbr s3 s2 ⊢
  have HF3 := Lib.hid hF3; clear hF3
  have HB3 := Lib.hid hB3; clear hB3
  have HR3 := Lib.hid hR3
  have HW3 := Lib.hid hbw3; clear hbw3
  have q0 := hR3.cell (j := 0) rfl
  have q1 := hR3.cell (j := 1) rfl
  have d0 := HB3.out.cell (j := 0) rfl
  have d1 := HB3.out.cell (j := 1) rfl
  have g0 := HB3.out.frozen 0
  have g1 := HB3.out.frozen 1
  clear hR3
  go_region_law (first
    | (go_simp; go_at_call 109; (refine (HN.out W.drew b 38 (by omega) (HF3.out.next (bdrew _))).mono ?_); rintro e w3 ⟨v3, rfl, b0, b1, _, hS, hO⟩; have HF4 := Lib.hid ((HF3.out.next (bdrew _)).turn hS hO); have HW4 := Lib.hid ((HW3.out.trans ((bdrew W).mono (by omega))).trans (hO.below (by omega) (by have e : W.drew.heap.size = W.heap.size := rfl; omega))); have HB4 := Lib.hid ((HB3.out.next (bdrew _)).only hO (by omega)); have HR4 := Lib.hid ((HR3.out.next (bdrew _)).only hO (by omega)); have b1 := b1 (by omega); have s4 := hO.size; have e4 : W.drew.heap.size = W.heap.size := rfl; have y0 := HR4.out.cell (j := 0) rfl; have y1 := HR4.out.cell (j := 1) rfl; have z0 := HB4.out.cell (j := 0) rfl; have z1 := HB4.out.cell (j := 1) rfl; have h0 := HB4.out.frozen 0; have h1 := HB4.out.frozen 1; have hw : IntKind.i64.wrap (3 + v3) = 3 + v3 := IntWalk.i64_in _ (by omega); have n5 : ¬ r5 = w3.heap.size := (by omega); have n5q : ¬ w3.heap.size = r5 := (by omega); have n6 : ¬ r = w3.heap.size := (by omega); have n6q : ¬ w3.heap.size = r := (by omega); have l5 : r5 < w3.heap.size := (by omega); have l6 : r < w3.heap.size := (by omega); clear hS hO; go_wp2_with fail)
    | (go_simp; go_at_call 120; (refine (HP3.out w3 b [3 + v3, 9, 3, 40, 41, 2] (by simp) (by simp) HF4.out).mono ?_); rintro e w5 ⟨v5, hv5, rfl, hF5, hO⟩; have HW5 := Lib.hid (HW4.out.trans (hO.below (by omega) (by omega))); have HB5 := Lib.hid (HB4.out.only hO (by omega)); have HR5 := Lib.hid (HR4.out.only hO (by omega)); have x0 := HR5.out.cell (j := 0) rfl; have x1 := HR5.out.cell (j := 1) rfl; have k0 := HB5.out.cell (j := 0) rfl; have k1 := HB5.out.cell (j := 1) rfl; have l0 := HB5.out.frozen 0; have l1 := HB5.out.frozen 1; clear hF5 hO hv5; go_wp2_with fail))
  all_goals
    go_wp2_with fail
    have hX : Blk ((w5.setCell ⟨r, 0, none⟩ (.int .i64 d)).setCell ⟨r, 1, none⟩ (.int .i64 q)) r 84 [.int .i64 d, .int .i64 q] := (HB5.out.set 0 (.int .i64 d)).set 1 (.int .i64 q)
    have u0 := hX.cell (j := 0) rfl
    have u1 := hX.cell (j := 1) rfl
    have hXB : Below r w ((w5.setCell ⟨r, 0, none⟩ (.int .i64 d)).setCell ⟨r, 1, none⟩ (.int .i64 q)) := (HW5.out.setCell (p := ⟨r, 0, none⟩) (Nat.le_refl _) _).setCell (p := ⟨r, 1, none⟩) (Nat.le_refl _) _
    refine bodyPost_ret (v := .tuple #[.agg #[.int .i64 d, .int .i64 q], .int .i64 v5]) (by simp [results, Try.results118, go_sem, u0, u1]) rfl ?_
    exact ⟨d, q, v5, rfl, by rw [hr0]; exact hXB⟩

/-- The same. -/
theorem DrawLargestBall_any (A : Option Addr) (c : Nat) (xs : List Int) (w : World) (hr : Rd w w.heap.size 1 uC A xs) (hx : ∀ x ∈ xs, 0 ≤ x ∧ x < 256) (hm : xs.length ≤ 4096) :
    Calls Try.prog 63 #[.slice A xs.length c] w (GivenRace w) := by
  have hlV : w.heap.size < (w.alloc (.cells #[.int .i64 0, .int .i64 0] 84)).heap.size := by simp
  have hbV : Below w.heap.size w (w.alloc (.cells #[.int .i64 0, .int .i64 0] 84)) := balloc _ _
  have hB0 : Blk (w.alloc (.cells #[.int .i64 0, .int .i64 0] 84)) w.heap.size 84 [.int .i64 0, .int .i64 0] := Blk.made w _ _
  have hrV : Rd (w.alloc (.cells #[.int .i64 0, .int .i64 0] 84)) (w.alloc (.cells #[.int .i64 0, .int .i64 0] 84)).heap.size 1 uC A xs := (hr.below hbV).more (Nat.le_of_lt hlV)
  have HD := Lib.hid (DrawChordOf_any A c xs (w.alloc (.cells #[.int .i64 0, .int .i64 0] 84)) hrV hx hm)
  clear hr hx hrV
  go_enter Try.func63, Try.ntmps63
  go_wp2_with fail
  generalize w.alloc (.cells #[.int .i64 0, .int .i64 0] 84) = V at hlV hbV HD hB0 ⊢
  generalize hr0 : w.heap.size = r at hlV hB0 hbV ⊢
  refine HD.out.mono ?_
  rintro e w1 ⟨d, q, n, rfl, hb1⟩
  have hB1 := hB0.next hb1
  have hbw1 : Below r w w1 := hbV.trans (hb1.mono (by omega))
  have c0 := hB1.cell (j := 0) rfl
  have c1 := hB1.cell (j := 1) rfl
  have f0 := hB1.frozen 0
  have f1 := hB1.frozen 1
  go_wp2_with fail
  have hX : Blk ((w1.setCell ⟨r, 0, none⟩ (.int .i64 d)).setCell ⟨r, 1, none⟩ (.int .i64 q)) r 84 [.int .i64 d, .int .i64 q] := (hB1.set 0 (.int .i64 d)).set 1 (.int .i64 q)
  have u0 := hX.cell (j := 0) rfl
  have u1 := hX.cell (j := 1) rfl
  have hXB : Below r w ((w1.setCell ⟨r, 0, none⟩ (.int .i64 d)).setCell ⟨r, 1, none⟩ (.int .i64 q)) := (hbw1.setCell (p := ⟨r, 0, none⟩) (Nat.le_refl _) _).setCell (p := ⟨r, 1, none⟩) (Nat.le_refl _) _
  refine bodyPost_ret (v := .tuple #[.agg #[.int .i64 d, .int .i64 q], .int .i64 n]) (by simp [results, Try.results63, go_sem, u0, u1]) rfl ?_
  exact ⟨d, q, n, rfl, by rw [hr0]; exact hXB⟩
end Go.Proofs.Ytmhaloigcpanpaa
