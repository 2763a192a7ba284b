/- DERIVED. Sets of balls, by the specification. By program (gsets.py). -/
import Derived.Test.YtfdnpobppelhaaaSetO
namespace Go.Proofs.Ytfdnpobppelhaaa
set_option maxRecDepth 100000
open Go.RowKit
theorem codeN_inv {bs : List Int} {n tol : Int} (h : codeN bs n tol = 0) : ballsB bs = true ∧ (3 ≤ n ∧ n ≤ 40) ∧ (0 ≤ tol ∧ tol ≤ 1000) := by
  unfold codeN at h
  split at h
  · rename_i hb
    split at h
    · rename_i h2
      rw [Bool.and_eq_true] at h2
      exact ⟨hb, inB_true h2.1, inB_true h2.2⟩
    · exact absurd h (by decide)
  · exact absurd h (by decide)

set_option maxHeartbeats 4000000 in
theorem CountSets_spec (A : Option Addr) (c : Nat) (bs : List Int) (n : Int) (tol : Int) (w : World) (hr : Rd w w.heap.size 1 nC A bs) (hm : bs.length ≤ 1048576) :
    Calls Try.prog 25 #[.slice A bs.length c, .int .i64 n, .int .i64 tol] w (fun e w' => e = .returned (.tuple #[.int .i64 (countR bs n tol).1, .int .i64 (countR bs n tol).2]) ∧ Below w.heap.size w w') := by
  have HA := Lib.hid (l15Balls_any A c bs n tol w hr hm)
  have HO := Lib.hid (fun (v : World) (hv : Below w.heap.size w v) (hm2 : bs.length ≤ 60) => l15Order_any A c bs v (hr.next hv) hm2)
  have HRb := Lib.hid hr
  clear hr
  by_cases hc0 : codeN bs n tol = 0
  · have Hcode := Lib.hid hc0
    rw [hc0] at HA
    obtain ⟨hb, hnb, htb⟩ := codeN_inv hc0
    have hlen := (balls_bound hb).1
    have HBl := Lib.hid (balls_bound hb).2
    obtain ⟨m, rfl⟩ : ∃ m : Nat, n = (m : Int) := ⟨n.toNat, by omega⟩
    have hm3 : 3 ≤ m := by omega
    have hm40 : m ≤ 40 := by omega
    clear hnb hb hc0
    go_enter Try.func25, Try.ntmps25
    go_wp2_with fail
    refine HA.out.mono ?_
    rintro e w' ⟨rfl, rfl⟩
    clear HA
    have HRes : Hid (countR bs (m : Int) tol = ((cntG (sizL bs) m tol (bs.length + 1) 0 : Int), 0)) := by
      unfold Hid countR
      rw [if_pos Hcode.out, Int.toNat_natCast]
    clear Hcode
    go_wp2_with fail
    refine (HO.out _ (Below.refl _ _) hlen).mono ?_
    rintro e w1 ⟨A3, c3, rfl, hown, hb1⟩
    have HRd := Lib.hid (hown.flat nCl).rd
    have hSl := sizL_len bs
    have hOl := ordL_len bs
    have HTo := Lib.hid (fun i (h : i < bs.length) => ordL_to h)
    have Hcap := Lib.hid hown.cap
    clear hown HO
    have HGap : Hid (∀ i : Nat, gapN (sizL bs) m i = bAt (sizL bs) ((i + m - 1 : Nat) : Int) - bAt (sizL bs) (i : Int)) := fun _ => rfl
    generalize sizL bs = S at *
    generalize ordL bs = O at *
    have hb11 := Below.refl w1.heap.size w1
    go_wp2_with fail
    go_loopw [10, 11] (fun z x wr => ∃ k i f : Nat, i ≤ bs.length ∧ k ≤ i ∧ x = .int .i64 i ∧ z = .int .i64 k ∧ bs.length < i + f ∧ Hid (k + cntG S m tol f i = cntG S m tol (bs.length + 1) 0) ∧ Below w1.heap.size w1 wr) (fun _ x _ => bs.length - (intOf x).toNat)
    case atStart => exact ⟨0, 0, bs.length + 1, by omega, by omega, rfl, rfl, by omega, by unfold Hid; omega, hb11⟩
    case round =>
      obtain ⟨k, i, f, hi, hk, rfl, rfl, hf, hc, hbk⟩ := hrel
      by_cases hlt : i + m ≤ bs.length
      · obtain ⟨q, hq⟩ : ∃ q : Nat, q + 1 = i + m := ⟨i + m - 1, by omega⟩
        obtain ⟨j1, y, ho1, hb1', hv1, hy⟩ := HTo.out q (by omega)
        obtain ⟨j2, x, ho2, hb2', hv2, hx⟩ := HTo.out i (by omega)
        have HG : Hid (gapN S m i = y - x) := by
          unfold Hid
          rw [HGap.out, show i + m - 1 = q by omega, hv1, hv2]
        have hyb := HBl.out _ hy
        have hxb := HBl.out _ hx
        have hbw := hbk
        obtain ⟨gb, go, rfl, _, c1⟩ := (HRd.out.next hbw).at1 ho1 rfl
        have c2 := (HRd.out.next hbw).at1' ho2
        rw [Nat.mul_one] at c1
        obtain ⟨bb, bo, rfl, _, c3'⟩ := (HRb.out.next (hb1.trans (hbw.mono hb1.size))).at1 hb1' rfl
        have c4 := (HRb.out.next (hb1.trans (hbw.mono hb1.size))).at1' hb2'
        rw [Nat.mul_one] at c3'
        have hj1 := (List.getElem?_eq_some_iff.1 hb1').1
        have hj2 := (List.getElem?_eq_some_iff.1 hb2').1
        clear ho1 ho2 hb1' hb2' hv1 hv2 hy hx hbw
        have hwa : IntKind.i64.wrap ((i : Int) + (m : Int)) = (i : Int) + (m : Int) := IntWalk.i64_in _ (by omega)
        have hwb : IntKind.i64.wrap ((i : Int) + (m : Int) - 1) = (q : Int) := by rw [show (i : Int) + (m : Int) - 1 = (q : Int) by omega]; exact IntWalk.i64_in _ (by omega)
        have hwc : IntKind.i64.wrap (y - x) = y - x := IntWalk.i64_in _ (by omega)
        have hq3 : q < bs.length := by omega
        have hi3 : i < bs.length := by omega
        by_cases hcmp : y - x ≤ tol
        · have HN := Lib.hid (cntG_hit (f := f) (by omega) (show i + m ≤ S.length by omega) (show gapN S m i ≤ tol by rw [HG.out]; exact hcmp))
          clear HG
          go_wp2_with fail
          go_quiet (fail)
          go_wp2_with fail
          refine ⟨⟨k + 1, i + m, f - 1, hlt, by omega, by go_num, by go_num, by omega, ?_, below_drewN hbk _⟩, by simp [intOf]; omega⟩
          have h1 := hc.out
          rw [HN.out] at h1
          unfold Hid
          omega
        · have HN := Lib.hid (cntG_miss (f := f) (by omega) (show i + m ≤ S.length by omega) (show ¬ gapN S m i ≤ tol by rw [HG.out]; exact hcmp))
          clear HG
          go_wp2_with fail
          go_quiet (fail)
          go_wp2_with fail
          refine ⟨⟨k, i + 1, f - 1, by omega, by omega, by go_num, by go_num, by omega, ?_, below_drewN hbk _⟩, by simp [intOf]; omega⟩
          have h1 := hc.out
          rw [HN.out] at h1
          exact h1
      · have HN := Lib.hid (cntG_out (tol := tol) (f := f) (show ¬ i + m ≤ S.length by omega))
        go_wp2_with fail
        go_ret2
        refine ⟨?_, hb1.trans (hbk.mono hb1.size)⟩
        have h1 := hc.out
        rw [HN.out, Nat.add_zero] at h1
        rw [HRes.out, ← h1]
        rfl
  · have HRes := Lib.hid (countR_bad hc0)
    generalize codeN bs n tol = K at HA HRes hc0
    have hkb : (K == 0) = false := by simp [hc0]
    clear hc0
    go_enter Try.func25, Try.ntmps25
    go_wp2_with fail
    refine HA.out.mono ?_
    rintro e w' ⟨rfl, rfl⟩
    go_wp2_with fail
    go_ret2
    exact ⟨by rw [HRes.out]; rfl, Below.refl _ _⟩

set_option maxHeartbeats 4000000 in
theorem NeededTolerance_spec (A : Option Addr) (c : Nat) (bs : List Int) (n : Int) (w : World) (hr : Rd w w.heap.size 1 nC A bs) (hm : bs.length ≤ 1048576) :
    Calls Try.prog 27 #[.slice A bs.length c, .int .i64 n] w (fun e w' => e = .returned (.tuple #[.int .i64 (needR bs n).1, .int .i64 (needR bs n).2]) ∧ Below w.heap.size w w') := by
  have HA := Lib.hid (l15Balls_any A c bs n 0 w hr hm)
  have HO := Lib.hid (fun (v : World) (hv : Below w.heap.size w v) (hm2 : bs.length ≤ 60) => l15Order_any A c bs v (hr.next hv) hm2)
  have HRb := Lib.hid hr
  clear hr
  by_cases hc0 : codeN bs n 0 = 0
  · have Hcode := Lib.hid hc0
    rw [hc0] at HA
    obtain ⟨hb, hnb, htb⟩ := codeN_inv hc0
    have hlen := (balls_bound hb).1
    have HBl := Lib.hid (balls_bound hb).2
    obtain ⟨m, rfl⟩ : ∃ m : Nat, n = (m : Int) := ⟨n.toNat, by omega⟩
    have hm3 : 3 ≤ m := by omega
    have hm40 : m ≤ 40 := by omega
    clear hnb hb hc0
    go_enter Try.func27, Try.ntmps27
    go_wp2_with fail
    refine HA.out.mono ?_
    rintro e w' ⟨rfl, rfl⟩
    clear HA
    have HRes : Hid (needR bs (m : Int) = (if 1000 < leastG (sizL bs) m (bs.length + 1 - m) then (0, 4) else (leastG (sizL bs) m (bs.length + 1 - m), 0))) := by
      unfold Hid needR leastV
      rw [if_pos Hcode.out, Int.toNat_natCast]
    clear Hcode
    go_wp2_with fail
    refine (HO.out _ (Below.refl _ _) hlen).mono ?_
    rintro e w1 ⟨A3, c3, rfl, hown, hb1⟩
    have HRd := Lib.hid (hown.flat nCl).rd
    have hSl := sizL_len bs
    have hOl := ordL_len bs
    have HTo := Lib.hid (fun i (h : i < bs.length) => ordL_to h)
    have Hcap := Lib.hid hown.cap
    clear hown HO
    have HGap : Hid (∀ i : Nat, gapN (sizL bs) m i = bAt (sizL bs) ((i + m - 1 : Nat) : Int) - bAt (sizL bs) (i : Int)) := fun _ => rfl
    generalize sizL bs = S at *
    generalize ordL bs = O at *
    have hb11 := Below.refl w1.heap.size w1
    go_wp2_with fail
    go_loopw [8, 9] (fun z x wr => ∃ i : Nat, i ≤ bs.length + 1 - m ∧ -19000 ≤ leastG S m i ∧ leastG S m i ≤ 1001 ∧ x = .int .i64 i ∧ z = .int .i64 (leastG S m i) ∧ Below w1.heap.size w1 wr) (fun _ x _ => bs.length - (intOf x).toNat)
    case atStart => exact ⟨0, by omega, by unfold leastG; decide, by unfold leastG; decide, rfl, rfl, hb11⟩
    case round =>
      obtain ⟨i, hi, hl1, hl2, rfl, rfl, hbk⟩ := hrel
      by_cases hlt : i + m ≤ bs.length
      · obtain ⟨q, hq⟩ : ∃ q : Nat, q + 1 = i + m := ⟨i + m - 1, by omega⟩
        obtain ⟨j1, y, ho1, hb1', hv1, hy⟩ := HTo.out q (by omega)
        obtain ⟨j2, x, ho2, hb2', hv2, hx⟩ := HTo.out i (by omega)
        have HG : Hid (gapN S m i = y - x) := by
          unfold Hid
          rw [HGap.out, show i + m - 1 = q by omega, hv1, hv2]
        have hyb := HBl.out _ hy
        have hxb := HBl.out _ hx
        have hbw := bthen' hbk (bdrew wr)
        obtain ⟨gb, go, rfl, _, c1⟩ := (HRd.out.next hbw).at1 ho1 rfl
        have c2 := (HRd.out.next hbw).at1' ho2
        rw [Nat.mul_one] at c1
        obtain ⟨bb, bo, rfl, _, c3'⟩ := (HRb.out.next (hb1.trans (hbw.mono hb1.size))).at1 hb1' rfl
        have c4 := (HRb.out.next (hb1.trans (hbw.mono hb1.size))).at1' hb2'
        rw [Nat.mul_one] at c3'
        have hj1 := (List.getElem?_eq_some_iff.1 hb1').1
        have hj2 := (List.getElem?_eq_some_iff.1 hb2').1
        clear ho1 ho2 hb1' hb2' hv1 hv2 hy hx hbw
        have hwa : IntKind.i64.wrap ((i : Int) + (m : Int)) = (i : Int) + (m : Int) := IntWalk.i64_in _ (by omega)
        have hwb : IntKind.i64.wrap ((i : Int) + (m : Int) - 1) = (q : Int) := by rw [show (i : Int) + (m : Int) - 1 = (q : Int) by omega]; exact IntWalk.i64_in _ (by omega)
        have hwc : IntKind.i64.wrap (y - x) = y - x := IntWalk.i64_in _ (by omega)
        have hq3 : q < bs.length := by omega
        have hi3 : i < bs.length := by omega
        have HN : Hid (leastG S m (i + 1) = if y - x < leastG S m i then y - x else leastG S m i) := by
          unfold Hid
          show (if gapN S m i < leastG S m i then gapN S m i else leastG S m i) = _
          rw [HG.out]
        generalize leastG S m i = L at hl1 hl2 HN ⊢
        clear HG
        go_wp2_with fail
        go_region_law (fail)
        all_goals
          go_wp2_with fail
          refine ⟨⟨i + 1, by omega, by rw [HN.out]; split <;> omega, by rw [HN.out]; split <;> omega, by go_num, by rw [HN.out], bthen' hbk (bdrew _)⟩, by simp [intOf]; omega⟩
      · obtain rfl : i = bs.length + 1 - m := by omega
        generalize leastG S m (bs.length + 1 - m) = L at hl1 hl2 HRes ⊢
        by_cases h1 : 1000 < L
        · rw [if_pos h1] at HRes
          go_wp2_with fail
          go_ret2
          exact ⟨by rw [HRes.out]; rfl, hb1.trans (hbk.mono hb1.size)⟩
        · rw [if_neg h1] at HRes
          go_wp2_with fail
          go_ret2
          exact ⟨by rw [HRes.out]; rfl, hb1.trans (hbk.mono hb1.size)⟩
  · have HRes := Lib.hid (needR_bad hc0)
    generalize codeN bs n 0 = K at HA HRes hc0
    have hkb : (K == 0) = false := by simp [hc0]
    clear hc0
    go_enter Try.func27, Try.ntmps27
    go_wp2_with fail
    refine HA.out.mono ?_
    rintro e w' ⟨rfl, rfl⟩
    go_wp2_with fail
    go_ret2
    exact ⟨by rw [HRes.out]; rfl, Below.refl _ _⟩

set_option maxHeartbeats 4000000 in
theorem SpreadOfBalls_spec (A : Option Addr) (c : Nat) (bs : List Int) (w : World) (hr : Rd w w.heap.size 1 nC A bs) (hm : bs.length ≤ 1048576) :
    Calls Try.prog 29 #[.slice A bs.length c] w (fun e w' => e = .returned (.tuple #[.int .i64 (spreadR bs).1, .int .i64 (spreadR bs).2]) ∧ Below w.heap.size w w') := by
  have HA := Lib.hid (l15Balls_any A c bs 3 0 w hr hm)
  have HO := Lib.hid (fun (v : World) (hv : Below w.heap.size w v) (hm2 : bs.length ≤ 60) => l15Order_any A c bs v (hr.next hv) hm2)
  have HRb := Lib.hid hr
  clear hr
  cases hb : ballsB bs with
  | false =>
    have HRes : Hid (spreadR bs = (0, 1)) := by
      unfold Hid spreadR
      rw [hb]
      rfl
    rw [codeN_bad hb] at HA
    go_enter Try.func29, Try.ntmps29
    go_wp2_with fail
    refine HA.out.mono ?_
    rintro e w' ⟨rfl, rfl⟩
    go_wp2_with fail
    go_ret2
    exact ⟨by rw [HRes.out]; rfl, Below.refl _ _⟩
  | true =>
    have HRes : Hid (spreadR bs = (spreadV bs, 0)) := by
      unfold Hid spreadR
      rw [hb]
      rfl
    rw [codeN_ok hb (by decide)] at HA
    have hlen := (balls_bound hb).1
    have HBl := Lib.hid (balls_bound hb).2
    clear hb
    by_cases h0 : bs.length = 0
    · obtain rfl := List.length_eq_zero_iff.1 h0
      have HV : Hid (spreadV [] = 0) := rfl
      clear h0
      go_enter Try.func29, Try.ntmps29
      go_wp2_with fail
      refine HA.out.mono ?_
      rintro e w' ⟨rfl, rfl⟩
      go_wp2_with fail
      go_ret2
      exact ⟨by rw [HRes.out, HV.out]; rfl, Below.refl _ _⟩
    · have HV : Hid (spreadV bs = bAt (sizL bs) ((bs.length - 1 : Nat) : Int) - bAt (sizL bs) ((0 : Nat) : Int)) := if_neg h0
      have hp : 0 < bs.length := by omega
      have h0b : ((bs.length : Int) == 0) = false := by simp [h0]
      clear h0
      obtain ⟨q, hq⟩ : ∃ q : Nat, q + 1 = bs.length := ⟨bs.length - 1, by omega⟩
      go_enter Try.func29, Try.ntmps29
      go_wp2_with fail
      refine HA.out.mono ?_
      rintro e w' ⟨rfl, rfl⟩
      clear HA
      go_wp2_with fail
      refine (HO.out _ (Below.refl _ _) hlen).mono ?_
      rintro e w1 ⟨A3, c3, rfl, hown, hb1⟩
      have HRd := Lib.hid (hown.flat nCl).rd
      have hOl := ordL_len bs
      obtain ⟨j1, y, ho1, hb1', hv1, hy⟩ := ordL_to (bs := bs) (i := q) (by omega)
      obtain ⟨j2, x, ho2, hb2', hv2, hx⟩ := ordL_to (bs := bs) (i := 0) (by omega)
      have HG : Hid (spreadV bs = y - x) := by
        unfold Hid
        rw [HV.out, show bs.length - 1 = q by omega, hv1, hv2]
      have hyb := HBl.out _ hy
      have hxb := HBl.out _ hx
      clear hown HO HV
      generalize ordL bs = O at *
      obtain ⟨gb, go, rfl, _, c1⟩ := HRd.out.at1 ho1 rfl
      have c2 := HRd.out.at1' ho2
      rw [Nat.mul_one] at c1
      rw [Nat.add_zero] at c2
      obtain ⟨bb, bo, rfl, _, c3'⟩ := (HRb.out.next hb1).at1 hb1' rfl
      have c4 := (HRb.out.next hb1).at1' hb2'
      rw [Nat.mul_one] at c3'
      have hj1 := (List.getElem?_eq_some_iff.1 hb1').1
      have hj2 := (List.getElem?_eq_some_iff.1 hb2').1
      clear ho1 ho2 hb1' hb2' hv1 hv2 hy hx
      have hwb : IntKind.i64.wrap ((bs.length : Int) - 1) = (q : Int) := by rw [show (bs.length : Int) - 1 = (q : Int) by omega]; exact IntWalk.i64_in _ (by omega)
      have hwc : IntKind.i64.wrap (y - x) = y - x := IntWalk.i64_in _ (by omega)
      have hq3 : q < bs.length := by omega
      go_wp2_with fail
      go_quiet (fail)
      go_wp2_with fail
      go_ret2
      exact ⟨by rw [HRes.out, HG.out]; rfl, below_drewN hb1 _⟩
end Go.Proofs.Ytfdnpobppelhaaa
