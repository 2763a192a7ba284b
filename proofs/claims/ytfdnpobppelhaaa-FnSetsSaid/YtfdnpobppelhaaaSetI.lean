/- DERIVED. Sets of balls, by the program. By program (gseti.py). -/
import Derived.Test.YtfdnpobppelhaaaSetP
import Derived.Test.YtfdnpobppelhaaaSetR
import Derived.Test.YtfdnpobppelhaaaBallX
namespace Go.Proofs.Ytfdnpobppelhaaa
set_option maxRecDepth 100000
open Go.RowKit
set_option maxHeartbeats 4000000 in
theorem CountSets_impl (A : Option Addr) (c : Nat) (bs : List Int) (n : Int) (tol : Int) (w : World) (hr : Rd w w.heap.size 1 nC A bs) (hm : bs.length ≤ 1048576) :
    Calls Try.prog 24 #[.slice A bs.length c, .int .i64 n, .int .i64 tol] w fun e w' => e = .returned (.tuple #[.int .i64 (countR bs n tol).1, .int .i64 (countR bs n tol).2]) ∧ Below w.heap.size w w' := by
  have HA := Lib.hid (areBalls_any A c bs w hr hm)
  have HS := Lib.hid (fun (v : World) (hv : Below w.heap.size w v) => sorted_any A c bs v (hr.next hv) hm)
  have HIs := Lib.hid (fun v => isBalls_any n v)
  have HWi := Lib.hid (fun v => within_any tol 0 1000 v)
  have HRb := Lib.hid hr
  clear hr
  cases hb : ballsB bs with
  | false =>
    have HRes : Hid (countR bs n tol = (0, 1)) := by
      unfold Hid
      rw [countR_bad (by rw [codeN_bad hb]; decide), codeN_bad hb]
    rw [hb] at HA
    go_enter Try.func24, Try.ntmps24
    go_wp2_with fail
    refine HA.out.mono ?_
    rintro e w' ⟨rfl, rfl⟩
    go_wp2_with fail
    go_ret2
    exact ⟨by rw [HRes.out]; rfl, Below.refl _ _⟩
  | true =>
    have hlen := (balls_bound hb).1
    have HBl : Hid (∀ y ∈ bs, 1000 ≤ y ∧ y ≤ 20000) := (balls_bound hb).2
    have HM : Hid (∀ y ∈ sizL bs, 1000 ≤ y ∧ y ≤ 20000) := fun y hy => (balls_bound hb).2 y (srt_mem.1 hy)
    rw [hb] at HA
    cases hn : inB n 3 40 with
    | false =>
      have HRes : Hid (countR bs n tol = (0, 2)) := by
        have hc := codeN_range (bs := bs) (n := n) (tol := tol) hb (by rw [hn]; rfl)
        unfold Hid
        rw [countR_bad (by rw [hc]; decide), hc]
      rw [hn] at HIs
      go_enter Try.func24, Try.ntmps24
      go_wp2_with fail
      refine HA.out.mono ?_
      rintro e w' ⟨rfl, rfl⟩
      go_wp2_with fail
      refine (HIs.out _).mono ?_
      rintro e w' ⟨rfl, rfl⟩
      go_wp2_with fail
      go_ret2
      exact ⟨by rw [HRes.out]; rfl, Below.refl _ _⟩
    | true =>
      cases ht : inB tol 0 1000 with
      | false =>
        have HRes : Hid (countR bs n tol = (0, 2)) := by
          have hc := codeN_range (bs := bs) (n := n) (tol := tol) hb (by rw [hn, ht]; rfl)
          unfold Hid
          rw [countR_bad (by rw [hc]; decide), hc]
        rw [hn] at HIs
        rw [ht] at HWi
        go_enter Try.func24, Try.ntmps24
        go_wp2_with fail
        refine HA.out.mono ?_
        rintro e w' ⟨rfl, rfl⟩
        go_wp2_with fail
        refine (HIs.out _).mono ?_
        rintro e w' ⟨rfl, rfl⟩
        go_wp2_with fail
        refine (HWi.out _).mono ?_
        rintro e w' ⟨rfl, rfl⟩
        go_wp2_with fail
        go_ret2
        exact ⟨by rw [HRes.out]; rfl, Below.refl _ _⟩
      | true =>
        have htb : 0 ≤ tol ∧ tol ≤ 1000 := by simpa [inB] using ht
        have hnb : 3 ≤ n ∧ n ≤ 40 := by simpa [inB] using hn
        have Hcode := Lib.hid (codeN_ok (bs := bs) (n := n) (tol := tol) hb (by rw [hn, ht]; rfl))
        rw [hn] at HIs
        rw [ht] at HWi
        obtain ⟨m, rfl⟩ : ∃ m : Nat, n = (m : Int) := ⟨n.toNat, by omega⟩
        have hm3 : 3 ≤ m := by omega
        have hm40 : m ≤ 40 := by omega
        clear hn hnb ht hb
        go_enter Try.func24, Try.ntmps24
        go_wp2_with fail
        refine HA.out.mono ?_
        rintro e w' ⟨rfl, rfl⟩
        go_wp2_with fail
        refine (HIs.out _).mono ?_
        rintro e w' ⟨rfl, rfl⟩
        go_wp2_with fail
        refine (HWi.out _).mono ?_
        rintro e w' ⟨rfl, rfl⟩
        have HRes : Hid (countR bs (m : Int) tol = ((cntG (sizL bs) m tol (bs.length + 1) 0 : Int), 0)) := by
          unfold Hid countR
          rw [if_pos Hcode.out, Int.toNat_natCast]
        clear Hcode
        go_wp2_with fail
        refine (HS.out _ (Below.refl _ _)).mono ?_
        rintro e w1 ⟨A3, c3, rfl, hown, hb1⟩
        have HRd := Lib.hid (hown.flat nCl).rd
        have hSl := sizL_len bs
        clear hown HS HA
        generalize sizL bs = S at *
        have hb11 := Below.refl w1.heap.size w1
        go_wp2_with fail
        go_loopw [9, 10] (fun z x wr => ∃ k i f : Nat, i ≤ S.length ∧ k ≤ i ∧ x = .int .i64 i ∧ z = .int .i64 k ∧ S.length < i + f ∧ Hid (k + cntG S m tol f i = cntG S m tol (bs.length + 1) 0) ∧ Below w1.heap.size w1 wr) (fun _ x _ => S.length - (intOf x).toNat)
        case atStart => exact ⟨0, 0, bs.length + 1, by omega, by omega, rfl, rfl, by omega, by unfold Hid; omega, hb11⟩
        case round =>
          obtain ⟨k, i, f, hi, hk, rfl, rfl, hf, hc, hbk⟩ := hrel
          by_cases hlt : i + m ≤ S.length
          · obtain ⟨q, hq⟩ : ∃ q : Nat, q + 1 = i + m := ⟨i + m - 1, by omega⟩
            have hqS : S[q]? = some S[q] := List.getElem?_eq_getElem (by omega)
            have hiS : S[i]? = some S[i] := List.getElem?_eq_getElem (by omega)
            have HG : Hid (gapN S m i = S[q] - S[i]) := by
              unfold Hid gapN
              rw [show i + m - 1 = q by omega, bAt_of hqS, bAt_of hiS]
            have hyb := HM.out _ (List.mem_of_getElem? hqS)
            have hxb := HM.out _ (List.mem_of_getElem? hiS)
            obtain ⟨gb, go, rfl, _, c1⟩ := (HRd.out.next hbk).at1 hqS rfl
            have c2 := (HRd.out.next hbk).at1' hiS
            rw [Nat.mul_one] at c1
            generalize S[q] = y at c1 HG hyb
            generalize S[i] = x at c2 HG hxb
            clear hqS hiS
            have hwa : IntKind.i64.wrap ((i : Int) + (m : Int)) = (i : Int) + (m : Int) := IntWalk.i64_in _ (by omega)
            have hwb : IntKind.i64.wrap ((i : Int) + (m : Int) - 1) = (q : Int) := by rw [show (i : Int) + (m : Int) - 1 = (q : Int) by omega]; exact IntWalk.i64_in _ (by omega)
            have hwc : IntKind.i64.wrap (y - x) = y - x := IntWalk.i64_in _ (by omega)
            have hq3 : q < bs.length := by omega
            have hi3 : i < bs.length := by omega
            by_cases hcmp : y - x ≤ tol
            · have HN := Lib.hid (cntG_hit (f := f) (by omega) hlt (show gapN S m i ≤ tol by rw [HG.out]; exact hcmp))
              clear HG
              go_wp2_with fail
              go_quiet (fail)
              go_wp2_with fail
              refine ⟨⟨k + 1, i + m, f - 1, hlt, by omega, by go_num, by go_num, by omega, ?_, below_drewN hbk _⟩, by simp [intOf]; omega⟩
              have h1 := hc.out
              rw [HN.out] at h1
              unfold Hid
              omega
            · have HN := Lib.hid (cntG_miss (f := f) (by omega) hlt (show ¬ gapN S m i ≤ tol by rw [HG.out]; exact hcmp))
              clear HG
              go_wp2_with fail
              go_quiet (fail)
              go_wp2_with fail
              refine ⟨⟨k, i + 1, f - 1, by omega, by omega, by go_num, by go_num, by omega, ?_, below_drewN hbk _⟩, by simp [intOf]; omega⟩
              have h1 := hc.out
              rw [HN.out] at h1
              exact h1
          · have HN := Lib.hid (cntG_out (tol := tol) (f := f) hlt)
            go_wp2_with fail
            go_ret2
            refine ⟨?_, hb1.trans (hbk.mono hb1.size)⟩
            have h1 := hc.out
            rw [HN.out, Nat.add_zero] at h1
            rw [HRes.out, ← h1]
            rfl
set_option maxHeartbeats 4000000 in
theorem SpreadOfBalls_impl (A : Option Addr) (c : Nat) (bs : List Int) (w : World) (hr : Rd w w.heap.size 1 nC A bs) (hm : bs.length ≤ 1048576) :
    Calls Try.prog 28 #[.slice A bs.length c] w fun e w' => e = .returned (.tuple #[.int .i64 (spreadR bs).1, .int .i64 (spreadR bs).2]) ∧ Below w.heap.size w w' := by
  have HA := Lib.hid (areBalls_any A c bs w hr hm)
  have HS := Lib.hid (fun (v : World) (hv : Below w.heap.size w v) => sorted_any A c bs v (hr.next hv) hm)
  have HRb := Lib.hid hr
  clear hr
  cases hb : ballsB bs with
  | false =>
    have HRes : Hid (spreadR bs = (0, 1)) := by
      unfold Hid
      unfold spreadR; rw [hb]; rfl
    rw [hb] at HA
    go_enter Try.func28, Try.ntmps28
    go_wp2_with fail
    refine HA.out.mono ?_
    rintro e w' ⟨rfl, rfl⟩
    go_wp2_with fail
    go_ret2
    exact ⟨by rw [HRes.out]; rfl, Below.refl _ _⟩
  | true =>
    have hlen := (balls_bound hb).1
    have HBl : Hid (∀ y ∈ bs, 1000 ≤ y ∧ y ≤ 20000) := (balls_bound hb).2
    have HM : Hid (∀ y ∈ sizL bs, 1000 ≤ y ∧ y ≤ 20000) := fun y hy => (balls_bound hb).2 y (srt_mem.1 hy)
    rw [hb] at HA
    have HRes : Hid (spreadR bs = (spreadV bs, 0)) := by
      unfold Hid spreadR
      rw [hb]
      rfl
    by_cases h0 : bs.length = 0
    · obtain rfl := List.length_eq_zero_iff.1 h0
      have HV : Hid (spreadV [] = 0) := rfl
      clear h0
      go_enter Try.func28, Try.ntmps28
      go_wp2_with fail
      refine HA.out.mono ?_
      rintro e w' ⟨rfl, rfl⟩
      go_wp2_with fail
      go_ret2
      exact ⟨by rw [HRes.out, HV.out]; rfl, Below.refl _ _⟩
    · have HV : Hid (spreadV bs = bAt (sizL bs) ((bs.length - 1 : Nat) : Int) - bAt (sizL bs) ((0 : Nat) : Int)) := if_neg h0
      have hp : 0 < bs.length := by omega
      clear hb
      go_enter Try.func28, Try.ntmps28
      go_wp2_with fail
      refine HA.out.mono ?_
      rintro e w' ⟨rfl, rfl⟩
      go_wp2_with fail
      refine (HS.out _ (Below.refl _ _)).mono ?_
      rintro e w1 ⟨A3, c3, rfl, hown, hb1⟩
      have HRd := Lib.hid (hown.flat nCl).rd
      have hSl := sizL_len bs
      clear hown HS HA
      generalize sizL bs = S at *
      have hb11 := Below.refl w1.heap.size w1
      obtain ⟨q, hq⟩ : ∃ q : Nat, q + 1 = S.length := ⟨S.length - 1, by omega⟩
      have hqS : S[q]? = some S[q] := List.getElem?_eq_getElem (by omega)
      have hiS : S[0]? = some S[0] := List.getElem?_eq_getElem (by omega)
      have HG : Hid (spreadV bs = S[q] - S[0]) := by
        unfold Hid
        rw [HV.out, show bs.length - 1 = q by omega, bAt_of hqS, bAt_of hiS]
      have hyb := HM.out _ (List.mem_of_getElem? hqS)
      have hxb := HM.out _ (List.mem_of_getElem? hiS)
      obtain ⟨gb, go, rfl, _, c1⟩ := HRd.out.at1 hqS rfl
      have c2 := HRd.out.at1' hiS
      rw [Nat.mul_one] at c1
      rw [Nat.add_zero] at c2
      generalize S[q] = y at c1 HG hyb
      generalize S[0] = x at c2 HG hxb
      clear hqS hiS HV
      have hwb : IntKind.i64.wrap ((bs.length : Int) - 1) = (q : Int) := by rw [show (bs.length : Int) - 1 = (q : Int) by omega]; exact IntWalk.i64_in _ (by omega)
      have hwc : IntKind.i64.wrap (y - x) = y - x := IntWalk.i64_in _ (by omega)
      have hq3 : q < bs.length := by omega
      go_wp2_with fail
      go_quiet (fail)
      go_wp2_with fail
      go_ret2
      exact ⟨by rw [HRes.out, HG.out]; rfl, below_drewN hb1 _⟩
set_option maxHeartbeats 4000000 in
theorem NeededTolerance_impl (A : Option Addr) (c : Nat) (bs : List Int) (n : Int) (w : World) (hr : Rd w w.heap.size 1 nC A bs) (hm : bs.length ≤ 1048576) :
    Calls Try.prog 26 #[.slice A bs.length c, .int .i64 n] w fun e w' => e = .returned (.tuple #[.int .i64 (needR bs n).1, .int .i64 (needR bs n).2]) ∧ Below w.heap.size w w' := by
  have HA := Lib.hid (areBalls_any A c bs w hr hm)
  have HS := Lib.hid (fun (v : World) (hv : Below w.heap.size w v) => sorted_any A c bs v (hr.next hv) hm)
  have HIs := Lib.hid (fun v => isBalls_any n v)
  have HRb := Lib.hid hr
  clear hr
  cases hb : ballsB bs with
  | false =>
    have HRes : Hid (needR bs n = (0, 1)) := by
      unfold Hid
      rw [needR_bad (by rw [codeN_bad hb]; decide), codeN_bad hb]
    rw [hb] at HA
    go_enter Try.func26, Try.ntmps26
    go_wp2_with fail
    refine HA.out.mono ?_
    rintro e w' ⟨rfl, rfl⟩
    go_wp2_with fail
    go_ret2
    exact ⟨by rw [HRes.out]; rfl, Below.refl _ _⟩
  | true =>
    have hlen := (balls_bound hb).1
    have HBl : Hid (∀ y ∈ bs, 1000 ≤ y ∧ y ≤ 20000) := (balls_bound hb).2
    have HM : Hid (∀ y ∈ sizL bs, 1000 ≤ y ∧ y ≤ 20000) := fun y hy => (balls_bound hb).2 y (srt_mem.1 hy)
    rw [hb] at HA
    cases hn : inB n 3 40 with
    | false =>
      have HRes : Hid (needR bs n = (0, 2)) := by
        have hc := codeN_range (bs := bs) (n := n) (tol := 0) hb (by rw [hn]; rfl)
        unfold Hid
        rw [needR_bad (by rw [hc]; decide), hc]
      rw [hn] at HIs
      go_enter Try.func26, Try.ntmps26
      go_wp2_with fail
      refine HA.out.mono ?_
      rintro e w' ⟨rfl, rfl⟩
      go_wp2_with fail
      refine (HIs.out _).mono ?_
      rintro e w' ⟨rfl, rfl⟩
      go_wp2_with fail
      go_ret2
      exact ⟨by rw [HRes.out]; rfl, Below.refl _ _⟩
    | true =>
      have hnb : 3 ≤ n ∧ n ≤ 40 := by simpa [inB] using hn
      have Hcode := Lib.hid (codeN_ok (bs := bs) (n := n) (tol := 0) hb (by rw [hn]; rfl))
      rw [hn] at HIs
      obtain ⟨m, rfl⟩ : ∃ m : Nat, n = (m : Int) := ⟨n.toNat, by omega⟩
      have hm3 : 3 ≤ m := by omega
      have hm40 : m ≤ 40 := by omega
      clear hn hnb hb
      go_enter Try.func26, Try.ntmps26
      go_wp2_with fail
      refine HA.out.mono ?_
      rintro e w' ⟨rfl, rfl⟩
      go_wp2_with fail
      refine (HIs.out _).mono ?_
      rintro e w' ⟨rfl, rfl⟩
      have HRes : Hid (needR bs (m : Int) = (if 1000 < leastG (sizL bs) m (bs.length + 1 - m) then (0, 4) else (leastG (sizL bs) m (bs.length + 1 - m), 0))) := by
        unfold Hid needR leastV
        rw [if_pos Hcode.out, Int.toNat_natCast]
      clear Hcode
      go_wp2_with fail
      refine (HS.out _ (Below.refl _ _)).mono ?_
      rintro e w1 ⟨A3, c3, rfl, hown, hb1⟩
      have HRd := Lib.hid (hown.flat nCl).rd
      have hSl := sizL_len bs
      clear hown HS HA
      generalize sizL bs = S at *
      have hb11 := Below.refl w1.heap.size w1
      go_wp2_with fail
      go_loopw [7, 8] (fun z x wr => ∃ i : Nat, i + m ≤ S.length + 1 + m ∧ (i ≤ S.length + 1 - m) ∧ -19000 ≤ leastG S m i ∧ leastG S m i ≤ 1001 ∧ x = .int .i64 i ∧ z = .int .i64 (leastG S m i) ∧ Below w1.heap.size w1 wr) (fun _ x _ => S.length - (intOf x).toNat)
      case atStart => exact ⟨0, by omega, by omega, by unfold leastG; decide, by unfold leastG; decide, rfl, rfl, hb11⟩
      case round =>
        obtain ⟨i, _, hi, hl1, hl2, rfl, rfl, hbk⟩ := hrel
        by_cases hlt : i + m ≤ S.length
        · obtain ⟨q, hq⟩ : ∃ q : Nat, q + 1 = i + m := ⟨i + m - 1, by omega⟩
          have hqS : S[q]? = some S[q] := List.getElem?_eq_getElem (by omega)
          have hiS : S[i]? = some S[i] := List.getElem?_eq_getElem (by omega)
          have HG : Hid (gapN S m i = S[q] - S[i]) := by
            unfold Hid gapN
            rw [show i + m - 1 = q by omega, bAt_of hqS, bAt_of hiS]
          have hyb := HM.out _ (List.mem_of_getElem? hqS)
          have hxb := HM.out _ (List.mem_of_getElem? hiS)
          obtain ⟨gb, go, rfl, _, c1⟩ := (HRd.out.next (bthen' hbk (bdrew wr))).at1 hqS rfl
          have c2 := (HRd.out.next (bthen' hbk (bdrew wr))).at1' hiS
          rw [Nat.mul_one] at c1
          generalize S[q] = y at c1 HG hyb
          generalize S[i] = x at c2 HG hxb
          clear hqS hiS
          have hwa : IntKind.i64.wrap ((i : Int) + (m : Int)) = (i : Int) + (m : Int) := IntWalk.i64_in _ (by omega)
          have hwb : IntKind.i64.wrap ((i : Int) + (m : Int) - 1) = (q : Int) := by rw [show (i : Int) + (m : Int) - 1 = (q : Int) by omega]; exact IntWalk.i64_in _ (by omega)
          have hwc : IntKind.i64.wrap (y - x) = y - x := IntWalk.i64_in _ (by omega)
          have hq3 : q < bs.length := by omega
          have hi3 : i < bs.length := by omega
          have HN : Hid (leastG S m (i + 1) = if y - x < leastG S m i then y - x else leastG S m i) := by
            unfold Hid
            show (if gapN S m i < leastG S m i then gapN S m i else leastG S m i) = _
            rw [HG.out]
          generalize leastG S m i = L at hl1 hl2 HN ⊢
          clear HG
          go_wp2_with fail
          go_region_law (fail)
          all_goals
            go_wp2_with fail
            refine ⟨⟨i + 1, by omega, by omega, by rw [HN.out]; split <;> omega, by rw [HN.out]; split <;> omega, by go_num, by rw [HN.out], bthen' hbk (bdrew _)⟩, by simp [intOf]; omega⟩
        · obtain rfl : i = bs.length + 1 - m := by omega
          generalize leastG S m (bs.length + 1 - m) = L at hl1 hl2 HRes ⊢
          by_cases h1 : 1000 < L
          · rw [if_pos h1] at HRes
            go_wp2_with fail
            go_ret2
            exact ⟨by rw [HRes.out]; rfl, hb1.trans (hbk.mono hb1.size)⟩
          · rw [if_neg h1] at HRes
            go_wp2_with fail
            go_ret2
            exact ⟨by rw [HRes.out]; rfl, hb1.trans (hbk.mono hb1.size)⟩
end Go.Proofs.Ytfdnpobppelhaaa
