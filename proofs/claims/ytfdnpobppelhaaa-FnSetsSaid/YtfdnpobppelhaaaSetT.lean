/- DERIVED. A set of balls, by the specification. By program (gsett.py). -/
import Derived.Test.YtfdnpobppelhaaaSetS
import Derived.Test.YtfdnpobppelhaaaSetN
namespace Go.Proofs.Ytfdnpobppelhaaa
set_option maxRecDepth 100000
open Go.RowKit

set_option maxHeartbeats 4000000 in
theorem PickSet_spec (A : Option Addr) (c : Nat) (bs : List Int) (n : Int) (tol : Int) (w : World) (hr : Rd w w.heap.size 1 nC A bs) (hm : bs.length ≤ 1048576) :
    Calls Try.prog 23 #[.slice A bs.length c, .int .i64 n, .int .i64 tol] w (GivesRes w 2 1 nC (pickR bs n tol)) := by
  have HA := Lib.hid (l15Balls_any A c bs n tol w hr hm)
  have HO := Lib.hid (fun (v : World) (hv : Below w.heap.size w v) (hm2 : bs.length ≤ 60) => l15Order_any A c bs v (hr.next hv) hm2)
  have HRb := Lib.hid hr
  clear hr
  by_cases hc0 : codeN bs n tol = 0
  · have Hcode := Lib.hid hc0
    rw [hc0] at HA
    obtain ⟨hb, hnb, htb⟩ := codeN_inv hc0
    have hlen := (balls_bound hb).1
    have HBl := Lib.hid (balls_bound hb).2
    obtain ⟨m, rfl⟩ : ∃ m : Nat, n = (m : Int) := ⟨n.toNat, by omega⟩
    have hm3 : 3 ≤ m := by omega
    have hm40 : m ≤ 40 := by omega
    clear hnb hb hc0
    go_enter Try.func23, Try.ntmps23
    go_wp2_with fail
    refine HA.out.mono ?_
    rintro e w' ⟨rfl, rfl⟩
    clear HA
    have HPk : Hid (pickAt bs (m : Int) tol = firstG (sizL bs) m tol (bs.length + 1) 0) := by
      unfold Hid pickAt
      rw [Int.toNat_natCast]
    have Hpk2 := Lib.hid (fun i => pickR_some (i := i) Hcode.out)
    have Hpk1 := Lib.hid (pickR_none Hcode.out)
    rw [Int.toNat_natCast] at Hpk2
    have HOm : Hid (∀ y ∈ ordL bs, 0 ≤ y ∧ y ≤ 60) := fun y hy => by
      obtain ⟨j, rfl, hj⟩ := idxL_mem (srt_mem.1 hy)
      omega
    clear Hcode
    go_wp2_with fail
    refine (HO.out _ (Below.refl _ _) hlen).mono ?_
    rintro e w1 ⟨A3, c3, rfl, hown, hb1⟩
    have HRd := Lib.hid (hown.flat nCl).rd
    have hSl := sizL_len bs
    have hOl := ordL_len bs
    have HTo := Lib.hid (fun i (h : i < bs.length) => ordL_to h)
    have Hcap := Lib.hid hown.cap
    clear hown HO
    have HGap : Hid (∀ i : Nat, gapN (sizL bs) m i = bAt (sizL bs) ((i + m - 1 : Nat) : Int) - bAt (sizL bs) (i : Int)) := fun _ => rfl
    generalize sizL bs = S at *
    generalize ordL bs = O at *
    have hb11 := Below.refl w1.heap.size w1
    go_wp2_with fail
    go_loopw [10] (fun x wr => ∃ i f : Nat, i ≤ bs.length ∧ x = .int .i64 i ∧ bs.length < i + f ∧ Hid (firstG S m tol f i = firstG S m tol (bs.length + 1) 0) ∧ Below w1.heap.size w1 wr) (fun x _ => bs.length - (intOf x).toNat)
    case atStart => exact ⟨0, bs.length + 1, by omega, rfl, by omega, rfl, hb11⟩
    case round =>
      obtain ⟨i, f, hi, rfl, hf, hc, hbk⟩ := hrel
      by_cases hlt : i + m ≤ bs.length
      · obtain ⟨q, hq⟩ : ∃ q : Nat, q + 1 = i + m := ⟨i + m - 1, by omega⟩
        obtain ⟨j1, y, ho1, hb1', hv1, hy⟩ := HTo.out q (by omega)
        obtain ⟨j2, x, ho2, hb2', hv2, hx⟩ := HTo.out i (by omega)
        have HG : Hid (gapN S m i = y - x) := by
          unfold Hid
          rw [HGap.out, show i + m - 1 = q by omega, hv1, hv2]
        have hyb := HBl.out _ hy
        have hxb := HBl.out _ hx
        have hbw := hbk
        obtain ⟨gb, go, rfl, _, c1⟩ := (HRd.out.next hbw).at1 ho1 rfl
        have c2 := (HRd.out.next hbw).at1' ho2
        rw [Nat.mul_one] at c1
        obtain ⟨bb, bo, rfl, _, c3'⟩ := (HRb.out.next (hb1.trans (hbw.mono hb1.size))).at1 hb1' rfl
        have c4 := (HRb.out.next (hb1.trans (hbw.mono hb1.size))).at1' hb2'
        rw [Nat.mul_one] at c3'
        have hj1 := (List.getElem?_eq_some_iff.1 hb1').1
        have hj2 := (List.getElem?_eq_some_iff.1 hb2').1
        clear ho1 ho2 hb1' hb2' hv1 hv2 hy hx hbw
        have hwa : IntKind.i64.wrap ((i : Int) + (m : Int)) = (i : Int) + (m : Int) := IntWalk.i64_in _ (by omega)
        have hwb : IntKind.i64.wrap ((i : Int) + (m : Int) - 1) = (q : Int) := by rw [show (i : Int) + (m : Int) - 1 = (q : Int) by omega]; exact IntWalk.i64_in _ (by omega)
        have hwc : IntKind.i64.wrap (y - x) = y - x := IntWalk.i64_in _ (by omega)
        have hq3 : q < bs.length := by omega
        have hi3 : i < bs.length := by omega
        by_cases hcmp : y - x ≤ tol
        · have HN := Lib.hid (firstG_hit (f := f) (S := S) (n := m) (tol := tol) (i := i) (by omega) (by omega) (by rw [HG.out]; exact hcmp))
          clear HG
          have HRes := Lib.hid (Hpk2.out i (by rw [HPk.out, ← hc.out, HN.out]))
          have hdl : ((O.drop i).take m).length = m := by rw [List.length_take, List.length_drop]; omega
          have hsz := sizL_len ((O.drop i).take m)
          rw [hdl] at hsz
          have hcap := Hcap.out
          go_wp2_with fail
          have hdr : ∀ m, Below wr.heap.size wr (wr.drewN m) := fun m => below_drewN (Below.refl _ _) _
          go_quiet (fail)
          have hb3 := bthen' hbk (hdr nq)
          generalize wr.drewN nq = w2 at hb3 ⊢
          have HSo := Lib.hid (SortNumbers_any (some ⟨gb, go + i, none⟩) (c3 - i) ((O.drop i).take m) w2 ((rd_drop (HRd.out.next hb3) i).take m) (by omega) (fun y hy => HOm.out y (List.mem_of_mem_drop (List.mem_of_mem_take hy))))
          rw [hdl] at HSo
          have hne : ¬ c3 = i := by omega
          have hwd : (i : Int) + (m : Int) ≤ (c3 : Int) := by omega
          have hwe : (i : Int) ≤ (i : Int) + (m : Int) := by omega
          have hwf : ((i : Int) + (m : Int)).toNat = i + m := by omega
          go_wp2_with fail
          refine HSo.out.mono ?_
          rintro e w3 ⟨A5, c5, rfl, hf5, hcap5, hb5⟩
          try simp only at hf5 hcap5 ⊢
          rw [hsz]
          have HF5 := Lib.hid hf5
          have Hcap5 := Lib.hid hcap5
          clear hf5 hcap5
          have hb35 := bthen' hb3 hb5
          go_wp2_with fail
          go_ret2
          refine ⟨A5, c5, ?_, ?_, ?_, hb1.trans (hb35.mono hb1.size)⟩
          · rw [HRes.out]
            show _ = Ending.returned (.tuple #[.slice A5 (sizL ((O.drop i).take m)).length c5, .int .i64 0])
            rw [hsz]
            rfl
          · rw [HRes.out]
            exact HF5.out.mono (Nat.le_trans hb1.size hb3.size) (Nat.le_refl _)
          · rw [HRes.out]
            exact Hcap5.out
        · have HN := Lib.hid (firstG_miss (f := f) (S := S) (n := m) (tol := tol) (i := i) (by omega) (by omega) (by rw [HG.out]; exact hcmp))
          clear HG
          go_wp2_with fail
          go_quiet (fail)
          go_wp2_with fail
          refine ⟨⟨i + 1, f - 1, by omega, by go_num, by omega, ?_, below_drewN hbk _⟩, by simp [intOf]; omega⟩
          have h1 := hc.out
          rw [HN.out] at h1
          exact h1
      · have HN := Lib.hid (firstG_out (tol := tol) (S := S) (n := m) (f := f) (i := i) (by omega))
        have HRes := Lib.hid (Hpk1.out (by rw [HPk.out, ← hc.out, HN.out]))
        go_wp2_with fail
        go_ret2
        exact ⟨none, 0, by rw [HRes.out]; rfl, flat_none HRes.out, by rw [HRes.out]; exact Nat.le_refl _, hb1.trans (hbk.mono hb1.size)⟩
  · have HRes := Lib.hid (pickR_bad hc0)
    generalize codeN bs n tol = K at HA HRes hc0
    have hkb : (K == 0) = false := by simp [hc0]
    clear hc0
    go_enter Try.func23, Try.ntmps23
    go_wp2_with fail
    refine HA.out.mono ?_
    rintro e w' ⟨rfl, rfl⟩
    go_wp2_with fail
    go_ret2
    exact ⟨none, 0, by rw [HRes.out]; rfl, flat_none HRes.out, by rw [HRes.out]; exact Nat.le_refl _, Below.refl _ _⟩
end Go.Proofs.Ytfdnpobppelhaaa
