/- DERIVED. The law on sizes: the best size suits, and the fewest sizes suit everybody. By program (laws19z.py). -/
import Derived.Test.YtfdnpobppelhaaaDrawM
import Derived.Test.YtfdnpobppelhaaaPlainSz
import Derived.Test.YtfdnpobppelhaaaFewT
import Derived.Test.YtfdnpobppelhaaaLike2
import Derived.Test.YtfdnpobppelhaaaLikeR
import Derived.Deep.CutRange
import Derived.Test.YtfdnpobppelhaaaDLaw
import Derived.Test.YtfdnpobppelhaaaHead
import Derived.Lib.SmallJoins
import Derived.Deep.Slices
import Derived.Deep.Fields
import Derived.ChangeMaps5
import Derived.Carry
namespace Go.Proofs.Ytfdnpobppelhaaa
set_option maxRecDepth 100000
open Go.RowKit Go.ChangeShapes Go.WideShapes Go.ChangeAt Go.Joins Go.Deep

set_option maxHeartbeats 40000000 in
theorem law_FnSizes (A : Option Addr) (c : Nat) (xs : List Int) (w : World) (hr : Rd w w.heap.size 1 uC A xs) (hx : ∀ x ∈ xs, 0 ≤ x ∧ x < 256) (hm : xs.length ≤ maxLen) :
    Calls Try.prog 7 #[.slice A xs.length c] w fun e w' => e = .returned (.bool true) ∧ Below w.heap.size w w' := by
  unfold maxLen at hm
  by_cases hbig : (4096 : Int) < xs.length
  · go_enter Try.func7, Try.ntmps7
    go_wp2_with (go_at_call 8; refine (big_k A c xs.length _).mono ?_; rintro e w' ⟨rfl, rfl⟩)
    go_ret
    exact ⟨rfl, Below.refl _ _⟩
  have HBig : Hid (∀ v : World, Calls Try.prog 8 #[.slice A xs.length c] v fun e w' => e = .returned (.bool false) ∧ v = w') := fun v => (big_k A c xs.length v).mono (by rintro e w' ⟨rfl, rfl⟩; exact ⟨by simp only [hbig, decide_false], rfl⟩)
  have HD := Lib.hid (DrawFewestSizes_any A c xs w hr hx (by omega))
  have HD2 : Hid (∀ v : World, Below w.heap.size w v → Calls Try.prog 50 #[.slice A xs.length c] v (GivenRZ v)) := fun v hv => DrawBestSize_any A c xs v (hr.next hv) hx (by omega)
  clear hr hx hbig
  go_enter Try.func7, Try.ntmps7
  go_wp2_with (go_at_call 8; refine (HBig.out _).mono ?_; rintro e w' ⟨rfl, rfl⟩)
  refine HD.out.mono ?_
  rintro e w1 ⟨RA, SA, rc, sc, rs, ss, rfl, hR, hrc, hrl, hS, hsc, hsl, hsz, hb1⟩
  have HR := Lib.hid hR.rd
  have HS := Lib.hid hS.rd
  have HZ : Hid (∀ x ∈ ss, x.1.size ≤ maxLen) := fun x hx => by
    have := hsz x hx
    unfold maxLen
    omega
  clear hR hS hsz HD
  have HFi : Hid (∀ (v : World), Below w1.heap.size w1 v → Calls Try.prog 45 #[.slice RA rs.length rc, .slice SA ss.length sc] v (GivesRes v 2 1 nC (fewR rs ss))) := fun v hv => FewestSizes_impl RA rc rs SA sc ss v (HR.out.next hv) (by omega) (HS.out.next hv) (by omega) hsc HZ.out
  have HFs : Hid (∀ (v : World), Below w1.heap.size w1 v → Calls Try.prog 44 #[.slice RA rs.length rc, .slice SA ss.length sc] v (GivesRes v 2 1 nC (fewR rs ss))) := fun v hv => FewestSizes_spec RA rc rs SA sc ss v (HR.out.next hv) (by omega) (HS.out.next hv) (by omega) HZ.out
  have HTi : Hid (∀ (v : World), Below w1.heap.size w1 v → Calls Try.prog 36 #[.slice RA rs.length rc, .slice SA ss.length sc] v (GivesI v (tableR rs ss))) := fun v hv => SizesTable_impl RA rc rs SA sc ss v (HR.out.next hv) (by omega) (HS.out.next hv) (by omega) hsc HZ.out
  have HTs : Hid (∀ (v : World), Below w1.heap.size w1 v → Calls Try.prog 33 #[.slice RA rs.length rc, .slice SA ss.length sc] v (GivesI v (tableR rs ss))) := fun v hv => SizesTable_spec RA rc rs SA sc ss v (HR.out.next hv) (by omega) (HS.out.next hv) (by omega) HZ.out
  have HL2 := Lib.hid (few_law rs ss)
  have HTm := Lib.hid (tableR_small rs ss)
  have hfl := fewR_len rs ss
  generalize fewR rs ss = F at HFi HFs HL2 hfl
  generalize tableR rs ss = T at HTi HTs HL2 HTm
  obtain ⟨f, bad⟩ := F
  obtain ⟨t, one⟩ := T
  try simp only at hfl
  have hb1w1 := Below.refl w1.heap.size w1
  go_wp2_with fail
  refine (HFi.out w1 hb1w1).mono ?_
  rintro e w2 ⟨XA, Xc, rfl, fX, hXc, hbw2⟩
  try simp only at fX hXc
  have hb1w2 := bthen hb1w1 hbw2
  have HXw2 := Lib.hid fX.rd
  clear fX hXc hbw2
  go_wp2_with fail
  refine (HFs.out w2 hb1w2).mono ?_
  rintro e w3 ⟨YA, Yc, rfl, fY, hYc, hbw3⟩
  try simp only at fY hYc
  have hb1w3 := bthen hb1w2 hbw3
  have HXw3 := Lib.hid (HXw2.out.next hbw3)
  clear HXw2
  have HYw3 := Lib.hid fY.rd
  clear fY hYc hbw3
  go_wp2_with fail
  refine (HTi.out w3 hb1w3).mono ?_
  rintro e w4 ⟨TA, Tc, rfl, fT, hTc, hbw4⟩
  try simp only at fT hTc
  have hb1w4 := bthen hb1w3 hbw4
  have HXw4 := Lib.hid (HXw3.out.next hbw4)
  have HYw4 := Lib.hid (HYw3.out.next hbw4)
  clear HXw3 HYw3
  have HTw4 := Lib.hid fT.rd
  clear fT hTc hbw4
  go_wp2_with fail
  refine (HTs.out w4 hb1w4).mono ?_
  rintro e w5 ⟨UA, Uc, rfl, fU, hUc, hbw5⟩
  try simp only at fU hUc
  have hb1w5 := bthen hb1w4 hbw5
  have HXw5 := Lib.hid (HXw4.out.next hbw5)
  have HYw5 := Lib.hid (HYw4.out.next hbw5)
  have HTw5 := Lib.hid (HTw4.out.next hbw5)
  clear HXw4 HYw4 HTw4
  have HUw5 := Lib.hid fU.rd
  clear fU hUc hbw5
  go_wp2_with fail
  refine (HD2.out w5 (hb1.trans (hb1w5.mono hb1.size))).mono ?_
  rintro e w6 ⟨h, i, a, S2, s2c, s2, rfl, hS2, hs2c, hs2l, hs2z, hbw6⟩
  have hb1w6 := bthen hb1w5 hbw6
  have HXw6 := Lib.hid (HXw5.out.next hbw6)
  have HYw6 := Lib.hid (HYw5.out.next hbw6)
  have HTw6 := Lib.hid (HTw5.out.next hbw6)
  have HUw6 := Lib.hid (HUw5.out.next hbw6)
  clear HXw5 HYw5 HTw5 HUw5
  have HS2 := Lib.hid hS2.rd
  have HZ2 : Hid (∀ x ∈ s2, x.1.size ≤ maxLen) := fun x hx => by
    have := hs2z x hx
    unfold maxLen
    omega
  clear hS2 hs2z HD2 hbw6 HFi HFs HTi HTs
  have hbw7 := balloc w6 (.cells #[.int .i64 h, .int .i64 i, .int .i64 a] 25)
  have hb1w7 := bthen hb1w6 hbw7
  have HBk : Hid (∀ v : World, Below (w6.alloc (.cells #[.int .i64 h, .int .i64 i, .int .i64 a] 25)).heap.size (w6.alloc (.cells #[.int .i64 h, .int .i64 i, .int .i64 a] 25)) v → Blk v w6.heap.size 25 [.int .i64 h, .int .i64 i, .int .i64 a]) := fun v hv => (Blk.made w6 _ _).next hv
  have HBi : Hid (∀ (v : World), Below (w6.alloc (.cells #[.int .i64 h, .int .i64 i, .int .i64 a] 25)).heap.size (w6.alloc (.cells #[.int .i64 h, .int .i64 i, .int .i64 a] 25)) v → Calls Try.prog 51 #[.agg #[.int .i64 h, .int .i64 i, .int .i64 a], .slice S2 s2.length s2c] v (fun e w' => e = .returned (.tuple #[.string (bestR h i a s2).1, .int .i64 (bestR h i a s2).2]) ∧ Below v.heap.size v w')) := fun v hv => BestSize_impl h i a S2 s2c s2 v (HS2.out.next (bthen hbw7 hv)) (by omega) hs2c HZ2.out
  have HBs : Hid (∀ (v : World), Below (w6.alloc (.cells #[.int .i64 h, .int .i64 i, .int .i64 a] 25)).heap.size (w6.alloc (.cells #[.int .i64 h, .int .i64 i, .int .i64 a] 25)) v → Calls Try.prog 52 #[.agg #[.int .i64 h, .int .i64 i, .int .i64 a], .slice S2 s2.length s2c] v (fun e w' => e = .returned (.tuple #[.string (bestR h i a s2).1, .int .i64 (bestR h i a s2).2]) ∧ Below v.heap.size v w')) := fun v hv => BestSize_spec h i a S2 s2c s2 v (HS2.out.next (bthen hbw7 hv)) (by omega) HZ2.out
  have HNi : Hid (∀ (v : World), Below (w6.alloc (.cells #[.int .i64 h, .int .i64 i, .int .i64 a] 25)).heap.size (w6.alloc (.cells #[.int .i64 h, .int .i64 i, .int .i64 a] 25)) v → Calls Try.prog 53 #[.agg #[.int .i64 h, .int .i64 i, .int .i64 a], .slice S2 s2.length s2c] v (GivesRes v 9 1 tC (forR h i a s2))) := fun v hv => SizesFor_impl h i a S2 s2c s2 v (HS2.out.next (bthen hbw7 hv)) (by omega) hs2c HZ2.out
  have HNs : Hid (∀ (v : World), Below (w6.alloc (.cells #[.int .i64 h, .int .i64 i, .int .i64 a] 25)).heap.size (w6.alloc (.cells #[.int .i64 h, .int .i64 i, .int .i64 a] 25)) v → Calls Try.prog 54 #[.agg #[.int .i64 h, .int .i64 i, .int .i64 a], .slice S2 s2.length s2c] v (GivesRes v 9 1 tC (forR h i a s2))) := fun v hv => SizesFor_spec h i a S2 s2c s2 v (HS2.out.next (bthen hbw7 hv)) (by omega) HZ2.out
  have HL1 := Lib.hid (best_law h i a s2)
  have hnl := (best_law h i a s2).len
  generalize bestR h i a s2 = B at HBi HBs HL1
  generalize forR h i a s2 = FN at HNi HNs HL1 hnl
  obtain ⟨b, three⟩ := B
  obtain ⟨n, five⟩ := FN
  try simp only at hnl
  have HXw7 := Lib.hid (HXw6.out.next hbw7)
  have HYw7 := Lib.hid (HYw6.out.next hbw7)
  have HTw7 := Lib.hid (HTw6.out.next hbw7)
  have HUw7 := Lib.hid (HUw6.out.next hbw7)
  clear HXw6 HYw6 HTw6 HUw6 HS2 HZ2
  go_upto_region 9 with (fail)
  have hsz7 : w6.heap.size < (w6.alloc (.cells #[.int .i64 h, .int .i64 i, .int .i64 a] 25)).heap.size := by simp
  generalize (w6.alloc (.cells #[.int .i64 h, .int .i64 i, .int .i64 a] 25)) = w7 at HBk HBi HBs HNi HNs hb1w7 HXw7 HYw7 HTw7 HUw7 hbw7 hsz7 ⊢
  generalize w6.heap.size = g at HBk hsz7 ⊢
  have hb7w7 := Below.refl w7.heap.size w7
  have q0 := (HBk.out w7 hb7w7).cell (j := 0) rfl
  have q1 := (HBk.out w7 hb7w7).cell (j := 1) rfl
  have q2 := (HBk.out w7 hb7w7).cell (j := 2) rfl
  have hgl := (HBk.out w7 hb7w7).lt
  go_wp2_with fail
  refine (HBi.out w7 hb7w7).mono ?_
  rintro e w8 ⟨rfl, hbw8⟩
  clear q0 q1 q2 hgl
  have hb1w8 := bthen hb1w7 hbw8
  have hb7w8 := bthen hb7w7 hbw8
  have HXw8 := Lib.hid (HXw7.out.next hbw8)
  have HYw8 := Lib.hid (HYw7.out.next hbw8)
  have HTw8 := Lib.hid (HTw7.out.next hbw8)
  have HUw8 := Lib.hid (HUw7.out.next hbw8)
  clear HXw7 HYw7 HTw7 HUw7
  clear hbw8
  have q0 := (HBk.out w8 hb7w8).cell (j := 0) rfl
  have q1 := (HBk.out w8 hb7w8).cell (j := 1) rfl
  have q2 := (HBk.out w8 hb7w8).cell (j := 2) rfl
  have hgl := (HBk.out w8 hb7w8).lt
  go_wp2_with fail
  refine (HBs.out w8 hb7w8).mono ?_
  rintro e w9 ⟨rfl, hbw9⟩
  clear q0 q1 q2 hgl
  have hb1w9 := bthen hb1w8 hbw9
  have hb7w9 := bthen hb7w8 hbw9
  have HXw9 := Lib.hid (HXw8.out.next hbw9)
  have HYw9 := Lib.hid (HYw8.out.next hbw9)
  have HTw9 := Lib.hid (HTw8.out.next hbw9)
  have HUw9 := Lib.hid (HUw8.out.next hbw9)
  clear HXw8 HYw8 HTw8 HUw8
  clear hbw9
  have q0 := (HBk.out w9 hb7w9).cell (j := 0) rfl
  have q1 := (HBk.out w9 hb7w9).cell (j := 1) rfl
  have q2 := (HBk.out w9 hb7w9).cell (j := 2) rfl
  have hgl := (HBk.out w9 hb7w9).lt
  go_wp2_with fail
  refine (HNi.out w9 hb7w9).mono ?_
  rintro e w10 ⟨NA, Nc, rfl, fN, hNc, hbw10⟩
  try simp only at fN hNc
  obtain ⟨nl, hnlq⟩ : ∃ nl : Nat, n.length = nl := ⟨_, rfl⟩
  have HQ := Lib.hid hnlq
  rw [hnlq]
  clear hnlq
  clear q0 q1 q2 hgl
  have hb1w10 := bthen hb1w9 hbw10
  have hb7w10 := bthen hb7w9 hbw10
  have HXw10 := Lib.hid (HXw9.out.next hbw10)
  have HYw10 := Lib.hid (HYw9.out.next hbw10)
  have HTw10 := Lib.hid (HTw9.out.next hbw10)
  have HUw10 := Lib.hid (HUw9.out.next hbw10)
  clear HXw9 HYw9 HTw9 HUw9
  have HNw10 := Lib.hid fN.rd
  clear fN hNc hbw10
  have q0 := (HBk.out w10 hb7w10).cell (j := 0) rfl
  have q1 := (HBk.out w10 hb7w10).cell (j := 1) rfl
  have q2 := (HBk.out w10 hb7w10).cell (j := 2) rfl
  have hgl := (HBk.out w10 hb7w10).lt
  go_wp2_with fail
  refine (HNs.out w10 hb7w10).mono ?_
  rintro e w11 ⟨MA, Mc, rfl, fM, hMc, hbw11⟩
  try simp only at fM hMc
  rw [HQ.out]
  clear q0 q1 q2 hgl
  have hb1w11 := bthen hb1w10 hbw11
  have hb7w11 := bthen hb7w10 hbw11
  have HXw11 := Lib.hid (HXw10.out.next hbw11)
  have HYw11 := Lib.hid (HYw10.out.next hbw11)
  have HTw11 := Lib.hid (HTw10.out.next hbw11)
  have HUw11 := Lib.hid (HUw10.out.next hbw11)
  have HNw11 := Lib.hid (HNw10.out.next hbw11)
  clear HXw10 HYw10 HTw10 HUw10 HNw10
  have HMw11 := Lib.hid fM.rd
  clear fM hMc hbw11
  have HK1 := Lib.hid (likeInts_k XA YA Xc Yc f w11 HXw11.out HYw11.out (by omega))
  have HK2 : Hid (∀ v : World, Below w11.heap.size w11 v → Calls Try.prog 55 #[.slice TA t.length Tc, .slice UA t.length Uc] v fun e w' => e = .returned (.bool true) ∧ Below v.heap.size v w') := fun v hv => likeRows_r TA UA Tc Uc t v (HTw11.out.next hv) (HUw11.out.next hv) HTm.out
  have HK3 : Hid (∀ v : World, Below w11.heap.size w11 v → Calls Try.prog 56 #[.slice NA nl Nc, .slice MA nl Mc] v fun e w' => e = .returned (.bool true) ∧ Below v.heap.size v w') := fun v hv => by rw [← HQ.out]; exact likeTexts_k NA MA Nc Mc n v (HNw11.out.next hv) (HMw11.out.next hv) (by omega)
  have HHt : Hid (∀ v : World, Below w11.heap.size w11 v → Calls Try.prog 57 #[.slice NA nl Nc, .string b] v fun e w' => e = .returned (.bool (n.any fun t => decide (t = b))) ∧ Below v.heap.size v w') := fun v hv => by rw [← HQ.out]; exact hasText_any NA Nc n b v (HNw11.out.next hv) (by omega)
  clear HYw11 HUw11 HMw11 HBi HBs HNi HNs HBk
  go_wp2_with fail
  refine HK1.out.mono ?_
  rintro e w12 ⟨rfl, hbA⟩
  go_wp2_with fail
  refine (HK2.out w12 hbA).mono ?_
  rintro e w13 ⟨rfl, hbB⟩
  replace hbA := bthen hbA hbB
  go_wp2_with fail
  refine (HK3.out w13 hbA).mono ?_
  rintro e w14 ⟨rfl, hbC⟩
  replace hbA := bthen hbA hbC
  have hb1w14 := bthen hb1w11 hbA
  have HX := Lib.hid (HXw11.out.next hbA)
  have HT := Lib.hid (HTw11.out.next hbA)
  have HHt2 := Lib.hid (HHt.out w14 hbA)
  clear hbA hbB hbC HXw11 HTw11 HNw11 HK1 HK2 HK3 HHt
  go_upto_region 15 with (fail)
  go_cut [148] from 129 to 148 (fun c wx => c = .bool false ∧ Below w14.heap.size w14 wx)
  case first =>
    by_cases h3 : three = 0
    · have hmem : b ∈ n := HL1.out.has h3
      have hany : (n.any fun t => decide (t = b)) = true := List.any_eq_true.2 ⟨b, hmem, by simp⟩
      rw [hany] at HHt2
      clear hany
      have hpos : 0 < (nl : Int) := by
        have := List.length_pos_of_mem hmem
        have := HQ.out
        omega
      have h3b : (three == 0) = true := by simp [h3]
      clear HL1 hmem h3
      by_cases h5 : five = 0
      · have h5b : (five == 0) = true := by simp [h5]
        clear h5
        go_wp2_with fail
        refine HHt2.out.mono ?_
        rintro e w15 ⟨rfl, hb15⟩
        go_wp2_with fail
        go_meet
        exact ⟨rfl, hb15⟩
      · have h5b : (five == 0) = false := by simp [h5]
        clear h5
        go_wp2_with fail
        refine HHt2.out.mono ?_
        rintro e w15 ⟨rfl, hb15⟩
        go_wp2_with fail
        go_meet
        exact ⟨rfl, hb15⟩
    · have h3b : (three == 0) = false := by simp [h3]
      by_cases h5 : five = 0
      · have hco := HL1.out.co h5
        simp only [h3, decide_false] at hco
        have hnp : ¬ 0 < (n.length : Int) := by
          have := of_decide_eq_false hco.symm
          omega
        have hnp2 : ¬ 0 < nl := by
          have := HQ.out
          omega
        have hpb1 : decide (0 < (nl : Int)) = false := decide_eq_false (by omega)
        obtain ⟨pb, hpb⟩ : ∃ pb : Bool, decide (0 < nl) = pb := ⟨_, rfl⟩
        have hpbi : decide (0 < (nl : Int)) = pb := by
          rw [← hpb]
          refine decide_eq_decide.2 (by omega)
        have Hpb : Hid (pb = false) := by
          unfold Hid
          rw [← hpb]
          exact decide_eq_false hnp2
        have h5b : (five == 0) = true := by simp [h5]
        clear h5 h3 HL1 hco hnp hnp2 hpb1
        go_wp2_with fail
        all_goals first
          | (exfalso; have h9 := Hpb.out; simp_all; done)
          | (go_meet; exact ⟨by rw [Hpb.out], Below.refl _ _⟩)
          | (go_meet; exact ⟨rfl, Below.refl _ _⟩)
      · have h5b : (five == 0) = false := by simp [h5]
        clear h5 h3 HL1
        go_wp2_with fail
        go_meet
        exact ⟨rfl, Below.refl _ _⟩
  case rest =>
    obtain ⟨rfl, hcb⟩ := hcut
    have hb1c := bthen hb1w14 hcb
    have HXc := Lib.hid (HX.out.next hcb)
    have HTc := Lib.hid (HT.out.next hcb)
    clear HX HT HHt2 HL1
    by_cases hbad : bad = 0
    · have hsh := HL2.out.short hbad
      have hea := Lib.hid (HL2.out.each hbad)
      try simp only at hsh
      subst hbad
      clear HL2
      obtain ⟨tms, htn, htr⟩ := HTc.out
      have HTn := Lib.hid htn
      have HTr := Lib.hid htr
      clear htn htr HTc
      go_wp2_with fail
      go_loopw [23] (fun x wr => ∃ k : Nat, k ≤ rs.length ∧ x = .int .i64 k ∧ Below wc.heap.size wc wr) (fun x _ => rs.length - (intOf x).toNat)
      case atStart => exact ⟨0, Nat.zero_le _, rfl, Below.refl _ _⟩
      case round =>
        obtain ⟨k, hk, rfl, hbk⟩ := hrel
        have hb1k := bthen hb1c hbk
        by_cases hlt : k < rs.length
        · have hx : rs[k]? = some rs[k] := List.getElem?_eq_getElem hlt
          obtain ⟨row, hrow, ⟨k0, hk0, hk0r⟩, hall⟩ := hea.out k _ hx
          have HRc : Hid (∀ v : World, Below w1.heap.size w1 v → ∃ gb go, RA = some ⟨gb, go, none⟩ ∧ v.cell? ⟨gb, go + k * 3, none⟩ = some (.int .i64 rs[k].1) ∧ v.cell? ⟨gb, go + k * 3 + 1, none⟩ = some (.int .i64 rs[k].2.1) ∧ v.cell? ⟨gb, go + k * 3 + 2, none⟩ = some (.int .i64 rs[k].2.2)) := fun v hv => by
            obtain ⟨gb, go, e, _, a0, a1, a2⟩ := (HR.out.next hv).at3 hx rfl
            exact ⟨gb, go, e, a0, a1, a2⟩
          try simp only at hrow
          rw [← HTn.out, List.getElem?_map, Option.map_eq_some_iff] at hrow
          obtain ⟨tm, htm, rfl⟩ := hrow
          have hexi : Hid ((f.any fun y => decide (y ∈ tm.ns)) = true) := List.any_eq_true.2 ⟨k0, hk0, decide_eq_true hk0r⟩
          have Hall := Lib.hid hall
          have hrs : tm.ns.length ≤ 1048576 := HTm.out.2 _ (by
            try simp only
            rw [← HTn.out]
            exact List.mem_map.2 ⟨tm, List.mem_of_getElem? htm, rfl⟩)
          have Htm := Lib.hid htm
          generalize rs[k] = r at HRc Hall
          clear hx hall hk0 hk0r htm
          go_wp2_with fail
          go_loopw [24, 25] (fun fd x wr => ∃ (q : Nat) (fb : Bool), q ≤ f.length ∧ x = .int .i64 q ∧ fd = .bool fb ∧ Hid (fb = (f.take q).any fun y => decide (y ∈ tm.ns)) ∧ Below wc.heap.size wc wr) (fun _ x _ => f.length - (intOf x).toNat)
          case atStart => exact ⟨0, false, Nat.zero_le _, rfl, rfl, by unfold Hid; simp, hbk⟩
          case round =>
            obtain ⟨q, fb, hq, rfl, rfl, Hfb, hbq⟩ := hrel
            have hb1q := bthen hb1c hbq
            by_cases hqt : q < f.length
            · have hfx : f[q]? = some f[q] := List.getElem?_eq_getElem hqt
              obtain ⟨j, x, ej, hxj, hsu⟩ := Hall.out f[q] (List.getElem_mem hqt)
              have Hnx : Hid (((f.take (q + 1)).any fun y => decide (y ∈ tm.ns)) = (((f.take q).any fun y => decide (y ∈ tm.ns)) || decide (f[q] ∈ tm.ns))) := by
                unfold Hid
                rw [List.take_succ_eq_append_getElem hqt, List.any_append]
                simp
              rw [← Hfb.out] at Hnx
              obtain ⟨gb, go, eR, a0, a1, a2⟩ := HRc.out wr hb1q
              obtain ⟨sb, so, rfl, _, s0, s1, s3, s4⟩ := (HS.out.next hb1q).at4 hxj rfl
              obtain ⟨fb', fo, rfl, _, f0⟩ := (HXc.out.next hbq).at1 hfx rfl
              rw [Nat.mul_one] at f0
              obtain ⟨tb, tof, rfl, _, t0⟩ := (HTr.out.1.next hbq).at1 Htm.out rfl
              rw [Nat.mul_one] at t0
              subst eR
              have hzx := HZ.out x (List.mem_of_getElem? hxj)
              have hHI : Hid (∀ v : World, Below wc.heap.size wc v → Calls Try.prog 58 #[.slice tm.A tm.ns.length tm.c, .int .i64 f[q]] v fun e w' => e = .returned (.bool (decide (f[q] ∈ tm.ns))) ∧ Below v.heap.size v w') := fun v hv => hasInt_any tm.A tm.c tm.ns f[q] v ((HTr.out.2 _ (List.mem_of_getElem? Htm.out)).next hv) hrs
              have hDS : Hid (∀ v : World, Calls Try.prog 10 #[.agg #[.int .i64 r.1, .int .i64 r.2.1, .int .i64 r.2.2], .agg #[.string x.1, .int .i64 x.2.1, .int .i64 x.2.2.1, .int .i64 x.2.2.2]] v fun e w' => e = .returned (.tuple #[.bool (decide (f[q] ∈ tm.ns)), .int .i64 0]) ∧ Below v.heap.size v w') := fun v => by
                have := DoesSuit_impl r.1 r.2.1 r.2.2 x.1 x.2.1 x.2.2.1 x.2.2.2 hzx v
                rw [show (x.1, x.2.1, x.2.2.1, x.2.2.2) = x from rfl, hsu] at this
                exact this
              generalize hfq : f[q] = y at f0 hHI hDS Hnx ej
              have Hfq := Lib.hid hfq
              generalize decide (y ∈ tm.ns) = ok at hHI hDS Hnx
              subst ej
              have hjl := (List.getElem?_eq_some_iff.1 hxj).1
              clear hfx hxj hsu hfq hzx
              go_upto_region 26 with (fail)
              go_cut [26, 27] from 157 to 196 (fun c1 c2 wx => c1 = .bool ok ∧ c2 = .int .i64 0 ∧ Below wr.heap.size wr wx)
              case first =>
                have d0 : ∀ v : Later wr, v.w.cell? ⟨gb, go + k * 3, none⟩ = some (.int .i64 r.1) := Later.cell a0
                have d1 : ∀ v : Later wr, v.w.cell? ⟨gb, go + k * 3 + 1, none⟩ = some (.int .i64 r.2.1) := Later.cell a1
                have d2 : ∀ v : Later wr, v.w.cell? ⟨gb, go + k * 3 + 2, none⟩ = some (.int .i64 r.2.2) := Later.cell a2
                have d3 : ∀ v : Later wr, v.w.cell? ⟨fb', fo + q, none⟩ = some (.int .i64 (j : Int)) := Later.cell f0
                have d4 : ∀ v : Later wr, v.w.cell? ⟨sb, so + j * 4, none⟩ = some (.string x.1) := Later.cell s0
                have d5 : ∀ v : Later wr, v.w.cell? ⟨sb, so + j * 4 + 1, none⟩ = some (.int .i64 x.2.1) := Later.cell s1
                have d6 : ∀ v : Later wr, v.w.cell? ⟨sb, so + j * 4 + 2, none⟩ = some (.int .i64 x.2.2.1) := Later.cell s3
                have d7 : ∀ v : Later wr, v.w.cell? ⟨sb, so + j * 4 + 3, none⟩ = some (.int .i64 x.2.2.2) := Later.cell s4
                refine wp_region_later (by kernel_rfl) (by kernel_rfl) ?_
                repeat (go_big_quiet_step ((go_at_call 10; exact Later.call (hDS.out _))))
                refine wpQuiet_nil ?_
                rintro w2' ⟨⟨_, hb2'⟩, rfl⟩
                go_wp2_with fail
                go_meet
                exact ⟨rfl, rfl, hb2'⟩
              case rest =>
                obtain ⟨rfl, rfl, hc2⟩ := hcut
                have hbq2 := bthen hbq hc2
                obtain ⟨tb2, tf2, e9, _, t0'⟩ := (HTr.out.1.next hbq2).at1 Htm.out rfl
                rw [Nat.mul_one] at t0'
                simp only [Option.some.injEq, Addr.mk.injEq] at e9
                obtain ⟨rfl, rfl, _⟩ := e9
                obtain ⟨fb2, fo2, e9, _, f0'⟩ := (HXc.out.next hbq2).at1 (k := q) (x := (j : Int)) (by rw [List.getElem?_eq_getElem hqt, Hfq.out]) rfl
                rw [Nat.mul_one] at f0'
                simp only [Option.some.injEq, Addr.mk.injEq] at e9
                obtain ⟨rfl, rfl, _⟩ := e9
                have htl : k < t.length := by
                  rw [← HTn.out, List.length_map]
                  exact (List.getElem?_eq_some_iff.1 Htm.out).1
                go_wp2_with fail
                have d0 : ∀ v : Later wc, v.w.cell? ⟨tb, tof + k, none⟩ = some (.slice tm.A tm.ns.length tm.c) := Later.cell t0'
                have d1 : ∀ v : Later wc, v.w.cell? ⟨fb', fo + q, none⟩ = some (.int .i64 (j : Int)) := Later.cell f0'
                have hHI2 : Hid (∀ v : Later wc, Calls Try.prog 58 #[.slice tm.A tm.ns.length tm.c, .int .i64 (j : Int)] v.w fun e w' => e = .returned (.bool ok) ∧ Below v.w.heap.size v.w w') := fun v => hHI.out v.w (bthen hbq2 v.below)
                refine wp_region_later (by kernel_rfl) (by kernel_rfl) ?_
                repeat (go_big_quiet_step ((go_at_call 58; exact Later.call (hHI2.out _))))
                refine wpQuiet_nil ?_
                rintro w3' ⟨⟨_, hb3'⟩, rfl⟩
                have hbq3 := bthen hbq2 hb3'
                cases fb with
                | true =>
                  go_wp2_with fail
                  exact ⟨⟨q + 1, true, by omega, by go_num, rfl, by unfold Hid; rw [Hnx.out]; rfl, hbq3⟩, by simp [intOf]; omega⟩
                | false =>
                  go_wp2_with fail
                  exact ⟨⟨q + 1, ok, by omega, by go_num, rfl, by unfold Hid; rw [Hnx.out]; rfl, hbq3⟩, by simp [intOf]; omega⟩
            · have hfull : Hid (fb = true) := by
                unfold Hid
                rw [Hfb.out, List.take_of_length_le (by omega)]
                exact hexi.out
              obtain rfl : fb = true := hfull.out
              go_wp2_with fail
              exact ⟨⟨k + 1, by omega, by go_num, hbq⟩, by simp [intOf]; omega⟩
        · go_wp2_with fail
          go_ret
          exact ⟨rfl, hb1.trans (hb1k.mono hb1.size)⟩
    · have hbb : (bad == 0) = false := by simp [hbad]
      have hbb2 : (bad != 0) = true := by simp [hbad]
      clear HL2 hbad
      go_wp2_with fail
      go_ret
      exact ⟨rfl, hb1.trans (hb1c.mono hb1.size)⟩

set_option maxRecDepth 100000 in
theorem fnSizes_lifted (os : Os) (started : os.Started) (H : Type) (enc : TypeId × Value → H) :
    ReturnsInHanded {} Try.checked os 7 .any (Rows.fnSizesSpec.pre6 enc Try.prog Try.f7 Rows.fnSizesRow.domain false) (Rows.fnSizesSpec.post enc Try.prog Try.f7 false true false false) := by
  refine returnsInHanded_of_change (C := Try.checked) own started (by kernel_rfl) Try.func7
    (ChangeSpec.witness6 (enc := enc) (C := Try.checked) false ⟨#[], #[.slice none 0 0], []⟩ 8 (by kernel_rfl) (by kernel_rfl) (by kernel_rfl) (by kernel_rfl)) ?_
  intro W base args ds gs before hval0 hW hcnd _
  have hval : ∀ (j : Nat) t v, Try.f7.params[j]? = some t → args[j]? = some v → Value.okWide Try.prog W .any base t v := hval0
  have hlt : ∀ x ∈ before, x.block < W.heap.size := fun x hx => hW.lt x hx
  have hW' := hW
  obtain ⟨p, q, hA0, hV, rfl, hfz, hnd⟩ := hW
  have hA : DataW.TrodAll enc Try.prog W 0 (fun _ => true) true Try.f7.params.toList args.toList ds p := hA0
  rw [Try.params7] at hA hval
  obtain ⟨v0, d0, rfl, rfl, h0⟩ := trodAll_one hA
  obtain ⟨A, c, xs, rfl, hm, hx, hr⟩ := open_bytes (hval 0 22 v0 rfl rfl) h0
  refine (law_FnSizes A c xs W hr hx hm).mono fun e W' ⟨he, hb⟩ => ?_
  subst he
  exact ⟨_, rfl, law_post (tb := 4) laidOut (by kernel_rfl) rfl rfl Try.underlying4 hW' rfl hb⟩
theorem fnSizes_closed : joinedFacts Try.prog 7 Try.f7 Rows.fnSizesSpec Rows.fnSizesRow = true := by
  unfold joinedFacts; rw [mayEnter_yes, liftsFinal_no, make_cut]; kernel_rfl
theorem fnSizes_holds : Rows.FnSizesSaid :=
  OpenClaim.holds_of_wide 7 Try.f7 rfl rfl rfl rfl rfl rfl rfl ⟨rfl, rfl, rfl, rfl, rfl⟩ rfl rfl rfl rfl rfl (by kernel_rfl) Try.func7 fnSizes_closed
    (of_decide_eq_true (by kernel_rfl)) (by unfold Func.isWrapper; rw [if_neg (of_decide_eq_false (by kernel_rfl))]; exact ⟨rfl, rfl⟩)
    (fun os started H enc _ => fnSizes_lifted os started H enc)
#print axioms fnSizes_holds

end Go.Proofs.Ytfdnpobppelhaaa
