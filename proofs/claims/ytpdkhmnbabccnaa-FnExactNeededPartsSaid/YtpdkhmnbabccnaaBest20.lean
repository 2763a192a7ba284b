/- DERIVED. The cheapest and the lightest bicycle in the reference. By program (gbests2.py). -/
import Derived.Test.YtpdkhmnbabccnaaBestS
namespace Go.Proofs.Ytpdkhmnbabccnaa
set_option maxRecDepth 100000
open Go.RowKit

theorem filter_bs (p : List ByteArray → Bool) (ms : List RowM) : (ms.filter fun m => p m.bs).map RowM.bs = (ms.map RowM.bs).filter p := by
  rw [List.filter_map]
  rfl
theorem take_filter_yes {p : RowM → Bool} {ms : List RowM} {n : Nat} {y : RowM} (hx : ms[n]? = some y) (h : p y = true) : (ms.take (n + 1)).filter p = (ms.take n).filter p ++ [y] := by
  rw [List.take_add_one, hx, List.filter_append]
  simp [h]
theorem take_filter_no {p : RowM → Bool} {ms : List RowM} {n : Nat} {y : RowM} (hx : ms[n]? = some y) (h : p y = false) : (ms.take (n + 1)).filter p = (ms.take n).filter p := by
  rw [List.take_add_one, hx, List.filter_append]
  simp [h]

set_option maxHeartbeats 2000000 in
theorem LightestBicycle_spec (LA JA : Option Addr) (lc jc : Nat) (vs : List PartT) (js : List JointT) (w : World) (hr : RdV w w.heap.size LA vs) (hr2 : Rd w w.heap.size 3 jointC JA js) (hs : SmallV vs) (hm2 : js.length ≤ 1048576) (m : Int) (_ : -9223372036854775808 ≤ m ∧ m ≤ 9223372036854775807) :
    Calls Try.prog 96 #[.slice LA vs.length lc, .slice JA js.length jc, .int .i64 m] w (GivesRes2 w 0 (lightR vs js m)) := by
  have hCo := l18Code_any LA JA lc jc vs js w hr hr2 hs hm2
  have hI := l01In_any m 0 100000000
  by_cases hb : bothB vs js = true
  · rw [bothI_yes hb] at hCo
    have HCo := Lib.hid hCo; clear hCo
    by_cases hi : inB m 0 100000000 = true
    · rw [hi] at hI
      have HI := Lib.hid hI; clear hI
      have HA : Hid (∀ v : World, RdV v v.heap.size LA vs → Rd v v.heap.size 3 jointC JA js → Calls Try.prog 155 #[.slice LA vs.length lc, .slice JA js.length jc] v (GivesAllS v (allB vs js))) := fun v h1 h2 => l18All_any LA JA lc jc vs js v h1 h2 hs hb
      have HCd : Hid (∀ ms : List RowM, ms.map RowM.bs = allB vs js → (∀ m ∈ ms, Codes vs m.bs) ∧ ms.length ≤ 131071) := fun ms h => ⟨fun m hm => founds_codes (bothB_true hb).1 (by
          have : m.bs ∈ allB vs js := by rw [← h]; exact List.mem_map.2 ⟨m, hm, rfl⟩
          exact this), by
        have := allB_len js (bothB_true hb).1
        rwa [← h, List.length_map] at this⟩
      have HBs : Hid (∀ (v : World) (A : Option Addr) (c : Nat) (ms : List RowM), RdV v v.heap.size LA vs → Rd v v.heap.size 1 rowC A ms → RowsF v 0 v.heap.size ms → (∀ m ∈ ms, Codes vs m.bs) → ms.length ≤ 131071 → Calls Try.prog 167 #[.slice LA vs.length lc, .slice A ms.length c, .bool false] v (GivesRes2 v 0 (finR (bestOf (gramsB vs) [] (ms.map RowM.bs))))) := fun v A c ms h1 h2 h3 h4 h5 => l18Best_grams LA A lc c vs ms v h1 hs h2 h3 h4 h5
      have HPs : Hid (∀ (v : World) (r : RowM), RdV v v.heap.size LA vs → Rd v v.heap.size 1 tC r.A r.bs → Codes vs r.bs → Calls Try.prog 144 #[.slice LA vs.length lc, .slice r.A r.bs.length r.c] v fun e w' => e = .returned (.int .i64 (priceB vs r.bs)) ∧ Below v.heap.size v w') := fun v r h1 h2 h3 => l17Price_any LA r.A lc r.c vs r.bs v h1 h2 hs h3
      have HR : Hid (lightR vs js m = finR (bestOf (gramsB vs) [] ((allB vs js).filter (fun b => decide (priceB vs b ≤ m))))) := by unfold Hid lightR; rw [if_pos hb, if_pos hi]
      rw [HR.out]
      clear HR hs hb hi hm2
      go_enter Try.func96, Try.ntmps96
      go_wp2_with fail
      refine HCo.out.mono ?_
      rintro e w1 ⟨rfl, hb1⟩
      go_wp2_with (go_at_call 114; refine (HI.out _).mono ?_; rintro e w' ⟨rfl, rfl⟩)
      have HB1 := hb1
      have hbV := bthen HB1 (balloc w1 (.cells #[] 61))
      have hV : TwoSt w1 (w1.alloc (.cells #[] 61)) (some ⟨w1.heap.size, 0, none⟩) 0 [] none 0 [] [] [] [] := ⟨Own.made _ (Nat.le_refl _) rfl, Own.nil, balloc _ _, RowsF.nil, fun p hp => absurd hp (by simp), fun p hp => absurd hp (by simp)⟩
      refine (HA.out _ (hr.next hbV) (hr2.next hbV)).mono ?_
      rintro e w2 ⟨A, c, ms, rfl, hms, fms, rms, hb2⟩
      have hb12 := bthen hbV hb2
      obtain ⟨hcd, hml⟩ := HCd.out ms hms
      have HS0 := Lib.hid (hV.addR hb2 fms rms)
      have HMS := Lib.hid hms
      have HCm := Lib.hid hcd
      clear hcd hms fms rms hV HCd HA hb2 hbV
      go_wp2_with fail
      go_loopw [10, 12] (fun o i wr => ∃ (n : Nat) (oA : Option Addr) (oc : Nat) (ns : List RowM), n ≤ ms.length ∧ i = .int .i64 n ∧ o = .slice oA ns.length oc ∧ ns = (ms.take n).filter (fun r => (fun b => decide (priceB vs b ≤ m)) r.bs) ∧ TwoSt w1 wr oA oc ns none 0 [] [] [(A, ms)] ([] ++ ms)) (fun _ i _ => ms.length - (intOf i).toNat)
      case atStart => exact ⟨0, _, _, [], Nat.zero_le _, rfl, rfl, by simp, HS0.out⟩
      case round =>
        obtain ⟨n, oA, oc, ns, hn, rfl, rfl, hns, hst⟩ := hrel
        have HS := Lib.hid hst; clear hst
        have hnl : ns.length ≤ 131071 := by
          rw [hns]
          exact Nat.le_trans (List.length_filter_le _ _) (by rw [List.length_take]; omega)
        have HNs := Lib.hid hns; clear hns
        have hbr := bthen HB1 HS.out.low
        have hsr := HS.out.low.size
        by_cases hlt : n < ms.length
        · have hx : ms[n]? = some ms[n] := List.getElem?_eq_getElem hlt
          obtain ⟨g, rfl⟩ := (HS.out.rows _ (List.mem_cons_self ..)).1.some (by simpa using (by omega : 0 < ms.length))
          have q0 := (HS.out.rows _ (List.mem_cons_self ..)).1.cell1 hx rfl
          have hrow := HS.out.rowsf ms[n] (by simp)
          have hcy := HCm.out ms[n] (List.mem_of_getElem? hx)
          generalize ms[n] = y at hx q0 hrow hcy
          have Hx := Lib.hid hx; clear hx
          obtain ⟨hp0, hp1⟩ := priceB_bd hcy
          have HPr := Lib.hid (HPs.out wr y (hr.next hbr) hrow.1.rd hcy)
          clear hrow hcy
          by_cases hpm : priceB vs y.bs ≤ m
          · have HPy : Hid (decide (priceB vs y.bs ≤ m) = true) := by unfold Hid; simpa using hpm
            go_wp2_with fail
            refine HPr.out.mono ?_
            rintro e w4 ⟨rfl, hb4⟩
            have HS4 := Lib.hid (HS.out.next hb4)
            clear q0
            have HT := Lib.hid (take_filter_yes (p := fun r => (decide (priceB vs r.bs ≤ m))) Hx.out HPy.out)
            have r1 := (HS4.out.rows _ (List.mem_cons_self ..)).1.cell1 Hx.out rfl
            have hs4 := HS4.out.low.size
            go_wp2_with (at_builtin; refine wpList_append_far rfl _ _ _ rfl w1.heap.size 61 (.slice none 0 0) 1 24 Try.underlying154 infoRow rfl (by omega) (by omega) rowC ns y oA oc rfl (HS4.out.own1.keep (balloc _ _)) (w4.heap.size) _ rfl rfl (one_cell (by go_simp)) (rowC_one _) (by omega) (by simp; omega) ?_)
            intro A6 c6 w6 hown6 hb6 hfar6
            have HS6 := Lib.hid ((HS4.out.next (balloc w4 _)).pushRow hown6 hb6 (fun g hg ha => hfar6 g (by simpa using hg) ha))
            clear hown6 hb6 hfar6
            go_wp2_with fail
            exact ⟨⟨n + 1, A6, c6, ns ++ [y], by omega, by go_num, by simp, by rw [HT.out, ← HNs.out], HS6.out⟩, by simp [intOf]; omega⟩
          · have HPy : Hid (decide (priceB vs y.bs ≤ m) = false) := by unfold Hid; simpa using hpm
            go_wp2_with fail
            refine HPr.out.mono ?_
            rintro e w4 ⟨rfl, hb4⟩
            have HS4 := Lib.hid (HS.out.next hb4)
            have HT := Lib.hid (take_filter_no (p := fun r => (decide (priceB vs r.bs ≤ m))) Hx.out HPy.out)
            go_wp2_with fail
            exact ⟨⟨n + 1, oA, oc, ns, by omega, by go_num, rfl, by rw [HT.out, ← HNs.out], HS4.out⟩, by simp [intOf]; omega⟩
        · have HE : Hid (ns.map RowM.bs = (allB vs js).filter (fun b => decide (priceB vs b ≤ m))) := by
            unfold Hid
            rw [HNs.out, List.take_of_length_le (by omega), ← HMS.out]
            exact filter_bs (fun b => decide (priceB vs b ≤ m)) ms
          have HBx := Lib.hid (HBs.out wr oA oc ns (hr.next hbr) (HS.out.own1.flat rowC_len).rd (fun r hrm => HS.out.rowsf r (by
            rw [HNs.out] at hrm
            simpa using List.mem_of_mem_take (List.mem_filter.1 hrm).1)) (fun r hrm => HCm.out r (by
            rw [HNs.out] at hrm
            exact List.mem_of_mem_take (List.mem_filter.1 hrm).1)) hnl)
          rw [HE.out] at HBx
          clear HBs
          go_wp2_with fail
          refine HBx.out.mono ?_
          rintro e w3 ⟨A3, c3, rfl, hf3, hc3, hb3⟩
          have Hf := Lib.hid hf3
          have Hc := Lib.hid hc3
          clear hf3 hc3
          go_wp2_with fail
          go_ret3
          exact ⟨A3, c3, rfl, Hf.out, Hc.out, bthen hbr hb3⟩
    · have HR : Hid (lightR vs js m = ([], 0, 2)) := by unfold Hid lightR; rw [if_pos hb, if_neg hi]
      rw [eq_false_of_ne_true hi] at hI
      have HI := Lib.hid hI; clear hI hi hb hs hm2
      generalize lightR vs js m = R at HR ⊢
      go_enter Try.func96, Try.ntmps96
      go_wp2_with fail
      refine HCo.out.mono ?_
      rintro e w1 ⟨rfl, hb1⟩
      go_wp2_with (go_at_call 114; refine (HI.out _).mono ?_; rintro e w' ⟨rfl, rfl⟩)
      go_ret3
      exact ⟨none, 0, by rw [HR.out]; rfl, by rw [HR.out]; exact flat_nil, by rw [HR.out]; exact Nat.le_refl _, hb1⟩
  · rw [bothI_no hb] at hCo
    have HCo := Lib.hid hCo; clear hCo
    have HR : Hid (lightR vs js m = ([], 0, 1)) := by unfold Hid lightR; rw [if_neg hb]
    clear hb hs hm2 hI
    generalize lightR vs js m = R at HR ⊢
    go_enter Try.func96, Try.ntmps96
    go_wp2_with fail
    refine HCo.out.mono ?_
    rintro e w1 ⟨rfl, hb1⟩
    go_wp2_with fail
    go_ret3
    exact ⟨none, 0, by rw [HR.out]; rfl, by rw [HR.out]; exact flat_nil, by rw [HR.out]; exact Nat.le_refl _, hb1⟩

set_option maxHeartbeats 4000000 in
theorem CheapestWith_spec (LA JA : Option Addr) (lc jc : Nat) (vs : List PartT) (js : List JointT) (w : World) (hr : RdV w w.heap.size LA vs) (hr2 : Rd w w.heap.size 3 jointC JA js) (hs : SmallV vs) (hm2 : js.length ≤ 1048576) (code : ByteArray) :
    Calls Try.prog 93 #[.slice LA vs.length lc, .slice JA js.length jc, .string code] w (GivesRes2 w 0 (withR vs js code)) := by
  have hCo := l18Code_any LA JA lc jc vs js w hr hr2 hs hm2
  by_cases hb : bothB vs js = true
  · rw [bothI_yes hb] at hCo
    have HCo := Lib.hid hCo; clear hCo
    have HKC : Hid (∀ v : World, RdV v v.heap.size LA vs → Calls Try.prog 132 #[.slice LA vs.length lc, .string code] v fun e w' => e = .returned (.int .i64 (codeI vs code)) ∧ Below v.heap.size v w') := fun v h1 => l16Code_any LA lc vs code v h1 hs
    by_cases hn : findI vs code < 0
    · have HR : Hid (withR vs js code = ([], 0, 4)) := by unfold Hid withR; rw [if_pos hb, if_pos hn]
      have hk : codeI vs code = 4 := by unfold codeI; rw [if_pos (bothB_true hb).1, if_pos hn]
      rw [hk] at HKC
      generalize withR vs js code = R at HR ⊢
      clear hs hb hm2 hn hk
      go_enter Try.func93, Try.ntmps93
      go_wp2_with fail
      refine HCo.out.mono ?_
      rintro e w1 ⟨rfl, hb1⟩
      go_wp2_with fail
      refine (HKC.out w1 (hr.next hb1)).mono ?_
      rintro e w2 ⟨rfl, hb2⟩
      go_wp2_with fail
      go_ret3
      exact ⟨none, 0, by rw [HR.out]; rfl, by rw [HR.out]; exact flat_nil, by rw [HR.out]; exact Nat.le_refl _, (bthen hb1 hb2)⟩
    · obtain ⟨k, x, ek, hkl, hkx, hkc, hcn⟩ := findI_word (bothB_true hb).1 (by omega : 0 ≤ findI vs code)
      have hk : codeI vs code = 0 := by unfold codeI; rw [if_pos (bothB_true hb).1, if_neg hn]
      rw [hk] at HKC
      have hxo := partsB_at (bothB_true hb).1 hkx
      obtain ⟨s, hse⟩ := Int.eq_ofNat_of_zero_le hxo.slot0
      have hs7 := hxo.slot7
      rw [hse] at hs7
      have HK : Hid (slotAt vs (findI vs code) = (s : Int)) := by unfold Hid; rw [ek, slotAt_eq hkx, hse]
      have Hks := Lib.hid hse
      have HFi : Hid (∀ v : World, RdV v v.heap.size LA vs → Calls Try.prog 130 #[.slice LA vs.length lc, .string code] v fun e w' => e = .returned (.int .i64 (k : Int)) ∧ Below v.heap.size v w') := fun v h1 => by
        have := l16Find_any LA lc vs code v h1 hs.1
        rwa [ek] at this
      have HA : Hid (∀ v : World, RdV v v.heap.size LA vs → Rd v v.heap.size 3 jointC JA js → Calls Try.prog 155 #[.slice LA vs.length lc, .slice JA js.length jc] v (GivesAllS v (allB vs js))) := fun v h1 h2 => l18All_any LA JA lc jc vs js v h1 h2 hs hb
      have HCd : Hid (∀ ms : List RowM, ms.map RowM.bs = allB vs js → (∀ m ∈ ms, Codes vs m.bs) ∧ ms.length ≤ 131071) := fun ms h => ⟨fun m hm => founds_codes (bothB_true hb).1 (by
          have : m.bs ∈ allB vs js := by rw [← h]; exact List.mem_map.2 ⟨m, hm, rfl⟩
          exact this), by
        have := allB_len js (bothB_true hb).1
        rwa [← h, List.length_map] at this⟩
      have HBs : Hid (∀ (v : World) (A : Option Addr) (c : Nat) (ms : List RowM), RdV v v.heap.size LA vs → Rd v v.heap.size 1 rowC A ms → RowsF v 0 v.heap.size ms → (∀ m ∈ ms, Codes vs m.bs) → ms.length ≤ 131071 → Calls Try.prog 167 #[.slice LA vs.length lc, .slice A ms.length c, .bool true] v (GivesRes2 v 0 (finR (bestOf (priceB vs) [] (ms.map RowM.bs))))) := fun v A c ms h1 h2 h3 h4 h5 => l18Best_price LA A lc c vs ms v h1 hs h2 h3 h4 h5
      have hv16 := partsB_len (bothB_true hb).1
      have HR : Hid (withR vs js code = finR (bestOf (priceB vs) [] ((allB vs js).filter (hasCode vs code)))) := by unfold Hid withR; rw [if_pos hb, if_neg hn]
      rw [HR.out]
      obtain ⟨bl, ol, rfl⟩ := hr.addr (by omega)
      clear hs hb hxo hse hkc hcn ek hm2 hn hk HR
      go_enter Try.func93, Try.ntmps93
      go_wp2_with fail
      refine HCo.out.mono ?_
      rintro e w1 ⟨rfl, hb1⟩
      go_wp2_with fail
      refine (HKC.out w1 (hr.next hb1)).mono ?_
      rintro e wk ⟨rfl, hbk⟩
      have HB1 := bthen hb1 hbk
      clear HKC
      go_wp2_with fail
      have hbV := bthen HB1 (balloc wk (.cells #[] 61))
      have hV : TwoSt wk (wk.alloc (.cells #[] 61)) (some ⟨wk.heap.size, 0, none⟩) 0 [] none 0 [] [] [] [] := ⟨Own.made _ (Nat.le_refl _) rfl, Own.nil, balloc _ _, RowsF.nil, fun p hp => absurd hp (by simp), fun p hp => absurd hp (by simp)⟩
      refine (HA.out _ (hr.next hbV) (hr2.next hbV)).mono ?_
      rintro e w2 ⟨A, c, ms, rfl, hms, fms, rms, hb2⟩
      have hb12 := bthen hbV hb2
      obtain ⟨hcd, hml⟩ := HCd.out ms hms
      have HS0 := Lib.hid (hV.addR hb2 fms rms)
      have HMS := Lib.hid hms
      have HCm := Lib.hid hcd
      clear hcd hms fms rms hV HCd HA hb2 hbV
      go_wp2_with fail
      go_loopw [10, 12] (fun o i wr => ∃ (n : Nat) (oA : Option Addr) (oc : Nat) (ns : List RowM), n ≤ ms.length ∧ i = .int .i64 n ∧ o = .slice oA ns.length oc ∧ ns = (ms.take n).filter (fun r => (hasCode vs code) r.bs) ∧ TwoSt wk wr oA oc ns none 0 [] [] [(A, ms)] ([] ++ ms)) (fun _ i _ => ms.length - (intOf i).toNat)
      case atStart => exact ⟨0, _, _, [], Nat.zero_le _, rfl, rfl, by simp, HS0.out⟩
      case round =>
        obtain ⟨n, oA, oc, ns, hn, rfl, rfl, hns, hst⟩ := hrel
        have HS := Lib.hid hst; clear hst
        have hnl : ns.length ≤ 131071 := by
          rw [hns]
          exact Nat.le_trans (List.length_filter_le _ _) (by rw [List.length_take]; omega)
        have HNs := Lib.hid hns; clear hns
        have hbr := bthen HB1 HS.out.low
        have hsr := HS.out.low.size
        by_cases hlt : n < ms.length
        · have hx : ms[n]? = some ms[n] := List.getElem?_eq_getElem hlt
          obtain ⟨g, rfl⟩ := (HS.out.rows _ (List.mem_cons_self ..)).1.some (by simpa using (by omega : 0 < ms.length))
          have q0 := (HS.out.rows _ (List.mem_cons_self ..)).1.cell1 hx rfl
          have hrow := HS.out.rowsf ms[n] (by simp)
          have hcy := HCm.out ms[n] (List.mem_of_getElem? hx)
          generalize ms[n] = y at hx q0 hrow hcy
          have Hx := Lib.hid hx; clear hx
          have hy8 := hcy.len
          have hys : s < y.bs.length := by omega
          have hyt : y.bs[s]? = some y.bs[s] := List.getElem?_eq_getElem hys
          obtain ⟨gy, hgy⟩ := hrow.1.some (by omega)
          have hyA := hrow.1
          rw [hgy] at hyA
          have q1 := hyA.cell1 hyt rfl
          have HH : Hid (hasCode vs code y.bs = decide (y.bs[s] = code)) := by
            unfold Hid hasCode
            rw [HK.out, textAt_eq (n := (s : Int)) (c := y.bs[s]) (by rw [Int.toNat_natCast]; exact hyt)]
          have hy8' : 8 ≤ y.bs.length := by omega
          clear hy8 hyt hyA hrow hcy
          generalize y.bs[s] = ty at q1 HH
          obtain ⟨hB, pA, pc, p0, p1, p2, p3, p4, _, _⟩ := (hr.below hbr).cells hkx
          rw [Hks.out] at p1
          by_cases hty : ty = code
          · have hcc : (ty.toList == code.toList) = true := by simp [hty]
            have HPy : Hid (hasCode vs code y.bs = true) := by unfold Hid; rw [HH.out]; simp [hty]
            clear hty HH
            go_wp2_with fail
            have e0 : ∀ v : Later wr, v.w.cell? ⟨g, n, none⟩ = some (.slice y.A y.bs.length y.c) := Later.cell q0
            have e1 : ∀ v : Later wr, v.w.cell? ⟨bl, ol + k * 5 + 1, none⟩ = some (.int .i64 (s : Int)) := Later.cell p1
            have e2 : ∀ v : Later wr, v.w.cell? ⟨gy, s, none⟩ = some (.string ty) := Later.cell q1
            have HFl : Hid (∀ v : Later wr, Calls Try.prog 130 #[.slice (some ⟨bl, ol, none⟩) vs.length lc, .string code] v.w fun e w' => e = .returned (.int .i64 (k : Int)) ∧ Below v.w.heap.size v.w w') := fun v => HFi.out v.w (Later.rdv (hr.next hbr) v)
            rw [hgy] at e0
            clear q0 q1 p0 p1 p2 p3 p4 hgy
            refine wp_region_later (by kernel_rfl) (by kernel_rfl) ?_
            repeat (go_big_quiet_step ((go_at_call 130; exact Later.call (HFl.out _))))
            refine wpQuiet_nil ?_
            rintro w4 ⟨⟨_, hb4⟩, rfl⟩
            have HS4 := Lib.hid (HS.out.next hb4)
            clear e0 e1 e2
            have HT := Lib.hid (take_filter_yes (p := fun r => hasCode vs code r.bs) Hx.out HPy.out)
            have r1 := (HS4.out.rows _ (List.mem_cons_self ..)).1.cell1 Hx.out rfl
            have hs4 := HS4.out.low.size
            go_wp2_with (at_builtin; refine wpList_append_far rfl _ _ _ rfl wk.heap.size 61 (.slice none 0 0) 1 24 Try.underlying154 infoRow rfl (by omega) (by omega) rowC ns y oA oc rfl (HS4.out.own1.keep (balloc _ _)) (w4.heap.size) _ rfl rfl (one_cell (by go_simp)) (rowC_one _) (by omega) (by simp; omega) ?_)
            intro A6 c6 w6 hown6 hb6 hfar6
            have HS6 := Lib.hid ((HS4.out.next (balloc w4 _)).pushRow hown6 hb6 (fun g hg ha => hfar6 g (by simpa using hg) ha))
            clear hown6 hb6 hfar6
            go_wp2_with fail
            exact ⟨⟨n + 1, A6, c6, ns ++ [y], by omega, by go_num, by simp, by rw [HT.out, ← HNs.out], HS6.out⟩, by simp [intOf]; omega⟩
          · have hcc : (ty.toList == code.toList) = false := by simp; exact fun e => hty (str_eq.1 e)
            have HPy : Hid (hasCode vs code y.bs = false) := by unfold Hid; rw [HH.out]; simp [hty]
            clear hty HH
            go_wp2_with fail
            have e0 : ∀ v : Later wr, v.w.cell? ⟨g, n, none⟩ = some (.slice y.A y.bs.length y.c) := Later.cell q0
            have e1 : ∀ v : Later wr, v.w.cell? ⟨bl, ol + k * 5 + 1, none⟩ = some (.int .i64 (s : Int)) := Later.cell p1
            have e2 : ∀ v : Later wr, v.w.cell? ⟨gy, s, none⟩ = some (.string ty) := Later.cell q1
            have HFl : Hid (∀ v : Later wr, Calls Try.prog 130 #[.slice (some ⟨bl, ol, none⟩) vs.length lc, .string code] v.w fun e w' => e = .returned (.int .i64 (k : Int)) ∧ Below v.w.heap.size v.w w') := fun v => HFi.out v.w (Later.rdv (hr.next hbr) v)
            rw [hgy] at e0
            clear q0 q1 p0 p1 p2 p3 p4 hgy
            refine wp_region_later (by kernel_rfl) (by kernel_rfl) ?_
            repeat (go_big_quiet_step ((go_at_call 130; exact Later.call (HFl.out _))))
            refine wpQuiet_nil ?_
            rintro w4 ⟨⟨_, hb4⟩, rfl⟩
            have HS4 := Lib.hid (HS.out.next hb4)
            clear e0 e1 e2
            have HT := Lib.hid (take_filter_no (p := fun r => hasCode vs code r.bs) Hx.out HPy.out)
            go_wp2_with fail
            exact ⟨⟨n + 1, oA, oc, ns, by omega, by go_num, rfl, by rw [HT.out, ← HNs.out], HS4.out⟩, by simp [intOf]; omega⟩
        · have HE : Hid (ns.map RowM.bs = (allB vs js).filter (hasCode vs code)) := by
            unfold Hid
            rw [HNs.out, List.take_of_length_le (by omega), ← HMS.out]
            exact filter_bs (hasCode vs code) ms
          have HBx := Lib.hid (HBs.out wr oA oc ns (hr.next hbr) (HS.out.own1.flat rowC_len).rd (fun r hrm => HS.out.rowsf r (by
            rw [HNs.out] at hrm
            simpa using List.mem_of_mem_take (List.mem_filter.1 hrm).1)) (fun r hrm => HCm.out r (by
            rw [HNs.out] at hrm
            exact List.mem_of_mem_take (List.mem_filter.1 hrm).1)) hnl)
          rw [HE.out] at HBx
          clear HBs
          go_wp2_with fail
          refine HBx.out.mono ?_
          rintro e w3 ⟨A3, c3, rfl, hf3, hc3, hb3⟩
          have Hf := Lib.hid hf3
          have Hc := Lib.hid hc3
          clear hf3 hc3
          go_wp2_with fail
          go_ret3
          exact ⟨A3, c3, rfl, Hf.out, Hc.out, bthen hbr hb3⟩
  · rw [bothI_no hb] at hCo
    have HCo := Lib.hid hCo; clear hCo
    have HR : Hid (withR vs js code = ([], 0, 1)) := by unfold Hid withR; rw [if_neg hb]
    clear hb hs hm2
    generalize withR vs js code = R at HR ⊢
    go_enter Try.func93, Try.ntmps93
    go_wp2_with fail
    refine HCo.out.mono ?_
    rintro e w1 ⟨rfl, hb1⟩
    go_wp2_with fail
    go_ret3
    exact ⟨none, 0, by rw [HR.out]; rfl, by rw [HR.out]; exact flat_nil, by rw [HR.out]; exact Nat.le_refl _, hb1⟩

end Go.Proofs.Ytpdkhmnbabccnaa
