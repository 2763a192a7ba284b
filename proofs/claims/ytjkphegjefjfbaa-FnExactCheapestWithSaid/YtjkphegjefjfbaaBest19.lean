/- DERIVED. The cheapest and the lightest bicycle in the program. By program (gbest2.py). -/
import Derived.Test.YtjkphegjefjfbaaBest18
namespace Go.Proofs.Ytjkphegjefjfbaa
set_option maxRecDepth 100000
open Go.RowKit

set_option maxHeartbeats 1000000 in
theorem CheapestBicycle_impl (LA JA : Option Addr) (lc jc : Nat) (vs : List PartT) (js : List JointT) (w : World) (hr : RdV w w.heap.size LA vs) (hr2 : Rd w w.heap.size 3 jointC JA js) (hs : SmallV vs) (hm2 : js.length ≤ 1048576) :
    Calls Try.prog 33 #[.slice LA vs.length lc, .slice JA js.length jc] w (GivesRes2 w w.heap.size (cheapR vs js)) := by
  have hBo := areBoth_any LA JA lc jc vs js w hr hr2 hs hm2
  by_cases hb : bothB vs js = true
  · rw [hb] at hBo
    have HBo := Lib.hid hBo; clear hBo
    have HC : Hid (∀ v : World, RdV v v.heap.size LA vs → Rd v v.heap.size 3 jointC JA js → Calls Try.prog 82 #[.slice LA vs.length lc, .slice JA js.length jc, .string noText] v (GivesRes2 v v.heap.size (finR (bestOf (priceB vs) [] (allB vs js))))) := fun v h1 h2 => cheapest_any LA JA lc jc vs js v h1 h2 hs hb
    have HR : Hid (cheapR vs js = finR (bestOf (priceB vs) [] (allB vs js))) := by unfold Hid cheapR; rw [if_pos hb]
    generalize finR (bestOf (priceB vs) [] (allB vs js)) = R2 at HC HR
    generalize cheapR vs js = R at HR ⊢
    clear hs hb hm2
    go_enter Try.func33, Try.ntmps33
    go_wp2_with fail
    refine HBo.out.mono ?_
    rintro e w1 ⟨rfl, hb1⟩
    go_wp2_with fail
    refine (HC.out w1 (hr.next hb1) (hr2.next hb1)).mono ?_
    rintro e w2 ⟨A, c, rfl, hf, hc, hb2⟩
    have Hf := Lib.hid hf
    have Hc := Lib.hid hc
    clear hf hc
    go_wp2_with fail
    go_ret3
    have := HR.out
    subst this
    exact ⟨A, c, rfl, Hf.out.mono hb1.size (Nat.le_refl _), Hc.out, bthen hb1 hb2⟩
  · have HR : Hid (cheapR vs js = ([], 0, 1)) := by unfold Hid cheapR; rw [if_neg hb]
    have hb' : bothB vs js = false := by simpa using hb
    rw [hb'] at hBo
    have HBo := Lib.hid hBo; clear hBo hb hb' hs hm2
    generalize cheapR vs js = R at HR ⊢
    go_enter Try.func33, Try.ntmps33
    go_wp2_with fail
    refine HBo.out.mono ?_
    rintro e w1 ⟨rfl, hb1⟩
    go_wp2_with fail
    go_ret3
    exact ⟨none, 0, by rw [HR.out]; rfl, by rw [HR.out]; exact flat_nil, by rw [HR.out]; exact Nat.le_refl _, hb1⟩

set_option maxHeartbeats 1000000 in
theorem CheapestWith_impl (LA JA : Option Addr) (lc jc : Nat) (vs : List PartT) (js : List JointT) (w : World) (hr : RdV w w.heap.size LA vs) (hr2 : Rd w w.heap.size 3 jointC JA js) (hs : SmallV vs) (hm2 : js.length ≤ 1048576) (code : ByteArray) :
    Calls Try.prog 44 #[.slice LA vs.length lc, .slice JA js.length jc, .string code] w (GivesRes2 w w.heap.size (withR vs js code)) := by
  have hBo := areBoth_any LA JA lc jc vs js w hr hr2 hs hm2
  by_cases hb : bothB vs js = true
  · rw [hb] at hBo
    have HBo := Lib.hid hBo; clear hBo
    have hbd := findI_bd vs code hs.1
    have HF : Hid (∀ v : World, RdV v v.heap.size LA vs → Calls Try.prog 89 #[.slice LA vs.length lc, .string code] v fun e w' => e = .returned (.int .i64 (findI vs code)) ∧ Below v.heap.size v w') := fun v h1 => findPart_any LA lc vs code v h1 hs.1
    by_cases hn : findI vs code < 0
    · have HR : Hid (withR vs js code = ([], 0, 4)) := by unfold Hid withR; rw [if_pos hb, if_pos hn]
      generalize withR vs js code = R at HR ⊢
      clear hs hb hm2
      generalize findI vs code = n at hbd HF hn
      go_enter Try.func44, Try.ntmps44
      go_wp2_with fail
      refine HBo.out.mono ?_
      rintro e w1 ⟨rfl, hb1⟩
      go_wp2_with fail
      refine (HF.out w1 (hr.next hb1)).mono ?_
      rintro e w2 ⟨rfl, hb2⟩
      go_wp2_with fail
      go_ret3
      exact ⟨none, 0, by rw [HR.out]; rfl, by rw [HR.out]; exact flat_nil, by rw [HR.out]; exact Nat.le_refl _, (bthen hb1 hb2)⟩
    · have HC : Hid (∀ v : World, RdV v v.heap.size LA vs → Rd v v.heap.size 3 jointC JA js → Calls Try.prog 82 #[.slice LA vs.length lc, .slice JA js.length jc, .string code] v (GivesRes2 v v.heap.size (finR (bestOf (priceB vs) [] ((allB vs js).filter (hasCode vs code)))))) := fun v h1 h2 => cheapest_with LA JA lc jc vs js v h1 h2 hs hb code (by omega)
      have HR : Hid (withR vs js code = finR (bestOf (priceB vs) [] ((allB vs js).filter (hasCode vs code)))) := by unfold Hid withR; rw [if_pos hb, if_neg hn]
      generalize finR (bestOf (priceB vs) [] ((allB vs js).filter (hasCode vs code))) = R2 at HC HR
      generalize withR vs js code = R at HR ⊢
      clear hs hb hm2
      generalize findI vs code = n at hbd HF hn
      go_enter Try.func44, Try.ntmps44
      go_wp2_with fail
      refine HBo.out.mono ?_
      rintro e w1 ⟨rfl, hb1⟩
      go_wp2_with fail
      refine (HF.out w1 (hr.next hb1)).mono ?_
      rintro e w2 ⟨rfl, hb2⟩
      have hb12 := bthen hb1 hb2
      go_wp2_with fail
      refine (HC.out w2 (hr.next hb12) (hr2.next hb12)).mono ?_
      rintro e w3 ⟨A, c, rfl, hf, hc, hb3⟩
      have Hf := Lib.hid hf
      have Hc := Lib.hid hc
      clear hf hc
      go_wp2_with fail
      go_ret3
      have := HR.out
      subst this
      exact ⟨A, c, rfl, Hf.out.mono hb12.size (Nat.le_refl _), Hc.out, bthen hb12 hb3⟩
  · have HR : Hid (withR vs js code = ([], 0, 1)) := by unfold Hid withR; rw [if_neg hb]
    have hb' : bothB vs js = false := by simpa using hb
    rw [hb'] at hBo
    have HBo := Lib.hid hBo; clear hBo hb hb' hs hm2
    generalize withR vs js code = R at HR ⊢
    go_enter Try.func44, Try.ntmps44
    go_wp2_with fail
    refine HBo.out.mono ?_
    rintro e w1 ⟨rfl, hb1⟩
    go_wp2_with fail
    go_ret3
    exact ⟨none, 0, by rw [HR.out]; rfl, by rw [HR.out]; exact flat_nil, by rw [HR.out]; exact Nat.le_refl _, hb1⟩

set_option maxHeartbeats 2000000 in
theorem LightestBicycle_impl (LA JA : Option Addr) (lc jc : Nat) (vs : List PartT) (js : List JointT) (w : World) (hr : RdV w w.heap.size LA vs) (hr2 : Rd w w.heap.size 3 jointC JA js) (hs : SmallV vs) (hm2 : js.length ≤ 1048576) (m : Int) (hm : -9223372036854775808 ≤ m ∧ m ≤ 9223372036854775807) :
    Calls Try.prog 35 #[.slice LA vs.length lc, .slice JA js.length jc, .int .i64 m] w (GivesRes2 w w.heap.size (lightR vs js m)) := by
  have hBo := areBoth_any LA JA lc jc vs js w hr hr2 hs hm2
  have hI := within_any m 0 100000000
  by_cases hb : bothB vs js = true
  · rw [hb] at hBo
    have HBo := Lib.hid hBo; clear hBo
    by_cases hi : inB m 0 100000000 = true
    · rw [hi] at hI
      have HI := Lib.hid hI; clear hI
      have HSu : Hid (∀ (v : World) (r : RowM), RdV v v.heap.size LA vs → Rd v v.heap.size 1 tC r.A r.bs → Codes vs r.bs → Calls Try.prog 84 #[.slice LA vs.length lc, .slice r.A r.bs.length r.c] v fun e w' => e = .returned (.tuple #[.int .i64 (priceB vs r.bs), .int .i64 (gramsB vs r.bs)]) ∧ Below v.heap.size v w') := fun v r h1 h2 h3 => buildSums_any LA r.A lc r.c vs r.bs v h1 h2 hs h3
      have HB : Hid (∀ v : World, RdV v v.heap.size LA vs → Rd v v.heap.size 3 jointC JA js → Calls Try.prog 70 #[.slice LA vs.length lc, .slice JA js.length jc] v (GivesRowsN v (allB vs js) (nodesOf (tr vs js)))) := fun v h1 h2 => bicycles_any LA JA lc jc vs js v h1 h2 hs hb
      have HCo : Hid (∀ b ∈ allB vs js, Codes vs b) := fun b hbm => founds_codes (bothB_true hb).1 hbm
      have hal := allB_len js (bothB_true hb).1
      have HLR : Hid (lightR vs js m = finR (bestOf (gramsB vs) [] ((allB vs js).filter fun b => decide (priceB vs b ≤ m)))) := by unfold Hid lightR; rw [if_pos hb, if_pos hi]
      rw [HLR.out]
      clear hs hb hi hm2 HLR
      go_enter Try.func35, Try.ntmps35
      go_wp2_with fail
      refine HBo.out.mono ?_
      rintro e w1 ⟨rfl, hb1⟩
      go_wp2_with (go_at_call 76; refine (HI.out _).mono ?_; rintro e w' ⟨rfl, rfl⟩)
      refine (HB.out w1 (hr.next hb1) (hr2.next hb1)).mono ?_
      rintro e w2 ⟨A, c, ms, rfl, hms, fms, rms, hb2⟩
      have hb12 := bthen hb1 hb2
      have hs1 := hb1.size
      have HMS := Lib.hid hms
      have hml : ms.length ≤ 131071 := by
        rw [← List.length_map (f := RowM.bs), hms]
        exact hal
      have HBd : Hid (∀ i, -1 ≤ (bestFil (gramsB vs) [] (fun b => decide (priceB vs b ≤ m)) (allB vs js) i).2 ∧ (bestFil (gramsB vs) [] (fun b => decide (priceB vs b ≤ m)) (allB vs js) i).2 ≤ 80000000) := bestFil_bd (by omega) fun b hbm => gramsB_bd (HCo.out b hbm)
      have HZ : Hid ((bestFil (gramsB vs) [] (fun b => decide (priceB vs b ≤ m)) (allB vs js) 0) = ([], -1)) := bestFil_zero _ _
      have HY : Hid (∀ (i : Nat) (b : List ByteArray), (allB vs js)[i]? = some b → (fun b => decide (priceB vs b ≤ m)) b = true → (bestFil (gramsB vs) [] (fun b => decide (priceB vs b ≤ m)) (allB vs js) (i + 1)) = bestStep (gramsB vs) (bestFil (gramsB vs) [] (fun b => decide (priceB vs b ≤ m)) (allB vs js) i) b) := fun i b h1 h2 => bestFil_yes h1 h2
      have HN : Hid (∀ (i : Nat) (b : List ByteArray), (allB vs js)[i]? = some b → (fun b => decide (priceB vs b ≤ m)) b = false → (bestFil (gramsB vs) [] (fun b => decide (priceB vs b ≤ m)) (allB vs js) (i + 1)) = (bestFil (gramsB vs) [] (fun b => decide (priceB vs b ≤ m)) (allB vs js) i)) := fun i b h1 h2 => bestFil_no h1 h2
      have HE : Hid (∀ i, ms.length ≤ i → (bestFil (gramsB vs) [] (fun b => decide (priceB vs b ≤ m)) (allB vs js) i) = bestOf (gramsB vs) [] ((allB vs js).filter (fun b => decide (priceB vs b ≤ m)))) := fun i hi => bestFil_all (by rw [← hms, List.length_map]; exact hi)
      have HF := Lib.hid fms
      have HRs := Lib.hid rms
      clear hms fms rms hal
      generalize (bestFil (gramsB vs) [] (fun b => decide (priceB vs b ≤ m)) (allB vs js)) = Bf at HBd HZ HY HN HE
      go_wp2_with fail
      go_loopw [9, 10, 32] (fun o1 o2 i wr => ∃ (n : Nat) (r : RowM), n ≤ ms.length ∧ i = .int .i64 n ∧ o1 = .slice r.A r.bs.length r.c ∧ o2 = .int .i64 (Bf n).2 ∧ r.bs = (Bf n).1 ∧ RowOk w2 w.heap.size r ∧ Below w2.heap.size w2 wr) (fun _ _ i _ => ms.length - (intOf i).toNat)
      case atStart => exact ⟨0, ⟨none, 0, []⟩, Nat.zero_le _, rfl, rfl, by rw [HZ.out], by rw [HZ.out], RowOk.nil _ _, Below.refl _ _⟩
      case round =>
        obtain ⟨n, r, hn, rfl, rfl, rfl, hrb, hrk, hb⟩ := hrel
        have HRb := Lib.hid hrb; clear hrb
        obtain ⟨hz0, hz1⟩ := HBd.out n
        have HRk := Lib.hid hrk; clear hrk
        have hb1r := bthen hb12 hb
        by_cases hlt : n < ms.length
        · have hx : ms[n]? = some ms[n] := List.getElem?_eq_getElem hlt
          obtain ⟨g, rfl⟩ := HF.out.some (by omega)
          have q0 := (HF.out.below hb (Nat.le_refl _)).cell1 hx rfl
          have hrow := HRs.out ms[n] (List.mem_of_getElem? hx)
          have hxa : (allB vs js)[n]? = some (ms[n]).bs := by
            rw [← HMS.out, List.getElem?_map, hx]
            rfl
          generalize ms[n] = y at hx q0 hrow hxa
          have hcy := HCo.out y.bs (List.mem_of_getElem? hxa)
          obtain ⟨hp0, hp1⟩ := priceB_bd hcy
          obtain ⟨hg0, hg1⟩ := gramsB_bd hcy
          have HYx := Lib.hid (HY.out n y.bs hxa)
          have HNx := Lib.hid (HN.out n y.bs hxa)
          have HSy := Lib.hid (HSu.out wr y (hr.next hb1r) ((hrow.1.rd.below hb).more hb.size) hcy)
          have HCy := Lib.hid hcy
          have HRy : Hid (RowOk w2 w.heap.size y) := ⟨hrow.1.mono (by first | exact Nat.le_refl _ | omega) (Nat.le_refl _), hrow.2⟩
          clear hx hcy hxa
          by_cases hpm : priceB vs y.bs ≤ m
          · have hpy : decide (priceB vs y.bs ≤ m) = true := by simpa using hpm
            have Hpy := Lib.hid hpy; clear hpy
            by_cases hl0 : (Bf n).2 < 0
            · have HB1 : Hid (Bf (n + 1) = (y.bs, gramsB vs y.bs)) := by unfold Hid; rw [HYx.out Hpy.out, bestStep_yes (Or.inl hl0)]
              clear HYx HNx HSu HB
              go_wp2_with fail
              refine HSy.out.mono ?_
              rintro e w3 ⟨rfl, hb3⟩
              have hbn := bthen hb hb3
              go_wp2_with fail
              exact ⟨⟨n + 1, y, by omega, by go_num, rfl, by rw [HB1.out], by rw [HB1.out], HRy.out, hbn⟩, by simp [intOf]; omega⟩
            · by_cases hl1 : gramsB vs y.bs < (Bf n).2
              · have HB1 : Hid (Bf (n + 1) = (y.bs, gramsB vs y.bs)) := by unfold Hid; rw [HYx.out Hpy.out, bestStep_yes (Or.inr hl1)]
                clear HYx HNx HSu HB
                go_wp2_with fail
                refine HSy.out.mono ?_
                rintro e w3 ⟨rfl, hb3⟩
                have hbn := bthen hb hb3
                go_wp2_with fail
                exact ⟨⟨n + 1, y, by omega, by go_num, rfl, by rw [HB1.out], by rw [HB1.out], HRy.out, hbn⟩, by simp [intOf]; omega⟩
              · have HB1 : Hid (Bf (n + 1) = Bf n) := by unfold Hid; rw [HYx.out Hpy.out, bestStep_no (by omega)]
                clear HYx HNx HSu HB
                go_wp2_with fail
                refine HSy.out.mono ?_
                rintro e w3 ⟨rfl, hb3⟩
                have hbn := bthen hb hb3
                go_wp2_with fail
                exact ⟨⟨n + 1, r, by omega, by go_num, rfl, by rw [HB1.out], by rw [HB1.out]; exact HRb.out, HRk.out, hbn⟩, by simp [intOf]; omega⟩
          · have HB1 : Hid (Bf (n + 1) = Bf n) := HNx.out (by simpa using hpm)
            clear HYx HNx HSu HB
            go_wp2_with fail
            refine HSy.out.mono ?_
            rintro e w3 ⟨rfl, hb3⟩
            have hbn := bthen hb hb3
            go_wp2_with fail
            exact ⟨⟨n + 1, r, by omega, by go_num, rfl, by rw [HB1.out], by rw [HB1.out]; exact HRb.out, HRk.out, hbn⟩, by simp [intOf]; omega⟩
        · have HEn := Lib.hid (HE.out n (by omega))
          by_cases hl0 : (Bf n).2 < 0
          · have HR2 : Hid (finR (bestOf (gramsB vs) [] ((allB vs js).filter fun b => decide (priceB vs b ≤ m))) = ([], 0, 4)) := by unfold Hid finR; rw [← HEn.out, if_pos hl0]
            go_wp2_with fail
            go_ret3
            skip
            exact ⟨none, 0, by rw [HR2.out]; rfl, by rw [HR2.out]; exact flat_nil, by rw [HR2.out]; exact Nat.le_refl _, bthen hb12 hb⟩
          · have HR2 : Hid (finR (bestOf (gramsB vs) [] ((allB vs js).filter fun b => decide (priceB vs b ≤ m))) = ((Bf n).1, (Bf n).2, 0)) := by unfold Hid finR; rw [← HEn.out, if_neg hl0]
            go_wp2_with fail
            go_ret3
            skip
            refine ⟨r.A, r.c, by rw [HR2.out, ← HRb.out]; rfl, ?_, by rw [HR2.out, ← HRb.out]; exact HRk.out.2, bthen hb12 hb⟩
            rw [HR2.out, ← HRb.out]
            exact (HRk.out.1.below hb (Nat.le_refl _)).mono (Nat.le_refl _) hb.size
    · have HR : Hid (lightR vs js m = ([], 0, 2)) := by unfold Hid lightR; rw [if_pos hb, if_neg hi]
      rw [eq_false_of_ne_true hi] at hI
      have HI := Lib.hid hI; clear hI hi hb hs hm2
      generalize lightR vs js m = R at HR ⊢
      go_enter Try.func35, Try.ntmps35
      go_wp2_with fail
      refine HBo.out.mono ?_
      rintro e w1 ⟨rfl, hb1⟩
      go_wp2_with (go_at_call 76; refine (HI.out _).mono ?_; rintro e w' ⟨rfl, rfl⟩)
      go_ret3
      exact ⟨none, 0, by rw [HR.out]; rfl, by rw [HR.out]; exact flat_nil, by rw [HR.out]; exact Nat.le_refl _, hb1⟩
  · have HR : Hid (lightR vs js m = ([], 0, 1)) := by unfold Hid lightR; rw [if_neg hb]
    have hb' : bothB vs js = false := by simpa using hb
    rw [hb'] at hBo
    have HBo := Lib.hid hBo; clear hBo hb hb' hs hm2 hI
    generalize lightR vs js m = R at HR ⊢
    go_enter Try.func35, Try.ntmps35
    go_wp2_with fail
    refine HBo.out.mono ?_
    rintro e w1 ⟨rfl, hb1⟩
    go_wp2_with fail
    go_ret3
    exact ⟨none, 0, by rw [HR.out]; rfl, by rw [HR.out]; exact flat_nil, by rw [HR.out]; exact Nat.le_refl _, hb1⟩

end Go.Proofs.Ytjkphegjefjfbaa
