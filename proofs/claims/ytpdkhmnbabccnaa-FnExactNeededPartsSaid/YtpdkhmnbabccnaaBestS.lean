/- DERIVED. The best bicycles in the reference. By program (gbests.py). -/
import Derived.Test.YtpdkhmnbabccnaaBest18
namespace Go.Proofs.Ytpdkhmnbabccnaa
set_option maxRecDepth 100000
open Go.RowKit

set_option maxHeartbeats 2000000 in
theorem l18Best_price (LA A : Option Addr) (lc c : Nat) (vs : List PartT) (ms : List RowM) (w : World) (hr : RdV w w.heap.size LA vs) (hs : SmallV vs) (hR : Rd w w.heap.size 1 rowC A ms) (hF : RowsF w 0 w.heap.size ms) (hC : ∀ m ∈ ms, Codes vs m.bs) (hml : ms.length ≤ 131071) :
    Calls Try.prog 167 #[.slice LA vs.length lc, .slice A ms.length c, .bool true] w (GivesRes2 w 0 (finR (bestOf (priceB vs) [] (ms.map RowM.bs)))) := by
  have HP : Hid (∀ (v : World) (r : RowM), RdV v v.heap.size LA vs → Rd v v.heap.size 1 tC r.A r.bs → Codes vs r.bs → Calls Try.prog 144 #[.slice LA vs.length lc, .slice r.A r.bs.length r.c] v fun e w' => e = .returned (.int .i64 (priceB vs r.bs)) ∧ Below v.heap.size v w') := fun v r h1 h2 h3 => l17Price_any LA r.A lc r.c vs r.bs v h1 h2 hs h3
  have HG : Hid (∀ (v : World) (r : RowM), RdV v v.heap.size LA vs → Rd v v.heap.size 1 tC r.A r.bs → Codes vs r.bs → Calls Try.prog 145 #[.slice LA vs.length lc, .slice r.A r.bs.length r.c] v fun e w' => e = .returned (.int .i64 (gramsB vs r.bs)) ∧ Below v.heap.size v w') := fun v r h1 h2 h3 => l17Grams_any LA r.A lc r.c vs r.bs v h1 h2 hs h3
  have HC := Lib.hid hC; clear hC
  have HF := Lib.hid hF; clear hF
  have HBd : Hid (∀ i, -1 ≤ (bestFil (priceB vs) [] (fun _ => true) (ms.map RowM.bs) i).2 ∧ (bestFil (priceB vs) [] (fun _ => true) (ms.map RowM.bs) i).2 ≤ 80000000) := bestFil_bd (by omega) fun b hbm => by
    obtain ⟨m, hm, rfl⟩ := List.mem_map.1 hbm
    exact priceB_bd (HC.out m hm)
  have HZ : Hid ((bestFil (priceB vs) [] (fun _ => true) (ms.map RowM.bs) 0) = ([], -1)) := bestFil_zero _ _
  have HY : Hid (∀ (i : Nat) (b : List ByteArray), (ms.map RowM.bs)[i]? = some b → (bestFil (priceB vs) [] (fun _ => true) (ms.map RowM.bs) (i + 1)) = bestStep (priceB vs) (bestFil (priceB vs) [] (fun _ => true) (ms.map RowM.bs) i) b) := fun i b h1 => bestFil_yes h1 rfl
  have HE : Hid (∀ i, ms.length ≤ i → (bestFil (priceB vs) [] (fun _ => true) (ms.map RowM.bs) i) = bestOf (priceB vs) [] (ms.map RowM.bs)) := fun i hi => by
    have := bestFil_all (key := priceB vs) (z := []) (p := fun _ => true) (l := ms.map RowM.bs) (i := i) (by rw [List.length_map]; exact hi)
    rwa [List.filter_eq_self.2 (fun _ _ => rfl)] at this
  clear hs
  generalize (bestFil (priceB vs) [] (fun _ => true) (ms.map RowM.bs)) = Bf at HBd HZ HY HE
  go_enter Try.func167, Try.ntmps167
  go_wp2_with fail
  have hbV0 := balloc w (.cells #[] 9)
  have hr0 : RowOk (w.alloc (.cells #[] 9)) 0 ⟨some ⟨w.heap.size, 0, none⟩, 0, []⟩ := ⟨flat_nil, Nat.le_refl _⟩
  have HR0 := Lib.hid hr0; clear hr0
  generalize w.alloc (.cells #[] 9) = V at hbV0 HR0 ⊢
  go_loopw [9, 10, 11] (fun o1 o2 i wr => ∃ (n : Nat) (r : RowM), n ≤ ms.length ∧ i = .int .i64 n ∧ o1 = .slice r.A r.bs.length r.c ∧ o2 = .int .i64 (Bf n).2 ∧ r.bs = (Bf n).1 ∧ RowOk V 0 r ∧ Below V.heap.size V wr) (fun _ _ i _ => ms.length - (intOf i).toNat)
  case atStart => exact ⟨0, ⟨some ⟨w.heap.size, 0, none⟩, 0, []⟩, Nat.zero_le _, rfl, rfl, by rw [HZ.out], by rw [HZ.out], HR0.out, Below.refl _ _⟩
  case round =>
    obtain ⟨n, r, hn, rfl, rfl, rfl, hrb, hrk, hb⟩ := hrel
    have HRb := Lib.hid hrb; clear hrb
    obtain ⟨hz0, hz1⟩ := HBd.out n
    have HRk := Lib.hid hrk; clear hrk
    have hbV := bthen hbV0 hb
    by_cases hlt : n < ms.length
    · have hx : ms[n]? = some ms[n] := List.getElem?_eq_getElem hlt
      obtain ⟨b, o, rfl, hB, r0⟩ := (hR.below hbV).at1 hx rfl
      rw [Nat.mul_one] at r0
      have hrow := HF.out ms[n] (List.mem_of_getElem? hx)
      have hcy := HC.out ms[n] (List.mem_of_getElem? hx)
      have hxa : (ms.map RowM.bs)[n]? = some (ms[n]).bs := by rw [List.getElem?_map, hx]; rfl
      generalize ms[n] = y at hx r0 hrow hcy hxa
      obtain ⟨hp0, hp1⟩ := priceB_bd hcy
      obtain ⟨hg0, hg1⟩ := gramsB_bd hcy
      have HYx := Lib.hid (HY.out n y.bs hxa)
      have HGy := Lib.hid (HG.out wr y (hr.next hbV) (hrow.1.rd.next hbV) hcy)
      have HPy : Hid (∀ v, Below w.heap.size w v → Calls Try.prog 144 #[.slice LA vs.length lc, .slice y.A y.bs.length y.c] v fun e w' => e = .returned (.int .i64 (priceB vs y.bs)) ∧ Below v.heap.size v w') := fun v hv => HP.out v y (hr.next hv) (hrow.1.rd.next hv) hcy
      have HRy : Hid (RowOk V 0 y) := ⟨(hrow.1.below hbV0 (Nat.le_refl _)).mono (Nat.le_refl _) hbV0.size, hrow.2⟩
      clear hx hcy hxa hrow
      have HNx : True := trivial
      have HSu : True := trivial
      have HB : True := trivial
      by_cases hl0 : (Bf n).2 < 0
      · have HB1 : Hid (Bf (n + 1) = (y.bs, priceB vs y.bs)) := by unfold Hid; rw [HYx.out, bestStep_yes (Or.inl hl0)]
        clear HYx HNx HSu HB
        go_wp2_with fail
        refine HGy.out.mono ?_
        rintro e w4 ⟨rfl, hb4⟩
        have hbV4 := bthen hbV hb4
        have r0' := (hb4.cell (p := ⟨b, o + n, none⟩) (World.block_lt_of_cell? wr _ r0)).trans r0
        go_wp2_with fail
        refine (HPy.out w4 hbV4).mono ?_
        rintro e w5 ⟨rfl, hb5⟩
        have hbn := bthen (bthen hb hb4) hb5
        have r0'' := (hb5.cell (p := ⟨b, o + n, none⟩) (World.block_lt_of_cell? w4 _ r0')).trans r0'
        clear r0 r0'
        go_wp2_with fail
        exact ⟨⟨n + 1, y, by omega, by go_num, rfl, by rw [HB1.out], by rw [HB1.out], HRy.out, hbn⟩, by simp [intOf]; omega⟩
      · by_cases hl1 : priceB vs y.bs < (Bf n).2
        · have HB1 : Hid (Bf (n + 1) = (y.bs, priceB vs y.bs)) := by unfold Hid; rw [HYx.out, bestStep_yes (Or.inr hl1)]
          clear HYx HNx HSu HB
          go_wp2_with fail
          refine HGy.out.mono ?_
          rintro e w4 ⟨rfl, hb4⟩
          have hbV4 := bthen hbV hb4
          have r0' := (hb4.cell (p := ⟨b, o + n, none⟩) (World.block_lt_of_cell? wr _ r0)).trans r0
          go_wp2_with fail
          refine (HPy.out w4 hbV4).mono ?_
          rintro e w5 ⟨rfl, hb5⟩
          have hbn := bthen (bthen hb hb4) hb5
          have r0'' := (hb5.cell (p := ⟨b, o + n, none⟩) (World.block_lt_of_cell? w4 _ r0')).trans r0'
          clear r0 r0'
          go_wp2_with fail
          exact ⟨⟨n + 1, y, by omega, by go_num, rfl, by rw [HB1.out], by rw [HB1.out], HRy.out, hbn⟩, by simp [intOf]; omega⟩
        · have HB1 : Hid (Bf (n + 1) = Bf n) := by unfold Hid; rw [HYx.out, bestStep_no (by omega)]
          clear HYx HNx HSu HB
          go_wp2_with fail
          refine HGy.out.mono ?_
          rintro e w4 ⟨rfl, hb4⟩
          have hbV4 := bthen hbV hb4
          have r0' := (hb4.cell (p := ⟨b, o + n, none⟩) (World.block_lt_of_cell? wr _ r0)).trans r0
          go_wp2_with fail
          refine (HPy.out w4 hbV4).mono ?_
          rintro e w5 ⟨rfl, hb5⟩
          have hbn := bthen (bthen hb hb4) hb5
          have r0'' := (hb5.cell (p := ⟨b, o + n, none⟩) (World.block_lt_of_cell? w4 _ r0')).trans r0'
          clear r0 r0'
          go_wp2_with fail
          exact ⟨⟨n + 1, r, by omega, by go_num, rfl, by rw [HB1.out], by rw [HB1.out]; exact HRb.out, HRk.out, hbn⟩, by simp [intOf]; omega⟩
    · have HEn := Lib.hid (HE.out n (by omega))
      by_cases hl0 : (Bf n).2 < 0
      · have HR2 : Hid (finR (bestOf (priceB vs) [] (ms.map RowM.bs)) = ([], 0, 4)) := by unfold Hid finR; rw [← HEn.out, if_pos hl0]
        go_wp2_with fail
        go_ret3
        exact ⟨none, 0, by rw [HR2.out]; rfl, by rw [HR2.out]; exact flat_nil, by rw [HR2.out]; exact Nat.le_refl _, hbV⟩
      · have HR2 : Hid (finR (bestOf (priceB vs) [] (ms.map RowM.bs)) = ((Bf n).1, (Bf n).2, 0)) := by unfold Hid finR; rw [← HEn.out, if_neg hl0]
        go_wp2_with fail
        go_ret3
        refine ⟨r.A, r.c, by rw [HR2.out, ← HRb.out]; rfl, ?_, by rw [HR2.out, ← HRb.out]; exact HRk.out.2, hbV⟩
        rw [HR2.out, ← HRb.out]
        exact (HRk.out.1.below hb (Nat.le_refl _)).mono (Nat.le_refl _) hb.size

set_option maxHeartbeats 2000000 in
theorem l18Best_grams (LA A : Option Addr) (lc c : Nat) (vs : List PartT) (ms : List RowM) (w : World) (hr : RdV w w.heap.size LA vs) (hs : SmallV vs) (hR : Rd w w.heap.size 1 rowC A ms) (hF : RowsF w 0 w.heap.size ms) (hC : ∀ m ∈ ms, Codes vs m.bs) (hml : ms.length ≤ 131071) :
    Calls Try.prog 167 #[.slice LA vs.length lc, .slice A ms.length c, .bool false] w (GivesRes2 w 0 (finR (bestOf (gramsB vs) [] (ms.map RowM.bs)))) := by
  have HP : Hid (∀ (v : World) (r : RowM), RdV v v.heap.size LA vs → Rd v v.heap.size 1 tC r.A r.bs → Codes vs r.bs → Calls Try.prog 144 #[.slice LA vs.length lc, .slice r.A r.bs.length r.c] v fun e w' => e = .returned (.int .i64 (priceB vs r.bs)) ∧ Below v.heap.size v w') := fun v r h1 h2 h3 => l17Price_any LA r.A lc r.c vs r.bs v h1 h2 hs h3
  have HG : Hid (∀ (v : World) (r : RowM), RdV v v.heap.size LA vs → Rd v v.heap.size 1 tC r.A r.bs → Codes vs r.bs → Calls Try.prog 145 #[.slice LA vs.length lc, .slice r.A r.bs.length r.c] v fun e w' => e = .returned (.int .i64 (gramsB vs r.bs)) ∧ Below v.heap.size v w') := fun v r h1 h2 h3 => l17Grams_any LA r.A lc r.c vs r.bs v h1 h2 hs h3
  have HC := Lib.hid hC; clear hC
  have HF := Lib.hid hF; clear hF
  have HBd : Hid (∀ i, -1 ≤ (bestFil (gramsB vs) [] (fun _ => true) (ms.map RowM.bs) i).2 ∧ (bestFil (gramsB vs) [] (fun _ => true) (ms.map RowM.bs) i).2 ≤ 80000000) := bestFil_bd (by omega) fun b hbm => by
    obtain ⟨m, hm, rfl⟩ := List.mem_map.1 hbm
    exact gramsB_bd (HC.out m hm)
  have HZ : Hid ((bestFil (gramsB vs) [] (fun _ => true) (ms.map RowM.bs) 0) = ([], -1)) := bestFil_zero _ _
  have HY : Hid (∀ (i : Nat) (b : List ByteArray), (ms.map RowM.bs)[i]? = some b → (bestFil (gramsB vs) [] (fun _ => true) (ms.map RowM.bs) (i + 1)) = bestStep (gramsB vs) (bestFil (gramsB vs) [] (fun _ => true) (ms.map RowM.bs) i) b) := fun i b h1 => bestFil_yes h1 rfl
  have HE : Hid (∀ i, ms.length ≤ i → (bestFil (gramsB vs) [] (fun _ => true) (ms.map RowM.bs) i) = bestOf (gramsB vs) [] (ms.map RowM.bs)) := fun i hi => by
    have := bestFil_all (key := gramsB vs) (z := []) (p := fun _ => true) (l := ms.map RowM.bs) (i := i) (by rw [List.length_map]; exact hi)
    rwa [List.filter_eq_self.2 (fun _ _ => rfl)] at this
  clear hs
  generalize (bestFil (gramsB vs) [] (fun _ => true) (ms.map RowM.bs)) = Bf at HBd HZ HY HE
  go_enter Try.func167, Try.ntmps167
  go_wp2_with fail
  have hbV0 := balloc w (.cells #[] 9)
  have hr0 : RowOk (w.alloc (.cells #[] 9)) 0 ⟨some ⟨w.heap.size, 0, none⟩, 0, []⟩ := ⟨flat_nil, Nat.le_refl _⟩
  have HR0 := Lib.hid hr0; clear hr0
  generalize w.alloc (.cells #[] 9) = V at hbV0 HR0 ⊢
  go_loopw [9, 10, 11] (fun o1 o2 i wr => ∃ (n : Nat) (r : RowM), n ≤ ms.length ∧ i = .int .i64 n ∧ o1 = .slice r.A r.bs.length r.c ∧ o2 = .int .i64 (Bf n).2 ∧ r.bs = (Bf n).1 ∧ RowOk V 0 r ∧ Below V.heap.size V wr) (fun _ _ i _ => ms.length - (intOf i).toNat)
  case atStart => exact ⟨0, ⟨some ⟨w.heap.size, 0, none⟩, 0, []⟩, Nat.zero_le _, rfl, rfl, by rw [HZ.out], by rw [HZ.out], HR0.out, Below.refl _ _⟩
  case round =>
    obtain ⟨n, r, hn, rfl, rfl, rfl, hrb, hrk, hb⟩ := hrel
    have HRb := Lib.hid hrb; clear hrb
    obtain ⟨hz0, hz1⟩ := HBd.out n
    have HRk := Lib.hid hrk; clear hrk
    have hbV := bthen hbV0 hb
    by_cases hlt : n < ms.length
    · have hx : ms[n]? = some ms[n] := List.getElem?_eq_getElem hlt
      obtain ⟨b, o, rfl, hB, r0⟩ := (hR.below hbV).at1 hx rfl
      rw [Nat.mul_one] at r0
      have hrow := HF.out ms[n] (List.mem_of_getElem? hx)
      have hcy := HC.out ms[n] (List.mem_of_getElem? hx)
      have hxa : (ms.map RowM.bs)[n]? = some (ms[n]).bs := by rw [List.getElem?_map, hx]; rfl
      generalize ms[n] = y at hx r0 hrow hcy hxa
      obtain ⟨hp0, hp1⟩ := priceB_bd hcy
      obtain ⟨hg0, hg1⟩ := gramsB_bd hcy
      have HYx := Lib.hid (HY.out n y.bs hxa)
      have HGy := Lib.hid (HG.out wr y (hr.next hbV) (hrow.1.rd.next hbV) hcy)
      have HPy : Hid (∀ v, Below w.heap.size w v → Calls Try.prog 144 #[.slice LA vs.length lc, .slice y.A y.bs.length y.c] v fun e w' => e = .returned (.int .i64 (priceB vs y.bs)) ∧ Below v.heap.size v w') := fun v hv => HP.out v y (hr.next hv) (hrow.1.rd.next hv) hcy
      have HRy : Hid (RowOk V 0 y) := ⟨(hrow.1.below hbV0 (Nat.le_refl _)).mono (Nat.le_refl _) hbV0.size, hrow.2⟩
      clear hx hcy hxa hrow
      have HNx : True := trivial
      have HSu : True := trivial
      have HB : True := trivial
      by_cases hl0 : (Bf n).2 < 0
      · have HB1 : Hid (Bf (n + 1) = (y.bs, gramsB vs y.bs)) := by unfold Hid; rw [HYx.out, bestStep_yes (Or.inl hl0)]
        clear HYx HNx HSu HB
        go_wp2_with fail
        refine HGy.out.mono ?_
        rintro e w4 ⟨rfl, hb4⟩
        have hbV4 := bthen hbV hb4
        have hbn := bthen hb hb4
        have r0' := (hb4.cell (p := ⟨b, o + n, none⟩) (World.block_lt_of_cell? wr _ r0)).trans r0
        clear r0
        go_wp2_with fail
        exact ⟨⟨n + 1, y, by omega, by go_num, rfl, by rw [HB1.out], by rw [HB1.out], HRy.out, hbn⟩, by simp [intOf]; omega⟩
      · by_cases hl1 : gramsB vs y.bs < (Bf n).2
        · have HB1 : Hid (Bf (n + 1) = (y.bs, gramsB vs y.bs)) := by unfold Hid; rw [HYx.out, bestStep_yes (Or.inr hl1)]
          clear HYx HNx HSu HB
          go_wp2_with fail
          refine HGy.out.mono ?_
          rintro e w4 ⟨rfl, hb4⟩
          have hbV4 := bthen hbV hb4
          have hbn := bthen hb hb4
          have r0' := (hb4.cell (p := ⟨b, o + n, none⟩) (World.block_lt_of_cell? wr _ r0)).trans r0
          clear r0
          go_wp2_with fail
          exact ⟨⟨n + 1, y, by omega, by go_num, rfl, by rw [HB1.out], by rw [HB1.out], HRy.out, hbn⟩, by simp [intOf]; omega⟩
        · have HB1 : Hid (Bf (n + 1) = Bf n) := by unfold Hid; rw [HYx.out, bestStep_no (by omega)]
          clear HYx HNx HSu HB
          go_wp2_with fail
          refine HGy.out.mono ?_
          rintro e w4 ⟨rfl, hb4⟩
          have hbV4 := bthen hbV hb4
          have hbn := bthen hb hb4
          have r0' := (hb4.cell (p := ⟨b, o + n, none⟩) (World.block_lt_of_cell? wr _ r0)).trans r0
          clear r0
          go_wp2_with fail
          exact ⟨⟨n + 1, r, by omega, by go_num, rfl, by rw [HB1.out], by rw [HB1.out]; exact HRb.out, HRk.out, hbn⟩, by simp [intOf]; omega⟩
    · have HEn := Lib.hid (HE.out n (by omega))
      by_cases hl0 : (Bf n).2 < 0
      · have HR2 : Hid (finR (bestOf (gramsB vs) [] (ms.map RowM.bs)) = ([], 0, 4)) := by unfold Hid finR; rw [← HEn.out, if_pos hl0]
        go_wp2_with fail
        go_ret3
        exact ⟨none, 0, by rw [HR2.out]; rfl, by rw [HR2.out]; exact flat_nil, by rw [HR2.out]; exact Nat.le_refl _, hbV⟩
      · have HR2 : Hid (finR (bestOf (gramsB vs) [] (ms.map RowM.bs)) = ((Bf n).1, (Bf n).2, 0)) := by unfold Hid finR; rw [← HEn.out, if_neg hl0]
        go_wp2_with fail
        go_ret3
        refine ⟨r.A, r.c, by rw [HR2.out, ← HRb.out]; rfl, ?_, by rw [HR2.out, ← HRb.out]; exact HRk.out.2, hbV⟩
        rw [HR2.out, ← HRb.out]
        exact (HRk.out.1.below hb (Nat.le_refl _)).mono (Nat.le_refl _) hb.size

end Go.Proofs.Ytpdkhmnbabccnaa
