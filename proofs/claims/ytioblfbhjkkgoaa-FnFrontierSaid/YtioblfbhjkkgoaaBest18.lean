/- DERIVED. The best bicycles in the program. By program (gbest.py). -/
import Derived.Test.YtioblfbhjkkgoaaFirst
namespace Go.Proofs.Ytioblfbhjkkgoaa
set_option maxRecDepth 100000
open Go.RowKit

section
variable {β : Type} {key : β → Int} {z : β}
theorem bestOf_snoc (l : List β) (b : β) : bestOf key z (l ++ [b]) = bestStep key (bestOf key z l) b := by simp [bestOf]
/-- The best of those among the first i that p takes. -/
def bestFil (key : β → Int) (z : β) (p : β → Bool) (l : List β) (i : Nat) : β × Int := bestOf key z ((l.take i).filter p)
theorem bestFil_zero (p : β → Bool) (l : List β) : bestFil key z p l 0 = (z, -1) := by simp [bestFil, bestOf]
theorem bestFil_no {p : β → Bool} {l : List β} {i : Nat} {b : β} (hx : l[i]? = some b) (h : p b = false) : bestFil key z p l (i + 1) = bestFil key z p l i := by
  unfold bestFil
  rw [List.take_add_one, hx, List.filter_append]
  simp [h]
theorem bestFil_yes {p : β → Bool} {l : List β} {i : Nat} {b : β} (hx : l[i]? = some b) (h : p b = true) : bestFil key z p l (i + 1) = bestStep key (bestFil key z p l i) b := by
  unfold bestFil
  rw [List.take_add_one, hx, List.filter_append, ← bestOf_snoc]
  simp [h]
theorem bestFil_all {p : β → Bool} {l : List β} {i : Nat} (h : l.length ≤ i) : bestFil key z p l i = bestOf key z (l.filter p) := by
  unfold bestFil
  rw [List.take_of_length_le h]
theorem bestOf_bd {M : Int} (hM : 0 ≤ M) : ∀ (l : List β) (a : β × Int), (∀ b ∈ l, 0 ≤ key b ∧ key b ≤ M) → -1 ≤ a.2 ∧ a.2 ≤ M → -1 ≤ (l.foldl (bestStep key) a).2 ∧ (l.foldl (bestStep key) a).2 ≤ M
  | [], a, _, h => h
  | b :: l, a, hb, h => by
    refine bestOf_bd hM l (bestStep key a b) (fun c hc => hb c (by simp [hc])) ?_
    have := hb b (by simp)
    unfold bestStep
    split
    · simp only; omega
    · exact h
theorem bestFil_bd {M : Int} (hM : 0 ≤ M) {p : β → Bool} {l : List β} (hb : ∀ b ∈ l, 0 ≤ key b ∧ key b ≤ M) (i : Nat) : -1 ≤ (bestFil key z p l i).2 ∧ (bestFil key z p l i).2 ≤ M :=
  bestOf_bd hM _ _ (fun b h => hb b (List.mem_of_mem_take (List.mem_filter.1 h).1)) (by simp; omega)
theorem bestStep_yes {a : β × Int} {b : β} (h : a.2 < 0 ∨ key b < a.2) : bestStep key a b = (b, key b) := by unfold bestStep; rw [if_pos h]
theorem bestStep_no {a : β × Int} {b : β} (h : ¬ (a.2 < 0 ∨ key b < a.2)) : bestStep key a b = a := by unfold bestStep; rw [if_neg h]
end
theorem priceB_bd {vs : List PartT} {bs : List ByteArray} (h : Codes vs bs) : 0 ≤ priceB vs bs ∧ priceB vs bs ≤ 80000000 := by
  have h1 := sumTo_bd (vs := vs) (f := PartT.price) bs (M := 10000000) (by omega) (fun x hx => ⟨(partsB_mem h.parts hx).price0, (partsB_mem h.parts hx).price1⟩) bs.length
  have h2 := h.len
  unfold priceB
  rw [h2] at h1 ⊢
  omega
theorem gramsB_bd {vs : List PartT} {bs : List ByteArray} (h : Codes vs bs) : 0 ≤ gramsB vs bs ∧ gramsB vs bs ≤ 80000000 := by
  have h1 := sumTo_bd (vs := vs) (f := PartT.grams) bs (M := 100000) (by omega) (fun x hx => ⟨(partsB_mem h.parts hx).grams0, (partsB_mem h.parts hx).grams1⟩) bs.length
  have h2 := h.len
  unfold gramsB
  rw [h2] at h1 ⊢
  omega
/-- A row that lies there. -/
def RowOk (w : World) (lo : Nat) (r : RowM) : Prop := Flat w lo w.heap.size 9 1 tC r.A r.bs ∧ r.bs.length ≤ r.c
theorem RowOk.nil (w : World) (lo : Nat) : RowOk w lo ⟨none, 0, []⟩ := ⟨flat_nil, Nat.le_refl _⟩

theorem filter_yes {α : Type} (l : List α) : l.filter (fun _ => true) = l := by simp
set_option maxHeartbeats 2000000 in
theorem cheapest_any (LA JA : Option Addr) (lc jc : Nat) (vs : List PartT) (js : List JointT) (w : World) (hr : RdV w w.heap.size LA vs) (hr2 : Rd w w.heap.size 3 jointC JA js) (hs : SmallV vs) (hb : bothB vs js = true) :
    Calls Try.prog 43 #[.slice LA vs.length lc, .slice JA js.length jc, .string noText] w (GivesRes2 w w.heap.size (finR (bestOf (priceB vs) [] (allB vs js)))) := by
  have HSu : Hid (∀ (v : World) (r : RowM), RdV v v.heap.size LA vs → Rd v v.heap.size 1 tC r.A r.bs → Codes vs r.bs → Calls Try.prog 32 #[.slice LA vs.length lc, .slice r.A r.bs.length r.c] v fun e w' => e = .returned (.tuple #[.int .i64 (priceB vs r.bs), .int .i64 (gramsB vs r.bs)]) ∧ Below v.heap.size v w') := fun v r h1 h2 h3 => buildSums_any LA r.A lc r.c vs r.bs v h1 h2 hs h3
  have HB : Hid (∀ v : World, RdV v v.heap.size LA vs → Rd v v.heap.size 3 jointC JA js → Calls Try.prog 31 #[.slice LA vs.length lc, .slice JA js.length jc] v (GivesRowsN v (allB vs js) (nodesOf (tr vs js)))) := fun v h1 h2 => bicycles_any LA JA lc jc vs js v h1 h2 hs hb
  have HCo : Hid (∀ b ∈ allB vs js, Codes vs b) := fun b hbm => founds_codes (bothB_true hb).1 hbm
  have hal := allB_len js (bothB_true hb).1
  have hnl := noText_list
  clear hs hb
  go_enter Try.func43, Try.ntmps43
  go_wp2_with fail
  refine (HB.out w hr hr2).mono ?_
  rintro e w2 ⟨A, c, ms, rfl, hms, fms, rms, hb2⟩
  have hb12 := hb2
  have HMS := Lib.hid hms
  have hml : ms.length ≤ 131071 := by
    rw [← List.length_map (f := RowM.bs), hms]
    exact hal
  have HBd : Hid (∀ i, -1 ≤ (bestFil (priceB vs) [] (fun _ => true) (allB vs js) i).2 ∧ (bestFil (priceB vs) [] (fun _ => true) (allB vs js) i).2 ≤ 80000000) := bestFil_bd (by omega) fun b hbm => priceB_bd (HCo.out b hbm)
  have HZ : Hid ((bestFil (priceB vs) [] (fun _ => true) (allB vs js) 0) = ([], -1)) := bestFil_zero _ _
  have HY : Hid (∀ (i : Nat) (b : List ByteArray), (allB vs js)[i]? = some b → (fun _ => true) b = true → (bestFil (priceB vs) [] (fun _ => true) (allB vs js) (i + 1)) = bestStep (priceB vs) (bestFil (priceB vs) [] (fun _ => true) (allB vs js) i) b) := fun i b h1 h2 => bestFil_yes h1 h2
  have HN : Hid (∀ (i : Nat) (b : List ByteArray), (allB vs js)[i]? = some b → (fun _ => true) b = false → (bestFil (priceB vs) [] (fun _ => true) (allB vs js) (i + 1)) = (bestFil (priceB vs) [] (fun _ => true) (allB vs js) i)) := fun i b h1 h2 => bestFil_no h1 h2
  have HE : Hid (∀ i, ms.length ≤ i → (bestFil (priceB vs) [] (fun _ => true) (allB vs js) i) = bestOf (priceB vs) [] ((allB vs js).filter (fun _ => true))) := fun i hi => bestFil_all (by rw [← hms, List.length_map]; exact hi)
  have HF := Lib.hid fms
  have HRs := Lib.hid rms
  clear hms fms rms hal
  generalize (bestFil (priceB vs) [] (fun _ => true) (allB vs js)) = Bf at HBd HZ HY HN HE
  go_wp2_with fail
  go_loopw [9, 10, 25] (fun o1 o2 i wr => ∃ (n : Nat) (r : RowM), n ≤ ms.length ∧ i = .int .i64 n ∧ o1 = .slice r.A r.bs.length r.c ∧ o2 = .int .i64 (Bf n).2 ∧ r.bs = (Bf n).1 ∧ RowOk w2 w.heap.size r ∧ Below w2.heap.size w2 wr) (fun _ _ i _ => ms.length - (intOf i).toNat)
  case atStart => exact ⟨0, ⟨none, 0, []⟩, Nat.zero_le _, rfl, rfl, by rw [HZ.out], by rw [HZ.out], RowOk.nil _ _, Below.refl _ _⟩
  case round =>
    obtain ⟨n, r, hn, rfl, rfl, rfl, hrb, hrk, hb⟩ := hrel
    have HRb := Lib.hid hrb; clear hrb
    obtain ⟨hz0, hz1⟩ := HBd.out n
    have HRk := Lib.hid hrk; clear hrk
    have hb1r := bthen hb12 hb
    by_cases hlt : n < ms.length
    · have hx : ms[n]? = some ms[n] := List.getElem?_eq_getElem hlt
      obtain ⟨g, rfl⟩ := HF.out.some (by omega)
      have q0 := (HF.out.below hb (Nat.le_refl _)).cell1 hx rfl
      have hrow := HRs.out ms[n] (List.mem_of_getElem? hx)
      have hxa : (allB vs js)[n]? = some (ms[n]).bs := by
        rw [← HMS.out, List.getElem?_map, hx]
        rfl
      generalize ms[n] = y at hx q0 hrow hxa
      have hcy := HCo.out y.bs (List.mem_of_getElem? hxa)
      obtain ⟨hp0, hp1⟩ := priceB_bd hcy
      obtain ⟨hg0, hg1⟩ := gramsB_bd hcy
      have HYx := Lib.hid (HY.out n y.bs hxa)
      have HNx := Lib.hid (HN.out n y.bs hxa)
      have HSy := Lib.hid (HSu.out wr y (hr.next hb1r) ((hrow.1.rd.below hb).more hb.size) hcy)
      have HCy := Lib.hid hcy
      have HRy : Hid (RowOk w2 w.heap.size y) := ⟨hrow.1.mono (by first | exact Nat.le_refl _ | omega) (Nat.le_refl _), hrow.2⟩
      clear hx hcy hxa
      by_cases hl0 : (Bf n).2 < 0
      · have HB1 : Hid (Bf (n + 1) = (y.bs, priceB vs y.bs)) := by unfold Hid; rw [HYx.out (by first | trivial | rfl), bestStep_yes (Or.inl hl0)]
        clear HYx HNx HSu HB
        go_wp2_with fail
        refine HSy.out.mono ?_
        rintro e w3 ⟨rfl, hb3⟩
        have hbn := bthen hb hb3
        go_wp2_with fail
        exact ⟨⟨n + 1, y, by omega, by go_num, rfl, by rw [HB1.out], by rw [HB1.out], HRy.out, hbn⟩, by simp [intOf]; omega⟩
      · by_cases hl1 : priceB vs y.bs < (Bf n).2
        · have HB1 : Hid (Bf (n + 1) = (y.bs, priceB vs y.bs)) := by unfold Hid; rw [HYx.out (by first | trivial | rfl), bestStep_yes (Or.inr hl1)]
          clear HYx HNx HSu HB
          go_wp2_with fail
          refine HSy.out.mono ?_
          rintro e w3 ⟨rfl, hb3⟩
          have hbn := bthen hb hb3
          go_wp2_with fail
          exact ⟨⟨n + 1, y, by omega, by go_num, rfl, by rw [HB1.out], by rw [HB1.out], HRy.out, hbn⟩, by simp [intOf]; omega⟩
        · have HB1 : Hid (Bf (n + 1) = Bf n) := by unfold Hid; rw [HYx.out (by first | trivial | rfl), bestStep_no (by omega)]
          clear HYx HNx HSu HB
          go_wp2_with fail
          refine HSy.out.mono ?_
          rintro e w3 ⟨rfl, hb3⟩
          have hbn := bthen hb hb3
          go_wp2_with fail
          exact ⟨⟨n + 1, r, by omega, by go_num, rfl, by rw [HB1.out], by rw [HB1.out]; exact HRb.out, HRk.out, hbn⟩, by simp [intOf]; omega⟩
    · have HEn := Lib.hid (HE.out n (by omega))
      by_cases hl0 : (Bf n).2 < 0
      · have HR2 : Hid (finR (bestOf (priceB vs) [] (allB vs js)) = ([], 0, 4)) := by unfold Hid finR; rw [← filter_yes (allB vs js), ← HEn.out, if_pos hl0]
        go_wp2_with fail
        go_ret3
        skip
        exact ⟨none, 0, by rw [HR2.out]; rfl, by rw [HR2.out]; exact flat_nil, by rw [HR2.out]; exact Nat.le_refl _, bthen hb12 hb⟩
      · have HR2 : Hid (finR (bestOf (priceB vs) [] (allB vs js)) = ((Bf n).1, (Bf n).2, 0)) := by unfold Hid finR; rw [← filter_yes (allB vs js), ← HEn.out, if_neg hl0]
        go_wp2_with fail
        go_ret3
        skip
        refine ⟨r.A, r.c, by rw [HR2.out, ← HRb.out]; rfl, ?_, by rw [HR2.out, ← HRb.out]; exact HRk.out.2, bthen hb12 hb⟩
        rw [HR2.out, ← HRb.out]
        exact (HRk.out.1.below hb (Nat.le_refl _)).mono (Nat.le_refl _) hb.size

set_option maxHeartbeats 4000000 in
theorem cheapest_with (LA JA : Option Addr) (lc jc : Nat) (vs : List PartT) (js : List JointT) (w : World) (hr : RdV w w.heap.size LA vs) (hr2 : Rd w w.heap.size 3 jointC JA js) (hs : SmallV vs) (hb : bothB vs js = true) (code : ByteArray) (hc : 0 ≤ findI vs code) :
    Calls Try.prog 43 #[.slice LA vs.length lc, .slice JA js.length jc, .string code] w (GivesRes2 w w.heap.size (finR (bestOf (priceB vs) [] ((allB vs js).filter (hasCode vs code))))) := by
  obtain ⟨k, x, ek, hkl, hkx, hkc, hcn⟩ := findI_word (bothB_true hb).1 hc
  have hxo := partsB_at (bothB_true hb).1 hkx
  obtain ⟨s, hse⟩ := Int.eq_ofNat_of_zero_le hxo.slot0
  have hs7 := hxo.slot7
  rw [hse] at hs7
  have HK : Hid (slotAt vs (findI vs code) = (s : Int)) := by unfold Hid; rw [ek, slotAt_eq hkx, hse]
  have Hks := Lib.hid hse
  have HFi : Hid (∀ v : World, RdV v v.heap.size LA vs → Calls Try.prog 56 #[.slice LA vs.length lc, .string code] v fun e w' => e = .returned (.int .i64 (k : Int)) ∧ Below v.heap.size v w') := fun v h1 => by
    have := findPart_any LA lc vs code v h1 hs.1
    rwa [ek] at this
  have hnl := text_not hcn
  have htb : (code.toList == []) = false := by simp [hnl]
  have hti : code.toList.isEmpty = false := by simp [hnl]
  have HSu : Hid (∀ (v : World) (r : RowM), RdV v v.heap.size LA vs → Rd v v.heap.size 1 tC r.A r.bs → Codes vs r.bs → Calls Try.prog 32 #[.slice LA vs.length lc, .slice r.A r.bs.length r.c] v fun e w' => e = .returned (.tuple #[.int .i64 (priceB vs r.bs), .int .i64 (gramsB vs r.bs)]) ∧ Below v.heap.size v w') := fun v r h1 h2 h3 => buildSums_any LA r.A lc r.c vs r.bs v h1 h2 hs h3
  have HB : Hid (∀ v : World, RdV v v.heap.size LA vs → Rd v v.heap.size 3 jointC JA js → Calls Try.prog 31 #[.slice LA vs.length lc, .slice JA js.length jc] v (GivesRowsN v (allB vs js) (nodesOf (tr vs js)))) := fun v h1 h2 => bicycles_any LA JA lc jc vs js v h1 h2 hs hb
  have HCo : Hid (∀ b ∈ allB vs js, Codes vs b) := fun b hbm => founds_codes (bothB_true hb).1 hbm
  have hal := allB_len js (bothB_true hb).1
  have hv16 := partsB_len (bothB_true hb).1
  obtain ⟨bl, ol, rfl⟩ := hr.addr (by omega)
  clear hs hb hxo hse hkc hcn ek hc
  go_enter Try.func43, Try.ntmps43
  go_wp2_with fail
  refine (HB.out w hr hr2).mono ?_
  rintro e w2 ⟨A, c, ms, rfl, hms, fms, rms, hb2⟩
  have hb12 := hb2
  have HMS := Lib.hid hms
  have hml : ms.length ≤ 131071 := by
    rw [← List.length_map (f := RowM.bs), hms]
    exact hal
  have HBd : Hid (∀ i, -1 ≤ (bestFil (priceB vs) [] (hasCode vs code) (allB vs js) i).2 ∧ (bestFil (priceB vs) [] (hasCode vs code) (allB vs js) i).2 ≤ 80000000) := bestFil_bd (by omega) fun b hbm => priceB_bd (HCo.out b hbm)
  have HZ : Hid ((bestFil (priceB vs) [] (hasCode vs code) (allB vs js) 0) = ([], -1)) := bestFil_zero _ _
  have HY : Hid (∀ (i : Nat) (b : List ByteArray), (allB vs js)[i]? = some b → (hasCode vs code) b = true → (bestFil (priceB vs) [] (hasCode vs code) (allB vs js) (i + 1)) = bestStep (priceB vs) (bestFil (priceB vs) [] (hasCode vs code) (allB vs js) i) b) := fun i b h1 h2 => bestFil_yes h1 h2
  have HN : Hid (∀ (i : Nat) (b : List ByteArray), (allB vs js)[i]? = some b → (hasCode vs code) b = false → (bestFil (priceB vs) [] (hasCode vs code) (allB vs js) (i + 1)) = (bestFil (priceB vs) [] (hasCode vs code) (allB vs js) i)) := fun i b h1 h2 => bestFil_no h1 h2
  have HE : Hid (∀ i, ms.length ≤ i → (bestFil (priceB vs) [] (hasCode vs code) (allB vs js) i) = bestOf (priceB vs) [] ((allB vs js).filter (hasCode vs code))) := fun i hi => bestFil_all (by rw [← hms, List.length_map]; exact hi)
  have HF := Lib.hid fms
  have HRs := Lib.hid rms
  clear hms fms rms hal
  generalize (bestFil (priceB vs) [] (hasCode vs code) (allB vs js)) = Bf at HBd HZ HY HN HE
  go_wp2_with fail
  go_loopw [9, 10, 25] (fun o1 o2 i wr => ∃ (n : Nat) (r : RowM), n ≤ ms.length ∧ i = .int .i64 n ∧ o1 = .slice r.A r.bs.length r.c ∧ o2 = .int .i64 (Bf n).2 ∧ r.bs = (Bf n).1 ∧ RowOk w2 w.heap.size r ∧ Below w2.heap.size w2 wr) (fun _ _ i _ => ms.length - (intOf i).toNat)
  case atStart => exact ⟨0, ⟨none, 0, []⟩, Nat.zero_le _, rfl, rfl, by rw [HZ.out], by rw [HZ.out], RowOk.nil _ _, Below.refl _ _⟩
  case round =>
    obtain ⟨n, r, hn, rfl, rfl, rfl, hrb, hrk, hb⟩ := hrel
    have HRb := Lib.hid hrb; clear hrb
    obtain ⟨hz0, hz1⟩ := HBd.out n
    have HRk := Lib.hid hrk; clear hrk
    have hb1r := bthen hb12 hb
    by_cases hlt : n < ms.length
    · have hx : ms[n]? = some ms[n] := List.getElem?_eq_getElem hlt
      obtain ⟨g, rfl⟩ := HF.out.some (by omega)
      have q0 := (HF.out.below hb (Nat.le_refl _)).cell1 hx rfl
      have hrow := HRs.out ms[n] (List.mem_of_getElem? hx)
      have hxa : (allB vs js)[n]? = some (ms[n]).bs := by
        rw [← HMS.out, List.getElem?_map, hx]
        rfl
      generalize ms[n] = y at hx q0 hrow hxa
      have hcy := HCo.out y.bs (List.mem_of_getElem? hxa)
      obtain ⟨hp0, hp1⟩ := priceB_bd hcy
      obtain ⟨hg0, hg1⟩ := gramsB_bd hcy
      have HYx := Lib.hid (HY.out n y.bs hxa)
      have HNx := Lib.hid (HN.out n y.bs hxa)
      have HSy := Lib.hid (HSu.out wr y (hr.next hb1r) ((hrow.1.rd.below hb).more hb.size) hcy)
      have HCy := Lib.hid hcy
      have HRy : Hid (RowOk w2 w.heap.size y) := ⟨hrow.1.mono (by first | exact Nat.le_refl _ | omega) (Nat.le_refl _), hrow.2⟩
      clear hx hcy hxa
      have hy8 := HCy.out.len
      have hys : s < y.bs.length := by omega
      have hyt : y.bs[s]? = some y.bs[s] := List.getElem?_eq_getElem hys
      obtain ⟨gy, hgy⟩ := hrow.1.some (by omega)
      have hyA := hrow.1
      rw [hgy] at hyA
      have q1 := (hyA.below hb (Nat.le_refl _)).cell1 hyt rfl
      have HH : Hid (hasCode vs code y.bs = decide (y.bs[s] = code)) := by
        unfold Hid hasCode
        rw [HK.out, textAt_eq (n := (s : Int)) (c := y.bs[s]) (by rw [Int.toNat_natCast]; exact hyt)]
      have hy8' : 8 ≤ y.bs.length := by omega
      have Hy8 := Lib.hid hy8; clear hy8
      have Hgy := Lib.hid hgy
      clear hyt hyA
      generalize y.bs[s] = ty at q1 HH
      have hFy := HFi.out wr (hr.next hb1r)
      have HFy := Lib.hid hFy; clear hFy
      obtain ⟨hB, pA, pc, p0, p1, p2, p3, p4, _, _⟩ := (hr.below (hb1r)).cells hkx
      rw [Hks.out] at p1
      rw [hgy] at q0
      by_cases hty : ty = code
      · have hcc : (ty.toList == code.toList) = true := by simp [hty]
        have HHt : Hid (hasCode vs code y.bs = true) := by unfold Hid; rw [HH.out]; simp [hty]
        clear hty HH
        by_cases hl0 : (Bf n).2 < 0
        · have HB1 : Hid (Bf (n + 1) = (y.bs, priceB vs y.bs)) := by unfold Hid; rw [HYx.out HHt.out, bestStep_yes (Or.inl hl0)]
          clear HYx HNx HB
          go_wp2_with fail
          refine HFy.out.mono ?_
          rintro e w4 ⟨rfl, hb4⟩
          have hb1r4 := bthen hb1r hb4
          have hb14 := bthen hb hb4
          have q0' := (hb4.cell (p := ⟨g, n, none⟩) (World.block_lt_of_cell? wr _ q0)).trans q0
          have q1' := (hb4.cell (p := ⟨gy, s, none⟩) (World.block_lt_of_cell? wr _ q1)).trans q1
          have p1' := (hb4.cell (p := ⟨bl, ol + k * 5 + 1, none⟩) (World.block_lt_of_cell? wr _ p1)).trans p1
          clear q0 q1 p0 p1 p2 p3 p4
          go_wp2_with fail
          rw [← Hgy.out]
          refine (HSu.out w4 y (hr.next hb1r4) ((hrow.1.rd.below hb14).more hb14.size) HCy.out).mono ?_
          rintro e w3 ⟨rfl, hb3⟩
          have hbn := bthen hb14 hb3
          go_wp2_with fail
          exact ⟨⟨n + 1, y, by omega, by go_num, by rw [Hgy.out], by rw [HB1.out], by rw [HB1.out], HRy.out, hbn⟩, by simp [intOf]; omega⟩
        · by_cases hl1 : priceB vs y.bs < (Bf n).2
          · have HB1 : Hid (Bf (n + 1) = (y.bs, priceB vs y.bs)) := by unfold Hid; rw [HYx.out HHt.out, bestStep_yes (Or.inr hl1)]
            clear HYx HNx HB
            go_wp2_with fail
            refine HFy.out.mono ?_
            rintro e w4 ⟨rfl, hb4⟩
            have hb1r4 := bthen hb1r hb4
            have hb14 := bthen hb hb4
            have q0' := (hb4.cell (p := ⟨g, n, none⟩) (World.block_lt_of_cell? wr _ q0)).trans q0
            have q1' := (hb4.cell (p := ⟨gy, s, none⟩) (World.block_lt_of_cell? wr _ q1)).trans q1
            have p1' := (hb4.cell (p := ⟨bl, ol + k * 5 + 1, none⟩) (World.block_lt_of_cell? wr _ p1)).trans p1
            clear q0 q1 p0 p1 p2 p3 p4
            go_wp2_with fail
            rw [← Hgy.out]
            refine (HSu.out w4 y (hr.next hb1r4) ((hrow.1.rd.below hb14).more hb14.size) HCy.out).mono ?_
            rintro e w3 ⟨rfl, hb3⟩
            have hbn := bthen hb14 hb3
            go_wp2_with fail
            exact ⟨⟨n + 1, y, by omega, by go_num, by rw [Hgy.out], by rw [HB1.out], by rw [HB1.out], HRy.out, hbn⟩, by simp [intOf]; omega⟩
          · have HB1 : Hid (Bf (n + 1) = Bf n) := by unfold Hid; rw [HYx.out HHt.out, bestStep_no (by omega)]
            clear HYx HNx HB
            go_wp2_with fail
            refine HFy.out.mono ?_
            rintro e w4 ⟨rfl, hb4⟩
            have hb1r4 := bthen hb1r hb4
            have hb14 := bthen hb hb4
            have q0' := (hb4.cell (p := ⟨g, n, none⟩) (World.block_lt_of_cell? wr _ q0)).trans q0
            have q1' := (hb4.cell (p := ⟨gy, s, none⟩) (World.block_lt_of_cell? wr _ q1)).trans q1
            have p1' := (hb4.cell (p := ⟨bl, ol + k * 5 + 1, none⟩) (World.block_lt_of_cell? wr _ p1)).trans p1
            clear q0 q1 p0 p1 p2 p3 p4
            go_wp2_with fail
            rw [← Hgy.out]
            refine (HSu.out w4 y (hr.next hb1r4) ((hrow.1.rd.below hb14).more hb14.size) HCy.out).mono ?_
            rintro e w3 ⟨rfl, hb3⟩
            have hbn := bthen hb14 hb3
            go_wp2_with fail
            exact ⟨⟨n + 1, r, by omega, by go_num, rfl, by rw [HB1.out], by rw [HB1.out]; exact HRb.out, HRk.out, hbn⟩, by simp [intOf]; omega⟩
      · have hcc : (ty.toList == code.toList) = false := by simp; exact fun e => hty (str_eq.1 e)
        have HHt : Hid (hasCode vs code y.bs = false) := by unfold Hid; rw [HH.out]; simp [hty]
        have HB1 : Hid (Bf (n + 1) = Bf n) := HNx.out HHt.out
        clear hty HH HYx HNx HSu HB
        go_wp2_with fail
        refine HFy.out.mono ?_
        rintro e w4 ⟨rfl, hb4⟩
        have hb1r4 := bthen hb1r hb4
        have hb14 := bthen hb hb4
        have q0' := (hb4.cell (p := ⟨g, n, none⟩) (World.block_lt_of_cell? wr _ q0)).trans q0
        have q1' := (hb4.cell (p := ⟨gy, s, none⟩) (World.block_lt_of_cell? wr _ q1)).trans q1
        have p1' := (hb4.cell (p := ⟨bl, ol + k * 5 + 1, none⟩) (World.block_lt_of_cell? wr _ p1)).trans p1
        clear q0 q1 p0 p1 p2 p3 p4
        go_wp2_with fail
        exact ⟨⟨n + 1, r, by omega, by go_num, rfl, by rw [HB1.out], by rw [HB1.out]; exact HRb.out, HRk.out, hb14⟩, by simp [intOf]; omega⟩
    · have HEn := Lib.hid (HE.out n (by omega))
      by_cases hl0 : (Bf n).2 < 0
      · have HR2 : Hid (finR (bestOf (priceB vs) [] ((allB vs js).filter (hasCode vs code))) = ([], 0, 4)) := by unfold Hid finR; rw [← HEn.out, if_pos hl0]
        go_wp2_with fail
        go_ret3
        skip
        exact ⟨none, 0, by rw [HR2.out]; rfl, by rw [HR2.out]; exact flat_nil, by rw [HR2.out]; exact Nat.le_refl _, bthen hb12 hb⟩
      · have HR2 : Hid (finR (bestOf (priceB vs) [] ((allB vs js).filter (hasCode vs code))) = ((Bf n).1, (Bf n).2, 0)) := by unfold Hid finR; rw [← HEn.out, if_neg hl0]
        go_wp2_with fail
        go_ret3
        skip
        refine ⟨r.A, r.c, by rw [HR2.out, ← HRb.out]; rfl, ?_, by rw [HR2.out, ← HRb.out]; exact HRk.out.2, bthen hb12 hb⟩
        rw [HR2.out, ← HRb.out]
        exact (HRk.out.1.below hb (Nat.le_refl _)).mono (Nat.le_refl _) hb.size

end Go.Proofs.Ytioblfbhjkkgoaa
