/- DERIVED. Prices and grams of builds. By program (gsums.py). -/
import Derived.Test.YtlhbjgbkpjlacaaBuild
import Derived.Test.YtlhbjgbkpjlacaaJoints
namespace Go.Proofs.Ytlhbjgbkpjlacaa
set_option maxRecDepth 100000
open Go.RowKit

set_option maxHeartbeats 1000000 in
theorem buildSums_any (A A' : Option Addr) (c c' : Nat) (vs : List PartT) (bs : List ByteArray) (w : World) (hr : RdV w w.heap.size A vs) (hr' : Rd w w.heap.size 1 tC A' bs) (hs : SmallV vs) (hC : Codes vs bs) :
    Calls Try.prog 130 #[.slice A vs.length c, .slice A' bs.length c'] w fun e w' => e = .returned (.tuple #[.int .i64 (sumTo vs PartT.price bs bs.length), .int .i64 (sumTo vs PartT.grams bs bs.length)]) ∧ Below w.heap.size w w' := by
  have HN0 : Hid (∀ (v : World) (code : ByteArray), RdV v v.heap.size A vs → Calls Try.prog 95 #[.slice A vs.length c, .string code] v fun e w' => e = .returned (.int .i64 (findI vs code)) ∧ Below v.heap.size v w') := fun v code hv => findPart_any A c vs code v hv hs.1
  have hm := hs.1
  have HC := Lib.hid hC.code
  have HP := Lib.hid hC.parts
  have hlen : bs.length ≤ 8 := by have := hC.len; omega
  have hpl := partsB_len hC.parts
  have HB1 : Hid (∀ k, 0 ≤ sumTo vs PartT.price bs k ∧ sumTo vs PartT.price bs k ≤ 10000000 * k) := sumTo_bd bs (by omega) fun x hx => ⟨(partsB_mem HP.out hx).price0, (partsB_mem HP.out hx).price1⟩
  have HB2 : Hid (∀ k, 0 ≤ sumTo vs PartT.grams bs k ∧ sumTo vs PartT.grams bs k ≤ 100000 * k) := sumTo_bd bs (by omega) fun x hx => ⟨(partsB_mem HP.out hx).grams0, (partsB_mem HP.out hx).grams1⟩
  clear hs hC
  go_enter Try.func130, Try.ntmps130
  go_wp2_with fail
  go_loopw [6, 7, 13] (fun p g i wr => ∃ k : Nat, k ≤ bs.length ∧ i = .int .i64 k ∧ p = .int .i64 (sumTo vs PartT.price bs k) ∧ g = .int .i64 (sumTo vs PartT.grams bs k) ∧ Below w.heap.size w wr) (fun _ _ i _ => bs.length - (intOf i).toNat)
  case atStart => exact ⟨0, Nat.zero_le _, rfl, rfl, rfl, Below.refl _ _⟩
  case round =>
    obtain ⟨k, hk, rfl, rfl, rfl, hb⟩ := hrel
    by_cases hlt : k < bs.length
    · obtain ⟨p0, p1⟩ := HB1.out k
      obtain ⟨g0, g1⟩ := HB2.out k
      have hx : bs[k]? = some bs[k] := List.getElem?_eq_getElem hlt
      obtain ⟨b', o', rfl, hB', q0⟩ := (hr'.below hb).at1 hx rfl
      rw [Nat.mul_one] at q0
      have hcd := HC.out bs[k] (List.getElem_mem _)
      generalize bs[k] = t at q0 hx hcd
      have Hx := Lib.hid hx; clear hx
      by_cases ht : t = noText
      · have E1 := Lib.hid (sumTo_none (vs := vs) (f := PartT.price) Hx.out ht)
        have E2 := Lib.hid (sumTo_none (vs := vs) (f := PartT.grams) Hx.out ht)
        have htl : t.toList = [] := by rw [ht]; exact noText_list
        clear ht hcd
        generalize sumTo vs PartT.price bs k = P at E1 p0 p1 ⊢
        generalize sumTo vs PartT.grams bs k = G at E2 g0 g1 ⊢
        go_wp2_with fail
        exact ⟨⟨k + 1, by omega, by go_num, by rw [E1.out], by rw [E2.out], hb⟩, by simp [intOf]; omega⟩
      · obtain ⟨j, x, ej, hj, hxj, _, _⟩ := findI_word HP.out (hcd.resolve_left ht)
        have E1 := Lib.hid (sumTo_some (f := PartT.price) Hx.out ht ej hxj)
        have E2 := Lib.hid (sumTo_some (f := PartT.grams) Hx.out ht ej hxj)
        have hx1 := (partsB_at HP.out hxj)
        obtain ⟨_, _, _, _, hp0, hp1, hg0, hg1, _⟩ := hx1
        have htl := text_not ht
        have htb : (t.toList == []) = false := by simp [htl]
        have hti : t.toList.isEmpty = false := by simp [htl]
        clear ht hcd
        generalize sumTo vs PartT.price bs k = P at E1 p0 p1 ⊢
        generalize sumTo vs PartT.grams bs k = G at E2 g0 g1 ⊢
        have Ej := Lib.hid ej; clear ej
        go_wp2_with fail
        refine (HN0.out wr _ (hr.next hb)).mono ?_
        rw [Ej.out]
        rintro e w2 ⟨rfl, hb2⟩
        have hb2' := bthen hb hb2
        obtain ⟨b, o, rfl⟩ := hr.addr (by omega)
        obtain ⟨hB, pA, pc, h0, h1, h2, h3, h4, _, _⟩ := (hr.below hb2').cells hxj
        clear hxj q0
        go_wp2_with fail
        exact ⟨⟨k + 1, by omega, by go_num, by rw [E1.out], by rw [E2.out], hb2'.alloc hb2'.size _⟩, by simp [intOf]; omega⟩
    · obtain rfl : k = bs.length := by omega
      go_wp2_with fail
      go_ret2
      exact ⟨rfl, hb⟩

set_option maxHeartbeats 1000000 in
theorem l17Price_any (A A' : Option Addr) (c c' : Nat) (vs : List PartT) (bs : List ByteArray) (w : World) (hr : RdV w w.heap.size A vs) (hr' : Rd w w.heap.size 1 tC A' bs) (hs : SmallV vs) (hC : Codes vs bs) :
    Calls Try.prog 124 #[.slice A vs.length c, .slice A' bs.length c'] w fun e w' => e = .returned (.int .i64 (sumTo vs PartT.price bs bs.length)) ∧ Below w.heap.size w w' := by
  have HN0 : Hid (∀ (v : World) (code : ByteArray), RdV v v.heap.size A vs → Calls Try.prog 98 #[.slice A vs.length c, .string code] v fun e w' => e = .returned (.int .i64 (findI vs code)) ∧ Below v.heap.size v w') := fun v code hv => l16Find_any A c vs code v hv hs.1
  have hm := hs.1
  have HC := Lib.hid hC.code
  have HP := Lib.hid hC.parts
  have hlen : bs.length ≤ 8 := by have := hC.len; omega
  have hpl := partsB_len hC.parts
  have HB1 : Hid (∀ k, 0 ≤ sumTo vs PartT.price bs k ∧ sumTo vs PartT.price bs k ≤ 10000000 * k) := sumTo_bd bs (by omega) fun x hx => ⟨(partsB_mem HP.out hx).price0, (partsB_mem HP.out hx).price1⟩
  clear hs hC
  go_enter Try.func124, Try.ntmps124
  go_wp2_with fail
  go_loopw [5, 6] (fun p i wr => ∃ k : Nat, k ≤ bs.length ∧ i = .int .i64 k ∧ p = .int .i64 (sumTo vs PartT.price bs k) ∧ Below w.heap.size w wr) (fun _ i _ => bs.length - (intOf i).toNat)
  case atStart => exact ⟨0, Nat.zero_le _, rfl, rfl, Below.refl _ _⟩
  case round =>
    obtain ⟨k, hk, rfl, rfl, hb⟩ := hrel
    by_cases hlt : k < bs.length
    · obtain ⟨p0, p1⟩ := HB1.out k
      have hx : bs[k]? = some bs[k] := List.getElem?_eq_getElem hlt
      obtain ⟨b', o', rfl, hB', q0⟩ := (hr'.below hb).at1 hx rfl
      rw [Nat.mul_one] at q0
      have hcd := HC.out bs[k] (List.getElem_mem _)
      generalize bs[k] = t at q0 hx hcd
      have Hx := Lib.hid hx; clear hx
      by_cases ht : t = noText
      · have E1 := Lib.hid (sumTo_none (vs := vs) (f := PartT.price) Hx.out ht)
        have htl : t.toList = [] := by rw [ht]; exact noText_list
        clear ht hcd
        generalize sumTo vs PartT.price bs k = P at E1 p0 p1 ⊢
        go_wp2_with fail
        exact ⟨⟨k + 1, by omega, by go_num, by rw [E1.out], hb⟩, by simp [intOf]; omega⟩
      · obtain ⟨j, x, ej, hj, hxj, _, _⟩ := findI_word HP.out (hcd.resolve_left ht)
        have E1 := Lib.hid (sumTo_some (f := PartT.price) Hx.out ht ej hxj)
        have hx1 := (partsB_at HP.out hxj)
        obtain ⟨_, _, _, _, hp0, hp1, hg0, hg1, _⟩ := hx1
        have htl := text_not ht
        have htb : (t.toList == []) = false := by simp [htl]
        have hti : t.toList.isEmpty = false := by simp [htl]
        clear ht hcd
        generalize sumTo vs PartT.price bs k = P at E1 p0 p1 ⊢
        have Ej := Lib.hid ej; clear ej
        go_wp2_with fail
        refine (HN0.out wr _ (hr.next hb)).mono ?_
        rw [Ej.out]
        rintro e w2 ⟨rfl, hb2⟩
        have hb2' := bthen hb hb2
        obtain ⟨b, o, rfl⟩ := hr.addr (by omega)
        obtain ⟨hB, pA, pc, h0, h1, h2, h3, h4, _, _⟩ := (hr.below hb2').cells hxj
        clear hxj q0
        go_wp2_with fail
        exact ⟨⟨k + 1, by omega, by go_num, by rw [E1.out], hb2'⟩, by simp [intOf]; omega⟩
    · obtain rfl : k = bs.length := by omega
      go_wp2_with fail
      go_ret
      exact ⟨rfl, hb⟩

set_option maxHeartbeats 1000000 in
theorem l17Grams_any (A A' : Option Addr) (c c' : Nat) (vs : List PartT) (bs : List ByteArray) (w : World) (hr : RdV w w.heap.size A vs) (hr' : Rd w w.heap.size 1 tC A' bs) (hs : SmallV vs) (hC : Codes vs bs) :
    Calls Try.prog 125 #[.slice A vs.length c, .slice A' bs.length c'] w fun e w' => e = .returned (.int .i64 (sumTo vs PartT.grams bs bs.length)) ∧ Below w.heap.size w w' := by
  have HN0 : Hid (∀ (v : World) (code : ByteArray), RdV v v.heap.size A vs → Calls Try.prog 98 #[.slice A vs.length c, .string code] v fun e w' => e = .returned (.int .i64 (findI vs code)) ∧ Below v.heap.size v w') := fun v code hv => l16Find_any A c vs code v hv hs.1
  have hm := hs.1
  have HC := Lib.hid hC.code
  have HP := Lib.hid hC.parts
  have hlen : bs.length ≤ 8 := by have := hC.len; omega
  have hpl := partsB_len hC.parts
  have HB1 : Hid (∀ k, 0 ≤ sumTo vs PartT.grams bs k ∧ sumTo vs PartT.grams bs k ≤ 100000 * k) := sumTo_bd bs (by omega) fun x hx => ⟨(partsB_mem HP.out hx).grams0, (partsB_mem HP.out hx).grams1⟩
  clear hs hC
  go_enter Try.func125, Try.ntmps125
  go_wp2_with fail
  go_loopw [5, 6] (fun p i wr => ∃ k : Nat, k ≤ bs.length ∧ i = .int .i64 k ∧ p = .int .i64 (sumTo vs PartT.grams bs k) ∧ Below w.heap.size w wr) (fun _ i _ => bs.length - (intOf i).toNat)
  case atStart => exact ⟨0, Nat.zero_le _, rfl, rfl, Below.refl _ _⟩
  case round =>
    obtain ⟨k, hk, rfl, rfl, hb⟩ := hrel
    by_cases hlt : k < bs.length
    · obtain ⟨p0, p1⟩ := HB1.out k
      have hx : bs[k]? = some bs[k] := List.getElem?_eq_getElem hlt
      obtain ⟨b', o', rfl, hB', q0⟩ := (hr'.below hb).at1 hx rfl
      rw [Nat.mul_one] at q0
      have hcd := HC.out bs[k] (List.getElem_mem _)
      generalize bs[k] = t at q0 hx hcd
      have Hx := Lib.hid hx; clear hx
      by_cases ht : t = noText
      · have E1 := Lib.hid (sumTo_none (vs := vs) (f := PartT.grams) Hx.out ht)
        have htl : t.toList = [] := by rw [ht]; exact noText_list
        clear ht hcd
        generalize sumTo vs PartT.grams bs k = P at E1 p0 p1 ⊢
        go_wp2_with fail
        exact ⟨⟨k + 1, by omega, by go_num, by rw [E1.out], hb⟩, by simp [intOf]; omega⟩
      · obtain ⟨j, x, ej, hj, hxj, _, _⟩ := findI_word HP.out (hcd.resolve_left ht)
        have E1 := Lib.hid (sumTo_some (f := PartT.grams) Hx.out ht ej hxj)
        have hx1 := (partsB_at HP.out hxj)
        obtain ⟨_, _, _, _, hp0, hp1, hg0, hg1, _⟩ := hx1
        have htl := text_not ht
        have htb : (t.toList == []) = false := by simp [htl]
        have hti : t.toList.isEmpty = false := by simp [htl]
        clear ht hcd
        generalize sumTo vs PartT.grams bs k = P at E1 p0 p1 ⊢
        have Ej := Lib.hid ej; clear ej
        go_wp2_with fail
        refine (HN0.out wr _ (hr.next hb)).mono ?_
        rw [Ej.out]
        rintro e w2 ⟨rfl, hb2⟩
        have hb2' := bthen hb hb2
        obtain ⟨b, o, rfl⟩ := hr.addr (by omega)
        obtain ⟨hB, pA, pc, h0, h1, h2, h3, h4, _, _⟩ := (hr.below hb2').cells hxj
        clear hxj q0
        go_wp2_with fail
        exact ⟨⟨k + 1, by omega, by go_num, by rw [E1.out], hb2'⟩, by simp [intOf]; omega⟩
    · obtain rfl : k = bs.length := by omega
      go_wp2_with fail
      go_ret
      exact ⟨rfl, hb⟩

def codeL (vs : List PartT) (js : List JointT) (bs : List ByteArray) (slot : Int) : Int := if jointsB js = true then (if buildB vs bs = true then (if inB slot 0 7 = true then 0 else 2) else 1) else 1

set_option maxHeartbeats 1000000 in
theorem l17Code_any (A A2 A' : Option Addr) (c c2 c' : Nat) (vs : List PartT) (js : List JointT) (bs : List ByteArray) (slot : Int) (w : World) (hr : RdV w w.heap.size A vs) (hr2 : Rd w w.heap.size 3 jointC A2 js) (hr' : Rd w w.heap.size 1 tC A' bs) (hs : SmallV vs) (hm2 : js.length ≤ 1048576) (hm' : bs.length ≤ 1048576) :
    Calls Try.prog 114 #[.slice A vs.length c, .slice A2 js.length c2, .slice A' bs.length c', .int .i64 slot] w fun e w' => e = .returned (.int .i64 (codeL vs js bs slot)) ∧ Below w.heap.size w w' := by
  have hJ := areJoints_spec A2 c2 js w hr2 hm2
  have HI : Hid (∀ v : World, RdV v v.heap.size A vs → Rd v v.heap.size 1 tC A' bs → Calls Try.prog 151 #[.slice A vs.length c, .slice A' bs.length c'] v fun e w' => e = .returned (.bool (buildB vs bs)) ∧ Below v.heap.size v w') := fun v h1 h2 => isBuild_spec A A' c c' vs bs v h1 h2 hs hm'
  have HK : Hid (∀ v : World, Calls Try.prog 108 #[.int .i64 slot, .int .i64 0, .int .i64 7] v fun e w' => e = .returned (.bool (inB slot 0 7)) ∧ v = w') := fun v => l01In_any slot 0 7 v
  have HR : Hid (codeL vs js bs slot = if jointsB js = true then (if buildB vs bs = true then (if inB slot 0 7 = true then 0 else 2) else 1) else 1) := rfl
  generalize codeL vs js bs slot = R at HR ⊢
  generalize jointsB js = bj at hJ HR
  generalize buildB vs bs = bb at HI HR
  generalize inB slot 0 7 = bk at HK HR
  have HJ := Lib.hid hJ; clear hJ
  go_enter Try.func114, Try.ntmps114
  go_wp2_with fail
  refine HJ.out.mono ?_
  rintro e w1 ⟨rfl, hb1⟩
  cases bj
  case false =>
    go_wp2_with fail
    go_ret
    exact ⟨ret_int HR.out.symm, hb1⟩
  case true =>
    go_wp2_with fail
    refine (HI.out w1 (hr.next hb1) (hr'.next hb1)).mono ?_
    rintro e w2 ⟨rfl, hb2⟩
    cases bb
    case false =>
      go_wp2_with fail
      go_ret
      exact ⟨ret_int HR.out.symm, bthen hb1 hb2⟩
    case true =>
      cases bk
      all_goals
        go_wp2_with (go_at_call 108; refine (HK.out _).mono ?_; rintro e w' ⟨rfl, rfl⟩)
        go_ret
        exact ⟨ret_int HR.out.symm, bthen hb1 hb2⟩

theorem codeL_nil (vs : List PartT) (bs : List ByteArray) : codeL vs [] bs 0 = if buildB vs bs = true then 0 else 1 := by
  have e1 : jointsB [] = true := by simp [jointsB]
  have e2 : inB 0 0 7 = true := by simp [inB]
  unfold codeL
  rw [if_pos e1, if_pos e2]

def sumR (vs : List PartT) (f : PartT → Int) (bs : List ByteArray) : Int × Int := if buildB vs bs = true then (sumTo vs f bs bs.length, 0) else (0, 1)

theorem PriceOf_impl (A A' : Option Addr) (c c' : Nat) (vs : List PartT) (bs : List ByteArray) (w : World) (hr : RdV w w.heap.size A vs) (hr' : Rd w w.heap.size 1 tC A' bs) (hs : SmallV vs) (hm' : bs.length ≤ 1048576) :
    Calls Try.prog 78 #[.slice A vs.length c, .slice A' bs.length c'] w fun e w' => e = .returned (.tuple #[.int .i64 (sumR vs PartT.price bs).1, .int .i64 (sumR vs PartT.price bs).2]) ∧ Below w.heap.size w w' := by
  have hJ := isBuild_impl A A' c c' vs bs w hr hr' hs hm'
  by_cases hB : buildB vs bs = true
  · have HR : Hid (sumR vs PartT.price bs = (sumTo vs PartT.price bs bs.length, 0)) := by unfold Hid sumR; rw [if_pos hB]
    have HS : Hid (∀ v : World, RdV v v.heap.size A vs → Rd v v.heap.size 1 tC A' bs → Calls Try.prog 130 #[.slice A vs.length c, .slice A' bs.length c'] v fun e w' => e = .returned (.tuple #[.int .i64 (sumTo vs PartT.price bs bs.length), .int .i64 (sumTo vs PartT.grams bs bs.length)]) ∧ Below v.heap.size v w') := fun v h1 h2 => buildSums_any A A' c c' vs bs v h1 h2 hs (buildB_codes hB).1
    rw [hB] at hJ
    have HJ := Lib.hid hJ; clear hJ hB
    generalize sumR vs PartT.price bs = R at HR ⊢
    generalize sumTo vs PartT.price bs bs.length = P at HS HR
    generalize sumTo vs PartT.grams bs bs.length = G at HS HR
    go_enter Try.func78, Try.ntmps78
    go_wp2_with fail
    refine HJ.out.mono ?_
    rintro e w1 ⟨rfl, hb1⟩
    go_wp2_with fail
    refine (HS.out w1 (hr.next hb1) (hr'.next hb1)).mono ?_
    rintro e w2 ⟨rfl, hb2⟩
    go_wp2_with fail
    go_ret2
    exact ⟨by rw [HR.out]; rfl, bthen hb1 hb2⟩
  · have HR : Hid (sumR vs PartT.price bs = (0, 1)) := by unfold Hid sumR; rw [if_neg hB]
    rw [eq_false_of_ne_true hB] at hJ
    have HJ := Lib.hid hJ; clear hJ hB
    generalize sumR vs PartT.price bs = R at HR ⊢
    go_enter Try.func78, Try.ntmps78
    go_wp2_with fail
    refine HJ.out.mono ?_
    rintro e w1 ⟨rfl, hb1⟩
    go_wp2_with fail
    go_ret2
    exact ⟨by rw [HR.out]; rfl, hb1⟩

theorem GramsOf_impl (A A' : Option Addr) (c c' : Nat) (vs : List PartT) (bs : List ByteArray) (w : World) (hr : RdV w w.heap.size A vs) (hr' : Rd w w.heap.size 1 tC A' bs) (hs : SmallV vs) (hm' : bs.length ≤ 1048576) :
    Calls Try.prog 79 #[.slice A vs.length c, .slice A' bs.length c'] w fun e w' => e = .returned (.tuple #[.int .i64 (sumR vs PartT.grams bs).1, .int .i64 (sumR vs PartT.grams bs).2]) ∧ Below w.heap.size w w' := by
  have hJ := isBuild_impl A A' c c' vs bs w hr hr' hs hm'
  by_cases hB : buildB vs bs = true
  · have HR : Hid (sumR vs PartT.grams bs = (sumTo vs PartT.grams bs bs.length, 0)) := by unfold Hid sumR; rw [if_pos hB]
    have HS : Hid (∀ v : World, RdV v v.heap.size A vs → Rd v v.heap.size 1 tC A' bs → Calls Try.prog 130 #[.slice A vs.length c, .slice A' bs.length c'] v fun e w' => e = .returned (.tuple #[.int .i64 (sumTo vs PartT.price bs bs.length), .int .i64 (sumTo vs PartT.grams bs bs.length)]) ∧ Below v.heap.size v w') := fun v h1 h2 => buildSums_any A A' c c' vs bs v h1 h2 hs (buildB_codes hB).1
    rw [hB] at hJ
    have HJ := Lib.hid hJ; clear hJ hB
    generalize sumR vs PartT.grams bs = R at HR ⊢
    generalize sumTo vs PartT.price bs bs.length = P at HS HR
    generalize sumTo vs PartT.grams bs bs.length = G at HS HR
    go_enter Try.func79, Try.ntmps79
    go_wp2_with fail
    refine HJ.out.mono ?_
    rintro e w1 ⟨rfl, hb1⟩
    go_wp2_with fail
    refine (HS.out w1 (hr.next hb1) (hr'.next hb1)).mono ?_
    rintro e w2 ⟨rfl, hb2⟩
    go_wp2_with fail
    go_ret2
    exact ⟨by rw [HR.out]; rfl, bthen hb1 hb2⟩
  · have HR : Hid (sumR vs PartT.grams bs = (0, 1)) := by unfold Hid sumR; rw [if_neg hB]
    rw [eq_false_of_ne_true hB] at hJ
    have HJ := Lib.hid hJ; clear hJ hB
    generalize sumR vs PartT.grams bs = R at HR ⊢
    go_enter Try.func79, Try.ntmps79
    go_wp2_with fail
    refine HJ.out.mono ?_
    rintro e w1 ⟨rfl, hb1⟩
    go_wp2_with fail
    go_ret2
    exact ⟨by rw [HR.out]; rfl, hb1⟩

end Go.Proofs.Ytlhbjgbkpjlacaa
