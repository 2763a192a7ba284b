/- DERIVED. Prices and grams of builds. By program (gsums.py). -/
import Derived.Test.YtioblfbhjkkgoaaBuild
import Derived.Test.YtioblfbhjkkgoaaJoints
namespace Go.Proofs.Ytioblfbhjkkgoaa
set_option maxRecDepth 100000
open Go.RowKit

set_option maxHeartbeats 1000000 in
theorem buildSums_any (A A' : Option Addr) (c c' : Nat) (vs : List PartT) (bs : List ByteArray) (w : World) (hr : RdV w w.heap.size A vs) (hr' : Rd w w.heap.size 1 tC A' bs) (hs : SmallV vs) (hC : Codes vs bs) :
    Calls Try.prog 32 #[.slice A vs.length c, .slice A' bs.length c'] w fun e w' => e = .returned (.tuple #[.int .i64 (sumTo vs PartT.price bs bs.length), .int .i64 (sumTo vs PartT.grams bs bs.length)]) ∧ Below w.heap.size w w' := by
  have HN0 : Hid (∀ (v : World) (code : ByteArray), RdV v v.heap.size A vs → Calls Try.prog 56 #[.slice A vs.length c, .string code] v fun e w' => e = .returned (.int .i64 (findI vs code)) ∧ Below v.heap.size v w') := fun v code hv => findPart_any A c vs code v hv hs.1
  have hm := hs.1
  have HC := Lib.hid hC.code
  have HP := Lib.hid hC.parts
  have hlen : bs.length ≤ 8 := by have := hC.len; omega
  have hpl := partsB_len hC.parts
  have HB1 : Hid (∀ k, 0 ≤ sumTo vs PartT.price bs k ∧ sumTo vs PartT.price bs k ≤ 10000000 * k) := sumTo_bd bs (by omega) fun x hx => ⟨(partsB_mem HP.out hx).price0, (partsB_mem HP.out hx).price1⟩
  have HB2 : Hid (∀ k, 0 ≤ sumTo vs PartT.grams bs k ∧ sumTo vs PartT.grams bs k ≤ 100000 * k) := sumTo_bd bs (by omega) fun x hx => ⟨(partsB_mem HP.out hx).grams0, (partsB_mem HP.out hx).grams1⟩
  clear hs hC
  go_enter Try.func32, Try.ntmps32
  go_wp2_with fail
  go_loopw [6, 7, 13] (fun p g i wr => ∃ k : Nat, k ≤ bs.length ∧ i = .int .i64 k ∧ p = .int .i64 (sumTo vs PartT.price bs k) ∧ g = .int .i64 (sumTo vs PartT.grams bs k) ∧ Below w.heap.size w wr) (fun _ _ i _ => bs.length - (intOf i).toNat)
  case atStart => exact ⟨0, Nat.zero_le _, rfl, rfl, rfl, Below.refl _ _⟩
  case round =>
    obtain ⟨k, hk, rfl, rfl, rfl, hb⟩ := hrel
    by_cases hlt : k < bs.length
    · obtain ⟨p0, p1⟩ := HB1.out k
      obtain ⟨g0, g1⟩ := HB2.out k
      have hx : bs[k]? = some bs[k] := List.getElem?_eq_getElem hlt
      obtain ⟨b', o', rfl, hB', q0⟩ := (hr'.below hb).at1 hx rfl
      rw [Nat.mul_one] at q0
      have hcd := HC.out bs[k] (List.getElem_mem _)
      generalize bs[k] = t at q0 hx hcd
      have Hx := Lib.hid hx; clear hx
      by_cases ht : t = noText
      · have E1 := Lib.hid (sumTo_none (vs := vs) (f := PartT.price) Hx.out ht)
        have E2 := Lib.hid (sumTo_none (vs := vs) (f := PartT.grams) Hx.out ht)
        have htl : t.toList = [] := by rw [ht]; exact noText_list
        clear ht hcd
        generalize sumTo vs PartT.price bs k = P at E1 p0 p1 ⊢
        generalize sumTo vs PartT.grams bs k = G at E2 g0 g1 ⊢
        go_wp2_with fail
        exact ⟨⟨k + 1, by omega, by go_num, by rw [E1.out], by rw [E2.out], hb⟩, by simp [intOf]; omega⟩
      · obtain ⟨j, x, ej, hj, hxj, _, _⟩ := findI_word HP.out (hcd.resolve_left ht)
        have E1 := Lib.hid (sumTo_some (f := PartT.price) Hx.out ht ej hxj)
        have E2 := Lib.hid (sumTo_some (f := PartT.grams) Hx.out ht ej hxj)
        have hx1 := (partsB_at HP.out hxj)
        obtain ⟨_, _, _, _, hp0, hp1, hg0, hg1, _⟩ := hx1
        have htl := text_not ht
        have htb : (t.toList == []) = false := by simp [htl]
        have hti : t.toList.isEmpty = false := by simp [htl]
        clear ht hcd
        generalize sumTo vs PartT.price bs k = P at E1 p0 p1 ⊢
        generalize sumTo vs PartT.grams bs k = G at E2 g0 g1 ⊢
        have Ej := Lib.hid ej; clear ej
        go_wp2_with fail
        refine (HN0.out wr _ (hr.next hb)).mono ?_
        rw [Ej.out]
        rintro e w2 ⟨rfl, hb2⟩
        have hb2' := bthen hb hb2
        obtain ⟨b, o, rfl⟩ := hr.addr (by omega)
        obtain ⟨hB, pA, pc, h0, h1, h2, h3, h4, _, _⟩ := (hr.below hb2').cells hxj
        clear hxj q0
        go_wp2_with fail
        exact ⟨⟨k + 1, by omega, by go_num, by rw [E1.out], by rw [E2.out], hb2'.alloc hb2'.size _⟩, by simp [intOf]; omega⟩
    · obtain rfl : k = bs.length := by omega
      go_wp2_with fail
      go_ret2
      exact ⟨rfl, hb⟩

set_option maxHeartbeats 1000000 in
theorem l17Price_any (A A' : Option Addr) (c c' : Nat) (vs : List PartT) (bs : List ByteArray) (w : World) (hr : RdV w w.heap.size A vs) (hr' : Rd w w.heap.size 1 tC A' bs) (hs : SmallV vs) (hC : Codes vs bs) :
    Calls Try.prog 26 #[.slice A vs.length c, .slice A' bs.length c'] w fun e w' => e = .returned (.int .i64 (sumTo vs PartT.price bs bs.length)) ∧ Below w.heap.size w w' := by
  have HN0 : Hid (∀ (v : World) (code : ByteArray), RdV v v.heap.size A vs → Calls Try.prog 50 #[.slice A vs.length c, .string code] v fun e w' => e = .returned (.int .i64 (findI vs code)) ∧ Below v.heap.size v w') := fun v code hv => l16Find_any A c vs code v hv hs.1
  have hm := hs.1
  have HC := Lib.hid hC.code
  have HP := Lib.hid hC.parts
  have hlen : bs.length ≤ 8 := by have := hC.len; omega
  have hpl := partsB_len hC.parts
  have HB1 : Hid (∀ k, 0 ≤ sumTo vs PartT.price bs k ∧ sumTo vs PartT.price bs k ≤ 10000000 * k) := sumTo_bd bs (by omega) fun x hx => ⟨(partsB_mem HP.out hx).price0, (partsB_mem HP.out hx).price1⟩
  clear hs hC
  go_enter Try.func26, Try.ntmps26
  go_wp2_with fail
  go_loopw [5, 6] (fun p i wr => ∃ k : Nat, k ≤ bs.length ∧ i = .int .i64 k ∧ p = .int .i64 (sumTo vs PartT.price bs k) ∧ Below w.heap.size w wr) (fun _ i _ => bs.length - (intOf i).toNat)
  case atStart => exact ⟨0, Nat.zero_le _, rfl, rfl, Below.refl _ _⟩
  case round =>
    obtain ⟨k, hk, rfl, rfl, hb⟩ := hrel
    by_cases hlt : k < bs.length
    · obtain ⟨p0, p1⟩ := HB1.out k
      have hx : bs[k]? = some bs[k] := List.getElem?_eq_getElem hlt
      obtain ⟨b', o', rfl, hB', q0⟩ := (hr'.below hb).at1 hx rfl
      rw [Nat.mul_one] at q0
      have hcd := HC.out bs[k] (List.getElem_mem _)
      generalize bs[k] = t at q0 hx hcd
      have Hx := Lib.hid hx; clear hx
      by_cases ht : t = noText
      · have E1 := Lib.hid (sumTo_none (vs := vs) (f := PartT.price) Hx.out ht)
        have htl : t.toList = [] := by rw [ht]; exact noText_list
        clear ht hcd
        generalize sumTo vs PartT.price bs k = P at E1 p0 p1 ⊢
        go_wp2_with fail
        exact ⟨⟨k + 1, by omega, by go_num, by rw [E1.out], hb⟩, by simp [intOf]; omega⟩
      · obtain ⟨j, x, ej, hj, hxj, _, _⟩ := findI_word HP.out (hcd.resolve_left ht)
        have E1 := Lib.hid (sumTo_some (f := PartT.price) Hx.out ht ej hxj)
        have hx1 := (partsB_at HP.out hxj)
        obtain ⟨_, _, _, _, hp0, hp1, hg0, hg1, _⟩ := hx1
        have htl := text_not ht
        have htb : (t.toList == []) = false := by simp [htl]
        have hti : t.toList.isEmpty = false := by simp [htl]
        clear ht hcd
        generalize sumTo vs PartT.price bs k = P at E1 p0 p1 ⊢
        have Ej := Lib.hid ej; clear ej
        go_wp2_with fail
        refine (HN0.out wr _ (hr.next hb)).mono ?_
        rw [Ej.out]
        rintro e w2 ⟨rfl, hb2⟩
        have hb2' := bthen hb hb2
        obtain ⟨b, o, rfl⟩ := hr.addr (by omega)
        obtain ⟨hB, pA, pc, h0, h1, h2, h3, h4, _, _⟩ := (hr.below hb2').cells hxj
        clear hxj q0
        go_wp2_with fail
        exact ⟨⟨k + 1, by omega, by go_num, by rw [E1.out], hb2'⟩, by simp [intOf]; omega⟩
    · obtain rfl : k = bs.length := by omega
      go_wp2_with fail
      go_ret
      exact ⟨rfl, hb⟩

set_option maxHeartbeats 1000000 in
theorem l17Grams_any (A A' : Option Addr) (c c' : Nat) (vs : List PartT) (bs : List ByteArray) (w : World) (hr : RdV w w.heap.size A vs) (hr' : Rd w w.heap.size 1 tC A' bs) (hs : SmallV vs) (hC : Codes vs bs) :
    Calls Try.prog 27 #[.slice A vs.length c, .slice A' bs.length c'] w fun e w' => e = .returned (.int .i64 (sumTo vs PartT.grams bs bs.length)) ∧ Below w.heap.size w w' := by
  have HN0 : Hid (∀ (v : World) (code : ByteArray), RdV v v.heap.size A vs → Calls Try.prog 50 #[.slice A vs.length c, .string code] v fun e w' => e = .returned (.int .i64 (findI vs code)) ∧ Below v.heap.size v w') := fun v code hv => l16Find_any A c vs code v hv hs.1
  have hm := hs.1
  have HC := Lib.hid hC.code
  have HP := Lib.hid hC.parts
  have hlen : bs.length ≤ 8 := by have := hC.len; omega
  have hpl := partsB_len hC.parts
  have HB1 : Hid (∀ k, 0 ≤ sumTo vs PartT.grams bs k ∧ sumTo vs PartT.grams bs k ≤ 100000 * k) := sumTo_bd bs (by omega) fun x hx => ⟨(partsB_mem HP.out hx).grams0, (partsB_mem HP.out hx).grams1⟩
  clear hs hC
  go_enter Try.func27, Try.ntmps27
  go_wp2_with fail
  go_loopw [5, 6] (fun p i wr => ∃ k : Nat, k ≤ bs.length ∧ i = .int .i64 k ∧ p = .int .i64 (sumTo vs PartT.grams bs k) ∧ Below w.heap.size w wr) (fun _ i _ => bs.length - (intOf i).toNat)
  case atStart => exact ⟨0, Nat.zero_le _, rfl, rfl, Below.refl _ _⟩
  case round =>
    obtain ⟨k, hk, rfl, rfl, hb⟩ := hrel
    by_cases hlt : k < bs.length
    · obtain ⟨p0, p1⟩ := HB1.out k
      have hx : bs[k]? = some bs[k] := List.getElem?_eq_getElem hlt
      obtain ⟨b', o', rfl, hB', q0⟩ := (hr'.below hb).at1 hx rfl
      rw [Nat.mul_one] at q0
      have hcd := HC.out bs[k] (List.getElem_mem _)
      generalize bs[k] = t at q0 hx hcd
      have Hx := Lib.hid hx; clear hx
      by_cases ht : t = noText
      · have E1 := Lib.hid (sumTo_none (vs := vs) (f := PartT.grams) Hx.out ht)
        have htl : t.toList = [] := by rw [ht]; exact noText_list
        clear ht hcd
        generalize sumTo vs PartT.grams bs k = P at E1 p0 p1 ⊢
        go_wp2_with fail
        exact ⟨⟨k + 1, by omega, by go_num, by rw [E1.out], hb⟩, by simp [intOf]; omega⟩
      · obtain ⟨j, x, ej, hj, hxj, _, _⟩ := findI_word HP.out (hcd.resolve_left ht)
        have E1 := Lib.hid (sumTo_some (f := PartT.grams) Hx.out ht ej hxj)
        have hx1 := (partsB_at HP.out hxj)
        obtain ⟨_, _, _, _, hp0, hp1, hg0, hg1, _⟩ := hx1
        have htl := text_not ht
        have htb : (t.toList == []) = false := by simp [htl]
        have hti : t.toList.isEmpty = false := by simp [htl]
        clear ht hcd
        generalize sumTo vs PartT.grams bs k = P at E1 p0 p1 ⊢
        have Ej := Lib.hid ej; clear ej
        go_wp2_with fail
        refine (HN0.out wr _ (hr.next hb)).mono ?_
        rw [Ej.out]
        rintro e w2 ⟨rfl, hb2⟩
        have hb2' := bthen hb hb2
        obtain ⟨b, o, rfl⟩ := hr.addr (by omega)
        obtain ⟨hB, pA, pc, h0, h1, h2, h3, h4, _, _⟩ := (hr.below hb2').cells hxj
        clear hxj q0
        go_wp2_with fail
        exact ⟨⟨k + 1, by omega, by go_num, by rw [E1.out], hb2'⟩, by simp [intOf]; omega⟩
    · obtain rfl : k = bs.length := by omega
      go_wp2_with fail
      go_ret
      exact ⟨rfl, hb⟩

def codeL (vs : List PartT) (js : List JointT) (bs : List ByteArray) (slot : Int) : Int := if jointsB js = true then (if buildB vs bs = true then (if inB slot 0 7 = true then 0 else 2) else 1) else 1

theorem codeL_nil (vs : List PartT) (bs : List ByteArray) : codeL vs [] bs 0 = if buildB vs bs = true then 0 else 1 := by
  have e1 : jointsB [] = true := by simp [jointsB]
  have e2 : inB 0 0 7 = true := by simp [inB]
  unfold codeL
  rw [if_pos e1, if_pos e2]

def sumR (vs : List PartT) (f : PartT → Int) (bs : List ByteArray) : Int × Int := if buildB vs bs = true then (sumTo vs f bs bs.length, 0) else (0, 1)

end Go.Proofs.Ytioblfbhjkkgoaa
