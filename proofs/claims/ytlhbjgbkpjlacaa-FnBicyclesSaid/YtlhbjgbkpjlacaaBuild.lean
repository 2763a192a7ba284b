/- DERIVED. What makes a build, in the program and in the reference. By program (gbuild.py). -/
import Derived.Test.YtlhbjgbkpjlacaaBuildV
import Derived.Test.YtlhbjgbkpjlacaaKitStr
namespace Go.Proofs.Ytlhbjgbkpjlacaa
set_option maxRecDepth 100000
open Go.RowKit

theorem noText_list : noText.toList = [] := by rw [ByteArray.toList_eq]; rfl
theorem text_not {t : ByteArray} (h : t ≠ noText) : ¬ t.toList = [] := fun e => h (str_eq.1 (e.trans noText_list.symm))

set_option maxHeartbeats 1000000 in
theorem isBuild_impl (A A' : Option Addr) (c c' : Nat) (vs : List PartT) (bs : List ByteArray) (w : World) (hr : RdV w w.heap.size A vs) (hr' : Rd w w.heap.size 1 tC A' bs) (hs : SmallV vs) (hm' : bs.length ≤ 1048576) :
    Calls Try.prog 112 #[.slice A vs.length c, .slice A' bs.length c'] w fun e w' => e = .returned (.bool (buildB vs bs)) ∧ Below w.heap.size w w' := by
  have hJ := areParts_impl A c vs w hr hs.1 hs.2
  have HN0 : Hid (∀ (v : World) (code : ByteArray), RdV v v.heap.size A vs → Calls Try.prog 95 #[.slice A vs.length c, .string code] v fun e w' => e = .returned (.int .i64 (findI vs code)) ∧ Below v.heap.size v w') := fun v code hv => findPart_any A c vs code v hv hs.1
  have hm := hs.1
  clear hs
  by_cases hp : partsB vs = true
  · have hlen := partsB_len hp
    have Hp := Lib.hid hp
    rw [hp] at hJ
    have HJ := Lib.hid hJ; clear hJ hp
    by_cases h8 : bs.length = 8
    · have h8b : ((bs.length : Int) != 8) = false := by simp [h8]
      have H8 := Lib.hid h8; clear h8
      go_enter Try.func112, Try.ntmps112
      go_wp2_with fail
      refine HJ.out.mono ?_
      rintro e w1 ⟨rfl, hb1⟩
      go_wp2_with fail
      go_loopw [18] (fun i wr => ∃ k : Nat, k ≤ bs.length ∧ i = .int .i64 k ∧ Below w.heap.size w wr ∧ ∀ j, j < k → codeOk vs bs j = true) (fun i _ => bs.length - (intOf i).toNat)
      case atStart => exact ⟨0, Nat.zero_le _, rfl, hb1, fun j hj => by omega⟩
      case round =>
        obtain ⟨k, hk, rfl, hb, hall⟩ := hrel
        have Ha := Lib.hid hall; clear hall
        by_cases hlt : k < bs.length
        · have hx : bs[k]? = some bs[k] := List.getElem?_eq_getElem hlt
          obtain ⟨b', o', rfl, hB', q0⟩ := (hr'.below hb).at1 hx rfl
          rw [Nat.mul_one] at q0
          generalize bs[k] = t at q0 hx
          have Hx := Lib.hid hx; clear hx
          by_cases ht : t = noText
          · have HN := Lib.hid (codeOk_empty (vs := vs) Hx.out ht)
            have htl : t.toList = [] := by rw [ht]; exact noText_list
            have Ht := Lib.hid ht; clear ht
            go_wp2_with fail
            exact ⟨⟨k + 1, by omega, by go_num, hb, upto_next Ha.out HN.out⟩, by simp [intOf]; omega⟩
          · have HC := Lib.hid (codeOk_not (vs := vs) Hx.out ht)
            have htl := text_not ht
            have htb : (t.toList == []) = false := by simp [htl]
            have hti : t.toList.isEmpty = false := by simp [htl]
            have Ht := Lib.hid ht; clear ht
            have HK := Lib.hid (findI_cases vs t)
            go_wp2_with fail
            refine (HN0.out wr _ (hr.next hb)).mono ?_
            rintro e w2 ⟨rfl, hb2⟩
            have hb2' := bthen hb hb2
            clear q0
            rcases HK.out with ⟨e, _⟩ | ⟨j, x, e, hj, hxj, hxc⟩
            · have HF : Hid (buildB vs bs = false) := buildB_false hlt (by rw [HC.out, e]; simp)
              rw [e]
              clear e HK HC
              go_wp2_with fail
              go_ret
              exact ⟨ret_bool HF.out.symm, hb2'⟩
            · obtain ⟨b, o, rfl⟩ := hr.addr (by omega)
              obtain ⟨hB, pA, pc, _, g1, _, _, _, _, _⟩ := (hr.below hb2').cells hxj
              have HC2 : Hid (codeOk vs bs k = decide (x.slot = (k : Int))) := by unfold Hid; rw [HC.out, e, slotAt_eq hxj]; simp
              rw [e]
              clear e HK HC hxj
              generalize x.slot = sl at g1 HC2
              by_cases hsl : sl = (k : Int)
              · have hslb : (sl != (k : Int)) = false := by simp [hsl]
                have HN : Hid (codeOk vs bs k = true) := by unfold Hid; rw [HC2.out]; simp [hsl]
                clear hsl HC2
                go_wp2_with fail
                exact ⟨⟨k + 1, by omega, by go_num, hb2', upto_next Ha.out HN.out⟩, by simp [intOf]; omega⟩
              · have hslb : (sl != (k : Int)) = true := by simp [hsl]
                have HF : Hid (buildB vs bs = false) := buildB_false hlt (by rw [HC2.out]; simp [hsl])
                clear hsl HC2
                go_wp2_with fail
                go_ret
                exact ⟨ret_bool HF.out.symm, hb2'⟩
        · have HT : Hid (buildB vs bs = true) := by unfold Hid; rw [buildB_all (fun j hj => Ha.out j (by omega)), Hp.out, H8.out]; rfl
          go_wp2_with fail
          go_ret
          exact ⟨ret_bool HT.out.symm, hb⟩
    · have h8b : ((bs.length : Int) != 8) = true := by simp; omega
      have HF : Hid (buildB vs bs = false) := by unfold Hid buildB; rw [decide_eq_false h8]; simp
      clear h8
      go_enter Try.func112, Try.ntmps112
      go_wp2_with fail
      refine HJ.out.mono ?_
      rintro e w1 ⟨rfl, hb1⟩
      go_wp2_with fail
      go_ret
      exact ⟨ret_bool HF.out.symm, hb1⟩
  · have hp' : partsB vs = false := by simpa using hp
    have HF : Hid (buildB vs bs = false) := by unfold Hid buildB; rw [hp']; simp
    rw [hp'] at hJ
    have HJ := Lib.hid hJ; clear hJ hp hp'
    go_enter Try.func112, Try.ntmps112
    go_wp2_with fail
    refine HJ.out.mono ?_
    rintro e w1 ⟨rfl, hb1⟩
    go_wp2_with fail
    go_ret
    exact ⟨ret_bool HF.out.symm, hb1⟩

set_option maxHeartbeats 1000000 in
theorem isBuild_spec (A A' : Option Addr) (c c' : Nat) (vs : List PartT) (bs : List ByteArray) (w : World) (hr : RdV w w.heap.size A vs) (hr' : Rd w w.heap.size 1 tC A' bs) (hs : SmallV vs) (hm' : bs.length ≤ 1048576) :
    Calls Try.prog 151 #[.slice A vs.length c, .slice A' bs.length c'] w fun e w' => e = .returned (.bool (buildB vs bs)) ∧ Below w.heap.size w w' := by
  have hJ := areParts_spec A c vs w hr hs.1 hs.2
  have HN0 : Hid (∀ (v : World) (code : ByteArray), RdV v v.heap.size A vs → Calls Try.prog 98 #[.slice A vs.length c, .string code] v fun e w' => e = .returned (.int .i64 (findI vs code)) ∧ Below v.heap.size v w') := fun v code hv => l16Find_any A c vs code v hv hs.1
  have hm := hs.1
  clear hs
  by_cases hp : partsB vs = true
  · have hlen := partsB_len hp
    have Hp := Lib.hid hp
    rw [hp] at hJ
    have HJ := Lib.hid hJ; clear hJ hp
    by_cases h8 : bs.length = 8
    · have h8b : ((bs.length : Int) != 8) = false := by simp [h8]
      have H8 := Lib.hid h8; clear h8
      go_enter Try.func151, Try.ntmps151
      go_wp2_with fail
      refine HJ.out.mono ?_
      rintro e w1 ⟨rfl, hb1⟩
      go_wp2_with fail
      go_loopw [5] (fun i wr => ∃ k : Nat, k ≤ bs.length ∧ i = .int .i64 k ∧ Below w.heap.size w wr ∧ ∀ j, j < k → codeOk vs bs j = true) (fun i _ => bs.length - (intOf i).toNat)
      case atStart => exact ⟨0, Nat.zero_le _, rfl, hb1, fun j hj => by omega⟩
      case round =>
        obtain ⟨k, hk, rfl, hb, hall⟩ := hrel
        have Ha := Lib.hid hall; clear hall
        by_cases hlt : k < bs.length
        · have hx : bs[k]? = some bs[k] := List.getElem?_eq_getElem hlt
          obtain ⟨b', o', rfl, hB', q0⟩ := (hr'.below hb).at1 hx rfl
          rw [Nat.mul_one] at q0
          generalize bs[k] = t at q0 hx
          have Hx := Lib.hid hx; clear hx
          by_cases ht : t = noText
          · have HN := Lib.hid (codeOk_empty (vs := vs) Hx.out ht)
            have htl : t.toList = [] := by rw [ht]; exact noText_list
            have Ht := Lib.hid ht; clear ht
            go_wp2_with fail
            refine (HN0.out wr _ (hr.next hb)).mono ?_
            rintro e w2 ⟨rfl, hb2⟩
            have q0' := (hb2.cell (p := ⟨b', o' + k, none⟩) (World.block_lt_of_cell? wr _ q0)).trans q0
            clear q0
            generalize findI vs t = nf
            go_wp2_with fail
            exact ⟨⟨k + 1, by omega, by go_num, bthen hb hb2, upto_next Ha.out HN.out⟩, by simp [intOf]; omega⟩
          · have HC := Lib.hid (codeOk_not (vs := vs) Hx.out ht)
            have htl := text_not ht
            have htb : (t.toList == []) = false := by simp [htl]
            have hti : t.toList.isEmpty = false := by simp [htl]
            have Ht := Lib.hid ht; clear ht
            have HK := Lib.hid (findI_cases vs t)
            go_wp2_with fail
            refine (HN0.out wr _ (hr.next hb)).mono ?_
            rintro e w2 ⟨rfl, hb2⟩
            have hb2' := bthen hb hb2
            have q0' := (hb2.cell (p := ⟨b', o' + k, none⟩) (World.block_lt_of_cell? wr _ q0)).trans q0
            clear q0
            rcases HK.out with ⟨e, _⟩ | ⟨j, x, e, hj, hxj, hxc⟩
            · have HF : Hid (buildB vs bs = false) := buildB_false hlt (by rw [HC.out, e]; simp)
              rw [e]
              clear e HK HC
              go_wp2_with fail
              go_ret
              exact ⟨ret_bool HF.out.symm, hb2'⟩
            · obtain ⟨b, o, rfl⟩ := hr.addr (by omega)
              obtain ⟨hB, pA, pc, _, g1, _, _, _, _, _⟩ := (hr.below hb2').cells hxj
              have HC2 : Hid (codeOk vs bs k = decide (x.slot = (k : Int))) := by unfold Hid; rw [HC.out, e, slotAt_eq hxj]; simp
              rw [e]
              clear e HK HC hxj
              generalize x.slot = sl at g1 HC2
              by_cases hsl : sl = (k : Int)
              · have hslb : (sl != (k : Int)) = false := by simp [hsl]
                have HN : Hid (codeOk vs bs k = true) := by unfold Hid; rw [HC2.out]; simp [hsl]
                clear hsl HC2
                go_wp2_with fail
                exact ⟨⟨k + 1, by omega, by go_num, hb2', upto_next Ha.out HN.out⟩, by simp [intOf]; omega⟩
              · have hslb : (sl != (k : Int)) = true := by simp [hsl]
                have HF : Hid (buildB vs bs = false) := buildB_false hlt (by rw [HC2.out]; simp [hsl])
                clear hsl HC2
                go_wp2_with fail
                go_ret
                exact ⟨ret_bool HF.out.symm, hb2'⟩
        · have HT : Hid (buildB vs bs = true) := by unfold Hid; rw [buildB_all (fun j hj => Ha.out j (by omega)), Hp.out, H8.out]; rfl
          go_wp2_with fail
          go_ret
          exact ⟨ret_bool HT.out.symm, hb⟩
    · have h8b : ((bs.length : Int) != 8) = true := by simp; omega
      have HF : Hid (buildB vs bs = false) := by unfold Hid buildB; rw [decide_eq_false h8]; simp
      clear h8
      go_enter Try.func151, Try.ntmps151
      go_wp2_with fail
      refine HJ.out.mono ?_
      rintro e w1 ⟨rfl, hb1⟩
      go_wp2_with fail
      go_ret
      exact ⟨ret_bool HF.out.symm, hb1⟩
  · have hp' : partsB vs = false := by simpa using hp
    have HF : Hid (buildB vs bs = false) := by unfold Hid buildB; rw [hp']; simp
    rw [hp'] at hJ
    have HJ := Lib.hid hJ; clear hJ hp hp'
    go_enter Try.func151, Try.ntmps151
    go_wp2_with fail
    refine HJ.out.mono ?_
    rintro e w1 ⟨rfl, hb1⟩
    go_wp2_with fail
    go_ret
    exact ⟨ret_bool HF.out.symm, hb1⟩

end Go.Proofs.Ytlhbjgbkpjlacaa
