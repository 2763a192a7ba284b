/- DERIVED. The part with a code; whether parts join. By program (gfind.py). -/
import Derived.Test.YtncjgebgghpigaaParts2
import Derived.Test.YtncjgebgghpigaaKitPart
namespace Go.Proofs.Ytncjgebgghpigaa
set_option maxRecDepth 100000
open Go.RowKit

set_option maxHeartbeats 400000 in
theorem findPart_any (A : Option Addr) (c : Nat) (vs : List PartT) (code : ByteArray) (w : World) (hr : RdV w w.heap.size A vs) (hm : vs.length ≤ 1048576) :
    Calls Try.prog 28 #[.slice A vs.length c, .string code] w fun e w' => e = .returned (.int .i64 (findI vs code)) ∧ Below w.heap.size w w' := by
  go_enter Try.func28, Try.ntmps28
  go_wp2_with fail
  go_loopw [9] (fun i wr => ∃ k : Nat, k ≤ vs.length ∧ i = .int .i64 k ∧ Below w.heap.size w wr ∧ ∀ j y, j < k → vs[j]? = some y → y.code ≠ code) (fun i _ => vs.length - (intOf i).toNat)
  case atStart => exact ⟨0, Nat.zero_le _, rfl, Below.refl _ _, fun j y hj => by omega⟩
  case round =>
    obtain ⟨k, hk, rfl, hb, hall⟩ := hrel
    have Ha := Lib.hid hall; clear hall
    by_cases hlt : k < vs.length
    · have hx : vs[k]? = some vs[k] := List.getElem?_eq_getElem hlt
      obtain ⟨b, o, rfl⟩ := hr.addr (by omega)
      obtain ⟨hB, pA, pc, q0, q1, q2, q3, q4, _, _⟩ := (hr.below hb).cells hx
      generalize vs[k] = t at q0 q1 q2 q3 q4 hx
      have Hx := Lib.hid hx; clear hx
      by_cases hc : t.code = code
      · have HF := Lib.hid (findI_yes Hx.out hc Ha.out)
        have hcc : (t.code.toList == code.toList) = true := by simp [hc]
        clear hc
        go_wp2_with fail
        go_ret
        exact ⟨ret_int HF.out.symm, hb.alloc hb.size _⟩
      · have hcc : (t.code.toList == code.toList) = false := by simp; exact fun e => hc (str_eq.1 e)
        have Hc := Lib.hid hc; clear hc
        go_wp2_with fail
        exact ⟨⟨k + 1, by omega, by go_num, hb.alloc hb.size _, fun j y hj hy => by
          by_cases e : j = k
          · subst e
            have := Hx.out
            rw [hy] at this
            rw [Option.some.inj this]
            exact Hc.out
          · exact Ha.out j y (by omega) hy⟩, by simp [intOf]; omega⟩
    · have HF := Lib.hid (findI_no (vs := vs) fun j y hj hy => Ha.out j y (by omega) hy)
      go_wp2_with fail
      go_ret
      exact ⟨ret_int HF.out.symm, hb⟩

set_option maxHeartbeats 400000 in
theorem l16Find_any (A : Option Addr) (c : Nat) (vs : List PartT) (code : ByteArray) (w : World) (hr : RdV w w.heap.size A vs) (hm : vs.length ≤ 1048576) :
    Calls Try.prog 31 #[.slice A vs.length c, .string code] w fun e w' => e = .returned (.int .i64 (findI vs code)) ∧ Below w.heap.size w w' := by
  go_enter Try.func31, Try.ntmps31
  go_wp2_with fail
  go_loopw [5] (fun i wr => ∃ k : Nat, k ≤ vs.length ∧ i = .int .i64 k ∧ Below w.heap.size w wr ∧ ∀ j y, j < k → vs[j]? = some y → y.code ≠ code) (fun i _ => vs.length - (intOf i).toNat)
  case atStart => exact ⟨0, Nat.zero_le _, rfl, Below.refl _ _, fun j y hj => by omega⟩
  case round =>
    obtain ⟨k, hk, rfl, hb, hall⟩ := hrel
    have Ha := Lib.hid hall; clear hall
    by_cases hlt : k < vs.length
    · have hx : vs[k]? = some vs[k] := List.getElem?_eq_getElem hlt
      obtain ⟨b, o, rfl⟩ := hr.addr (by omega)
      obtain ⟨hB, pA, pc, q0, q1, q2, q3, q4, _, _⟩ := (hr.below hb).cells hx
      generalize vs[k] = t at q0 q1 q2 q3 q4 hx
      have Hx := Lib.hid hx; clear hx
      by_cases hc : t.code = code
      · have HF := Lib.hid (findI_yes Hx.out hc Ha.out)
        have hcc : (t.code.toList == code.toList) = true := by simp [hc]
        clear hc
        go_wp2_with fail
        go_ret
        exact ⟨ret_int HF.out.symm, hb⟩
      · have hcc : (t.code.toList == code.toList) = false := by simp; exact fun e => hc (str_eq.1 e)
        have Hc := Lib.hid hc; clear hc
        go_wp2_with fail
        exact ⟨⟨k + 1, by omega, by go_num, hb, fun j y hj hy => by
          by_cases e : j = k
          · subst e
            have := Hx.out
            rw [hy] at this
            rw [Option.some.inj this]
            exact Hc.out
          · exact Ha.out j y (by omega) hy⟩, by simp [intOf]; omega⟩
    · have HF := Lib.hid (findI_no (vs := vs) fun j y hj hy => Ha.out j y (by omega) hy)
      go_wp2_with fail
      go_ret
      exact ⟨ret_int HF.out.symm, hb⟩

def findR (vs : List PartT) (code : ByteArray) : Int × Int := if partsB vs = true then (if findI vs code < 0 then (0, 4) else (findI vs code, 0)) else (0, 1)
theorem findI_bd (vs : List PartT) (code : ByteArray) (h : vs.length ≤ 1048576) : -1 ≤ findI vs code ∧ findI vs code ≤ 1048576 := by
  unfold findI
  split <;> omega

theorem FindPart_impl (A : Option Addr) (c : Nat) (vs : List PartT) (code : ByteArray) (w : World) (hr : RdV w w.heap.size A vs) (hs : SmallV vs) :
    Calls Try.prog 12 #[.slice A vs.length c, .string code] w fun e w' => e = .returned (.tuple #[.int .i64 (findR vs code).1, .int .i64 (findR vs code).2]) ∧ Below w.heap.size w w' := by
  have hJ := areParts_impl A c vs w hr hs.1 hs.2
  have hbd := findI_bd vs code hs.1
  by_cases hp : partsB vs = true
  · rw [hp] at hJ
    have HJ := Lib.hid hJ; clear hJ
    have HF : Hid (∀ v : World, RdV v v.heap.size A vs → Calls Try.prog 28 #[.slice A vs.length c, .string code] v fun e w' => e = .returned (.int .i64 (findI vs code)) ∧ Below v.heap.size v w') := fun v hv => findPart_any A c vs code v hv hs.1
    by_cases hn : findI vs code < 0
    · have HR : Hid (findR vs code = (0, 4)) := by unfold Hid findR; rw [if_pos hp, if_pos hn]
      clear hp
      generalize findR vs code = R at HR ⊢
      generalize findI vs code = n at hbd hn HF
      go_enter Try.func12, Try.ntmps12
      go_wp2_with fail
      refine HJ.out.mono ?_
      rintro e w1 ⟨rfl, hb1⟩
      go_wp2_with fail
      refine (HF.out w1 (hr.next hb1)).mono ?_
      rintro e w2 ⟨rfl, hb2⟩
      go_wp2_with fail
      go_ret2
      exact ⟨by rw [HR.out]; rfl, bthen hb1 hb2⟩
    · have HR : Hid (findR vs code = (findI vs code, 0)) := by unfold Hid findR; rw [if_pos hp, if_neg hn]
      clear hp
      generalize findR vs code = R at HR ⊢
      generalize findI vs code = n at hbd hn HF HR
      go_enter Try.func12, Try.ntmps12
      go_wp2_with fail
      refine HJ.out.mono ?_
      rintro e w1 ⟨rfl, hb1⟩
      go_wp2_with fail
      refine (HF.out w1 (hr.next hb1)).mono ?_
      rintro e w2 ⟨rfl, hb2⟩
      go_wp2_with fail
      go_ret2
      exact ⟨by rw [HR.out]; rfl, bthen hb1 hb2⟩
  · have hp' : partsB vs = false := by simpa using hp
    have HR : Hid (findR vs code = (0, 1)) := by unfold Hid findR; rw [if_neg hp]
    rw [hp'] at hJ
    have HJ := Lib.hid hJ; clear hJ hp hp'
    generalize findR vs code = R at HR ⊢
    go_enter Try.func12, Try.ntmps12
    go_wp2_with fail
    refine HJ.out.mono ?_
    rintro e w1 ⟨rfl, hb1⟩
    go_wp2_with fail
    go_ret2
    exact ⟨by rw [HR.out]; rfl, hb1⟩

def codeI (vs : List PartT) (code : ByteArray) : Int := if partsB vs = true then (if findI vs code < 0 then 4 else 0) else 1
theorem l16Code_any (A : Option Addr) (c : Nat) (vs : List PartT) (code : ByteArray) (w : World) (hr : RdV w w.heap.size A vs) (hs : SmallV vs) :
    Calls Try.prog 33 #[.slice A vs.length c, .string code] w fun e w' => e = .returned (.int .i64 (codeI vs code)) ∧ Below w.heap.size w w' := by
  have hJ := areParts_spec A c vs w hr hs.1 hs.2
  have hbd := findI_bd vs code hs.1
  by_cases hp : partsB vs = true
  · rw [hp] at hJ
    have HJ := Lib.hid hJ; clear hJ
    have HF : Hid (∀ v : World, RdV v v.heap.size A vs → Calls Try.prog 31 #[.slice A vs.length c, .string code] v fun e w' => e = .returned (.int .i64 (findI vs code)) ∧ Below v.heap.size v w') := fun v hv => l16Find_any A c vs code v hv hs.1
    by_cases hn : findI vs code < 0
    · have HR : Hid (codeI vs code = 4) := by unfold Hid codeI; rw [if_pos hp, if_pos hn]
      clear hp
      generalize codeI vs code = R at HR ⊢
      generalize findI vs code = n at hbd hn HF
      go_enter Try.func33, Try.ntmps33
      go_wp2_with fail
      refine HJ.out.mono ?_
      rintro e w1 ⟨rfl, hb1⟩
      go_wp2_with fail
      refine (HF.out w1 (hr.next hb1)).mono ?_
      rintro e w2 ⟨rfl, hb2⟩
      go_wp2_with fail
      go_ret
      exact ⟨ret_int HR.out.symm, bthen hb1 hb2⟩
    · have HR : Hid (codeI vs code = 0) := by unfold Hid codeI; rw [if_pos hp, if_neg hn]
      clear hp
      generalize codeI vs code = R at HR ⊢
      generalize findI vs code = n at hbd hn HF
      go_enter Try.func33, Try.ntmps33
      go_wp2_with fail
      refine HJ.out.mono ?_
      rintro e w1 ⟨rfl, hb1⟩
      go_wp2_with fail
      refine (HF.out w1 (hr.next hb1)).mono ?_
      rintro e w2 ⟨rfl, hb2⟩
      go_wp2_with fail
      go_ret
      exact ⟨ret_int HR.out.symm, bthen hb1 hb2⟩
  · have hp' : partsB vs = false := by simpa using hp
    have HR : Hid (codeI vs code = 1) := by unfold Hid codeI; rw [if_neg hp]
    rw [hp'] at hJ
    have HJ := Lib.hid hJ; clear hJ hp hp'
    generalize codeI vs code = R at HR ⊢
    go_enter Try.func33, Try.ntmps33
    go_wp2_with fail
    refine HJ.out.mono ?_
    rintro e w1 ⟨rfl, hb1⟩
    go_wp2_with fail
    go_ret
    exact ⟨ret_int HR.out.symm, hb1⟩
/-- The three ways of a code. -/
theorem codeI_cases (vs : List PartT) (code : ByteArray) : (partsB vs = false ∧ codeI vs code = 1) ∨ (partsB vs = true ∧ findI vs code < 0 ∧ codeI vs code = 4) ∨ (partsB vs = true ∧ 0 ≤ findI vs code ∧ codeI vs code = 0) := by
  unfold codeI
  by_cases hp : partsB vs = true
  · by_cases hn : findI vs code < 0
    · exact Or.inr (Or.inl ⟨hp, hn, by rw [if_pos hp, if_pos hn]⟩)
    · exact Or.inr (Or.inr ⟨hp, by omega, by rw [if_pos hp, if_neg hn]⟩)
  · exact Or.inl ⟨by simpa using hp, by rw [if_neg hp]⟩

theorem FindPart_spec (A : Option Addr) (c : Nat) (vs : List PartT) (code : ByteArray) (w : World) (hr : RdV w w.heap.size A vs) (hs : SmallV vs) :
    Calls Try.prog 13 #[.slice A vs.length c, .string code] w fun e w' => e = .returned (.tuple #[.int .i64 (findR vs code).1, .int .i64 (findR vs code).2]) ∧ Below w.heap.size w w' := by
  have hJ := l16Code_any A c vs code w hr hs
  have hbd := findI_bd vs code hs.1
  have HF : Hid (∀ v : World, RdV v v.heap.size A vs → Calls Try.prog 31 #[.slice A vs.length c, .string code] v fun e w' => e = .returned (.int .i64 (findI vs code)) ∧ Below v.heap.size v w') := fun v hv => l16Find_any A c vs code v hv hs.1
  rcases codeI_cases vs code with ⟨hp, e⟩ | ⟨hp, hn, e⟩ | ⟨hp, hn, e⟩
  · have HR : Hid (findR vs code = (0, 1)) := by unfold Hid findR; rw [if_neg (by simp [hp])]
    rw [e] at hJ
    have HJ := Lib.hid hJ; clear hJ hp e
    generalize findR vs code = R at HR ⊢
    go_enter Try.func13, Try.ntmps13
    go_wp2_with fail
    refine HJ.out.mono ?_
    rintro e w1 ⟨rfl, hb1⟩
    go_wp2_with fail
    go_ret2
    exact ⟨by rw [HR.out]; rfl, hb1⟩
  · have HR : Hid (findR vs code = (0, 4)) := by unfold Hid findR; rw [if_pos hp, if_pos hn]
    rw [e] at hJ
    have HJ := Lib.hid hJ; clear hJ hp e hn
    generalize findR vs code = R at HR ⊢
    go_enter Try.func13, Try.ntmps13
    go_wp2_with fail
    refine HJ.out.mono ?_
    rintro e w1 ⟨rfl, hb1⟩
    go_wp2_with fail
    go_ret2
    exact ⟨by rw [HR.out]; rfl, hb1⟩
  · have HR : Hid (findR vs code = (findI vs code, 0)) := by unfold Hid findR; rw [if_pos hp, if_neg (by omega)]
    rw [e] at hJ
    have HJ := Lib.hid hJ; clear hJ hp e
    generalize findR vs code = R at HR ⊢
    generalize findI vs code = n at hbd hn HF HR
    go_enter Try.func13, Try.ntmps13
    go_wp2_with fail
    refine HJ.out.mono ?_
    rintro e w1 ⟨rfl, hb1⟩
    go_wp2_with fail
    refine (HF.out w1 (hr.next hb1)).mono ?_
    rintro e w2 ⟨rfl, hb2⟩
    go_wp2_with fail
    go_ret2
    exact ⟨by rw [HR.out]; rfl, bthen hb1 hb2⟩

end Go.Proofs.Ytncjgebgghpigaa
