/- DERIVED. The part with a code; whether parts join. By program (gfind.py). -/
import Derived.Test.YtioblfbhjkkgoaaParts2
import Derived.Test.YtioblfbhjkkgoaaKitPart
namespace Go.Proofs.Ytioblfbhjkkgoaa
set_option maxRecDepth 100000
open Go.RowKit

set_option maxHeartbeats 400000 in
theorem findPart_any (A : Option Addr) (c : Nat) (vs : List PartT) (code : ByteArray) (w : World) (hr : RdV w w.heap.size A vs) (hm : vs.length ≤ 1048576) :
    Calls Try.prog 56 #[.slice A vs.length c, .string code] w fun e w' => e = .returned (.int .i64 (findI vs code)) ∧ Below w.heap.size w w' := by
  go_enter Try.func56, Try.ntmps56
  go_wp2_with fail
  go_loopw [9] (fun i wr => ∃ k : Nat, k ≤ vs.length ∧ i = .int .i64 k ∧ Below w.heap.size w wr ∧ ∀ j y, j < k → vs[j]? = some y → y.code ≠ code) (fun i _ => vs.length - (intOf i).toNat)
  case atStart => exact ⟨0, Nat.zero_le _, rfl, Below.refl _ _, fun j y hj => by omega⟩
  case round =>
    obtain ⟨k, hk, rfl, hb, hall⟩ := hrel
    have Ha := Lib.hid hall; clear hall
    by_cases hlt : k < vs.length
    · have hx : vs[k]? = some vs[k] := List.getElem?_eq_getElem hlt
      obtain ⟨b, o, rfl⟩ := hr.addr (by omega)
      obtain ⟨hB, pA, pc, q0, q1, q2, q3, q4, _, _⟩ := (hr.below hb).cells hx
      generalize vs[k] = t at q0 q1 q2 q3 q4 hx
      have Hx := Lib.hid hx; clear hx
      by_cases hc : t.code = code
      · have HF := Lib.hid (findI_yes Hx.out hc Ha.out)
        have hcc : (t.code.toList == code.toList) = true := by simp [hc]
        clear hc
        go_wp2_with fail
        go_ret
        exact ⟨ret_int HF.out.symm, hb.alloc hb.size _⟩
      · have hcc : (t.code.toList == code.toList) = false := by simp; exact fun e => hc (str_eq.1 e)
        have Hc := Lib.hid hc; clear hc
        go_wp2_with fail
        exact ⟨⟨k + 1, by omega, by go_num, hb.alloc hb.size _, fun j y hj hy => by
          by_cases e : j = k
          · subst e
            have := Hx.out
            rw [hy] at this
            rw [Option.some.inj this]
            exact Hc.out
          · exact Ha.out j y (by omega) hy⟩, by simp [intOf]; omega⟩
    · have HF := Lib.hid (findI_no (vs := vs) fun j y hj hy => Ha.out j y (by omega) hy)
      go_wp2_with fail
      go_ret
      exact ⟨ret_int HF.out.symm, hb⟩

set_option maxHeartbeats 400000 in
theorem l16Find_any (A : Option Addr) (c : Nat) (vs : List PartT) (code : ByteArray) (w : World) (hr : RdV w w.heap.size A vs) (hm : vs.length ≤ 1048576) :
    Calls Try.prog 50 #[.slice A vs.length c, .string code] w fun e w' => e = .returned (.int .i64 (findI vs code)) ∧ Below w.heap.size w w' := by
  go_enter Try.func50, Try.ntmps50
  go_wp2_with fail
  go_loopw [5] (fun i wr => ∃ k : Nat, k ≤ vs.length ∧ i = .int .i64 k ∧ Below w.heap.size w wr ∧ ∀ j y, j < k → vs[j]? = some y → y.code ≠ code) (fun i _ => vs.length - (intOf i).toNat)
  case atStart => exact ⟨0, Nat.zero_le _, rfl, Below.refl _ _, fun j y hj => by omega⟩
  case round =>
    obtain ⟨k, hk, rfl, hb, hall⟩ := hrel
    have Ha := Lib.hid hall; clear hall
    by_cases hlt : k < vs.length
    · have hx : vs[k]? = some vs[k] := List.getElem?_eq_getElem hlt
      obtain ⟨b, o, rfl⟩ := hr.addr (by omega)
      obtain ⟨hB, pA, pc, q0, q1, q2, q3, q4, _, _⟩ := (hr.below hb).cells hx
      generalize vs[k] = t at q0 q1 q2 q3 q4 hx
      have Hx := Lib.hid hx; clear hx
      by_cases hc : t.code = code
      · have HF := Lib.hid (findI_yes Hx.out hc Ha.out)
        have hcc : (t.code.toList == code.toList) = true := by simp [hc]
        clear hc
        go_wp2_with fail
        go_ret
        exact ⟨ret_int HF.out.symm, hb⟩
      · have hcc : (t.code.toList == code.toList) = false := by simp; exact fun e => hc (str_eq.1 e)
        have Hc := Lib.hid hc; clear hc
        go_wp2_with fail
        exact ⟨⟨k + 1, by omega, by go_num, hb, fun j y hj hy => by
          by_cases e : j = k
          · subst e
            have := Hx.out
            rw [hy] at this
            rw [Option.some.inj this]
            exact Hc.out
          · exact Ha.out j y (by omega) hy⟩, by simp [intOf]; omega⟩
    · have HF := Lib.hid (findI_no (vs := vs) fun j y hj hy => Ha.out j y (by omega) hy)
      go_wp2_with fail
      go_ret
      exact ⟨ret_int HF.out.symm, hb⟩

def findR (vs : List PartT) (code : ByteArray) : Int × Int := if partsB vs = true then (if findI vs code < 0 then (0, 4) else (findI vs code, 0)) else (0, 1)
theorem findI_bd (vs : List PartT) (code : ByteArray) (h : vs.length ≤ 1048576) : -1 ≤ findI vs code ∧ findI vs code ≤ 1048576 := by
  unfold findI
  split <;> omega

end Go.Proofs.Ytioblfbhjkkgoaa
