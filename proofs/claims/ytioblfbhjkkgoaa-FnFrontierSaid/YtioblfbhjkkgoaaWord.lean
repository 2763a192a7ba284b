/- DERIVED. What makes a word, in the program and in the reference. -/
import Derived.Test.YtioblfbhjkkgoaaNum
namespace Go.Proofs.Ytioblfbhjkkgoaa
set_option maxRecDepth 100000
open Go.RowKit

def lowB (c : UInt8) : Bool := decide (97 ≤ (c.toNat : Int)) && decide ((c.toNat : Int) ≤ 122)
def wordB (s : ByteArray) : Bool := decide (1 ≤ s.size) && decide (s.size ≤ 16) && s.data.toList.all lowB
theorem lowB_true {c : UInt8} (h : lowB c = true) : 97 ≤ (c.toNat : Int) ∧ (c.toNat : Int) ≤ 122 := by
  simpa [lowB] using h
theorem byte_at {s : ByteArray} {k : Nat} (h : k < s.size) : s.data.toList[k]? = some s[k] := by
  rw [List.getElem?_eq_getElem (by simpa using h)]
  rfl
theorem word_bad {s : ByteArray} {k : Nat} (h : k < s.size) (hb : lowB s[k] = false) : wordB s = false := by
  have : s.data.toList.all lowB = false := by
    rw [List.all_eq_false]
    exact ⟨s[k], List.mem_of_getElem? (byte_at h), by simp [hb]⟩
  simp [wordB, this]
theorem low_next {s : ByteArray} {k : Nat} (h : k < s.size) (ha : (s.data.toList.take k).all lowB = true) (hb : lowB s[k] = true) : (s.data.toList.take (k + 1)).all lowB = true := by
  rw [List.take_add_one, List.all_append, ha, byte_at h]
  simp [hb]

set_option maxHeartbeats 400000 in
theorem isWord_impl (s : ByteArray) (hs : s.size ≤ maxLen) (w : World) : Calls Try.prog 77 #[.string s] w fun e w' => e = .returned (.bool (wordB s)) ∧ w = w' := by
  unfold maxLen at hs
  by_cases h1 : s.size < 1
  · have hB : wordB s = false := by simp [wordB]; omega
    rw [hB]
    go_enter Try.func77, Try.ntmps77
    go_wp2_with fail
    go_ret
    exact ⟨rfl, rfl⟩
  by_cases h2 : 16 < s.size
  · have hB : wordB s = false := by simp [wordB]; omega
    rw [hB]
    go_enter Try.func77, Try.ntmps77
    go_wp2_with fail
    go_ret
    exact ⟨rfl, rfl⟩
  go_enter Try.func77, Try.ntmps77
  go_wp2_with fail
  go_loop [3] (fun i => ∃ k : Nat, k ≤ s.size ∧ i = .int .i64 k ∧ (s.data.toList.take k).all lowB = true) (fun i => s.size - (intOf i).toNat)
  case atStart => exact ⟨0, Nat.zero_le _, rfl, rfl⟩
  case round =>
    obtain ⟨k, hk, rfl, hall⟩ := hrel
    have Ha := Lib.hid hall; clear hall
    by_cases hlt : k < s.size
    · by_cases hb : lowB s[k] = true
      · have Hn := Lib.hid (low_next hlt Ha.out hb)
        obtain ⟨b1, b2⟩ := lowB_true hb
        clear hb
        go_wp2_with fail
        exact ⟨⟨k + 1, by omega, by go_num, Hn.out⟩, by simp [intOf]; omega⟩
      · have Hf := Lib.hid (word_bad hlt (by simpa using hb))
        have Hb := Lib.hid hb
        clear hb
        go_wp2_with fail
        all_goals first
          | (go_ret; exact ⟨ret_bool Hf.out.symm, rfl⟩)
          | (exfalso; have := Hb.out; simp [lowB] at this; omega)
    · have hT : wordB s = true := by
        have := Ha.out
        rw [List.take_of_length_le (by simp; omega)] at this
        simp only [wordB, this]; simp; omega
      have HT := Lib.hid hT; clear hT
      go_wp2_with fail
      go_ret
      exact ⟨ret_bool HT.out.symm, rfl⟩

set_option maxHeartbeats 400000 in
theorem isWord_spec (s : ByteArray) (hs : s.size ≤ maxLen) (w : World) : Calls Try.prog 75 #[.string s] w fun e w' => e = .returned (.bool (wordB s)) ∧ w = w' := by
  unfold maxLen at hs
  go_enter Try.func75, Try.ntmps75
  go_wp2_with fail
  go_loop [3] (fun i => ∃ k : Nat, k ≤ s.size ∧ i = .int .i64 k ∧ (s.data.toList.take k).all lowB = true) (fun i => s.size - (intOf i).toNat)
  case atStart => exact ⟨0, Nat.zero_le _, rfl, rfl⟩
  case round =>
    obtain ⟨k, hk, rfl, hall⟩ := hrel
    have Ha := Lib.hid hall; clear hall
    by_cases hlt : k < s.size
    · by_cases hb : lowB s[k] = true
      · have Hn := Lib.hid (low_next hlt Ha.out hb)
        obtain ⟨b1, b2⟩ := lowB_true hb
        clear hb
        go_wp2_with fail
        exact ⟨⟨k + 1, by omega, by go_num, Hn.out⟩, by simp [intOf]; omega⟩
      · have Hf := Lib.hid (word_bad hlt (by simpa using hb))
        have Hb := Lib.hid hb
        clear hb
        go_wp2_with fail
        all_goals first
          | (go_ret; exact ⟨ret_bool Hf.out.symm, rfl⟩)
          | (exfalso; have := Hb.out; simp [lowB] at this; omega)
    · have hT : inB s.size 1 16 = wordB s := by
        have := Ha.out
        rw [List.take_of_length_le (by simp; omega)] at this
        simp only [wordB, this, inB, Bool.and_true]; rw [Bool.eq_iff_iff]; simp; omega
      have HT := Lib.hid hT; clear hT
      go_wp2_with (go_at_call 61; refine (l01In_any _ _ _ _).mono ?_; rintro e w' ⟨rfl, rfl⟩)
      go_ret
      exact ⟨ret_bool HT.out, rfl⟩

end Go.Proofs.Ytioblfbhjkkgoaa
