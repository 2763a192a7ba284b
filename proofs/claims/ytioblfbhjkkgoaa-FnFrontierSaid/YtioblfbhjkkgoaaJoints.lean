/- DERIVED. What makes joints, in the program and in the reference. -/
import Derived.Test.YtioblfbhjkkgoaaNum
import Derived.Test.YtioblfbhjkkgoaaFlJoint
namespace Go.Proofs.Ytioblfbhjkkgoaa
set_option maxRecDepth 100000
open Go.RowKit

def okJoint (t : Int × Int × Int) : Bool := inB t.1 0 7 && inB t.2.1 0 7 && decide (t.1 < t.2.1) && inB t.2.2 0 9
def jointsB (xs : List (Int × Int × Int)) : Bool := decide (xs.length ≤ 12) && xs.all okJoint
theorem okJoint_true {t : Int × Int × Int} (h : okJoint t = true) : inB t.1 0 7 = true ∧ inB t.2.1 0 7 = true ∧ t.1 < t.2.1 ∧ inB t.2.2 0 9 = true := by
  simp [okJoint] at h
  simp [h]
theorem jointsB_false {xs : List (Int × Int × Int)} {k : Nat} {t : Int × Int × Int} (hk : xs[k]? = some t) (h : ¬ okJoint t = true) : jointsB xs = false := by
  have : xs.all okJoint = false := by
    rw [List.all_eq_false]
    exact ⟨t, List.mem_of_getElem? hk, h⟩
  simp [jointsB, this]
theorem all_next {α : Type} {p : α → Bool} {xs : List α} {k : Nat} {t : α} (h : (xs.take k).all p = true) (hk : xs[k]? = some t) (ht : p t = true) : (xs.take (k + 1)).all p = true := by
  rw [List.take_add_one, List.all_append, h, hk]
  simp [ht]

set_option maxHeartbeats 400000 in
theorem areJoints_impl (A : Option Addr) (c : Nat) (xs : List (Int × Int × Int)) (w : World) (hr : Rd w w.heap.size 3 jointC A xs) (hm : xs.length ≤ 1048576) :
    Calls Try.prog 53 #[.slice A xs.length c] w fun e w' => e = .returned (.bool (jointsB xs)) ∧ Below w.heap.size w w' := by
  by_cases h8 : 12 < xs.length
  · have hB : jointsB xs = false := by simp [jointsB]; omega
    rw [hB]
    go_enter Try.func53, Try.ntmps53
    go_wp2
    go_ret
    exact ⟨rfl, Below.refl _ _⟩
  go_enter Try.func53, Try.ntmps53
  go_wp2
  go_loopw [10] (fun i wr => ∃ k : Nat, k ≤ xs.length ∧ i = .int .i64 k ∧ Below w.heap.size w wr ∧ (xs.take k).all okJoint = true) (fun i _ => xs.length - (intOf i).toNat)
  case atStart => exact ⟨0, Nat.zero_le _, rfl, Below.refl _ _, rfl⟩
  case round =>
      obtain ⟨k, hk, rfl, hb, hall⟩ := hrel
      have Ha := Lib.hid hall; clear hall
      by_cases hlt : k < xs.length
      · have hx : xs[k]? = some xs[k] := List.getElem?_eq_getElem hlt
        obtain ⟨b, o, rfl, hB, h0, h1, h2⟩ := (hr.below hb).at3 hx rfl
        generalize xs[k] = t at h0 h1 h2 hx
        have Hx := Lib.hid hx; clear hx
        by_cases hok : okJoint t = true
        · obtain ⟨g1, g2, g3, g4⟩ := okJoint_true hok
          have Hk := Lib.hid hok; clear hok
          go_wp2_with (first | (go_at_call 44; refine (within_any _ _ _ _).mono ?_; rintro e w' ⟨rfl, rfl⟩) | (go_at_call 68; refine (isSlot_any _ _).mono ?_; rintro e w' ⟨rfl, rfl⟩))
          exact ⟨⟨k + 1, by omega, by go_num, hb.alloc hb.size _, all_next Ha.out Hx.out Hk.out⟩, by simp [intOf]; omega⟩
        · have hF : jointsB xs = false := jointsB_false Hx.out hok
          have Hk := Lib.hid hok; clear hok
          have HF := Lib.hid hF; clear hF
          go_wp2_with (first | (go_at_call 44; refine (within_any _ _ _ _).mono ?_; rintro e w' ⟨rfl, rfl⟩) | (go_at_call 68; refine (isSlot_any _ _).mono ?_; rintro e w' ⟨rfl, rfl⟩))
          all_goals first
            | (go_ret; exact ⟨ret_bool HF.out.symm, hb.alloc hb.size _⟩)
            | (exfalso; have := Hk.out; simp [okJoint, inB] at *; omega)
      · have hT : jointsB xs = true := by
          have := Ha.out
          rw [List.take_of_length_le (by omega)] at this
          simp only [jointsB, this]; simp; omega
        go_wp2_with fail
        go_ret
        exact ⟨ret_bool hT.symm, hb⟩

theorem inB_up {a b : Int} (h1 : inB a 0 7 = true) : inB b (a + 1) 7 = (inB b 0 7 && decide (a < b)) := by
  simp only [inB] at *
  rw [Bool.eq_iff_iff]
  simp at *
  omega
set_option maxHeartbeats 400000 in
theorem areJoints_spec (A : Option Addr) (c : Nat) (xs : List (Int × Int × Int)) (w : World) (hr : Rd w w.heap.size 3 jointC A xs) (hm : xs.length ≤ 1048576) :
    Calls Try.prog 47 #[.slice A xs.length c] w fun e w' => e = .returned (.bool (jointsB xs)) ∧ Below w.heap.size w w' := by
  go_enter Try.func47, Try.ntmps47
  go_wp2
  go_loopw [3] (fun i wr => ∃ k : Nat, k ≤ xs.length ∧ i = .int .i64 k ∧ Below w.heap.size w wr ∧ (xs.take k).all okJoint = true) (fun i _ => xs.length - (intOf i).toNat)
  case atStart => exact ⟨0, Nat.zero_le _, rfl, Below.refl _ _, rfl⟩
  case round =>
      obtain ⟨k, hk, rfl, hb, hall⟩ := hrel
      have Ha := Lib.hid hall; clear hall
      by_cases hlt : k < xs.length
      · have hx : xs[k]? = some xs[k] := List.getElem?_eq_getElem hlt
        obtain ⟨b, o, rfl, hB, h0, h1, h2⟩ := (hr.below hb).at3 hx rfl
        generalize xs[k] = t at h0 h1 h2 hx
        have Hx := Lib.hid hx; clear hx
        by_cases hok : okJoint t = true
        · obtain ⟨g1, g2, g3, g4⟩ := okJoint_true hok
          obtain ⟨b1, b2⟩ := inB_true g1
          have g2' : inB t.2.1 (t.1 + 1) 7 = true := by rw [inB_up g1, g2]; simpa using g3
          have Hk := Lib.hid hok; clear hok
          go_wp2_with (go_at_call 61; refine (l01In_any _ _ _ _).mono ?_; rintro e w' ⟨rfl, rfl⟩)
          exact ⟨⟨k + 1, by omega, by go_num, hb.alloc hb.size _, all_next Ha.out Hx.out Hk.out⟩, by simp [intOf]; omega⟩
        · have hF : jointsB xs = false := jointsB_false Hx.out hok
          have Hk := Lib.hid hok; clear hok
          have HF := Lib.hid hF; clear hF
          by_cases g1 : inB t.1 0 7 = true
          · obtain ⟨b1, b2⟩ := inB_true g1
            go_wp2_with (go_at_call 61; refine (l01In_any _ _ _ _).mono ?_; rintro e w' ⟨rfl, rfl⟩)
            all_goals first
              | (go_ret; exact ⟨ret_bool HF.out.symm, hb.alloc hb.size _⟩)
              | (exfalso; have := Hk.out; simp [okJoint, inB] at *; omega)
          · go_wp2_with (go_at_call 61; refine (l01In_any _ _ _ _).mono ?_; rintro e w' ⟨rfl, rfl⟩)
            go_ret
            exact ⟨ret_bool HF.out.symm, hb.alloc hb.size _⟩
      · have hT : decide ((xs.length : Int) ≤ 12) = jointsB xs := by
          have := Ha.out
          rw [List.take_of_length_le (by omega)] at this
          simp only [jointsB, this, Bool.and_true]; rw [Bool.eq_iff_iff]; simp; omega
        have HT := Lib.hid hT; clear hT
        go_wp2_with fail
        go_ret
        exact ⟨ret_bool HT.out, hb⟩

end Go.Proofs.Ytioblfbhjkkgoaa
