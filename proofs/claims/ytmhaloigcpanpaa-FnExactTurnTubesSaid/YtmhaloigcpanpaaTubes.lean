/- DERIVED. Tubes: carried over, compared, and what makes tubes. -/
import Derived.Test.YtmhaloigcpanpaaNum
import Derived.Test.YtmhaloigcpanpaaFlTube
namespace Go.Proofs.Ytmhaloigcpanpaa
set_option maxRecDepth 100000
open Go.RowKit

def okTube (t : Int × Int) : Bool := inB t.1 (-2000) 2000 && inB t.2 (-2000) 2000 && !(t == (0,0))
def tubesB (xs : List (Int × Int)) : Bool := decide (3 ≤ xs.length) && decide (xs.length ≤ 8) && xs.all okTube

theorem okTube_val (t : Int × Int) : okTube t = (inB t.1 (-2000) 2000 && inB t.2 (-2000) 2000 && !(decide (t.1 = 0) && decide (t.2 = 0))) := by
  obtain ⟨x, y⟩ := t
  simp [okTube, BEq.beq]
set_option maxHeartbeats 400000 in
theorem areTubes_impl (A : Option Addr) (c : Nat) (xs : List (Int × Int)) (w : World) (hr : Rd w w.heap.size 2 tubeC A xs) (hm : xs.length ≤ 1048576) :
    Calls Try.prog 81 #[.slice A xs.length c] w fun e w' => e = .returned (.bool (tubesB xs)) ∧ Below w.heap.size w w' := by
  by_cases h3 : xs.length < 3
  · have hB : tubesB xs = false := by simp [tubesB]; omega
    rw [hB]
    go_enter Try.func81, Try.ntmps81
    go_wp2
    go_ret
    exact ⟨rfl, Below.refl _ _⟩
  by_cases h8 : 8 < xs.length
  · have hB : tubesB xs = false := by simp [tubesB]; omega
    rw [hB]
    go_enter Try.func81, Try.ntmps81
    go_wp2
    go_ret
    exact ⟨rfl, Below.refl _ _⟩
  go_enter Try.func81, Try.ntmps81
  go_wp2
  go_loopw [15] (fun i wr => ∃ k : Nat, k ≤ xs.length ∧ i = .int .i64 k ∧ Below w.heap.size w wr ∧ (xs.take k).all okTube = true) (fun i _ => xs.length - (intOf i).toNat)
  case atStart => exact ⟨0, Nat.zero_le _, rfl, Below.refl _ _, rfl⟩
  case round =>
      obtain ⟨k, hk, rfl, hb, hall⟩ := hrel
      by_cases hlt : k < xs.length
      · obtain ⟨b, o, rfl, hB, h0, h1⟩ := (hr.below hb).at2 (List.getElem?_eq_getElem hlt) rfl
        have hx : ∀ t, xs[k] = t → okTube t = false → xs.all okTube = false := fun t ht h => all_out hlt (by rw [ht]; exact h)
        have hy : ∀ t, xs[k] = t → okTube t = true → (xs.take (k + 1)).all okTube = true := fun t ht h => by rw [all_snoc hlt, hall, ht, h]; rfl
        generalize xs[k] = t at h0 h1 hx hy
        by_cases g1 : inB t.1 (-2000) 2000 = true
        · by_cases g2 : inB t.2 (-2000) 2000 = true
          · go_wp2_with (go_at_call 82; refine (within_any _ _ _ _).mono ?_; rintro e w' ⟨rfl, rfl⟩)
            · go_ret
              refine ⟨ret_bool ?_, hb.alloc hb.size _⟩
              have e1 : t.1 = 0 := by assumption
              have e2 : t.2 = 0 := by assumption
              simp [tubesB, hx t rfl (by simp [okTube_val, e1, e2])]
            · have e1 : t.1 = 0 := by assumption
              have e2 : ¬ t.2 = 0 := by assumption
              exact ⟨⟨k + 1, by omega, by go_num, hb.alloc hb.size _, hy t rfl (by simp [okTube_val, g1, g2, e2])⟩, by simp [intOf]; omega⟩
            · have e1 : ¬ t.1 = 0 := by assumption
              exact ⟨⟨k + 1, by omega, by go_num, hb.alloc hb.size _, hy t rfl (by simp [okTube_val, g1, g2, e1])⟩, by simp [intOf]; omega⟩
          · go_wp2_with (go_at_call 82; refine (within_any _ _ _ _).mono ?_; rintro e w' ⟨rfl, rfl⟩)
            go_ret
            refine ⟨ret_bool ?_, hb.alloc hb.size _⟩
            simp [tubesB, hx t rfl (by simp [okTube, g2])]
        · go_wp2_with (go_at_call 82; refine (within_any _ _ _ _).mono ?_; rintro e w' ⟨rfl, rfl⟩)
          go_ret
          refine ⟨ret_bool ?_, hb.alloc hb.size _⟩
          simp [tubesB, hx t rfl (by simp [okTube, g1])]
      · have e : k = xs.length := by omega
        rw [e, List.take_length] at hall
        have hT : tubesB xs = true := by simp only [tubesB, hall]; simp; omega
        clear e hall
        go_wp2_with fail
        go_ret
        exact ⟨ret_bool hT.symm, hb⟩

set_option maxHeartbeats 400000 in
theorem areTubes_spec (A : Option Addr) (c : Nat) (xs : List (Int × Int)) (w : World) (hr : Rd w w.heap.size 2 tubeC A xs) (hm : xs.length ≤ 1048576) :
    Calls Try.prog 78 #[.slice A xs.length c] w fun e w' => e = .returned (.bool (tubesB xs)) ∧ Below w.heap.size w w' := by
  go_enter Try.func78, Try.ntmps78
  go_wp2
  go_loopw [3] (fun i wr => ∃ k : Nat, k ≤ xs.length ∧ i = .int .i64 k ∧ w = wr ∧ (xs.take k).all okTube = true) (fun i _ => xs.length - (intOf i).toNat)
  case atStart => exact ⟨0, Nat.zero_le _, rfl, rfl, rfl⟩
  case round =>
      obtain ⟨k, hk, rfl, rfl, hall⟩ := hrel
      by_cases hlt : k < xs.length
      · obtain ⟨b, o, rfl, hB, h0, h1⟩ := hr.at2 (List.getElem?_eq_getElem hlt) rfl
        have hx : ∀ t, xs[k] = t → okTube t = false → xs.all okTube = false := fun t ht h => all_out hlt (by rw [ht]; exact h)
        have hy : ∀ t, xs[k] = t → okTube t = true → (xs.take (k + 1)).all okTube = true := fun t ht h => by rw [all_snoc hlt, hall, ht, h]; rfl
        generalize xs[k] = t at h0 h1 hx hy
        by_cases g1 : inB t.1 (-2000) 2000 = true
        · by_cases g2 : inB t.2 (-2000) 2000 = true
          · go_wp2_with (go_at_call 79; refine (l01In_any _ _ _ _).mono ?_; rintro e w' ⟨rfl, rfl⟩)
            · go_ret
              refine ⟨ret_bool ?_, Below.refl _ _⟩
              have e1 : t.1 = 0 := by assumption
              have e2' : (t.2 == 0) = true := by assumption
              have e2 : t.2 = 0 := by simpa using e2'
              simp [tubesB, hx t rfl (by simp [okTube_val, e1, e2])]
            · have e1 : t.1 = 0 := by assumption
              have e2' : (t.2 == 0) = false := by assumption
              have e2 : ¬ t.2 = 0 := by simpa using e2'
              exact ⟨⟨k + 1, by omega, by go_num, trivial, hy t rfl (by simp [okTube_val, g1, g2, e2])⟩, by simp [intOf]; omega⟩
            · have e1 : ¬ t.1 = 0 := by assumption
              exact ⟨⟨k + 1, by omega, by go_num, trivial, hy t rfl (by simp [okTube_val, g1, g2, e1])⟩, by simp [intOf]; omega⟩
          · go_wp2_with (go_at_call 79; refine (l01In_any _ _ _ _).mono ?_; rintro e w' ⟨rfl, rfl⟩)
            go_ret
            refine ⟨ret_bool ?_, Below.refl _ _⟩
            simp [tubesB, hx t rfl (by simp [okTube, g2])]
        · go_wp2_with (go_at_call 79; refine (l01In_any _ _ _ _).mono ?_; rintro e w' ⟨rfl, rfl⟩)
          go_ret
          refine ⟨ret_bool ?_, Below.refl _ _⟩
          simp [tubesB, hx t rfl (by simp [okTube, g1])]
      · have e : k = xs.length := by omega
        rw [e, List.take_length] at hall
        have hT : inB xs.length 3 8 = tubesB xs := by simp only [tubesB, hall, inB, Bool.and_true]; rw [Bool.eq_iff_iff]; simp; omega
        clear e hall
        go_wp2_with (go_at_call 79; refine (l01In_any _ _ _ _).mono ?_; rintro e w' ⟨rfl, rfl⟩)
        go_ret
        exact ⟨rfl, Below.refl _ _⟩

end Go.Proofs.Ytmhaloigcpanpaa
