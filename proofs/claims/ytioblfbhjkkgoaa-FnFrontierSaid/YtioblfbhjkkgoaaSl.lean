/- DERIVED. Slices of texts and of numbers: compared; numbers marked and held to their marks. By program (slices.py). -/
import Derived.Test.YtioblfbhjkkgoaaMark
namespace Go.Proofs.Ytioblfbhjkkgoaa
set_option maxRecDepth 100000
open Go.RowKit

def nC (n : Int) : List Value := [.int .i64 n]

set_option maxHeartbeats 400000 in
theorem eqInt64S_any (A A' : Option Addr) (c c' : Nat) (xs ys : List Int) (w : World) (hr : Rd w w.heap.size 1 nC A xs) (hr' : Rd w w.heap.size 1 nC A' ys) (hm : xs.length ≤ 1048576) :
    Calls Try.prog 33 #[.slice A xs.length c, .slice A' ys.length c'] w fun e w' => e = .returned (.bool (decide (xs = ys))) ∧ Below w.heap.size w w' := by
  by_cases hl : xs.length = ys.length
  · have hn : ((xs.length : Int) != (ys.length : Int)) = false := by simp [hl]
    have Hl := Lib.hid hl; clear hl
    go_enter Try.func33, Try.ntmps33
    go_wp2_with fail
    go_loopw [5] (fun i wr => ∃ k : Nat, k ≤ xs.length ∧ i = .int .i64 k ∧ Below w.heap.size w wr ∧ xs.take k = ys.take k) (fun i _ => xs.length - (intOf i).toNat)
    case atStart => exact ⟨0, Nat.zero_le _, rfl, Below.refl _ _, rfl⟩
    case round =>
      obtain ⟨k, hk, rfl, hb, hpre⟩ := hrel
      have Hp := Lib.hid hpre; clear hpre
      by_cases hlt : k < xs.length
      · have hlt' : k < ys.length := by have := Hl.out; omega
        have hx : xs[k]? = some xs[k] := List.getElem?_eq_getElem hlt
        have hy : ys[k]? = some ys[k] := List.getElem?_eq_getElem hlt'
        obtain ⟨b, o, rfl, hB, h0⟩ := (hr.below hb).at1 hx rfl
        obtain ⟨b', o', rfl, hB', h0'⟩ := (hr'.below hb).at1 hy rfl
        rw [Nat.mul_one] at h0 h0'
        generalize xs[k] = t at h0 hx
        generalize ys[k] = t' at h0' hy
        have Hx := Lib.hid hx; clear hx
        have Hy := Lib.hid hy; clear hy
        by_cases ht : t = t'
        · have htt : (t != t') = false := by simp [ht]
          have Ht := Lib.hid ht; clear ht
          go_wp2_with fail
          go_quiet (fail)
          go_wp2_with fail
          exact ⟨⟨k + 1, by omega, by go_num, below_drewN hb _, take_next Hp.out Hx.out Hy.out Ht.out⟩, by simp [intOf]; omega⟩
        · have htt : (t != t') = true := by simp [ht]
          have hne : decide (xs = ys) = false := decide_eq_false (ne_next Hx.out Hy.out ht)
          have Ht := Lib.hid ht; clear ht
          have Hne := Lib.hid hne; clear hne
          go_wp2_with fail
          go_quiet (fail)
          go_wp2_with fail
          go_ret
          exact ⟨ret_bool Hne.out.symm, below_drewN hb _⟩
      · have e : decide (xs = ys) = true := decide_eq_true (take_all Hp.out Hl.out (by omega))
        have E := Lib.hid e; clear e
        go_wp2_with fail
        go_ret
        exact ⟨ret_bool E.out.symm, hb⟩
  · have hd : decide (xs = ys) = false := by simp; intro h; exact hl (by rw [h])
    have hn : ((xs.length : Int) != (ys.length : Int)) = true := by simp; omega
    rw [hd]
    go_enter Try.func33, Try.ntmps33
    go_wp2_with fail
    go_ret
    exact ⟨rfl, Below.refl _ _⟩

set_option maxHeartbeats 1000000 in
theorem markInt64S_any (A : Option Addr) (c : Nat) (xs : List Int) (k : Int) (lo hi : Nat) (w : World) (hf : Flat w lo hi 2 1 nC A xs) (hm : xs.length ≤ 1048576) (k0 : 0 < k) (k1 : k ≤ 1000000000000000) :
    Calls Try.prog 38 #[.slice A xs.length c, .int .i64 k] w (Marked w lo hi 2 1 nC A (markN k xs.length) (k + xs.length)) := by
  have hroom := hf.room
  clear hf
  go_enter Try.func38, Try.ntmps38
  go_wp2_with fail
  go_loopw [1, 5] (fun kk i wr => ∃ j : Nat, j ≤ xs.length ∧ i = .int .i64 j ∧ kk = .int .i64 (k + j) ∧ Only lo hi w wr ∧ Room wr lo hi 2 1 A xs.length ∧ Rd wr hi 1 nC A ((markN k xs.length).take j)) (fun _ i _ => xs.length - (intOf i).toNat)
  case atStart => exact ⟨0, Nat.zero_le _, rfl, by simp, Only.refl _ _ _, hroom, Rd.nothing⟩
  case round =>
    obtain ⟨j, hj, rfl, rfl, ho, hrm, hrd⟩ := hrel
    have Hrd := Lib.hid hrd; clear hrd
    by_cases hlt : j < xs.length
    · obtain ⟨g, m, rfl, hl, hg, hrow, hm2⟩ := hrm (by omega)
      obtain ⟨z0, hz0⟩ := hrow.cell (j := j) (by omega)
      have hf0 := hrow.frozen j
      go_wp2_with fail
      refine ⟨⟨j + 1, by omega, by go_num, by go_num, ho.trans (Only.setCell (p := ⟨g, j, none⟩) ⟨hl, hg⟩ _), hrm.keep (fun _ _ h => h.setCell _ _), ?_⟩, by simp [intOf]; omega⟩
      have h3 := Rd.put (k := j) (m := m) (x := k + j) (ys := markN k xs.length) Hrd.out hg hrow (by omega) (fun _ => rfl) (markN_at _ _ _ hlt)
      simpa [putAll, nC] using h3
    · obtain rfl : j = xs.length := by omega
      go_wp2_with fail
      go_ret
      exact ⟨rfl, ho, hrm.flat (by have := Hrd.out; rwa [List.take_of_length_le (by rw [markN_len]; omega)] at this) (markN_len _ _)⟩

set_option maxHeartbeats 1000000 in
theorem heldInt64S_any (A : Option Addr) (c n : Nat) (k : Int) (w : World) (hr : Rd w w.heap.size 1 nC A (markN k n)) (hm : n ≤ 1048576) (k0 : 0 < k) (k1 : k ≤ 1000000000000000) :
    Calls Try.prog 39 #[.slice A n c, .int .i64 k] w fun e w' => e = .returned (.int .i64 (k + n)) ∧ Below w.heap.size w w' := by
  go_enter Try.func39, Try.ntmps39
  go_wp2_with fail
  go_loopw [1, 5] (fun kk i wr => ∃ j : Nat, j ≤ n ∧ i = .int .i64 j ∧ kk = .int .i64 (k + j) ∧ Below w.heap.size w wr) (fun _ i _ => n - (intOf i).toNat)
  case atStart => exact ⟨0, Nat.zero_le _, rfl, by simp, Below.refl _ _⟩
  case round =>
    obtain ⟨j, hj, rfl, rfl, hb⟩ := hrel
    by_cases hlt : j < n
    · obtain ⟨b, o, rfl, hB, h0⟩ := (hr.below hb).at1 (markN_at k n j hlt) rfl
      rw [Nat.mul_one] at h0
      go_wp2_with fail
      try go_quiet (fail)
      go_wp2_with fail
      first
        | exact ⟨⟨j + 1, by omega, by go_num, by go_num, below_drewN hb _⟩, by simp [intOf]; omega⟩
        | exact ⟨⟨j + 1, by omega, by go_num, by go_num, hb⟩, by simp [intOf]; omega⟩
    · obtain rfl : j = n := by omega
      go_wp2_with fail
      go_ret
      exact ⟨rfl, hb⟩

end Go.Proofs.Ytioblfbhjkkgoaa
