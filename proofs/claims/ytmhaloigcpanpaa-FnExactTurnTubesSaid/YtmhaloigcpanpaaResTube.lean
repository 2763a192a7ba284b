/- DERIVED. Results that are slices of tubes: compared, marked, held. By program (gturn.py). -/
import Derived.Test.YtmhaloigcpanpaaKit
import Derived.Test.YtmhaloigcpanpaaKitTube
namespace Go.Proofs.Ytmhaloigcpanpaa
set_option maxRecDepth 100000
open Go.RowKit

def tubeMk (k : Int) : Int × Int := (k, k + 1)
theorem eqTubeS_r (A A' : Option Addr) (c c' : Nat) (l : List (Int × Int)) (w : World) (hr : Rd w w.heap.size 2 tubeC A l) (hr' : Rd w w.heap.size 2 tubeC A' l) (hl : l.length ≤ 1048576) :
    Calls Try.prog 15 #[.slice A l.length c, .slice A' l.length c'] w fun e w' => e = .returned (.bool true) ∧ Below w.heap.size w w' := eqTubeS_k A A' c c' l w hr hr' hl

set_option maxHeartbeats 1000000 in
theorem markTubeS_r (A : Option Addr) (c : Nat) (l : List (Int × Int)) (lo hi : Nat) (w : World) (hf : Flat w lo hi 100 2 tubeC A l) (hl : l.length ≤ 1048576) :
    Calls Try.prog 16 #[.slice A l.length c, .int .i64 1] w fun e w' => e = .returned (.int .i64 (1 + 2 * l.length)) ∧ Only lo hi w w' ∧ Flat w' lo hi 100 2 tubeC A (marksOf tubeMk 2 1 l.length) := by
  have hroom := hf.room
  clear hf
  generalize l.length = n at hroom hl ⊢
  go_enter Try.func16, Try.ntmps16
  go_wp2_with fail
  go_loopw [1, 5] (fun kk i wr => ∃ j : Nat, j ≤ n ∧ i = .int .i64 j ∧ kk = .int .i64 (1 + 2 * j) ∧ Only lo hi w wr ∧ Room wr lo hi 100 2 A n ∧ Rd wr hi 2 tubeC A ((marksOf tubeMk 2 1 n).take j)) (fun _ i _ => n - (intOf i).toNat)
  case atStart => exact ⟨0, Nat.zero_le _, rfl, by simp, Only.refl _ _ _, hroom, Rd.nothing⟩
  case round =>
    obtain ⟨j, hj, rfl, rfl, ho, hrm, hrd⟩ := hrel
    have Hrd := Lib.hid hrd; clear hrd
    by_cases hlt : j < n
    · obtain ⟨g, m, rfl, hlo, hg, hrow, hm2⟩ := hrm (by omega)
      obtain ⟨z0, hz0⟩ := hrow.cell (j := j * 2) (by omega)
      have hf0 := hrow.frozen (j * 2)
      obtain ⟨z1, hz1⟩ := hrow.cell (j := j * 2 + 1) (by omega)
      have hf1 := hrow.frozen (j * 2 + 1)
      go_wp2_with fail
      refine ⟨⟨j + 1, by omega, by go_num, by go_num, (ho.trans (Only.setCell (p := ⟨g, j * 2, none⟩) ⟨hlo, hg⟩ _)).trans (Only.setCell (p := ⟨g, j * 2 + 1, none⟩) ⟨hlo, hg⟩ _), hrm.keep (fun _ _ h => (h.setCell _ _).setCell _ _), ?_⟩, by simp [intOf]; omega⟩
      have h3 := Rd.put (k := j) (m := m) (x := tubeMk (1 + 2 * (j : Int))) (ys := marksOf tubeMk 2 1 n) Hrd.out hg hrow (by omega) tubeC_len (marksOf_at _ _ _ hlt)
      simpa [putAll, tubeC, tubeMk] using h3
    · obtain rfl : j = n := by omega
      go_wp2_with fail
      go_ret
      exact ⟨rfl, ho, hrm.flat (by have := Hrd.out; rwa [List.take_of_length_le (by rw [marksOf_len]; omega)] at this) (marksOf_len _ _ _ _)⟩

set_option maxHeartbeats 1000000 in
theorem heldTubeS_r (A : Option Addr) (c : Nat) (l : List (Int × Int)) (lo hi : Nat) (w : World) (h : Flat w lo hi 100 2 tubeC A (marksOf tubeMk 2 1 l.length)) (hhi : hi ≤ w.heap.size) (hl : l.length ≤ 1048576) :
    Calls Try.prog 17 #[.slice A l.length c, .int .i64 1] w fun e w' => e = .returned (.int .i64 (1 + 2 * l.length)) ∧ Below w.heap.size w w' := by
  have hr := h.rd.more hhi
  clear h
  generalize l.length = n at hr hl ⊢
  go_enter Try.func17, Try.ntmps17
  go_wp2_with fail
  go_loopw [1, 5] (fun kk i wr => ∃ j : Nat, j ≤ n ∧ i = .int .i64 j ∧ kk = .int .i64 (1 + 2 * j) ∧ Below w.heap.size w wr) (fun _ i _ => n - (intOf i).toNat)
  case atStart => exact ⟨0, Nat.zero_le _, rfl, by simp, Below.refl _ _⟩
  case round =>
    obtain ⟨j, hj, rfl, rfl, hb⟩ := hrel
    by_cases hlt : j < n
    · obtain ⟨b, o, rfl, hB, h0, h1⟩ := (hr.below hb).at2 (marksOf_at tubeMk 2 1 hlt) rfl
      simp only [tubeMk] at h0 h1
      go_wp2_with fail
      exact ⟨⟨j + 1, by omega, by go_num, by go_num, hb⟩, by simp [intOf]; omega⟩
    · obtain rfl : j = n := by omega
      go_wp2_with fail
      go_ret
      exact ⟨rfl, hb⟩
end Go.Proofs.Ytmhaloigcpanpaa
