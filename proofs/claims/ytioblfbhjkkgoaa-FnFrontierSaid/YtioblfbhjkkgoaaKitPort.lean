/- DERIVED. Ports marked and held to their marks. -/
import Derived.Test.YtioblfbhjkkgoaaKit
import Derived.Test.YtioblfbhjkkgoaaFlPort
namespace Go.Proofs.Ytioblfbhjkkgoaa
set_option maxRecDepth 100000
open Go.RowKit

def portMk (k : Int) : Int × Int × Bool := (k, k + 1, ((k + 1 + 1) % 3 == 0))

set_option maxHeartbeats 1000000 in
theorem markPortS_any (A : Option Addr) (c n : Nat) (k : Int) (lo hi : Nat) (w : World) (hroom : Room w lo hi 96 3 A n) (hm : n ≤ 1048576) (k0 : 0 < k) (k1 : k ≤ 1000000000000000) :
    Calls Try.prog 37 #[.slice A n c, .int .i64 k] w fun e w' => Marked w lo hi 96 3 portC A (marksOf portMk 3 k n) (k + 3 * n) e w' ∧ RowsKept w w' := by
  go_enter Try.func37, Try.ntmps37
  go_wp2_with fail
  go_loopw [1, 5] (fun kk i wr => ∃ j : Nat, j ≤ n ∧ i = .int .i64 j ∧ kk = .int .i64 (k + 3 * j) ∧ Only lo hi w wr ∧ Room wr lo hi 96 3 A n ∧ Rd wr hi 3 portC A ((marksOf portMk 3 k n).take j) ∧ RowsKept w wr) (fun _ i _ => n - (intOf i).toNat)
  case atStart => exact ⟨0, Nat.zero_le _, rfl, by simp, Only.refl _ _ _, hroom, Rd.nothing, fun _ _ _ h => h⟩
  case round =>
    obtain ⟨j, hj, rfl, rfl, ho, hrm, hrd, hrk⟩ := hrel
    have Hrd := Lib.hid hrd; clear hrd
    by_cases hlt : j < n
    · obtain ⟨g, m, rfl, hl, hg, hrow, hm2⟩ := hrm (by omega)
      obtain ⟨z0, hz0⟩ := hrow.cell (j := j * 3) (by omega)
      have hf0 := hrow.frozen (j * 3)
      obtain ⟨z1, hz1⟩ := hrow.cell (j := j * 3 + 1) (by omega)
      have hf1 := hrow.frozen (j * 3 + 1)
      obtain ⟨z2, hz2⟩ := hrow.cell (j := j * 3 + 2) (by omega)
      have hf2 := hrow.frozen (j * 3 + 2)
      go_wp2_with fail
      refine ⟨⟨j + 1, by omega, by go_num, by go_num, ((ho.trans (Only.setCell (p := ⟨g, j * 3, none⟩) ⟨hl, hg⟩ _)).trans (Only.setCell (p := ⟨g, j * 3 + 1, none⟩) ⟨hl, hg⟩ _)).trans (Only.setCell (p := ⟨g, j * 3 + 2, none⟩) ⟨hl, hg⟩ _), hrm.keep (fun _ _ h => ((h.setCell _ _).setCell _ _).setCell _ _), ?_, fun _ _ _ h => (((hrk _ _ _ h).setCell _ _).setCell _ _).setCell _ _⟩, by simp [intOf]; omega⟩
      have h3 := Rd.put (k := j) (m := m) (x := portMk (k + 3 * (j : Int))) (ys := marksOf portMk 3 k n) Hrd.out hg hrow (by omega) portC_len (marksOf_at _ _ _ hlt)
      simpa [putAll, portC, portMk] using h3
    · obtain rfl : j = n := by omega
      go_wp2_with fail
      go_ret
      exact ⟨⟨rfl, ho, hrm.flat (by have := Hrd.out; rwa [List.take_of_length_le (by rw [marksOf_len]; omega)] at this) (marksOf_len _ _ _ _)⟩, hrk⟩