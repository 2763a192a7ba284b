/- DERIVED. Slices of Rider marked. By program (markflat.py). -/
import Derived.Test.YtfdnpobppelhaaaSl
import Derived.Test.YtfdnpobppelhaaaFlRider
namespace Go.Proofs.Ytfdnpobppelhaaa
set_option maxRecDepth 100000
open Go.RowKit

set_option maxHeartbeats 1000000 in
theorem markRiderS_any (A : Option Addr) (c : Nat) (xs : List (Int × Int × Int)) (k : Int) (lo hi : Nat) (w : World) (hf : Flat w lo hi 25 3 ridrC A xs) (hm : xs.length ≤ 1048576) (k0 : 0 < k) (k1 : k ≤ 1000000000000000) :
    Calls Try.prog 40 #[.slice A xs.length c, .int .i64 k] w fun e w' => e = .returned (.int .i64 (k + xs.length * 3)) ∧ Only lo hi w w' := by
  have hroom := hf.room
  clear hf
  go_enter Try.func40, Try.ntmps40
  go_wp2_with fail
  go_loopw [1, 5] (fun kk i wr => ∃ j : Nat, j ≤ xs.length ∧ i = .int .i64 j ∧ kk = .int .i64 (k + j * 3) ∧ Only lo hi w wr ∧ Room wr lo hi 25 3 A xs.length) (fun _ i _ => xs.length - (intOf i).toNat)
  case atStart => exact ⟨0, Nat.zero_le _, rfl, by simp, Only.refl _ _ _, hroom⟩
  case round =>
    obtain ⟨j, hj, rfl, rfl, ho, hrm⟩ := hrel

    by_cases hlt : j < xs.length
    · obtain ⟨g, m, rfl, hl, hg, hrow, hm2⟩ := hrm (by omega)
      have hrow1 := hrow
      have hrm1 := hrm
      have ho1 := ho
      obtain ⟨z0, hz0⟩ := hrow1.cell (j := j * 3) (by omega)
      have hf0 := hrow1.frozen (j * 3)
      obtain ⟨z1, hz1⟩ := hrow1.cell (j := j * 3 + 1) (by omega)
      have hf1 := hrow1.frozen (j * 3 + 1)
      obtain ⟨z2, hz2⟩ := hrow1.cell (j := j * 3 + 2) (by omega)
      have hf2 := hrow1.frozen (j * 3 + 2)
      go_wp2_with fail
      exact ⟨⟨j + 1, by omega, by go_num, by go_num, (((ho1).trans (Only.setCell (p := ⟨g, j * 3, none⟩) ⟨hl, hg⟩ _)).trans (Only.setCell (p := ⟨g, j * 3 + 1, none⟩) ⟨hl, hg⟩ _)).trans (Only.setCell (p := ⟨g, j * 3 + 2, none⟩) ⟨hl, hg⟩ _), hrm1.keep (fun _ _ h => (((h).setCell _ _).setCell _ _).setCell _ _)⟩, by simp [intOf]; omega⟩
    · obtain rfl : j = xs.length := by omega
      go_wp2_with fail
      go_ret
      exact ⟨rfl, ho⟩

end Go.Proofs.Ytfdnpobppelhaaa
