/- DERIVED. Slices of Size marked. By program (markflat.py). -/
import Derived.Test.YtfdnpobppelhaaaSl
import Derived.Test.YtfdnpobppelhaaaFlSize
namespace Go.Proofs.Ytfdnpobppelhaaa
set_option maxRecDepth 100000
open Go.RowKit

set_option maxHeartbeats 1000000 in
theorem markSizeS_any (A : Option Addr) (c : Nat) (xs : List (ByteArray × Int × Int × Int)) (k : Int) (lo hi : Nat) (w : World) (hf : Flat w lo hi 27 4 sizeC A xs) (hm : xs.length ≤ 1048576) (k0 : 0 < k) (k1 : k ≤ 1000000000000000) :
    Calls Try.prog 41 #[.slice A xs.length c, .int .i64 k] w fun e w' => e = .returned (.int .i64 (k + xs.length * 4)) ∧ Only lo hi w w' := by
  have hroom := hf.room
  clear hf
  go_enter Try.func41, Try.ntmps41
  go_wp2_with fail
  go_loopw [1, 5] (fun kk i wr => ∃ j : Nat, j ≤ xs.length ∧ i = .int .i64 j ∧ kk = .int .i64 (k + j * 4) ∧ Only lo hi w wr ∧ Room wr lo hi 27 4 A xs.length) (fun _ i _ => xs.length - (intOf i).toNat)
  case atStart => exact ⟨0, Nat.zero_le _, rfl, by simp, Only.refl _ _ _, hroom⟩
  case round =>
    obtain ⟨j, hj, rfl, rfl, ho, hrm⟩ := hrel

    by_cases hlt : j < xs.length
    · obtain ⟨g, m, rfl, hl, hg, hrow, hm2⟩ := hrm (by omega)
      go_wp2_with fail
      refine (markText_any _ (by omega) (by omega) _).mono ?_
      rintro e w1 ⟨rfl, hb1⟩
      have hrow1 := hrow.next hb1
      have hrm1 := hrm.keep (fun _ _ h => h.next hb1)
      have ho1 := ho.trans (Only.of_below (lo := lo) (hi := hi) hb1)
      obtain ⟨z0, hz0⟩ := hrow1.cell (j := j * 4) (by omega)
      have hf0 := hrow1.frozen (j * 4)
      obtain ⟨z1, hz1⟩ := hrow1.cell (j := j * 4 + 1) (by omega)
      have hf1 := hrow1.frozen (j * 4 + 1)
      obtain ⟨z2, hz2⟩ := hrow1.cell (j := j * 4 + 2) (by omega)
      have hf2 := hrow1.frozen (j * 4 + 2)
      obtain ⟨z3, hz3⟩ := hrow1.cell (j := j * 4 + 3) (by omega)
      have hf3 := hrow1.frozen (j * 4 + 3)
      go_wp2_with fail
      exact ⟨⟨j + 1, by omega, by go_num, by go_num, ((((ho1).trans (Only.setCell (p := ⟨g, j * 4, none⟩) ⟨hl, hg⟩ _)).trans (Only.setCell (p := ⟨g, j * 4 + 1, none⟩) ⟨hl, hg⟩ _)).trans (Only.setCell (p := ⟨g, j * 4 + 2, none⟩) ⟨hl, hg⟩ _)).trans (Only.setCell (p := ⟨g, j * 4 + 3, none⟩) ⟨hl, hg⟩ _), hrm1.keep (fun _ _ h => ((((h).setCell _ _).setCell _ _).setCell _ _).setCell _ _)⟩, by simp [intOf]; omega⟩
    · obtain rfl : j = xs.length := by omega
      go_wp2_with fail
      go_ret
      exact ⟨rfl, ho⟩

end Go.Proofs.Ytfdnpobppelhaaa
