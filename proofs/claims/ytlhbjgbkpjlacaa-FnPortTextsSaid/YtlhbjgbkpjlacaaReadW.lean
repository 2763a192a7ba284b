/- DERIVED. Texts split: the walks. -/
import Derived.Test.YtlhbjgbkpjlacaaRead
import Derived.Test.YtlhbjgbkpjlacaaIdx
import Derived.Test.YtlhbjgbkpjlacaaWord
import Derived.Test.YtlhbjgbkpjlacaaMark
namespace Go.Proofs.Ytlhbjgbkpjlacaa
set_option maxRecDepth 100000
open Go.RowKit

set_option maxHeartbeats 1000000 in
theorem splitAt_any (s : ByteArray) (b : UInt8) (bn : Int) (hbn : bn = (b.toNat : Int)) (hs : s.size ≤ 1048576) (w : World) :
    Calls Try.prog 85 #[.string s, .int .u8 bn] w (GivesOwn w 9 1 tC (splitT s b)) := by
  subst hbn
  go_enter Try.func85, Try.ntmps85
  go_wp2_with fail
  go_loopw [5, 6, 7] (fun out f i wr => ∃ (A' : Option Addr) (c' : Nat) (outs : List ByteArray) (fr k : Nat), k ≤ s.size ∧ out = .slice A' outs.length c' ∧ f = .int .i64 fr ∧ i = .int .i64 k ∧ SplitAt s b outs fr k ∧ Own wr w.heap.size 9 1 tC A' c' outs ∧ Below w.heap.size w wr) (fun _ _ i _ => s.size - (intOf i).toNat)
  case atStart => exact ⟨none, 0, [], 0, 0, Nat.zero_le _, rfl, rfl, rfl, SplitAt.zero s b, Own.nil, Below.refl _ _⟩
  case round =>
    obtain ⟨A', c', outs, fr, k, hk, rfl, rfl, rfl, hsp, hown, hb⟩ := hrel
    have hfk := hsp.le
    have hol := hsp.len
    have hbs := hb.size
    have HO := Lib.hid hown; clear hown
    by_cases hlt : k < s.size
    · by_cases hc : s[k] = b
      · have HS := Lib.hid (hsp.hit hlt hc); clear hsp
        have hcc : ((s[k].toNat : Int) == (b.toNat : Int)) = true := by rw [hc]; simp
        clear hc
        go_wp2_with (at_builtin; refine wpList_append_el rfl _ _ _ rfl (w.heap.size) 9 (.string ⟨#[]⟩) 1 16 Try.underlying58 infoString rfl (by omega) (by omega) tC outs (s.extract fr k) A' c' rfl (HO.out.keep (balloc _ _)) (wr.heap.size) _ rfl rfl (one_cell (by go_simp)) (by simp [tC]; rfl) (by omega) (by simp; omega) ?_)
        intro A2 c2 w4 hown4 _ hb4
        have HO4 := Lib.hid hown4; clear hown4
        go_wp2_with fail
        exact ⟨⟨A2, c2, outs ++ [s.extract fr k], k + 1, k + 1, by omega, by simp, by go_num, by go_num, HS.out, HO4.out, (hb.trans (balloc _ _ |>.mono hbs)).trans hb4⟩, by simp [intOf]; omega⟩
      · have HS := Lib.hid (hsp.no_hit hlt hc); clear hsp
        have hcc : ((s[k].toNat : Int) == (b.toNat : Int)) = false := by simp; intro e; exact hc (UInt8.toNat_inj.1 (by omega))
        clear hc
        go_wp2_with fail
        exact ⟨⟨A', c', outs, fr, k + 1, by omega, rfl, rfl, by go_num, HS.out, HO.out, hb⟩, by simp [intOf]; omega⟩
    · obtain rfl : k = s.size := by omega
      have HS := Lib.hid hsp.done; clear hsp
      go_wp2_with (at_builtin; refine wpList_append_el rfl _ _ _ rfl (w.heap.size) 9 (.string ⟨#[]⟩) 1 16 Try.underlying58 infoString rfl (by omega) (by omega) tC outs (s.extract fr s.size) A' c' rfl (HO.out.keep (balloc _ _)) (wr.heap.size) _ rfl rfl (one_cell (by go_simp)) (by simp [tC]; rfl) (by omega) (by simp; omega) ?_)
      intro A2 c2 w4 hown4 _ hb4
      have HO4 := Lib.hid hown4; clear hown4
      go_wp2_with fail
      go_ret
      rw [← HS.out]
      exact ⟨A2, c2, by simp, (HO4.out.flat fun _ => rfl), HO4.out.cap, (hb.trans (balloc _ _ |>.mono hbs)).trans hb4⟩
end Go.Proofs.Ytlhbjgbkpjlacaa
