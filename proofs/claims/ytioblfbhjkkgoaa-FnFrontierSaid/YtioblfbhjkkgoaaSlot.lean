/- DERIVED. The parts of a slot. By program (gslot.py). -/
import Derived.Test.YtioblfbhjkkgoaaFind
import Derived.Test.YtioblfbhjkkgoaaSl
import Derived.Test.YtioblfbhjkkgoaaIdx
namespace Go.Proofs.Ytioblfbhjkkgoaa
set_option maxRecDepth 100000
open Go.RowKit

def inSlot (slot : Int) (x : PartT) : Bool := decide (x.slot = slot)
def slotR (vs : List PartT) (slot : Int) : List Int × Int := if partsB vs = true then (if inB slot 0 7 = true then (idxTo (inSlot slot) vs vs.length, 0) else ([], 2)) else ([], 1)

set_option maxHeartbeats 1000000 in
theorem l16In_any (A : Option Addr) (c : Nat) (vs : List PartT) (slot : Int) (w : World) (hr : RdV w w.heap.size A vs) (hm : vs.length ≤ 1048576) :
    Calls Try.prog 62 #[.slice A vs.length c, .int .i64 slot] w (GivesOwn w 2 1 nC (idxTo (inSlot slot) vs vs.length)) := by
  go_enter Try.func62, Try.ntmps62
  go_wp2_with fail
  go_loopw [5, 6] (fun out i wr => ∃ (k : Nat) (A' : Option Addr) (c' : Nat), k ≤ vs.length ∧ i = .int .i64 k ∧ out = .slice A' (idxTo (inSlot slot) vs k).length c' ∧ Own wr w.heap.size 2 1 nC A' c' (idxTo (inSlot slot) vs k) ∧ Below w.heap.size w wr) (fun _ i _ => vs.length - (intOf i).toNat)
  case atStart => exact ⟨0, _, _, Nat.zero_le _, rfl, rfl, Own.made _ (Nat.le_refl _) rfl, balloc _ _⟩
  case round =>
    obtain ⟨k, A', c', hk, rfl, rfl, hown, hb⟩ := hrel
    have Ho := Lib.hid hown; clear hown
    by_cases hlt : k < vs.length
    · have hx : vs[k]? = some vs[k] := List.getElem?_eq_getElem hlt
      obtain ⟨b, o, rfl⟩ := hr.addr (by omega)
      obtain ⟨hB, pA, pc, q0, q1, q2, q3, q4, _, _⟩ := (hr.below hb).cells hx
      generalize vs[k] = t at q0 q1 q2 q3 q4 hx
      have hle := idxTo_le (inSlot slot) vs k
      by_cases hs : t.slot = slot
      · have HD := Lib.hid (idxTo_yes (p := inSlot slot) hx (by simp [inSlot, hs]))
        have hss : (t.slot == slot) = true := by simp [hs]
        clear hs hx
        generalize idxTo (inSlot slot) vs k = l1 at HD Ho hle ⊢
        have hbase := hb.size
        go_wp2_with (at_builtin; refine wpList_append_el rfl _ _ _ rfl (w.heap.size) 2 (.int .i64 0) 1 8 Try.underlying47 infoInt64 rfl (by omega) (by omega) nC l1 (k : Int) A' c' rfl (Ho.out.keep (balloc _ _)) (wr.heap.size) _ rfl rfl (one_cell (by go_simp)) (by simp [nC]; rfl) (by omega) (by simp; omega) ?_)
        intro A2 c2 w4 hown4 hgr hb4
        have Ho4 := Lib.hid hown4; clear hown4
        go_wp2_with fail
        exact ⟨⟨k + 1, A2, c2, by omega, by go_num, by rw [HD.out]; simp, by rw [HD.out]; exact Ho4.out, (hb.alloc hb.size _).trans hb4⟩, by simp [intOf]; omega⟩
      · have HD := Lib.hid (idxTo_no (p := inSlot slot) hx (by simp [inSlot, hs]))
        have hss : (t.slot == slot) = false := by simp [hs]
        clear hs hx
        generalize idxTo (inSlot slot) vs k = l1 at HD Ho hle ⊢
        go_wp2_with fail
        exact ⟨⟨k + 1, A', c', by omega, by go_num, by rw [HD.out], by rw [HD.out]; exact Ho.out, hb⟩, by simp [intOf]; omega⟩
    · obtain rfl : k = vs.length := by omega
      go_wp2_with fail
      go_ret
      exact ⟨A', c', rfl, Ho.out.flat (fun _ => rfl), Ho.out.cap, hb⟩

end Go.Proofs.Ytioblfbhjkkgoaa
