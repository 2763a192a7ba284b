/- DERIVED. The parts of a slot. By program (gslot.py). -/
import Derived.Test.YtncjgebgghpigaaFind
import Derived.Test.YtncjgebgghpigaaSl
import Derived.Test.YtncjgebgghpigaaIdx
namespace Go.Proofs.Ytncjgebgghpigaa
set_option maxRecDepth 100000
open Go.RowKit

def inSlot (slot : Int) (x : PartT) : Bool := decide (x.slot = slot)
def slotR (vs : List PartT) (slot : Int) : List Int × Int := if partsB vs = true then (if inB slot 0 7 = true then (idxTo (inSlot slot) vs vs.length, 0) else ([], 2)) else ([], 1)

set_option maxHeartbeats 1000000 in
theorem l16In_any (A : Option Addr) (c : Nat) (vs : List PartT) (slot : Int) (w : World) (hr : RdV w w.heap.size A vs) (hm : vs.length ≤ 1048576) :
    Calls Try.prog 38 #[.slice A vs.length c, .int .i64 slot] w (GivesOwn w 2 1 nC (idxTo (inSlot slot) vs vs.length)) := by
  go_enter Try.func38, Try.ntmps38
  go_wp2_with fail
  go_loopw [5, 6] (fun out i wr => ∃ (k : Nat) (A' : Option Addr) (c' : Nat), k ≤ vs.length ∧ i = .int .i64 k ∧ out = .slice A' (idxTo (inSlot slot) vs k).length c' ∧ Own wr w.heap.size 2 1 nC A' c' (idxTo (inSlot slot) vs k) ∧ Below w.heap.size w wr) (fun _ i _ => vs.length - (intOf i).toNat)
  case atStart => exact ⟨0, _, _, Nat.zero_le _, rfl, rfl, Own.made _ (Nat.le_refl _) rfl, balloc _ _⟩
  case round =>
    obtain ⟨k, A', c', hk, rfl, rfl, hown, hb⟩ := hrel
    have Ho := Lib.hid hown; clear hown
    by_cases hlt : k < vs.length
    · have hx : vs[k]? = some vs[k] := List.getElem?_eq_getElem hlt
      obtain ⟨b, o, rfl⟩ := hr.addr (by omega)
      obtain ⟨hB, pA, pc, q0, q1, q2, q3, q4, _, _⟩ := (hr.below hb).cells hx
      generalize vs[k] = t at q0 q1 q2 q3 q4 hx
      have hle := idxTo_le (inSlot slot) vs k
      by_cases hs : t.slot = slot
      · have HD := Lib.hid (idxTo_yes (p := inSlot slot) hx (by simp [inSlot, hs]))
        have hss : (t.slot == slot) = true := by simp [hs]
        clear hs hx
        generalize idxTo (inSlot slot) vs k = l1 at HD Ho hle ⊢
        have hbase := hb.size
        go_wp2_with (at_builtin; refine wpList_append_el rfl _ _ _ rfl (w.heap.size) 2 (.int .i64 0) 1 8 Try.underlying39 infoInt64 rfl (by omega) (by omega) nC l1 (k : Int) A' c' rfl (Ho.out.keep (balloc _ _)) (wr.heap.size) _ rfl rfl (one_cell (by go_simp)) (by simp [nC]; rfl) (by omega) (by simp; omega) ?_)
        intro A2 c2 w4 hown4 hgr hb4
        have Ho4 := Lib.hid hown4; clear hown4
        go_wp2_with fail
        exact ⟨⟨k + 1, A2, c2, by omega, by go_num, by rw [HD.out]; simp, by rw [HD.out]; exact Ho4.out, (hb.alloc hb.size _).trans hb4⟩, by simp [intOf]; omega⟩
      · have HD := Lib.hid (idxTo_no (p := inSlot slot) hx (by simp [inSlot, hs]))
        have hss : (t.slot == slot) = false := by simp [hs]
        clear hs hx
        generalize idxTo (inSlot slot) vs k = l1 at HD Ho hle ⊢
        go_wp2_with fail
        exact ⟨⟨k + 1, A', c', by omega, by go_num, by rw [HD.out], by rw [HD.out]; exact Ho.out, hb⟩, by simp [intOf]; omega⟩
    · obtain rfl : k = vs.length := by omega
      go_wp2_with fail
      go_ret
      exact ⟨A', c', rfl, Ho.out.flat (fun _ => rfl), Ho.out.cap, hb⟩

def slotI (vs : List PartT) (slot : Int) : Int := if partsB vs = true then (if inB slot 0 7 = true then 0 else 2) else 1
theorem slotI_cases (vs : List PartT) (slot : Int) : (partsB vs = false ∧ slotI vs slot = 1 ∧ slotR vs slot = ([], 1)) ∨ (partsB vs = true ∧ inB slot 0 7 = false ∧ slotI vs slot = 2 ∧ slotR vs slot = ([], 2)) ∨ (partsB vs = true ∧ inB slot 0 7 = true ∧ slotI vs slot = 0 ∧ slotR vs slot = (idxTo (inSlot slot) vs vs.length, 0)) := by
  unfold slotI slotR
  by_cases hp : partsB vs = true
  · by_cases hn : inB slot 0 7 = true
    · exact Or.inr (Or.inr ⟨hp, hn, by rw [if_pos hp, if_pos hn], by rw [if_pos hp, if_pos hn]⟩)
    · exact Or.inr (Or.inl ⟨hp, by simpa using hn, by rw [if_pos hp, if_neg hn], by rw [if_pos hp, if_neg hn]⟩)
  · exact Or.inl ⟨by simpa using hp, by rw [if_neg hp], by rw [if_neg hp]⟩
theorem l16Slot_any (A : Option Addr) (c : Nat) (vs : List PartT) (slot : Int) (w : World) (hr : RdV w w.heap.size A vs) (hs : SmallV vs) :
    Calls Try.prog 37 #[.slice A vs.length c, .int .i64 slot] w fun e w' => e = .returned (.int .i64 (slotI vs slot)) ∧ Below w.heap.size w w' := by
  have hJ := areParts_spec A c vs w hr hs.1 hs.2
  have hI := l01In_any slot 0 7
  rcases slotI_cases vs slot with ⟨hp, e, _⟩ | ⟨hp, hn, e, _⟩ | ⟨hp, hn, e, _⟩
  all_goals
    rw [hp] at hJ
    rw [e]
    try rw [hn] at hI
    have HJ := Lib.hid hJ; clear hJ
    have HI := Lib.hid hI; clear hI
    try clear hn
    clear hp e
    go_enter Try.func37, Try.ntmps37
    go_wp2_with fail
    refine HJ.out.mono ?_
    rintro e w1 ⟨rfl, hb1⟩
    go_wp2_with (go_at_call 44; refine (HI.out _).mono ?_; rintro e w' ⟨rfl, rfl⟩)
    go_ret
    exact ⟨rfl, hb1⟩

set_option maxHeartbeats 1000000 in
theorem PartsInSlot_impl (A : Option Addr) (c : Nat) (vs : List PartT) (slot : Int) (w : World) (hr : RdV w w.heap.size A vs) (hs : SmallV vs) :
    Calls Try.prog 17 #[.slice A vs.length c, .int .i64 slot] w (GivesRes w 2 1 nC (slotR vs slot)) := by
  have hJ := areParts_impl A c vs w hr hs.1 hs.2
  have hI := isSlot_any slot
  have hm := hs.1
  clear hs
  rcases slotI_cases vs slot with ⟨hp, _, e⟩ | ⟨hp, hn, _, e⟩ | ⟨hp, hn, _, e⟩
  · rw [hp] at hJ
    have HF := Lib.hid e; clear e hp hI
    generalize slotR vs slot = R at HF ⊢
    have HJ := Lib.hid hJ; clear hJ
    go_enter Try.func17, Try.ntmps17
    go_wp2_with fail
    refine HJ.out.mono ?_
    rintro e w1 ⟨rfl, hb1⟩
    go_wp2_with fail
    go_ret2
    exact ⟨none, 0, by rw [HF.out]; rfl, by rw [HF.out]; exact flat_nil, by rw [HF.out]; exact Nat.le_refl _, hb1⟩
  · rw [hp] at hJ
    rw [hn] at hI
    have HF := Lib.hid e; clear e hp hn
    generalize slotR vs slot = R at HF ⊢
    have HJ := Lib.hid hJ; clear hJ
    have HI := Lib.hid hI; clear hI
    go_enter Try.func17, Try.ntmps17
    go_wp2_with fail
    refine HJ.out.mono ?_
    rintro e w1 ⟨rfl, hb1⟩
    go_wp2_with (go_at_call 36; refine (HI.out _).mono ?_; rintro e w' ⟨rfl, rfl⟩)
    go_ret2
    exact ⟨none, 0, by rw [HF.out]; rfl, by rw [HF.out]; exact flat_nil, by rw [HF.out]; exact Nat.le_refl _, hb1⟩
  · rw [hp] at hJ
    rw [hn] at hI
    have HF := Lib.hid e; clear e hp hn
    generalize slotR vs slot = R at HF ⊢
    have HJ := Lib.hid hJ; clear hJ
    have HI := Lib.hid hI; clear hI
    go_enter Try.func17, Try.ntmps17
    go_wp2_with fail
    refine HJ.out.mono ?_
    rintro e w1 ⟨rfl, hb1⟩
    go_wp2_with (go_at_call 36; refine (HI.out _).mono ?_; rintro e w' ⟨rfl, rfl⟩)
    go_loopw [6, 17] (fun out i wr => ∃ (k : Nat) (A' : Option Addr) (c' : Nat), k ≤ vs.length ∧ i = .int .i64 k ∧ out = .slice A' (idxTo (inSlot slot) vs k).length c' ∧ Own wr w.heap.size 2 1 nC A' c' (idxTo (inSlot slot) vs k) ∧ Below w.heap.size w wr) (fun _ i _ => vs.length - (intOf i).toNat)
    case atStart => exact ⟨0, _, _, Nat.zero_le _, rfl, rfl, Own.nil, hb1⟩
    case round =>
      obtain ⟨k, A', c', hk, rfl, rfl, hown, hb⟩ := hrel
      have Ho := Lib.hid hown; clear hown
      by_cases hlt : k < vs.length
      · have hx : vs[k]? = some vs[k] := List.getElem?_eq_getElem hlt
        obtain ⟨b, o, rfl⟩ := hr.addr (by omega)
        obtain ⟨hB, pA, pc, q0, q1, q2, q3, q4, _, _⟩ := (hr.below hb).cells hx
        generalize vs[k] = t at q0 q1 q2 q3 q4 hx
        have hle := idxTo_le (inSlot slot) vs k
        by_cases hs : t.slot = slot
        · have HD := Lib.hid (idxTo_yes (p := inSlot slot) hx (by simp [inSlot, hs]))
          have hss : (t.slot == slot) = true := by simp [hs]
          clear hs hx
          generalize idxTo (inSlot slot) vs k = l1 at HD Ho hle ⊢
          have hbase := hb.size
          go_wp2_with (at_builtin; refine wpList_append_el rfl _ _ _ rfl (w.heap.size) 2 (.int .i64 0) 1 8 Try.underlying39 infoInt64 rfl (by omega) (by omega) nC l1 (k : Int) A' c' rfl ((Ho.out.keep (balloc _ (.cells #[.string t.code, .int .i64 t.slot, .slice pA t.ports.length pc, .int .i64 t.price, .int .i64 t.grams] 27))).keep (balloc _ _)) (wr.heap.size + 1) _ rfl rfl (one_cell (by go_simp)) (by simp [nC]; rfl) (by omega) (by simp; omega) ?_)
          intro A2 c2 w4 hown4 hgr hb4
          have Ho4 := Lib.hid hown4; clear hown4
          go_wp2_with fail
          exact ⟨⟨k + 1, A2, c2, by omega, by go_num, by rw [HD.out]; simp, by rw [HD.out]; exact Ho4.out, ((hb.alloc hb.size _).alloc (hb.alloc hb.size _).size _).trans hb4⟩, by simp [intOf]; omega⟩
        · have HD := Lib.hid (idxTo_no (p := inSlot slot) hx (by simp [inSlot, hs]))
          have hss : (t.slot == slot) = false := by simp [hs]
          clear hs hx
          generalize idxTo (inSlot slot) vs k = l1 at HD Ho hle ⊢
          go_wp2_with fail
          exact ⟨⟨k + 1, A', c', by omega, by go_num, by rw [HD.out], by rw [HD.out]; exact (Ho.out.keep (balloc _ (.cells #[.string t.code, .int .i64 t.slot, .slice pA t.ports.length pc, .int .i64 t.price, .int .i64 t.grams] 27))), (hb.alloc hb.size _)⟩, by simp [intOf]; omega⟩
      · obtain rfl : k = vs.length := by omega
        go_wp2_with fail
        go_ret2
        exact ⟨A', c', by rw [HF.out]; rfl, by rw [HF.out]; exact Ho.out.flat (fun _ => rfl), by rw [HF.out]; exact Ho.out.cap, hb⟩

theorem PartsInSlot_spec (A : Option Addr) (c : Nat) (vs : List PartT) (slot : Int) (w : World) (hr : RdV w w.heap.size A vs) (hs : SmallV vs) :
    Calls Try.prog 18 #[.slice A vs.length c, .int .i64 slot] w (GivesRes w 2 1 nC (slotR vs slot)) := by
  have hJ := l16Slot_any A c vs slot w hr hs
  have hm := hs.1
  clear hs
  rcases slotI_cases vs slot with ⟨_, ei, e⟩ | ⟨_, _, ei, e⟩ | ⟨_, _, ei, e⟩
  · rw [ei] at hJ
    have HF := Lib.hid e; clear e ei
    generalize slotR vs slot = R at HF ⊢
    have HJ := Lib.hid hJ; clear hJ
    go_enter Try.func18, Try.ntmps18
    go_wp2_with fail
    refine HJ.out.mono ?_
    rintro e w1 ⟨rfl, hb1⟩
    go_wp2_with fail
    go_ret2
    exact ⟨none, 0, by rw [HF.out]; rfl, by rw [HF.out]; exact flat_nil, by rw [HF.out]; exact Nat.le_refl _, hb1⟩
  · rw [ei] at hJ
    have HF := Lib.hid e; clear e ei
    generalize slotR vs slot = R at HF ⊢
    have HJ := Lib.hid hJ; clear hJ
    go_enter Try.func18, Try.ntmps18
    go_wp2_with fail
    refine HJ.out.mono ?_
    rintro e w1 ⟨rfl, hb1⟩
    go_wp2_with fail
    go_ret2
    exact ⟨none, 0, by rw [HF.out]; rfl, by rw [HF.out]; exact flat_nil, by rw [HF.out]; exact Nat.le_refl _, hb1⟩
  · rw [ei] at hJ
    have HF := Lib.hid e; clear e ei
    generalize slotR vs slot = R at HF ⊢
    have HJ := Lib.hid hJ; clear hJ
    have HI : Hid (∀ v : World, RdV v v.heap.size A vs → Calls Try.prog 38 #[.slice A vs.length c, .int .i64 slot] v (GivesOwn v 2 1 nC (idxTo (inSlot slot) vs vs.length))) := fun v hv => l16In_any A c vs slot v hv hm
    generalize idxTo (inSlot slot) vs vs.length = L at HF HI
    go_enter Try.func18, Try.ntmps18
    go_wp2_with fail
    refine HJ.out.mono ?_
    rintro e w1 ⟨rfl, hb1⟩
    go_wp2_with fail
    refine (HI.out w1 (hr.next hb1)).mono ?_
    rintro e w2 ⟨A2, c2, rfl, hf2, hc2, hb2⟩
    go_wp2_with fail
    go_ret2
    have hs1 := hb1.size
    exact ⟨A2, c2, by rw [HF.out]; rfl, by rw [HF.out]; exact hf2.mono hs1 (Nat.le_refl _), by rw [HF.out]; exact hc2, bthen hb1 hb2⟩

end Go.Proofs.Ytncjgebgghpigaa
