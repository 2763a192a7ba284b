/- DERIVED. Tubes turned, in the program and in the reference. By program (gturn.py). -/
import Derived.Test.YtmhaloigcpanpaaTubes
import Derived.Test.YtmhaloigcpanpaaOwn2
import Derived.Test.YtmhaloigcpanpaaIdx
import Derived.StillTailTactics
namespace Go.Proofs.Ytmhaloigcpanpaa
set_option maxRecDepth 100000
open Go.RowKit

def rotT (t : Int × Int) : Int × Int := (-t.2, t.1)
def rotN : Nat → Int × Int → Int × Int
  | 0, t => t
  | n + 1, t => rotT (rotN n t)
theorem rotN_bd {t : Int × Int} (h : okTube t = true) : ∀ n, -2000 ≤ (rotN n t).1 ∧ (rotN n t).1 ≤ 2000 ∧ -2000 ≤ (rotN n t).2 ∧ (rotN n t).2 ≤ 2000
  | 0 => by
    unfold okTube at h
    simp only [Bool.and_eq_true] at h
    have h1 := inB_true h.1.1
    have h2 := inB_true h.1.2
    simp only [rotN]
    omega
  | n + 1 => by
    have := rotN_bd h n
    simp only [rotN, rotT]
    omega
def turnR (xs : List (Int × Int)) (q : Int) : List (Int × Int) × Int := if tubesB xs = true then (if inB q 0 3 = true then (xs.map (rotN q.toNat), 0) else ([], 2)) else ([], 1)
theorem tubesB_ok {xs : List (Int × Int)} (h : tubesB xs = true) : 3 ≤ xs.length ∧ xs.length ≤ 8 ∧ ∀ x ∈ xs, okTube x = true := by
  unfold tubesB at h
  simp only [Bool.and_eq_true, decide_eq_true_eq] at h
  exact ⟨h.1.1, h.1.2, fun x hx => List.all_eq_true.1 h.2 x hx⟩
theorem turnR_small (xs : List (Int × Int)) (q : Int) : (turnR xs q).1.length ≤ 1048576 := by
  unfold turnR
  split
  · rename_i h
    have := (tubesB_ok h).2.1
    split
    · simp only [List.length_map]; omega
    · simp
  · simp
/-- Tubes of which the first j have been turned once more than the others. -/
def TurnSt (w : World) (g : Nat) (xs : List (Int × Int)) (s j : Nat) : Prop :=
  (∃ m, Row w g 100 m ∧ xs.length * 2 ≤ m) ∧ ∀ (k : Nat) (x : Int × Int), xs[k]? = some x → w.cell? ⟨g, k * 2, none⟩ = some (.int .i64 (rotN (if k < j then s + 1 else s) x).1) ∧ w.cell? ⟨g, k * 2 + 1, none⟩ = some (.int .i64 (rotN (if k < j then s + 1 else s) x).2)
section
variable {w w' : World} {g : Nat} {xs : List (Int × Int)} {s j : Nat}
theorem TurnSt.keep (h : TurnSt w g xs s j) (hb : w'.heap[g]? = w.heap[g]?) : TurnSt w' g xs s j := by
  obtain ⟨⟨m, h1, h2⟩, h3⟩ := h
  exact ⟨⟨m, h1.kept hb, h2⟩, fun k x hk => ⟨(World.cell?_of_block (a := ⟨g, _, none⟩) hb).trans (h3 k x hk).1, (World.cell?_of_block (a := ⟨g, _, none⟩) hb).trans (h3 k x hk).2⟩⟩
theorem TurnSt.lt (h : TurnSt w g xs s j) : g < w.heap.size := by
  obtain ⟨⟨m, h1, h2⟩, h3⟩ := h
  exact h1.lt
theorem TurnSt.next (h : TurnSt w g xs s j) (hb : Below w.heap.size w w') : TurnSt w' g xs s j := h.keep (hb.block g h.lt)
theorem TurnSt.turn (h : TurnSt w g xs s j) (hj : xs.length ≤ j) : TurnSt w g xs (s + 1) 0 :=
  ⟨h.1, fun k x hk => by
    have := h.2 k x hk
    rw [if_pos (by have := (List.getElem?_eq_some_iff.1 hk).1; omega)] at this
    rw [if_neg (by omega)]
    exact this⟩
theorem TurnSt.here {x : Int × Int} (h : TurnSt w g xs s j) (hx : xs[j]? = some x) : w.cell? ⟨g, j * 2, none⟩ = some (.int .i64 (rotN s x).1) ∧ w.cell? ⟨g, j * 2 + 1, none⟩ = some (.int .i64 (rotN s x).2) := by
  have := h.2 j x hx
  rw [if_neg (by omega)] at this
  exact this
theorem TurnSt.frozen (h : TurnSt w g xs s j) (o : Nat) : w.frozen? ⟨g, o, none⟩ = false := by
  obtain ⟨⟨m, h1, h2⟩, h3⟩ := h
  exact h1.frozen o
theorem TurnSt.put {x : Int × Int} (h : TurnSt w g xs s j) (hx : xs[j]? = some x) : TurnSt ((w.setCell ⟨g, j * 2, none⟩ (.int .i64 (-(rotN s x).2))).setCell ⟨g, j * 2 + 1, none⟩ (.int .i64 (rotN s x).1)) g xs s (j + 1) := by
  obtain ⟨z0, z1⟩ := h.here hx
  obtain ⟨⟨m, h1, h2⟩, h3⟩ := h
  refine ⟨⟨m, (h1.setCell _ _).setCell _ _, h2⟩, fun k y hk => ?_⟩
  by_cases e : k = j
  · subst e
    obtain rfl : x = y := by
      rw [hx] at hk
      exact Option.some.inj hk
    rw [if_pos (by omega)]
    constructor
    · rw [setCell_other (by omega)]
      exact setCell_same z0
    · exact setCell_same (v := .int .i64 (rotN s x).2) (by rw [setCell_other (by omega)]; exact z1)
  · have := h3 k y hk
    rw [setCell_other (by omega), setCell_other (by omega), setCell_other (by omega), setCell_other (by omega)]
    by_cases e2 : k < j
    · rw [if_pos e2] at this
      rw [if_pos (by omega)]
      exact this
    · rw [if_neg e2] at this
      rw [if_neg (by omega)]
      exact this
theorem TurnSt.flat {lo : Nat} (h : TurnSt w g xs s 0) (hl : lo ≤ g) : Flat w lo w.heap.size 100 2 tubeC (some ⟨g, 0, none⟩) (xs.map (rotN s)) := fun _ => by
  have hlt := h.lt
  obtain ⟨⟨m, h1, h2⟩, h3⟩ := h
  refine ⟨g, m, rfl, hl, hlt, h1, by rw [List.length_map]; exact h2, fun k x hk i v hi => ?_⟩
  rw [List.getElem?_map, Option.map_eq_some_iff] at hk
  obtain ⟨y, hy, rfl⟩ := hk
  have := h3 k y hy
  rw [if_neg (by omega)] at this
  match i with
  | 0 =>
    obtain rfl : Value.int .i64 (rotN s y).1 = v := by simpa [tubeC] using hi
    exact this.1
  | 1 =>
    obtain rfl : Value.int .i64 (rotN s y).2 = v := by simpa [tubeC] using hi
    exact this.2
  | i + 2 => simp [tubeC] at hi
end
theorem TurnSt.start {w : World} {lo hi g : Nat} {xs : List (Int × Int)} (h : Flat w lo hi 100 2 tubeC (some ⟨g, 0, none⟩) xs) (hp : 0 < xs.length) : TurnSt w g xs 0 0 := by
  obtain ⟨g', m, e, _, _, h1, h2, hc⟩ := h hp
  simp only [Option.some.injEq, Addr.mk.injEq] at e
  obtain ⟨rfl, _⟩ := e
  refine ⟨⟨m, h1, h2⟩, fun k x hk => ?_⟩
  rw [if_neg (by omega)]
  exact ⟨hc k x hk 0 _ rfl, hc k x hk 1 _ rfl⟩
theorem tubeC_one (t : Int × Int) : ∀ u ∈ tubeC t, u.oneCell' = true := fun u hu => by
  simp only [tubeC, List.mem_cons, List.not_mem_nil, or_false] at hu
  rcases hu with rfl | rfl <;> rfl

set_option maxHeartbeats 2000000 in
theorem TurnTubes_impl (A : Option Addr) (c : Nat) (xs : List (Int × Int)) (q : Int) (hq : -9223372036854775808 ≤ q ∧ q ≤ 9223372036854775807) (w : World) (hr : Rd w w.heap.size 2 tubeC A xs) (hm : xs.length ≤ 1048576) :
    Calls Try.prog 14 #[.slice A xs.length c, .int .i64 q] w (GivesRes w 100 2 tubeC (turnR xs q)) := by
  have hJ := areTubes_impl A c xs w hr hm
  have hI := within_any q 0 3
  by_cases ht : tubesB xs = true
  · obtain ⟨hx3, hx8, hok⟩ := tubesB_ok ht
    have Hok := Lib.hid hok; clear hok
    rw [ht] at hJ
    have HJ := Lib.hid hJ; clear hJ
    by_cases hi : inB q 0 3 = true
    · obtain ⟨q0, q3⟩ := inB_true hi
      rw [hi] at hI
      have HI := Lib.hid hI; clear hI
      have HR : Hid (turnR xs q = (xs.map (rotN q.toNat), 0)) := by unfold Hid turnR; rw [if_pos ht, if_pos hi]
      clear ht hi
      generalize turnR xs q = R at HR ⊢
      obtain ⟨n, rfl⟩ := Int.eq_ofNat_of_zero_le q0
      have HR2 : Hid (R = (xs.map (rotN n), 0)) := by unfold Hid; rw [HR.out, Int.toNat_natCast]
      clear HR
      go_enter Try.func14, Try.ntmps14
      go_wp2_with fail
      refine HJ.out.mono ?_
      rintro e w1 ⟨rfl, hb1⟩
      have hrd : Rd (w1.alloc (.cells #[] 100)) (w1.alloc (.cells #[] 100)).heap.size 2 tubeC A xs := (hr.next hb1).next (balloc _ _)
      have hs1 := hb1.size
      go_wp2_with (first | (go_at_call 82; refine (HI.out _).mono ?_; rintro e w' ⟨rfl, rfl⟩) | (at_builtin; refine wpList_append_slice rfl _ _ _ rfl (w.heap.size) 100 (.agg #[.int .i64 0, .int .i64 0]) 2 16 Try.underlying24 infoTube rfl (by omega) (by omega) tubeC [] xs (some ⟨w1.heap.size, 0, none⟩) 0 rfl (Own.made _ (by omega) rfl) A c _ rfl hrd tubeC_len tubeC_one (by simp; omega) (by simp <;> omega) ?_))
      intro A3 c3 w3 hown3 hb3 hfar3
      have hc3 := hown3.cap
      obtain ⟨g, m, rfl, hg1, hg2, hrow3, hml, _⟩ := hown3.flat tubeC_len (by omega)
      have hst : TurnSt w3 g xs 0 0 := TurnSt.start (hown3.flat tubeC_len) (by omega)
      have hb03 : Below w.heap.size w w3 := (bthen hb1 (balloc w1 _)).trans hb3
      have Hst := Lib.hid hst; clear hst hown3 hfar3 hb3 hrow3 hml hrd hr
      go_wp2_with fail
      go_loopw [1] (fun r wr => ∃ k : Nat, k ≤ n ∧ r = .int .i64 ((n : Int) - k) ∧ TurnSt wr g xs k 0 ∧ Below w.heap.size w wr) (fun r _ => (intOf r).toNat)
      case atStart => exact ⟨0, Nat.zero_le _, by simp, Hst.out, hb03⟩
      case round =>
        obtain ⟨k, hk, rfl, hst, hb⟩ := hrel
        have Hst2 := Lib.hid hst; clear hst Hst
        by_cases hlt : k < n
        · go_wp2_with fail
          go_loopw [24] (fun i wr => ∃ j : Nat, j ≤ xs.length ∧ i = .int .i64 j ∧ TurnSt wr g xs k j ∧ Below w.heap.size w wr) (fun i _ => xs.length - (intOf i).toNat)
          case atStart => exact ⟨0, Nat.zero_le _, rfl, Hst2.out, hb⟩
          case round =>
            obtain ⟨j, hj, rfl, hst, hb4⟩ := hrel
            have Hst4 := Lib.hid hst; clear hst
            by_cases hjl : j < xs.length
            · have hx : xs[j]? = some xs[j] := List.getElem?_eq_getElem hjl
              have hbd := rotN_bd (Hok.out _ (List.mem_of_getElem? hx)) k
              obtain ⟨z0, z1⟩ := Hst4.out.here hx
              have f0 := Hst4.out.frozen (j * 2)
              have f1 := Hst4.out.frozen (j * 2 + 1)
              have hgl := Hst4.out.lt
              have HP := Lib.hid (Hst4.out.put hx)
              generalize rotN k xs[j] = t at hbd z0 z1 HP
              obtain ⟨p, r⟩ := t
              simp only at hbd z0 z1 HP
              obtain ⟨d0, d1, d2, d3⟩ := hbd
              clear hx
              go_wp2_with fail
              have hbn := (hb4.setCell (p := ⟨g, j * 2, none⟩) (by omega) (.int .i64 (-r))).setCell (p := ⟨g, j * 2 + 1, none⟩) (by omega) (.int .i64 p)
              exact ⟨⟨j + 1, by omega, by go_num, HP.out.next (balloc _ _), hbn.alloc hbn.size _⟩, by simp [intOf]; omega⟩
            · have HT := Lib.hid (Hst4.out.turn (by omega))
              go_wp2_with fail
              exact ⟨⟨k + 1, by omega, by simp; omega, HT.out, hb4⟩, by simp [intOf]; omega⟩
        · obtain rfl : k = n := by omega
          go_wp2_with fail
          go_ret2
          exact ⟨some ⟨g, 0, none⟩, c3, by rw [HR2.out, List.length_map]; rfl, by rw [HR2.out]; exact Hst2.out.flat hg1, by rw [HR2.out, List.length_map]; exact hc3, hb⟩
    · have hi' : inB q 0 3 = false := by simpa using hi
      rw [hi'] at hI
      have HI := Lib.hid hI; clear hI
      have HR : Hid (turnR xs q = ([], 2)) := by unfold Hid turnR; rw [if_pos ht, if_neg hi]
      clear ht hi hi'
      generalize turnR xs q = R at HR ⊢
      go_enter Try.func14, Try.ntmps14
      go_wp2_with fail
      refine HJ.out.mono ?_
      rintro e w1 ⟨rfl, hb1⟩
      go_wp2_with (go_at_call 82; refine (HI.out _).mono ?_; rintro e w' ⟨rfl, rfl⟩)
      go_ret2
      exact ⟨none, 0, by rw [HR.out]; rfl, by rw [HR.out]; exact flat_nil, by rw [HR.out]; exact Nat.le_refl _, hb1⟩
  · have ht' : tubesB xs = false := by simpa using ht
    rw [ht'] at hJ
    have HJ := Lib.hid hJ; clear hJ hI
    have HR : Hid (turnR xs q = ([], 1)) := by unfold Hid turnR; rw [if_neg ht]
    clear ht ht'
    generalize turnR xs q = R at HR ⊢
    go_enter Try.func14, Try.ntmps14
    go_wp2_with fail
    refine HJ.out.mono ?_
    rintro e w1 ⟨rfl, hb1⟩
    go_wp2_with fail
    go_ret2
    exact ⟨none, 0, by rw [HR.out]; rfl, by rw [HR.out]; exact flat_nil, by rw [HR.out]; exact Nat.le_refl _, hb1⟩

set_option maxHeartbeats 2000000 in
theorem TurnTubes_spec (A : Option Addr) (c : Nat) (xs : List (Int × Int)) (q : Int) (hq : -9223372036854775808 ≤ q ∧ q ≤ 9223372036854775807) (w : World) (hr : Rd w w.heap.size 2 tubeC A xs) (hm : xs.length ≤ 1048576) :
    Calls Try.prog 12 #[.slice A xs.length c, .int .i64 q] w (GivesRes w 100 2 tubeC (turnR xs q)) := by
  have hJ := areTubes_spec A c xs w hr hm
  have hI := l01In_any q 0 3
  by_cases ht : tubesB xs = true
  · obtain ⟨hx3, hx8, hok⟩ := tubesB_ok ht
    have Hok := Lib.hid hok; clear hok
    rw [ht] at hJ
    have HJ := Lib.hid hJ; clear hJ
    by_cases hi : inB q 0 3 = true
    · obtain ⟨q0, q3⟩ := inB_true hi
      rw [hi] at hI
      have HI := Lib.hid hI; clear hI
      have HR : Hid (turnR xs q = (xs.map (rotN q.toNat), 0)) := by unfold Hid turnR; rw [if_pos ht, if_pos hi]
      clear ht hi
      generalize turnR xs q = R at HR ⊢
      obtain ⟨n, rfl⟩ := Int.eq_ofNat_of_zero_le q0
      have HR2 : Hid (R = (xs.map (rotN n), 0)) := by unfold Hid; rw [HR.out, Int.toNat_natCast]
      clear HR
      go_enter Try.func12, Try.ntmps12
      go_wp2_with fail
      refine HJ.out.mono ?_
      rintro e w1 ⟨rfl, hb1⟩
      have hrd : Rd (w1.alloc (.cells #[] 100)) (w1.alloc (.cells #[] 100)).heap.size 2 tubeC A xs := (hr.next hb1).next (balloc _ _)
      have hs1 := hb1.size
      go_wp2_with (first | (go_at_call 79; refine (HI.out _).mono ?_; rintro e w' ⟨rfl, rfl⟩) | (at_builtin; refine wpList_append_slice rfl _ _ _ rfl (w.heap.size) 100 (.agg #[.int .i64 0, .int .i64 0]) 2 16 Try.underlying24 infoTube rfl (by omega) (by omega) tubeC [] xs (some ⟨w1.heap.size, 0, none⟩) 0 rfl (Own.made _ (by omega) rfl) A c _ rfl hrd tubeC_len tubeC_one (by simp; omega) (by simp <;> omega) ?_))
      intro A3 c3 w3 hown3 hb3 hfar3
      have hc3 := hown3.cap
      obtain ⟨g, m, rfl, hg1, hg2, hrow3, hml, _⟩ := hown3.flat tubeC_len (by omega)
      have hst : TurnSt w3 g xs 0 0 := TurnSt.start (hown3.flat tubeC_len) (by omega)
      have hb03 : Below w.heap.size w w3 := (bthen hb1 (balloc w1 _)).trans hb3
      have Hst := Lib.hid hst; clear hst hown3 hfar3 hb3 hrow3 hml hrd hr
      go_wp2_with fail
      go_loopw [1] (fun r wr => ∃ k : Nat, k ≤ n ∧ r = .int .i64 ((n : Int) - k) ∧ TurnSt wr g xs k 0 ∧ Below w.heap.size w wr) (fun r _ => (intOf r).toNat)
      case atStart => exact ⟨0, Nat.zero_le _, by simp, Hst.out, hb03⟩
      case round =>
        obtain ⟨k, hk, rfl, hst, hb⟩ := hrel
        have Hst2 := Lib.hid hst; clear hst Hst
        by_cases hlt : k < n
        · go_wp2_with fail
          go_loopw [7] (fun i wr => ∃ j : Nat, j ≤ xs.length ∧ i = .int .i64 j ∧ TurnSt wr g xs k j ∧ Below w.heap.size w wr) (fun i _ => xs.length - (intOf i).toNat)
          case atStart => exact ⟨0, Nat.zero_le _, rfl, Hst2.out, hb⟩
          case round =>
            obtain ⟨j, hj, rfl, hst, hb4⟩ := hrel
            have Hst4 := Lib.hid hst; clear hst
            by_cases hjl : j < xs.length
            · have hx : xs[j]? = some xs[j] := List.getElem?_eq_getElem hjl
              have hbd := rotN_bd (Hok.out _ (List.mem_of_getElem? hx)) k
              obtain ⟨z0, z1⟩ := Hst4.out.here hx
              have f0 := Hst4.out.frozen (j * 2)
              have f1 := Hst4.out.frozen (j * 2 + 1)
              have hgl := Hst4.out.lt
              have HP := Lib.hid (Hst4.out.put hx)
              generalize rotN k xs[j] = t at hbd z0 z1 HP
              obtain ⟨p, r⟩ := t
              simp only at hbd z0 z1 HP
              obtain ⟨d0, d1, d2, d3⟩ := hbd
              clear hx
              go_wp2_with fail
              go_still_tail 15, (by kernel_rfl)
              change wpList _ _ _ _ _ wr.drew
              go_wp2_with fail
              exact ⟨⟨j + 1, by omega, by go_num, HP.out.keep rfl, (((hb4.setCell (p := ⟨g, j * 2, none⟩) (by omega) _).setCell (p := ⟨g, j * 2 + 1, none⟩) (by omega) _)).drew⟩, by simp [intOf]; omega⟩
            · have HT := Lib.hid (Hst4.out.turn (by omega))
              go_wp2_with fail
              exact ⟨⟨k + 1, by omega, by simp; omega, HT.out, hb4⟩, by simp [intOf]; omega⟩
        · obtain rfl : k = n := by omega
          go_wp2_with fail
          go_ret2
          exact ⟨some ⟨g, 0, none⟩, c3, by rw [HR2.out, List.length_map]; rfl, by rw [HR2.out]; exact Hst2.out.flat hg1, by rw [HR2.out, List.length_map]; exact hc3, hb⟩
    · have hi' : inB q 0 3 = false := by simpa using hi
      rw [hi'] at hI
      have HI := Lib.hid hI; clear hI
      have HR : Hid (turnR xs q = ([], 2)) := by unfold Hid turnR; rw [if_pos ht, if_neg hi]
      clear ht hi hi'
      generalize turnR xs q = R at HR ⊢
      go_enter Try.func12, Try.ntmps12
      go_wp2_with fail
      refine HJ.out.mono ?_
      rintro e w1 ⟨rfl, hb1⟩
      go_wp2_with (go_at_call 79; refine (HI.out _).mono ?_; rintro e w' ⟨rfl, rfl⟩)
      go_ret2
      exact ⟨none, 0, by rw [HR.out]; rfl, by rw [HR.out]; exact flat_nil, by rw [HR.out]; exact Nat.le_refl _, hb1⟩
  · have ht' : tubesB xs = false := by simpa using ht
    rw [ht'] at hJ
    have HJ := Lib.hid hJ; clear hJ hI
    have HR : Hid (turnR xs q = ([], 1)) := by unfold Hid turnR; rw [if_neg ht]
    clear ht ht'
    generalize turnR xs q = R at HR ⊢
    go_enter Try.func12, Try.ntmps12
    go_wp2_with fail
    refine HJ.out.mono ?_
    rintro e w1 ⟨rfl, hb1⟩
    go_wp2_with fail
    go_ret2
    exact ⟨none, 0, by rw [HR.out]; rfl, by rw [HR.out]; exact flat_nil, by rw [HR.out]; exact Nat.le_refl _, hb1⟩

end Go.Proofs.Ytmhaloigcpanpaa
