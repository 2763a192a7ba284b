/- DERIVED. The order of balls, by the program. -/
import Derived.Test.YtfdnpobppelhaaaBallX
import Derived.Laws.IdiomCopy
import Derived.StillTailTactics
namespace Go.Proofs.Ytfdnpobppelhaaa
set_option maxRecDepth 100000
open Go.RowKit

def setMany (xs : List Int) (o : Nat) : List Int → List Int
  | [] => xs
  | v :: vs => setMany (xs.set o v) (o + 1) vs
theorem setMany_len : ∀ (vs xs : List Int) (o : Nat), (setMany xs o vs).length = xs.length
  | [], _, _ => rfl
  | v :: vs, xs, o => by
    unfold setMany
    rw [setMany_len vs, List.length_set]
theorem setMany_eq : ∀ (vs xs : List Int) (o : Nat), o + vs.length ≤ xs.length → setMany xs o vs = xs.take o ++ vs ++ xs.drop (o + vs.length)
  | [], xs, o, _ => by simp [setMany]
  | v :: vs, xs, o, h => by
    simp only [List.length_cons] at h
    unfold setMany
    rw [setMany_eq vs (xs.set o v) (o + 1) (by rw [List.length_set]; omega)]
    have e1 : (xs.set o v).take (o + 1) = xs.take o ++ [v] := by
      rw [List.take_succ_eq_append_getElem (by rw [List.length_set]; omega), List.getElem_set_self]
      congr 1
      rw [List.take_set_of_le (Nat.le_refl _)]
    have e2 : (xs.set o v).drop (o + 1 + vs.length) = xs.drop (o + (vs.length + 1)) := by
      rw [List.drop_set_of_lt (by omega), show o + 1 + vs.length = o + (vs.length + 1) by omega]
    rw [e1, e2]
    simp
theorem Own.setMany {base g c : Nat} {E : TypeId} : ∀ (vs xs : List Int) (w : World) (o : Nat), Own w base E 1 nC (some ⟨g, 0, none⟩) c xs → o + vs.length ≤ xs.length → Own (w.setCells g o (vs.map (Value.int .i64))) base E 1 nC (some ⟨g, 0, none⟩) c (Go.Proofs.Ytfdnpobppelhaaa.setMany xs o vs)
  | [], _, _, _, h, _ => h
  | v :: vs, xs, w, o, h, hl => by
    simp only [List.length_cons] at hl
    exact Own.setMany vs (xs.set o v) _ (o + 1) (h.setN (by omega) v) (by rw [List.length_set]; omega)
theorem below_setCells {B g : Nat} (hg : B ≤ g) : ∀ (vs : List Value) (w : World) (o : Nat), Below B w (w.setCells g o vs)
  | [], _, _ => Below.refl _ _
  | v :: vs, w, o => ((Below.refl B w).setCell (p := ⟨g, o, none⟩) hg v).trans (below_setCells hg vs _ (o + 1))
theorem setCells_size (g : Nat) : ∀ (vs : List Value) (w : World) (o : Nat), (w.setCells g o vs).heap.size = w.heap.size
  | [], _, _ => rfl
  | v :: vs, w, o => by
    show ((w.setCell ⟨g, o, none⟩ v).setCells g (o + 1) vs).heap.size = _
    rw [setCells_size g vs]
    simp [World.setCell]
/-- Where the numbers behind k move up by one and one is put at k. -/
theorem push_at {L : List Int} {k : Nat} {x z : Int} (hk : k ≤ L.length) : (setMany (L ++ [z]) (k + 1) (L.drop k)).set k x = L.take k ++ x :: L.drop k := by
  rw [setMany_eq _ _ _ (by rw [List.length_drop, List.length_append, List.length_singleton]; omega)]
  have e1 : k + 1 + (L.drop k).length = (L ++ [z]).length := by rw [List.length_drop, List.length_append, List.length_singleton]; omega
  rw [e1, List.drop_length, List.append_nil]
  have e2 : (L ++ [z]).take (k + 1) = L.take k ++ [(L ++ [z])[k]'(by rw [List.length_append, List.length_singleton]; omega)] := by
    rw [List.take_succ_eq_append_getElem (by rw [List.length_append, List.length_singleton]; omega), List.take_append_of_le_length hk]
  rw [e2]
  have hl : (L.take k).length = k := by rw [List.length_take]; omega
  generalize (L ++ [z])[k]'_ = u
  generalize L.take k = P at hl ⊢
  subst hl
  simp

set_option maxHeartbeats 4000000 in
theorem ballOrder_any (A : Option Addr) (c : Nat) (bs : List Int) (w : World) (hr : Rd w w.heap.size 1 nC A bs) (hm : bs.length ≤ 60) :
    Calls Try.prog 78 #[.slice A bs.length c] w (GivesOwnN w (ordL bs)) := by
  have HRd := Lib.hid hr
  clear hr
  go_enter Try.func78, Try.ntmps78
  go_wp2_with fail
  go_loopw [3, 8] (fun out x wr => ∃ (i : Nat) (A' : Option Addr) (c' : Nat), i ≤ bs.length ∧ x = .int .i64 i ∧ out = .slice A' i c' ∧ Own wr w.heap.size 2 1 nC A' c' (srt (bAt bs) (idxL i)) ∧ Below w.heap.size w wr) (fun _ x _ => bs.length - (intOf x).toNat)
  case atStart => exact ⟨0, none, 0, Nat.zero_le _, rfl, rfl, Own.nil, Below.refl _ _⟩
  case round =>
    obtain ⟨i, A', c', hi, rfl, rfl, hown, hb⟩ := hrel
    have hL : (srt (bAt bs) (idxL i)).length = i := by rw [srt_len, idxL_len]
    by_cases hlt : i < bs.length
    · have HL := Lib.hid hL
      have HO := Lib.hid hown
      have HNext := Lib.hid (srt_snoc (bAt bs) (idxL i) (i : Int))
      rw [← idxL_succ] at HNext
      have HIn : Hid (∀ y ∈ srt (bAt bs) (idxL i), ∃ j : Nat, y = (j : Int) ∧ j < i) := fun y hy => idxL_mem (srt_mem.1 hy)
      have HAsc := Lib.hid (srt_asc (bAt bs) (idxL i))
      have hx : bs[i]? = some bs[i] := List.getElem?_eq_getElem hlt
      have HBi := Lib.hid (bAt_of hx)
      obtain ⟨bb, bo, rfl, _, b0⟩ := (HRd.out.next hb).at1 hx rfl
      have HBc : Hid (∀ (v : World) (j : Nat) (y : Int), Below w.heap.size w v → bs[j]? = some y → v.cell? ⟨bb, bo + j, none⟩ = some (.int .i64 y)) := fun v j y hv hj => by
        obtain ⟨b1, o1, e, _, h⟩ := (HRd.out.next hv).at1 hj rfl
        simp only [Option.some.injEq, Addr.mk.injEq] at e
        obtain ⟨rfl, rfl, _⟩ := e
        rw [Nat.mul_one] at h
        exact h
      clear b0
      generalize hbi : bs[i] = x at hx HBi
      have HX := Lib.hid hx
      clear hx hbi hown hL
      generalize srt (bAt bs) (idxL i) = L at HO HL HNext HIn HAsc
      have hLi := HL.out
      subst hLi
      go_wp2_with fail
      go_loopw [5] (fun z wr2 => ∃ k : Nat, k ≤ L.length ∧ z = .int .i64 k ∧ Hid (∀ y, L[k]? = some y → x < bAt bs y) ∧ Own wr2 w.heap.size 2 1 nC A' c' L ∧ Below w.heap.size w wr2) (fun z _ => (intOf z).toNat)
      case atStart => exact ⟨L.length, Nat.le_refl _, rfl, (fun y hy => by
        have := (List.getElem?_eq_some_iff.1 hy).1
        have := HL.out
        omega), HO.out, hb⟩
      case round =>
        obtain ⟨k, hk, rfl, Hg, hown, hbk⟩ := hrel
        have HO2 := Lib.hid hown
        have cx := HBc.out wr L.length x hbk HX.out
        by_cases hk0 : k = 0
        · subst hk0
          have HStop : Hid (∀ y, 0 < 0 → L[0 - 1]? = some y → bAt bs y ≤ x) := fun y h => absurd h (by omega)
          clear hown
          go_wp2_with fail
          have hdr : ∀ m, Below wr.heap.size wr (wr.drewN m) := fun m => below_drewN (Below.refl _ _) _
          go_quiet (fail)
          have HO3 := Lib.hid (HO2.out.keep (hdr nq))
          have hb3 := bthen' hbk (hdr nq)
          generalize wr.drewN nq = w2 at HO3 hb3 ⊢
          have hbase : w.heap.size ≤ w2.heap.size := hb3.size
          go_wp2_with (at_builtin; refine wpList_append_el rfl _ _ _ rfl w.heap.size 2 (.int .i64 0) 1 8 Try.underlying38 infoInt64 rfl (by omega) (by omega) nC L (0 : Int) A' c' rfl (HO3.out.keep (balloc _ _)) w2.heap.size _ rfl rfl (one_cell (by go_simp)) (by simp [nC]; rfl) (by omega) (by simp; omega) ?_)
          intro A4 c4 w4 hown4 _ hb4
          obtain ⟨g4, rfl, hg41, hg42, hcell4, hfz4⟩ := hown4.some' (by simp)
          have hcap4 := hown4.cap
          rw [List.length_append, List.length_singleton] at hcap4
          have HO4 := Lib.hid hown4
          have hb04 : Below w.heap.size w w4 := (hb3.alloc hbase _).trans hb4
          have HC4 := Lib.hid hcell4
          have HF4 := Lib.hid hfz4
          clear hown4 hcell4 hfz4
          go_upto_region 9 with (fail)
          have hw1 : IntKind.i64.wrap 1 = 1 := IntWalk.i64_in _ (by omega)
          have ht1 : ((1 : Int).toNat) = 1 := by omega
          have hb2 : (1 : Int) ≤ (L.length : Int) + 1 := by omega
          have hb3i : (0 : Int) ≤ (L.length : Int) + 1 := by omega
          have hck : ¬ c4 = 0 := by omega
          have HIns : Hid (insF (bAt bs) (L.length : Int) L = (setMany (L ++ [0]) (1) L).set 0 (L.length : Int)) := by
            unfold Hid
            have pa := push_at (L := L) (k := 0) (x := (L.length : Int)) (z := 0) (by omega)
            rw [List.drop_zero] at pa
            rw [pa]
            have ia := insF_at HAsc.out (k := 0) (by omega) (x := (L.length : Int)) (fun y h1 h2 => by rw [HBi.out]; exact HStop.out y h1 h2) (fun y h2 => by rw [HBi.out]; exact Hg.out y h2)
            rw [List.drop_zero] at ia
            exact ia
          by_cases hc1 : c4 = 1
          · have hkL : 0 = L.length := by omega
            subst hc1
            have HO5 : Hid (Own w4.drew w.heap.size 2 1 nC (some ⟨g4, 0, none⟩) (1) (setMany (L ++ [0]) (1) L)) := by
              unfold Hid
              rw [show setMany (L ++ [0]) (1) L = L ++ [0] from by rw [show L = [] from List.length_eq_zero_iff.1 (by omega)]; rfl]
              exact HO4.out.keep (bdrew _)
            have hb5 : Below w.heap.size w w4.drew := bthen' hb04 (bdrew w4)
            obtain ⟨g5, e5, _, hg52, hcell5, hfz5⟩ := HO5.out.some' (by rw [setMany_len, List.length_append, List.length_singleton]; omega)
            simp only [Option.some.injEq, Addr.mk.injEq] at e5
            obtain ⟨rfl, _⟩ := e5
            have c5 := hcell5 0 _ (List.getElem?_eq_getElem (by rw [setMany_len, List.length_append, List.length_singleton]; omega))
            have f5 := hfz5 0
            generalize (setMany (L ++ [0]) (1) L)[0]'_ = u5 at c5
            clear hcell5 hfz5
            clear hkL
            obtain rfl : L = [] := List.length_eq_zero_iff.1 (by omega)
            have hcp := run_copy_none (P := Try.prog) w4.drew 38 38 3 2 (some ⟨g4, 0, none⟩) (some ⟨g4, 0, none⟩) 0 0 1 1 Try.underlying38 (by kernel_rfl) rfl
            go_region_law (fail)
            all_goals
              go_wp2_with fail
              refine ⟨⟨1, some ⟨g4, 0, none⟩, 1, by have h0 : 0 < bs.length := hlt; omega, by go_num, rfl, ?_, hb5.setCell (p := ⟨g4, 0, none⟩) hg41 _⟩, by simp [intOf]; omega⟩
              have e : srt (bAt bs) (idxL 1) = _ := HNext.out.trans HIns.out
              rw [e]
              exact HO5.out.setN (by rw [setMany_len, List.length_append, List.length_singleton]; omega) _
          · have hcp := run_copy_cells (P := Try.prog) w4.drew 38 38 3 2 g4 (1) (L.length + 1 - (1)) (c4 - (1)) ⟨g4, 0, none⟩ (L.length + 1 - 0) (c4 - 0) (L.map (Value.int .i64)) Try.underlying38 (by kernel_rfl) (by simp only [List.length_map, Nat.min_def]; split <;> omega) (fun j v hv => by
              rw [List.getElem?_map, Option.map_eq_some_iff] at hv
              obtain ⟨z, hz, rfl⟩ := hv
              have := HC4.out (j) z (by rw [List.getElem?_append_left (List.getElem?_eq_some_iff.1 hz).1]; exact hz)
              rw [Addr.add_lit]
              rw [Nat.zero_add]
              exact this) (fun j hj => by
              have hlt9 : 1 + j < (L ++ [0]).length := by
                rw [List.length_append, List.length_singleton]
                simp only [List.length_map] at hj
                omega
              have := HC4.out (1 + j) _ (List.getElem?_eq_getElem hlt9)
              exact Option.isSome_iff_exists.2 ⟨_, this⟩) (fun j _ => HF4.out _) (fun v hv => by
              obtain ⟨z, _, rfl⟩ := List.mem_map.1 hv
              rfl)
            rw [show L.length + 1 - 1 = L.length by omega, Nat.sub_zero, Nat.sub_zero] at hcp
            have HO5 : Hid (Own (w4.drew.setCells g4 (1) (L.map (Value.int .i64))) w.heap.size 2 1 nC (some ⟨g4, 0, none⟩) c4 (setMany (L ++ [0]) (1) L)) := by
              unfold Hid
              exact Own.setMany _ _ _ _ (HO4.out.keep (bdrew _)) (by rw [List.length_append, List.length_singleton]; omega)
            have hb5 : Below w.heap.size w (w4.drew.setCells g4 (1) (L.map (Value.int .i64))) := (bthen' hb04 (bdrew w4)).trans (below_setCells hg41 _ _ _)
            obtain ⟨g5, e5, _, hg52, hcell5, hfz5⟩ := HO5.out.some' (by rw [setMany_len, List.length_append, List.length_singleton]; omega)
            simp only [Option.some.injEq, Addr.mk.injEq] at e5
            obtain ⟨rfl, _⟩ := e5
            have c5 := hcell5 0 _ (List.getElem?_eq_getElem (by rw [setMany_len, List.length_append, List.length_singleton]; omega))
            have f5 := hfz5 0
            generalize (setMany (L ++ [0]) (1) L)[0]'_ = u5 at c5
            clear hcell5 hfz5
            go_region_law (fail)
            all_goals
              go_wp2_with fail
              refine ⟨⟨L.length + 1, some ⟨g4, 0, none⟩, c4, by omega, by go_num, rfl, ?_, hb5.setCell (p := ⟨g4, 0, none⟩) hg41 _⟩, by simp [intOf]; omega⟩
              rw [HNext.out, HIns.out]
              exact HO5.out.setN (by rw [setMany_len, List.length_append, List.length_singleton]; omega) _
        · have hpk : 0 < k := by omega
          have hLk : k - 1 < L.length := by have := HL.out; omega
          obtain ⟨g, rfl, hg1, hg2, hcell, _⟩ := hown.some' (by omega)
          have hy : L[k - 1]? = some L[k - 1] := List.getElem?_eq_getElem hLk
          have c1 := hcell (k - 1) _ hy
          obtain ⟨j, ej, hji⟩ := HIn.out _ (List.mem_of_getElem? hy)
          have hjl : j < bs.length := by omega
          have hv : bs[j]? = some bs[j] := List.getElem?_eq_getElem hjl
          have cv := HBc.out wr j _ hbk hv
          have HV : Hid (∀ y, L[k - 1]? = some y → bAt bs y = bs[j]) := fun y h => by
            rw [hy] at h
            rw [← Option.some.inj h, ej]
            exact bAt_of hv
          rw [ej] at c1
          generalize bs[j] = v at cv HV
          clear hcell hown hy hv hLk ej
          by_cases hvx : v ≤ x
          · have hcmp : ¬ x < v := by omega
            have HStop : Hid (∀ y, 0 < k → L[k - 1]? = some y → bAt bs y ≤ x) := fun y _ h => by
              rw [HV.out y h]
              exact hvx
            go_wp2_with fail
            have hdr : ∀ m, Below wr.heap.size wr (wr.drewN m) := fun m => below_drewN (Below.refl _ _) _
            go_quiet (fail)
            have HO3 := Lib.hid (HO2.out.keep (hdr nq))
            have hb3 := bthen' hbk (hdr nq)
            generalize wr.drewN nq = w2 at HO3 hb3 ⊢
            have hbase : w.heap.size ≤ w2.heap.size := hb3.size
            go_wp2_with (at_builtin; refine wpList_append_el rfl _ _ _ rfl w.heap.size 2 (.int .i64 0) 1 8 Try.underlying38 infoInt64 rfl (by omega) (by omega) nC L (0 : Int) (some ⟨g, 0, none⟩) c' rfl (HO3.out.keep (balloc _ _)) w2.heap.size _ rfl rfl (one_cell (by go_simp)) (by simp [nC]; rfl) (by omega) (by simp; omega) ?_)
            intro A4 c4 w4 hown4 _ hb4
            obtain ⟨g4, rfl, hg41, hg42, hcell4, hfz4⟩ := hown4.some' (by simp)
            have hcap4 := hown4.cap
            rw [List.length_append, List.length_singleton] at hcap4
            have HO4 := Lib.hid hown4
            have hb04 : Below w.heap.size w w4 := (hb3.alloc hbase _).trans hb4
            have HC4 := Lib.hid hcell4
            have HF4 := Lib.hid hfz4
            clear hown4 hcell4 hfz4
            go_upto_region 9 with (fail)
            have hw1 : IntKind.i64.wrap ((k : Int) + 1) = (k : Int) + 1 := IntWalk.i64_in _ (by omega)
            have ht1 : ((k : Int) + 1).toNat = k + 1 := by omega
            have hb1 : 0 ≤ (k : Int) + 1 := by omega
            have hb2 : (k : Int) + 1 ≤ (L.length : Int) + 1 := by omega
            have hb3i : (k : Int) ≤ (L.length : Int) + 1 := by omega
            have hck : ¬ c4 = k := by omega
            have HIns : Hid (insF (bAt bs) (L.length : Int) L = (setMany (L ++ [0]) (k + 1) (L.drop k)).set k (L.length : Int)) := by
              unfold Hid
              rw [push_at (by omega)]
              exact insF_at HAsc.out (by omega) (fun y h1 h2 => by rw [HBi.out]; exact HStop.out y h1 h2) (fun y h2 => by rw [HBi.out]; exact Hg.out y h2)
            by_cases hc1 : c4 = k + 1
            · have hkL : k = L.length := by omega
              subst hc1
              have HO5 : Hid (Own w4.drew w.heap.size 2 1 nC (some ⟨g4, 0, none⟩) (k + 1) (setMany (L ++ [0]) (k + 1) (L.drop k))) := by
                unfold Hid
                rw [show setMany (L ++ [0]) (k + 1) (L.drop k) = L ++ [0] from by rw [show (L.drop k) = [] from List.drop_eq_nil_of_le (by omega)]; rfl]
                exact HO4.out.keep (bdrew _)
              have hb5 : Below w.heap.size w w4.drew := bthen' hb04 (bdrew w4)
              obtain ⟨g5, e5, _, hg52, hcell5, hfz5⟩ := HO5.out.some' (by rw [setMany_len, List.length_append, List.length_singleton]; omega)
              simp only [Option.some.injEq, Addr.mk.injEq] at e5
              obtain ⟨rfl, _⟩ := e5
              have c5 := hcell5 k _ (List.getElem?_eq_getElem (by rw [setMany_len, List.length_append, List.length_singleton]; omega))
              have f5 := hfz5 k
              generalize (setMany (L ++ [0]) (k + 1) (L.drop k))[k]'_ = u5 at c5
              clear hcell5 hfz5
              have hcp := run_copy_none (P := Try.prog) w4.drew 38 38 3 2 (some ⟨g4, 0, none⟩) (some ⟨g4, L.length, none⟩) 0 0 1 1 Try.underlying38 (by kernel_rfl) rfl
              have e1 : L.length + 1 - L.length = 1 := by omega
              subst hkL
              go_region_law (fail)
              all_goals
                go_wp2_with fail
                refine ⟨⟨L.length + 1, some ⟨g4, 0, none⟩, (L.length + 1), by omega, by go_num, rfl, ?_, hb5.setCell (p := ⟨g4, L.length, none⟩) hg41 _⟩, by simp [intOf]; omega⟩
                rw [HNext.out, HIns.out]
                exact HO5.out.setN (by rw [setMany_len, List.length_append, List.length_singleton]; omega) _
            · have hcp := run_copy_cells (P := Try.prog) w4.drew 38 38 3 2 g4 (k + 1) (L.length + 1 - (k + 1)) (c4 - (k + 1)) ⟨g4, k, none⟩ (L.length + 1 - k) (c4 - k) ((L.map (Value.int .i64)).drop k) Try.underlying38 (by kernel_rfl) (by simp only [List.length_map, List.length_drop, Nat.min_def]; split <;> omega) (fun j v hv => by
                rw [← List.map_drop] at hv
                rw [List.getElem?_map, Option.map_eq_some_iff] at hv
                obtain ⟨z, hz, rfl⟩ := hv
                rw [List.getElem?_drop] at hz
                have := HC4.out (k + j) z (by rw [List.getElem?_append_left (List.getElem?_eq_some_iff.1 hz).1]; exact hz)
                rw [Addr.add_lit]
                exact this) (fun j hj => by
                have hlt9 : k + 1 + j < (L ++ [0]).length := by
                  rw [List.length_append, List.length_singleton]
                  simp only [List.length_map, List.length_drop] at hj
                  omega
                have := HC4.out (k + 1 + j) _ (List.getElem?_eq_getElem hlt9)
                exact Option.isSome_iff_exists.2 ⟨_, this⟩) (fun j _ => HF4.out _) (fun v hv => by
                obtain ⟨z, _, rfl⟩ := List.mem_map.1 (List.mem_of_mem_drop hv)
                rfl)
              rw [show L.length + 1 - (k + 1) = L.length - k by omega] at hcp
              have HO5 : Hid (Own (w4.drew.setCells g4 (k + 1) ((L.map (Value.int .i64)).drop k)) w.heap.size 2 1 nC (some ⟨g4, 0, none⟩) c4 (setMany (L ++ [0]) (k + 1) (L.drop k))) := by
                unfold Hid
                rw [← List.map_drop]
                exact Own.setMany _ _ _ _ (HO4.out.keep (bdrew _)) (by rw [List.length_drop, List.length_append, List.length_singleton]; omega)
              have hb5 : Below w.heap.size w (w4.drew.setCells g4 (k + 1) ((L.map (Value.int .i64)).drop k)) := (bthen' hb04 (bdrew w4)).trans (below_setCells hg41 _ _ _)
              obtain ⟨g5, e5, _, hg52, hcell5, hfz5⟩ := HO5.out.some' (by rw [setMany_len, List.length_append, List.length_singleton]; omega)
              simp only [Option.some.injEq, Addr.mk.injEq] at e5
              obtain ⟨rfl, _⟩ := e5
              have c5 := hcell5 k _ (List.getElem?_eq_getElem (by rw [setMany_len, List.length_append, List.length_singleton]; omega))
              have f5 := hfz5 k
              generalize (setMany (L ++ [0]) (k + 1) (L.drop k))[k]'_ = u5 at c5
              clear hcell5 hfz5
              go_region_law (fail)
              all_goals
                go_wp2_with fail
                refine ⟨⟨L.length + 1, some ⟨g4, 0, none⟩, c4, by omega, by go_num, rfl, ?_, hb5.setCell (p := ⟨g4, k, none⟩) hg41 _⟩, by simp [intOf]; omega⟩
                rw [HNext.out, HIns.out]
                exact HO5.out.setN (by rw [setMany_len, List.length_append, List.length_singleton]; omega) _
          · have hcmp : x < v := by omega
            go_wp2_with fail
            go_quiet (fail)
            go_wp2_with fail
            exact ⟨⟨k - 1, by omega, by congr 1; omega, fun y h => by rw [HV.out y h]; exact hcmp, HO2.out.keep (below_drewN (Below.refl _ _) _), below_drewN hbk _⟩, by simp [intOf]; omega⟩
    · obtain rfl : i = bs.length := by omega
      have HO2 : Hid (Own wr w.heap.size 2 1 nC A' c' (ordL bs)) := hown
      have HSl := Lib.hid (ordL_len bs)
      clear hown hL
      go_wp2_with fail
      go_ret
      exact ⟨A', c', by rw [HSl.out]; rfl, HO2.out, hb⟩
end Go.Proofs.Ytfdnpobppelhaaa
