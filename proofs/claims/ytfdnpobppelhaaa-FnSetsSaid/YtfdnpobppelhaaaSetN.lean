/- DERIVED. Numbers in order, by the specification. By program (gsetn.py). -/
import Derived.Test.YtfdnpobppelhaaaSetP
import Derived.Test.YtfdnpobppelhaaaFewS
import Derived.Test.YtfdnpobppelhaaaOwn3
import Derived.Test.YtfdnpobppelhaaaSetR
import Derived.StillTailTactics
namespace Go.Proofs.Ytfdnpobppelhaaa
set_option maxRecDepth 100000
open Go.RowKit

theorem l01Is_any (n : Int) (w : World) : Calls Try.prog 115 #[.int .i64 n] w fun e w' => e = .returned (.bool (inB n (-1000000000000) 1000000000000)) ∧ w = w' := by
  have HI := Lib.hid (l01In_any n (-1000000000000) 1000000000000 w)
  go_enter Try.func115, Try.ntmps115
  go_wp2_with (go_at_call 102; refine HI.out.mono ?_; rintro e w' ⟨rfl, rfl⟩)
  go_ret
  exact ⟨rfl, rfl⟩
set_option maxHeartbeats 1000000 in
theorem l01Values_ok (A : Option Addr) (c : Nat) (xs : List Int) (w : World) (hr : Rd w w.heap.size 1 nC A xs) (hm : xs.length ≤ 60) (hx : ∀ y ∈ xs, 0 ≤ y ∧ y ≤ 60) :
    Calls Try.prog 110 #[.slice A xs.length c] w fun e w' => e = .returned (.int .i64 0) ∧ w = w' := by
  have HX := Lib.hid hx
  clear hx
  go_enter Try.func110, Try.ntmps110
  go_wp2_with fail
  go_loopw [3] (fun i wr => ∃ k : Nat, k ≤ xs.length ∧ i = .int .i64 k ∧ w = wr) (fun i _ => xs.length - (intOf i).toNat)
  case atStart => exact ⟨0, Nat.zero_le _, rfl, rfl⟩
  case round =>
    obtain ⟨k, hk, rfl, rfl⟩ := hrel
    by_cases hlt : k < xs.length
    · have hy : xs[k]? = some xs[k] := List.getElem?_eq_getElem hlt
      obtain ⟨b, o, rfl, hB, q0⟩ := hr.at1 hy rfl
      rw [Nat.mul_one] at q0
      have hb := HX.out _ (List.mem_of_getElem? hy)
      generalize xs[k] = t at q0 hb
      have hI := Lib.hid (l01Is_any t w)
      rw [show inB t (-1000000000000) 1000000000000 = true by simp [inB]; omega] at hI
      clear hy
      go_wp2_with (go_at_call 115; refine hI.out.mono ?_; rintro e w' ⟨rfl, rfl⟩)
      exact ⟨⟨k + 1, by omega, by go_num, trivial⟩, by simp [intOf]; omega⟩
    · go_wp2_with fail
      go_ret
      exact ⟨rfl, rfl⟩

set_option maxHeartbeats 8000000 in
theorem SortNumbers_any (A : Option Addr) (c : Nat) (xs : List Int) (w : World) (hr : Rd w w.heap.size 1 nC A xs) (hm : xs.length ≤ 60) (hx : ∀ y ∈ xs, 0 ≤ y ∧ y ≤ 60) :
    Calls Try.prog 82 #[.slice A xs.length c] w (GivesRes w 2 1 nC (sizL xs, 0)) := by
  have HV := Lib.hid (l01Values_ok A c xs w hr hm hx)
  have HRd := Lib.hid hr
  clear hr hx
  go_enter Try.func82, Try.ntmps82
  go_wp2_with fail
  refine HV.out.mono ?_
  rintro e w' ⟨rfl, rfl⟩
  clear HV
  go_wp2_with fail
  go_loopw [5, 6] (fun out x wr => ∃ (i g c' : Nat), i ≤ xs.length ∧ x = .int .i64 i ∧ out = .slice (some ⟨g, 0, none⟩) i c' ∧ Own wr w.heap.size 2 1 nC (some ⟨g, 0, none⟩) c' (sizL (xs.take i)) ∧ w.heap.size ≤ g ∧ g < wr.heap.size ∧ Below w.heap.size w wr) (fun _ x _ => xs.length - (intOf x).toNat)
  case atStart => exact ⟨0, w.heap.size, 0, Nat.zero_le _, rfl, rfl, Own.made _ (Nat.le_refl _) rfl, Nat.le_refl _, by simp, balloc w _⟩
  case round =>
    obtain ⟨i, g, c', hi, rfl, rfl, hown, hgl, hgu, hb⟩ := hrel
    have hL : (sizL (xs.take i)).length = i := by rw [sizL_len, List.length_take]; omega
    by_cases hlt : i < xs.length
    · have HL := Lib.hid hL
      have HO := Lib.hid hown
      have hx : xs[i]? = some xs[i] := List.getElem?_eq_getElem hlt
      have HNext : Hid (sizL (xs.take (i + 1)) = insF (fun z => z) xs[i] (sizL (xs.take i))) := by
        unfold Hid sizL
        rw [List.take_succ_eq_append_getElem hlt, srt_snoc]
      have HAsc := Lib.hid (srt_asc (fun z => z) (xs.take i))
      change Hid (Asc (fun z => z) (sizL (xs.take i))) at HAsc
      obtain ⟨bb, bo, rfl, _, b0⟩ := (HRd.out.next hb).at1 hx rfl
      have HBc : Hid (∀ (v : World) (y : Int), Below w.heap.size w v → xs[i]? = some y → v.cell? ⟨bb, bo + i, none⟩ = some (.int .i64 y)) := fun v y hv hj => (HRd.out.next hv).at1' hj
      clear b0
      generalize xs[i] = x at hx HNext
      have HCx : Hid (∀ (v : World), Below w.heap.size w v → v.cell? ⟨bb, bo + i, none⟩ = some (.int .i64 x)) := fun v hv => HBc.out v x hv hx
      clear hx hown hL HBc
      generalize sizL (xs.take i) = L at HO HL HNext HAsc
      have hLi := HL.out
      subst hLi
      have hcap := HO.out.cap
      go_wp2_with fail
      go_loopw [7] (fun z wr2 => ∃ k : Nat, k ≤ L.length ∧ z = .int .i64 k ∧ Hid (∀ y, 0 < k → L[k - 1]? = some y → y ≤ x) ∧ Own wr2 w.heap.size 2 1 nC (some ⟨g, 0, none⟩) c' L ∧ g < wr2.heap.size ∧ Below w.heap.size w wr2) (fun z _ => L.length - (intOf z).toNat)
      case atStart => exact ⟨0, Nat.zero_le _, rfl, (fun y h => absurd h (by omega)), HO.out, hgu, hb⟩
      case round =>
        obtain ⟨k, hk, rfl, Hg, hown, hgr, hbk⟩ := hrel
        have HO2 := Lib.hid hown
        have cx := HCx.out wr hbk
        clear hown
        by_cases hkl : k < L.length
        · have hy : L[k]? = some L[k] := List.getElem?_eq_getElem hkl
          have c1 := (HO2.out.flat nCl).rd.at1' hy
          rw [Nat.zero_add] at c1
          have HV : Hid (∀ y, L[k]? = some y → y = L[k]) := fun y h => by
            rw [hy] at h
            exact (Option.some.inj h).symm
          generalize L[k] = v at c1 HV
          clear hy
          by_cases hvx : v ≤ x
          · go_wp2_with fail
            go_quiet (fail)
            go_wp2_with fail
            exact ⟨⟨k + 1, by omega, by go_num, fun y _ h => by rw [HV.out y (by simpa using h)]; exact hvx, HO2.out.keep (below_drewN (Below.refl _ _) _), Nat.lt_of_lt_of_le hgr (below_drewN (Below.refl wr.heap.size _) _).size, below_drewN hbk _⟩, by simp [intOf]; omega⟩
          · have HStop : Hid (∀ y, L[k]? = some y → x < y) := fun y h => by
              rw [HV.out y h]
              omega
            go_wp2_with fail
            have hdr : ∀ m, Below wr.heap.size wr (wr.drewN m) := fun m => below_drewN (Below.refl _ _) _
            go_quiet (fail)
            have HO3 := Lib.hid (HO2.out.keep (hdr nq))
            have hb3 := bthen' hbk (hdr nq)
            have hg3 : g < (wr.drewN nq).heap.size := Nat.lt_of_lt_of_le hgr (hdr nq).size
            generalize wr.drewN nq = w2 at HO3 hb3 hg3 ⊢
            have hbase : w.heap.size ≤ w2.heap.size := hb3.size
            have HIns : Hid (insF (fun z => z) x L = L.take k ++ [x] ++ L.drop k) := by
              have := insF_at HAsc.out (x := x) (k := k) (by omega) (fun y h1 h2 => Hg.out y h1 h2) (fun y h2 => HStop.out y h2)
              unfold Hid
              rw [this]
              simp
            clear Hg HStop HAsc HO2 HO cx
            have HT := Lib.hid ((HO3.out.flat nCl).rd)
            have hlt1 : (L.take k).length = k := by rw [List.length_take]; omega
            have hld1 : (L.drop k).length = L.length - k := List.length_drop
            have hl4 : (L.take k ++ [x]).length = k + 1 := by rw [List.length_append, hlt1]; rfl
            have hsum : k + 1 + (L.length - k) = L.length + 1 := by omega
            have hkc : (k : Int) ≤ (c' : Int) := by omega
            have hkL : (k : Int) ≤ (L.length : Int) := by omega
            have hck : ¬ c' = k := by omega
            have HDr : Hid (∀ v : World, Below w2.heap.size w2 v → Rd v v.heap.size 1 nC (some ⟨g, k, none⟩) (L.drop k)) := fun v hv => by
              have := rd_drop (HT.out.next hv) k
              rwa [Nat.zero_add] at this
            have HR1 : Hid (∀ v : World, Below w2.heap.size w2 v → Rd v v.heap.size 1 nC (some ⟨g, 0, none⟩) (L.take k)) := fun v hv => (HT.out.next hv).take k
            have HCv : Hid (∀ v : World, Below w2.heap.size w2 v → v.cell? ⟨bb, bo + L.length, none⟩ = some (.int .i64 x)) := fun v hv => HCx.out v (hb3.trans (hv.mono hbase))
            have hYa : Below w2.heap.size w2 (w2.drew.alloc (.cells #[] 2)) := bthen' (bdrew w2) (balloc _ _)
            have hYx : Below w2.heap.size w2 (w2.drew.alloc (.cells #[.int .i64 x] 2)) := bthen' (bdrew w2) (balloc _ _)
            have hYb : Below w2.heap.size w2 ((w2.drew.alloc (.cells #[] 2)).alloc (.cells #[.int .i64 x] 2)) := bthen' hYa (balloc _ _)
            have hYc : Below w2.heap.size w2 ((w2.drew.alloc (.cells #[.int .i64 x] 2)).alloc (.cells #[] 2)) := bthen' hYx (balloc _ _)
            have cD := HCv.out w2.drew (bdrew w2)
            have cN := HCv.out (w2.alloc (.cells #[] 2)) (balloc _ _)
            have hsN : (w2.drew.alloc (.cells #[] 2)).heap.size = w2.heap.size + 1 := by simp
            have hsX : (w2.drew.alloc (.cells #[.int .i64 x] 2)).heap.size = w2.heap.size + 1 := by simp
            have hsB : w2.heap.size + 1 < ((w2.drew.alloc (.cells #[] 2)).alloc (.cells #[.int .i64 x] 2)).heap.size := by simp
            have hsC : w2.heap.size < ((w2.drew.alloc (.cells #[.int .i64 x] 2)).alloc (.cells #[] 2)).heap.size := by simp; omega
            have HEb : Hid ((((w2.drew.alloc (.cells #[] 2)).alloc (.cells #[.int .i64 x] 2))).cell? ⟨w2.heap.size + 1, 0, none⟩ = some (.int .i64 x)) := by
              unfold Hid
              rw [← hsN]
              go_simp
            have HEc : Hid ((((w2.drew.alloc (.cells #[.int .i64 x] 2)).alloc (.cells #[] 2))).cell? ⟨w2.heap.size, 0, none⟩ = some (.int .i64 x)) := by
              unfold Hid
              go_simp
            have HOc : Hid (Own ((w2.drew.alloc (.cells #[.int .i64 x] 2)).alloc (.cells #[] 2)) w2.heap.size 2 1 nC (some ⟨w2.heap.size + 1, 0, none⟩) 0 ([] : List Int)) := by
              have h : Own ((w2.drew.alloc (.cells #[.int .i64 x] 2)).alloc (.cells #[] 2)) w2.heap.size 2 1 nC (some ⟨(w2.drew.alloc (.cells #[.int .i64 x] 2)).heap.size, 0, none⟩) 0 ([] : List Int) := Own.made (w := (w2.drew.alloc (.cells #[.int .i64 x] 2))) _ hYx.size rfl
              rwa [hsX] at h
            clear hsN hsX

            go_wp2_with fail
            go_region_law (first
              | (refine step_append_slice (by rfl) _ _ _ (by rfl) w2.heap.size 2 (.int .i64 0) 1 8 Try.underlying38 infoInt64 rfl (by omega) (by omega) nC [] (L.take k) (some ⟨w2.drew.heap.size, 0, none⟩) 0 (by rfl) (Own.made (w := w2.drew) _ (Nat.le_refl _) rfl) (some ⟨g, 0, none⟩) c' _ (by rw [hlt1]; rfl) (HR1.out _ hYa) nCl nC1 (by rw [hlt1]; simp; omega) hYa.size ?_; rintro A4 c4 w4 hown4 hb4 hfar4; have HO6 : Hid (Own w4 w2.heap.size 2 1 nC A4 c4 (L.take k)) := hown4; have hX6 := hYa.trans hb4; have c4x := HCv.out w4 hX6; clear hown4 hb4 hfar4; rw [hlt1, show ([] : List Int).length + k = k from Nat.zero_add _])
              | (refine step_append_slice (by rfl) _ _ _ (by rfl) w2.heap.size 2 (.int .i64 0) 1 8 Try.underlying38 infoInt64 rfl (by omega) (by omega) nC [] (L.take k) (some ⟨w2.drew.heap.size, 0, none⟩) 0 (by rfl) ((Own.made (w := w2.drew) _ (Nat.le_refl _) rfl).keep (balloc _ _)) (some ⟨g, 0, none⟩) c' _ (by rw [hlt1]; rfl) (HR1.out _ hYb) nCl nC1 (by rw [hlt1]; simp; omega) hYb.size ?_; rintro A4 c4 w4 hown4 hb4 hfar4; have HO6 : Hid (Own w4 w2.heap.size 2 1 nC A4 c4 (L.take k)) := hown4; have hX6 := hYb.trans hb4; have c4x := HCv.out w4 hX6; have cE := (World.cell?_of_block (a := ⟨w2.heap.size + 1, 0, none⟩) (hfar4 (w2.heap.size + 1) hsB (fun b o e => by simp at e; omega)).2).trans HEb.out; have lE : w2.heap.size + 1 < w4.heap.size := Nat.lt_of_lt_of_le hsB hb4.size; clear hown4 hb4 hfar4; rw [hlt1, show ([] : List Int).length + k = k from Nat.zero_add _])
              | (refine step_append_slice (by rfl) _ _ _ (by rfl) w2.heap.size 2 (.int .i64 0) 1 8 Try.underlying38 infoInt64 rfl (by omega) (by omega) nC [] (L.take k) (some ⟨w2.heap.size + 1, 0, none⟩) 0 (by rfl) HOc.out (some ⟨g, 0, none⟩) c' _ (by rw [hlt1]; rfl) (HR1.out _ hYc) nCl nC1 (by rw [hlt1]; simp; omega) hYc.size ?_; rintro A4 c4 w4 hown4 hb4 hfar4; have HO6 : Hid (Own w4 w2.heap.size 2 1 nC A4 c4 (L.take k)) := hown4; have hX6 := hYc.trans hb4; have c4x := HCv.out w4 hX6; have cE := (World.cell?_of_block (a := ⟨w2.heap.size, 0, none⟩) (hfar4 w2.heap.size hsC (fun b o e => by simp at e; omega)).2).trans HEc.out; have lE : w2.heap.size < w4.heap.size := Nat.lt_of_lt_of_le hsC hb4.size; clear hown4 hb4 hfar4; rw [hlt1, show ([] : List Int).length + k = k from Nat.zero_add _])
              | (refine step_append_el (by rfl) _ _ _ (by rfl) w2.heap.size 2 (.int .i64 0) 1 8 Try.underlying38 infoInt64 rfl (by omega) (by omega) nC (L.take k) x A4 c4 (by rw [hlt1]; rfl) HO6.out _ _ (by rfl) lE nCl (one_cell cE) nC1 (by omega) hX6.size ?_; rintro A5 c5 w5 hown5 hb5 _; have HO8 := Lib.hid hown5; have hX8 := (hX6).trans hb5; clear hown5 hb5; rw [hlt1])
              | (refine step_append_el (by rfl) _ _ _ (by rfl) w2.heap.size 2 (.int .i64 0) 1 8 Try.underlying38 infoInt64 rfl (by omega) (by omega) nC (L.take k) x A4 c4 (by rw [hlt1]; rfl) (HO6.out.keep (balloc _ _)) _ _ (by rfl) (show w4.heap.size < (w4.alloc (.cells #[.int .i64 x] 2)).heap.size from (by simp)) nCl (one_cell (by go_simp)) nC1 (by omega) (bthen' hX6 (balloc w4 (.cells #[.int .i64 x] 2))).size ?_; rintro A5 c5 w5 hown5 hb5 _; have HO8 := Lib.hid hown5; have hX8 := ((bthen' hX6 (balloc w4 (.cells #[.int .i64 x] 2)))).trans hb5; clear hown5 hb5; rw [hlt1])
              | (refine step_append_slice (by rfl) _ _ _ (by rfl) w2.heap.size 2 (.int .i64 0) 1 8 Try.underlying38 infoInt64 rfl (by omega) (by omega) nC (L.take k ++ [x]) (L.drop k) A5 c5 (by rw [hl4]; rfl) HO8.out (some ⟨g, k, none⟩) _ w5.heap.size (by rw [hld1]; rfl) (HDr.out w5 hX8) nCl nC1 (by rw [hl4, hld1]; omega) hX8.size ?_; rintro A6 c6 w6 hown6 hb6 _; have hX9 := hX8.trans hb6; rw [← HIns.out, ← HNext.out] at hown6; have HO7 := Lib.hid (hown6.base hbase); clear hown6 hb6; rw [hl4, hld1, hsum]))
            all_goals
              have hl7 : (sizL (xs.take (L.length + 1))).length = L.length + 1 := by rw [sizL_len, List.length_take]; omega
              obtain ⟨g6, rfl, hg61, hg62, _⟩ := HO7.out.some' (by omega)
              go_wp2_with fail
              exact ⟨⟨L.length + 1, g6, c6, by omega, by go_num, rfl, HO7.out, hg61, hg62, hb3.trans (hX9.mono hbase)⟩, by simp [intOf]; omega⟩
        · obtain rfl : k = L.length := by omega
          have HStop : Hid (∀ y, L[L.length]? = some y → x < y) := fun y h => by
            rw [List.getElem?_eq_none (Nat.le_refl _)] at h
            exact absurd h (by simp)
          go_wp2_with fail
          have hdr : ∀ m, Below wr.heap.size wr (wr.drewN m) := fun m => below_drewN (Below.refl _ _) _
          go_quiet (fail)
          have HO3 := Lib.hid (HO2.out.keep (hdr nq))
          have hb3 := bthen' hbk (hdr nq)
          have hg3 : g < (wr.drewN nq).heap.size := Nat.lt_of_lt_of_le hgr (hdr nq).size
          generalize wr.drewN nq = w2 at HO3 hb3 hg3 ⊢
          have hbase : w.heap.size ≤ w2.heap.size := hb3.size
          have HIns : Hid (insF (fun z => z) x L = L.take L.length ++ [x] ++ L.drop L.length) := by
            have := insF_at HAsc.out (x := x) (k := L.length) (by omega) (fun y h1 h2 => Hg.out y h1 h2) (fun y h2 => HStop.out y h2)
            unfold Hid
            rw [this]
            simp
          clear Hg HStop HAsc HO2 HO cx
          have HT := Lib.hid ((HO3.out.flat nCl).rd)
          have hlt1 : (L.take L.length).length = L.length := by rw [List.length_take]; omega
          have hld1 : (L.drop L.length).length = 0 := by rw [List.length_drop]; omega
          have hl4 : (L.take L.length ++ [x]).length = L.length + 1 := by rw [List.length_append, hlt1]; rfl

          have hkc : (L.length : Int) ≤ (c' : Int) := by omega
          have hkL : (L.length : Int) ≤ (L.length : Int) := by omega
          by_cases hck : c' = L.length
          · have hkl2 : L.length = L.length := by omega
            obtain rfl : L.length = c' := hck.symm
            have HDr : Hid (∀ v : World, Below w2.heap.size w2 v → Rd v v.heap.size 1 nC (some ⟨g, 0, none⟩) (L.drop L.length)) := fun v _ h => absurd h (by rw [hld1]; omega)
            have HR1 : Hid (∀ v : World, Below w2.heap.size w2 v → Rd v v.heap.size 1 nC (some ⟨g, 0, none⟩) (L.take L.length)) := fun v hv => (HT.out.next hv).take L.length
            have HCv : Hid (∀ v : World, Below w2.heap.size w2 v → v.cell? ⟨bb, bo + L.length, none⟩ = some (.int .i64 x)) := fun v hv => HCx.out v (hb3.trans (hv.mono hbase))
            have hYa : Below w2.heap.size w2 (w2.drew.alloc (.cells #[] 2)) := bthen' (bdrew w2) (balloc _ _)
            have hYx : Below w2.heap.size w2 (w2.drew.alloc (.cells #[.int .i64 x] 2)) := bthen' (bdrew w2) (balloc _ _)
            have hYb : Below w2.heap.size w2 ((w2.drew.alloc (.cells #[] 2)).alloc (.cells #[.int .i64 x] 2)) := bthen' hYa (balloc _ _)
            have hYc : Below w2.heap.size w2 ((w2.drew.alloc (.cells #[.int .i64 x] 2)).alloc (.cells #[] 2)) := bthen' hYx (balloc _ _)
            have cD := HCv.out w2.drew (bdrew w2)
            have cN := HCv.out (w2.alloc (.cells #[] 2)) (balloc _ _)
            have hsN : (w2.drew.alloc (.cells #[] 2)).heap.size = w2.heap.size + 1 := by simp
            have hsX : (w2.drew.alloc (.cells #[.int .i64 x] 2)).heap.size = w2.heap.size + 1 := by simp
            have hsB : w2.heap.size + 1 < ((w2.drew.alloc (.cells #[] 2)).alloc (.cells #[.int .i64 x] 2)).heap.size := by simp
            have hsC : w2.heap.size < ((w2.drew.alloc (.cells #[.int .i64 x] 2)).alloc (.cells #[] 2)).heap.size := by simp; omega
            have HEb : Hid ((((w2.drew.alloc (.cells #[] 2)).alloc (.cells #[.int .i64 x] 2))).cell? ⟨w2.heap.size + 1, 0, none⟩ = some (.int .i64 x)) := by
              unfold Hid
              rw [← hsN]
              go_simp
            have HEc : Hid ((((w2.drew.alloc (.cells #[.int .i64 x] 2)).alloc (.cells #[] 2))).cell? ⟨w2.heap.size, 0, none⟩ = some (.int .i64 x)) := by
              unfold Hid
              go_simp
            have HOc : Hid (Own ((w2.drew.alloc (.cells #[.int .i64 x] 2)).alloc (.cells #[] 2)) w2.heap.size 2 1 nC (some ⟨w2.heap.size + 1, 0, none⟩) 0 ([] : List Int)) := by
              have h : Own ((w2.drew.alloc (.cells #[.int .i64 x] 2)).alloc (.cells #[] 2)) w2.heap.size 2 1 nC (some ⟨(w2.drew.alloc (.cells #[.int .i64 x] 2)).heap.size, 0, none⟩) 0 ([] : List Int) := Own.made (w := (w2.drew.alloc (.cells #[.int .i64 x] 2))) _ hYx.size rfl
              rwa [hsX] at h
            clear hsN hsX
            clear hck hkl2
            go_wp2_with fail
            go_region_law (first
              | (refine step_append_slice (by rfl) _ _ _ (by rfl) w2.heap.size 2 (.int .i64 0) 1 8 Try.underlying38 infoInt64 rfl (by omega) (by omega) nC [] (L.take L.length) (some ⟨w2.drew.heap.size, 0, none⟩) 0 (by rfl) (Own.made (w := w2.drew) _ (Nat.le_refl _) rfl) (some ⟨g, 0, none⟩) L.length _ (by rw [hlt1]; rfl) (HR1.out _ hYa) nCl nC1 (by rw [hlt1]; simp; omega) hYa.size ?_; rintro A4 c4 w4 hown4 hb4 hfar4; have HO6 : Hid (Own w4 w2.heap.size 2 1 nC A4 c4 (L.take L.length)) := hown4; have hX6 := hYa.trans hb4; have c4x := HCv.out w4 hX6; clear hown4 hb4 hfar4; rw [hlt1, show ([] : List Int).length + L.length = L.length from Nat.zero_add _])
              | (refine step_append_slice (by rfl) _ _ _ (by rfl) w2.heap.size 2 (.int .i64 0) 1 8 Try.underlying38 infoInt64 rfl (by omega) (by omega) nC [] (L.take L.length) (some ⟨w2.drew.heap.size, 0, none⟩) 0 (by rfl) ((Own.made (w := w2.drew) _ (Nat.le_refl _) rfl).keep (balloc _ _)) (some ⟨g, 0, none⟩) L.length _ (by rw [hlt1]; rfl) (HR1.out _ hYb) nCl nC1 (by rw [hlt1]; simp; omega) hYb.size ?_; rintro A4 c4 w4 hown4 hb4 hfar4; have HO6 : Hid (Own w4 w2.heap.size 2 1 nC A4 c4 (L.take L.length)) := hown4; have hX6 := hYb.trans hb4; have c4x := HCv.out w4 hX6; have cE := (World.cell?_of_block (a := ⟨w2.heap.size + 1, 0, none⟩) (hfar4 (w2.heap.size + 1) hsB (fun b o e => by simp at e; omega)).2).trans HEb.out; have lE : w2.heap.size + 1 < w4.heap.size := Nat.lt_of_lt_of_le hsB hb4.size; clear hown4 hb4 hfar4; rw [hlt1, show ([] : List Int).length + L.length = L.length from Nat.zero_add _])
              | (refine step_append_slice (by rfl) _ _ _ (by rfl) w2.heap.size 2 (.int .i64 0) 1 8 Try.underlying38 infoInt64 rfl (by omega) (by omega) nC [] (L.take L.length) (some ⟨w2.heap.size + 1, 0, none⟩) 0 (by rfl) HOc.out (some ⟨g, 0, none⟩) L.length _ (by rw [hlt1]; rfl) (HR1.out _ hYc) nCl nC1 (by rw [hlt1]; simp; omega) hYc.size ?_; rintro A4 c4 w4 hown4 hb4 hfar4; have HO6 : Hid (Own w4 w2.heap.size 2 1 nC A4 c4 (L.take L.length)) := hown4; have hX6 := hYc.trans hb4; have c4x := HCv.out w4 hX6; have cE := (World.cell?_of_block (a := ⟨w2.heap.size, 0, none⟩) (hfar4 w2.heap.size hsC (fun b o e => by simp at e; omega)).2).trans HEc.out; have lE : w2.heap.size < w4.heap.size := Nat.lt_of_lt_of_le hsC hb4.size; clear hown4 hb4 hfar4; rw [hlt1, show ([] : List Int).length + L.length = L.length from Nat.zero_add _])
              | (refine step_append_el (by rfl) _ _ _ (by rfl) w2.heap.size 2 (.int .i64 0) 1 8 Try.underlying38 infoInt64 rfl (by omega) (by omega) nC (L.take L.length) x A4 c4 (by rw [hlt1]; rfl) HO6.out _ _ (by rfl) lE nCl (one_cell cE) nC1 (by omega) hX6.size ?_; rintro A5 c5 w5 hown5 hb5 _; have HO8 := Lib.hid hown5; have hX8 := (hX6).trans hb5; clear hown5 hb5; rw [hlt1])
              | (refine step_append_el (by rfl) _ _ _ (by rfl) w2.heap.size 2 (.int .i64 0) 1 8 Try.underlying38 infoInt64 rfl (by omega) (by omega) nC (L.take L.length) x A4 c4 (by rw [hlt1]; rfl) (HO6.out.keep (balloc _ _)) _ _ (by rfl) (show w4.heap.size < (w4.alloc (.cells #[.int .i64 x] 2)).heap.size from (by simp)) nCl (one_cell (by go_simp)) nC1 (by omega) (bthen' hX6 (balloc w4 (.cells #[.int .i64 x] 2))).size ?_; rintro A5 c5 w5 hown5 hb5 _; have HO8 := Lib.hid hown5; have hX8 := ((bthen' hX6 (balloc w4 (.cells #[.int .i64 x] 2)))).trans hb5; clear hown5 hb5; rw [hlt1])
              | (refine step_append_slice (by rfl) _ _ _ (by rfl) w2.heap.size 2 (.int .i64 0) 1 8 Try.underlying38 infoInt64 rfl (by omega) (by omega) nC (L.take L.length ++ [x]) (L.drop L.length) A5 c5 (by rw [hl4]; rfl) HO8.out (some ⟨g, 0, none⟩) _ w5.heap.size (by rw [hld1]; rfl) (HDr.out w5 hX8) nCl nC1 (by rw [hl4, hld1]; omega) hX8.size ?_; rintro A6 c6 w6 hown6 hb6 _; have hX9 := hX8.trans hb6; rw [← HIns.out, ← HNext.out] at hown6; have HO7 := Lib.hid (hown6.base hbase); clear hown6 hb6; rw [hl4, hld1, Nat.add_zero]))
            all_goals
              have hl7 : (sizL (xs.take (L.length + 1))).length = L.length + 1 := by rw [sizL_len, List.length_take]; omega
              obtain ⟨g6, rfl, hg61, hg62, _⟩ := HO7.out.some' (by omega)
              go_wp2_with fail
              exact ⟨⟨L.length + 1, g6, c6, by omega, by go_num, rfl, HO7.out, hg61, hg62, hb3.trans (hX9.mono hbase)⟩, by simp [intOf]; omega⟩
          · have HDr : Hid (∀ v : World, Below w2.heap.size w2 v → Rd v v.heap.size 1 nC (some ⟨g, L.length, none⟩) (L.drop L.length)) := fun v hv => by
              have := rd_drop (HT.out.next hv) L.length
              rwa [Nat.zero_add] at this
            have HR1 : Hid (∀ v : World, Below w2.heap.size w2 v → Rd v v.heap.size 1 nC (some ⟨g, 0, none⟩) (L.take L.length)) := fun v hv => (HT.out.next hv).take L.length
            have HCv : Hid (∀ v : World, Below w2.heap.size w2 v → v.cell? ⟨bb, bo + L.length, none⟩ = some (.int .i64 x)) := fun v hv => HCx.out v (hb3.trans (hv.mono hbase))
            have hYa : Below w2.heap.size w2 (w2.drew.alloc (.cells #[] 2)) := bthen' (bdrew w2) (balloc _ _)
            have hYx : Below w2.heap.size w2 (w2.drew.alloc (.cells #[.int .i64 x] 2)) := bthen' (bdrew w2) (balloc _ _)
            have hYb : Below w2.heap.size w2 ((w2.drew.alloc (.cells #[] 2)).alloc (.cells #[.int .i64 x] 2)) := bthen' hYa (balloc _ _)
            have hYc : Below w2.heap.size w2 ((w2.drew.alloc (.cells #[.int .i64 x] 2)).alloc (.cells #[] 2)) := bthen' hYx (balloc _ _)
            have cD := HCv.out w2.drew (bdrew w2)
            have cN := HCv.out (w2.alloc (.cells #[] 2)) (balloc _ _)
            have hsN : (w2.drew.alloc (.cells #[] 2)).heap.size = w2.heap.size + 1 := by simp
            have hsX : (w2.drew.alloc (.cells #[.int .i64 x] 2)).heap.size = w2.heap.size + 1 := by simp
            have hsB : w2.heap.size + 1 < ((w2.drew.alloc (.cells #[] 2)).alloc (.cells #[.int .i64 x] 2)).heap.size := by simp
            have hsC : w2.heap.size < ((w2.drew.alloc (.cells #[.int .i64 x] 2)).alloc (.cells #[] 2)).heap.size := by simp; omega
            have HEb : Hid ((((w2.drew.alloc (.cells #[] 2)).alloc (.cells #[.int .i64 x] 2))).cell? ⟨w2.heap.size + 1, 0, none⟩ = some (.int .i64 x)) := by
              unfold Hid
              rw [← hsN]
              go_simp
            have HEc : Hid ((((w2.drew.alloc (.cells #[.int .i64 x] 2)).alloc (.cells #[] 2))).cell? ⟨w2.heap.size, 0, none⟩ = some (.int .i64 x)) := by
              unfold Hid
              go_simp
            have HOc : Hid (Own ((w2.drew.alloc (.cells #[.int .i64 x] 2)).alloc (.cells #[] 2)) w2.heap.size 2 1 nC (some ⟨w2.heap.size + 1, 0, none⟩) 0 ([] : List Int)) := by
              have h : Own ((w2.drew.alloc (.cells #[.int .i64 x] 2)).alloc (.cells #[] 2)) w2.heap.size 2 1 nC (some ⟨(w2.drew.alloc (.cells #[.int .i64 x] 2)).heap.size, 0, none⟩) 0 ([] : List Int) := Own.made (w := (w2.drew.alloc (.cells #[.int .i64 x] 2))) _ hYx.size rfl
              rwa [hsX] at h
            clear hsN hsX

            go_wp2_with fail
            go_region_law (first
              | (refine step_append_slice (by rfl) _ _ _ (by rfl) w2.heap.size 2 (.int .i64 0) 1 8 Try.underlying38 infoInt64 rfl (by omega) (by omega) nC [] (L.take L.length) (some ⟨w2.drew.heap.size, 0, none⟩) 0 (by rfl) (Own.made (w := w2.drew) _ (Nat.le_refl _) rfl) (some ⟨g, 0, none⟩) c' _ (by rw [hlt1]; rfl) (HR1.out _ hYa) nCl nC1 (by rw [hlt1]; simp; omega) hYa.size ?_; rintro A4 c4 w4 hown4 hb4 hfar4; have HO6 : Hid (Own w4 w2.heap.size 2 1 nC A4 c4 (L.take L.length)) := hown4; have hX6 := hYa.trans hb4; have c4x := HCv.out w4 hX6; clear hown4 hb4 hfar4; rw [hlt1, show ([] : List Int).length + L.length = L.length from Nat.zero_add _])
              | (refine step_append_slice (by rfl) _ _ _ (by rfl) w2.heap.size 2 (.int .i64 0) 1 8 Try.underlying38 infoInt64 rfl (by omega) (by omega) nC [] (L.take L.length) (some ⟨w2.drew.heap.size, 0, none⟩) 0 (by rfl) ((Own.made (w := w2.drew) _ (Nat.le_refl _) rfl).keep (balloc _ _)) (some ⟨g, 0, none⟩) c' _ (by rw [hlt1]; rfl) (HR1.out _ hYb) nCl nC1 (by rw [hlt1]; simp; omega) hYb.size ?_; rintro A4 c4 w4 hown4 hb4 hfar4; have HO6 : Hid (Own w4 w2.heap.size 2 1 nC A4 c4 (L.take L.length)) := hown4; have hX6 := hYb.trans hb4; have c4x := HCv.out w4 hX6; have cE := (World.cell?_of_block (a := ⟨w2.heap.size + 1, 0, none⟩) (hfar4 (w2.heap.size + 1) hsB (fun b o e => by simp at e; omega)).2).trans HEb.out; have lE : w2.heap.size + 1 < w4.heap.size := Nat.lt_of_lt_of_le hsB hb4.size; clear hown4 hb4 hfar4; rw [hlt1, show ([] : List Int).length + L.length = L.length from Nat.zero_add _])
              | (refine step_append_slice (by rfl) _ _ _ (by rfl) w2.heap.size 2 (.int .i64 0) 1 8 Try.underlying38 infoInt64 rfl (by omega) (by omega) nC [] (L.take L.length) (some ⟨w2.heap.size + 1, 0, none⟩) 0 (by rfl) HOc.out (some ⟨g, 0, none⟩) c' _ (by rw [hlt1]; rfl) (HR1.out _ hYc) nCl nC1 (by rw [hlt1]; simp; omega) hYc.size ?_; rintro A4 c4 w4 hown4 hb4 hfar4; have HO6 : Hid (Own w4 w2.heap.size 2 1 nC A4 c4 (L.take L.length)) := hown4; have hX6 := hYc.trans hb4; have c4x := HCv.out w4 hX6; have cE := (World.cell?_of_block (a := ⟨w2.heap.size, 0, none⟩) (hfar4 w2.heap.size hsC (fun b o e => by simp at e; omega)).2).trans HEc.out; have lE : w2.heap.size < w4.heap.size := Nat.lt_of_lt_of_le hsC hb4.size; clear hown4 hb4 hfar4; rw [hlt1, show ([] : List Int).length + L.length = L.length from Nat.zero_add _])
              | (refine step_append_el (by rfl) _ _ _ (by rfl) w2.heap.size 2 (.int .i64 0) 1 8 Try.underlying38 infoInt64 rfl (by omega) (by omega) nC (L.take L.length) x A4 c4 (by rw [hlt1]; rfl) HO6.out _ _ (by rfl) lE nCl (one_cell cE) nC1 (by omega) hX6.size ?_; rintro A5 c5 w5 hown5 hb5 _; have HO8 := Lib.hid hown5; have hX8 := (hX6).trans hb5; clear hown5 hb5; rw [hlt1])
              | (refine step_append_el (by rfl) _ _ _ (by rfl) w2.heap.size 2 (.int .i64 0) 1 8 Try.underlying38 infoInt64 rfl (by omega) (by omega) nC (L.take L.length) x A4 c4 (by rw [hlt1]; rfl) (HO6.out.keep (balloc _ _)) _ _ (by rfl) (show w4.heap.size < (w4.alloc (.cells #[.int .i64 x] 2)).heap.size from (by simp)) nCl (one_cell (by go_simp)) nC1 (by omega) (bthen' hX6 (balloc w4 (.cells #[.int .i64 x] 2))).size ?_; rintro A5 c5 w5 hown5 hb5 _; have HO8 := Lib.hid hown5; have hX8 := ((bthen' hX6 (balloc w4 (.cells #[.int .i64 x] 2)))).trans hb5; clear hown5 hb5; rw [hlt1])
              | (refine step_append_slice (by rfl) _ _ _ (by rfl) w2.heap.size 2 (.int .i64 0) 1 8 Try.underlying38 infoInt64 rfl (by omega) (by omega) nC (L.take L.length ++ [x]) (L.drop L.length) A5 c5 (by rw [hl4]; rfl) HO8.out (some ⟨g, L.length, none⟩) _ w5.heap.size (by rw [hld1]; rfl) (HDr.out w5 hX8) nCl nC1 (by rw [hl4, hld1]; omega) hX8.size ?_; rintro A6 c6 w6 hown6 hb6 _; have hX9 := hX8.trans hb6; rw [← HIns.out, ← HNext.out] at hown6; have HO7 := Lib.hid (hown6.base hbase); clear hown6 hb6; rw [hl4, hld1, Nat.add_zero]))
            all_goals
              have hl7 : (sizL (xs.take (L.length + 1))).length = L.length + 1 := by rw [sizL_len, List.length_take]; omega
              obtain ⟨g6, rfl, hg61, hg62, _⟩ := HO7.out.some' (by omega)
              go_wp2_with fail
              exact ⟨⟨L.length + 1, g6, c6, by omega, by go_num, rfl, HO7.out, hg61, hg62, hb3.trans (hX9.mono hbase)⟩, by simp [intOf]; omega⟩
    · obtain rfl : i = xs.length := by omega
      rw [List.take_length] at hown
      have HF := Lib.hid (hown.flat nCl)
      have HCp := Lib.hid hown.cap
      have HSl := Lib.hid (sizL_len xs)
      clear hown hL
      go_wp2_with fail
      go_ret2
      exact ⟨_, c', by rw [show ((sizL xs, (0 : Int)).1.length) = xs.length from HSl.out]; rfl, HF.out, HCp.out, hb⟩
end Go.Proofs.Ytfdnpobppelhaaa
