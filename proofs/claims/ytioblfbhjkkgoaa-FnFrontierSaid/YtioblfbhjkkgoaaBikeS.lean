/- DERIVED. All bicycles in the reference; how many, how many nodes. By program (gbike.py). -/
import Derived.Test.YtioblfbhjkkgoaaBike
import Derived.Deep.RegionLaw
namespace Go.Proofs.Ytioblfbhjkkgoaa
set_option maxRecDepth 100000
open Go.RowKit

set_option maxHeartbeats 2000000 in
theorem l18Slots_any (JA : Option Addr) (jc : Nat) (js : List JointT) (w : World) (hr2 : Rd w w.heap.size 3 jointC JA js) (hj12 : js.length ≤ 12) :
    Calls Try.prog 49 #[.slice JA js.length jc] w (GivesOwn w 2 1 nC (slotsOf js)) := by
  have HH : Hid (∀ (v : World) (A : Option Addr) (c : Nat) (xs : List Int) (n : Int), xs.length ≤ 1048576 → Rd v v.heap.size 1 nC A xs → Calls Try.prog 65 #[.slice A xs.length c, .int .i64 n] v fun e w' => e = .returned (.bool (decide (n ∈ xs))) ∧ Below v.heap.size v w') := fun v A c xs n h1 h2 => l01Has_any A c xs n v h2 h1
  go_enter Try.func49, Try.ntmps49
  go_wp2_with fail
  have hOw0 : Own (w.alloc (.cells #[] 2)) w.heap.size 2 1 nC (some ⟨w.heap.size, 0, none⟩) 0 ([] : List Int) := Own.made _ (Nat.le_refl _) rfl
  have hbV := balloc w (.cells #[] 2)
  generalize w.alloc (.cells #[] 2) = V at hOw0 hbV ⊢
  go_loopw [3, 4] (fun out i wr => ∃ (k : Nat) (SA : Option Addr) (sc : Nat) (l : List Int), k ≤ 8 ∧ i = .int .i64 k ∧ out = .slice SA l.length sc ∧ l = slotsTo js k ∧ Own wr w.heap.size 2 1 nC SA sc l ∧ Below w.heap.size w wr) (fun _ i _ => 8 - (intOf i).toNat)
  case atStart => exact ⟨0, _, _, [], by omega, rfl, rfl, rfl, hOw0, hbV⟩
  case round =>
    obtain ⟨k, SA, sc, l, hk, rfl, rfl, hl, hown, hb⟩ := hrel
    have HO := Lib.hid hown; clear hown
    have hll : l.length ≤ 8 := by rw [hl]; have := slotsTo_len js k; omega
    have HL := Lib.hid hl; clear hl
    by_cases hlt : k < 8
    · have hkd : decide ((k : Int) < 8) = true := by simp; omega
      have HNk : Hid ((k : Int) ∉ slotsTo js k) := fun h => by have := slotsTo_mem h; omega
      go_wp2_with fail
      go_loopw [3, 5] (fun out i wi => ∃ (q : Nat) (SA2 : Option Addr) (sc2 : Nat) (l2 : List Int), q ≤ js.length ∧ i = .int .i64 q ∧ out = .slice SA2 l2.length sc2 ∧ l2 = (if (js.take q).any (touchJ (k : Int)) = true then slotsTo js k ++ [(k : Int)] else slotsTo js k) ∧ l2.length ≤ 9 ∧ Own wi w.heap.size 2 1 nC SA2 sc2 l2 ∧ Below w.heap.size w wi) (fun _ i _ => js.length - (intOf i).toNat)
      case atStart => exact ⟨0, SA, sc, l, Nat.zero_le _, rfl, rfl, by rw [HL.out]; simp, by omega, HO.out, hb⟩
      case round =>
        obtain ⟨q, SA2, sc2, l2, hq, rfl, rfl, hl2, hl9, hown2, hb2⟩ := hrel
        have HO2 := Lib.hid hown2; clear hown2
        have HL2 := Lib.hid hl2; clear hl2
        have hWs := hb2.size
        by_cases hqlt : q < js.length
        · have hx : js[q]? = some js[q] := List.getElem?_eq_getElem hqlt
          obtain ⟨jb, jo, rfl, hB, r0, r1, r2⟩ := (hr2.below hb2).at3 hx rfl
          generalize js[q] = t at r0 r1 r2 hx
          have HX : Hid ((js.take (q + 1)).any (touchJ (k : Int)) = ((js.take q).any (touchJ (k : Int)) || touchJ (k : Int) t)) := by
            unfold Hid
            rw [List.take_add_one, hx, List.any_append]
            simp
          clear hx
          generalize (js.take q).any (touchJ (k : Int)) = a0 at HX HL2
          have hHas := HH.out wr SA2 sc2 l2 (k : Int) (by omega) (HO2.out.flat (fun _ => rfl)).rd
          by_cases h1 : t.1 = (k : Int)
          · have h1b : (t.1 == (k : Int)) = true := by simp [h1]
            have HTch : Hid (touchJ (k : Int) t = true) := by unfold Hid; simp [touchJ, h1]
            clear h1
            cases a0 with
            | true =>
              have HD : Hid (decide ((k : Int) ∈ l2) = true) := by
                unfold Hid
                rw [HL2.out, if_pos rfl]
                simp
              rw [HD.out] at hHas
              have HHas := Lib.hid hHas; clear hHas
              have HL3 : Hid (l2 = (if (js.take (q + 1)).any (touchJ (k : Int)) = true then slotsTo js k ++ [(k : Int)] else slotsTo js k)) := by
                unfold Hid
                rw [HX.out, HL2.out]
                simp
              go_wp2_with fail
              refine HHas.out.mono ?_
              rintro e w6 ⟨rfl, hb6⟩
              have HO6 := Lib.hid (HO2.out.keep hb6)
              have hb26 := bthen' hb2 hb6
              go_wp2_with fail
              exact ⟨⟨q + 1, SA2, sc2, l2, by omega, by go_num, rfl, HL3.out, hl9, HO6.out, hb26⟩, by simp [intOf]; omega⟩
            | false =>
              have HD : Hid (decide ((k : Int) ∈ l2) = false) := by
                unfold Hid
                rw [HL2.out, if_neg (by simp)]
                exact decide_eq_false HNk.out
              rw [HD.out] at hHas
              have HHas := Lib.hid hHas; clear hHas
              have hl8 : l2.length ≤ 8 := by
                rw [HL2.out, if_neg (by simp)]
                have := slotsTo_len js k
                omega
              have HL3 : Hid (l2 ++ [(k : Int)] = (if (js.take (q + 1)).any (touchJ (k : Int)) = true then slotsTo js k ++ [(k : Int)] else slotsTo js k)) := by
                unfold Hid
                rw [HX.out, HTch.out, HL2.out]
                simp
              go_wp2_with fail
              refine HHas.out.mono ?_
              rintro e w6 ⟨rfl, hb6⟩
              have HO6 := Lib.hid (HO2.out.keep hb6)
              have hb26 := bthen' hb2 hb6
              have hs6 := hb26.size
              go_wp2_with (at_builtin; refine wpList_append_el rfl _ _ _ rfl (w.heap.size) 2 (.int .i64 0) 1 8 Try.underlying47 infoInt64 rfl (by omega) (by omega) nC l2 (k : Int) SA2 sc2 rfl (HO6.out.keep (balloc _ _)) (w6.heap.size) _ rfl rfl (one_cell (by go_simp)) (by simp [nC]; rfl) (by omega) (by simp; omega) ?_)
              intro A7 c7 w7 hown7 _ hb7
              have HO7 := Lib.hid hown7; clear hown7
              have hb27 := (hb26.alloc hs6 (.cells #[.int .i64 (k : Int)] 2)).trans hb7
              go_wp2_with fail
              exact ⟨⟨q + 1, A7, c7, l2 ++ [(k : Int)], by omega, by go_num, by simp, HL3.out, by simp; omega, HO7.out, hb27⟩, by simp [intOf]; omega⟩
          · have h1b : (t.1 == (k : Int)) = false := by simp [h1]
            by_cases h2 : t.2.1 = (k : Int)
            · have h2b : (t.2.1 == (k : Int)) = true := by simp [h2]
              have HTch : Hid (touchJ (k : Int) t = true) := by unfold Hid; simp [touchJ, h2]
              clear h1 h2
              cases a0 with
              | true =>
                have HD : Hid (decide ((k : Int) ∈ l2) = true) := by
                  unfold Hid
                  rw [HL2.out, if_pos rfl]
                  simp
                rw [HD.out] at hHas
                have HHas := Lib.hid hHas; clear hHas
                have HL3 : Hid (l2 = (if (js.take (q + 1)).any (touchJ (k : Int)) = true then slotsTo js k ++ [(k : Int)] else slotsTo js k)) := by
                  unfold Hid
                  rw [HX.out, HL2.out]
                  simp
                go_wp2_with fail
                refine HHas.out.mono ?_
                rintro e w6 ⟨rfl, hb6⟩
                have HO6 := Lib.hid (HO2.out.keep hb6)
                have hb26 := bthen' hb2 hb6
                go_wp2_with fail
                exact ⟨⟨q + 1, SA2, sc2, l2, by omega, by go_num, rfl, HL3.out, hl9, HO6.out, hb26⟩, by simp [intOf]; omega⟩
              | false =>
                have HD : Hid (decide ((k : Int) ∈ l2) = false) := by
                  unfold Hid
                  rw [HL2.out, if_neg (by simp)]
                  exact decide_eq_false HNk.out
                rw [HD.out] at hHas
                have HHas := Lib.hid hHas; clear hHas
                have hl8 : l2.length ≤ 8 := by
                  rw [HL2.out, if_neg (by simp)]
                  have := slotsTo_len js k
                  omega
                have HL3 : Hid (l2 ++ [(k : Int)] = (if (js.take (q + 1)).any (touchJ (k : Int)) = true then slotsTo js k ++ [(k : Int)] else slotsTo js k)) := by
                  unfold Hid
                  rw [HX.out, HTch.out, HL2.out]
                  simp
                go_wp2_with fail
                refine HHas.out.mono ?_
                rintro e w6 ⟨rfl, hb6⟩
                have HO6 := Lib.hid (HO2.out.keep hb6)
                have hb26 := bthen' hb2 hb6
                have hs6 := hb26.size
                go_wp2_with (at_builtin; refine wpList_append_el rfl _ _ _ rfl (w.heap.size) 2 (.int .i64 0) 1 8 Try.underlying47 infoInt64 rfl (by omega) (by omega) nC l2 (k : Int) SA2 sc2 rfl (HO6.out.keep (balloc _ _)) (w6.heap.size) _ rfl rfl (one_cell (by go_simp)) (by simp [nC]; rfl) (by omega) (by simp; omega) ?_)
                intro A7 c7 w7 hown7 _ hb7
                have HO7 := Lib.hid hown7; clear hown7
                have hb27 := (hb26.alloc hs6 (.cells #[.int .i64 (k : Int)] 2)).trans hb7
                go_wp2_with fail
                exact ⟨⟨q + 1, A7, c7, l2 ++ [(k : Int)], by omega, by go_num, by simp, HL3.out, by simp; omega, HO7.out, hb27⟩, by simp [intOf]; omega⟩
            · have h2b : (t.2.1 == (k : Int)) = false := by simp [h2]
              have HL3 : Hid (l2 = (if (js.take (q + 1)).any (touchJ (k : Int)) = true then slotsTo js k ++ [(k : Int)] else slotsTo js k)) := by
                unfold Hid
                rw [HX.out, show touchJ (k : Int) t = false from by simp [touchJ, h1, h2], Bool.or_false]
                exact HL2.out
              clear h1 h2
              go_wp2_with fail
              exact ⟨⟨q + 1, SA2, sc2, l2, by omega, by go_num, rfl, HL3.out, hl9, HO2.out, hb2⟩, by simp [intOf]; omega⟩
        · have HT : Hid (l2 = slotsTo js (k + 1)) := by
            unfold Hid
            have := HL2.out
            rw [List.take_of_length_le (by omega)] at this
            rw [this]
            by_cases e : js.any (touchJ (k : Int)) = true
            · rw [if_pos e]; exact (slotsTo_yes e).symm
            · rw [if_neg e]; exact (slotsTo_no (by simpa [touched] using e)).symm
          go_wp2_with fail
          exact ⟨⟨k + 1, SA2, sc2, l2, by omega, by go_num, rfl, HT.out, HO2.out, hb2⟩, by simp [intOf]; omega⟩
    · obtain rfl : k = 8 := by omega
      go_wp2_with fail
      go_ret
      have := HL.out
      subst this
      exact ⟨SA, sc, rfl, HO.out.flat (fun _ => rfl), HO.out.cap, hb⟩

def GivesAllS (w : World) (bss : List (List ByteArray)) (e : Ending) (w' : World) : Prop := ∃ (A : Option Addr) (c : Nat) (ms : List RowM), e = .returned (.slice A ms.length c) ∧ ms.map RowM.bs = bss ∧ Flat w' w.heap.size w'.heap.size 44 1 rowC A ms ∧ RowsF w' 0 w'.heap.size ms ∧ Below w.heap.size w w'
set_option maxHeartbeats 2000000 in
theorem l18All_any (LA JA : Option Addr) (lc jc : Nat) (vs : List PartT) (js : List JointT) (w : World) (hr : RdV w w.heap.size LA vs) (hr2 : Rd w w.heap.size 3 jointC JA js) (hs : SmallV vs) (hb : bothB vs js = true) :
    Calls Try.prog 25 #[.slice LA vs.length lc, .slice JA js.length jc] w (GivesAllS w (allB vs js)) := by
  obtain ⟨hp, hj⟩ := bothB_true hb
  have hj12 := (jointsB_in hj).1
  have hmk : ∀ W : World, (Instr.makeSlice 44 (.int .i64 8) (.int .i64 8)).run Try.prog W = .ok (.slice (some ⟨W.heap.size, 0, none⟩) 8 8) (W.alloc (.cells (madeCells (Value.string ⟨#[]⟩).cells 8) 9)) := fun W => made Try.underlying44 infoString 8 (by omega) (by omega) W
  have HSl : Hid (∀ v : World, Rd v v.heap.size 3 jointC JA js → Calls Try.prog 49 #[.slice JA js.length jc] v (GivesOwn v 2 1 nC (slotsOf js))) := fun v h => l18Slots_any JA jc js v h hj12
  have HSe : Hid (∀ (v : World) (bA sA : Option Addr) (sc : Nat), (slotsOf js).length ≤ sc → RdV v v.heap.size LA vs → Rd v v.heap.size 3 jointC JA js → Flat v 0 v.heap.size 9 1 tC bA bare → Rd v v.heap.size 1 nC sA (slotsOf js) → Calls Try.prog 48 #[.slice LA vs.length lc, .slice JA js.length jc, .slice bA 8 8, .slice sA (slotsOf js).length sc] v (GivesSearch v (tr vs js))) := fun v bA sA sc h1 h2 h3 h4 h5 => by
    obtain ⟨k1, k2, k3⟩ := slotsOf_ok js
    exact search_all LA JA lc jc vs js hs hp hj (slotsOf js) k1 k2 bare (codes_bare hp) bA sA 8 sc (by decide) h1 v h2 h3 h4 h5
  have hsl8 := (slotsOf_ok js).2.2
  have hbf : ∀ W : World, Flat (W.alloc (.cells (madeCells (Value.string ⟨#[]⟩).cells 8) 9)) 0 (W.alloc (.cells (madeCells (Value.string ⟨#[]⟩).cells 8) 9)).heap.size 9 1 tC (some ⟨W.heap.size, 0, none⟩) bare := fun W => (bare_flat W).mono (Nat.zero_le _) (by simp)
  have HBF := Lib.hid hbf; clear hbf
  clear hs hb hp hj
  have hb0 : Below w.heap.size w w := Below.refl _ _
  go_enter Try.func25, Try.ntmps25
  go_wp2_with fail
  have hrW := hr.next hb0
  have hr2W := hr2.next hb0
  go_region_law (first
    | (go_simp; go_at_call 49; (first
        | ((with_reducible refine (HSl.out w.drew (hr2W.next (bdrew _))).mono ?_); rintro e w3 ⟨sA, sc, rfl, fsl, hscl, hb3⟩; have HFA : True := trivial; have HB3 := Lib.hid (bthen (bdrew w) hb3); have HFS := Lib.hid fsl.rd; clear fsl hb3)
        | (change Calls _ _ _ (w.drew.alloc (.cells (madeCells (Value.string ⟨#[]⟩).cells 8) 9)) _; refine (HSl.out (w.drew.alloc (.cells (madeCells (Value.string ⟨#[]⟩).cells 8) 9)) ((hr2W.next (bdrew _)).next (balloc _ _))).mono ?_; rintro e w3 ⟨sA, sc, rfl, fsl, hscl, hb3⟩; have HFA := Lib.hid (((HBF.out w.drew).below hb3 (Nat.le_refl _)).mono (Nat.le_refl _) hb3.size); have HB3 := Lib.hid (bthen (bthen (bdrew w) (balloc _ _)) hb3); have HFS := Lib.hid fsl.rd; clear fsl hb3)); go_wp2_with fail)
    | (go_simp; go_at_call 48; (first
        | (refine (HSe.out w3 (some ⟨w.heap.size, 0, none⟩) sA sc hscl (hrW.next HB3.out) (hr2W.next HB3.out) HFA.out HFS.out).mono ?_; rintro e w5 ⟨RA, rc, ms, NA, nc, rfl, hms, fms, rms, fns, hb5⟩; have HB5 := Lib.hid (bthen HB3.out hb5))
        | (change Calls _ _ _ (w3.alloc (.cells (madeCells (Value.string ⟨#[]⟩).cells 8) 9)) _; refine (HSe.out (w3.alloc (.cells (madeCells (Value.string ⟨#[]⟩).cells 8) 9)) (some ⟨w3.heap.size, 0, none⟩) sA sc hscl ((hrW.next HB3.out).next (balloc _ _)) ((hr2W.next HB3.out).next (balloc _ _)) (HBF.out w3) (HFS.out.next (balloc _ _))).mono ?_; rintro e w5 ⟨RA, rc, ms, NA, nc, rfl, hms, fms, rms, fns, hb5⟩; have HB5 := Lib.hid (bthen (bthen HB3.out (balloc _ _)) hb5))); go_wp2_with fail))
  all_goals
    go_wp2_with fail
    go_ret
    exact ⟨RA, rc, ms, rfl, hms, fms.mono (by have := HB5.out.size; have := HB3.out.size; first | omega | (simp; omega)) (Nat.le_refl _), rms, HB5.out⟩
end Go.Proofs.Ytioblfbhjkkgoaa
