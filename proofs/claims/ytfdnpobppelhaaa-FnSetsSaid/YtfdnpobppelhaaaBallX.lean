/- DERIVED. Numbers put in order by the program. -/
import Derived.Test.YtfdnpobppelhaaaBallW
namespace Go.Proofs.Ytfdnpobppelhaaa
set_option maxRecDepth 100000
open Go.RowKit

set_option maxHeartbeats 4000000 in
theorem sorted_any (A : Option Addr) (c : Nat) (xs : List Int) (w : World) (hr : Rd w w.heap.size 1 nC A xs) (hm : xs.length ≤ 1048576) :
    Calls Try.prog 79 #[.slice A xs.length c] w (GivesOwnN w (sizL xs)) := by
  have HC := Lib.hid (copyList_any A c xs w hr hm)
  clear hr
  by_cases h0 : xs.length = 0
  · obtain rfl := List.length_eq_zero_iff.1 h0
    go_enter Try.func79, Try.ntmps79
    go_wp2_with fail
    refine HC.out.mono ?_
    rintro e w1 ⟨A3, c3, rfl, hown, hb⟩
    have HO := Lib.hid hown
    clear hown h0
    go_wp2_with fail
    go_loopw [11] (fun i wr => i = .int .i64 0 ∧ w1 = wr) (fun _ _ => 0)
    case atStart => exact ⟨rfl, rfl⟩
    case round =>
      obtain ⟨rfl, rfl⟩ := hrel
      go_wp2_with fail
      go_ret
      exact ⟨A3, c3, rfl, HO.out, hb⟩
  · have hp : 0 < xs.length := by omega
    go_enter Try.func79, Try.ntmps79
    go_wp2_with fail
    refine HC.out.mono ?_
    rintro e w1 ⟨A3, c3, rfl, hown, hb⟩
    obtain ⟨g, rfl, hg1, hg2, _⟩ := hown.some' hp
    have HO := Lib.hid hown
    clear hown h0
    go_wp2_with fail
    go_loopw [11] (fun x wr => ∃ i : Nat, i ≤ xs.length ∧ x = .int .i64 i ∧ Own wr w.heap.size 2 1 nC (some ⟨g, 0, none⟩) c3 (sizL (xs.take i) ++ xs.drop i) ∧ Below w.heap.size w wr) (fun x _ => xs.length - (intOf x).toNat)
    case atStart => exact ⟨0, Nat.zero_le _, rfl, HO.out, hb⟩
    case round =>
      obtain ⟨i, hi, rfl, hown, hbi⟩ := hrel
      by_cases hlt : i < xs.length
      · have hx : xs[i]? = some xs[i] := List.getElem?_eq_getElem hlt
        rw [sink_start hx] at hown
        have HO1 := Lib.hid hown
        have HX := Lib.hid hx
        generalize xs[i] = x at HO1 HX
        have hL : (sizL (xs.take i)).length = i := by rw [sizL_len, List.length_take]; omega
        have HL := Lib.hid hL
        clear hown hx HO hL
        go_wp2_with fail
        go_loopw [5] (fun z wr => ∃ k : Nat, k ≤ i ∧ z = .int .i64 k ∧ Hid (∀ y, (sizL (xs.take i))[k]? = some y → x < y) ∧ Own wr w.heap.size 2 1 nC (some ⟨g, 0, none⟩) c3 (sinkL xs i k x) ∧ Below w.heap.size w wr) (fun z _ => (intOf z).toNat)
        case atStart => exact ⟨i, Nat.le_refl _, rfl, (fun y hy => by
          have := (List.getElem?_eq_some_iff.1 hy).1
          have := HL.out
          omega), HO1.out, hbi⟩
        case round =>
          obtain ⟨k, hk, rfl, Hg, hown, hbk⟩ := hrel
          have hsl := sink_len (x := x) hlt hk
          obtain ⟨g', e', _, hg3, hcell, hfz⟩ := hown.some' (by omega)
          simp only [Option.some.injEq, Addr.mk.injEq] at e'
          obtain ⟨rfl, _⟩ := e'
          have c0 := hcell k x (sink_here hlt hk)
          have f0 := hfz k
          have f1 := hfz (k - 1)
          have HO2 := Lib.hid hown
          have HSl := Lib.hid hsl
          have hkl : k < xs.length := by omega
          by_cases hk0 : k = 0
          · have HDn := Lib.hid (sink_done HX.out hk (fun y h0 => by omega) (fun y hy => Hg.out y hy))
            subst hk0
            clear hcell hfz hown hsl Hg
            go_wp2_with fail
            go_quiet (fail)
            go_wp2_with fail
            refine ⟨⟨i + 1, by omega, by go_num, ?_, below_drewN hbk _⟩, by simp [intOf]; omega⟩
            rw [← HDn.out]
            exact HO2.out.keep (below_drewN (Below.refl _ _) _)
          · have hpk : 0 < k := by omega
            have hLk : k - 1 < (sizL (xs.take i)).length := by have := HL.out; omega
            have hy : (sizL (xs.take i))[k - 1]? = some (sizL (xs.take i))[k - 1] := List.getElem?_eq_getElem hLk
            have c1 := hcell (k - 1) _ ((sink_prev hlt hk hpk).trans hy)
            have HY := Lib.hid hy
            generalize (sizL (xs.take i))[k - 1] = y at c1 HY
            have hk1 : ((k : Int) - 1).toNat = k - 1 := by omega
            have hkc : ((k - 1 : Nat) : Int) = (k : Int) - 1 := by omega
            clear hcell hfz hown hsl hy hLk hk1 hkc
            by_cases hyx : y ≤ x
            · have HDn := Lib.hid (sink_done HX.out hk (fun z _ hz => by
                rw [HY.out] at hz
                rw [← Option.some.inj hz]
                exact hyx) (fun z hz => Hg.out z hz))
              have hcmp : ¬ x < y := by omega
              clear Hg
              go_wp2_with fail
              go_quiet (fail)
              go_wp2_with fail
              refine ⟨⟨i + 1, by omega, by go_num, ?_, below_drewN hbk _⟩, by simp [intOf]; omega⟩
              rw [← HDn.out]
              exact HO2.out.keep (below_drewN (Below.refl _ _) _)
            · have hcmp : x < y := by omega
              have HSt := Lib.hid (sink_step (x := x) hlt hk hpk HY.out)
              clear Hg
              go_wp2_with fail
              go_quiet (fail)
              go_wp2_with fail
              refine ⟨⟨k - 1, by omega, by congr 1; omega, fun z hz => ?_, ?_, ((below_drewN hbk _).setCell (p := ⟨g, k, none⟩) hg1 _).setCell (p := ⟨g, k - 1, none⟩) hg1 _⟩, by simp [intOf]; omega⟩
              · rw [HY.out] at hz
                rw [← Option.some.inj hz]
                exact hcmp
              · rw [← HSt.out]
                have := HSl.out
                exact ((HO2.out.keep (below_drewN (Below.refl _ _) _)).setN (by omega) y).setN (by rw [List.length_set]; omega) x
      · have e : sizL (xs.take i) ++ xs.drop i = sizL xs := by
          rw [List.take_of_length_le (by omega), List.drop_of_length_le (by omega), List.append_nil]
        rw [e] at hown
        have HO2 := Lib.hid hown
        have HSl := Lib.hid (sizL_len xs)
        clear hown e
        go_wp2_with fail
        go_ret
        exact ⟨_, c3, by rw [HSl.out]; rfl, HO2.out, hbi⟩
end Go.Proofs.Ytfdnpobppelhaaa
