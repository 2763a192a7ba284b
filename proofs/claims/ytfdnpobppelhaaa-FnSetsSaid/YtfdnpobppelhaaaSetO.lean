/- DERIVED. The order of balls by the specification, and its code. By program (gseto.py). -/
import Derived.Test.YtfdnpobppelhaaaSetP
import Derived.Test.YtfdnpobppelhaaaFewS
import Derived.Test.YtfdnpobppelhaaaOwn3
import Derived.Test.YtfdnpobppelhaaaSetR
import Derived.StillTailTactics
namespace Go.Proofs.Ytfdnpobppelhaaa
set_option maxRecDepth 100000
open Go.RowKit

set_option maxHeartbeats 1000000 in
theorem l15Balls_any (A : Option Addr) (c : Nat) (bs : List Int) (n tol : Int) (w : World) (hr : Rd w w.heap.size 1 nC A bs) (hm : bs.length ≤ 1048576) :
    Calls Try.prog 80 #[.slice A bs.length c, .int .i64 n, .int .i64 tol] w fun e w' => e = .returned (.int .i64 (codeN bs n tol)) ∧ w = w' := by
  have HIn := Lib.hid (l01In_any n 3 40 w)
  have HIt := Lib.hid (l01In_any tol 0 1000 w)
  have HBad := Lib.hid (codeN_bad (bs := bs) (n := n) (tol := tol))
  have HRg := Lib.hid (codeN_range (bs := bs) (n := n) (tol := tol))
  have HOk := Lib.hid (codeN_ok (bs := bs) (n := n) (tol := tol))
  generalize codeN bs n tol = K at *
  go_enter Try.func80, Try.ntmps80
  go_wp2_with fail
  go_loopw [7] (fun i wr => ∃ k : Nat, k ≤ bs.length ∧ i = .int .i64 k ∧ w = wr ∧ ((bs.take k).all fun n => inB n 1000 20000) = true) (fun i _ => bs.length - (intOf i).toNat)
  case atStart => exact ⟨0, Nat.zero_le _, rfl, rfl, rfl⟩
  case round =>
    obtain ⟨k, hk, rfl, rfl, hall⟩ := hrel
    have Ha := Lib.hid hall; clear hall
    by_cases hlt : k < bs.length
    · have hx : bs[k]? = some bs[k] := List.getElem?_eq_getElem hlt
      obtain ⟨b, o, rfl, hB, q0⟩ := hr.at1 hx rfl
      rw [Nat.mul_one] at q0
      have hx1 : Hid (inB bs[k] 1000 20000 = false → ballsB bs = false) := fun h => by
        unfold ballsB
        rw [all_out hlt h, Bool.and_false]
      have hy1 : Hid (inB bs[k] 1000 20000 = true → ((bs.take (k + 1)).all fun n => inB n 1000 20000) = true) := fun h => by rw [all_snoc hlt, Ha.out, h]; rfl
      generalize bs[k] = t at q0 hx1 hy1
      have hI := Lib.hid (l01In_any t 1000 20000 w)
      clear hx
      generalize inB t 1000 20000 = bt at hI hx1 hy1
      cases bt with
      | false =>
        have HF := Lib.hid (HBad.out (hx1.out rfl))
        go_wp2_with (go_at_call 102; refine hI.out.mono ?_; rintro e w' ⟨rfl, rfl⟩)
        go_ret
        exact ⟨by rw [HF.out]; rfl, rfl⟩
      | true =>
        have HF := Lib.hid (hy1.out rfl)
        go_wp2_with (go_at_call 102; refine hI.out.mono ?_; rintro e w' ⟨rfl, rfl⟩)
        exact ⟨⟨k + 1, by omega, by go_num, trivial, HF.out⟩, by simp [intOf]; omega⟩
    · have hT := Ha.out
      rw [List.take_of_length_le (by omega)] at hT
      have HT := Lib.hid hT
      clear hT
      by_cases h60 : bs.length ≤ 60
      · have HB : Hid (ballsB bs = true) := by
          unfold Hid ballsB
          rw [HT.out, decide_eq_true h60]
          rfl
        cases hn : inB n 3 40 with
        | false =>
          have HF := Lib.hid (HRg.out HB.out (by rw [hn]; rfl))
          rw [hn] at HIn
          go_wp2_with (go_at_call 102; refine HIn.out.mono ?_; rintro e w' ⟨rfl, rfl⟩)
          go_ret
          exact ⟨by rw [HF.out]; rfl, rfl⟩
        | true =>
          cases ht : inB tol 0 1000 with
          | false =>
            have HF := Lib.hid (HRg.out HB.out (by rw [hn, ht]; rfl))
            rw [hn] at HIn
            rw [ht] at HIt
            go_wp2_with fail
            refine HIn.out.mono ?_
            rintro e w' ⟨rfl, rfl⟩
            go_wp2_with fail
            refine HIt.out.mono ?_
            rintro e w' ⟨rfl, rfl⟩
            go_wp2_with fail
            go_ret
            exact ⟨by rw [HF.out]; rfl, rfl⟩
          | true =>
            have HF := Lib.hid (HOk.out HB.out (by rw [hn, ht]; rfl))
            rw [hn] at HIn
            rw [ht] at HIt
            go_wp2_with fail
            refine HIn.out.mono ?_
            rintro e w' ⟨rfl, rfl⟩
            go_wp2_with fail
            refine HIt.out.mono ?_
            rintro e w' ⟨rfl, rfl⟩
            go_wp2_with fail
            go_ret
            exact ⟨by rw [HF.out]; rfl, rfl⟩
      · have HF : Hid (K = 1) := HBad.out (by
          unfold ballsB
          rw [decide_eq_false h60]
          rfl)
        go_wp2_with fail
        go_ret
        exact ⟨by rw [HF.out]; rfl, rfl⟩

set_option maxHeartbeats 4000000 in
theorem l15Order_any (A : Option Addr) (c : Nat) (bs : List Int) (w : World) (hr : Rd w w.heap.size 1 nC A bs) (hm : bs.length ≤ 60) :
    Calls Try.prog 81 #[.slice A bs.length c] w (GivesOwnN w (ordL bs)) := by
  have HRd := Lib.hid hr
  clear hr
  go_enter Try.func81, Try.ntmps81
  go_wp2_with fail
  go_loopw [3, 4] (fun out x wr => ∃ (i g c' : Nat), i ≤ bs.length ∧ x = .int .i64 i ∧ out = .slice (some ⟨g, 0, none⟩) i c' ∧ Own wr w.heap.size 2 1 nC (some ⟨g, 0, none⟩) c' (srt (bAt bs) (idxL i)) ∧ w.heap.size ≤ g ∧ g < wr.heap.size ∧ Below w.heap.size w wr) (fun _ x _ => bs.length - (intOf x).toNat)
  case atStart => exact ⟨0, w.heap.size, 0, Nat.zero_le _, rfl, rfl, Own.made _ (Nat.le_refl _) rfl, Nat.le_refl _, by simp, balloc w _⟩
  case round =>
    obtain ⟨i, g, c', hi, rfl, rfl, hown, hgl, hgu, hb⟩ := hrel
    have hL : (srt (bAt bs) (idxL i)).length = i := by rw [srt_len, idxL_len]
    by_cases hlt : i < bs.length
    · have HL := Lib.hid hL
      have HO := Lib.hid hown
      have HNext := Lib.hid (srt_snoc (bAt bs) (idxL i) (i : Int))
      rw [← idxL_succ] at HNext
      have HIn : Hid (∀ y ∈ srt (bAt bs) (idxL i), ∃ j : Nat, y = (j : Int) ∧ j < i) := fun y hy => idxL_mem (srt_mem.1 hy)
      have HAsc := Lib.hid (srt_asc (bAt bs) (idxL i))
      have hx : bs[i]? = some bs[i] := List.getElem?_eq_getElem hlt
      have HBi := Lib.hid (bAt_of hx)
      obtain ⟨bb, bo, rfl, _, b0⟩ := (HRd.out.next hb).at1 hx rfl
      have HBc : Hid (∀ (v : World) (j : Nat) (y : Int), Below w.heap.size w v → bs[j]? = some y → v.cell? ⟨bb, bo + j, none⟩ = some (.int .i64 y)) := fun v j y hv hj => (HRd.out.next hv).at1' hj
      clear b0
      generalize hbi : bs[i] = x at hx HBi
      have HX := Lib.hid hx
      clear hx hbi hown hL
      generalize srt (bAt bs) (idxL i) = L at HO HL HNext HIn HAsc
      have hLi := HL.out
      subst hLi
      have hcap := HO.out.cap
      go_wp2_with fail
      go_loopw [5] (fun z wr2 => ∃ k : Nat, k ≤ L.length ∧ z = .int .i64 k ∧ Hid (∀ y, 0 < k → L[k - 1]? = some y → bAt bs y ≤ x) ∧ Own wr2 w.heap.size 2 1 nC (some ⟨g, 0, none⟩) c' L ∧ g < wr2.heap.size ∧ Below w.heap.size w wr2) (fun z _ => L.length - (intOf z).toNat)
      case atStart => exact ⟨0, Nat.zero_le _, rfl, (fun y h => absurd h (by omega)), HO.out, hgu, hb⟩
      case round =>
        obtain ⟨k, hk, rfl, Hg, hown, hgr, hbk⟩ := hrel
        have HO2 := Lib.hid hown
        have cx := HBc.out wr L.length x hbk HX.out
        clear hown
        by_cases hkl : k < L.length
        · have hy : L[k]? = some L[k] := List.getElem?_eq_getElem hkl
          have c1 := (HO2.out.flat nCl).rd.at1' hy
          rw [Nat.zero_add] at c1
          obtain ⟨j, ej, hji⟩ := HIn.out _ (List.mem_of_getElem? hy)
          have hjl : j < bs.length := by omega
          have hv : bs[j]? = some bs[j] := List.getElem?_eq_getElem hjl
          have cv := HBc.out wr j _ hbk hv
          have HV : Hid (∀ y, L[k]? = some y → bAt bs y = bs[j]) := fun y h => by
            rw [hy] at h
            rw [← Option.some.inj h, ej]
            exact bAt_of hv
          rw [ej] at c1
          generalize bs[j] = v at cv HV
          clear hy hv ej
          by_cases hvx : v ≤ x
          · go_wp2_with fail
            go_quiet (fail)
            go_wp2_with fail
            exact ⟨⟨k + 1, by omega, by go_num, fun y _ h => by rw [HV.out y (by simpa using h)]; exact hvx, HO2.out.keep (below_drewN (Below.refl _ _) _), Nat.lt_of_lt_of_le hgr (below_drewN (Below.refl wr.heap.size _) _).size, below_drewN hbk _⟩, by simp [intOf]; omega⟩
          · have HStop : Hid (∀ y, L[k]? = some y → x < bAt bs y) := fun y h => by
              rw [HV.out y h]
              omega
            go_wp2_with fail
            have hdr : ∀ m, Below wr.heap.size wr (wr.drewN m) := fun m => below_drewN (Below.refl _ _) _
            go_quiet (fail)
            have HO3 := Lib.hid (HO2.out.keep (hdr nq))
            have hb3 := bthen' hbk (hdr nq)
            have hg3 : g < (wr.drewN nq).heap.size := Nat.lt_of_lt_of_le hgr (hdr nq).size
            generalize wr.drewN nq = w2 at HO3 hb3 hg3 ⊢
            have hbase : w.heap.size ≤ w2.heap.size := hb3.size
            have HIns : Hid (insF (bAt bs) (L.length : Int) L = L.take k ++ [(L.length : Int)] ++ L.drop k) := by
              have := insF_at HAsc.out (by omega) (fun y h1 h2 => by rw [HBi.out]; exact Hg.out y h1 h2) (fun y h2 => by rw [HBi.out]; exact HStop.out y h2)
              unfold Hid
              rw [this]
              simp
            clear Hg HStop HAsc HIn HO2 HO HBi HBc cx
            have HT := Lib.hid ((HO3.out.flat nCl).rd)
            have hlt1 : (L.take k).length = k := by rw [List.length_take]; omega
            have hld1 : (L.drop k).length = L.length - k := List.length_drop
            have hl4 : (L.take k ++ [(L.length : Int)]).length = k + 1 := by rw [List.length_append, hlt1]; rfl
            have hsum : k + 1 + (L.length - k) = L.length + 1 := by omega
            have hkc : (k : Int) ≤ (c' : Int) := by omega
            have hkL : (k : Int) ≤ (L.length : Int) := by omega
            have hck : ¬ c' = k := by omega
            have HDr : Hid (∀ v : World, Below w2.heap.size w2 v → Rd v v.heap.size 1 nC (some ⟨g, k, none⟩) (L.drop k)) := fun v hv => by
              have := rd_drop (HT.out.next hv) k
              rwa [Nat.zero_add] at this
            have HC : Hid (∀ v : World, Below w2.heap.size w2 v → Calls Try.prog 109 #[.slice (some ⟨g, 0, none⟩) k c'] v (GivesNew v (L.take k))) := fun v hv => by
              have := l01Own_any (some ⟨g, 0, none⟩) c' (L.take k) v ((HT.out.next hv).take k) (by omega)
              rwa [hlt1] at this
            have hY2 : Below w2.heap.size w2 (w2.drew.alloc (.cells #[.int .i64 L.length] 2)) := bthen' (bdrew w2) (balloc _ _)
            have HC1 := Lib.hid (HC.out w2.drew (bdrew w2))
            have HC2 := Lib.hid (HC.out (w2.drew.alloc (.cells #[.int .i64 L.length] 2)) hY2)
            have HcE : Hid (((w2.drew.alloc (.cells #[.int .i64 L.length] 2))).cell? ⟨w2.drew.heap.size, 0, none⟩ = some (.int .i64 L.length)) := by unfold Hid; go_simp
            clear HC

            go_wp2_with fail
            go_region_law (first
              | (go_simp; go_at_call 109; (first
                  | (refine HC1.out.mono ?_; rintro e w3 ⟨A3, c3, rfl, hown3, hb3'⟩; have HO5 : Hid (Own (w3.alloc (.cells #[.int .i64 L.length] 2)) w2.heap.size 2 1 nC A3 c3 (L.take k)) := hown3.keep (balloc _ _); have hX5 : Below w2.heap.size w2 (w3.alloc (.cells #[.int .i64 L.length] 2)) := bthen' (bthen' (bdrew w2) hb3') (balloc _ _); clear hown3 hb3'; rw [hlt1]; go_wp2_with fail)
                  | (refine HC2.out.mono ?_; rintro e w3 ⟨A3, c3, rfl, hown3, hb3'⟩; have HO5 : Hid (Own w3 w2.heap.size 2 1 nC A3 c3 (L.take k)) := hown3.base hY2.size; have hX5 : Below w2.heap.size w2 w3 := bthen' hY2 hb3'; have hL5 : w2.drew.heap.size < w3.heap.size := Nat.lt_of_lt_of_le (show w2.drew.heap.size < ((w2.drew.alloc (.cells #[.int .i64 L.length] 2))).heap.size from (by simp)) hb3'.size; have cE := (hb3'.cell (p := ⟨w2.drew.heap.size, 0, none⟩) (by simp)).trans HcE.out; clear hown3 hb3'; rw [hlt1]; go_wp2_with fail)))
              | (first
                  | (refine step_append_el (by rfl) _ _ _ (by rfl) w2.heap.size 2 (.int .i64 0) 1 8 Try.underlying38 infoInt64 rfl (by omega) (by omega) nC (L.take k) (L.length : Int) A3 c3 (by rw [hlt1]; rfl) HO5.out w2.drew.heap.size _ (by rfl) hL5 nCl (one_cell cE) nC1 (by omega) hX5.size ?_; rintro A4 c4 w4 hown4 hb4 _; have HO6 := Lib.hid hown4; have hX6 := hX5.trans hb4; clear hown4 hb4; rw [hlt1])
                  | (refine step_append_el (by rfl) _ _ _ (by rfl) w2.heap.size 2 (.int .i64 0) 1 8 Try.underlying38 infoInt64 rfl (by omega) (by omega) nC (L.take k) (L.length : Int) A3 c3 (by rw [hlt1]; rfl) HO5.out w3.heap.size _ (by rfl) (by simp) nCl (one_cell (by go_simp)) nC1 (by omega) hX5.size ?_; rintro A4 c4 w4 hown4 hb4 _; have HO6 := Lib.hid hown4; have hX6 := hX5.trans hb4; clear hown4 hb4; rw [hlt1]))
              | (refine step_append_slice (by rfl) _ _ _ (by rfl) w2.heap.size 2 (.int .i64 0) 1 8 Try.underlying38 infoInt64 rfl (by omega) (by omega) nC (L.take k ++ [(L.length : Int)]) (L.drop k) A4 c4 (by rw [hl4]; rfl) HO6.out (some ⟨g, k, none⟩) _ w4.heap.size (by rw [hld1]; rfl) (HDr.out w4 hX6) nCl nC1 (by rw [hl4, hld1]; omega) hX6.size ?_; rintro A6 c6 w6 hown6 hb6 _; have hX7 := hX6.trans hb6; rw [← HIns.out, ← HNext.out] at hown6; have HO7 := Lib.hid (hown6.base hbase); clear hown6 hb6; rw [hl4, hld1, hsum]))
            all_goals
              have hl7 : (srt (bAt bs) (idxL (L.length + 1))).length = L.length + 1 := by rw [srt_len, idxL_len]
              obtain ⟨g6, rfl, hg61, hg62, _⟩ := HO7.out.some' (by omega)
              go_wp2_with fail
              exact ⟨⟨L.length + 1, g6, c6, by omega, by go_num, rfl, HO7.out, hg61, hg62, hb3.trans (hX7.mono hbase)⟩, by simp [intOf]; omega⟩
        · obtain rfl : k = L.length := by omega
          have HStop : Hid (∀ y, L[L.length]? = some y → x < bAt bs y) := fun y h => by
            rw [List.getElem?_eq_none (Nat.le_refl _)] at h
            exact absurd h (by simp)
          go_wp2_with fail
          have hdr : ∀ m, Below wr.heap.size wr (wr.drewN m) := fun m => below_drewN (Below.refl _ _) _
          go_quiet (fail)
          have HO3 := Lib.hid (HO2.out.keep (hdr nq))
          have hb3 := bthen' hbk (hdr nq)
          have hg3 : g < (wr.drewN nq).heap.size := Nat.lt_of_lt_of_le hgr (hdr nq).size
          generalize wr.drewN nq = w2 at HO3 hb3 hg3 ⊢
          have hbase : w.heap.size ≤ w2.heap.size := hb3.size
          have HIns : Hid (insF (bAt bs) (L.length : Int) L = L.take L.length ++ [(L.length : Int)] ++ L.drop L.length) := by
            have := insF_at HAsc.out (by omega) (fun y h1 h2 => by rw [HBi.out]; exact Hg.out y h1 h2) (fun y h2 => by rw [HBi.out]; exact HStop.out y h2)
            unfold Hid
            rw [this]
            simp
          clear Hg HStop HAsc HIn HO2 HO HBi HBc cx
          have HT := Lib.hid ((HO3.out.flat nCl).rd)
          have hlt1 : (L.take L.length).length = L.length := by rw [List.length_take]; omega
          have hld1 : (L.drop L.length).length = 0 := by rw [List.length_drop]; omega
          have hl4 : (L.take L.length ++ [(L.length : Int)]).length = L.length + 1 := by rw [List.length_append, hlt1]; rfl
          have hsum : L.length + 1 + 0 = L.length + 1 := rfl
          have hkc : (L.length : Int) ≤ (c' : Int) := by omega
          have hkL : (L.length : Int) ≤ (L.length : Int) := by omega
          by_cases hck : c' = L.length
          · have hkl2 : L.length = L.length := by omega
            obtain rfl : L.length = c' := hck.symm
            have HDr : Hid (∀ v : World, Below w2.heap.size w2 v → Rd v v.heap.size 1 nC (some ⟨g, 0, none⟩) (L.drop L.length)) := fun v _ h => absurd h (by rw [hld1]; omega)
            have HC : Hid (∀ v : World, Below w2.heap.size w2 v → Calls Try.prog 109 #[.slice (some ⟨g, 0, none⟩) L.length L.length] v (GivesNew v (L.take L.length))) := fun v hv => by
              have := l01Own_any (some ⟨g, 0, none⟩) L.length (L.take L.length) v ((HT.out.next hv).take L.length) (by omega)
              rwa [hlt1] at this
            have hY2 : Below w2.heap.size w2 (w2.drew.alloc (.cells #[.int .i64 L.length] 2)) := bthen' (bdrew w2) (balloc _ _)
            have HC1 := Lib.hid (HC.out w2.drew (bdrew w2))
            have HC2 := Lib.hid (HC.out (w2.drew.alloc (.cells #[.int .i64 L.length] 2)) hY2)
            have HcE : Hid (((w2.drew.alloc (.cells #[.int .i64 L.length] 2))).cell? ⟨w2.drew.heap.size, 0, none⟩ = some (.int .i64 L.length)) := by unfold Hid; go_simp
            clear HC
            clear hck hkl2
            go_wp2_with fail
            go_region_law (first
              | (go_simp; go_at_call 109; (first
                  | (refine HC1.out.mono ?_; rintro e w3 ⟨A3, c3, rfl, hown3, hb3'⟩; have HO5 : Hid (Own (w3.alloc (.cells #[.int .i64 L.length] 2)) w2.heap.size 2 1 nC A3 c3 (L.take L.length)) := hown3.keep (balloc _ _); have hX5 : Below w2.heap.size w2 (w3.alloc (.cells #[.int .i64 L.length] 2)) := bthen' (bthen' (bdrew w2) hb3') (balloc _ _); clear hown3 hb3'; rw [hlt1]; go_wp2_with fail)
                  | (refine HC2.out.mono ?_; rintro e w3 ⟨A3, c3, rfl, hown3, hb3'⟩; have HO5 : Hid (Own w3 w2.heap.size 2 1 nC A3 c3 (L.take L.length)) := hown3.base hY2.size; have hX5 : Below w2.heap.size w2 w3 := bthen' hY2 hb3'; have hL5 : w2.drew.heap.size < w3.heap.size := Nat.lt_of_lt_of_le (show w2.drew.heap.size < ((w2.drew.alloc (.cells #[.int .i64 L.length] 2))).heap.size from (by simp)) hb3'.size; have cE := (hb3'.cell (p := ⟨w2.drew.heap.size, 0, none⟩) (by simp)).trans HcE.out; clear hown3 hb3'; rw [hlt1]; go_wp2_with fail)))
              | (first
                  | (refine step_append_el (by rfl) _ _ _ (by rfl) w2.heap.size 2 (.int .i64 0) 1 8 Try.underlying38 infoInt64 rfl (by omega) (by omega) nC (L.take L.length) (L.length : Int) A3 c3 (by rw [hlt1]; rfl) HO5.out w2.drew.heap.size _ (by rfl) hL5 nCl (one_cell cE) nC1 (by omega) hX5.size ?_; rintro A4 c4 w4 hown4 hb4 _; have HO6 := Lib.hid hown4; have hX6 := hX5.trans hb4; clear hown4 hb4; rw [hlt1])
                  | (refine step_append_el (by rfl) _ _ _ (by rfl) w2.heap.size 2 (.int .i64 0) 1 8 Try.underlying38 infoInt64 rfl (by omega) (by omega) nC (L.take L.length) (L.length : Int) A3 c3 (by rw [hlt1]; rfl) HO5.out w3.heap.size _ (by rfl) (by simp) nCl (one_cell (by go_simp)) nC1 (by omega) hX5.size ?_; rintro A4 c4 w4 hown4 hb4 _; have HO6 := Lib.hid hown4; have hX6 := hX5.trans hb4; clear hown4 hb4; rw [hlt1]))
              | (refine step_append_slice (by rfl) _ _ _ (by rfl) w2.heap.size 2 (.int .i64 0) 1 8 Try.underlying38 infoInt64 rfl (by omega) (by omega) nC (L.take L.length ++ [(L.length : Int)]) (L.drop L.length) A4 c4 (by rw [hl4]; rfl) HO6.out (some ⟨g, 0, none⟩) _ w4.heap.size (by rw [hld1]; rfl) (HDr.out w4 hX6) nCl nC1 (by rw [hl4, hld1]; omega) hX6.size ?_; rintro A6 c6 w6 hown6 hb6 _; have hX7 := hX6.trans hb6; rw [← HIns.out, ← HNext.out] at hown6; have HO7 := Lib.hid (hown6.base hbase); clear hown6 hb6; rw [hl4, hld1, Nat.add_zero]))
            all_goals
              have hl7 : (srt (bAt bs) (idxL (L.length + 1))).length = L.length + 1 := by rw [srt_len, idxL_len]
              obtain ⟨g6, rfl, hg61, hg62, _⟩ := HO7.out.some' (by omega)
              go_wp2_with fail
              exact ⟨⟨L.length + 1, g6, c6, by omega, by go_num, rfl, HO7.out, hg61, hg62, hb3.trans (hX7.mono hbase)⟩, by simp [intOf]; omega⟩
          · have HDr : Hid (∀ v : World, Below w2.heap.size w2 v → Rd v v.heap.size 1 nC (some ⟨g, L.length, none⟩) (L.drop L.length)) := fun v hv => by
              have := rd_drop (HT.out.next hv) L.length
              rwa [Nat.zero_add] at this
            have HC : Hid (∀ v : World, Below w2.heap.size w2 v → Calls Try.prog 109 #[.slice (some ⟨g, 0, none⟩) L.length c'] v (GivesNew v (L.take L.length))) := fun v hv => by
              have := l01Own_any (some ⟨g, 0, none⟩) c' (L.take L.length) v ((HT.out.next hv).take L.length) (by omega)
              rwa [hlt1] at this
            have hY2 : Below w2.heap.size w2 (w2.drew.alloc (.cells #[.int .i64 L.length] 2)) := bthen' (bdrew w2) (balloc _ _)
            have HC1 := Lib.hid (HC.out w2.drew (bdrew w2))
            have HC2 := Lib.hid (HC.out (w2.drew.alloc (.cells #[.int .i64 L.length] 2)) hY2)
            have HcE : Hid (((w2.drew.alloc (.cells #[.int .i64 L.length] 2))).cell? ⟨w2.drew.heap.size, 0, none⟩ = some (.int .i64 L.length)) := by unfold Hid; go_simp
            clear HC

            go_wp2_with fail
            go_region_law (first
              | (go_simp; go_at_call 109; (first
                  | (refine HC1.out.mono ?_; rintro e w3 ⟨A3, c3, rfl, hown3, hb3'⟩; have HO5 : Hid (Own (w3.alloc (.cells #[.int .i64 L.length] 2)) w2.heap.size 2 1 nC A3 c3 (L.take L.length)) := hown3.keep (balloc _ _); have hX5 : Below w2.heap.size w2 (w3.alloc (.cells #[.int .i64 L.length] 2)) := bthen' (bthen' (bdrew w2) hb3') (balloc _ _); clear hown3 hb3'; rw [hlt1]; go_wp2_with fail)
                  | (refine HC2.out.mono ?_; rintro e w3 ⟨A3, c3, rfl, hown3, hb3'⟩; have HO5 : Hid (Own w3 w2.heap.size 2 1 nC A3 c3 (L.take L.length)) := hown3.base hY2.size; have hX5 : Below w2.heap.size w2 w3 := bthen' hY2 hb3'; have hL5 : w2.drew.heap.size < w3.heap.size := Nat.lt_of_lt_of_le (show w2.drew.heap.size < ((w2.drew.alloc (.cells #[.int .i64 L.length] 2))).heap.size from (by simp)) hb3'.size; have cE := (hb3'.cell (p := ⟨w2.drew.heap.size, 0, none⟩) (by simp)).trans HcE.out; clear hown3 hb3'; rw [hlt1]; go_wp2_with fail)))
              | (first
                  | (refine step_append_el (by rfl) _ _ _ (by rfl) w2.heap.size 2 (.int .i64 0) 1 8 Try.underlying38 infoInt64 rfl (by omega) (by omega) nC (L.take L.length) (L.length : Int) A3 c3 (by rw [hlt1]; rfl) HO5.out w2.drew.heap.size _ (by rfl) hL5 nCl (one_cell cE) nC1 (by omega) hX5.size ?_; rintro A4 c4 w4 hown4 hb4 _; have HO6 := Lib.hid hown4; have hX6 := hX5.trans hb4; clear hown4 hb4; rw [hlt1])
                  | (refine step_append_el (by rfl) _ _ _ (by rfl) w2.heap.size 2 (.int .i64 0) 1 8 Try.underlying38 infoInt64 rfl (by omega) (by omega) nC (L.take L.length) (L.length : Int) A3 c3 (by rw [hlt1]; rfl) HO5.out w3.heap.size _ (by rfl) (by simp) nCl (one_cell (by go_simp)) nC1 (by omega) hX5.size ?_; rintro A4 c4 w4 hown4 hb4 _; have HO6 := Lib.hid hown4; have hX6 := hX5.trans hb4; clear hown4 hb4; rw [hlt1]))
              | (refine step_append_slice (by rfl) _ _ _ (by rfl) w2.heap.size 2 (.int .i64 0) 1 8 Try.underlying38 infoInt64 rfl (by omega) (by omega) nC (L.take L.length ++ [(L.length : Int)]) (L.drop L.length) A4 c4 (by rw [hl4]; rfl) HO6.out (some ⟨g, L.length, none⟩) _ w4.heap.size (by rw [hld1]; rfl) (HDr.out w4 hX6) nCl nC1 (by rw [hl4, hld1]; omega) hX6.size ?_; rintro A6 c6 w6 hown6 hb6 _; have hX7 := hX6.trans hb6; rw [← HIns.out, ← HNext.out] at hown6; have HO7 := Lib.hid (hown6.base hbase); clear hown6 hb6; rw [hl4, hld1, Nat.add_zero]))
            all_goals
              have hl7 : (srt (bAt bs) (idxL (L.length + 1))).length = L.length + 1 := by rw [srt_len, idxL_len]
              obtain ⟨g6, rfl, hg61, hg62, _⟩ := HO7.out.some' (by omega)
              go_wp2_with fail
              exact ⟨⟨L.length + 1, g6, c6, by omega, by go_num, rfl, HO7.out, hg61, hg62, hb3.trans (hX7.mono hbase)⟩, by simp [intOf]; omega⟩
    · obtain rfl : i = bs.length := by omega
      have HO2 : Hid (Own wr w.heap.size 2 1 nC (some ⟨g, 0, none⟩) c' (ordL bs)) := hown
      have HSl := Lib.hid (ordL_len bs)
      clear hown hL
      go_wp2_with fail
      go_ret
      exact ⟨_, c', by rw [HSl.out]; rfl, HO2.out, hb⟩
end Go.Proofs.Ytfdnpobppelhaaa
