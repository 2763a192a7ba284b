/- DERIVED. All bicycles, in the program and in the reference. -/
import Derived.Test.YtioblfbhjkkgoaaRunA
import Derived.Test.YtioblfbhjkkgoaaSrchS
import Derived.Test.YtioblfbhjkkgoaaKitPart
namespace Go.Proofs.Ytioblfbhjkkgoaa
set_option maxRecDepth 100000
open Go.RowKit

theorem slotsOf_ok (js : List JointT) : (slotsOf js).Nodup ∧ (∀ s ∈ slotsOf js, 0 ≤ s ∧ s < 8) ∧ (slotsOf js).length ≤ 8 := ⟨slotsTo_nodup js 8, fun s hs => by have := slotsTo_mem hs; omega, slotsTo_len js 8⟩
/-- All bicycles, as rows of texts. -/
def GivesRows (w : World) (lo : Nat) (bss : List (List ByteArray)) (e : Ending) (w' : World) : Prop := ∃ (A : Option Addr) (c : Nat) (ms : List RowM), e = .returned (.slice A ms.length c) ∧ ms.map RowM.bs = bss ∧ Flat w' lo w'.heap.size 44 1 rowC A ms ∧ RowsF w' lo w'.heap.size ms ∧ Below w.heap.size w w'
def GivesRowsN (w : World) (bss : List (List ByteArray)) (n : Int) (e : Ending) (w' : World) : Prop := ∃ (A : Option Addr) (c : Nat) (ms : List RowM), e = .returned (.tuple #[.slice A ms.length c, .int .i64 n]) ∧ ms.map RowM.bs = bss ∧ Flat w' w.heap.size w'.heap.size 44 1 rowC A ms ∧ RowsF w' w.heap.size w'.heap.size ms ∧ Below w.heap.size w w'

theorem areBoth_any (LA JA : Option Addr) (lc jc : Nat) (vs : List PartT) (js : List JointT) (w : World) (hr : RdV w w.heap.size LA vs) (hr2 : Rd w w.heap.size 3 jointC JA js) (hs : SmallV vs) (hm2 : js.length ≤ 1048576) :
    Calls Try.prog 30 #[.slice LA vs.length lc, .slice JA js.length jc] w fun e w' => e = .returned (.bool (bothB vs js)) ∧ Below w.heap.size w w' := by
  have hP := areParts_impl LA lc vs w hr hs.1 hs.2
  have HJ : Hid (∀ v : World, Rd v v.heap.size 3 jointC JA js → Calls Try.prog 53 #[.slice JA js.length jc] v fun e w' => e = .returned (.bool (jointsB js)) ∧ Below v.heap.size v w') := fun v h => areJoints_impl JA jc js v h hm2
  have HB : Hid (bothB vs js = (partsB vs && jointsB js)) := rfl
  generalize bothB vs js = R at HB ⊢
  generalize jointsB js = jb at HJ HB
  cases hp : partsB vs with
  | false =>
    rw [hp] at hP HB
    have HP := Lib.hid hP; clear hP hp
    go_enter Try.func30, Try.ntmps30
    go_wp2_with fail
    refine HP.out.mono ?_
    rintro e w1 ⟨rfl, hb1⟩
    go_wp2_with fail
    go_ret
    exact ⟨ret_bool (by rw [HB.out]; rfl), hb1⟩
  | true =>
    rw [hp] at hP HB
    have HP := Lib.hid hP; clear hP hp
    go_enter Try.func30, Try.ntmps30
    go_wp2_with fail
    refine HP.out.mono ?_
    rintro e w1 ⟨rfl, hb1⟩
    go_wp2_with fail
    refine (HJ.out w1 (hr2.next hb1)).mono ?_
    rintro e w2 ⟨rfl, hb2⟩
    go_wp2_with fail
    go_ret
    exact ⟨ret_bool (by rw [HB.out]; rfl), bthen hb1 hb2⟩

def bothI (vs : List PartT) (js : List JointT) : Int := if bothB vs js = true then 0 else 1
theorem l18Code_any (LA JA : Option Addr) (lc jc : Nat) (vs : List PartT) (js : List JointT) (w : World) (hr : RdV w w.heap.size LA vs) (hr2 : Rd w w.heap.size 3 jointC JA js) (hs : SmallV vs) (hm2 : js.length ≤ 1048576) :
    Calls Try.prog 24 #[.slice LA vs.length lc, .slice JA js.length jc] w fun e w' => e = .returned (.int .i64 (bothI vs js)) ∧ Below w.heap.size w w' := by
  have hP := areParts_spec LA lc vs w hr hs.1 hs.2
  have HJ : Hid (∀ v : World, Rd v v.heap.size 3 jointC JA js → Calls Try.prog 47 #[.slice JA js.length jc] v fun e w' => e = .returned (.bool (jointsB js)) ∧ Below v.heap.size v w') := fun v h => areJoints_spec JA jc js v h hm2
  have hB : bothI vs js = if (partsB vs && jointsB js) = true then 0 else 1 := rfl
  generalize bothI vs js = R at hB ⊢
  generalize jointsB js = jb at HJ hB
  cases hp : partsB vs with
  | false =>
    rw [hp] at hP hB
    have HB : Hid (R = 1) := by unfold Hid; rw [hB]; simp
    have HP := Lib.hid hP; clear hP hp hB
    go_enter Try.func24, Try.ntmps24
    go_wp2_with fail
    refine HP.out.mono ?_
    rintro e w1 ⟨rfl, hb1⟩
    go_wp2_with fail
    go_ret
    exact ⟨ret_int HB.out.symm, hb1⟩
  | true =>
    rw [hp] at hP hB
    have HP := Lib.hid hP; clear hP hp
    cases jb with
    | false =>
      have HB : Hid (R = 1) := by unfold Hid; rw [hB]; simp
      clear hB
      go_enter Try.func24, Try.ntmps24
      go_wp2_with fail
      refine HP.out.mono ?_
      rintro e w1 ⟨rfl, hb1⟩
      go_wp2_with fail
      refine (HJ.out w1 (hr2.next hb1)).mono ?_
      rintro e w2 ⟨rfl, hb2⟩
      go_wp2_with fail
      go_ret
      exact ⟨ret_int HB.out.symm, bthen hb1 hb2⟩
    | true =>
      have HB : Hid (R = 0) := by unfold Hid; rw [hB]; simp
      clear hB
      go_enter Try.func24, Try.ntmps24
      go_wp2_with fail
      refine HP.out.mono ?_
      rintro e w1 ⟨rfl, hb1⟩
      go_wp2_with fail
      refine (HJ.out w1 (hr2.next hb1)).mono ?_
      rintro e w2 ⟨rfl, hb2⟩
      go_wp2_with fail
      go_ret
      exact ⟨ret_int HB.out.symm, bthen hb1 hb2⟩
theorem bothI_yes {vs : List PartT} {js : List JointT} (h : bothB vs js = true) : bothI vs js = 0 := by unfold bothI; rw [if_pos h]
theorem bothI_no {vs : List PartT} {js : List JointT} (h : ¬ bothB vs js = true) : bothI vs js = 1 := by unfold bothI; rw [if_neg h]

theorem codes_bare {vs : List PartT} (h : partsB vs = true) : Codes vs bare := Codes.bare h
theorem bare_emp : ∀ s : Int, 0 ≤ s → s < 8 → bare[s.toNat]? = some noText := fun s h0 h8 => by
  unfold bare
  rw [List.getElem?_replicate, if_pos (by omega)]
theorem bothB_true {vs : List PartT} {js : List JointT} (h : bothB vs js = true) : partsB vs = true ∧ jointsB js = true := by
  unfold bothB at h
  simpa using h

set_option maxHeartbeats 1000000 in
theorem bicycles_any (LA JA : Option Addr) (lc jc : Nat) (vs : List PartT) (js : List JointT) (w : World) (hr : RdV w w.heap.size LA vs) (hr2 : Rd w w.heap.size 3 jointC JA js) (hs : SmallV vs) (hb : bothB vs js = true) :
    Calls Try.prog 31 #[.slice LA vs.length lc, .slice JA js.length jc] w (GivesRowsN w (allB vs js) (nodesOf (tr vs js))) := by
  obtain ⟨hp, hj⟩ := bothB_true hb
  have hv16 := partsB_len hp
  have hN := newSearch_any LA JA lc jc vs js w hr hr2 hs.1 (jointsB_in hj).1
  have HN := Lib.hid hN; clear hN
  have HRun : Hid (∀ (v : World) (C : SrC), C.vs = vs → C.js = js → C.ss = slotsOf js → C.most = -1 → C.single = false → RunSt w v C bare ⟨0, false, []⟩ none 0 [] → Calls Try.prog 55 #[.pointer (some ⟨C.b, 0, none⟩), .int .i64 0] v (RunPost w C bare ⟨nodesOf (tr vs js), false, allB vs js⟩)) := fun v C e1 e2 e3 e4 e5 h => by
    obtain ⟨k1, k2, k3⟩ := slotsOf_ok js
    have h1 := run_all w C (by rw [e1]; exact hs) (by rw [e2]; exact hj) (by rw [e3]; exact k3) (by rw [e3]; exact k1) (by rw [e3]; exact k2) C.ss 0 (by simp) (Nat.zero_le _)
    have htr : traceS C.vs C.js C.ss bare = tr vs js := by rw [e1, e2, e3]; rfl
    have hl := tr_len js hv16
    have h2 := h1 v bare ⟨0, false, []⟩ none 0 [] h (by rw [e1]; exact codes_bare hp) (fun s hsm => by rw [e3] at hsm; exact bare_emp s (k2 s hsm).1 (k2 s hsm).2) (by rw [e5]; rfl) (by simp) (by rw [htr]; simp only; omega) (by rw [htr]; simp only [List.length_nil]; omega)
    rw [htr, e4, e5, runs_all _ _ _ (by omega)] at h2
    have e0 : (0 : Int) + nodesOf (tr vs js) = nodesOf (tr vs js) := by omega
    rw [e0] at h2
    simpa [allB] using h2
  clear hs hb hp hj
  go_enter Try.func31, Try.ntmps31
  go_wp2_with fail
  refine HN.out.mono ?_
  rintro e w1 ⟨C, rfl, e1, e2, e3, e4, e5, hst⟩
  have HC := Lib.hid (HRun.out w1 C e1 e2 e3 e4 e5 hst)
  clear HRun HN hst e1 e2 e3 e4 e5
  go_wp2_with fail
  refine HC.out.mono ?_
  rintro e w2 ⟨rfl, FA, fc, ms, hst2⟩
  have HS := Lib.hid hst2
  have c4 := hst2.c4
  have c8 := hst2.c8
  simp only at c4 c8
  clear hst2 HC
  go_wp2_with fail
  go_quiet (fail)
  go_wp2_with fail
  go_ret2
  have h3 : ∀ m, RunSt w (w2.drewN m) C bare ⟨nodesOf (tr vs js), false, allB vs js⟩ FA fc ms := fun m => HS.out.next (below_drewN (Below.refl _ _) m)
  exact ⟨FA, fc, ms, rfl, HS.out.vals, ((h3 _).found.flat rowC_len), (h3 _).rows, (h3 _).low⟩

theorem l01Has_any (A : Option Addr) (c : Nat) (xs : List Int) (n : Int) (w : World) (hr : Rd w w.heap.size 1 nC A xs) (hm : xs.length ≤ 1048576) :
    Calls Try.prog 65 #[.slice A xs.length c, .int .i64 n] w fun e w' => e = .returned (.bool (decide (n ∈ xs))) ∧ Below w.heap.size w w' := by
  have HR : Hid (decide (n ∈ xs) = decide (n ∈ xs)) := rfl
  have HY : Hid (∀ k : Nat, xs[k]? = some n → decide (n ∈ xs) = true) := fun k h => decide_eq_true (List.mem_of_getElem? h)
  have HN : Hid ((∀ k : Nat, k < xs.length → xs[k]? ≠ some n) → decide (n ∈ xs) = false) := fun h => decide_eq_false fun hm => by
    obtain ⟨k, hk⟩ := List.mem_iff_getElem?.1 hm
    exact h k (List.getElem?_eq_some_iff.1 hk).1 hk
  clear HR
  generalize decide (n ∈ xs) = R at HY HN ⊢
  go_enter Try.func65, Try.ntmps65
  go_wp2_with fail
  go_loopw [5] (fun i wr => ∃ k : Nat, k ≤ xs.length ∧ i = .int .i64 k ∧ Below w.heap.size w wr ∧ ∀ j : Nat, j < k → xs[j]? ≠ some n) (fun i _ => xs.length - (intOf i).toNat)
  case atStart => exact ⟨0, Nat.zero_le _, rfl, Below.refl _ _, fun j hj => by omega⟩
  case round =>
    obtain ⟨k, hk, rfl, hb, hall⟩ := hrel
    have Ha := Lib.hid hall; clear hall
    by_cases hlt : k < xs.length
    · have hx : xs[k]? = some xs[k] := List.getElem?_eq_getElem hlt
      obtain ⟨b, o, rfl, hB, q0⟩ := (hr.below hb).at1 hx rfl
      rw [Nat.mul_one] at q0
      generalize xs[k] = t at q0 hx
      have Hx := Lib.hid hx; clear hx
      by_cases ht : t = n
      · have HF : Hid (R = true) := HY.out k (by rw [Hx.out, ht])
        have hb1 : (t == n) = true := by simp [ht]
        clear ht
        go_wp2_with fail
        go_ret
        exact ⟨ret_bool HF.out.symm, hb⟩
      · have hb1 : (t == n) = false := by simp [ht]
        have Ht := Lib.hid ht; clear ht
        go_wp2_with fail
        exact ⟨⟨k + 1, by omega, by go_num, hb, fun j hj => by
          by_cases e : j = k
          · subst e
            rw [Hx.out]
            intro e
            exact Ht.out (Option.some.inj e)
          · exact Ha.out j (by omega)⟩, by simp [intOf]; omega⟩
    · have HF : Hid (R = false) := HN.out fun j hj => Ha.out j (by omega)
      go_wp2_with fail
      go_ret
      exact ⟨ret_bool HF.out.symm, hb⟩
end Go.Proofs.Ytioblfbhjkkgoaa
