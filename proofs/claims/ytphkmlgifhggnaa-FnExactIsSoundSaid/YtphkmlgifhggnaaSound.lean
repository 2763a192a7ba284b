/- DERIVED. Whether a build is sound. By program (gsound.py). -/
import Derived.Test.YtphkmlgifhggnaaJList
namespace Go.Proofs.Ytphkmlgifhggnaa
set_option maxRecDepth 100000
open Go.RowKit

theorem idxTo_full {α : Type} (p : α → Bool) (xs : List α) : ∀ k, k ≤ xs.length → ((idxTo p xs k).length = k ↔ ∀ (j : Nat) (x : α), j < k → xs[j]? = some x → p x = true)
  | 0, _ => by simp [idxTo]
  | k + 1, h => by
    have ih := idxTo_full p xs k (by omega)
    have hle := idxTo_le p xs k
    have hx : xs[k]? = some (xs[k]'(by omega)) := List.getElem?_eq_getElem (by omega)
    cases hp : p (xs[k]'(by omega)) with
    | true =>
      rw [idxTo_yes hx hp]
      simp only [List.length_append, List.length_singleton]
      constructor
      · intro he j x hj hxj
        by_cases e : j = k
        · subst e
          rw [hx] at hxj
          rw [← Option.some.inj hxj]
          exact hp
        · exact ih.1 (by omega) j x (by omega) hxj
      · intro hall
        rw [ih.2 fun j x hj hxj => hall j x (by omega) hxj]
    | false =>
      rw [idxTo_no hx hp]
      constructor
      · intro he
        omega
      · intro hall
        have := hall k _ (by omega) hx
        rw [hp] at this
        cases this
def soundB (vs : List PartT) (js : List JointT) (bs : List ByteArray) : Bool := js.all (isState vs bs 2)
theorem soundB_len (vs : List PartT) (js : List JointT) (bs : List ByteArray) : soundB vs js bs = decide ((idxTo (isState vs bs 2) js js.length).length = js.length) := by
  rw [Bool.eq_iff_iff]
  unfold soundB
  rw [List.all_eq_true, decide_eq_true_eq, idxTo_full _ _ _ (Nat.le_refl _)]
  constructor
  · intro h j x _ hx
    exact h x (List.mem_of_getElem? hx)
  · intro h x hx
    obtain ⟨j, hj⟩ := List.mem_iff_getElem?.1 hx
    exact h j x (List.getElem?_eq_some_iff.1 hj).1 hj
theorem soundB_false {vs : List PartT} {js : List JointT} {bs : List ByteArray} {k : Nat} {t : JointT} (hx : js[k]? = some t) (h : isState vs bs 2 t = false) : soundB vs js bs = false := by
  unfold soundB
  rw [List.all_eq_false]
  exact ⟨t, List.mem_of_getElem? hx, by simp [h]⟩
theorem soundB_true {vs : List PartT} {js : List JointT} {bs : List ByteArray} (h : ∀ j t, j < js.length → js[j]? = some t → isState vs bs 2 t = true) : soundB vs js bs = true := by
  unfold soundB
  rw [List.all_eq_true]
  intro x hx
  obtain ⟨j, hj⟩ := List.mem_iff_getElem?.1 hx
  exact h j x (List.getElem?_eq_some_iff.1 hj).1 hj

set_option maxHeartbeats 1000000 in
theorem isSound_any (A A2 A' : Option Addr) (c c2 c' : Nat) (vs : List PartT) (js : List JointT) (bs : List ByteArray) (w : World) (hr : RdV w w.heap.size A vs) (hr2 : Rd w w.heap.size 3 jointC A2 js) (hr' : Rd w w.heap.size 1 tC A' bs) (hs : SmallV vs) (hm2 : js.length ≤ 1048576) (hC : Codes vs bs) (hj : ∀ j ∈ js, SlotsIn j) :
    Calls Try.prog 78 #[.slice A vs.length c, .slice A2 js.length c2, .slice A' bs.length c'] w fun e w' => e = .returned (.bool (soundB vs js bs)) ∧ Below w.heap.size w w' := by
  have HO : Hid (∀ (v : World) (t : JointT), Rd v v.heap.size 1 tC A' bs → SlotsIn t → Calls Try.prog 77 #[.slice A' bs.length c', .agg #[.int .i64 t.1, .int .i64 t.2.1, .int .i64 t.2.2]] v fun e w' => e = .returned (.bool (openB vs bs t)) ∧ Below v.heap.size v w') := fun v t h2 h3 => by have h4 := isOpen_any A' c' bs t v h2 hC.len h3; rwa [← openB_eq hC h3] at h4
  have HK : Hid (∀ (v : World) (t : JointT), RdV v v.heap.size A vs → Rd v v.heap.size 1 tC A' bs → SlotsIn t → Calls Try.prog 75 #[.slice A vs.length c, .slice A' bs.length c', .agg #[.int .i64 t.1, .int .i64 t.2.1, .int .i64 t.2.2]] v fun e w' => e = .returned (.bool (brokenB vs bs t)) ∧ Below v.heap.size v w') := fun v t h1 h2 h3 => isBroken_any A A' c c' vs bs t v h1 h2 hs hC h3
  have HJ := Lib.hid hj; clear hj hs hC
  go_enter Try.func78, Try.ntmps78
  go_wp2_with fail
  go_loopw [11] (fun i wr => ∃ k : Nat, k ≤ js.length ∧ i = .int .i64 k ∧ Below w.heap.size w wr ∧ ∀ j t, j < k → js[j]? = some t → isState vs bs 2 t = true) (fun i _ => js.length - (intOf i).toNat)
  case atStart => exact ⟨0, Nat.zero_le _, rfl, Below.refl _ _, fun j t hj => by omega⟩
  case round =>
    obtain ⟨k, hk, rfl, hb, hall⟩ := hrel
    have Ha := Lib.hid hall; clear hall
    by_cases hlt : k < js.length
    · have hx : js[k]? = some js[k] := List.getElem?_eq_getElem hlt
      obtain ⟨b2, o2, rfl, hB2, q0, q1, q2⟩ := (hr2.below hb).at3 hx rfl
      have hsl := HJ.out _ (List.mem_of_getElem? hx)
      generalize js[k] = t at q0 q1 q2 hx hsl
      have Hx := Lib.hid hx; clear hx
      have HOt : Hid (∀ v : World, Rd v v.heap.size 1 tC A' bs → Calls Try.prog 77 #[.slice A' bs.length c', .agg #[.int .i64 t.1, .int .i64 t.2.1, .int .i64 t.2.2]] v fun e w' => e = .returned (.bool (openB vs bs t)) ∧ Below v.heap.size v w') := fun v h2 => HO.out v t h2 hsl
      have HKt : Hid (∀ v : World, RdV v v.heap.size A vs → Rd v v.heap.size 1 tC A' bs → Calls Try.prog 75 #[.slice A vs.length c, .slice A' bs.length c', .agg #[.int .i64 t.1, .int .i64 t.2.1, .int .i64 t.2.2]] v fun e w' => e = .returned (.bool (brokenB vs bs t)) ∧ Below v.heap.size v w') := fun v h1 h2 => HK.out v t h1 h2 hsl
      have HB := Lib.hid (stateJ_bd vs bs t)
      have E0 : Hid (openB vs bs t = decide (stateJ vs bs t = 0)) := rfl
      have E1 : Hid (brokenB vs bs t = decide (stateJ vs bs t = 1)) := rfl
      have E2 : Hid (isState vs bs 2 t = decide (stateJ vs bs t = 2)) := rfl
      have HFs : Hid (isState vs bs 2 t = false → soundB vs js bs = false) := fun h => soundB_false Hx.out h
      have HNs : Hid (isState vs bs 2 t = true → ∀ j y, j < k + 1 → js[j]? = some y → isState vs bs 2 y = true) := fun h j y hj hy => by
        by_cases e : j = k
        · subst e
          have := Hx.out
          rw [hy] at this
          rw [Option.some.inj this]
          exact h
        · exact Ha.out j y (by omega) hy
      generalize stateJ vs bs t = sj at HB E0 E1 E2
      generalize isState vs bs 2 t = s2 at E2 HFs HNs
      generalize openB vs bs t = ob at HOt E0
      generalize brokenB vs bs t = bb at HKt E1
      go_wp2_with fail
      have f0 : (wr.alloc (.cells #[.int .i64 t.1, .int .i64 t.2.1, .int .i64 t.2.2] 74)).cell? ⟨wr.heap.size, 0, none⟩ = some (.int .i64 t.1) := by go_simp
      have f1 : (wr.alloc (.cells #[.int .i64 t.1, .int .i64 t.2.1, .int .i64 t.2.2] 74)).cell? ⟨wr.heap.size, 1, none⟩ = some (.int .i64 t.2.1) := by go_simp
      have f2 : (wr.alloc (.cells #[.int .i64 t.1, .int .i64 t.2.1, .int .i64 t.2.2] 74)).cell? ⟨wr.heap.size, 2, none⟩ = some (.int .i64 t.2.2) := by go_simp
      have hbV := hb.alloc hb.size (.cells #[.int .i64 t.1, .int .i64 t.2.1, .int .i64 t.2.2] 74)
      generalize wr.alloc (.cells #[.int .i64 t.1, .int .i64 t.2.1, .int .i64 t.2.2] 74) = U at f0 f1 f2 hbV ⊢
      generalize wr.heap.size = gx at f0 f1 f2 ⊢
      clear q0 q1 q2 hb
      refine (HOt.out _ (hr'.next hbV)).mono ?_
      rintro e w3 ⟨rfl, hb3⟩
      have hbb := bthen hbV hb3
      have e0 := (hb3.cell (p := ⟨gx, 0, none⟩) (World.block_lt_of_cell? U _ f0)).trans f0
      have e1 := (hb3.cell (p := ⟨gx, 1, none⟩) (World.block_lt_of_cell? U _ f1)).trans f1
      have e2 := (hb3.cell (p := ⟨gx, 2, none⟩) (World.block_lt_of_cell? U _ f2)).trans f2
      clear f0 f1 f2
      cases ob
      case true =>
        have HR : Hid (soundB vs js bs = false) := HFs.out (by
          rw [E2.out]
          have := of_decide_eq_true E0.out.symm
          exact decide_eq_false (by omega))
        go_wp2_with fail
        go_ret
        exact ⟨ret_bool HR.out.symm, hbb⟩
      case false =>
        go_wp2_with fail
        refine (HKt.out _ (hr.next hbb) (hr'.next hbb)).mono ?_
        rintro e w4 ⟨rfl, hb4⟩
        clear e0 e1 e2
        cases bb
        case true =>
          have HR : Hid (soundB vs js bs = false) := HFs.out (by
            rw [E2.out]
            have := of_decide_eq_true E1.out.symm
            exact decide_eq_false (by omega))
          go_wp2_with fail
          go_ret
          exact ⟨ret_bool HR.out.symm, bthen hbb hb4⟩
        case false =>
          have HR : Hid (∀ j y, j < k + 1 → js[j]? = some y → isState vs bs 2 y = true) := HNs.out (by
            rw [E2.out]
            have h0 := of_decide_eq_false E0.out.symm
            have h1 := of_decide_eq_false E1.out.symm
            have := HB.out
            exact decide_eq_true (by omega))
          go_wp2_with fail
          exact ⟨⟨k + 1, by omega, by go_num, bthen hbb hb4, HR.out⟩, by simp [intOf]; omega⟩
    · have HR : Hid (soundB vs js bs = true) := soundB_true fun j t hj hx => Ha.out j t (by omega) hx
      go_wp2_with fail
      go_ret
      exact ⟨ret_bool HR.out.symm, hb⟩

def soundR (vs : List PartT) (js : List JointT) (bs : List ByteArray) : Bool × Int := if jointsB js = true then (if buildB vs bs = true then (soundB vs js bs, 0) else (false, 1)) else (false, 1)
theorem IsSound_impl (A A2 A' : Option Addr) (c c2 c' : Nat) (vs : List PartT) (js : List JointT) (bs : List ByteArray) (w : World) (hr : RdV w w.heap.size A vs) (hr2 : Rd w w.heap.size 3 jointC A2 js) (hr' : Rd w w.heap.size 1 tC A' bs) (hs : SmallV vs) (hm2 : js.length ≤ 1048576) (hm' : bs.length ≤ 1048576) :
    Calls Try.prog 41 #[.slice A vs.length c, .slice A2 js.length c2, .slice A' bs.length c'] w fun e w' => e = .returned (.tuple #[.bool (soundR vs js bs).1, .int .i64 (soundR vs js bs).2]) ∧ Below w.heap.size w w' := by
  have hJ := areJoints_impl A2 c2 js w hr2 hm2
  have HB : Hid (∀ v : World, RdV v v.heap.size A vs → Rd v v.heap.size 1 tC A' bs → Calls Try.prog 19 #[.slice A vs.length c, .slice A' bs.length c'] v fun e w' => e = .returned (.bool (buildB vs bs)) ∧ Below v.heap.size v w') := fun v h1 h2 => isBuild_impl A A' c c' vs bs v h1 h2 hs hm'
  have HS : Hid (jointsB js = true → buildB vs bs = true → ∀ v : World, RdV v v.heap.size A vs → Rd v v.heap.size 3 jointC A2 js → Rd v v.heap.size 1 tC A' bs → Calls Try.prog 78 #[.slice A vs.length c, .slice A2 js.length c2, .slice A' bs.length c'] v fun e w' => e = .returned (.bool (soundB vs js bs)) ∧ Below v.heap.size v w') := fun h1 h2 v h3 h4 h5 => isSound_any A A2 A' c c2 c' vs js bs v h3 h4 h5 hs hm2 (buildB_codes h2).1 (jointsB_in h1).2
  have HR : Hid (soundR vs js bs = if jointsB js = true then (if buildB vs bs = true then (soundB vs js bs, 0) else (false, 1)) else (false, 1)) := rfl
  generalize soundR vs js bs = R at HR ⊢
  generalize jointsB js = bj at hJ HR HS
  generalize buildB vs bs = bb at HB HR HS
  generalize soundB vs js bs = sb at HR HS
  have HJ := Lib.hid hJ; clear hJ
  go_enter Try.func41, Try.ntmps41
  go_wp2_with fail
  refine HJ.out.mono ?_
  rintro e w1 ⟨rfl, hb1⟩
  cases bj
  case false =>
    go_wp2_with fail
    go_ret2
    exact ⟨by rw [HR.out]; rfl, hb1⟩
  case true =>
    go_wp2_with fail
    refine (HB.out w1 (hr.next hb1) (hr'.next hb1)).mono ?_
    rintro e w2 ⟨rfl, hb2⟩
    have hb12 := bthen hb1 hb2
    cases bb
    case false =>
      go_wp2_with fail
      go_ret2
      exact ⟨by rw [HR.out]; rfl, hb12⟩
    case true =>
      go_wp2_with fail
      refine (HS.out (by trivial) (by trivial) w2 (hr.next hb12) (hr2.next hb12) (hr'.next hb12)).mono ?_
      rintro e w3 ⟨rfl, hb3⟩
      go_wp2_with fail
      go_ret2
      exact ⟨by rw [HR.out]; rfl, bthen hb12 hb3⟩
theorem IsSound_spec (A A2 A' : Option Addr) (c c2 c' : Nat) (vs : List PartT) (js : List JointT) (bs : List ByteArray) (w : World) (hr : RdV w w.heap.size A vs) (hr2 : Rd w w.heap.size 3 jointC A2 js) (hr' : Rd w w.heap.size 1 tC A' bs) (hs : SmallV vs) (hm2 : js.length ≤ 1048576) (hm' : bs.length ≤ 1048576) :
    Calls Try.prog 40 #[.slice A vs.length c, .slice A2 js.length c2, .slice A' bs.length c'] w fun e w' => e = .returned (.tuple #[.bool (soundR vs js bs).1, .int .i64 (soundR vs js bs).2]) ∧ Below w.heap.size w w' := by
  have hJ := l17Code_any A A2 A' c c2 c' vs js bs 0 w hr hr2 hr' hs hm2 hm'
  have hz := codeL_zero vs js bs
  by_cases hg : jointsB js = true ∧ buildB vs bs = true
  · obtain ⟨hj, hB⟩ := hg
    have HF : Hid (soundR vs js bs = (soundB vs js bs, 0)) := by unfold Hid soundR; rw [if_pos hj, if_pos hB]
    have HL : Hid (∀ v : World, RdV v v.heap.size A vs → Rd v v.heap.size 3 jointC A2 js → Rd v v.heap.size 1 tC A' bs → Calls Try.prog 73 #[.slice A vs.length c, .slice A2 js.length c2, .slice A' bs.length c', .int .i64 2] v (GivesOwn v 2 1 nC (idxTo (isState vs bs 2) js js.length))) := fun v h1 h2 h3 => l17Joints_any A A2 A' c c2 c' vs js bs 2 v h1 h2 h3 hs hm2 (buildB_codes hB).1 (jointsB_in hj).2
    have HE : Hid (soundB vs js bs = decide ((idxTo (isState vs bs 2) js js.length).length = js.length)) := soundB_len vs js bs
    have hle := idxTo_le (isState vs bs 2) js js.length
    rw [hz, if_pos ⟨hj, hB⟩] at hJ
    have HJ := Lib.hid hJ; clear hJ hj hB hz hs
    generalize soundR vs js bs = R at HF ⊢
    generalize soundB vs js bs = sb at HF HE
    generalize idxTo (isState vs bs 2) js js.length = L at HL HE hle
    go_enter Try.func40, Try.ntmps40
    go_wp2_with fail
    refine HJ.out.mono ?_
    rintro e w1 ⟨rfl, hb1⟩
    go_wp2_with fail
    refine (HL.out w1 (hr.next hb1) (hr2.next hb1) (hr'.next hb1)).mono ?_
    rintro e w2 ⟨A3, c3, rfl, hf2, hc2, hb2⟩
    by_cases hq : L.length = js.length
    · have hq1 : ((L.length : Int) == (js.length : Int)) = true := by simp [hq]
      have HT : Hid (sb = true) := by unfold Hid; rw [HE.out]; exact decide_eq_true hq
      clear hq
      go_wp2_with fail
      go_ret2
      exact ⟨by rw [HF.out, HT.out]; rfl, bthen hb1 hb2⟩
    · have hq1 : ((L.length : Int) == (js.length : Int)) = false := by rw [beq_eq_false_iff_ne]; omega
      have HT : Hid (sb = false) := by unfold Hid; rw [HE.out]; exact decide_eq_false hq
      clear hq
      go_wp2_with fail
      go_ret2
      exact ⟨by rw [HF.out, HT.out]; rfl, bthen hb1 hb2⟩
  · have HF : Hid (soundR vs js bs = (false, 1)) := by
      unfold Hid soundR
      by_cases h1 : jointsB js = true
      · rw [if_pos h1, if_neg (fun h2 => hg ⟨h1, h2⟩)]
      · rw [if_neg h1]
    rw [hz, if_neg hg] at hJ
    have HJ := Lib.hid hJ; clear hJ hg hz hs
    generalize soundR vs js bs = R at HF ⊢
    go_enter Try.func40, Try.ntmps40
    go_wp2_with fail
    refine HJ.out.mono ?_
    rintro e w1 ⟨rfl, hb1⟩
    go_wp2_with fail
    go_ret2
    exact ⟨by rw [HF.out]; rfl, hb1⟩

end Go.Proofs.Ytphkmlgifhggnaa
