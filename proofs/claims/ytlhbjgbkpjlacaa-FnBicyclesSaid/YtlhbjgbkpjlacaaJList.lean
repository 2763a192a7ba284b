/- DERIVED. Joints of a kind; whether a build is sound. By program (gjlist.py). -/
import Derived.Test.YtlhbjgbkpjlacaaJState
namespace Go.Proofs.Ytlhbjgbkpjlacaa
set_option maxRecDepth 100000
open Go.RowKit

def isState (vs : List PartT) (bs : List ByteArray) (st : Int) (j : JointT) : Bool := decide (stateJ vs bs j = st)
theorem isState_open (vs : List PartT) (bs : List ByteArray) : isState vs bs 0 = openB vs bs := rfl
theorem isState_broken (vs : List PartT) (bs : List ByteArray) : isState vs bs 1 = brokenB vs bs := rfl

set_option maxHeartbeats 1000000 in
theorem l17Joints_any (A A2 A' : Option Addr) (c c2 c' : Nat) (vs : List PartT) (js : List JointT) (bs : List ByteArray) (st : Int) (w : World) (hr : RdV w w.heap.size A vs) (hr2 : Rd w w.heap.size 3 jointC A2 js) (hr' : Rd w w.heap.size 1 tC A' bs) (hs : SmallV vs) (hm2 : js.length ≤ 1048576) (hC : Codes vs bs) (hj : ∀ j ∈ js, SlotsIn j) :
    Calls Try.prog 115 #[.slice A vs.length c, .slice A2 js.length c2, .slice A' bs.length c', .int .i64 st] w (GivesOwn w 2 1 nC (idxTo (isState vs bs st) js js.length)) := by
  have HT : Hid (∀ (v : World) (j : JointT), RdV v v.heap.size A vs → Rd v v.heap.size 1 tC A' bs → SlotsIn j → Calls Try.prog 120 #[.slice A vs.length c, .agg #[.int .i64 j.1, .int .i64 j.2.1, .int .i64 j.2.2], .slice A' bs.length c'] v fun e w' => e = .returned (.int .i64 (stateJ vs bs j)) ∧ Below v.heap.size v w') := fun v j h1 h2 h3 => l17State_any A A' c c' vs bs j v h1 h2 hs hC h3
  have HJ := Lib.hid hj; clear hj hs hC
  go_enter Try.func115, Try.ntmps115
  go_wp2_with fail
  go_loopw [9, 10] (fun out i wr => ∃ (k : Nat) (A0 : Option Addr) (c0 : Nat), k ≤ js.length ∧ i = .int .i64 k ∧ out = .slice A0 (idxTo (isState vs bs st) js k).length c0 ∧ Own wr w.heap.size 2 1 nC A0 c0 (idxTo (isState vs bs st) js k) ∧ Below w.heap.size w wr) (fun _ i _ => js.length - (intOf i).toNat)
  case atStart => exact ⟨0, _, _, Nat.zero_le _, rfl, rfl, Own.made _ (Nat.le_refl _) rfl, balloc _ _⟩
  case round =>
    obtain ⟨k, A0, c0, hk, rfl, rfl, hown, hb⟩ := hrel
    have Ho := Lib.hid hown; clear hown
    by_cases hlt : k < js.length
    · have hx : js[k]? = some js[k] := List.getElem?_eq_getElem hlt
      obtain ⟨b2, o2, rfl, hB2, q0, q1, q2⟩ := (hr2.below hb).at3 hx rfl
      have hsl := HJ.out _ (List.mem_of_getElem? hx)
      generalize js[k] = t at q0 q1 q2 hx hsl
      have hle := idxTo_le (isState vs bs st) js k
      have HTt : Hid (∀ v : World, RdV v v.heap.size A vs → Rd v v.heap.size 1 tC A' bs → Calls Try.prog 120 #[.slice A vs.length c, .agg #[.int .i64 t.1, .int .i64 t.2.1, .int .i64 t.2.2], .slice A' bs.length c'] v fun e w' => e = .returned (.int .i64 (stateJ vs bs t)) ∧ Below v.heap.size v w') := fun v h1 h2 => HT.out v t h1 h2 hsl
      have HD : Hid ((stateJ vs bs t = st ∧ idxTo (isState vs bs st) js (k + 1) = idxTo (isState vs bs st) js k ++ [(k : Int)]) ∨ (¬ stateJ vs bs t = st ∧ idxTo (isState vs bs st) js (k + 1) = idxTo (isState vs bs st) js k)) := by
        by_cases e : stateJ vs bs t = st
        · exact Or.inl ⟨e, idxTo_yes hx (by simp [isState, e])⟩
        · exact Or.inr ⟨e, idxTo_no hx (by simp [isState, e])⟩
      clear hx hsl
      generalize idxTo (isState vs bs st) js k = l1 at HD Ho hle ⊢
      generalize stateJ vs bs t = sj at HTt HD
      go_wp2_with fail
      refine (HTt.out wr (hr.next hb) (hr'.next hb)).mono ?_
      rintro e w2 ⟨rfl, hb2⟩
      have Ho2 := Lib.hid (Ho.out.keep hb2)
      have hbb := bthen hb hb2
      have hbase := hbb.size
      clear q0 q1 q2 Ho hb
      rcases HD.out with ⟨e, hd⟩ | ⟨e, hd⟩
      · have hsb : (sj == st) = true := by simp [e]
        have HE := Lib.hid hd
        clear hd HD HTt e
        go_wp2_with (at_builtin; refine wpList_append_el rfl _ _ _ rfl (w.heap.size) 2 (.int .i64 0) 1 8 Try.underlying49 infoInt64 rfl (by omega) (by omega) nC l1 (k : Int) A0 c0 rfl (Ho2.out.keep (balloc _ _)) (w2.heap.size) _ rfl rfl (one_cell (by go_simp)) (by simp [nC]; rfl) (by omega) (by simp; omega) ?_)
        intro A3 c3 w4 hown4 hgr hb4
        have Ho4 := Lib.hid hown4; clear hown4
        go_wp2_with fail
        exact ⟨⟨k + 1, A3, c3, by omega, by go_num, by rw [HE.out]; simp, by rw [HE.out]; exact Ho4.out, (hbb.alloc hbase _).trans hb4⟩, by simp [intOf]; omega⟩
      · have hsb : (sj == st) = false := by simp [e]
        have HE := Lib.hid hd
        clear hd HD HTt e
        go_wp2_with fail
        exact ⟨⟨k + 1, A0, c0, by omega, by go_num, by rw [HE.out], by rw [HE.out]; exact Ho2.out, hbb⟩, by simp [intOf]; omega⟩
    · obtain rfl : k = js.length := by omega
      go_wp2_with fail
      go_ret
      exact ⟨A0, c0, rfl, Ho.out.flat (fun _ => rfl), Ho.out.cap, hb⟩

def listR (vs : List PartT) (js : List JointT) (bs : List ByteArray) (st : Int) : List Int × Int := if jointsB js = true then (if buildB vs bs = true then (idxTo (isState vs bs st) js js.length, 0) else ([], 1)) else ([], 1)
theorem codeL_zero (vs : List PartT) (js : List JointT) (bs : List ByteArray) : codeL vs js bs 0 = if jointsB js = true ∧ buildB vs bs = true then 0 else 1 := by
  have e2 : inB 0 0 7 = true := by simp [inB]
  unfold codeL
  by_cases h1 : jointsB js = true <;> by_cases h2 : buildB vs bs = true <;> simp [h1, h2, e2]

set_option maxHeartbeats 1000000 in
theorem OpenJoints_impl (A A2 A' : Option Addr) (c c2 c' : Nat) (vs : List PartT) (js : List JointT) (bs : List ByteArray) (w : World) (hr : RdV w w.heap.size A vs) (hr2 : Rd w w.heap.size 3 jointC A2 js) (hr' : Rd w w.heap.size 1 tC A' bs) (hs : SmallV vs) (hm2 : js.length ≤ 1048576) (hm' : bs.length ≤ 1048576) :
    Calls Try.prog 41 #[.slice A vs.length c, .slice A2 js.length c2, .slice A' bs.length c'] w (GivesRes w 2 1 nC (listR vs js bs 0)) := by
  have hJ := areJoints_impl A2 c2 js w hr2 hm2
  have HB : Hid (∀ v : World, RdV v v.heap.size A vs → Rd v v.heap.size 1 tC A' bs → Calls Try.prog 112 #[.slice A vs.length c, .slice A' bs.length c'] v fun e w' => e = .returned (.bool (buildB vs bs)) ∧ Below v.heap.size v w') := fun v h1 h2 => isBuild_impl A A' c c' vs bs v h1 h2 hs hm'
  by_cases hj : jointsB js = true
  · by_cases hB : buildB vs bs = true
    · have HF : Hid (listR vs js bs 0 = (idxTo (isState vs bs 0) js js.length, 0)) := by unfold Hid listR; rw [if_pos hj, if_pos hB]
      have HC : Hid (∀ (v : World) (t : JointT), RdV v v.heap.size A vs → Rd v v.heap.size 1 tC A' bs → SlotsIn t → Calls Try.prog 116 #[.slice A' bs.length c', .agg #[.int .i64 t.1, .int .i64 t.2.1, .int .i64 t.2.2]] v fun e w' => e = .returned (.bool (isState vs bs 0 t)) ∧ Below v.heap.size v w') := fun v t h1 h2 h3 => by have h4 := isOpen_any A' c' bs t v h2 (buildB_codes hB).1.len h3; rwa [← openB_eq (buildB_codes hB).1 h3] at h4
      obtain ⟨hj12, hjs⟩ := jointsB_in hj
      have HJS := Lib.hid hjs; clear hjs
      rw [hj] at hJ
      rw [hB] at HB
      have HJ := Lib.hid hJ; clear hJ hj hB hs
      generalize listR vs js bs 0 = R at HF ⊢
      go_enter Try.func41, Try.ntmps41
      go_wp2_with fail
      refine HJ.out.mono ?_
      rintro e w1 ⟨rfl, hb1⟩
      go_wp2_with fail
      refine (HB.out w1 (hr.next hb1) (hr'.next hb1)).mono ?_
      rintro e w2 ⟨rfl, hb2⟩
      have hb12 := bthen hb1 hb2
      clear hb1 hb2
      go_wp2_with fail
      go_loopw [8, 22] (fun out i wr => ∃ (k : Nat) (A0 : Option Addr) (c0 : Nat), k ≤ js.length ∧ i = .int .i64 k ∧ out = .slice A0 (idxTo (isState vs bs 0) js k).length c0 ∧ Own wr w.heap.size 2 1 nC A0 c0 (idxTo (isState vs bs 0) js k) ∧ Below w.heap.size w wr) (fun _ i _ => js.length - (intOf i).toNat)
      case atStart => exact ⟨0, _, _, Nat.zero_le _, rfl, rfl, Own.nil, hb12⟩
      case round =>
        obtain ⟨k, A0, c0, hk, rfl, rfl, hown, hb⟩ := hrel
        have Ho := Lib.hid hown; clear hown
        by_cases hlt : k < js.length
        · have hx : js[k]? = some js[k] := List.getElem?_eq_getElem hlt
          obtain ⟨b2, o2, rfl, hB2, q0, q1, q2⟩ := (hr2.below hb).at3 hx rfl
          have hsl := HJS.out _ (List.mem_of_getElem? hx)
          generalize js[k] = t at q0 q1 q2 hx hsl
          have hle := idxTo_le (isState vs bs 0) js k
          have HTt : Hid (∀ v : World, RdV v v.heap.size A vs → Rd v v.heap.size 1 tC A' bs → Calls Try.prog 116 #[.slice A' bs.length c', .agg #[.int .i64 t.1, .int .i64 t.2.1, .int .i64 t.2.2]] v fun e w' => e = .returned (.bool (isState vs bs 0 t)) ∧ Below v.heap.size v w') := fun v h1 h2 => HC.out v t h1 h2 hsl
          have HD : Hid ((isState vs bs 0 t = true ∧ idxTo (isState vs bs 0) js (k + 1) = idxTo (isState vs bs 0) js k ++ [(k : Int)]) ∨ (isState vs bs 0 t = false ∧ idxTo (isState vs bs 0) js (k + 1) = idxTo (isState vs bs 0) js k)) := by
            cases e : isState vs bs 0 t
            · exact Or.inr ⟨rfl, idxTo_no hx e⟩
            · exact Or.inl ⟨rfl, idxTo_yes hx e⟩
          clear hx hsl
          generalize idxTo (isState vs bs 0) js k = l1 at HD Ho hle ⊢
          generalize isState vs bs 0 t = sj at HTt HD
          go_wp2_with fail
          have hbV := hb.alloc hb.size (.cells #[.int .i64 t.1, .int .i64 t.2.1, .int .i64 t.2.2] 70)
          have hdV := balloc wr (.cells #[.int .i64 t.1, .int .i64 t.2.1, .int .i64 t.2.2] 70)
          refine (HTt.out _ (hr.next hbV) (hr'.next hbV)).mono ?_
          rintro e w3 ⟨rfl, hb3⟩
          have Ho2 := Lib.hid ((Ho.out.keep hdV).keep hb3)
          have hbb := bthen hbV hb3
          have hbase := hbb.size
          clear q0 q1 q2 Ho hb hbV hdV
          cases sj
          case true =>
            have HE : Hid (idxTo (isState vs bs 0) js (k + 1) = l1 ++ [(k : Int)]) := by
              rcases HD.out with ⟨_, e⟩ | ⟨e, _⟩
              · exact e
              · cases e
            clear HD HTt
            go_wp2_with (at_builtin; refine wpList_append_el rfl _ _ _ rfl (w.heap.size) 2 (.int .i64 0) 1 8 Try.underlying49 infoInt64 rfl (by omega) (by omega) nC l1 (k : Int) A0 c0 rfl (Ho2.out.keep (balloc _ _)) (w3.heap.size) _ rfl rfl (one_cell (by go_simp)) (by simp [nC]; rfl) (by omega) (by simp; omega) ?_)
            intro A3 c3 w4 hown4 hgr hb4
            have Ho4 := Lib.hid hown4; clear hown4
            go_wp2_with fail
            exact ⟨⟨k + 1, A3, c3, by omega, by go_num, by rw [HE.out]; simp, by rw [HE.out]; exact Ho4.out, (hbb.alloc hbase _).trans hb4⟩, by simp [intOf]; omega⟩
          case false =>
            have HE : Hid (idxTo (isState vs bs 0) js (k + 1) = l1) := by
              rcases HD.out with ⟨e, _⟩ | ⟨_, e⟩
              · cases e
              · exact e
            clear HD HTt
            go_wp2_with fail
            exact ⟨⟨k + 1, A0, c0, by omega, by go_num, by rw [HE.out], by rw [HE.out]; exact Ho2.out, hbb⟩, by simp [intOf]; omega⟩
        · obtain rfl : k = js.length := by omega
          go_wp2_with fail
          go_ret2
          exact ⟨A0, c0, by rw [HF.out]; rfl, by rw [HF.out]; exact Ho.out.flat (fun _ => rfl), by rw [HF.out]; exact Ho.out.cap, hb⟩
    · have HF : Hid (listR vs js bs 0 = ([], 1)) := by unfold Hid listR; rw [if_pos hj, if_neg hB]
      rw [hj] at hJ
      rw [eq_false_of_ne_true hB] at HB
      have HJ := Lib.hid hJ; clear hJ hj hB hs
      generalize listR vs js bs 0 = R at HF ⊢
      go_enter Try.func41, Try.ntmps41
      go_wp2_with fail
      refine HJ.out.mono ?_
      rintro e w1 ⟨rfl, hb1⟩
      go_wp2_with fail
      refine (HB.out w1 (hr.next hb1) (hr'.next hb1)).mono ?_
      rintro e w2 ⟨rfl, hb2⟩
      go_wp2_with fail
      go_ret2
      exact ⟨none, 0, by rw [HF.out]; rfl, by rw [HF.out]; exact flat_nil, by rw [HF.out]; exact Nat.le_refl _, bthen hb1 hb2⟩
  · have HF : Hid (listR vs js bs 0 = ([], 1)) := by unfold Hid listR; rw [if_neg hj]
    rw [eq_false_of_ne_true hj] at hJ
    have HJ := Lib.hid hJ; clear hJ hj hs
    generalize listR vs js bs 0 = R at HF ⊢
    go_enter Try.func41, Try.ntmps41
    go_wp2_with fail
    refine HJ.out.mono ?_
    rintro e w1 ⟨rfl, hb1⟩
    go_wp2_with fail
    go_ret2
    exact ⟨none, 0, by rw [HF.out]; rfl, by rw [HF.out]; exact flat_nil, by rw [HF.out]; exact Nat.le_refl _, hb1⟩

set_option maxHeartbeats 1000000 in
theorem OpenJoints_spec (A A2 A' : Option Addr) (c c2 c' : Nat) (vs : List PartT) (js : List JointT) (bs : List ByteArray) (w : World) (hr : RdV w w.heap.size A vs) (hr2 : Rd w w.heap.size 3 jointC A2 js) (hr' : Rd w w.heap.size 1 tC A' bs) (hs : SmallV vs) (hm2 : js.length ≤ 1048576) (hm' : bs.length ≤ 1048576) :
    Calls Try.prog 42 #[.slice A vs.length c, .slice A2 js.length c2, .slice A' bs.length c'] w (GivesRes w 2 1 nC (listR vs js bs 0)) := by
  have hJ := l17Code_any A A2 A' c c2 c' vs js bs 0 w hr hr2 hr' hs hm2 hm'
  have hz := codeL_zero vs js bs
  by_cases hg : jointsB js = true ∧ buildB vs bs = true
  · obtain ⟨hj, hB⟩ := hg
    have HF : Hid (listR vs js bs 0 = (idxTo (isState vs bs 0) js js.length, 0)) := by unfold Hid listR; rw [if_pos hj, if_pos hB]
    have HL : Hid (∀ v : World, RdV v v.heap.size A vs → Rd v v.heap.size 3 jointC A2 js → Rd v v.heap.size 1 tC A' bs → Calls Try.prog 115 #[.slice A vs.length c, .slice A2 js.length c2, .slice A' bs.length c', .int .i64 0] v (GivesOwn v 2 1 nC (idxTo (isState vs bs 0) js js.length))) := fun v h1 h2 h3 => l17Joints_any A A2 A' c c2 c' vs js bs 0 v h1 h2 h3 hs hm2 (buildB_codes hB).1 (jointsB_in hj).2
    rw [hz, if_pos ⟨hj, hB⟩] at hJ
    have HJ := Lib.hid hJ; clear hJ hj hB hz hs
    generalize listR vs js bs 0 = R at HF ⊢
    generalize idxTo (isState vs bs 0) js js.length = L at HF HL
    go_enter Try.func42, Try.ntmps42
    go_wp2_with fail
    refine HJ.out.mono ?_
    rintro e w1 ⟨rfl, hb1⟩
    go_wp2_with fail
    refine (HL.out w1 (hr.next hb1) (hr2.next hb1) (hr'.next hb1)).mono ?_
    rintro e w2 ⟨A3, c3, rfl, hf2, hc2, hb2⟩
    go_wp2_with fail
    go_ret2
    have hs1 := hb1.size
    exact ⟨A3, c3, by rw [HF.out]; rfl, by rw [HF.out]; exact hf2.mono hs1 (Nat.le_refl _), by rw [HF.out]; exact hc2, bthen hb1 hb2⟩
  · have HF : Hid (listR vs js bs 0 = ([], 1)) := by
      unfold Hid listR
      by_cases h1 : jointsB js = true
      · rw [if_pos h1, if_neg (fun h2 => hg ⟨h1, h2⟩)]
      · rw [if_neg h1]
    rw [hz, if_neg hg] at hJ
    have HJ := Lib.hid hJ; clear hJ hg hz hs
    generalize listR vs js bs 0 = R at HF ⊢
    go_enter Try.func42, Try.ntmps42
    go_wp2_with fail
    refine HJ.out.mono ?_
    rintro e w1 ⟨rfl, hb1⟩
    go_wp2_with fail
    go_ret2
    exact ⟨none, 0, by rw [HF.out]; rfl, by rw [HF.out]; exact flat_nil, by rw [HF.out]; exact Nat.le_refl _, hb1⟩

set_option maxHeartbeats 1000000 in
theorem BrokenJoints_impl (A A2 A' : Option Addr) (c c2 c' : Nat) (vs : List PartT) (js : List JointT) (bs : List ByteArray) (w : World) (hr : RdV w w.heap.size A vs) (hr2 : Rd w w.heap.size 3 jointC A2 js) (hr' : Rd w w.heap.size 1 tC A' bs) (hs : SmallV vs) (hm2 : js.length ≤ 1048576) (hm' : bs.length ≤ 1048576) :
    Calls Try.prog 39 #[.slice A vs.length c, .slice A2 js.length c2, .slice A' bs.length c'] w (GivesRes w 2 1 nC (listR vs js bs 1)) := by
  have hJ := areJoints_impl A2 c2 js w hr2 hm2
  have HB : Hid (∀ v : World, RdV v v.heap.size A vs → Rd v v.heap.size 1 tC A' bs → Calls Try.prog 112 #[.slice A vs.length c, .slice A' bs.length c'] v fun e w' => e = .returned (.bool (buildB vs bs)) ∧ Below v.heap.size v w') := fun v h1 h2 => isBuild_impl A A' c c' vs bs v h1 h2 hs hm'
  by_cases hj : jointsB js = true
  · by_cases hB : buildB vs bs = true
    · have HF : Hid (listR vs js bs 1 = (idxTo (isState vs bs 1) js js.length, 0)) := by unfold Hid listR; rw [if_pos hj, if_pos hB]
      have HC : Hid (∀ (v : World) (t : JointT), RdV v v.heap.size A vs → Rd v v.heap.size 1 tC A' bs → SlotsIn t → Calls Try.prog 113 #[.slice A vs.length c, .slice A' bs.length c', .agg #[.int .i64 t.1, .int .i64 t.2.1, .int .i64 t.2.2]] v fun e w' => e = .returned (.bool (isState vs bs 1 t)) ∧ Below v.heap.size v w') := fun v t h1 h2 h3 => isBroken_any A A' c c' vs bs t v h1 h2 hs (buildB_codes hB).1 h3
      obtain ⟨hj12, hjs⟩ := jointsB_in hj
      have HJS := Lib.hid hjs; clear hjs
      rw [hj] at hJ
      rw [hB] at HB
      have HJ := Lib.hid hJ; clear hJ hj hB hs
      generalize listR vs js bs 1 = R at HF ⊢
      go_enter Try.func39, Try.ntmps39
      go_wp2_with fail
      refine HJ.out.mono ?_
      rintro e w1 ⟨rfl, hb1⟩
      go_wp2_with fail
      refine (HB.out w1 (hr.next hb1) (hr'.next hb1)).mono ?_
      rintro e w2 ⟨rfl, hb2⟩
      have hb12 := bthen hb1 hb2
      clear hb1 hb2
      go_wp2_with fail
      go_loopw [8, 22] (fun out i wr => ∃ (k : Nat) (A0 : Option Addr) (c0 : Nat), k ≤ js.length ∧ i = .int .i64 k ∧ out = .slice A0 (idxTo (isState vs bs 1) js k).length c0 ∧ Own wr w.heap.size 2 1 nC A0 c0 (idxTo (isState vs bs 1) js k) ∧ Below w.heap.size w wr) (fun _ i _ => js.length - (intOf i).toNat)
      case atStart => exact ⟨0, _, _, Nat.zero_le _, rfl, rfl, Own.nil, hb12⟩
      case round =>
        obtain ⟨k, A0, c0, hk, rfl, rfl, hown, hb⟩ := hrel
        have Ho := Lib.hid hown; clear hown
        by_cases hlt : k < js.length
        · have hx : js[k]? = some js[k] := List.getElem?_eq_getElem hlt
          obtain ⟨b2, o2, rfl, hB2, q0, q1, q2⟩ := (hr2.below hb).at3 hx rfl
          have hsl := HJS.out _ (List.mem_of_getElem? hx)
          generalize js[k] = t at q0 q1 q2 hx hsl
          have hle := idxTo_le (isState vs bs 1) js k
          have HTt : Hid (∀ v : World, RdV v v.heap.size A vs → Rd v v.heap.size 1 tC A' bs → Calls Try.prog 113 #[.slice A vs.length c, .slice A' bs.length c', .agg #[.int .i64 t.1, .int .i64 t.2.1, .int .i64 t.2.2]] v fun e w' => e = .returned (.bool (isState vs bs 1 t)) ∧ Below v.heap.size v w') := fun v h1 h2 => HC.out v t h1 h2 hsl
          have HD : Hid ((isState vs bs 1 t = true ∧ idxTo (isState vs bs 1) js (k + 1) = idxTo (isState vs bs 1) js k ++ [(k : Int)]) ∨ (isState vs bs 1 t = false ∧ idxTo (isState vs bs 1) js (k + 1) = idxTo (isState vs bs 1) js k)) := by
            cases e : isState vs bs 1 t
            · exact Or.inr ⟨rfl, idxTo_no hx e⟩
            · exact Or.inl ⟨rfl, idxTo_yes hx e⟩
          clear hx hsl
          generalize idxTo (isState vs bs 1) js k = l1 at HD Ho hle ⊢
          generalize isState vs bs 1 t = sj at HTt HD
          go_wp2_with fail
          have hbV := hb.alloc hb.size (.cells #[.int .i64 t.1, .int .i64 t.2.1, .int .i64 t.2.2] 70)
          have hdV := balloc wr (.cells #[.int .i64 t.1, .int .i64 t.2.1, .int .i64 t.2.2] 70)
          refine (HTt.out _ (hr.next hbV) (hr'.next hbV)).mono ?_
          rintro e w3 ⟨rfl, hb3⟩
          have Ho2 := Lib.hid ((Ho.out.keep hdV).keep hb3)
          have hbb := bthen hbV hb3
          have hbase := hbb.size
          clear q0 q1 q2 Ho hb hbV hdV
          cases sj
          case true =>
            have HE : Hid (idxTo (isState vs bs 1) js (k + 1) = l1 ++ [(k : Int)]) := by
              rcases HD.out with ⟨_, e⟩ | ⟨e, _⟩
              · exact e
              · cases e
            clear HD HTt
            go_wp2_with (at_builtin; refine wpList_append_el rfl _ _ _ rfl (w.heap.size) 2 (.int .i64 0) 1 8 Try.underlying49 infoInt64 rfl (by omega) (by omega) nC l1 (k : Int) A0 c0 rfl (Ho2.out.keep (balloc _ _)) (w3.heap.size) _ rfl rfl (one_cell (by go_simp)) (by simp [nC]; rfl) (by omega) (by simp; omega) ?_)
            intro A3 c3 w4 hown4 hgr hb4
            have Ho4 := Lib.hid hown4; clear hown4
            go_wp2_with fail
            exact ⟨⟨k + 1, A3, c3, by omega, by go_num, by rw [HE.out]; simp, by rw [HE.out]; exact Ho4.out, (hbb.alloc hbase _).trans hb4⟩, by simp [intOf]; omega⟩
          case false =>
            have HE : Hid (idxTo (isState vs bs 1) js (k + 1) = l1) := by
              rcases HD.out with ⟨e, _⟩ | ⟨_, e⟩
              · cases e
              · exact e
            clear HD HTt
            go_wp2_with fail
            exact ⟨⟨k + 1, A0, c0, by omega, by go_num, by rw [HE.out], by rw [HE.out]; exact Ho2.out, hbb⟩, by simp [intOf]; omega⟩
        · obtain rfl : k = js.length := by omega
          go_wp2_with fail
          go_ret2
          exact ⟨A0, c0, by rw [HF.out]; rfl, by rw [HF.out]; exact Ho.out.flat (fun _ => rfl), by rw [HF.out]; exact Ho.out.cap, hb⟩
    · have HF : Hid (listR vs js bs 1 = ([], 1)) := by unfold Hid listR; rw [if_pos hj, if_neg hB]
      rw [hj] at hJ
      rw [eq_false_of_ne_true hB] at HB
      have HJ := Lib.hid hJ; clear hJ hj hB hs
      generalize listR vs js bs 1 = R at HF ⊢
      go_enter Try.func39, Try.ntmps39
      go_wp2_with fail
      refine HJ.out.mono ?_
      rintro e w1 ⟨rfl, hb1⟩
      go_wp2_with fail
      refine (HB.out w1 (hr.next hb1) (hr'.next hb1)).mono ?_
      rintro e w2 ⟨rfl, hb2⟩
      go_wp2_with fail
      go_ret2
      exact ⟨none, 0, by rw [HF.out]; rfl, by rw [HF.out]; exact flat_nil, by rw [HF.out]; exact Nat.le_refl _, bthen hb1 hb2⟩
  · have HF : Hid (listR vs js bs 1 = ([], 1)) := by unfold Hid listR; rw [if_neg hj]
    rw [eq_false_of_ne_true hj] at hJ
    have HJ := Lib.hid hJ; clear hJ hj hs
    generalize listR vs js bs 1 = R at HF ⊢
    go_enter Try.func39, Try.ntmps39
    go_wp2_with fail
    refine HJ.out.mono ?_
    rintro e w1 ⟨rfl, hb1⟩
    go_wp2_with fail
    go_ret2
    exact ⟨none, 0, by rw [HF.out]; rfl, by rw [HF.out]; exact flat_nil, by rw [HF.out]; exact Nat.le_refl _, hb1⟩

set_option maxHeartbeats 1000000 in
theorem BrokenJoints_spec (A A2 A' : Option Addr) (c c2 c' : Nat) (vs : List PartT) (js : List JointT) (bs : List ByteArray) (w : World) (hr : RdV w w.heap.size A vs) (hr2 : Rd w w.heap.size 3 jointC A2 js) (hr' : Rd w w.heap.size 1 tC A' bs) (hs : SmallV vs) (hm2 : js.length ≤ 1048576) (hm' : bs.length ≤ 1048576) :
    Calls Try.prog 40 #[.slice A vs.length c, .slice A2 js.length c2, .slice A' bs.length c'] w (GivesRes w 2 1 nC (listR vs js bs 1)) := by
  have hJ := l17Code_any A A2 A' c c2 c' vs js bs 0 w hr hr2 hr' hs hm2 hm'
  have hz := codeL_zero vs js bs
  by_cases hg : jointsB js = true ∧ buildB vs bs = true
  · obtain ⟨hj, hB⟩ := hg
    have HF : Hid (listR vs js bs 1 = (idxTo (isState vs bs 1) js js.length, 0)) := by unfold Hid listR; rw [if_pos hj, if_pos hB]
    have HL : Hid (∀ v : World, RdV v v.heap.size A vs → Rd v v.heap.size 3 jointC A2 js → Rd v v.heap.size 1 tC A' bs → Calls Try.prog 115 #[.slice A vs.length c, .slice A2 js.length c2, .slice A' bs.length c', .int .i64 1] v (GivesOwn v 2 1 nC (idxTo (isState vs bs 1) js js.length))) := fun v h1 h2 h3 => l17Joints_any A A2 A' c c2 c' vs js bs 1 v h1 h2 h3 hs hm2 (buildB_codes hB).1 (jointsB_in hj).2
    rw [hz, if_pos ⟨hj, hB⟩] at hJ
    have HJ := Lib.hid hJ; clear hJ hj hB hz hs
    generalize listR vs js bs 1 = R at HF ⊢
    generalize idxTo (isState vs bs 1) js js.length = L at HF HL
    go_enter Try.func40, Try.ntmps40
    go_wp2_with fail
    refine HJ.out.mono ?_
    rintro e w1 ⟨rfl, hb1⟩
    go_wp2_with fail
    refine (HL.out w1 (hr.next hb1) (hr2.next hb1) (hr'.next hb1)).mono ?_
    rintro e w2 ⟨A3, c3, rfl, hf2, hc2, hb2⟩
    go_wp2_with fail
    go_ret2
    have hs1 := hb1.size
    exact ⟨A3, c3, by rw [HF.out]; rfl, by rw [HF.out]; exact hf2.mono hs1 (Nat.le_refl _), by rw [HF.out]; exact hc2, bthen hb1 hb2⟩
  · have HF : Hid (listR vs js bs 1 = ([], 1)) := by
      unfold Hid listR
      by_cases h1 : jointsB js = true
      · rw [if_pos h1, if_neg (fun h2 => hg ⟨h1, h2⟩)]
      · rw [if_neg h1]
    rw [hz, if_neg hg] at hJ
    have HJ := Lib.hid hJ; clear hJ hg hz hs
    generalize listR vs js bs 1 = R at HF ⊢
    go_enter Try.func40, Try.ntmps40
    go_wp2_with fail
    refine HJ.out.mono ?_
    rintro e w1 ⟨rfl, hb1⟩
    go_wp2_with fail
    go_ret2
    exact ⟨none, 0, by rw [HF.out]; rfl, by rw [HF.out]; exact flat_nil, by rw [HF.out]; exact Nat.le_refl _, hb1⟩

end Go.Proofs.Ytlhbjgbkpjlacaa
