/- DERIVED. Joints of a kind; whether a build is sound. By program (gjlist.py). -/
import Derived.Test.YtioblfbhjkkgoaaJState
namespace Go.Proofs.Ytioblfbhjkkgoaa
set_option maxRecDepth 100000
open Go.RowKit

def isState (vs : List PartT) (bs : List ByteArray) (st : Int) (j : JointT) : Bool := decide (stateJ vs bs j = st)
theorem isState_open (vs : List PartT) (bs : List ByteArray) : isState vs bs 0 = openB vs bs := rfl
theorem isState_broken (vs : List PartT) (bs : List ByteArray) : isState vs bs 1 = brokenB vs bs := rfl

set_option maxHeartbeats 1000000 in
theorem l17Joints_any (A A2 A' : Option Addr) (c c2 c' : Nat) (vs : List PartT) (js : List JointT) (bs : List ByteArray) (st : Int) (w : World) (hr : RdV w w.heap.size A vs) (hr2 : Rd w w.heap.size 3 jointC A2 js) (hr' : Rd w w.heap.size 1 tC A' bs) (hs : SmallV vs) (hm2 : js.length ≤ 1048576) (hC : Codes vs bs) (hj : ∀ j ∈ js, SlotsIn j) :
    Calls Try.prog 64 #[.slice A vs.length c, .slice A2 js.length c2, .slice A' bs.length c', .int .i64 st] w (GivesOwn w 2 1 nC (idxTo (isState vs bs st) js js.length)) := by
  have HT : Hid (∀ (v : World) (j : JointT), RdV v v.heap.size A vs → Rd v v.heap.size 1 tC A' bs → SlotsIn j → Calls Try.prog 76 #[.slice A vs.length c, .agg #[.int .i64 j.1, .int .i64 j.2.1, .int .i64 j.2.2], .slice A' bs.length c'] v fun e w' => e = .returned (.int .i64 (stateJ vs bs j)) ∧ Below v.heap.size v w') := fun v j h1 h2 h3 => l17State_any A A' c c' vs bs j v h1 h2 hs hC h3
  have HJ := Lib.hid hj; clear hj hs hC
  go_enter Try.func64, Try.ntmps64
  go_wp2_with fail
  go_loopw [9, 10] (fun out i wr => ∃ (k : Nat) (A0 : Option Addr) (c0 : Nat), k ≤ js.length ∧ i = .int .i64 k ∧ out = .slice A0 (idxTo (isState vs bs st) js k).length c0 ∧ Own wr w.heap.size 2 1 nC A0 c0 (idxTo (isState vs bs st) js k) ∧ Below w.heap.size w wr) (fun _ i _ => js.length - (intOf i).toNat)
  case atStart => exact ⟨0, _, _, Nat.zero_le _, rfl, rfl, Own.made _ (Nat.le_refl _) rfl, balloc _ _⟩
  case round =>
    obtain ⟨k, A0, c0, hk, rfl, rfl, hown, hb⟩ := hrel
    have Ho := Lib.hid hown; clear hown
    by_cases hlt : k < js.length
    · have hx : js[k]? = some js[k] := List.getElem?_eq_getElem hlt
      obtain ⟨b2, o2, rfl, hB2, q0, q1, q2⟩ := (hr2.below hb).at3 hx rfl
      have hsl := HJ.out _ (List.mem_of_getElem? hx)
      generalize js[k] = t at q0 q1 q2 hx hsl
      have hle := idxTo_le (isState vs bs st) js k
      have HTt : Hid (∀ v : World, RdV v v.heap.size A vs → Rd v v.heap.size 1 tC A' bs → Calls Try.prog 76 #[.slice A vs.length c, .agg #[.int .i64 t.1, .int .i64 t.2.1, .int .i64 t.2.2], .slice A' bs.length c'] v fun e w' => e = .returned (.int .i64 (stateJ vs bs t)) ∧ Below v.heap.size v w') := fun v h1 h2 => HT.out v t h1 h2 hsl
      have HD : Hid ((stateJ vs bs t = st ∧ idxTo (isState vs bs st) js (k + 1) = idxTo (isState vs bs st) js k ++ [(k : Int)]) ∨ (¬ stateJ vs bs t = st ∧ idxTo (isState vs bs st) js (k + 1) = idxTo (isState vs bs st) js k)) := by
        by_cases e : stateJ vs bs t = st
        · exact Or.inl ⟨e, idxTo_yes hx (by simp [isState, e])⟩
        · exact Or.inr ⟨e, idxTo_no hx (by simp [isState, e])⟩
      clear hx hsl
      generalize idxTo (isState vs bs st) js k = l1 at HD Ho hle ⊢
      generalize stateJ vs bs t = sj at HTt HD
      go_wp2_with fail
      refine (HTt.out wr (hr.next hb) (hr'.next hb)).mono ?_
      rintro e w2 ⟨rfl, hb2⟩
      have Ho2 := Lib.hid (Ho.out.keep hb2)
      have hbb := bthen hb hb2
      have hbase := hbb.size
      clear q0 q1 q2 Ho hb
      rcases HD.out with ⟨e, hd⟩ | ⟨e, hd⟩
      · have hsb : (sj == st) = true := by simp [e]
        have HE := Lib.hid hd
        clear hd HD HTt e
        go_wp2_with (at_builtin; refine wpList_append_el rfl _ _ _ rfl (w.heap.size) 2 (.int .i64 0) 1 8 Try.underlying47 infoInt64 rfl (by omega) (by omega) nC l1 (k : Int) A0 c0 rfl (Ho2.out.keep (balloc _ _)) (w2.heap.size) _ rfl rfl (one_cell (by go_simp)) (by simp [nC]; rfl) (by omega) (by simp; omega) ?_)
        intro A3 c3 w4 hown4 hgr hb4
        have Ho4 := Lib.hid hown4; clear hown4
        go_wp2_with fail
        exact ⟨⟨k + 1, A3, c3, by omega, by go_num, by rw [HE.out]; simp, by rw [HE.out]; exact Ho4.out, (hbb.alloc hbase _).trans hb4⟩, by simp [intOf]; omega⟩
      · have hsb : (sj == st) = false := by simp [e]
        have HE := Lib.hid hd
        clear hd HD HTt e
        go_wp2_with fail
        exact ⟨⟨k + 1, A0, c0, by omega, by go_num, by rw [HE.out], by rw [HE.out]; exact Ho2.out, hbb⟩, by simp [intOf]; omega⟩
    · obtain rfl : k = js.length := by omega
      go_wp2_with fail
      go_ret
      exact ⟨A0, c0, rfl, Ho.out.flat (fun _ => rfl), Ho.out.cap, hb⟩

def listR (vs : List PartT) (js : List JointT) (bs : List ByteArray) (st : Int) : List Int × Int := if jointsB js = true then (if buildB vs bs = true then (idxTo (isState vs bs st) js js.length, 0) else ([], 1)) else ([], 1)
theorem codeL_zero (vs : List PartT) (js : List JointT) (bs : List ByteArray) : codeL vs js bs 0 = if jointsB js = true ∧ buildB vs bs = true then 0 else 1 := by
  have e2 : inB 0 0 7 = true := by simp [inB]
  unfold codeL
  by_cases h1 : jointsB js = true <;> by_cases h2 : buildB vs bs = true <;> simp [h1, h2, e2]

end Go.Proofs.Ytioblfbhjkkgoaa
