/- DERIVED. Builds as plain values: what makes a build, joints, sums. -/
import Derived.Test.YtioblfbhjkkgoaaFind
import Derived.Test.YtioblfbhjkkgoaaJoin
import Derived.Test.YtioblfbhjkkgoaaIdx
import Derived.Test.YtioblfbhjkkgoaaJoints
namespace Go.Proofs.Ytioblfbhjkkgoaa
set_option maxRecDepth 100000
open Go.RowKit

abbrev JointT := Int × Int × Int
def noText : ByteArray := ⟨#[]⟩
/-- The slot of the part at an index. -/
def slotAt (vs : List PartT) (n : Int) : Int := match vs[n.toNat]? with
  | some x => x.slot
  | none => 0
theorem slotAt_eq {vs : List PartT} {j : Nat} {x : PartT} (h : vs[j]? = some x) : slotAt vs (j : Int) = x.slot := by simp [slotAt, h]
/-- The i-th text of a build is empty, or the code of a part of this slot. -/
def codeOk (vs : List PartT) (bs : List ByteArray) (i : Nat) : Bool := match bs[i]? with
  | some c => decide (c = noText) || (decide (0 ≤ findI vs c) && decide (slotAt vs (findI vs c) = (i : Int)))
  | none => true
def buildB (vs : List PartT) (bs : List ByteArray) : Bool := partsB vs && decide (bs.length = 8) && (List.range bs.length).all (codeOk vs bs)
theorem buildB_false {vs : List PartT} {bs : List ByteArray} {i : Nat} (hi : i < bs.length) (h : codeOk vs bs i = false) : buildB vs bs = false := by
  have : (List.range bs.length).all (codeOk vs bs) = false := by
    rw [List.all_eq_false]
    exact ⟨i, List.mem_range.2 hi, by simp [h]⟩
  simp [buildB, this]
theorem buildB_all {vs : List PartT} {bs : List ByteArray} (h : ∀ j, j < bs.length → codeOk vs bs j = true) : buildB vs bs = (partsB vs && decide (bs.length = 8)) := by
  have : (List.range bs.length).all (codeOk vs bs) = true := by
    rw [List.all_eq_true]
    exact fun i hi => h i (List.mem_range.1 hi)
  simp [buildB, this]
theorem codeOk_empty {vs : List PartT} {bs : List ByteArray} {i : Nat} {c : ByteArray} (hc : bs[i]? = some c) (h : c = noText) : codeOk vs bs i = true := by simp [codeOk, hc, h]
theorem codeOk_not {vs : List PartT} {bs : List ByteArray} {i : Nat} {c : ByteArray} (hc : bs[i]? = some c) (h : c ≠ noText) : codeOk vs bs i = (decide (0 ≤ findI vs c) && decide (slotAt vs (findI vs c) = (i : Int))) := by simp [codeOk, hc, h]

/-- Parts and eight texts, each empty or the code of a part. -/
structure Codes (vs : List PartT) (bs : List ByteArray) : Prop where
  parts : partsB vs = true
  len : bs.length = 8
  code : ∀ c ∈ bs, c = noText ∨ 0 ≤ findI vs c
theorem buildB_codes {vs : List PartT} {bs : List ByteArray} (h : buildB vs bs = true) : Codes vs bs ∧ ∀ (i : Nat) (c : ByteArray), bs[i]? = some c → c ≠ noText → ∃ (k : Nat) (x : PartT), findI vs c = (k : Int) ∧ vs[k]? = some x ∧ x.code = c ∧ x.slot = (i : Int) := by
  unfold buildB at h
  simp only [Bool.and_eq_true, decide_eq_true_eq] at h
  obtain ⟨⟨h1, h2⟩, h3⟩ := h
  have h4 : ∀ (i : Nat) (c : ByteArray), bs[i]? = some c → c ≠ noText → ∃ (k : Nat) (x : PartT), findI vs c = (k : Int) ∧ vs[k]? = some x ∧ x.code = c ∧ x.slot = (i : Int) := fun i c hc hn => by
    have hi := (List.getElem?_eq_some_iff.1 hc).1
    have h5 := List.all_eq_true.1 h3 i (List.mem_range.2 hi)
    rw [codeOk_not hc hn] at h5
    simp only [Bool.and_eq_true, decide_eq_true_eq] at h5
    rcases findI_cases vs c with ⟨e, _⟩ | ⟨k, x, e, _, hx, hxc⟩
    · omega
    · rw [e, slotAt_eq hx] at h5
      exact ⟨k, x, e, hx, hxc, h5.2⟩
  refine ⟨⟨h1, h2, fun c hc => ?_⟩, h4⟩
  obtain ⟨i, hi⟩ := List.mem_iff_getElem?.1 hc
  by_cases hn : c = noText
  · exact Or.inl hn
  · obtain ⟨k, _, e, _⟩ := h4 i c hi hn
    exact Or.inr (by omega)
theorem buildB_mk {vs : List PartT} {bs : List ByteArray} (h1 : partsB vs = true) (h2 : bs.length = 8) (h3 : ∀ (i : Nat) (c : ByteArray), bs[i]? = some c → c ≠ noText → ∃ (k : Nat) (x : PartT), findI vs c = (k : Int) ∧ vs[k]? = some x ∧ x.slot = (i : Int)) : buildB vs bs = true := by
  rw [buildB_all, h1, h2]
  · rfl
  · intro j hj
    have hc : bs[j]? = some bs[j] := List.getElem?_eq_getElem hj
    by_cases hn : bs[j] = noText
    · exact codeOk_empty hc hn
    · rw [codeOk_not hc hn]
      obtain ⟨k, x, e, hx, hs⟩ := h3 j _ hc hn
      rw [e, slotAt_eq hx]
      simp [hs]
/-- A code that is there is a word. -/
theorem findI_word {vs : List PartT} {c : ByteArray} (hp : partsB vs = true) (h : 0 ≤ findI vs c) : ∃ (k : Nat) (x : PartT), findI vs c = (k : Int) ∧ k < vs.length ∧ vs[k]? = some x ∧ x.code = c ∧ c ≠ noText := by
  rcases findI_cases vs c with ⟨e, _⟩ | ⟨k, x, e, hk, hx, hc⟩
  · omega
  · refine ⟨k, x, e, hk, hx, hc, ?_⟩
    rw [← hc]
    exact word_some (partsB_at hp hx).word
theorem findI_noText {vs : List PartT} (hp : partsB vs = true) : findI vs noText = -1 := findI_empty hp

/-- The ports of the part at an index. -/
def portsAt (vs : List PartT) (n : Int) : List PortT := match vs[n.toNat]? with
  | some x => x.ports
  | none => []
theorem portsAt_eq {vs : List PartT} {j : Nat} {x : PartT} (h : vs[j]? = some x) : portsAt vs (j : Int) = x.ports := by simp [portsAt, h]
def textAt (bs : List ByteArray) (n : Int) : ByteArray := match bs[n.toNat]? with
  | some c => c
  | none => noText
theorem textAt_eq {bs : List ByteArray} {n : Int} {c : ByteArray} (h : bs[n.toNat]? = some c) : textAt bs n = c := by simp [textAt, h]
/-- What a joint is: 0 open, 1 broken, 2 closed. -/
def stateJ (vs : List PartT) (bs : List ByteArray) (j : JointT) : Int :=
  if findI vs (textAt bs j.1) < 0 ∨ findI vs (textAt bs j.2.1) < 0 then 0
  else if joinB (portsAt vs (findI vs (textAt bs j.1))) (portsAt vs (findI vs (textAt bs j.2.1))) j.2.2 = true then 2 else 1
def openB (vs : List PartT) (bs : List ByteArray) (j : JointT) : Bool := decide (stateJ vs bs j = 0)
def brokenB (vs : List PartT) (bs : List ByteArray) (j : JointT) : Bool := decide (stateJ vs bs j = 1)
theorem stateJ_bd (vs : List PartT) (bs : List ByteArray) (j : JointT) : 0 ≤ stateJ vs bs j ∧ stateJ vs bs j ≤ 2 := by
  unfold stateJ
  split
  · omega
  · split <;> omega
/-- A joint's two slots lie within a build. -/
def SlotsIn (j : JointT) : Prop := 0 ≤ j.1 ∧ j.1 ≤ 7 ∧ 0 ≤ j.2.1 ∧ j.2.1 ≤ 7
theorem jointsB_in {js : List JointT} (h : jointsB js = true) : js.length ≤ 12 ∧ ∀ j ∈ js, SlotsIn j := by
  unfold jointsB at h
  simp only [Bool.and_eq_true, decide_eq_true_eq] at h
  refine ⟨h.1, fun j hj => ?_⟩
  have := List.all_eq_true.1 h.2 j hj
  simp only [okJoint, Bool.and_eq_true, decide_eq_true_eq] at this
  obtain ⟨⟨⟨h1, h2⟩, _⟩, _⟩ := this
  have h1 := inB_true h1
  have h2 := inB_true h2
  exact ⟨h1.1, h1.2, h2.1, h2.2⟩

/-- The sum of what f says of the parts of the first k texts. -/
def sumTo (vs : List PartT) (f : PartT → Int) (bs : List ByteArray) : Nat → Int
  | 0 => 0
  | k + 1 => sumTo vs f bs k + (match bs[k]? with
    | some c => if c = noText then 0 else (match vs[(findI vs c).toNat]? with
      | some x => f x
      | none => 0)
    | none => 0)
theorem sumTo_none {vs : List PartT} {f : PartT → Int} {bs : List ByteArray} {k : Nat} {c : ByteArray} (hc : bs[k]? = some c) (h : c = noText) : sumTo vs f bs (k + 1) = sumTo vs f bs k := by
  simp [sumTo, hc, h]
theorem sumTo_some {vs : List PartT} {f : PartT → Int} {bs : List ByteArray} {k j : Nat} {c : ByteArray} {x : PartT} (hc : bs[k]? = some c) (h : c ≠ noText) (e : findI vs c = (j : Int)) (hx : vs[j]? = some x) : sumTo vs f bs (k + 1) = sumTo vs f bs k + f x := by
  simp [sumTo, hc, h, e, hx]
theorem sumTo_bd {vs : List PartT} {f : PartT → Int} (bs : List ByteArray) {M : Int} (hM : 0 ≤ M) (h : ∀ x ∈ vs, 0 ≤ f x ∧ f x ≤ M) : ∀ k : Nat, 0 ≤ sumTo vs f bs k ∧ sumTo vs f bs k ≤ M * k
  | 0 => by simp [sumTo]
  | k + 1 => by
    have ih := sumTo_bd bs hM h k
    have hz : ∀ z : Int, z = (match bs[k]? with
      | some c => if c = noText then 0 else (match vs[(findI vs c).toNat]? with
        | some x => f x
        | none => 0)
      | none => 0) → 0 ≤ z ∧ z ≤ M := fun z e => by
      split at e
      · split at e
        · omega
        · split at e
          · rename_i x hx
            have := h x (List.mem_of_getElem? hx)
            omega
          · omega
      · omega
    have h2 := hz _ rfl
    unfold sumTo
    rw [show ((k + 1 : Nat) : Int) = (k : Int) + 1 from by omega, Int.mul_add]
    omega
end Go.Proofs.Ytioblfbhjkkgoaa
