/- DERIVED. Parts as plain values: what makes a part and parts; how a slice of parts reads. -/
import Derived.Test.YtioblfbhjkkgoaaPart3
import Derived.Test.YtioblfbhjkkgoaaWord
import Derived.Test.YtioblfbhjkkgoaaPortText
import Derived.Laws.Cover1
import Derived.Sort.Walk0
namespace Go.Proofs.Ytioblfbhjkkgoaa
set_option maxRecDepth 100000
open Go.RowKit

/-- One text before another. -/
def ltT (a b : ByteArray) : Bool := Go.Op.bytesLess a.toList b.toList
theorem ltT_irrefl (a : ByteArray) : ltT a a = false := by
  unfold ltT
  rw [bytesLess_eq]
  exact decide_eq_false (List.lt_irrefl _)
theorem ltT_trans {a b c : ByteArray} (h : ltT a b = true) (k : ltT b c = true) : ltT a c = true := by
  unfold ltT at *
  rw [bytesLess_eq] at *
  exact decide_eq_true (List.lt_trans (of_decide_eq_true h) (of_decide_eq_true k))
theorem ltT_total {a b : ByteArray} (h : ltT a b = false) (k : ltT b a = false) : a = b := by
  unfold ltT at *
  rw [bytesLess_eq] at *
  have h1 := of_decide_eq_false h
  have h2 := of_decide_eq_false k
  exact str_eq.1 (List.le_antisymm (List.not_lt.1 h2) (List.not_lt.1 h1))

section
variable {α : Type} {ok : α → Bool} {lt : α → α → Bool} {xs : List α} {i k : Nat} {x y : α}
/-- The i-th is good and follows the one before it. -/
def stepB (ok : α → Bool) (lt : α → α → Bool) (xs : List α) (i : Nat) : Bool := match xs[i]? with
  | some x => ok x && (match i with
    | 0 => true
    | j + 1 => match xs[j]? with
      | some y => lt y x
      | none => true)
  | none => true
def chainB (ok : α → Bool) (lt : α → α → Bool) (xs : List α) : Bool := (List.range xs.length).all (stepB ok lt xs)
theorem stepB_bad (hx : xs[i]? = some x) (h : ok x = false) : stepB ok lt xs i = false := by simp [stepB, hx, h]
theorem stepB_zero (hx : xs[0]? = some x) (h : ok x = true) : stepB ok lt xs 0 = true := by simp [stepB, hx, h]
theorem stepB_next (hx : xs[i]? = some x) (h0 : 0 < i) (hy : xs[i - 1]? = some y) (h : ok x = true) : stepB ok lt xs i = lt y x := by
  obtain ⟨j, rfl⟩ : ∃ j, i = j + 1 := ⟨i - 1, by omega⟩
  simp only [Nat.add_sub_cancel] at hy
  simp [stepB, hx, h, hy]
theorem chainB_false (hi : i < xs.length) (h : stepB ok lt xs i = false) : chainB ok lt xs = false := by
  unfold chainB
  rw [List.all_eq_false]
  exact ⟨i, List.mem_range.2 hi, by simp [h]⟩
theorem chainB_true (h : ∀ j, j < xs.length → stepB ok lt xs j = true) : chainB ok lt xs = true := by
  unfold chainB
  rw [List.all_eq_true]
  exact fun i hi => h i (List.mem_range.1 hi)
theorem chainB_step (h : chainB ok lt xs = true) (hi : i < xs.length) : stepB ok lt xs i = true := by
  unfold chainB at h
  rw [List.all_eq_true] at h
  exact h i (List.mem_range.2 hi)
theorem chainB_ok (h : chainB ok lt xs = true) (hx : xs[i]? = some x) : ok x = true := by
  have := chainB_step h (List.getElem?_eq_some_iff.1 hx).1
  by_cases e : ok x = true
  · exact e
  · rw [stepB_bad hx (by simpa using e)] at this
    cases this
theorem chainB_mem (h : chainB ok lt xs = true) (hx : x ∈ xs) : ok x = true := by
  obtain ⟨i, hi⟩ := List.mem_iff_getElem?.1 hx
  exact chainB_ok h hi
theorem chainB_next (h : chainB ok lt xs = true) (hx : xs[i + 1]? = some x) (hy : xs[i]? = some y) : lt y x = true := by
  have := chainB_step h (List.getElem?_eq_some_iff.1 hx).1
  rwa [stepB_next hx (by omega) (by simpa using hy) (chainB_ok h hx)] at this
theorem chainB_lt (ht : ∀ {a b c : α}, lt a b = true → lt b c = true → lt a c = true) (h : chainB ok lt xs = true) : ∀ (d i : Nat) {x y : α}, xs[i]? = some y → xs[i + d + 1]? = some x → lt y x = true
  | 0, i, x, y, hy, hx => chainB_next h hx hy
  | d + 1, i, x, y, hy, hx => by
    have hl := (List.getElem?_eq_some_iff.1 hx).1
    have hz : xs[i + d + 1]? = some (xs[i + d + 1]'(by omega)) := List.getElem?_eq_getElem (by omega)
    exact ht (chainB_lt ht h d i hy hz) (chainB_next h (i := i + d + 1) (by rw [← hx]; congr 1) hz)
end

def okPort (p : PortT) : Bool := portB p.1 p.2.1
def ltPort (p q : PortT) : Bool := decide (p.1 < q.1)
def portsB (ps : List PortT) : Bool := chainB okPort ltPort ps
def partB (x : PartT) : Bool := wordB x.code && inB x.slot 0 7 && decide (x.ports.length ≤ 6) && inB x.price 0 10000000 && inB x.grams 0 100000 && portsB x.ports
def ltPart (x y : PartT) : Bool := ltT x.code y.code
def partsB (vs : List PartT) : Bool := decide (vs.length ≤ 16) && chainB partB ltPart vs

structure PartOk (x : PartT) : Prop where
  word : wordB x.code = true
  slot0 : 0 ≤ x.slot
  slot7 : x.slot ≤ 7
  ports : x.ports.length ≤ 6
  price0 : 0 ≤ x.price
  price1 : x.price ≤ 10000000
  grams0 : 0 ≤ x.grams
  grams1 : x.grams ≤ 100000
  chain : portsB x.ports = true
theorem partB_ok {x : PartT} (h : partB x = true) : PartOk x := by
  unfold partB at h
  simp only [Bool.and_eq_true, decide_eq_true_eq] at h
  obtain ⟨⟨⟨⟨⟨h1, h2⟩, h3⟩, h4⟩, h5⟩, h6⟩ := h
  have h2 := inB_true h2
  have h4 := inB_true h4
  have h5 := inB_true h5
  exact ⟨h1, h2.1, h2.2, h3, h4.1, h4.2, h5.1, h5.2, h6⟩
theorem partsB_len {vs : List PartT} (h : partsB vs = true) : vs.length ≤ 16 := by
  unfold partsB at h
  simp only [Bool.and_eq_true, decide_eq_true_eq] at h
  exact h.1
theorem partsB_chain {vs : List PartT} (h : partsB vs = true) : chainB partB ltPart vs = true := by
  unfold partsB at h
  simp only [Bool.and_eq_true, decide_eq_true_eq] at h
  exact h.2
theorem partsB_at {vs : List PartT} (h : partsB vs = true) {i : Nat} {x : PartT} (hx : vs[i]? = some x) : PartOk x := partB_ok (chainB_ok (partsB_chain h) hx)
theorem partsB_mem {vs : List PartT} (h : partsB vs = true) {x : PartT} (hx : x ∈ vs) : PartOk x := partB_ok (chainB_mem (partsB_chain h) hx)
theorem partsB_lt {vs : List PartT} (h : partsB vs = true) {i j : Nat} {x y : PartT} (hij : i < j) (hx : vs[i]? = some x) (hy : vs[j]? = some y) : ltT x.code y.code = true :=
  chainB_lt (lt := ltPart) (fun h k => ltT_trans h k) (partsB_chain h) (j - i - 1) i hx (by rw [← hy]; congr 1; omega)
theorem partsB_inj {vs : List PartT} (h : partsB vs = true) {i j : Nat} {x y : PartT} (hx : vs[i]? = some x) (hy : vs[j]? = some y) (e : x.code = y.code) : i = j := by
  rcases Nat.lt_trichotomy i j with hij | hij | hij
  · have := partsB_lt h hij hx hy
    rw [e, ltT_irrefl] at this
    cases this
  · exact hij
  · have := partsB_lt h hij hy hx
    rw [e, ltT_irrefl] at this
    cases this
theorem word_size {s : ByteArray} (h : wordB s = true) : 1 ≤ s.size ∧ s.size ≤ 16 := by
  unfold wordB at h
  simp only [Bool.and_eq_true, decide_eq_true_eq] at h
  exact h.1
theorem word_some {s : ByteArray} (h : wordB s = true) : s ≠ ⟨#[]⟩ := by
  rintro rfl
  exact absurd (word_size h).1 (by decide)

/-- The index of the part with a code, or -1. -/
def isCode (code : ByteArray) (x : PartT) : Bool := decide (x.code = code)
def findI (vs : List PartT) (code : ByteArray) : Int := if vs.findIdx (isCode code) < vs.length then (vs.findIdx (isCode code) : Int) else -1
theorem findI_yes {vs : List PartT} {code : ByteArray} {k : Nat} {x : PartT} (hx : vs[k]? = some x) (h : x.code = code) (hn : ∀ j y, j < k → vs[j]? = some y → y.code ≠ code) : findI vs code = k := by
  obtain ⟨hk, rfl⟩ := List.getElem?_eq_some_iff.1 hx
  have : vs.findIdx (isCode code) = k := by
    rw [List.findIdx_eq hk]
    refine ⟨by simp [isCode, h], fun j hj => ?_⟩
    have := hn j _ hj (List.getElem?_eq_getElem (by omega))
    simpa [isCode] using this
  unfold findI
  rw [this, if_pos hk]
theorem findI_no {vs : List PartT} {code : ByteArray} (hn : ∀ j y, j < vs.length → vs[j]? = some y → y.code ≠ code) : findI vs code = -1 := by
  have : vs.findIdx (isCode code) = vs.length := by
    rw [List.findIdx_eq_length]
    intro x hx
    obtain ⟨j, hj⟩ := List.mem_iff_getElem?.1 hx
    have := hn j x (List.getElem?_eq_some_iff.1 hj).1 hj
    simpa [isCode] using this
  unfold findI
  rw [this, if_neg (by omega)]
/-- Either no part has the code, or a first one does. -/
theorem findI_cases (vs : List PartT) (code : ByteArray) : (findI vs code = -1 ∧ ∀ x ∈ vs, x.code ≠ code) ∨ ∃ k x, findI vs code = (k : Nat) ∧ k < vs.length ∧ vs[k]? = some x ∧ x.code = code := by
  by_cases h : vs.findIdx (isCode code) < vs.length
  · refine Or.inr ⟨vs.findIdx (isCode code), vs[vs.findIdx (isCode code)], by rw [findI, if_pos h], h, List.getElem?_eq_getElem h, ?_⟩
    have := List.findIdx_getElem (p := isCode code) (w := h)
    simpa [isCode] using this
  · refine Or.inl ⟨by rw [findI, if_neg h], fun x hx e => ?_⟩
    have := List.findIdx_lt_length_of_exists (p := isCode code) ⟨x, hx, by simp [isCode, e]⟩
    omega
theorem findI_at {vs : List PartT} (h : partsB vs = true) {k : Nat} {x : PartT} (hx : vs[k]? = some x) : findI vs x.code = k :=
  findI_yes hx rfl fun _ _ _ hy e => by have := partsB_inj h hy hx e; omega
theorem findI_empty {vs : List PartT} (h : partsB vs = true) : findI vs ⟨#[]⟩ = -1 :=
  findI_no fun _ _ _ hy e => word_some (partsB_at h hy).word e

/-- A slice of parts reads as these values. -/
def RdV (w : World) (B : Nat) (A : Option Addr) (vs : List PartT) : Prop := ∃ ms : List PartM, ms.map PartM.val = vs ∧ RdP w B A ms
section
variable {w w' : World} {B B' : Nat} {A : Option Addr} {vs : List PartT}
theorem RdV.below (h : RdV w B A vs) (hb : Below B w w') : RdV w' B A vs := by
  obtain ⟨ms, e, h⟩ := h
  exact ⟨ms, e, h.below hb⟩
theorem RdV.more (h : RdV w B A vs) (hB : B ≤ B') : RdV w B' A vs := by
  obtain ⟨ms, e, h⟩ := h
  exact ⟨ms, e, h.more hB⟩
theorem RdV.next (h : RdV w w.heap.size A vs) (hb : Below w.heap.size w w') : RdV w' w'.heap.size A vs := (h.below hb).more hb.size
theorem RdV.addr (h : RdV w B A vs) (hp : 0 < vs.length) : ∃ b o, A = some ⟨b, o, none⟩ := by
  obtain ⟨ms, rfl, h⟩ := h
  obtain ⟨b, o, e, _⟩ := h.1 (by simpa using hp)
  exact ⟨b, o, e⟩
/-- The k-th part, and its ports. -/
theorem RdV.cells {b o k : Nat} {x : PartT} (h : RdV w B (some ⟨b, o, none⟩) vs) (hx : vs[k]? = some x) :
    b < B ∧ ∃ pA pc, w.cell? ⟨b, o + k * 5, none⟩ = some (.string x.code) ∧ w.cell? ⟨b, o + k * 5 + 1, none⟩ = some (.int .i64 x.slot) ∧ w.cell? ⟨b, o + k * 5 + 2, none⟩ = some (.slice pA x.ports.length pc) ∧ w.cell? ⟨b, o + k * 5 + 3, none⟩ = some (.int .i64 x.price) ∧ w.cell? ⟨b, o + k * 5 + 4, none⟩ = some (.int .i64 x.grams) ∧ Rd w B 3 portC pA x.ports ∧ x.ports.length ≤ pc := by
  obtain ⟨ms, rfl, h⟩ := h
  rw [List.getElem?_map] at hx
  cases hm : ms[k]? with
  | none => rw [hm] at hx; cases hx
  | some m =>
    rw [hm] at hx
    obtain rfl : m.val = x := by simpa using hx
    obtain ⟨b', o', e, hB, h0, h1, h2, h3, h4⟩ := h.1.at5 hm rfl
    simp only [Option.some.injEq, Addr.mk.injEq] at e
    obtain ⟨rfl, rfl, _⟩ := e
    have hp := h.2 m (List.mem_of_getElem? hm)
    exact ⟨hB, m.pA, m.pc, h0, h1, h2, h3, h4, hp.1, hp.2⟩
end
/-- A part handed over by value. -/
def argV (x : PartT) (pA : Option Addr) (pc : Nat) : Value := .agg #[.string x.code, .int .i64 x.slot, .slice pA x.ports.length pc, .int .i64 x.price, .int .i64 x.grams]
end Go.Proofs.Ytioblfbhjkkgoaa
