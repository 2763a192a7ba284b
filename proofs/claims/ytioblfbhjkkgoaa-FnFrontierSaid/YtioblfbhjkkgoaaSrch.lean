/- DERIVED. The search for bicycles as plain values: slots, steps, events, results. -/
import Derived.Test.YtioblfbhjkkgoaaPut
import Derived.Test.YtioblfbhjkkgoaaJState
import Derived.Test.YtioblfbhjkkgoaaTrace
namespace Go.Proofs.Ytioblfbhjkkgoaa
set_option maxRecDepth 100000
open Go.RowKit

def touchJ (s : Int) (j : JointT) : Bool := decide (j.1 = s) || decide (j.2.1 = s)
def touched (js : List JointT) (s : Int) : Bool := js.any (touchJ s)
/-- The slots below k that a joint touches. -/
def slotsTo (js : List JointT) : Nat → List Int
  | 0 => []
  | k + 1 => if touched js (k : Int) = true then slotsTo js k ++ [(k : Int)] else slotsTo js k
def slotsOf (js : List JointT) : List Int := slotsTo js 8
theorem slotsTo_mem {js : List JointT} : ∀ {k : Nat} {s : Int}, s ∈ slotsTo js k → 0 ≤ s ∧ s < k
  | 0, s, h => by simp [slotsTo] at h
  | k + 1, s, h => by
    unfold slotsTo at h
    split at h
    · rcases List.mem_append.1 h with h | h
      · have := slotsTo_mem h; omega
      · simp only [List.mem_singleton] at h; omega
    · have := slotsTo_mem h; omega
theorem slotsTo_nodup (js : List JointT) : ∀ k, (slotsTo js k).Nodup
  | 0 => by simp [slotsTo]
  | k + 1 => by
    unfold slotsTo
    split
    · rw [List.nodup_append]
      refine ⟨slotsTo_nodup js k, by simp, fun a ha b hb => ?_⟩
      have := slotsTo_mem ha
      simp only [List.mem_singleton] at hb
      omega
    · exact slotsTo_nodup js k
theorem slotsTo_len (js : List JointT) : ∀ k, (slotsTo js k).length ≤ k
  | 0 => by simp [slotsTo]
  | k + 1 => by
    have := slotsTo_len js k
    unfold slotsTo
    split
    · rw [List.length_append]; simp; omega
    · omega
theorem slotsTo_yes {js : List JointT} {k : Nat} (h : touched js (k : Int) = true) : slotsTo js (k + 1) = slotsTo js k ++ [(k : Int)] := by simp [slotsTo, h]
theorem slotsTo_no {js : List JointT} {k : Nat} (h : touched js (k : Int) = false) : slotsTo js (k + 1) = slotsTo js k := by simp [slotsTo, h]

def anyBroken (vs : List PartT) (js : List JointT) (bs : List ByteArray) : Bool := js.any (brokenB vs bs)
def wayOf (vs : List PartT) (js : List JointT) (s : Int) (bs : List ByteArray) (x : PartT) : Option (List ByteArray) := if anyBroken vs js (setT bs s x.code) = true then none else some (setT bs s x.code)
def inSlotT (s : Int) (x : PartT) : Bool := decide (x.slot = s)
/-- The ways on from a build: the parts of a slot, each put. -/
def stepS (vs : List PartT) (js : List JointT) (s : Int) (bs : List ByteArray) : List (Option (List ByteArray)) := (vs.filter fun x => decide (x.slot = s)).map (wayOf vs js s bs)
/-- The same, of the first k parts. -/
def stepTo (vs : List PartT) (js : List JointT) (s : Int) (bs : List ByteArray) (k : Nat) : List (Option (List ByteArray)) := ((vs.take k).filter fun x => decide (x.slot = s)).map (wayOf vs js s bs)
theorem stepTo_zero (vs : List PartT) (js : List JointT) (s : Int) (bs : List ByteArray) : stepTo vs js s bs 0 = [] := by simp [stepTo]
theorem stepTo_all {vs : List PartT} {js : List JointT} {s : Int} {bs : List ByteArray} {k : Nat} (h : vs.length ≤ k) : stepTo vs js s bs k = stepS vs js s bs := by rw [stepTo, stepS, List.take_of_length_le h]
theorem stepTo_no {vs : List PartT} {js : List JointT} {s : Int} {bs : List ByteArray} {k : Nat} {x : PartT} (hx : vs[k]? = some x) (h : x.slot ≠ s) : stepTo vs js s bs (k + 1) = stepTo vs js s bs k := by
  simp [stepTo, List.take_add_one, hx, h]
theorem stepTo_yes {vs : List PartT} {js : List JointT} {s : Int} {bs : List ByteArray} {k : Nat} {x : PartT} (hx : vs[k]? = some x) (h : x.slot = s) : stepTo vs js s bs (k + 1) = stepTo vs js s bs k ++ [wayOf vs js s bs x] := by
  simp [stepTo, List.take_add_one, hx, h]
/-- What is left behind the first k. -/
theorem stepS_split {vs : List PartT} {js : List JointT} {s : Int} {bs : List ByteArray} {k : Nat} {x : PartT} (hx : vs[k]? = some x) (h : x.slot = s) : ∃ os, stepS vs js s bs = stepTo vs js s bs k ++ wayOf vs js s bs x :: os := by
  obtain ⟨hk, rfl⟩ := List.getElem?_eq_some_iff.1 hx
  refine ⟨((vs.drop (k + 1)).filter fun x => decide (x.slot = s)).map (wayOf vs js s bs), ?_⟩
  have e : vs = vs.take k ++ vs[k] :: vs.drop (k + 1) := by rw [← List.drop_eq_getElem_cons hk, List.take_append_drop]
  unfold stepS stepTo
  generalize wayOf vs js s bs = g
  have e2 : (vs.filter fun x => decide (x.slot = s)) = ((vs.take k ++ vs[k] :: vs.drop (k + 1)).filter fun x => decide (x.slot = s)) := congrArg _ e
  rw [e2, List.filter_append, List.map_append, List.filter_cons_of_pos (by simpa using h), List.map_cons]
theorem stepS_len (vs : List PartT) (js : List JointT) (s : Int) (bs : List ByteArray) : (stepS vs js s bs).length ≤ (vs.filter fun x => decide (x.slot = s)).length := by simp [stepS]
theorem stepTo_len (vs : List PartT) (js : List JointT) (s : Int) (bs : List ByteArray) (k : Nat) : (stepTo vs js s bs k).length ≤ vs.length := by
  unfold stepTo
  rw [List.length_map]
  exact Nat.le_trans (List.length_filter_le _ _) (by rw [List.length_take]; omega)

abbrev EvS := Option (List ByteArray)
def traceS (vs : List PartT) (js : List JointT) (ss : List Int) (bs : List ByteArray) : List EvS := trace (stepS vs js) ss bs
def bare : List ByteArray := List.replicate 8 noText
/-- All events of the search of these parts and joints. -/
def tr (vs : List PartT) (js : List JointT) : List EvS := traceS vs js (slotsOf js) bare
theorem traceS_nil (vs : List PartT) (js : List JointT) (bs : List ByteArray) : traceS vs js [] bs = [some bs] := trace_nil _ _
theorem traceS_cons (vs : List PartT) (js : List JointT) (s : Int) (ss : List Int) (bs : List ByteArray) : traceS vs js (s :: ss) bs = ways (stepS vs js) ss (stepS vs js s bs) := trace_cons _ _ _ _
theorem traceS_len {vs : List PartT} (js : List JointT) (hv : vs.length ≤ 16) (ss : List Int) (hn : ss.Nodup) (bs : List ByteArray) : (traceS vs js ss bs).length ≤ 131071 := by
  have h1 := trace_len (step := stepS vs js) (m := fun s => (vs.filter fun x => decide (x.slot = s)).length) (fun s b => stepS_len vs js s b) ss bs
  have h2 := sum_counts (fun x : PartT => x.slot) vs ss hn
  have h3 : 2 ^ (ss.map fun s => (vs.filter fun x => decide (x.slot = s)).length).sum ≤ 2 ^ 16 := Nat.pow_le_pow_right (by omega) (by omega)
  unfold traceS
  omega
theorem tr_len {vs : List PartT} (js : List JointT) (hv : vs.length ≤ 16) : (tr vs js).length ≤ 131071 := traceS_len js hv _ (slotsTo_nodup js 8) _

/-- Every build on the way has eight texts, each empty or a code that is there. -/
theorem Codes.put {vs : List PartT} {bs : List ByteArray} {x : PartT} {s : Int} (h : Codes vs bs) (hx : x ∈ vs) : Codes vs (setT bs s x.code) := by
  refine ⟨h.parts, by unfold setT; rw [List.length_set]; exact h.len, fun c hc => ?_⟩
  unfold setT at hc
  rcases List.mem_or_eq_of_mem_set hc with hc | rfl
  · exact h.code c hc
  · obtain ⟨k, hk⟩ := List.mem_iff_getElem?.1 hx
    have := findI_at h.parts hk
    exact Or.inr (by omega)
theorem Codes.bare {vs : List PartT} (h : partsB vs = true) : Codes vs bare := ⟨h, rfl, fun c hc => Or.inl (by simpa [Go.Proofs.Ytioblfbhjkkgoaa.bare] using List.eq_of_mem_replicate hc)⟩
theorem wayOf_some {vs : List PartT} {js : List JointT} {s : Int} {bs b : List ByteArray} {x : PartT} (h : wayOf vs js s bs x = some b) : b = setT bs s x.code ∧ anyBroken vs js b = false := by
  unfold wayOf at h
  split at h
  · cases h
  · rename_i hb
    simp only [Option.some.injEq] at h
    subst h
    exact ⟨rfl, by simpa using hb⟩
/-- What holds of the first build and is kept by every step holds of all that is found. -/
theorem founds_all {vs : List PartT} {js : List JointT} {G : List Int → List ByteArray → Prop} (hstep : ∀ s ss b x, G (s :: ss) b → x ∈ vs → x.slot = s → G ss (setT b s x.code)) : ∀ (ss : List Int) (b : List ByteArray), G ss b → ∀ r ∈ founds (traceS vs js ss b), G [] r
  | [], b, h, r, hr => by
    rw [traceS_nil] at hr
    simp only [founds, List.filterMap_cons, id, List.filterMap_nil, List.mem_singleton] at hr
    rw [hr]
    exact h
  | s :: ss, b, h, r, hr => by
    rw [traceS_cons] at hr
    simp only [founds, List.mem_filterMap, id, ways, List.mem_flatMap] at hr
    obtain ⟨_, ⟨o, ho, hr⟩, rfl⟩ := hr
    simp only [List.mem_cons, reduceCtorEq, false_or] at hr
    cases o with
    | none => simp at hr
    | some b' =>
      simp only at hr
      simp only [stepS, List.mem_map, List.mem_filter, decide_eq_true_eq] at ho
      obtain ⟨x, ⟨hx, hs⟩, he⟩ := ho
      obtain ⟨rfl, _⟩ := wayOf_some he
      exact founds_all hstep ss _ (hstep s ss b x h hx hs) r (by
        simp only [founds, List.mem_filterMap, id, exists_eq_right]
        exact hr)
theorem founds_codes {vs : List PartT} {js : List JointT} (hp : partsB vs = true) {r : List ByteArray} (hr : r ∈ founds (tr vs js)) : Codes vs r :=
  founds_all (G := fun _ b => Codes vs b) (fun _ _ _ _ h hx _ => h.put hx) _ _ (Codes.bare hp) r hr
theorem setT_len (bs : List ByteArray) (n : Int) (c : ByteArray) : (setT bs n c).length = bs.length := by unfold setT; rw [List.length_set]

/-- Results. -/
def bothB (vs : List PartT) (js : List JointT) : Bool := partsB vs && jointsB js
def allB (vs : List PartT) (js : List JointT) : List (List ByteArray) := founds (tr vs js)
theorem allB_len {vs : List PartT} (js : List JointT) (hp : partsB vs = true) : (allB vs js).length ≤ 131071 := Nat.le_trans (founds_le _) (tr_len js (partsB_len hp))
def countR (vs : List PartT) (js : List JointT) : Int × Int := if bothB vs js = true then (((allB vs js).length : Int), 0) else (0, 1)
def nodesR (vs : List PartT) (js : List JointT) : Int × Int := if bothB vs js = true then (nodesOf (tr vs js), 0) else (0, 1)
def firstR (vs : List PartT) (js : List JointT) (m : Int) : List ByteArray × Int × Int :=
  if bothB vs js = true then (if inB m 0 5000 = true then
    (match (allB vs js)[0]?, (atsOf 0 (tr vs js))[0]? with
      | some b, some k => if k ≤ m then (b, k, 0) else ([], 0, 3)
      | _, _ => if m < nodesOf (tr vs js) then ([], 0, 3) else ([], 0, 4)) else ([], 0, 2)) else ([], 0, 1)
/-- The first of the least. -/
def bestStep {β : Type} (key : β → Int) (a : β × Int) (b : β) : β × Int := if a.2 < 0 ∨ key b < a.2 then (b, key b) else a
def bestOf {β : Type} (key : β → Int) (z : β) (l : List β) : β × Int := l.foldl (bestStep key) (z, -1)
def priceB (vs : List PartT) (bs : List ByteArray) : Int := sumTo vs PartT.price bs bs.length
def gramsB (vs : List PartT) (bs : List ByteArray) : Int := sumTo vs PartT.grams bs bs.length
def finR (r : List ByteArray × Int) : List ByteArray × Int × Int := if r.2 < 0 then ([], 0, 4) else (r.1, r.2, 0)
def cheapR (vs : List PartT) (js : List JointT) : List ByteArray × Int × Int := if bothB vs js = true then finR (bestOf (priceB vs) [] (allB vs js)) else ([], 0, 1)
def lightR (vs : List PartT) (js : List JointT) (m : Int) : List ByteArray × Int × Int :=
  if bothB vs js = true then (if inB m 0 100000000 = true then finR (bestOf (gramsB vs) [] ((allB vs js).filter fun b => decide (priceB vs b ≤ m))) else ([], 0, 2)) else ([], 0, 1)
def hasCode (vs : List PartT) (code : ByteArray) (b : List ByteArray) : Bool := decide (textAt b (slotAt vs (findI vs code)) = code)
def withR (vs : List PartT) (js : List JointT) (code : ByteArray) : List ByteArray × Int × Int :=
  if bothB vs js = true then (if findI vs code < 0 then ([], 0, 4) else finR (bestOf (priceB vs) [] ((allB vs js).filter (hasCode vs code)))) else ([], 0, 1)
/-- In how many bicycles a part is. -/
def usesB (x : PartT) (b : List ByteArray) : Bool := decide (textAt b x.slot = x.code)
def timesOf (l : List (List ByteArray)) (x : PartT) : Int := ((l.filter (usesB x)).length : Int)
def usableR (vs : List PartT) (js : List JointT) : List Int × Int := if bothB vs js = true then (idxTo (fun x => decide (0 < timesOf (allB vs js) x)) vs vs.length, 0) else ([], 1)
def neededR (vs : List PartT) (js : List JointT) : List Int × Int := if bothB vs js = true then (if (allB vs js).length = 0 then ([], 4) else (idxTo (fun x => decide (timesOf (allB vs js) x = ((allB vs js).length : Int))) vs vs.length, 0)) else ([], 1)
end Go.Proofs.Ytioblfbhjkkgoaa
