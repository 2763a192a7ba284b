/- DERIVED. The search of the reference. -/
import Derived.Test.YtioblfbhjkkgoaaSrch
import Derived.Test.YtioblfbhjkkgoaaSlot
import Derived.Test.YtioblfbhjkkgoaaJList
import Derived.Test.YtioblfbhjkkgoaaRowsT
import Derived.Test.YtioblfbhjkkgoaaSl
import Derived.StillTailTactics
namespace Go.Proofs.Ytioblfbhjkkgoaa
set_option maxRecDepth 100000
open Go.RowKit

/-- Indices and elements of a selection go side by side. -/
theorem idx_filter {α : Type} (p : α → Bool) (xs : List α) : ∀ k, (idxTo p xs k).length = ((xs.take k).filter p).length ∧ ∀ (i : Nat) (n : Int), (idxTo p xs k)[i]? = some n → ∃ (j : Nat) (x : α), n = (j : Int) ∧ xs[j]? = some x ∧ ((xs.take k).filter p)[i]? = some x
  | 0 => by simp [idxTo]
  | k + 1 => by
    obtain ⟨h1, h2⟩ := idx_filter p xs k
    cases hx : xs[k]? with
    | none =>
      have e : idxTo p xs (k + 1) = idxTo p xs k := by simp [idxTo, hx]
      have e2 : xs.take (k + 1) = xs.take k := by rw [List.take_add_one, hx]; simp
      rw [e, e2]
      exact ⟨h1, h2⟩
    | some x =>
      have e2 : xs.take (k + 1) = xs.take k ++ [x] := by rw [List.take_add_one, hx]; rfl
      by_cases hp : p x = true
      · rw [idxTo_yes hx hp, e2, List.filter_append]
        have e3 : [x].filter p = [x] := by simp [hp]
        rw [e3]
        refine ⟨by simp [h1], fun i n hi => ?_⟩
        by_cases hlt : i < (idxTo p xs k).length
        · rw [List.getElem?_append_left hlt] at hi
          obtain ⟨j, y, a1, a2, a3⟩ := h2 i n hi
          exact ⟨j, y, a1, a2, by rw [List.getElem?_append_left (by omega)]; exact a3⟩
        · rw [List.getElem?_append_right (by omega)] at hi
          have hi0 : i - (idxTo p xs k).length = 0 := by
            have := (List.getElem?_eq_some_iff.1 hi).1
            simp at this
            omega
          rw [hi0] at hi
          simp only [List.getElem?_cons_zero, Option.some.injEq] at hi
          refine ⟨k, x, hi.symm, hx, ?_⟩
          rw [List.getElem?_append_right (by omega), ← h1, hi0]
          rfl
      · have hp' : p x = false := by simpa using hp
        rw [idxTo_no hx hp', e2, List.filter_append]
        have e3 : [x].filter p = [] := by simp [hp']
        rw [e3, List.append_nil]
        exact ⟨h1, h2⟩
theorem any_idx (vs : List PartT) (js : List JointT) (bs : List ByteArray) : anyBroken vs js bs = decide (0 < (idxTo (isState vs bs 1) js js.length).length) := by
  rw [(idx_filter (isState vs bs 1) js js.length).1, List.take_of_length_le (Nat.le_refl _)]
  unfold anyBroken
  rw [Bool.eq_iff_iff, List.any_eq_true, decide_eq_true_eq, List.length_pos_iff_exists_mem]
  constructor
  · rintro ⟨j, hj, h⟩
    exact ⟨j, List.mem_filter.2 ⟨hj, h⟩⟩
  · rintro ⟨j, hj⟩
    exact ⟨j, (List.mem_filter.1 hj).1, (List.mem_filter.1 hj).2⟩
/-- The events of the first i ways. -/
def waysTo (vs : List PartT) (js : List JointT) (ss : List Int) (s : Int) (bs : List ByteArray) (i : Nat) : List EvS := ways (stepS vs js) ss ((stepS vs js s bs).take i)
theorem waysTo_zero (vs : List PartT) (js : List JointT) (ss : List Int) (s : Int) (bs : List ByteArray) : waysTo vs js ss s bs 0 = [] := by simp [waysTo, ways_nil]
theorem waysTo_all {vs : List PartT} {js : List JointT} {ss : List Int} {s : Int} {bs : List ByteArray} {i : Nat} (h : (stepS vs js s bs).length ≤ i) : waysTo vs js ss s bs i = traceS vs js (s :: ss) bs := by
  rw [waysTo, List.take_of_length_le h, traceS_cons]
theorem stepS_at {vs : List PartT} {js : List JointT} {s : Int} {bs : List ByteArray} {i : Nat} {x : PartT} (h : (vs.filter (inSlot s))[i]? = some x) : (stepS vs js s bs)[i]? = some (wayOf vs js s bs x) := by
  unfold stepS
  rw [List.getElem?_map]
  have : (vs.filter fun x => decide (x.slot = s)) = vs.filter (inSlot s) := rfl
  rw [this, h]
  rfl
theorem waysTo_bad {vs : List PartT} {js : List JointT} {ss : List Int} {s : Int} {bs : List ByteArray} {i : Nat} {x : PartT} (h : (vs.filter (inSlot s))[i]? = some x) (hb : anyBroken vs js (setT bs s x.code) = true) : waysTo vs js ss s bs (i + 1) = waysTo vs js ss s bs i ++ [none] := by
  have e := stepS_at (js := js) (bs := bs) h
  unfold waysTo
  rw [List.take_add_one, e, ways_append]
  unfold wayOf
  rw [if_pos hb]
  simp only [Option.toList_some, ways_none]
theorem waysTo_good {vs : List PartT} {js : List JointT} {ss : List Int} {s : Int} {bs : List ByteArray} {i : Nat} {x : PartT} (h : (vs.filter (inSlot s))[i]? = some x) (hb : anyBroken vs js (setT bs s x.code) = false) : waysTo vs js ss s bs (i + 1) = waysTo vs js ss s bs i ++ none :: traceS vs js ss (setT bs s x.code) := by
  have e := stepS_at (js := js) (bs := bs) h
  unfold waysTo
  rw [List.take_add_one, e, ways_append]
  unfold wayOf
  rw [if_neg (by simp [hb])]
  simp only [Option.toList_some, ways_some]
  rfl
theorem waysTo_len {vs : List PartT} (js : List JointT) (hv : vs.length ≤ 16) {ss : List Int} {s : Int} (hn : (s :: ss).Nodup) (bs : List ByteArray) (i : Nat) : (waysTo vs js ss s bs i).length ≤ 131071 := by
  have h := traceS_len js hv (s :: ss) hn bs
  rw [traceS_cons] at h
  have : waysTo vs js ss s bs i <+: ways (stepS vs js) ss (stepS vs js s bs) := by
    refine ⟨ways (stepS vs js) ss ((stepS vs js s bs).drop i), ?_⟩
    unfold waysTo
    rw [← ways_append, List.take_append_drop]
  have := this.length_le
  omega

/-- What the search gives: the builds found, how many nodes lie ahead of each, how many nodes there are. -/
def GivesSearch (w : World) (T : List EvS) (e : Ending) (w' : World) : Prop := ∃ (A : Option Addr) (c : Nat) (ms : List RowM) (A2 : Option Addr) (c2 : Nat), e = .returned (.tuple #[.slice A ms.length c, .slice A2 ms.length c2, .int .i64 (nodesOf T)]) ∧ ms.map RowM.bs = founds T ∧ Flat w' w.heap.size w'.heap.size 44 1 rowC A ms ∧ RowsF w' 0 w'.heap.size ms ∧ Flat w' w.heap.size w'.heap.size 2 1 nC A2 (atsOf 0 T) ∧ Below w.heap.size w w'
theorem rows_len {ms : List RowM} {T : List EvS} (h : ms.map RowM.bs = founds T) : (atsOf 0 T).length = ms.length := by
  rw [atsOf_length, ← h, List.length_map]

/-- Two slices that grow side by side, rows and numbers; slices that are kept beside them. -/
structure TwoSt (w wr : World) (oA : Option Addr) (oc : Nat) (ms : List RowM) (aA : Option Addr) (ac : Nat) (ats : List Int) (K : List (Option Addr × List Int)) (R : List (Option Addr × List RowM)) (rs : List RowM) : Prop where
  own1 : Own wr w.heap.size 44 1 rowC oA oc ms
  own2 : Own wr w.heap.size 2 1 nC aA ac ats
  low : Below w.heap.size w wr
  rowsf : RowsF wr 0 wr.heap.size rs
  ints : ∀ p ∈ K, Flat wr w.heap.size wr.heap.size 2 1 nC p.1 p.2 ∧ (0 < p.2.length → ∀ g, p.1 = some ⟨g, 0, none⟩ → Apart aA g)
  rows : ∀ p ∈ R, Flat wr w.heap.size wr.heap.size 44 1 rowC p.1 p.2 ∧ (0 < p.2.length → ∀ g, p.1 = some ⟨g, 0, none⟩ → Apart oA g)
section
variable {w wr w' : World} {oA aA : Option Addr} {oc ac : Nat} {ms rs : List RowM} {ats : List Int} {K : List (Option Addr × List Int)} {R : List (Option Addr × List RowM)}
theorem TwoSt.next (h : TwoSt w wr oA oc ms aA ac ats K R rs) (hb : Below wr.heap.size wr w') : TwoSt w w' oA oc ms aA ac ats K R rs :=
  ⟨h.own1.keep hb, h.own2.keep hb, bthen h.low hb, h.rowsf.next hb, fun p hp => ⟨((h.ints p hp).1.below hb (Nat.le_refl _)).mono (Nat.le_refl _) hb.size, (h.ints p hp).2⟩, fun p hp => ⟨((h.rows p hp).1.below hb (Nat.le_refl _)).mono (Nat.le_refl _) hb.size, (h.rows p hp).2⟩⟩
theorem TwoSt.addK {L : List Int} {A : Option Addr} (h : TwoSt w wr oA oc ms aA ac ats K R rs) (hb : Below wr.heap.size wr w') (hf : Flat w' wr.heap.size w'.heap.size 2 1 nC A L) : TwoSt w w' oA oc ms aA ac ats ((A, L) :: K) R rs := by
  have h' := h.next hb
  refine ⟨h'.own1, h'.own2, h'.low, h'.rowsf, fun p hp => ?_, h'.rows⟩
  rcases List.mem_cons.1 hp with rfl | hp
  · refine ⟨hf.mono h.low.size (Nat.le_refl _), fun hl g e => ?_⟩
    simp only at e hl
    rw [e] at hf
    exact h.own2.apartNew (hf.blk hl).1
  · exact h'.ints p hp
theorem TwoSt.addR {L : List RowM} {A : Option Addr} (h : TwoSt w wr oA oc ms aA ac ats K R rs) (hb : Below wr.heap.size wr w') (hf : Flat w' wr.heap.size w'.heap.size 44 1 rowC A L) (hn : RowsF w' 0 w'.heap.size L) : TwoSt w w' oA oc ms aA ac ats K ((A, L) :: R) (rs ++ L) := by
  have h' := h.next hb
  refine ⟨h'.own1, h'.own2, h'.low, h'.rowsf.append hn, h'.ints, fun p hp => ?_⟩
  rcases List.mem_cons.1 hp with rfl | hp
  · refine ⟨hf.mono h.low.size (Nat.le_refl _), fun hl g e => ?_⟩
    simp only at e hl
    rw [e] at hf
    exact h.own1.apartNew (hf.blk hl).1
  · exact h'.rows p hp
theorem TwoSt.addKR {L : List Int} {N : List RowM} {A B : Option Addr} (h : TwoSt w wr oA oc ms aA ac ats K R rs) (hb : Below wr.heap.size wr w') (hf : Flat w' wr.heap.size w'.heap.size 2 1 nC A L) (hg : Flat w' wr.heap.size w'.heap.size 44 1 rowC B N) (hn : RowsF w' 0 w'.heap.size N) : TwoSt w w' oA oc ms aA ac ats ((A, L) :: K) ((B, N) :: R) (rs ++ N) := by
  have h1 := h.addK hb hf
  have h2 := h.addR hb hg hn
  exact ⟨h1.own1, h1.own2, h1.low, h2.rowsf, h1.ints, h2.rows⟩
theorem TwoSt.dropK {p : Option Addr × List Int} (h : TwoSt w wr oA oc ms aA ac ats (p :: K) R rs) : TwoSt w wr oA oc ms aA ac ats K R rs := ⟨h.own1, h.own2, h.low, h.rowsf, fun q hq => h.ints q (List.mem_cons.2 (Or.inr hq)), h.rows⟩
theorem TwoSt.dropR {p : Option Addr × List RowM} (h : TwoSt w wr oA oc ms aA ac ats K (p :: R) rs) : TwoSt w wr oA oc ms aA ac ats K R rs := ⟨h.own1, h.own2, h.low, h.rowsf, h.ints, fun q hq => h.rows q (List.mem_cons.2 (Or.inr hq))⟩
theorem TwoSt.pushRow {w4 : World} {A4 : Option Addr} {c4 : Nat} {m : RowM} (h : TwoSt w wr oA oc ms aA ac ats K R rs) (hown : Own w4 w.heap.size 44 1 rowC A4 c4 (ms ++ [m])) (hb : Below w.heap.size wr w4) (hfar : ∀ g, g < wr.heap.size → Apart oA g → Apart A4 g ∧ w4.heap[g]? = wr.heap[g]?) : TwoSt w w4 A4 c4 (ms ++ [m]) aA ac ats K R rs := by
  have h1 : (44 : TypeId) ≠ 2 := by decide
  have h2 : (44 : TypeId) ≠ 9 := by decide
  have hs := hb.size
  refine ⟨hown, h.own2.farType h.own1 h1 hfar, h.low.trans hb, (h.rowsf.far h.own1 h2 (Nat.le_refl _) hfar).mono (Nat.le_refl _) hs, fun p hp => ⟨((h.ints p hp).1.farType h.own1 h1 (Nat.le_refl _) hfar).mono (Nat.le_refl _) hs, (h.ints p hp).2⟩, fun p hp => ?_⟩
  obtain ⟨hf, ha⟩ := h.rows p hp
  refine ⟨(hf.keepAt fun g e hl => ?_).mono (Nat.le_refl _) hs, fun hl g e => ?_⟩
  · rw [e] at hf
    exact (hfar g (hf.blk hl).2 (ha hl g e)).2
  · have := ha hl g e
    rw [e] at hf
    exact (hfar g (hf.blk hl).2 this).1
theorem TwoSt.pushInt {w4 : World} {A4 : Option Addr} {c4 : Nat} {n : Int} (h : TwoSt w wr oA oc ms aA ac ats K R rs) (hown : Own w4 w.heap.size 2 1 nC A4 c4 (ats ++ [n])) (hb : Below w.heap.size wr w4) (hfar : ∀ g, g < wr.heap.size → Apart aA g → Apart A4 g ∧ w4.heap[g]? = wr.heap[g]?) : TwoSt w w4 oA oc ms A4 c4 (ats ++ [n]) K R rs := by
  have h1 : (2 : TypeId) ≠ 44 := by decide
  have h2 : (2 : TypeId) ≠ 9 := by decide
  have hs := hb.size
  refine ⟨h.own1.farType h.own2 h1 hfar, hown, h.low.trans hb, (h.rowsf.far h.own2 h2 (Nat.le_refl _) hfar).mono (Nat.le_refl _) hs, fun p hp => ?_, fun p hp => ⟨((h.rows p hp).1.farType h.own2 h1 (Nat.le_refl _) hfar).mono (Nat.le_refl _) hs, (h.rows p hp).2⟩⟩
  obtain ⟨hf, ha⟩ := h.ints p hp
  refine ⟨(hf.keepAt fun g e hl => ?_).mono (Nat.le_refl _) hs, fun hl g e => ?_⟩
  · rw [e] at hf
    exact (hfar g (hf.blk hl).2 (ha hl g e)).2
  · have := ha hl g e
    rw [e] at hf
    exact (hfar g (hf.blk hl).2 this).1
end
theorem Rd.tail1 {w : World} {B b o : Nat} {x : Int} {xs : List Int} (h : Rd w B 1 nC (some ⟨b, o, none⟩) (x :: xs)) : Rd w B 1 nC (some ⟨b, o + 1, none⟩) xs := fun hp => by
  obtain ⟨b', o', e, hB, hc⟩ := h (by simp)
  simp only [Option.some.injEq, Addr.mk.injEq] at e
  obtain ⟨rfl, rfl, _⟩ := e
  refine ⟨b, o + 1, rfl, hB, fun k y hk j v hj => ?_⟩
  have := hc (k + 1) y (by simpa using hk) j v hj
  rw [← this]
  congr 2
  omega

/-- What is claimed of the search from some slots on. -/
def SearchOk (A A2 : Option Addr) (c c2 : Nat) (vs : List PartT) (js : List JointT) (ss : List Int) : Prop := ∀ (bs : List ByteArray) (_ : Codes vs bs) (A' sA : Option Addr) (c' sc : Nat) (_ : bs.length ≤ c') (_ : ss.length ≤ sc) (w : World) (_ : RdV w w.heap.size A vs) (_ : Rd w w.heap.size 3 jointC A2 js) (_ : Flat w 0 w.heap.size 9 1 tC A' bs) (_ : Rd w w.heap.size 1 nC sA ss),
    Calls Try.prog 48 #[.slice A vs.length c, .slice A2 js.length c2, .slice A' bs.length c', .slice sA ss.length sc] w (GivesSearch w (traceS vs js ss bs))

set_option maxHeartbeats 2000000 in
theorem search_nil (A A2 : Option Addr) (c c2 : Nat) (vs : List PartT) (js : List JointT) : SearchOk A A2 c c2 vs js [] := by
  intro bs hC A' sA c' sc hbc hsc w hr hr2 hf hsl
  have HF := Lib.hid hf; clear hf
  rw [traceS_nil]
  go_enter Try.func48, Try.ntmps48
  go_wp2_with fail
  go_ret3
  have e1 : (w.alloc (.cells #[.slice A' bs.length c'] 44)).heap.size = w.heap.size + 1 := by simp
  have e2 : ((w.alloc (.cells #[.slice A' bs.length c'] 44)).alloc (.cells #[.int .i64 0] 2)).heap.size = w.heap.size + 2 := by simp
  have hb1 := balloc w (.cells #[.slice A' bs.length c'] 44)
  have hb2 := balloc (w.alloc (.cells #[.slice A' bs.length c'] 44)) (.cells #[.int .i64 0] 2)
  refine ⟨some ⟨w.heap.size, 0, none⟩, 1, [⟨A', c', bs⟩], some ⟨w.heap.size + 1, 0, none⟩, 1, rfl, rfl, fun _ => ?_, RowsF.one ((HF.out.below (bthen hb1 hb2) (Nat.le_refl _)).mono (Nat.le_refl _) (by omega)) hbc, fun _ => ?_, bthen hb1 hb2⟩
  · refine ⟨w.heap.size, 1, rfl, Nat.le_refl _, by omega, (Row.new w _ _).alloc _, by simp, fun k x hk j v hj => ?_⟩
    match k with
    | 0 =>
      obtain rfl : (⟨A', c', bs⟩ : RowM) = x := by simpa using hk
      match j with
      | 0 =>
        obtain rfl : Value.slice A' bs.length c' = v := by simpa [rowC] using hj
        go_simp
      | j + 1 => simp [rowC] at hj
    | k + 1 => simp at hk
  · refine ⟨w.heap.size + 1, 1, rfl, by omega, by omega, ?_, by simp [atsOf], fun k x hk j v hj => ?_⟩
    · rw [← e1]
      exact Row.new _ _ _
    match k with
    | 0 =>
      obtain rfl : (0 : Int) = x := by simpa [atsOf] using hk
      match j with
      | 0 =>
        obtain rfl : Value.int .i64 0 = v := by simpa [nC] using hj
        go_simp
      | j + 1 => simp [nC] at hj
    | k + 1 => simp [atsOf] at hk

set_option maxHeartbeats 2000000 in
theorem search_cons (A A2 : Option Addr) (c c2 : Nat) (vs : List PartT) (js : List JointT) (hs : SmallV vs) (hp : partsB vs = true) (hj : jointsB js = true) (s : Int) (ss : List Int) (hnd : (s :: ss).Nodup) (hss : 0 ≤ s ∧ s < 8) (hIH : SearchOk A A2 c c2 vs js ss) : SearchOk A A2 c c2 vs js (s :: ss) := by
  intro bs hC A' sA c' sc hbc hsc w hr hr2 hf hsl
  have hm := hs.1
  have hv16 := partsB_len hp
  have hj12 := (jointsB_in hj).1
  have HJS := Lib.hid (jointsB_in hj).2
  obtain ⟨h0, h7⟩ := hss
  obtain ⟨s, rfl⟩ := Int.eq_ofNat_of_zero_le h0
  have hl8 := hC.len
  have hslt : s < bs.length := by omega
  have hle : bs.length ≤ 8 := by omega
  have HI : Hid (∀ v : World, RdV v v.heap.size A vs → Calls Try.prog 62 #[.slice A vs.length c, .int .i64 (s : Int)] v (GivesOwn v 2 1 nC (idxTo (inSlot (s : Int)) vs vs.length))) := fun v hv => l16In_any A c vs (s : Int) v hv hm
  have HW : Hid (∀ (v : World) (code : ByteArray), Rd v v.heap.size 1 tC A' bs → Calls Try.prog 63 #[.slice A' bs.length c', .int .i64 (s : Int), .string code] v (GivesOwn v 9 1 tC (bs.set s code))) := fun v code hv => l17With_any A' c' bs s code v hv (by omega) hslt
  have HJ : Hid (∀ (v : World) (B : Option Addr) (m : Nat) (x : PartT), x ∈ vs → RdV v v.heap.size A vs → Rd v v.heap.size 3 jointC A2 js → Rd v v.heap.size 1 tC B (bs.set s x.code) → Calls Try.prog 64 #[.slice A vs.length c, .slice A2 js.length c2, .slice B bs.length m, .int .i64 1] v (GivesOwn v 2 1 nC (idxTo (isState vs (bs.set s x.code) 1) js js.length))) := fun v B m x hx h1 h2 h3 => by
    have := l17Joints_any A A2 B c c2 m vs js (bs.set s x.code) 1 v h1 h2 h3 hs (by omega) (hC.put (s := (s : Int)) hx) HJS.out
    rwa [List.length_set] at this
  have HIH : Hid (∀ (v : World) (B sA' : Option Addr) (m sc' : Nat) (x : PartT), x ∈ vs → bs.length ≤ m → ss.length ≤ sc' → RdV v v.heap.size A vs → Rd v v.heap.size 3 jointC A2 js → Flat v 0 v.heap.size 9 1 tC B (bs.set s x.code) → Rd v v.heap.size 1 nC sA' ss → Calls Try.prog 48 #[.slice A vs.length c, .slice A2 js.length c2, .slice B bs.length m, .slice sA' ss.length sc'] v (GivesSearch v (traceS vs js ss (bs.set s x.code)))) := fun v B sA' m sc' x hx h1 h2 h3 h4 h5 h6 => by
    have := hIH (bs.set s x.code) (hC.put (s := (s : Int)) hx) B sA' m sc' (by rw [List.length_set]; exact h1) h2 v h3 h4 h5 h6
    rwa [List.length_set] at this
  have HB : Hid (∀ x, anyBroken vs js (bs.set s x) = decide (0 < (idxTo (isState vs (bs.set s x) 1) js js.length).length)) := fun x => any_idx vs js (bs.set s x)
  obtain ⟨hLl, hLm⟩ := idx_filter (inSlot (s : Int)) vs vs.length
  rw [List.take_of_length_le (Nat.le_refl _)] at hLl hLm
  have HLm := Lib.hid hLm; clear hLm
  have HWb : Hid (∀ (i : Nat) (x : PartT), (vs.filter (inSlot (s : Int)))[i]? = some x → anyBroken vs js (bs.set s x.code) = true → waysTo vs js ss s bs (i + 1) = waysTo vs js ss s bs i ++ [none]) := fun i x h1 h2 => waysTo_bad h1 h2
  have HWg : Hid (∀ (i : Nat) (x : PartT), (vs.filter (inSlot (s : Int)))[i]? = some x → anyBroken vs js (bs.set s x.code) = false → waysTo vs js ss s bs (i + 1) = waysTo vs js ss s bs i ++ none :: traceS vs js ss (bs.set s x.code)) := fun i x h1 h2 => waysTo_good h1 h2
  have HWl : Hid (∀ i, (waysTo vs js ss s bs i).length ≤ 131071) := fun i => waysTo_len js hv16 hnd bs i
  have HTl : Hid (∀ b, (traceS vs js ss b).length ≤ 131071) := fun b => traceS_len js hv16 ss (List.nodup_cons.1 hnd).2 b
  have HWz : Hid (waysTo vs js ss s bs 0 = []) := waysTo_zero vs js ss s bs
  have HWa : Hid (∀ i, (vs.filter (inSlot (s : Int))).length ≤ i → waysTo vs js ss s bs i = traceS vs js ((s : Int) :: ss) bs) := fun i hi => waysTo_all (by rw [show (stepS vs js (s : Int) bs).length = (vs.filter (inSlot (s : Int))).length from by unfold stepS; rw [List.length_map]; rfl]; exact hi)
  clear hIH hs hC hnd
  generalize waysTo vs js ss s bs = W at HWb HWg HWl HWz HWa
  generalize traceS vs js ((s : Int) :: ss) bs = TT at HWa ⊢
  generalize vs.filter (inSlot (s : Int)) = xs at HLm hLl HWb HWg HWa
  have hLle := idxTo_le (inSlot (s : Int)) vs vs.length
  generalize idxTo (inSlot (s : Int)) vs vs.length = L at HI HLm hLl hLle
  have hsc' : ss.length + 1 ≤ sc := by simpa using hsc
  have HLl := Lib.hid hLl; clear hLl hl8 hsc
  obtain ⟨sb, so, rfl, hsB, qs⟩ := hsl.at1 (k := 0) (x := (s : Int)) rfl rfl
  have htl := hsl.tail1
  rw [Nat.zero_mul, Nat.add_zero] at qs
  go_enter Try.func48, Try.ntmps48
  go_wp2_with fail
  have e1 : (w.alloc (.cells #[] 44)).heap.size = w.heap.size + 1 := by simp
  have hbV : Below w.heap.size w ((w.alloc (.cells #[] 44)).alloc (.cells #[] 2)) := bthen (balloc w _) (balloc _ _)
  have hV : TwoSt w ((w.alloc (.cells #[] 44)).alloc (.cells #[] 2)) (some ⟨w.heap.size, 0, none⟩) 0 [] (some ⟨w.heap.size + 1, 0, none⟩) 0 [] [] [] [] := by
    refine ⟨(Own.made _ (Nat.le_refl _) rfl).keep (balloc _ _), ?_, hbV, RowsF.nil, fun p hp => absurd hp (by simp), fun p hp => absurd hp (by simp)⟩
    rw [← e1]
    exact Own.made _ (by omega) rfl
  generalize (w.alloc (.cells #[] 44)).alloc (.cells #[] 2) = V at hbV hV ⊢
  refine (HI.out _ (hr.next hbV)).mono ?_
  rintro e w1 ⟨A3, c3, rfl, hfL, hcL, hb1⟩
  have HV := Lib.hid (hV.addK hb1 hfL)
  clear hfL hcL hbV hV hb1 e1
  go_wp2_with fail
  have hfW := Lib.hid hf
  clear hf
  go_loopw [11, 12, 13, 15] (fun o1 o2 n i wr => ∃ (k : Nat) (oA : Option Addr) (oc : Nat) (ms : List RowM) (aA : Option Addr) (ac : Nat) (ats : List Int), k ≤ L.length ∧ i = .int .i64 k ∧ o1 = .slice oA ms.length oc ∧ o2 = .slice aA ats.length ac ∧ n = .int .i64 (nodesOf (W k)) ∧ ms.map RowM.bs = founds (W k) ∧ ats = atsOf 0 (W k) ∧ TwoSt w wr oA oc ms aA ac ats [(A3, L)] [] ms) (fun _ _ _ i _ => L.length - (intOf i).toNat)
  case atStart => exact ⟨0, _, _, [], _, _, [], Nat.zero_le _, rfl, rfl, rfl, by rw [HWz.out]; rfl, by rw [HWz.out]; rfl, by rw [HWz.out]; rfl, HV.out⟩
  case round =>
    obtain ⟨k, oA, oc, ms, aA, ac, ats, hk, rfl, rfl, rfl, rfl, hms, hats, hst⟩ := hrel
    have HA := Lib.hid hats; clear hats
    have HS := Lib.hid hst; clear hst
    have HM := Lib.hid hms; clear hms
    have hml : ms.length ≤ 131071 := by
      have h1 := congrArg List.length HM.out
      rw [List.length_map] at h1
      have h2 := founds_le (W k)
      have h3 := HWl.out k
      omega
    have hal : ats.length ≤ 131071 := by rw [HA.out, rows_len HM.out]; exact hml
    have hn0 := nodesOf_nonneg (W k)
    have hn1 := nodesOf_le (W k)
    have hn2 := HWl.out k
    have hn3 : nodesOf (W k) ≤ 131071 := by omega
    clear hn1 hn2
    by_cases hlt : k < L.length
    · have hx : L[k]? = some L[k] := List.getElem?_eq_getElem hlt
      obtain ⟨g, rfl⟩ := (HS.out.ints _ (List.mem_cons_self ..)).1.some (by simpa using (by omega : 0 < L.length))
      have q0 := (HS.out.ints _ (List.mem_cons_self ..)).1.cell1 hx rfl
      obtain ⟨j, x, e, hxj, hxs⟩ := HLm.out k _ hx
      rw [e] at q0
      clear e hx
      have hjl := (List.getElem?_eq_some_iff.1 hxj).1
      have hxm := List.mem_of_getElem? hxj
      have HWbx := Lib.hid (HWb.out k x hxs)
      have HWgx := Lib.hid (HWg.out k x hxs)
      have HBx := Lib.hid (HB.out x.code)
      clear hxs
      obtain ⟨bl, ol, rfl⟩ := hr.addr (by omega)
      have hbr := HS.out.low
      obtain ⟨hB, pA, pc, p0, p1, p2, p3, p4, _, _⟩ := (hr.below hbr).cells hxj
      have q1 := (hbr.cell (p := ⟨sb, so, none⟩) hsB).trans qs
      go_wp2_with fail
      go_still_tail 12, (by kernel_rfl)
      change wpList _ _ _ _ _ wr.drew
      have HS1 := Lib.hid (HS.out.next (bdrew wr))
      have hbr1 := HS1.out.low
      clear HS hbr hB p0 p1 p2 p3 p4 q0 q1
      generalize wr.drew = w2 at HS1 hbr1 ⊢
      go_wp2_with fail
      refine (HW.out w2 x.code ((hfW.out.rd).next hbr1)).mono ?_
      rintro e w3 ⟨B, m, rfl, hfB, hcB, hb3⟩
      rw [List.length_set] at hcB ⊢
      have HS2 := Lib.hid (HS1.out.next hb3)
      have hbr2 := HS2.out.low
      have HFB := Lib.hid (hfB.mono (Nat.zero_le _) (Nat.le_refl _))
      clear hfB hb3 HS1 hbr1
      go_wp2_with fail
      refine (HJ.out w3 B m x hxm (hr.next hbr2) (hr2.next hbr2) HFB.out.rd).mono ?_
      rintro e w4 ⟨J, jc, rfl, _, _, hb4⟩
      have HS3 := Lib.hid (HS2.out.next hb4)
      have hbr3 := HS3.out.low
      have HFB2 := Lib.hid ((HFB.out.below hb4 (Nat.le_refl _)).mono (Nat.zero_le _) hb4.size)
      clear hb4 HS2 hbr2 HFB
      have hJl := HBx.out
      clear HBx
      by_cases hpos : 0 < (idxTo (isState vs (bs.set s x.code) 1) js js.length).length
      · have HW1 := Lib.hid (HWbx.out (by rw [hJl]; simpa using hpos))
        clear hJl HWgx HWbx
        generalize (idxTo (isState vs (bs.set s x.code) 1) js js.length).length = jl at hpos ⊢
        go_wp2_with fail
        refine ⟨⟨k + 1, oA, oc, ms, aA, ac, ats, by omega, by go_num, rfl, rfl, ?_, ?_, ?_, HS3.out⟩, by simp [intOf]; omega⟩
        · rw [HW1.out, nodesOf_append]; simp [nodesOf]
        · rw [HW1.out, founds_append, ← HM.out]; simp [founds]
        · rw [HW1.out, atsOf_append, HA.out]; simp [atsOf]
      · have HW1 := Lib.hid (HWgx.out (by rw [hJl]; simpa using hpos))
        clear hJl HWgx HWbx
        generalize (idxTo (isState vs (bs.set s x.code) 1) js js.length).length = jl at hpos ⊢
        have HT0 : Hid (sc ≤ 1 → Rd w w.heap.size 1 nC (some ⟨sb, so, none⟩) ss) := fun h1 h => absurd h (by omega)
        have HT1 : Hid (sc ≤ 1 → ss.length ≤ 0) := fun h1 => by omega
        have HT2 : Hid (¬ sc ≤ 1 → ss.length ≤ sc - 1) := fun h1 => by omega
        by_cases hsc1 : sc ≤ 1
        · go_wp2_with fail
          refine (HIH.out w4 B _ m _ x hxm hcB (HT1.out hsc1) (hr.next hbr3) (hr2.next hbr3) HFB2.out ((HT0.out hsc1).next hbr3)).mono ?_
          rintro e w5 ⟨mA, mc, ns, pA', pc', rfl, hns, hmF, hmR, hpF, hb5⟩
          have hpl : (atsOf 0 (traceS vs js ss (bs.set s x.code))).length = ns.length := rows_len hns
          have HTl1 := HTl.out (bs.set s x.code)
          have hTn := nodesOf_le (traceS vs js ss (bs.set s x.code))
          have hTz := nodesOf_nonneg (traceS vs js ss (bs.set s x.code))
          have hab : ∀ n ∈ atsOf 0 (traceS vs js ss (bs.set s x.code)), 0 ≤ n ∧ n ≤ 131071 := fun n hn => by
            have := atsOf_bd 0 _ n hn
            omega
          have hnl : ns.length ≤ 131071 := by
            have h1 := congrArg List.length hns
            rw [List.length_map] at h1
            have h2 := founds_le (traceS vs js ss (bs.set s x.code))
            omega
          have hash := fun n => atsOf_shift n 0 (traceS vs js ss (bs.set s x.code))
          have HS4 := Lib.hid (HS3.out.addKR hb5 hpF hmF hmR)
          generalize traceS vs js ss (bs.set s x.code) = T' at HW1 hns hpF hpl HTl1 hTn hTz hab hash HS4 ⊢
          have hnW : 0 ≤ nodesOf (W k) + 1 ∧ nodesOf (W k) + 1 ≤ 131072 := by omega
          have Hash := Lib.hid hash; clear hash
          have Hab := Lib.hid hab; clear hab
          have Hns := Lib.hid hns; clear hns
          have HP := Lib.hid hpl; clear hpl
          clear HS3 hmF hmR hpF hb5 hbr3 HFB2 HV
          go_wp2_with fail
          have hnk : Hid (nodesOf (W k) + 1 = nodesOf (W k) + 1) := rfl
          generalize hnke : nodesOf (W k) + 1 = nk at hnW Hash ⊢
          have Hnk := Lib.hid hnke; clear hnke hnk
          go_loopw [11, 12, 20] (fun o1 o2 i wi => ∃ (q : Nat) (oA2 : Option Addr) (oc2 : Nat) (l1 : List RowM) (aA2 : Option Addr) (ac2 : Nat) (l2 : List Int), q ≤ ns.length ∧ i = .int .i64 q ∧ o1 = .slice oA2 l1.length oc2 ∧ o2 = .slice aA2 l2.length ac2 ∧ l1 = ms ++ ns.take q ∧ l2 = ats ++ ((atsOf 0 T').take q).map (nk + ·) ∧ TwoSt w wi oA2 oc2 l1 aA2 ac2 l2 [(pA', atsOf 0 T'), (some ⟨g, 0, none⟩, L)] [(mA, ns)] (ms ++ ns)) (fun _ _ i _ => ns.length - (intOf i).toNat)
          case atStart => exact ⟨0, oA, oc, ms, aA, ac, ats, Nat.zero_le _, rfl, rfl, rfl, by simp, by simp, HS4.out⟩
          case round =>
            obtain ⟨q, oA2, oc2, l1, aA2, ac2, l2, hq, rfl, rfl, rfl, hl1, hl2, hst2⟩ := hrel
            have HI2 := Lib.hid hst2; clear hst2
            have h1b : l1.length ≤ 262142 := by rw [hl1, List.length_append, List.length_take]; omega
            have h2b : l2.length ≤ 262142 := by rw [hl2, List.length_append, List.length_map, List.length_take]; omega
            have HL1 := Lib.hid hl1; clear hl1
            have HL2 := Lib.hid hl2; clear hl2
            by_cases hqlt : q < ns.length
            · have hxn : ns[q]? = some ns[q] := List.getElem?_eq_getElem hqlt
              have hap : (atsOf 0 T')[q]? = some ((atsOf 0 T')[q]'(by rw [HP.out]; exact hqlt)) := List.getElem?_eq_getElem _
              obtain ⟨gm, rfl⟩ := (HI2.out.rows _ (List.mem_cons_self ..)).1.some (by simpa using (by omega : 0 < ns.length))
              have r0 := (HI2.out.rows _ (List.mem_cons_self ..)).1.cell1 hxn rfl
              obtain ⟨gp, rfl⟩ := (HI2.out.ints _ (List.mem_cons_self ..)).1.some (by simp only; rw [HP.out]; omega)
              have hpm := Hab.out _ (List.mem_of_getElem? hap)
              have HX1 : Hid (ns.take (q + 1) = ns.take q ++ [ns[q]]) := by unfold Hid; rw [List.take_add_one, hxn]; rfl
              have HX2 : Hid ((atsOf 0 T').take (q + 1) = (atsOf 0 T').take q ++ [((atsOf 0 T')[q]'(by rw [HP.out]; exact hqlt))]) := by unfold Hid; rw [List.take_add_one, hap]; rfl
              have Hap := Lib.hid hap; clear hap
              generalize (atsOf 0 T')[q]'(by rw [HP.out]; exact hqlt) = pn at Hap hpm HX2
              clear hxn
              generalize ns[q] = m1 at r0 HX1
              have hwi := HI2.out.low.size
              go_wp2_with (at_builtin; refine wpList_append_far rfl _ _ _ rfl w.heap.size 44 (.slice none 0 0) 1 24 Try.underlying54 infoRow rfl (by omega) (by omega) rowC l1 m1 oA2 oc2 rfl (HI2.out.own1.keep (balloc _ _)) (wr.heap.size) _ rfl rfl (one_cell (by go_simp)) (rowC_one _) (by omega) (by simp; omega) ?_)
              intro A6 c6 w6 hown6 hb6 hfar6
              have HI3 := Lib.hid ((HI2.out.next (balloc wr _)).pushRow hown6 hb6 (fun g hg ha => hfar6 g (by simpa using hg) ha))
              clear hown6 hb6 hfar6 r0
              have r1 := (HI3.out.ints _ (List.mem_cons_self ..)).1.cell1 Hap.out rfl
              have hw6 := HI3.out.low.size
              clear hwi
              go_wp2_with (at_builtin; refine wpList_append_far rfl _ _ _ rfl w.heap.size 2 (.int .i64 0) 1 8 Try.underlying47 infoInt64 rfl (by omega) (by omega) nC l2 (nk + pn) aA2 ac2 rfl (HI3.out.own2.keep (balloc _ _)) (w6.heap.size) _ rfl rfl (one_cell (by go_simp)) (by simp [nC]; rfl) (by omega) (by simp; omega) ?_)
              intro A7 c7 w7 hown7 hb7 hfar7
              have HI4 := Lib.hid ((HI3.out.next (balloc w6 _)).pushInt hown7 hb7 (fun g hg ha => hfar7 g (by simpa using hg) ha))
              clear hown7 hb7 hfar7 r1
              go_wp2_with fail
              exact ⟨⟨q + 1, A6, c6, l1 ++ [m1], A7, c7, l2 ++ [nk + pn], by omega, by go_num, by simp, by simp, by rw [HL1.out, HX1.out, List.append_assoc], by rw [HL2.out, HX2.out, List.map_append, List.append_assoc]; rfl, HI4.out⟩, by simp [intOf]; omega⟩
            · obtain rfl : q = ns.length := by omega
              rw [List.take_of_length_le (Nat.le_refl _)] at HL1
              have HL2b : Hid (l2 = ats ++ (atsOf 0 T').map (nk + ·)) := by
                have := HL2.out
                rwa [List.take_of_length_le (by rw [HP.out]; exact Nat.le_refl _)] at this
              go_wp2_with fail
              refine ⟨⟨k + 1, oA2, oc2, l1, aA2, ac2, l2, by omega, by go_num, rfl, rfl, ?_, ?_, ?_, ?_⟩, by simp [intOf]; omega⟩
              · rw [HW1.out, nodesOf_append]; simp only [nodesOf]; rw [← Hnk.out]; congr 1; omega
              · rw [HW1.out, founds_append, HL1.out, List.map_append, HM.out, Hns.out]; simp [founds]
              · rw [HW1.out, atsOf_append, HL2b.out, HA.out]
                simp only [atsOf]
                rw [← Hash.out]
                congr 2
                have := Hnk.out
                omega
              · have h5 := HI2.out.dropK.dropR
                exact ⟨h5.own1, h5.own2, h5.low, by rw [HL1.out]; exact h5.rowsf, h5.ints, h5.rows⟩
        · go_wp2_with fail
          refine (HIH.out w4 B _ m _ x hxm hcB (HT2.out hsc1) (hr.next hbr3) (hr2.next hbr3) HFB2.out (htl.next hbr3)).mono ?_
          rintro e w5 ⟨mA, mc, ns, pA', pc', rfl, hns, hmF, hmR, hpF, hb5⟩
          have hpl : (atsOf 0 (traceS vs js ss (bs.set s x.code))).length = ns.length := rows_len hns
          have HTl1 := HTl.out (bs.set s x.code)
          have hTn := nodesOf_le (traceS vs js ss (bs.set s x.code))
          have hTz := nodesOf_nonneg (traceS vs js ss (bs.set s x.code))
          have hab : ∀ n ∈ atsOf 0 (traceS vs js ss (bs.set s x.code)), 0 ≤ n ∧ n ≤ 131071 := fun n hn => by
            have := atsOf_bd 0 _ n hn
            omega
          have hnl : ns.length ≤ 131071 := by
            have h1 := congrArg List.length hns
            rw [List.length_map] at h1
            have h2 := founds_le (traceS vs js ss (bs.set s x.code))
            omega
          have hash := fun n => atsOf_shift n 0 (traceS vs js ss (bs.set s x.code))
          have HS4 := Lib.hid (HS3.out.addKR hb5 hpF hmF hmR)
          generalize traceS vs js ss (bs.set s x.code) = T' at HW1 hns hpF hpl HTl1 hTn hTz hab hash HS4 ⊢
          have hnW : 0 ≤ nodesOf (W k) + 1 ∧ nodesOf (W k) + 1 ≤ 131072 := by omega
          have Hash := Lib.hid hash; clear hash
          have Hab := Lib.hid hab; clear hab
          have Hns := Lib.hid hns; clear hns
          have HP := Lib.hid hpl; clear hpl
          clear HS3 hmF hmR hpF hb5 hbr3 HFB2 HV
          go_wp2_with fail
          have hnk : Hid (nodesOf (W k) + 1 = nodesOf (W k) + 1) := rfl
          generalize hnke : nodesOf (W k) + 1 = nk at hnW Hash ⊢
          have Hnk := Lib.hid hnke; clear hnke hnk
          go_loopw [11, 12, 20] (fun o1 o2 i wi => ∃ (q : Nat) (oA2 : Option Addr) (oc2 : Nat) (l1 : List RowM) (aA2 : Option Addr) (ac2 : Nat) (l2 : List Int), q ≤ ns.length ∧ i = .int .i64 q ∧ o1 = .slice oA2 l1.length oc2 ∧ o2 = .slice aA2 l2.length ac2 ∧ l1 = ms ++ ns.take q ∧ l2 = ats ++ ((atsOf 0 T').take q).map (nk + ·) ∧ TwoSt w wi oA2 oc2 l1 aA2 ac2 l2 [(pA', atsOf 0 T'), (some ⟨g, 0, none⟩, L)] [(mA, ns)] (ms ++ ns)) (fun _ _ i _ => ns.length - (intOf i).toNat)
          case atStart => exact ⟨0, oA, oc, ms, aA, ac, ats, Nat.zero_le _, rfl, rfl, rfl, by simp, by simp, HS4.out⟩
          case round =>
            obtain ⟨q, oA2, oc2, l1, aA2, ac2, l2, hq, rfl, rfl, rfl, hl1, hl2, hst2⟩ := hrel
            have HI2 := Lib.hid hst2; clear hst2
            have h1b : l1.length ≤ 262142 := by rw [hl1, List.length_append, List.length_take]; omega
            have h2b : l2.length ≤ 262142 := by rw [hl2, List.length_append, List.length_map, List.length_take]; omega
            have HL1 := Lib.hid hl1; clear hl1
            have HL2 := Lib.hid hl2; clear hl2
            by_cases hqlt : q < ns.length
            · have hxn : ns[q]? = some ns[q] := List.getElem?_eq_getElem hqlt
              have hap : (atsOf 0 T')[q]? = some ((atsOf 0 T')[q]'(by rw [HP.out]; exact hqlt)) := List.getElem?_eq_getElem _
              obtain ⟨gm, rfl⟩ := (HI2.out.rows _ (List.mem_cons_self ..)).1.some (by simpa using (by omega : 0 < ns.length))
              have r0 := (HI2.out.rows _ (List.mem_cons_self ..)).1.cell1 hxn rfl
              obtain ⟨gp, rfl⟩ := (HI2.out.ints _ (List.mem_cons_self ..)).1.some (by simp only; rw [HP.out]; omega)
              have hpm := Hab.out _ (List.mem_of_getElem? hap)
              have HX1 : Hid (ns.take (q + 1) = ns.take q ++ [ns[q]]) := by unfold Hid; rw [List.take_add_one, hxn]; rfl
              have HX2 : Hid ((atsOf 0 T').take (q + 1) = (atsOf 0 T').take q ++ [((atsOf 0 T')[q]'(by rw [HP.out]; exact hqlt))]) := by unfold Hid; rw [List.take_add_one, hap]; rfl
              have Hap := Lib.hid hap; clear hap
              generalize (atsOf 0 T')[q]'(by rw [HP.out]; exact hqlt) = pn at Hap hpm HX2
              clear hxn
              generalize ns[q] = m1 at r0 HX1
              have hwi := HI2.out.low.size
              go_wp2_with (at_builtin; refine wpList_append_far rfl _ _ _ rfl w.heap.size 44 (.slice none 0 0) 1 24 Try.underlying54 infoRow rfl (by omega) (by omega) rowC l1 m1 oA2 oc2 rfl (HI2.out.own1.keep (balloc _ _)) (wr.heap.size) _ rfl rfl (one_cell (by go_simp)) (rowC_one _) (by omega) (by simp; omega) ?_)
              intro A6 c6 w6 hown6 hb6 hfar6
              have HI3 := Lib.hid ((HI2.out.next (balloc wr _)).pushRow hown6 hb6 (fun g hg ha => hfar6 g (by simpa using hg) ha))
              clear hown6 hb6 hfar6 r0
              have r1 := (HI3.out.ints _ (List.mem_cons_self ..)).1.cell1 Hap.out rfl
              have hw6 := HI3.out.low.size
              clear hwi
              go_wp2_with (at_builtin; refine wpList_append_far rfl _ _ _ rfl w.heap.size 2 (.int .i64 0) 1 8 Try.underlying47 infoInt64 rfl (by omega) (by omega) nC l2 (nk + pn) aA2 ac2 rfl (HI3.out.own2.keep (balloc _ _)) (w6.heap.size) _ rfl rfl (one_cell (by go_simp)) (by simp [nC]; rfl) (by omega) (by simp; omega) ?_)
              intro A7 c7 w7 hown7 hb7 hfar7
              have HI4 := Lib.hid ((HI3.out.next (balloc w6 _)).pushInt hown7 hb7 (fun g hg ha => hfar7 g (by simpa using hg) ha))
              clear hown7 hb7 hfar7 r1
              go_wp2_with fail
              exact ⟨⟨q + 1, A6, c6, l1 ++ [m1], A7, c7, l2 ++ [nk + pn], by omega, by go_num, by simp, by simp, by rw [HL1.out, HX1.out, List.append_assoc], by rw [HL2.out, HX2.out, List.map_append, List.append_assoc]; rfl, HI4.out⟩, by simp [intOf]; omega⟩
            · obtain rfl : q = ns.length := by omega
              rw [List.take_of_length_le (Nat.le_refl _)] at HL1
              have HL2b : Hid (l2 = ats ++ (atsOf 0 T').map (nk + ·)) := by
                have := HL2.out
                rwa [List.take_of_length_le (by rw [HP.out]; exact Nat.le_refl _)] at this
              go_wp2_with fail
              refine ⟨⟨k + 1, oA2, oc2, l1, aA2, ac2, l2, by omega, by go_num, rfl, rfl, ?_, ?_, ?_, ?_⟩, by simp [intOf]; omega⟩
              · rw [HW1.out, nodesOf_append]; simp only [nodesOf]; rw [← Hnk.out]; congr 1; omega
              · rw [HW1.out, founds_append, HL1.out, List.map_append, HM.out, Hns.out]; simp [founds]
              · rw [HW1.out, atsOf_append, HL2b.out, HA.out]
                simp only [atsOf]
                rw [← Hash.out]
                congr 2
                have := Hnk.out
                omega
              · have h5 := HI2.out.dropK.dropR
                exact ⟨h5.own1, h5.own2, h5.low, by rw [HL1.out]; exact h5.rowsf, h5.ints, h5.rows⟩
    · go_wp2_with fail
      go_ret3
      have HT := Lib.hid (HWa.out k (by have := HLl.out; omega))
      rw [← HT.out]
      have hal2 : ats.length = ms.length := by rw [HA.out]; exact rows_len HM.out
      have hfl := HS.out.own2.flat (fun _ => rfl)
      rw [HA.out] at hfl
      rw [hal2]
      exact ⟨oA, oc, ms, aA, ac, rfl, HM.out, HS.out.own1.flat rowC_len, HS.out.rowsf, hfl, HS.out.low⟩
theorem search_all (A A2 : Option Addr) (c c2 : Nat) (vs : List PartT) (js : List JointT) (hs : SmallV vs) (hp : partsB vs = true) (hj : jointsB js = true) : ∀ (ss : List Int), ss.Nodup → (∀ s ∈ ss, 0 ≤ s ∧ s < 8) → SearchOk A A2 c c2 vs js ss
  | [], _, _ => search_nil A A2 c c2 vs js
  | s :: ss, hn, hb => search_cons A A2 c c2 vs js hs hp hj s ss hn (hb s (by simp)) (search_all A A2 c c2 vs js hs hp hj ss (List.nodup_cons.1 hn).2 fun x hx => hb x (by simp [hx]))
end Go.Proofs.Ytioblfbhjkkgoaa
