/- DERIVED. The law on the prices and grams that nothing beats. -/
import Derived.Test.YtioblfbhjkkgoaaFront
import Derived.Test.YtioblfbhjkkgoaaRowI
import Derived.Test.YtioblfbhjkkgoaaSrch
import Derived.Test.YtioblfbhjkkgoaaBest18
import Derived.Test.YtioblfbhjkkgoaaBestS
import Derived.Test.YtioblfbhjkkgoaaBikeS
import Derived.Test.YtioblfbhjkkgoaaSl
import Derived.Test.YtioblfbhjkkgoaaFlJoint
import Derived.Test.YtioblfbhjkkgoaaKit
import Derived.Test.YtioblfbhjkkgoaaKitPart
import Derived.Test.YtioblfbhjkkgoaaHead
import Derived.Laws.IdiomCopy
import Derived.StillTailTactics
import Derived.Deep.RegionLaw
import Derived.Deep.CutRange
import Derived.Lib.SmallJoins
import Derived.Deep.Slices
import Derived.Deep.Fields
import Derived.ChangeMaps5
import Derived.Carry
import Derived.Deep.RegionHeld3

namespace Go.Proofs.Ytioblfbhjkkgoaa
set_option maxRecDepth 100000
open Go.RowKit

theorem rowI_l (m : RowI) : (rowI m).length = 1 := rfl
/-- A row as a value. -/
def rvI (m : RowI) : Value := .slice m.A m.ns.length m.c
theorem flat_map_rowI : ∀ l : List RowI, l.flatMap rowI = l.map rvI
  | [] => rfl
  | x :: l => by rw [List.flatMap_cons, flat_map_rowI l]; rfl
/-- A row of a pair, its numbers in block x.1. -/
def pm (x : Nat × (Int × Int)) : RowI := ⟨some ⟨x.1, 0, none⟩, 2, [x.2.1, x.2.2]⟩
theorem pm_inj {x y : Nat × (Int × Int)} (h : pm x = pm y) : x = y := by
  obtain ⟨a, b, c⟩ := x
  obtain ⟨a', b', c'⟩ := y
  simp [pm] at h
  obtain ⟨rfl, rfl, rfl⟩ := h
  rfl
def nilRow : RowI := ⟨none, 0, []⟩

theorem Own.setI {w : World} {base g c i : Nat} {E : TypeId} {xs : List RowI} (h : Own w base E 1 rowI (some ⟨g, 0, none⟩) c xs) (_hi : i < xs.length) (v : RowI) : Own (w.setCell ⟨g, i, none⟩ (rvI v)) base E 1 rowI (some ⟨g, 0, none⟩) c (xs.set i v) := by
  refine ⟨by rw [flat_map_rowI, List.length_map, List.length_set, Nat.mul_one], ?_⟩
  rcases h.2 with ⟨h2, _⟩ | ⟨g', cap, cur, e, hB, hg, h3, h4, h5, h6⟩
  · cases h2
  · simp only [Value.slice.injEq, Option.some.injEq, Addr.mk.injEq] at e
    obtain ⟨⟨rfl, _⟩, _, rfl⟩ := e
    refine Or.inr ⟨g, c, cur.setIfInBounds i (rvI v), by rw [List.length_set], hB, by simp [World.setCell, Array.getElem?_modify, hg], by rw [List.length_set]; exact h3, h4, by simpa using h5, ?_⟩
    rw [flat_map_rowI] at h6 ⊢
    rw [List.map_set, ← h6, List.length_set, Nat.mul_one, Array.toList_setIfInBounds, List.take_set]
/-- The block of a slice of rows of the call's own that holds something. -/
theorem Own.someI {w : World} {base c : Nat} {E : TypeId} {A : Option Addr} {xs : List RowI} (h : Own w base E 1 rowI A c xs) (hp : 0 < xs.length) : ∃ g, A = some ⟨g, 0, none⟩ ∧ base ≤ g ∧ g < w.heap.size ∧ (∀ k x, xs[k]? = some x → w.cell? ⟨g, k, none⟩ = some (rvI x)) ∧ ∀ j, w.frozen? ⟨g, j, none⟩ = false := by
  obtain ⟨g, m, rfl, h1, h2, h3, h4, h5⟩ := h.flat rowI_l hp
  refine ⟨g, rfl, h1, h2, fun k x hx => ?_, fun j => h3.frozen j⟩
  have := h5 k x hx 0 _ rfl
  rw [Nat.mul_one, Nat.add_zero] at this
  exact this

def setManyI (xs : List RowI) (o : Nat) : List RowI → List RowI
  | [] => xs
  | v :: vs => setManyI (xs.set o v) (o + 1) vs
theorem setManyI_len : ∀ (vs xs : List RowI) (o : Nat), (setManyI xs o vs).length = xs.length
  | [], _, _ => rfl
  | v :: vs, xs, o => by
    unfold setManyI
    rw [setManyI_len vs, List.length_set]
theorem setManyI_eq : ∀ (vs xs : List RowI) (o : Nat), o + vs.length ≤ xs.length → setManyI xs o vs = xs.take o ++ vs ++ xs.drop (o + vs.length)
  | [], xs, o, _ => by simp [setManyI]
  | v :: vs, xs, o, h => by
    simp only [List.length_cons] at h
    unfold setManyI
    rw [setManyI_eq vs (xs.set o v) (o + 1) (by rw [List.length_set]; omega)]
    have e1 : (xs.set o v).take (o + 1) = xs.take o ++ [v] := by
      rw [List.take_succ_eq_append_getElem (by rw [List.length_set]; omega), List.getElem_set_self]
      congr 1
      rw [List.take_set_of_le (Nat.le_refl _)]
    have e2 : (xs.set o v).drop (o + 1 + vs.length) = xs.drop (o + (vs.length + 1)) := by
      rw [List.drop_set_of_lt (by omega), show o + 1 + vs.length = o + (vs.length + 1) by omega]
    rw [e1, e2]
    simp
theorem Own.setManyI {base g c : Nat} {E : TypeId} : ∀ (vs xs : List RowI) (w : World) (o : Nat), Own w base E 1 rowI (some ⟨g, 0, none⟩) c xs → o + vs.length ≤ xs.length → Own (w.setCells g o (vs.map rvI)) base E 1 rowI (some ⟨g, 0, none⟩) c (Go.Proofs.Ytioblfbhjkkgoaa.setManyI xs o vs)
  | [], _, _, _, h, _ => h
  | v :: vs, xs, w, o, h, hl => by
    simp only [List.length_cons] at hl
    exact Own.setManyI vs (xs.set o v) _ (o + 1) (h.setI (by omega) v) (by rw [List.length_set]; omega)
theorem belowI_setCells {B g : Nat} (hg : B ≤ g) : ∀ (vs : List Value) (w : World) (o : Nat), Below B w (w.setCells g o vs)
  | [], _, _ => Below.refl _ _
  | v :: vs, w, o => ((Below.refl B w).setCell (p := ⟨g, o, none⟩) hg v).trans (belowI_setCells hg vs _ (o + 1))
/-- Where the rows behind k move up by one and one is put at k. -/
theorem pushI_at {L : List RowI} {k : Nat} {x z : RowI} (hk : k ≤ L.length) : (setManyI (L ++ [z]) (k + 1) (L.drop k)).set k x = L.take k ++ x :: L.drop k := by
  rw [setManyI_eq _ _ _ (by rw [List.length_drop, List.length_append, List.length_singleton]; omega)]
  have e1 : k + 1 + (L.drop k).length = (L ++ [z]).length := by rw [List.length_drop, List.length_append, List.length_singleton]; omega
  rw [e1, List.drop_length, List.append_nil]
  have e2 : (L ++ [z]).take (k + 1) = L.take k ++ [(L ++ [z])[k]'(by rw [List.length_append, List.length_singleton]; omega)] := by
    rw [List.take_succ_eq_append_getElem (by rw [List.length_append, List.length_singleton]; omega), List.take_append_of_le_length hk]
  rw [e2]
  have hl : (L.take k).length = k := by rw [List.length_take]; omega
  generalize (L ++ [z])[k]'_ = u
  generalize L.take k = P at hl ⊢
  subst hl
  simp

/-- Pairs, each in a block from lo on. -/
def Pairs (w : World) (lo : Nat) (L : List (Nat × (Int × Int))) : Prop := ∀ x ∈ L, Flat w lo w.heap.size 2 1 nC (some ⟨x.1, 0, none⟩) [x.2.1, x.2.2]
section
variable {w w' : World} {lo : Nat} {L : List (Nat × (Int × Int))}
theorem Pairs.nil : Pairs w lo [] := fun _ h => absurd h (by simp)
theorem Pairs.next (h : Pairs w lo L) (hb : Below w.heap.size w w') : Pairs w' lo L := fun x hx => ((h x hx).below hb (Nat.le_refl _)).mono (Nat.le_refl _) hb.size
theorem Pairs.cells (h : Pairs w lo L) {x : Nat × (Int × Int)} (hx : x ∈ L) : w.cell? ⟨x.1, 0, none⟩ = some (.int .i64 x.2.1) ∧ w.cell? ⟨x.1, 1, none⟩ = some (.int .i64 x.2.2) := by
  obtain ⟨g, m, e, _, _, _, _, hc⟩ := h x hx (by simp)
  simp only [Option.some.injEq, Addr.mk.injEq] at e
  obtain ⟨e, _⟩ := e
  rw [e]
  have h0 := hc 0 _ rfl 0 _ rfl
  have h1 := hc 1 _ rfl 0 _ rfl
  simp at h0 h1
  exact ⟨h0, h1⟩
theorem Pairs.far {β : Type} {w4 : World} {sz' c base : Nat} {E' : TypeId} {f' : β → List Value} {B A2 : Option Addr} {ys : List β} (h : Pairs w lo L) (ho : Own w base E' sz' f' B c ys) (hE : E' ≠ 2) (hs : w.heap.size ≤ w4.heap.size)
    (hfar : ∀ g, g < w.heap.size → Apart B g → Apart A2 g ∧ w4.heap[g]? = w.heap[g]?) : Pairs w4 lo L := fun x hx => ((h x hx).farType ho hE (Nat.le_refl _) hfar).mono (Nat.le_refl _) hs
theorem Pairs.snoc {x : Nat × (Int × Int)} (h : Pairs w lo L) (hx : Flat w lo w.heap.size 2 1 nC (some ⟨x.1, 0, none⟩) [x.2.1, x.2.2]) : Pairs w lo (L ++ [x]) := fun y hy => by
  rcases List.mem_append.1 hy with hy | hy
  · exact h y hy
  · simp only [List.mem_singleton] at hy
    subst hy
    exact hx
end
theorem pair_made (w : World) (lo : Nat) (a b : Int) (h : lo ≤ w.heap.size) : Flat (w.alloc (.cells #[.int .i64 a, .int .i64 b] 2)) lo (w.alloc (.cells #[.int .i64 a, .int .i64 b] 2)).heap.size 2 1 nC (some ⟨w.heap.size, 0, none⟩) [a, b] := fun _ => by
  refine ⟨w.heap.size, 2, rfl, h, by simp, Row.new w _ _, by simp, fun k x hk j v hj => ?_⟩
  match k, hk with
  | 0, hk =>
    simp at hk
    subst hk
    match j, hj with
    | 0, hj =>
      simp [nC] at hj
      subst hj
      go_simp
    | j + 1, hj => simp [nC] at hj
  | 1, hk =>
    simp at hk
    subst hk
    match j, hj with
    | 0, hj =>
      simp [nC] at hj
      subst hj
      go_simp
    | j + 1, hj => simp [nC] at hj
  | k + 2, hk => simp at hk

/-- Beaten by one of the first j. -/
def beatTo (ps : List (Int × Int)) (a : Int × Int) (j : Nat) : Bool := (ps.take j).any fun b => beatsP b a
theorem beatTo_zero (ps : List (Int × Int)) (a : Int × Int) : beatTo ps a 0 = false := by simp [beatTo]
theorem beatTo_succ {ps : List (Int × Int)} {a b : Int × Int} {j : Nat} (h : ps[j]? = some b) : beatTo ps a (j + 1) = (beatTo ps a j || beatsP b a) := by
  unfold beatTo
  rw [List.take_add_one, h, List.any_append]
  simp
theorem beatTo_all {ps : List (Int × Int)} {a : Int × Int} {j : Nat} (h : ps.length ≤ j) : goodP ps a = !beatTo ps a j := by
  unfold beatTo goodP
  rw [List.take_of_length_le h]
  induction ps with
  | nil => rfl
  | cons b bs ih =>
    rw [List.all_cons, List.any_cons, ih (by simp at h; omega)]
    simp
theorem beats_yes {b a : Int × Int} (h : (b.1 < a.1 ∧ b.2 ≤ a.2) ∨ (b.2 < a.2 ∧ b.1 ≤ a.1)) : beatsP b a = true := decide_eq_true h
theorem beats_no {b a : Int × Int} (h : ¬ ((b.1 < a.1 ∧ b.2 ≤ a.2) ∨ (b.2 < a.2 ∧ b.1 ≤ a.1))) : beatsP b a = false := decide_eq_false h

/-- The rows kept of the first i pairs. -/
def FrontOk (Lp : List (Nat × (Int × Int))) (i : Nat) (M : List RowI) : Prop := ∃ L : List (Nat × (Int × Int)), M = L.map pm ∧ L.map Prod.snd = frontP (Lp.map Prod.snd) ((Lp.map Prod.snd).take i) ∧ ∀ x ∈ L, x ∈ Lp
section
variable {Lp : List (Nat × (Int × Int))} {i k : Nat} {M : List RowI} {x y : Nat × (Int × Int)}
theorem FrontOk.zero : FrontOk Lp 0 [] := ⟨[], rfl, by simp [frontP], fun _ h => absurd h (by simp)⟩
theorem FrontOk.len (h : FrontOk Lp i M) : M.length ≤ i := by
  obtain ⟨L, rfl, h1, _⟩ := h
  have h2 := congrArg List.length h1
  rw [List.length_map] at h2
  rw [List.length_map, h2]
  refine Nat.le_trans (frontP_sub _ _) ?_
  rw [List.length_take]
  omega
theorem FrontOk.row (h : FrontOk Lp i M) {m : RowI} (hm : M[k]? = some m) : ∃ x ∈ Lp, m = pm x := by
  obtain ⟨L, rfl, _, h2⟩ := h
  rw [List.getElem?_map, Option.map_eq_some_iff] at hm
  obtain ⟨x, hx, rfl⟩ := hm
  exact ⟨x, h2 x (List.mem_of_getElem? hx), rfl⟩
theorem front_next (hx : Lp[i]? = some x) : frontP (Lp.map Prod.snd) ((Lp.map Prod.snd).take (i + 1)) = if goodP (Lp.map Prod.snd) x.2 = true then insP x.2 (frontP (Lp.map Prod.snd) ((Lp.map Prod.snd).take i)) else frontP (Lp.map Prod.snd) ((Lp.map Prod.snd).take i) := by
  rw [List.take_add_one, List.getElem?_map, hx]
  exact frontP_snoc _ _ _
theorem FrontOk.bad (h : FrontOk Lp i M) (hx : Lp[i]? = some x) (hg : goodP (Lp.map Prod.snd) x.2 = false) : FrontOk Lp (i + 1) M := by
  obtain ⟨L, rfl, h1, h2⟩ := h
  refine ⟨L, rfl, ?_, h2⟩
  rw [front_next hx, hg, h1]
  rfl
theorem FrontOk.there (h : FrontOk Lp i M) (hx : Lp[i]? = some x) (hm : M[k]? = some (pm y)) (he : y.2.1 = x.2.1) : FrontOk Lp (i + 1) M := by
  obtain ⟨L, rfl, h1, h2⟩ := h
  refine ⟨L, rfl, ?_, h2⟩
  rw [front_next hx]
  split
  · rw [List.getElem?_map, Option.map_eq_some_iff] at hm
    obtain ⟨y', hy, e⟩ := hm
    obtain rfl := pm_inj e
    refine h1.trans (insP_there (k := k) (b := y'.2) (frontP_rise _ _) ?_ he).symm
    rw [← h1, List.getElem?_map, hy]
    rfl
  · exact h1
theorem FrontOk.put (h : FrontOk Lp i M) (hx : Lp[i]? = some x) (hg : goodP (Lp.map Prod.snd) x.2 = true) (hk : k ≤ M.length) (ha : ∀ y, 0 < k → M[k - 1]? = some (pm y) → y.2.1 < x.2.1) (hb : ∀ y, M[k]? = some (pm y) → x.2.1 < y.2.1) : FrontOk Lp (i + 1) (M.take k ++ pm x :: M.drop k) := by
  obtain ⟨L, rfl, h1, h2⟩ := h
  rw [List.length_map] at hk
  refine ⟨L.take k ++ x :: L.drop k, by simp, ?_, fun z hz => ?_⟩
  · rw [front_next hx, if_pos hg, ← h1, insP_at (k := k) (by rw [h1]; exact frontP_rise _ _) (by rw [List.length_map]; exact hk) (fun b h0 hb1 => ?_) (fun b hb1 => ?_)]
    · simp
    · rw [List.getElem?_map, Option.map_eq_some_iff] at hb1
      obtain ⟨z, hz, rfl⟩ := hb1
      exact ha z h0 (by rw [List.getElem?_map, hz]; rfl)
    · rw [List.getElem?_map, Option.map_eq_some_iff] at hb1
      obtain ⟨z, hz, rfl⟩ := hb1
      exact hb z (by rw [List.getElem?_map, hz]; rfl)
  · rcases List.mem_append.1 hz with hz | hz
    · exact h2 z (List.mem_of_mem_take hz)
    · rcases List.mem_cons.1 hz with rfl | hz
      · exact List.mem_of_getElem? hx
      · exact h2 z (List.mem_of_mem_drop hz)
end
/-- What Frontier returns. -/
def pairOf (vs : List PartT) (b : List ByteArray) : Int × Int := (priceB vs b, gramsB vs b)
def pairsB (vs : List PartT) (js : List JointT) : List (Int × Int) := (allB vs js).map (pairOf vs)
def rowOfP (p : Int × Int) : List Int := [p.1, p.2]
def frontR (vs : List PartT) (js : List JointT) : List (List Int) × Int := if bothB vs js = true then ((frontP (pairsB vs js) (pairsB vs js)).map rowOfP, 0) else ([], 1)
/-- The rows that are kept lie apart. -/
theorem FrontOk.flat {Lp : List (Nat × (Int × Int))} {i : Nat} {M : List RowI} {w : World} {lo : Nat} {A : Option Addr} (h : FrontOk Lp i M) (hp : Pairs w lo Lp) (ho : Flat w lo w.heap.size 47 1 rowI A M) : FlatI w lo w.heap.size A ((frontP (Lp.map Prod.snd) ((Lp.map Prod.snd).take i)).map rowOfP) := by
  obtain ⟨L, rfl, h1, h2⟩ := h
  refine ⟨L.map pm, ?_, ho, fun m hm => ?_, ?_⟩
  · rw [← h1, List.map_map, List.map_map]
    rfl
  · obtain ⟨x, hx, rfl⟩ := List.mem_map.1 hm
    exact hp x (h2 x hx)
  · rw [List.pairwise_map]
    have hr := frontP_rise (Lp.map Prod.snd) ((Lp.map Prod.snd).take i)
    rw [← h1] at hr
    unfold Rise at hr
    rw [List.pairwise_map] at hr
    refine List.Pairwise.imp_of_mem ?_ hr
    intro a b ha hb hlt _ _ e
    simp only [pm, Option.some.injEq, Addr.mk.injEq, and_true] at e
    have c1 := (hp.cells (h2 a ha)).1
    have c2 := (hp.cells (h2 b hb)).1
    rw [e, c2] at c1
    simp only [Option.some.injEq, Value.int.injEq, true_and] at c1
    omega

end Go.Proofs.Ytioblfbhjkkgoaa

namespace Go.Proofs.Ytioblfbhjkkgoaa
set_option maxRecDepth 100000
open Go.RowKit

set_option maxHeartbeats 4000000 in
theorem Frontier_impl (LA JA : Option Addr) (lc jc : Nat) (vs : List PartT) (js : List JointT) (w : World) (hr : RdV w w.heap.size LA vs) (hr2 : Rd w w.heap.size 3 jointC JA js) (hs : SmallV vs) (hm2 : js.length ≤ 1048576) :
    Calls Try.prog 10 #[.slice LA vs.length lc, .slice JA js.length jc] w (GivesI w (frontR vs js)) := by
  have hBo := areBoth_any LA JA lc jc vs js w hr hr2 hs hm2
  by_cases hb : bothB vs js = true
  · rw [hb] at hBo
    have HBo := Lib.hid hBo; clear hBo
    have HSu : Hid (∀ (v : World) (r : RowM), RdV v v.heap.size LA vs → Rd v v.heap.size 1 tC r.A r.bs → Codes vs r.bs → Calls Try.prog 32 #[.slice LA vs.length lc, .slice r.A r.bs.length r.c] v fun e w' => e = .returned (.tuple #[.int .i64 (priceB vs r.bs), .int .i64 (gramsB vs r.bs)]) ∧ Below v.heap.size v w') := fun v r h1 h2 h3 => buildSums_any LA r.A lc r.c vs r.bs v h1 h2 hs h3
    have HB : Hid (∀ v : World, RdV v v.heap.size LA vs → Rd v v.heap.size 3 jointC JA js → Calls Try.prog 31 #[.slice LA vs.length lc, .slice JA js.length jc] v (GivesRowsN v (allB vs js) (nodesOf (tr vs js)))) := fun v h1 h2 => bicycles_any LA JA lc jc vs js v h1 h2 hs hb
    have HCo : Hid (∀ b ∈ allB vs js, Codes vs b) := fun b hbm => founds_codes (bothB_true hb).1 hbm
    have hal := allB_len js (bothB_true hb).1
    have HR : Hid (frontR vs js = ((frontP (pairsB vs js) (pairsB vs js)).map rowOfP, 0)) := by unfold Hid frontR; rw [if_pos hb]
    rw [HR.out]
    clear HR hs hb hm2
    go_enter Try.func10, Try.ntmps10
    go_wp2_with fail
    refine HBo.out.mono ?_
    rintro e w0 ⟨rfl, hb1⟩
    go_wp2_with fail
    refine (HB.out w0 (hr.next hb1) (hr2.next hb1)).mono ?_
    rintro e w1 ⟨A, c, ms, rfl, hms, fms, rms, hb2⟩
    have hb12 := bthen hb1 hb2
    have HMS := Lib.hid hms
    have hml : ms.length ≤ 131071 := by
      rw [← List.length_map (f := RowM.bs), hms]
      exact hal
    have HF := Lib.hid fms
    have HRs := Lib.hid rms
    clear hms fms rms hal HB HBo hr2
    have Hr := Lib.hid (hr.next hb12); clear hr
    go_wp2_with fail
    go_loopw [8, 32] (fun o1 z wr => ∃ (n : Nat) (pA : Option Addr) (pc : Nat) (M : List RowI), n ≤ ms.length ∧ z = .int .i64 n ∧ o1 = .slice pA M.length pc ∧ M.length ≤ n ∧ Hid (M.length = n) ∧ Hid (∃ L : List (Nat × (Int × Int)), M = L.map pm ∧ L.map Prod.snd = ((allB vs js).take n).map (pairOf vs) ∧ Pairs wr w1.heap.size L) ∧ Own wr w1.heap.size 47 1 rowI pA pc M ∧ Below w1.heap.size w1 wr) (fun _ z _ => ms.length - (intOf z).toNat)
    case atStart => exact ⟨0, none, 0, [], Nat.zero_le _, rfl, rfl, Nat.le_refl _, rfl, ⟨[], rfl, by simp, Pairs.nil⟩, Own.nil, Below.refl _ _⟩
    case round =>
      obtain ⟨n, pA, pc, M, hn, rfl, rfl, hMl, HMn, HL, hown, hb⟩ := hrel
      have HO := Lib.hid hown; clear hown
      by_cases hlt : n < ms.length
      · have hx : ms[n]? = some ms[n] := List.getElem?_eq_getElem hlt
        obtain ⟨g, rfl⟩ := HF.out.some (by omega)
        have q0 := (HF.out.below hb (Nat.le_refl _)).cell1 hx rfl
        have hrow := HRs.out ms[n] (List.mem_of_getElem? hx)
        have hxa : (allB vs js)[n]? = some (ms[n]).bs := by
          rw [← HMS.out, List.getElem?_map, hx]
          rfl
        generalize ms[n] = y at hx q0 hrow hxa
        have hcy := HCo.out y.bs (List.mem_of_getElem? hxa)
        have HSy := Lib.hid (HSu.out wr y (Hr.out.next hb) ((hrow.1.rd.below hb).more hb.size) hcy)
        have HNx : Hid (((allB vs js).take (n + 1)).map (pairOf vs) = ((allB vs js).take n).map (pairOf vs) ++ [(priceB vs y.bs, gramsB vs y.bs)]) := by
          unfold Hid
          rw [List.take_add_one, hxa, List.map_append]
          rfl
        clear hx hcy hxa hrow
        generalize priceB vs y.bs = p at HSy HNx
        generalize gramsB vs y.bs = q at HSy HNx
        go_wp2_with fail
        refine HSy.out.mono ?_
        rintro e w3 ⟨rfl, hb3⟩
        have hbn := bthen hb hb3
        have hbw := bthen hb12 hbn
        have hbase : w1.heap.size ≤ w3.heap.size := hbn.size
        have HO3 := Lib.hid (HO.out.keep hb3)
        have HL3 : Hid (∃ L : List (Nat × (Int × Int)), M = L.map pm ∧ L.map Prod.snd = ((allB vs js).take n).map (pairOf vs) ∧ Pairs w3 w1.heap.size L) := by
          obtain ⟨L, e1, e2, e3⟩ := HL.out
          exact ⟨L, e1, e2, e3.next hb3⟩
        have HPm := Lib.hid (pair_made w3 w1.heap.size p q hbase)
        clear HO HL HSy HSu q0
        go_wp2_with (at_builtin; refine wpList_append_far rfl _ _ _ rfl w1.heap.size 47 (.slice none 0 0) 1 24 Try.underlying26 infoRowI rfl (by omega) (by omega) rowI M (pm (w3.heap.size, p, q)) pA pc rfl ((HO3.out.keep (balloc _ _)).keep (balloc _ _)) (w3.heap.size + 1) _ rfl rfl (one_cell (v := .slice (some ⟨w3.heap.size, 0, none⟩) 2 2) (by go_simp)) (by simp [rowI, pm]; rfl) (by omega) (by simp; omega) ?_)
        intro A4 c4 w4 hown4 hb4 hfar4
        have hs4 := hb4.size
        have HP4 : Hid (∃ L : List (Nat × (Int × Int)), M ++ [pm (w3.heap.size, p, q)] = L.map pm ∧ L.map Prod.snd = ((allB vs js).take (n + 1)).map (pairOf vs) ∧ Pairs w4 w1.heap.size L) := by
          obtain ⟨L, e1, e2, e3⟩ := HL3.out
          refine ⟨L ++ [(w3.heap.size, p, q)], by rw [e1]; simp, by rw [HNx.out, ← e2]; simp, ?_⟩
          have h1 : Pairs (w3.alloc (.cells #[.int .i64 p, .int .i64 q] 2)) w1.heap.size (L ++ [(w3.heap.size, p, q)]) := (e3.next (balloc _ _)).snoc HPm.out
          have h2 := h1.next (balloc _ (.cells #[.slice (some ⟨w3.heap.size, 0, none⟩) 2 2] 47))
          exact h2.far ((HO3.out.keep (balloc _ _)).keep (balloc _ _)) (by decide) hs4 (fun g hg => hfar4 g (by simpa using hg))
        have hb5 : Below w1.heap.size w1 w4 := ((hbn.alloc hbase _).alloc (by simp; omega) _).trans hb4
        have HO4 := Lib.hid hown4; clear hown4 hfar4
        go_wp2_with fail
        refine ⟨⟨n + 1, A4, c4, M ++ [pm (w3.heap.size, p, q)], by omega, by go_num, by simp, by simp; omega, (by have := HMn.out; unfold Hid; simp; omega), HP4.out, HO4.out, hb5⟩, by simp [intOf]; omega⟩
      · obtain rfl : n = ms.length := by omega
        obtain ⟨Lp, hMe, hL2, hPr⟩ := HL.out
        have hps : Lp.map Prod.snd = pairsB vs js := by
          rw [hL2, List.take_of_length_le (by rw [← HMS.out, List.length_map]; exact Nat.le_refl _)]
          rfl
        have hLn : Lp.length = M.length := by rw [hMe, List.length_map]
        have hMm := HMn.out
        have hbw2 := bthen hb12 hb
        have hsz := hb12.size
        have hfl : Flat wr w1.heap.size wr.heap.size 47 1 rowI pA M := HO.out.flat rowI_l
        have HLn := Lib.hid hLn
        have HFin : Hid (∀ (v : World) (A3 : Option Addr) (M3 : List RowI), FrontOk Lp M.length M3 → Below wr.heap.size wr v → Flat v w.heap.size v.heap.size 47 1 rowI A3 M3 → FlatI v w.heap.size v.heap.size A3 ((frontP (pairsB vs js) (pairsB vs js)).map rowOfP) ∧ ((frontP (pairsB vs js) (pairsB vs js)).map rowOfP).length = M3.length) := fun v A3 M3 h1 h2 h3 => by
          have hP2 : Pairs v w.heap.size Lp := fun x hx => ((hPr.next h2) x hx).mono hsz (Nat.le_refl _)
          have h4 := h1.flat hP2 h3
          have hlen := h1
          obtain ⟨L, rfl, e1, _⟩ := hlen
          rw [hps, List.take_of_length_le (by rw [← hps, List.length_map, hLn]; exact Nat.le_refl _)] at h4 e1
          refine ⟨h4, ?_⟩
          rw [← e1]
          simp
        have HPc : Hid (∀ (v : World) (j : Nat) (x : Nat × (Int × Int)), Below wr.heap.size wr v → Lp[j]? = some x → ∃ pg, pA = some ⟨pg, 0, none⟩ ∧ v.cell? ⟨pg, j, none⟩ = some (.slice (some ⟨x.1, 0, none⟩) 2 2)) := fun v j x h1 h2 => by
          have hj : M[j]? = some (pm x) := by rw [hMe, List.getElem?_map, h2]; rfl
          obtain ⟨pg, rfl⟩ := hfl.some (by have := (List.getElem?_eq_some_iff.1 hj).1; omega)
          exact ⟨pg, rfl, (hfl.below h1 (Nat.le_refl _)).cell1 hj rfl⟩
        have HOc : Hid (∀ (v : World) (x : Nat × (Int × Int)), Below wr.heap.size wr v → x ∈ Lp → v.cell? ⟨x.1, 0, none⟩ = some (.int .i64 x.2.1) ∧ v.cell? ⟨x.1, 1, none⟩ = some (.int .i64 x.2.2)) := fun v x h1 h2 => (hPr.next h1).cells h2
        have hMl : M.length ≤ 131071 := by have := HMn.out; omega
        clear hMm HMn hfl hPr hps hL2 hMe HL HO HSu hLn HCo HMS HRs HF Hr hb hb12
        generalize M.length = P at HLn HFin hMl ⊢
        obtain ⟨w2, rfl⟩ : ∃ w2, w2 = wr := ⟨_, rfl⟩
        go_wp2_with fail
        go_loopw [13, 51] (fun out z wr => ∃ (i : Nat) (A' : Option Addr) (c' : Nat) (M : List RowI), i ≤ P ∧ z = .int .i64 i ∧ out = .slice A' M.length c' ∧ Hid (FrontOk Lp i M) ∧ Own wr w2.heap.size 47 1 rowI A' c' M ∧ Below w2.heap.size w2 wr) (fun _ z _ => P - (intOf z).toNat)
        case atStart => exact ⟨0, none, 0, [], Nat.zero_le _, rfl, rfl, FrontOk.zero, Own.nil, Below.refl _ _⟩
        case round =>
          obtain ⟨i, A', c', M, hi, rfl, rfl, HF, hown, hb⟩ := hrel
          have HO := Lib.hid hown; clear hown
          have hMi := HF.out.len
          by_cases hlt : i < P
          · have hx : Lp[i]? = some (Lp[i]'(by have := HLn.out; omega)) := List.getElem?_eq_getElem _
            generalize Lp[i]'_ = x at hx
            have HX := Lib.hid hx; clear hx
            obtain ⟨pg, rfl, q0⟩ := HPc.out wr i x hb HX.out
            have HPd : Hid (∀ (v : World) (j : Nat) (y : Nat × (Int × Int)), Below w2.heap.size w2 v → Lp[j]? = some y → v.cell? ⟨pg, j, none⟩ = some (.slice (some ⟨y.1, 0, none⟩) 2 2)) := fun v j y h1 h2 => by
              obtain ⟨pg', e, h⟩ := HPc.out v j y h1 h2
              simp only [Option.some.injEq, Addr.mk.injEq] at e
              rw [e.1]
              exact h
            have HXc : Hid (∀ v : World, Below w2.heap.size w2 v → v.cell? ⟨x.1, 0, none⟩ = some (.int .i64 x.2.1) ∧ v.cell? ⟨x.1, 1, none⟩ = some (.int .i64 x.2.2)) := fun v h1 => HOc.out v x h1 (List.mem_of_getElem? HX.out)
            obtain ⟨wo, rfl⟩ : ∃ wo, wo = wr := ⟨_, rfl⟩
            go_wp2_with fail
            go_loopw [16, 57] (fun bo z wr => ∃ (j : Nat) (bt : Bool), j ≤ P ∧ z = .int .i64 j ∧ bo = .bool bt ∧ Hid (beatTo (Lp.map Prod.snd) x.2 j = bt) ∧ Below wo.heap.size wo wr) (fun _ z _ => P - (intOf z).toNat)
            case atStart => exact ⟨0, false, Nat.zero_le _, rfl, rfl, beatTo_zero _ _, Below.refl _ _⟩
            case round =>
              obtain ⟨j, bt, hj, rfl, rfl, Hbt, hbj⟩ := hrel
              have hbk := bthen' hb hbj
              by_cases hlt2 : j < P
              · have hy : Lp[j]? = some (Lp[j]'(by have := HLn.out; omega)) := List.getElem?_eq_getElem _
                generalize Lp[j]'_ = y at hy
                have HY := Lib.hid hy; clear hy
                have q1 := HPd.out wr j y hbk HY.out
                obtain ⟨cx0, cx1⟩ := HXc.out wr hbk
                obtain ⟨cy0, cy1⟩ := HOc.out wr y hbk (List.mem_of_getElem? HY.out)
                have HBs : Hid (beatTo (Lp.map Prod.snd) x.2 (j + 1) = (beatTo (Lp.map Prod.snd) x.2 j || beatsP y.2 x.2)) := beatTo_succ (by rw [List.getElem?_map, HY.out]; rfl)
                by_cases h1 : y.2.1 < x.2.1
                · by_cases h2 : y.2.2 ≤ x.2.2
                  · have HB1 : Hid (beatTo (Lp.map Prod.snd) x.2 (j + 1) = true) := by
                      unfold Hid
                      rw [HBs.out, beats_yes (by omega), Bool.or_true]
                    go_wp2_with fail
                    have dh1 : decide (y.2.1 < x.2.1) = true := by simp; omega
                    have dh2 : decide (y.2.2 ≤ x.2.2) = true := by simp; omega
                    go_quiet (fail)
                    go_wp2_with fail
                    exact ⟨⟨j + 1, true, by omega, by go_num, rfl, HB1.out, below_drewN hbj _⟩, by simp [intOf]; omega⟩
                  · have h3 : ¬ y.2.2 < x.2.2 := by omega
                    have HB1 : Hid (beatTo (Lp.map Prod.snd) x.2 (j + 1) = bt) := by
                      unfold Hid
                      rw [HBs.out, beats_no (by omega), Bool.or_false, Hbt.out]
                    go_wp2_with fail
                    have dh1 : decide (y.2.1 < x.2.1) = true := by simp; omega
                    have dh2 : decide (y.2.2 ≤ x.2.2) = false := by simp; omega
                    have dh3 : decide (y.2.2 < x.2.2) = false := by simp; omega
                    go_quiet (fail)
                    go_wp2_with fail
                    exact ⟨⟨j + 1, bt, by omega, by go_num, rfl, HB1.out, below_drewN hbj _⟩, by simp [intOf]; omega⟩
                · by_cases h3 : y.2.2 < x.2.2
                  · by_cases h4 : y.2.1 ≤ x.2.1
                    · have HB1 : Hid (beatTo (Lp.map Prod.snd) x.2 (j + 1) = true) := by
                        unfold Hid
                        rw [HBs.out, beats_yes (by omega), Bool.or_true]
                      go_wp2_with fail
                      have dh1 : decide (y.2.1 < x.2.1) = false := by simp; omega
                      have dh3 : decide (y.2.2 < x.2.2) = true := by simp; omega
                      have dh4 : decide (y.2.1 ≤ x.2.1) = true := by simp; omega
                      go_quiet (fail)
                      go_wp2_with fail
                      exact ⟨⟨j + 1, true, by omega, by go_num, rfl, HB1.out, below_drewN hbj _⟩, by simp [intOf]; omega⟩
                    · have HB1 : Hid (beatTo (Lp.map Prod.snd) x.2 (j + 1) = bt) := by
                        unfold Hid
                        rw [HBs.out, beats_no (by omega), Bool.or_false, Hbt.out]
                      go_wp2_with fail
                      have dh1 : decide (y.2.1 < x.2.1) = false := by simp; omega
                      have dh3 : decide (y.2.2 < x.2.2) = true := by simp; omega
                      have dh4 : decide (y.2.1 ≤ x.2.1) = false := by simp; omega
                      go_quiet (fail)
                      go_wp2_with fail
                      exact ⟨⟨j + 1, bt, by omega, by go_num, rfl, HB1.out, below_drewN hbj _⟩, by simp [intOf]; omega⟩
                  · have HB1 : Hid (beatTo (Lp.map Prod.snd) x.2 (j + 1) = bt) := by
                      unfold Hid
                      rw [HBs.out, beats_no (by omega), Bool.or_false, Hbt.out]
                    go_wp2_with fail
                    have dh1 : decide (y.2.1 < x.2.1) = false := by simp; omega
                    have dh3 : decide (y.2.2 < x.2.2) = false := by simp; omega
                    go_quiet (fail)
                    go_wp2_with fail
                    exact ⟨⟨j + 1, bt, by omega, by go_num, rfl, HB1.out, below_drewN hbj _⟩, by simp [intOf]; omega⟩
              · obtain rfl : j = P := by omega
                have HG : Hid (goodP (Lp.map Prod.snd) x.2 = !bt) := by
                  unfold Hid
                  rw [beatTo_all (j := j) (by rw [List.length_map, HLn.out]; exact Nat.le_refl _), Hbt.out]
                have HO1 := Lib.hid (HO.out.keep hbj)
                clear HO Hbt hbj
                cases bt with
                | true =>
                  have HF1 := Lib.hid (HF.out.bad HX.out HG.out)
                  go_wp2_with fail
                  exact ⟨⟨i + 1, A', c', M, by omega, by go_num, rfl, HF1.out, HO1.out, hbk⟩, by simp [intOf]; omega⟩
                | false =>
                  have Hgood : Hid (goodP (Lp.map Prod.snd) x.2 = true) := HG.out
                  go_wp2_with fail
                  go_loopw [19] (fun z wr => ∃ k : Nat, k ≤ M.length ∧ z = .int .i64 k ∧ Hid (∀ y, M[k]? = some (pm y) → x.2.1 < y.2.1) ∧ Own wr w2.heap.size 47 1 rowI A' c' M ∧ Below w2.heap.size w2 wr) (fun z _ => (intOf z).toNat)
                  case atStart => exact ⟨M.length, Nat.le_refl _, rfl, (fun y hy => by
                    have := (List.getElem?_eq_some_iff.1 hy).1
                    omega), HO1.out, hbk⟩
                  case round =>
                    obtain ⟨k, hk, rfl, Hg, hown, hbk⟩ := hrel
                    have HO2 := Lib.hid hown
                    obtain ⟨cx0, cx1⟩ := HXc.out wr hbk
                    by_cases hk0 : k = 0
                    · subst hk0
                      have HStop : Hid (∀ y, 0 < 0 → M[0 - 1]? = some (pm y) → y.2.1 < x.2.1) := fun y h => absurd h (by omega)
                      clear hown
                      go_wp2_with fail
                      have hdr : ∀ m, Below wr.heap.size wr (wr.drewN m) := fun m => below_drewN (Below.refl _ _) _
                      go_quiet (fail)
                      have HO3 := Lib.hid (HO2.out.keep (hdr nq))
                      have hb3 := bthen' hbk (hdr nq)
                      have cx0 := (HXc.out _ hb3).1
                      clear HO2 hbk hdr
                      generalize wr.drewN nq = wr at HO3 hb3 cx0 ⊢
                      have HO2 := HO3
                      have hbk := hb3
                      clear HO3 hb3
                      go_wp2_with fail
                      have hdr : ∀ m, Below wr.heap.size wr (wr.drewN m) := fun m => below_drewN (Below.refl _ _) _
                      go_quiet (fail)
                      have HO3 := Lib.hid (HO2.out.keep (hdr nq))
                      have hb3 := bthen' hbk (hdr nq)
                      have cx0 := (HXc.out _ hb3).1
                      have cx1 := (HXc.out _ hb3).2
                      generalize wr.drewN nq = w3 at HO3 hb3 cx0 cx1 ⊢
                      have hbase : w2.heap.size ≤ w3.heap.size := hb3.size
                      go_wp2_with (at_builtin; refine wpList_append_el rfl _ _ _ rfl w2.heap.size 47 (.slice none 0 0) 1 24 Try.underlying26 infoRowI rfl (by omega) (by omega) rowI M nilRow A' c' rfl (HO3.out.keep (balloc _ _)) w3.heap.size _ rfl rfl (one_cell (v := .slice none 0 0) (by go_simp)) (by simp [rowI, nilRow]; rfl) (by omega) (by simp; omega) ?_)
                      intro A4 c4 w4 hown4 _ hb4
                      obtain ⟨g4, rfl, hg41, hg42, hcell4, hfz4⟩ := hown4.someI (by simp)
                      have hcap4 := hown4.cap
                      rw [List.length_append, List.length_singleton] at hcap4
                      have HO4 := Lib.hid hown4
                      have hb04 : Below w2.heap.size w2 w4 := (hb3.alloc hbase _).trans hb4
                      have HC4 := Lib.hid hcell4
                      have HF4 := Lib.hid hfz4
                      clear hown4 hcell4 hfz4 cx0 cx1
                      go_upto_region 28 with (fail)
                      have hw1 : IntKind.i64.wrap 1 = 1 := IntWalk.i64_in _ (by omega)
                      have ht1 : ((1 : Int).toNat) = 1 := by omega
                      have hb2 : (1 : Int) ≤ (M.length : Int) + 1 := by omega
                      have hb3i : (0 : Int) ≤ (M.length : Int) + 1 := by omega
                      have hck : ¬ c4 = 0 := by omega
                      have HNew : Hid (FrontOk Lp (i + 1) ((setManyI (M ++ [nilRow]) (1) M).set 0 (pm x))) := by
                        unfold Hid
                        have pa := pushI_at (L := M) (k := 0) (x := pm x) (z := nilRow) (by omega)
                        rw [List.drop_zero] at pa
                        rw [pa]
                        have ia := HF.out.put HX.out Hgood.out (k := 0) (by omega) HStop.out Hg.out
                        rw [List.drop_zero] at ia
                        exact ia
                      by_cases hc1 : c4 = 1
                      · have hkL : 0 = M.length := by omega
                        subst hc1
                        have HO5 : Hid (Own w4.drew w2.heap.size 47 1 rowI (some ⟨g4, 0, none⟩) (1) (setManyI (M ++ [nilRow]) (1) M)) := by
                          unfold Hid
                          rw [show setManyI (M ++ [nilRow]) (1) M = M ++ [nilRow] from by rw [show M = [] from List.length_eq_zero_iff.1 (by omega)]; rfl]
                          exact HO4.out.keep (bdrew _)
                        have hb5 : Below w2.heap.size w2 w4.drew := bthen' hb04 (bdrew w4)
                        obtain ⟨g5, e5, _, hg52, hcell5, hfz5⟩ := HO5.out.someI (by rw [setManyI_len, List.length_append, List.length_singleton]; omega)
                        simp only [Option.some.injEq, Addr.mk.injEq] at e5
                        obtain ⟨rfl, _⟩ := e5
                        have c5 := hcell5 0 _ (List.getElem?_eq_getElem (by rw [setManyI_len, List.length_append, List.length_singleton]; omega))
                        have f5 := hfz5 0
                        generalize rvI ((setManyI (M ++ [nilRow]) (1) M)[0]'_) = u5 at c5
                        clear hcell5 hfz5
                        clear hkL
                        obtain rfl : M = [] := List.length_eq_zero_iff.1 (by omega)
                        have hcp := run_copy_none (P := Try.prog) w4.drew 26 26 3 47 (some ⟨g4, 0, none⟩) (some ⟨g4, 0, none⟩) 0 0 1 1 Try.underlying26 (by kernel_rfl) rfl
                        go_region_law (fail)
                        all_goals
                          go_wp2_with fail
                          refine ⟨⟨i + 1, some ⟨g4, 0, none⟩, 1, ((setManyI ([] ++ [nilRow]) (1) []).set 0 (pm x)), by omega, by go_num, by rw [List.length_set, setManyI_len, List.length_append, List.length_singleton] <;> rfl, HNew.out, HO5.out.setI (by rw [setManyI_len, List.length_append, List.length_singleton]; simp) _, hb5.setCell (p := ⟨g4, 0, none⟩) hg41 _⟩, by simp [intOf]; omega⟩
                      · have hcp := run_copy_cells (P := Try.prog) w4.drew 26 26 3 47 g4 (1) (M.length + 1 - (1)) (c4 - (1)) ⟨g4, 0, none⟩ (M.length + 1 - 0) (c4 - 0) (M.map rvI) Try.underlying26 (by kernel_rfl) (by simp only [List.length_map, Nat.min_def]; split <;> omega) (fun j v hv => by
                          rw [List.getElem?_map, Option.map_eq_some_iff] at hv
                          obtain ⟨z, hz, rfl⟩ := hv
                          have := HC4.out (j) z (by rw [List.getElem?_append_left (List.getElem?_eq_some_iff.1 hz).1]; exact hz)
                          rw [Addr.add_lit]
                          rw [Nat.zero_add]
                          exact this) (fun j hj => by
                          have hlt9 : 1 + j < (M ++ [nilRow]).length := by
                            rw [List.length_append, List.length_singleton]
                            simp only [List.length_map] at hj
                            omega
                          have := HC4.out (1 + j) _ (List.getElem?_eq_getElem hlt9)
                          exact Option.isSome_iff_exists.2 ⟨_, this⟩) (fun j _ => HF4.out _) (fun v hv => by
                          obtain ⟨z, _, rfl⟩ := List.mem_map.1 hv
                          rfl)
                        rw [show M.length + 1 - 1 = M.length by omega, Nat.sub_zero, Nat.sub_zero] at hcp
                        have HO5 : Hid (Own (w4.drew.setCells g4 (1) (M.map rvI)) w2.heap.size 47 1 rowI (some ⟨g4, 0, none⟩) c4 (setManyI (M ++ [nilRow]) (1) M)) := by
                          unfold Hid
                          exact Own.setManyI _ _ _ _ (HO4.out.keep (bdrew _)) (by rw [List.length_append, List.length_singleton]; omega)
                        have hb5 : Below w2.heap.size w2 (w4.drew.setCells g4 (1) (M.map rvI)) := (bthen' hb04 (bdrew w4)).trans (belowI_setCells hg41 _ _ _)
                        obtain ⟨g5, e5, _, hg52, hcell5, hfz5⟩ := HO5.out.someI (by rw [setManyI_len, List.length_append, List.length_singleton]; omega)
                        simp only [Option.some.injEq, Addr.mk.injEq] at e5
                        obtain ⟨rfl, _⟩ := e5
                        have c5 := hcell5 0 _ (List.getElem?_eq_getElem (by rw [setManyI_len, List.length_append, List.length_singleton]; omega))
                        have f5 := hfz5 0
                        generalize rvI ((setManyI (M ++ [nilRow]) (1) M)[0]'_) = u5 at c5
                        clear hcell5 hfz5
                        go_region_law (fail)
                        all_goals
                          go_wp2_with fail
                          refine ⟨⟨i + 1, some ⟨g4, 0, none⟩, c4, ((setManyI (M ++ [nilRow]) (1) M).set 0 (pm x)), by omega, by go_num, by rw [List.length_set, setManyI_len, List.length_append, List.length_singleton] <;> rfl, HNew.out, HO5.out.setI (by rw [setManyI_len, List.length_append, List.length_singleton]; omega) _, hb5.setCell (p := ⟨g4, 0, none⟩) hg41 _⟩, by simp [intOf]; omega⟩
                    · have hpk : 0 < k := by omega
                      have hLk : k - 1 < M.length := by omega
                      obtain ⟨g, rfl, hg1, hg2, hcell, _⟩ := hown.someI (by omega)
                      have hy : M[k - 1]? = some M[k - 1] := List.getElem?_eq_getElem hLk
                      have c1 := hcell (k - 1) _ hy
                      obtain ⟨y, hyL, ey⟩ := HF.out.row hy
                      rw [ey] at hy c1
                      change wr.cell? ⟨g, k - 1, none⟩ = some (.slice (some ⟨y.1, 0, none⟩) 2 2) at c1
                      obtain ⟨cy0, cy1⟩ := HOc.out wr y hbk hyL
                      have HYk := Lib.hid hy
                      have HYL := Lib.hid hyL
                      have HV : Hid (∀ z, M[k - 1]? = some (pm z) → z = y) := fun z h => by
                        rw [hy] at h
                        exact (pm_inj (Option.some.inj h)).symm
                      clear hcell hown hy hLk ey hyL
                      by_cases hvx : x.2.1 < y.2.1
                      · go_wp2_with fail
                        go_quiet (fail)
                        go_wp2_with fail
                        exact ⟨⟨k - 1, by omega, by congr 1; omega, fun z h => by rw [HV.out z h]; exact hvx, HO2.out.keep (below_drewN (Below.refl _ _) _), below_drewN hbk _⟩, by simp [intOf]; omega⟩
                      · by_cases heq : y.2.1 = x.2.1
                        · have hbe : (y.2.1 == x.2.1) = true := by simp [heq]
                          have HF1 := Lib.hid (HF.out.there HX.out HYk.out heq)
                          clear heq
                          go_wp2_with fail
                          go_quiet (fail)
                          go_wp2_with fail
                          go_quiet (fail)
                          go_wp2_with fail
                          exact ⟨⟨i + 1, _, c', M, by omega, by go_num, rfl, HF1.out, HO2.out.keep (below_drewN (Below.refl _ _) _), below_drewN hbk _⟩, by simp [intOf]; omega⟩
                        · have hbe : (y.2.1 == x.2.1) = false := by simp [heq]
                          have HStop : Hid (∀ z, 0 < k → M[k - 1]? = some (pm z) → z.2.1 < x.2.1) := fun z _ h => by
                            rw [HV.out z h]
                            omega
                          clear heq
                          go_wp2_with fail
                          have hdr : ∀ m, Below wr.heap.size wr (wr.drewN m) := fun m => below_drewN (Below.refl _ _) _
                          go_quiet (fail)
                          have HO3 := Lib.hid (HO2.out.keep (hdr nq))
                          have hb3 := bthen' hbk (hdr nq)
                          have cx0 := (HXc.out _ hb3).1
                          have c1 := ((hdr nq).cell (p := ⟨g, k - 1, none⟩) hg2).trans c1
                          have cy0 := (HOc.out _ y hb3 HYL.out).1
                          clear HO2 hbk hdr
                          generalize wr.drewN nq = wr at HO3 hb3 cx0 c1 cy0 ⊢
                          have HO2 := HO3
                          have hbk := hb3
                          clear HO3 hb3
                          go_wp2_with fail
                          have hdr : ∀ m, Below wr.heap.size wr (wr.drewN m) := fun m => below_drewN (Below.refl _ _) _
                          go_quiet (fail)
                          have HO3 := Lib.hid (HO2.out.keep (hdr nq))
                          have hb3 := bthen' hbk (hdr nq)
                          have cx0 := (HXc.out _ hb3).1
                          have cx1 := (HXc.out _ hb3).2
                          generalize wr.drewN nq = w3 at HO3 hb3 cx0 cx1 ⊢
                          have hbase : w2.heap.size ≤ w3.heap.size := hb3.size
                          go_wp2_with (at_builtin; refine wpList_append_el rfl _ _ _ rfl w2.heap.size 47 (.slice none 0 0) 1 24 Try.underlying26 infoRowI rfl (by omega) (by omega) rowI M nilRow (some ⟨g, 0, none⟩) c' rfl (HO3.out.keep (balloc _ _)) w3.heap.size _ rfl rfl (one_cell (v := .slice none 0 0) (by go_simp)) (by simp [rowI, nilRow]; rfl) (by omega) (by simp; omega) ?_)
                          intro A4 c4 w4 hown4 _ hb4
                          obtain ⟨g4, rfl, hg41, hg42, hcell4, hfz4⟩ := hown4.someI (by simp)
                          have hcap4 := hown4.cap
                          rw [List.length_append, List.length_singleton] at hcap4
                          have HO4 := Lib.hid hown4
                          have hb04 : Below w2.heap.size w2 w4 := (hb3.alloc hbase _).trans hb4
                          have HC4 := Lib.hid hcell4
                          have HF4 := Lib.hid hfz4
                          clear hown4 hcell4 hfz4 cx0 cx1
                          go_upto_region 28 with (fail)
                          have hw1 : IntKind.i64.wrap ((k : Int) + 1) = (k : Int) + 1 := IntWalk.i64_in _ (by omega)
                          have ht1 : ((k : Int) + 1).toNat = k + 1 := by omega
                          have hb1 : 0 ≤ (k : Int) + 1 := by omega
                          have hb2 : (k : Int) + 1 ≤ (M.length : Int) + 1 := by omega
                          have hb3i : (k : Int) ≤ (M.length : Int) + 1 := by omega
                          have hck : ¬ c4 = k := by omega
                          have HNew : Hid (FrontOk Lp (i + 1) ((setManyI (M ++ [nilRow]) (k + 1) (M.drop k)).set k (pm x))) := by
                            unfold Hid
                            rw [pushI_at (by omega)]
                            exact HF.out.put HX.out Hgood.out (by omega) HStop.out Hg.out
                          by_cases hc1 : c4 = k + 1
                          · have hkL : k = M.length := by omega
                            subst hc1
                            have HO5 : Hid (Own w4.drew w2.heap.size 47 1 rowI (some ⟨g4, 0, none⟩) (k + 1) (setManyI (M ++ [nilRow]) (k + 1) (M.drop k))) := by
                              unfold Hid
                              rw [show setManyI (M ++ [nilRow]) (k + 1) (M.drop k) = M ++ [nilRow] from by rw [show (M.drop k) = [] from List.drop_eq_nil_of_le (by omega)]; rfl]
                              exact HO4.out.keep (bdrew _)
                            have hb5 : Below w2.heap.size w2 w4.drew := bthen' hb04 (bdrew w4)
                            obtain ⟨g5, e5, _, hg52, hcell5, hfz5⟩ := HO5.out.someI (by rw [setManyI_len, List.length_append, List.length_singleton]; omega)
                            simp only [Option.some.injEq, Addr.mk.injEq] at e5
                            obtain ⟨rfl, _⟩ := e5
                            have c5 := hcell5 k _ (List.getElem?_eq_getElem (by rw [setManyI_len, List.length_append, List.length_singleton]; omega))
                            have f5 := hfz5 k
                            generalize rvI ((setManyI (M ++ [nilRow]) (k + 1) (M.drop k))[k]'_) = u5 at c5
                            clear hcell5 hfz5
                            have hcp := run_copy_none (P := Try.prog) w4.drew 26 26 3 47 (some ⟨g4, 0, none⟩) (some ⟨g4, M.length, none⟩) 0 0 1 1 Try.underlying26 (by kernel_rfl) rfl
                            have e1 : M.length + 1 - M.length = 1 := by omega
                            subst hkL
                            go_region_law (fail)
                            all_goals
                              go_wp2_with fail
                              refine ⟨⟨i + 1, some ⟨g4, 0, none⟩, (M.length + 1), ((setManyI (M ++ [nilRow]) (M.length + 1) (M.drop M.length)).set M.length (pm x)), by omega, by go_num, by rw [List.length_set, setManyI_len, List.length_append, List.length_singleton] <;> rfl, HNew.out, HO5.out.setI (by rw [setManyI_len, List.length_append, List.length_singleton]; omega) _, hb5.setCell (p := ⟨g4, M.length, none⟩) hg41 _⟩, by simp [intOf]; omega⟩
                          · have hcp := run_copy_cells (P := Try.prog) w4.drew 26 26 3 47 g4 (k + 1) (M.length + 1 - (k + 1)) (c4 - (k + 1)) ⟨g4, k, none⟩ (M.length + 1 - k) (c4 - k) ((M.map rvI).drop k) Try.underlying26 (by kernel_rfl) (by simp only [List.length_map, List.length_drop, Nat.min_def]; split <;> omega) (fun j v hv => by
                              rw [← List.map_drop] at hv
                              rw [List.getElem?_map, Option.map_eq_some_iff] at hv
                              obtain ⟨z, hz, rfl⟩ := hv
                              rw [List.getElem?_drop] at hz
                              have := HC4.out (k + j) z (by rw [List.getElem?_append_left (List.getElem?_eq_some_iff.1 hz).1]; exact hz)
                              rw [Addr.add_lit]
                              exact this) (fun j hj => by
                              have hlt9 : k + 1 + j < (M ++ [nilRow]).length := by
                                rw [List.length_append, List.length_singleton]
                                simp only [List.length_map, List.length_drop] at hj
                                omega
                              have := HC4.out (k + 1 + j) _ (List.getElem?_eq_getElem hlt9)
                              exact Option.isSome_iff_exists.2 ⟨_, this⟩) (fun j _ => HF4.out _) (fun v hv => by
                              obtain ⟨z, _, rfl⟩ := List.mem_map.1 (List.mem_of_mem_drop hv)
                              rfl)
                            rw [show M.length + 1 - (k + 1) = M.length - k by omega] at hcp
                            have HO5 : Hid (Own (w4.drew.setCells g4 (k + 1) ((M.map rvI).drop k)) w2.heap.size 47 1 rowI (some ⟨g4, 0, none⟩) c4 (setManyI (M ++ [nilRow]) (k + 1) (M.drop k))) := by
                              unfold Hid
                              rw [← List.map_drop]
                              exact Own.setManyI _ _ _ _ (HO4.out.keep (bdrew _)) (by rw [List.length_drop, List.length_append, List.length_singleton]; omega)
                            have hb5 : Below w2.heap.size w2 (w4.drew.setCells g4 (k + 1) ((M.map rvI).drop k)) := (bthen' hb04 (bdrew w4)).trans (belowI_setCells hg41 _ _ _)
                            obtain ⟨g5, e5, _, hg52, hcell5, hfz5⟩ := HO5.out.someI (by rw [setManyI_len, List.length_append, List.length_singleton]; omega)
                            simp only [Option.some.injEq, Addr.mk.injEq] at e5
                            obtain ⟨rfl, _⟩ := e5
                            have c5 := hcell5 k _ (List.getElem?_eq_getElem (by rw [setManyI_len, List.length_append, List.length_singleton]; omega))
                            have f5 := hfz5 k
                            generalize rvI ((setManyI (M ++ [nilRow]) (k + 1) (M.drop k))[k]'_) = u5 at c5
                            clear hcell5 hfz5
                            go_region_law (fail)
                            all_goals
                              go_wp2_with fail
                              refine ⟨⟨i + 1, some ⟨g4, 0, none⟩, c4, ((setManyI (M ++ [nilRow]) (k + 1) (M.drop k)).set k (pm x)), by omega, by go_num, by rw [List.length_set, setManyI_len, List.length_append, List.length_singleton] <;> rfl, HNew.out, HO5.out.setI (by rw [setManyI_len, List.length_append, List.length_singleton]; omega) _, hb5.setCell (p := ⟨g4, k, none⟩) hg41 _⟩, by simp [intOf]; omega⟩
          · obtain rfl : i = P := by omega
            have HFl := Lib.hid (HO.out.flat rowI_l)
            have HCp := Lib.hid HO.out.cap
            have hs2 := hbw2.size
            obtain ⟨hR1, hR2⟩ := HFin.out wr A' M HF.out hb (HFl.out.mono hs2 (Nat.le_refl _))
            have HR1 := Lib.hid hR1
            have HR2 := Lib.hid hR2
            clear hR1 hR2 HFin HF
            go_wp2_with fail
            go_ret2
            exact ⟨A', c', by rw [HR2.out]; rfl, HR1.out, by rw [HR2.out]; exact HCp.out, bthen hbw2 hb⟩
  · have HR : Hid (frontR vs js = ([], 1)) := by unfold Hid frontR; rw [if_neg hb]
    have hb' : bothB vs js = false := by simpa using hb
    rw [hb'] at hBo
    have HBo := Lib.hid hBo; clear hBo hb hb' hs hm2
    generalize frontR vs js = R at HR ⊢
    go_enter Try.func10, Try.ntmps10
    go_wp2_with fail
    refine HBo.out.mono ?_
    rintro e w1 ⟨rfl, hb1⟩
    go_wp2_with fail
    go_ret2
    exact ⟨none, 0, by rw [HR.out]; rfl, by rw [HR.out]; exact FlatI.nil, by rw [HR.out]; exact Nat.le_refl _, hb1⟩

end Go.Proofs.Ytioblfbhjkkgoaa

namespace Go.Proofs.Ytioblfbhjkkgoaa
set_option maxRecDepth 100000
open Go.RowKit

theorem rdI_drop {w : World} {B b o : Nat} {xs : List RowI} (h : Rd w B 1 rowI (some ⟨b, o, none⟩) xs) (k : Nat) : Rd w B 1 rowI (some ⟨b, o + k, none⟩) (xs.drop k) := fun hx => by
  rw [List.length_drop] at hx
  obtain ⟨b1, o1, e, hb, hc⟩ := h (by omega)
  simp only [Option.some.injEq, Addr.mk.injEq] at e
  obtain ⟨rfl, rfl, _⟩ := e
  refine ⟨b, o + k, rfl, hb, fun j x hj i v hi => ?_⟩
  rw [List.getElem?_drop] at hj
  have := hc (k + j) x hj i v hi
  rw [show o + k + j * 1 + i = o + (k + j) * 1 + i by omega]
  exact this
theorem Rd.takeI {w : World} {B : Nat} {A : Option Addr} {xs : List RowI} (h : Rd w B 1 rowI A xs) (k : Nat) : Rd w B 1 rowI A (xs.take k) := fun hx => by
  rw [List.length_take] at hx
  obtain ⟨b, o, e, hb, hc⟩ := h (by omega)
  refine ⟨b, o, e, hb, fun j x hj i v hi => hc j x ?_ i v hi⟩
  rw [List.getElem?_take] at hj
  split at hj
  · exact hj
  · exact absurd hj (by simp)

set_option maxHeartbeats 8000000 in
theorem Frontier_spec (LA JA : Option Addr) (lc jc : Nat) (vs : List PartT) (js : List JointT) (w : World) (hr : RdV w w.heap.size LA vs) (hr2 : Rd w w.heap.size 3 jointC JA js) (hs : SmallV vs) (hm2 : js.length ≤ 1048576) :
    Calls Try.prog 7 #[.slice LA vs.length lc, .slice JA js.length jc] w (GivesI w (frontR vs js)) := by
  have hCo := l18Code_any LA JA lc jc vs js w hr hr2 hs hm2
  by_cases hb : bothB vs js = true
  · rw [bothI_yes hb] at hCo
    have HCo := Lib.hid hCo; clear hCo
    have HA : Hid (∀ v : World, RdV v v.heap.size LA vs → Rd v v.heap.size 3 jointC JA js → Calls Try.prog 25 #[.slice LA vs.length lc, .slice JA js.length jc] v (GivesAllS v (allB vs js))) := fun v h1 h2 => l18All_any LA JA lc jc vs js v h1 h2 hs hb
    have HPs : Hid (∀ (v : World) (r : RowM), RdV v v.heap.size LA vs → Rd v v.heap.size 1 tC r.A r.bs → Codes vs r.bs → Calls Try.prog 26 #[.slice LA vs.length lc, .slice r.A r.bs.length r.c] v fun e w' => e = .returned (.int .i64 (priceB vs r.bs)) ∧ Below v.heap.size v w') := fun v r h1 h2 h3 => l17Price_any LA r.A lc r.c vs r.bs v h1 h2 hs h3
    have HGs : Hid (∀ (v : World) (r : RowM), RdV v v.heap.size LA vs → Rd v v.heap.size 1 tC r.A r.bs → Codes vs r.bs → Calls Try.prog 27 #[.slice LA vs.length lc, .slice r.A r.bs.length r.c] v fun e w' => e = .returned (.int .i64 (gramsB vs r.bs)) ∧ Below v.heap.size v w') := fun v r h1 h2 h3 => l17Grams_any LA r.A lc r.c vs r.bs v h1 h2 hs h3
    have HCc : Hid (∀ b ∈ allB vs js, Codes vs b) := fun b hbm => founds_codes (bothB_true hb).1 hbm
    have hal := allB_len js (bothB_true hb).1
    have HR : Hid (frontR vs js = ((frontP (pairsB vs js) (pairsB vs js)).map rowOfP, 0)) := by unfold Hid frontR; rw [if_pos hb]
    rw [HR.out]
    clear HR hs hb hm2
    go_enter Try.func7, Try.ntmps7
    go_wp2_with fail
    refine HCo.out.mono ?_
    rintro e w0 ⟨rfl, hb1⟩
    go_wp2_with fail
    refine (HA.out w0 (hr.next hb1) (hr2.next hb1)).mono ?_
    rintro e w1 ⟨A, c, ms, rfl, hms, fms, rms, hb2⟩
    have hb12 := bthen hb1 hb2
    have HMS := Lib.hid hms
    have hml : ms.length ≤ 131071 := by
      rw [← List.length_map (f := RowM.bs), hms]
      exact hal
    have HF := Lib.hid fms
    have HRs := Lib.hid rms
    clear hms fms rms hal HA HCo hr2
    have Hr := Lib.hid (hr.next hb12); clear hr
    have HO0 : Hid (Own (w1.alloc (.cells #[] 47)) w1.heap.size 47 1 rowI (some ⟨w1.heap.size, 0, none⟩) 0 ([] : List RowI)) := Own.made _ (Nat.le_refl _) rfl
    go_wp2_with fail
    go_loopw [8, 9] (fun o1 z wr => ∃ (n : Nat) (pA : Option Addr) (pc : Nat) (M : List RowI), n ≤ ms.length ∧ z = .int .i64 n ∧ o1 = .slice pA M.length pc ∧ M.length ≤ n ∧ Hid (M.length = n) ∧ Hid (∃ L : List (Nat × (Int × Int)), M = L.map pm ∧ L.map Prod.snd = ((allB vs js).take n).map (pairOf vs) ∧ Pairs wr w1.heap.size L) ∧ Own wr w1.heap.size 47 1 rowI pA pc M ∧ Below w1.heap.size w1 wr) (fun _ z _ => ms.length - (intOf z).toNat)
    case atStart => exact ⟨0, _, 0, [], Nat.zero_le _, rfl, rfl, Nat.le_refl _, rfl, ⟨[], rfl, by simp, Pairs.nil⟩, HO0.out, balloc w1 _⟩
    case round =>
      obtain ⟨n, pA, pc, M, hn, rfl, rfl, hMl, HMn, HL, hown, hb⟩ := hrel
      have HO := Lib.hid hown; clear hown
      by_cases hlt : n < ms.length
      · have hx : ms[n]? = some ms[n] := List.getElem?_eq_getElem hlt
        obtain ⟨g, rfl⟩ := HF.out.some (by omega)
        have HQ : Hid (∀ v : World, Below wr.heap.size wr v → v.cell? ⟨g, n, none⟩ = some (.slice (ms[n]).A (ms[n]).bs.length (ms[n]).c)) := fun v hv => (HF.out.below (bthen hb hv) (Nat.le_refl _)).cell1 hx rfl
        have hrow := HRs.out ms[n] (List.mem_of_getElem? hx)
        have hxa : (allB vs js)[n]? = some (ms[n]).bs := by
          rw [← HMS.out, List.getElem?_map, hx]
          rfl
        generalize ms[n] = y at hx HQ hrow hxa
        have hcy := HCc.out y.bs (List.mem_of_getElem? hxa)
        have HPy : Hid (∀ v : World, Below wr.heap.size wr v → Calls Try.prog 26 #[.slice LA vs.length lc, .slice y.A y.bs.length y.c] v fun e w' => e = .returned (.int .i64 (priceB vs y.bs)) ∧ Below v.heap.size v w') := fun v hv => HPs.out v y (Hr.out.next (bthen hb hv)) ((hrow.1.rd.below (bthen hb hv)).more (bthen hb hv).size) hcy
        have HGy : Hid (∀ v : World, Below wr.heap.size wr v → Calls Try.prog 27 #[.slice LA vs.length lc, .slice y.A y.bs.length y.c] v fun e w' => e = .returned (.int .i64 (gramsB vs y.bs)) ∧ Below v.heap.size v w') := fun v hv => HGs.out v y (Hr.out.next (bthen hb hv)) ((hrow.1.rd.below (bthen hb hv)).more (bthen hb hv).size) hcy
        have HNx : Hid (((allB vs js).take (n + 1)).map (pairOf vs) = ((allB vs js).take n).map (pairOf vs) ++ [(priceB vs y.bs, gramsB vs y.bs)]) := by
          unfold Hid
          rw [List.take_add_one, hxa, List.map_append]
          rfl
        have q0 := HQ.out wr (Below.refl _ _)
        clear hx hcy hxa hrow
        generalize priceB vs y.bs = p at HPy HNx
        generalize gramsB vs y.bs = q at HGy HNx
        have HStep : Hid (∀ (w4 w6 : World) (A4 : Option Addr) (c4 : Nat), Below wr.heap.size wr w4 → Own w6 w1.heap.size 47 1 rowI A4 c4 (M ++ [pm (w4.heap.size, p, q)]) → Below w1.heap.size ((w4.alloc (.cells #[.int .i64 p, .int .i64 q] 2)).alloc (.cells #[.slice (some ⟨w4.heap.size, 0, none⟩) 2 2] 47)) w6 → (∀ g, g < ((w4.alloc (.cells #[.int .i64 p, .int .i64 q] 2)).alloc (.cells #[.slice (some ⟨w4.heap.size, 0, none⟩) 2 2] 47)).heap.size → Apart pA g → Apart A4 g ∧ w6.heap[g]? = ((w4.alloc (.cells #[.int .i64 p, .int .i64 q] 2)).alloc (.cells #[.slice (some ⟨w4.heap.size, 0, none⟩) 2 2] 47)).heap[g]?) → (∃ L : List (Nat × (Int × Int)), M ++ [pm (w4.heap.size, p, q)] = L.map pm ∧ L.map Prod.snd = ((allB vs js).take (n + 1)).map (pairOf vs) ∧ Pairs w6 w1.heap.size L) ∧ Below w1.heap.size w1 w6) := fun w4 w6 A4 c4 h1 h2 h3 h4 => by
          obtain ⟨L, e1, e2, e3⟩ := HL.out
          have hbn := bthen hb h1
          have hbase : w1.heap.size ≤ w4.heap.size := hbn.size
          have hO4 := HO.out.keep h1
          refine ⟨⟨L ++ [(w4.heap.size, p, q)], by rw [e1]; simp, by rw [HNx.out, ← e2]; simp, ?_⟩, ((hbn.alloc hbase _).alloc (by simp; omega) _).trans h3⟩
          have k1 : Pairs (w4.alloc (.cells #[.int .i64 p, .int .i64 q] 2)) w1.heap.size (L ++ [(w4.heap.size, p, q)]) := ((e3.next h1).next (balloc _ _)).snoc (pair_made w4 w1.heap.size p q hbase)
          have k2 := k1.next (balloc _ (.cells #[.slice (some ⟨w4.heap.size, 0, none⟩) 2 2] 47))
          exact k2.far ((hO4.keep (balloc _ _)).keep (balloc _ _)) (by decide) h3.size h4
        have hbase : w1.heap.size ≤ wr.heap.size := hb.size
        go_wp2_with fail
        go_region_law (first
          | (go_simp; go_at_call 26; refine (HPy.out wr.drew (bdrew wr)).mono ?_; rintro e w3 ⟨rfl, hb3⟩; have hB3 : Below wr.heap.size wr w3 := bthen' (bdrew wr) hb3; have q3 := HQ.out w3 hB3; clear hb3; go_wp2_with fail)
          | (go_simp; go_at_call 27; refine (HGy.out w3 hB3).mono ?_; rintro e w4 ⟨rfl, hb4⟩; have hB4 : Below wr.heap.size wr w4 := bthen hB3 hb4; have q4 := HQ.out w4 hB4; clear hb4; go_wp2_with fail)
          | (refine step_append_el (by rfl) _ _ _ (by rfl) w1.heap.size 47 (.slice none 0 0) 1 24 Try.underlying26 infoRowI rfl (by omega) (by omega) rowI M (pm (w4.heap.size, p, q)) pA pc (by rfl) (((HO.out.keep hB4).keep (balloc _ _)).keep (balloc _ _)) (w4.heap.size + 1) _ (by rfl) (by simp) rowI_l (one_cell (v := .slice (some ⟨w4.heap.size, 0, none⟩) 2 2) (by go_simp)) rowI_one (by omega) (by have := hB4.size; simp; omega) ?_; rintro A6 c6 w6 hown6 hb6 hfar6; have hSt := Lib.hid (HStep.out w4 w6 A6 c6 hB4 hown6 hb6 (fun g hg => hfar6 g (by simpa using hg))); have HO6 := Lib.hid hown6; clear hown6 hb6 hfar6))
        all_goals
          go_wp2_with fail
          exact ⟨⟨n + 1, A6, c6, M ++ [pm (w4.heap.size, p, q)], by omega, by go_num, by simp, by simp; omega, (by have := HMn.out; unfold Hid; simp; omega), hSt.out.1, HO6.out, hSt.out.2⟩, by simp [intOf]; omega⟩
      · obtain rfl : n = ms.length := by omega
        obtain ⟨Lp, hMe, hL2, hPr⟩ := HL.out
        have hps : Lp.map Prod.snd = pairsB vs js := by
          rw [hL2, List.take_of_length_le (by rw [← HMS.out, List.length_map]; exact Nat.le_refl _)]
          rfl
        have hLn : Lp.length = M.length := by rw [hMe, List.length_map]
        have hMm := HMn.out
        have hbw2 := bthen hb12 hb
        have hsz := hb12.size
        have hfl : Flat wr w1.heap.size wr.heap.size 47 1 rowI pA M := HO.out.flat rowI_l
        have HLn := Lib.hid hLn
        have HFin : Hid (∀ (v : World) (A3 : Option Addr) (M3 : List RowI), FrontOk Lp M.length M3 → Below wr.heap.size wr v → Flat v w.heap.size v.heap.size 47 1 rowI A3 M3 → FlatI v w.heap.size v.heap.size A3 ((frontP (pairsB vs js) (pairsB vs js)).map rowOfP) ∧ ((frontP (pairsB vs js) (pairsB vs js)).map rowOfP).length = M3.length) := fun v A3 M3 h1 h2 h3 => by
          have hP2 : Pairs v w.heap.size Lp := fun x hx => ((hPr.next h2) x hx).mono hsz (Nat.le_refl _)
          have h4 := h1.flat hP2 h3
          have hlen := h1
          obtain ⟨L, rfl, e1, _⟩ := hlen
          rw [hps, List.take_of_length_le (by rw [← hps, List.length_map, hLn]; exact Nat.le_refl _)] at h4 e1
          refine ⟨h4, ?_⟩
          rw [← e1]
          simp
        have HPc : Hid (∀ (v : World) (j : Nat) (x : Nat × (Int × Int)), Below wr.heap.size wr v → Lp[j]? = some x → ∃ pg, pA = some ⟨pg, 0, none⟩ ∧ v.cell? ⟨pg, j, none⟩ = some (.slice (some ⟨x.1, 0, none⟩) 2 2)) := fun v j x h1 h2 => by
          have hj : M[j]? = some (pm x) := by rw [hMe, List.getElem?_map, h2]; rfl
          obtain ⟨pg, rfl⟩ := hfl.some (by have := (List.getElem?_eq_some_iff.1 hj).1; omega)
          exact ⟨pg, rfl, (hfl.below h1 (Nat.le_refl _)).cell1 hj rfl⟩
        have HOc : Hid (∀ (v : World) (x : Nat × (Int × Int)), Below wr.heap.size wr v → x ∈ Lp → v.cell? ⟨x.1, 0, none⟩ = some (.int .i64 x.2.1) ∧ v.cell? ⟨x.1, 1, none⟩ = some (.int .i64 x.2.2)) := fun v x h1 h2 => (hPr.next h1).cells h2
        have hMl : M.length ≤ 131071 := by have := HMn.out; omega
        clear hMm HMn hfl hPr hps hL2 hMe HL HO HPs HGs hLn HCc HMS HRs HF Hr hb hb12
        generalize M.length = P at HLn HFin hMl ⊢
        obtain ⟨wb, rfl⟩ : ∃ wb, wb = wr := ⟨_, rfl⟩
        have HO0 : Hid (Own (wb.alloc (.cells #[] 47)) wb.heap.size 47 1 rowI (some ⟨wb.heap.size, 0, none⟩) 0 ([] : List RowI)) := Own.made _ (Nat.le_refl _) rfl
        go_wp2_with fail
        go_loopw [10, 11] (fun out z wr => ∃ (i g c' : Nat) (M : List RowI), i ≤ P ∧ z = .int .i64 i ∧ out = .slice (some ⟨g, 0, none⟩) M.length c' ∧ Hid (FrontOk Lp i M) ∧ Own wr wb.heap.size 47 1 rowI (some ⟨g, 0, none⟩) c' M ∧ wb.heap.size ≤ g ∧ g < wr.heap.size ∧ Below wb.heap.size wb wr) (fun _ z _ => P - (intOf z).toNat)
        case atStart => exact ⟨0, wb.heap.size, 0, [], Nat.zero_le _, rfl, rfl, FrontOk.zero, HO0.out, Nat.le_refl _, by simp, balloc wb _⟩
        case round =>
          obtain ⟨i, g, c', M, hi, rfl, rfl, HF, hown, hgl, hgu, hb⟩ := hrel
          have HO := Lib.hid hown; clear hown
          have hMi := HF.out.len
          by_cases hlt : i < P
          · have hx : Lp[i]? = some (Lp[i]'(by have := HLn.out; omega)) := List.getElem?_eq_getElem _
            generalize Lp[i]'_ = x at hx
            have HX := Lib.hid hx; clear hx
            obtain ⟨pg, rfl, q0⟩ := HPc.out wr i x hb HX.out
            have HPd : Hid (∀ (v : World) (j : Nat) (y : Nat × (Int × Int)), Below wb.heap.size wb v → Lp[j]? = some y → v.cell? ⟨pg, j, none⟩ = some (.slice (some ⟨y.1, 0, none⟩) 2 2)) := fun v j y h1 h2 => by
              obtain ⟨pg', e, h⟩ := HPc.out v j y h1 h2
              simp only [Option.some.injEq, Addr.mk.injEq] at e
              rw [e.1]
              exact h
            have HXc : Hid (∀ v : World, Below wb.heap.size wb v → v.cell? ⟨x.1, 0, none⟩ = some (.int .i64 x.2.1) ∧ v.cell? ⟨x.1, 1, none⟩ = some (.int .i64 x.2.2)) := fun v h1 => HOc.out v x h1 (List.mem_of_getElem? HX.out)
            obtain ⟨wo, rfl⟩ : ∃ wo, wo = wr := ⟨_, rfl⟩
            go_wp2_with fail
            go_loopw [12, 14] (fun bo z wr => ∃ (j : Nat) (gt : Bool), j ≤ P ∧ z = .int .i64 j ∧ bo = .bool gt ∧ Hid (beatTo (Lp.map Prod.snd) x.2 j = !gt) ∧ Below wo.heap.size wo wr) (fun _ z _ => P - (intOf z).toNat)
            case atStart => exact ⟨0, true, Nat.zero_le _, rfl, rfl, beatTo_zero _ _, Below.refl _ _⟩
            case round =>
              obtain ⟨j, gt, hj, rfl, rfl, Hbt, hbj⟩ := hrel
              have hbk := bthen' hb hbj
              by_cases hlt2 : j < P
              · have hy : Lp[j]? = some (Lp[j]'(by have := HLn.out; omega)) := List.getElem?_eq_getElem _
                generalize Lp[j]'_ = y at hy
                have HY := Lib.hid hy; clear hy
                have q1 := HPd.out wr j y hbk HY.out
                have q2 := HPd.out wr i x hbk HX.out
                obtain ⟨cx0, cx1⟩ := HXc.out wr hbk
                obtain ⟨cy0, cy1⟩ := HOc.out wr y hbk (List.mem_of_getElem? HY.out)
                have HBs : Hid (beatTo (Lp.map Prod.snd) x.2 (j + 1) = (beatTo (Lp.map Prod.snd) x.2 j || beatsP y.2 x.2)) := beatTo_succ (by rw [List.getElem?_map, HY.out]; rfl)
                by_cases h1 : y.2.1 < x.2.1
                · by_cases h2 : y.2.2 ≤ x.2.2
                  · have HB1 : Hid (beatTo (Lp.map Prod.snd) x.2 (j + 1) = !false) := by
                      unfold Hid
                      rw [HBs.out, beats_yes (by omega), Bool.or_true] <;> rfl
                    go_wp2_with fail
                    go_quiet (fail)
                    go_wp2_with fail
                    have dh1 : decide (y.2.1 < x.2.1) = true := by simp; omega
                    have dh2 : decide (y.2.2 ≤ x.2.2) = true := by simp; omega
                    go_quiet (fail)
                    go_wp2_with fail
                    exact ⟨⟨j + 1, false, by omega, by go_num, rfl, HB1.out, below_drewN hbj _⟩, by simp [intOf]; omega⟩
                  · have h3 : ¬ y.2.2 < x.2.2 := by omega
                    have HB1 : Hid (beatTo (Lp.map Prod.snd) x.2 (j + 1) = !gt) := by
                      unfold Hid
                      rw [HBs.out, beats_no (by omega), Bool.or_false, Hbt.out] <;> rfl
                    go_wp2_with fail
                    go_quiet (fail)
                    go_wp2_with fail
                    have dh1 : decide (y.2.1 < x.2.1) = true := by simp; omega
                    have dh2 : decide (y.2.2 ≤ x.2.2) = false := by simp; omega
                    have dh3 : decide (y.2.2 < x.2.2) = false := by simp; omega
                    go_quiet (fail)
                    go_wp2_with fail
                    exact ⟨⟨j + 1, gt, by omega, by go_num, rfl, HB1.out, below_drewN hbj _⟩, by simp [intOf]; omega⟩
                · by_cases h3 : y.2.2 < x.2.2
                  · by_cases h4 : y.2.1 ≤ x.2.1
                    · have HB1 : Hid (beatTo (Lp.map Prod.snd) x.2 (j + 1) = !false) := by
                        unfold Hid
                        rw [HBs.out, beats_yes (by omega), Bool.or_true] <;> rfl
                      go_wp2_with fail
                      go_quiet (fail)
                      go_wp2_with fail
                      have dh1 : decide (y.2.1 < x.2.1) = false := by simp; omega
                      have dh3 : decide (y.2.2 < x.2.2) = true := by simp; omega
                      have dh4 : decide (y.2.1 ≤ x.2.1) = true := by simp; omega
                      go_quiet (fail)
                      go_wp2_with fail
                      exact ⟨⟨j + 1, false, by omega, by go_num, rfl, HB1.out, below_drewN hbj _⟩, by simp [intOf]; omega⟩
                    · have HB1 : Hid (beatTo (Lp.map Prod.snd) x.2 (j + 1) = !gt) := by
                        unfold Hid
                        rw [HBs.out, beats_no (by omega), Bool.or_false, Hbt.out] <;> rfl
                      go_wp2_with fail
                      go_quiet (fail)
                      go_wp2_with fail
                      have dh1 : decide (y.2.1 < x.2.1) = false := by simp; omega
                      have dh3 : decide (y.2.2 < x.2.2) = true := by simp; omega
                      have dh4 : decide (y.2.1 ≤ x.2.1) = false := by simp; omega
                      go_quiet (fail)
                      go_wp2_with fail
                      exact ⟨⟨j + 1, gt, by omega, by go_num, rfl, HB1.out, below_drewN hbj _⟩, by simp [intOf]; omega⟩
                  · have HB1 : Hid (beatTo (Lp.map Prod.snd) x.2 (j + 1) = !gt) := by
                      unfold Hid
                      rw [HBs.out, beats_no (by omega), Bool.or_false, Hbt.out] <;> rfl
                    go_wp2_with fail
                    go_quiet (fail)
                    go_wp2_with fail
                    have dh1 : decide (y.2.1 < x.2.1) = false := by simp; omega
                    have dh3 : decide (y.2.2 < x.2.2) = false := by simp; omega
                    go_quiet (fail)
                    go_wp2_with fail
                    exact ⟨⟨j + 1, gt, by omega, by go_num, rfl, HB1.out, below_drewN hbj _⟩, by simp [intOf]; omega⟩
              · obtain rfl : j = P := by omega
                have HG : Hid (goodP (Lp.map Prod.snd) x.2 = gt) := by
                  unfold Hid
                  rw [beatTo_all (j := j) (by rw [List.length_map, HLn.out]; exact Nat.le_refl _), Hbt.out, Bool.not_not]
                have HO1 := Lib.hid (HO.out.keep hbj)
                have hgu1 := Nat.lt_of_lt_of_le hgu hbj.size
                clear HO Hbt hbj
                have HO := HO1
                cases gt with
                | false =>
                  go_wp2_with fail
                  go_loopw [13] (fun z wr => ∃ k : Nat, k ≤ M.length ∧ z = .int .i64 k ∧ Hid (∀ y, 0 < k → M[k - 1]? = some (pm y) → y.2.1 < x.2.1) ∧ Own wr wb.heap.size 47 1 rowI (some ⟨g, 0, none⟩) c' M ∧ g < wr.heap.size ∧ Below wb.heap.size wb wr) (fun z _ => M.length - (intOf z).toNat)
                  case atStart => exact ⟨0, Nat.zero_le _, rfl, (fun y h => absurd h (by omega)), HO1.out, hgu1, hbk⟩
                  case round =>
                    obtain ⟨k, hk, rfl, Hg, hown, hgr, hbk⟩ := hrel
                    have HO2 := Lib.hid hown
                    obtain ⟨cx0, cx1⟩ := HXc.out wr hbk
                    have q0 := HPd.out wr i x hbk HX.out
                    by_cases hkl : k < M.length
                    · have hy : M[k]? = some M[k] := List.getElem?_eq_getElem hkl
                      have c1 := (hown.flat rowI_l).cell1 hy rfl
                      obtain ⟨y, hyL, ey⟩ := HF.out.row hy
                      rw [ey] at hy c1
                      change wr.cell? ⟨g, k, none⟩ = some (.slice (some ⟨y.1, 0, none⟩) 2 2) at c1
                      obtain ⟨cy0, cy1⟩ := HOc.out wr y hbk hyL
                      have HYk := Lib.hid hy
                      have HYL := Lib.hid hyL
                      have HV : Hid (∀ z, M[k]? = some (pm z) → z = y) := fun z h => by
                        rw [hy] at h
                        exact (pm_inj (Option.some.inj h)).symm
                      clear hown hy ey hyL
                      by_cases hvx : y.2.1 < x.2.1
                      · go_wp2_with fail
                        go_quiet (fail)
                        go_wp2_with fail
                        exact ⟨⟨k + 1, by omega, by go_num, fun z _ h => by rw [HV.out z (by simpa using h)]; exact hvx, HO2.out.keep (below_drewN (Below.refl _ _) _), Nat.lt_of_lt_of_le hgr (below_drewN (Below.refl wr.heap.size _) _).size, below_drewN hbk _⟩, by simp [intOf]; omega⟩
                      · have HF1 := Lib.hid (HF.out.bad HX.out HG.out)
                        go_wp2_with fail
                        have dvx : decide (y.2.1 < x.2.1) = false := by simp; omega
                        go_quiet (fail)
                        go_wp2_with fail
                        go_quiet (fail)
                        go_wp2_with fail
                        exact ⟨⟨i + 1, g, c', M, by omega, by go_num, rfl, HF1.out, HO2.out.keep (below_drewN (Below.refl _ _) _), hgl, Nat.lt_of_lt_of_le hgr (below_drewN (Below.refl wr.heap.size _) _).size, below_drewN hbk _⟩, by simp [intOf]; omega⟩
                    · obtain rfl : k = M.length := by omega
                      have HF1 := Lib.hid (HF.out.bad HX.out HG.out)
                      clear hown
                      go_wp2_with fail
                      go_quiet (fail)
                      go_wp2_with fail
                      go_quiet (fail)
                      go_wp2_with fail
                      exact ⟨⟨i + 1, g, c', M, by omega, by go_num, rfl, HF1.out, HO2.out.keep (below_drewN (Below.refl _ _) _), hgl, Nat.lt_of_lt_of_le hgr (below_drewN (Below.refl wr.heap.size _) _).size, below_drewN hbk _⟩, by simp [intOf]; omega⟩
                | true =>
                  have Hgood : Hid (goodP (Lp.map Prod.snd) x.2 = true) := HG.out
                  go_wp2_with fail
                  go_loopw [13] (fun z wr => ∃ k : Nat, k ≤ M.length ∧ z = .int .i64 k ∧ Hid (∀ y, 0 < k → M[k - 1]? = some (pm y) → y.2.1 < x.2.1) ∧ Own wr wb.heap.size 47 1 rowI (some ⟨g, 0, none⟩) c' M ∧ g < wr.heap.size ∧ Below wb.heap.size wb wr) (fun z _ => M.length - (intOf z).toNat)
                  case atStart => exact ⟨0, Nat.zero_le _, rfl, (fun y h => absurd h (by omega)), HO1.out, hgu1, hbk⟩
                  case round =>
                    obtain ⟨k, hk, rfl, Hg, hown, hgr, hbk⟩ := hrel
                    have HO2 := Lib.hid hown
                    obtain ⟨cx0, cx1⟩ := HXc.out wr hbk
                    have q0 := HPd.out wr i x hbk HX.out
                    by_cases hkl : k < M.length
                    · have hy : M[k]? = some M[k] := List.getElem?_eq_getElem hkl
                      have c1 := (hown.flat rowI_l).cell1 hy rfl
                      obtain ⟨y, hyL, ey⟩ := HF.out.row hy
                      rw [ey] at hy c1
                      change wr.cell? ⟨g, k, none⟩ = some (.slice (some ⟨y.1, 0, none⟩) 2 2) at c1
                      obtain ⟨cy0, cy1⟩ := HOc.out wr y hbk hyL
                      have HYk := Lib.hid hy
                      have HYL := Lib.hid hyL
                      have HV : Hid (∀ z, M[k]? = some (pm z) → z = y) := fun z h => by
                        rw [hy] at h
                        exact (pm_inj (Option.some.inj h)).symm
                      clear hown hy ey hyL
                      by_cases hvx : y.2.1 < x.2.1
                      · go_wp2_with fail
                        go_quiet (fail)
                        go_wp2_with fail
                        exact ⟨⟨k + 1, by omega, by go_num, fun z _ h => by rw [HV.out z (by simpa using h)]; exact hvx, HO2.out.keep (below_drewN (Below.refl _ _) _), Nat.lt_of_lt_of_le hgr (below_drewN (Below.refl wr.heap.size _) _).size, below_drewN hbk _⟩, by simp [intOf]; omega⟩
                      · by_cases heq : y.2.1 = x.2.1
                        · have HF1 := Lib.hid (HF.out.there HX.out HYk.out heq)
                          have Heq := Lib.hid heq
                          go_wp2_with fail
                          have dvx : decide (y.2.1 < x.2.1) = false := by simp; omega
                          clear heq
                          go_quiet (fail)
                          go_wp2_with fail
                          have hke : ((k : Int) == (M.length : Int)) = false := by simp; omega
                          have hbe : (y.2.1 != x.2.1) = false := by simp [Heq.out]
                          go_quiet (fail)
                          go_wp2_with fail
                          exact ⟨⟨i + 1, g, c', M, by omega, by go_num, rfl, HF1.out, HO2.out.keep (below_drewN (Below.refl _ _) _), hgl, Nat.lt_of_lt_of_le hgr (below_drewN (Below.refl wr.heap.size _) _).size, below_drewN hbk _⟩, by simp [intOf]; omega⟩
                        · have HStop : Hid (∀ z, M[k]? = some (pm z) → x.2.1 < z.2.1) := fun z h => by
                            rw [HV.out z h]
                            omega
                          have hbe : (y.2.1 != x.2.1) = true := by simp [heq]
                          have hcap := HO2.out.cap
                          go_wp2_with fail
                          have dvx : decide (y.2.1 < x.2.1) = false := by simp; omega
                          clear heq
                          have hdr : ∀ m, Below wr.heap.size wr (wr.drewN m) := fun m => below_drewN (Below.refl _ _) _
                          go_quiet (fail)
                          have HO3 := Lib.hid (HO2.out.keep (hdr nq))
                          have hb3 := bthen' hbk (hdr nq)
                          have hg3 : g < (wr.drewN nq).heap.size := Nat.lt_of_lt_of_le hgr (hdr nq).size
                          have cx0 := (HXc.out _ hb3).1
                          have q0 := HPd.out _ i x hb3 HX.out
                          have c1 : (wr.drewN nq).cell? ⟨g, k, none⟩ = some (.slice (some ⟨y.1, 0, none⟩) 2 2) := (HO3.out.flat rowI_l).cell1 HYk.out rfl
                          have cy0 := (HOc.out _ y hb3 HYL.out).1
                          clear HO2 hbk hgr hdr cx1
                          generalize wr.drewN nq = wr at HO3 hb3 hg3 cx0 q0 c1 cy0 ⊢
                          have HO2 := HO3
                          have hbk := hb3
                          have hgr := hg3
                          clear HO3 hb3 hg3
                          go_wp2_with fail
                          have hke : ((k : Int) == (M.length : Int)) = false := by simp; omega
                          have hdr : ∀ m, Below wr.heap.size wr (wr.drewN m) := fun m => below_drewN (Below.refl _ _) _
                          go_quiet (fail)
                          have HO3 := Lib.hid (HO2.out.keep (hdr nq))
                          have hb3 := bthen' hbk (hdr nq)
                          have hg3 : g < (wr.drewN nq).heap.size := Nat.lt_of_lt_of_le hgr (hdr nq).size
                          generalize wr.drewN nq = w3 at HO3 hb3 hg3 ⊢
                          have hbase : wb.heap.size ≤ w3.heap.size := hb3.size
                          have HNew : Hid (FrontOk Lp (i + 1) (M.take k ++ [pm x] ++ M.drop k)) := by
                            have := HF.out.put HX.out Hgood.out (k := k) (by omega) Hg.out HStop.out
                            unfold Hid
                            simpa using this
                          clear Hg HStop HO2 HO HF cx0
                          have HT := Lib.hid ((HO3.out.flat rowI_l).rd)
                          have hlt1 : (M.take k).length = k := by rw [List.length_take]; omega
                          have hld1 : (M.drop k).length = M.length - k := List.length_drop
                          have hl4 : (M.take k ++ [pm x]).length = k + 1 := by rw [List.length_append, hlt1]; rfl
                          have hsum : k + 1 + (M.length - k) = M.length + 1 := by omega
                          have hkc : (k : Int) ≤ (c' : Int) := by omega
                          have hkL : (k : Int) ≤ (M.length : Int) := by omega
                          have hck : ¬ c' = k := by omega
                          have HDr : Hid (∀ v : World, Below w3.heap.size w3 v → Rd v v.heap.size 1 rowI (some ⟨g, k, none⟩) (M.drop k)) := fun v hv => by
                            have := rdI_drop (HT.out.next hv) k
                            rwa [Nat.zero_add] at this
                          have HR1 : Hid (∀ v : World, Below w3.heap.size w3 v → Rd v v.heap.size 1 rowI (some ⟨g, 0, none⟩) (M.take k)) := fun v hv => (HT.out.next hv).takeI k
                          have HCv : Hid (∀ v : World, Below w3.heap.size w3 v → v.cell? ⟨pg, i, none⟩ = some (.slice (some ⟨x.1, 0, none⟩) 2 2)) := fun v hv => HPd.out v i x (hb3.trans (hv.mono hbase)) HX.out
                          have hYa : Below w3.heap.size w3 (w3.drew.alloc (.cells #[] 47)) := bthen' (bdrew w3) (balloc _ _)
                          have hYx : Below w3.heap.size w3 (w3.drew.alloc (.cells #[(.slice (some ⟨x.1, 0, none⟩) 2 2)] 47)) := bthen' (bdrew w3) (balloc _ _)
                          have hYb : Below w3.heap.size w3 ((w3.drew.alloc (.cells #[] 47)).alloc (.cells #[(.slice (some ⟨x.1, 0, none⟩) 2 2)] 47)) := bthen' hYa (balloc _ _)
                          have hYc : Below w3.heap.size w3 ((w3.drew.alloc (.cells #[(.slice (some ⟨x.1, 0, none⟩) 2 2)] 47)).alloc (.cells #[] 47)) := bthen' hYx (balloc _ _)
                          have cD := HCv.out w3.drew (bdrew w3)
                          have cN := HCv.out (w3.alloc (.cells #[] 47)) (balloc _ _)
                          have hsN : (w3.drew.alloc (.cells #[] 47)).heap.size = w3.heap.size + 1 := by simp
                          have hsX : (w3.drew.alloc (.cells #[(.slice (some ⟨x.1, 0, none⟩) 2 2)] 47)).heap.size = w3.heap.size + 1 := by simp
                          have hsB : w3.heap.size + 1 < ((w3.drew.alloc (.cells #[] 47)).alloc (.cells #[(.slice (some ⟨x.1, 0, none⟩) 2 2)] 47)).heap.size := by simp
                          have hsC : w3.heap.size < ((w3.drew.alloc (.cells #[(.slice (some ⟨x.1, 0, none⟩) 2 2)] 47)).alloc (.cells #[] 47)).heap.size := by simp; omega
                          have HEb : Hid ((((w3.drew.alloc (.cells #[] 47)).alloc (.cells #[(.slice (some ⟨x.1, 0, none⟩) 2 2)] 47))).cell? ⟨w3.heap.size + 1, 0, none⟩ = some (.slice (some ⟨x.1, 0, none⟩) 2 2)) := by
                            unfold Hid
                            rw [← hsN]
                            go_simp
                          have HEc : Hid ((((w3.drew.alloc (.cells #[(.slice (some ⟨x.1, 0, none⟩) 2 2)] 47)).alloc (.cells #[] 47))).cell? ⟨w3.heap.size, 0, none⟩ = some (.slice (some ⟨x.1, 0, none⟩) 2 2)) := by
                            unfold Hid
                            go_simp
                          have HOc : Hid (Own ((w3.drew.alloc (.cells #[(.slice (some ⟨x.1, 0, none⟩) 2 2)] 47)).alloc (.cells #[] 47)) w3.heap.size 47 1 rowI (some ⟨w3.heap.size + 1, 0, none⟩) 0 ([] : List RowI)) := by
                            have h : Own ((w3.drew.alloc (.cells #[(.slice (some ⟨x.1, 0, none⟩) 2 2)] 47)).alloc (.cells #[] 47)) w3.heap.size 47 1 rowI (some ⟨(w3.drew.alloc (.cells #[(.slice (some ⟨x.1, 0, none⟩) 2 2)] 47)).heap.size, 0, none⟩) 0 ([] : List RowI) := Own.made (w := (w3.drew.alloc (.cells #[(.slice (some ⟨x.1, 0, none⟩) 2 2)] 47))) _ hYx.size rfl
                            rwa [hsX] at h
                          clear hsN hsX
                          go_wp2_with fail
                          go_region_law (first
                            | (refine step_append_slice (by rfl) _ _ _ (by rfl) w3.heap.size 47 (.slice none 0 0) 1 24 Try.underlying26 infoRowI rfl (by omega) (by omega) rowI [] (M.take k) (some ⟨w3.drew.heap.size, 0, none⟩) 0 (by rfl) (Own.made (w := w3.drew) _ (Nat.le_refl _) rfl) (some ⟨g, 0, none⟩) c' _ (by rw [hlt1]; rfl) (HR1.out _ hYa) rowI_l rowI_one (by rw [hlt1]; simp; omega) hYa.size ?_; rintro A4 c4 w4 hown4 hb4 hfar4; have HO6 : Hid (Own w4 w3.heap.size 47 1 rowI A4 c4 (M.take k)) := hown4; have hX6 := hYa.trans hb4; have c4x := HCv.out w4 hX6; clear hown4 hb4 hfar4; rw [hlt1, show ([] : List RowI).length + k = k from Nat.zero_add _])
                            | (refine step_append_slice (by rfl) _ _ _ (by rfl) w3.heap.size 47 (.slice none 0 0) 1 24 Try.underlying26 infoRowI rfl (by omega) (by omega) rowI [] (M.take k) (some ⟨w3.drew.heap.size, 0, none⟩) 0 (by rfl) ((Own.made (w := w3.drew) _ (Nat.le_refl _) rfl).keep (balloc _ _)) (some ⟨g, 0, none⟩) c' _ (by rw [hlt1]; rfl) (HR1.out _ hYb) rowI_l rowI_one (by rw [hlt1]; simp; omega) hYb.size ?_; rintro A4 c4 w4 hown4 hb4 hfar4; have HO6 : Hid (Own w4 w3.heap.size 47 1 rowI A4 c4 (M.take k)) := hown4; have hX6 := hYb.trans hb4; have c4x := HCv.out w4 hX6; have cE := (World.cell?_of_block (a := ⟨w3.heap.size + 1, 0, none⟩) (hfar4 (w3.heap.size + 1) hsB (fun b o e => by simp at e; omega)).2).trans HEb.out; have lE : w3.heap.size + 1 < w4.heap.size := Nat.lt_of_lt_of_le hsB hb4.size; clear hown4 hb4 hfar4; rw [hlt1, show ([] : List RowI).length + k = k from Nat.zero_add _])
                            | (refine step_append_slice (by rfl) _ _ _ (by rfl) w3.heap.size 47 (.slice none 0 0) 1 24 Try.underlying26 infoRowI rfl (by omega) (by omega) rowI [] (M.take k) (some ⟨w3.heap.size + 1, 0, none⟩) 0 (by rfl) HOc.out (some ⟨g, 0, none⟩) c' _ (by rw [hlt1]; rfl) (HR1.out _ hYc) rowI_l rowI_one (by rw [hlt1]; simp; omega) hYc.size ?_; rintro A4 c4 w4 hown4 hb4 hfar4; have HO6 : Hid (Own w4 w3.heap.size 47 1 rowI A4 c4 (M.take k)) := hown4; have hX6 := hYc.trans hb4; have c4x := HCv.out w4 hX6; have cE := (World.cell?_of_block (a := ⟨w3.heap.size, 0, none⟩) (hfar4 w3.heap.size hsC (fun b o e => by simp at e; omega)).2).trans HEc.out; have lE : w3.heap.size < w4.heap.size := Nat.lt_of_lt_of_le hsC hb4.size; clear hown4 hb4 hfar4; rw [hlt1, show ([] : List RowI).length + k = k from Nat.zero_add _])
                            | (refine step_append_el (by rfl) _ _ _ (by rfl) w3.heap.size 47 (.slice none 0 0) 1 24 Try.underlying26 infoRowI rfl (by omega) (by omega) rowI (M.take k) (pm x) A4 c4 (by rw [hlt1]; rfl) HO6.out _ _ (by rfl) lE rowI_l (one_cell (v := (.slice (some ⟨x.1, 0, none⟩) 2 2)) cE) rowI_one (by omega) hX6.size ?_; rintro A5 c5 w5 hown5 hb5 _; have HO8 := Lib.hid hown5; have hX8 := (hX6).trans hb5; clear hown5 hb5; rw [hlt1])
                            | (refine step_append_el (by rfl) _ _ _ (by rfl) w3.heap.size 47 (.slice none 0 0) 1 24 Try.underlying26 infoRowI rfl (by omega) (by omega) rowI (M.take k) (pm x) A4 c4 (by rw [hlt1]; rfl) (HO6.out.keep (balloc _ _)) _ _ (by rfl) (show w4.heap.size < (w4.alloc (.cells #[(.slice (some ⟨x.1, 0, none⟩) 2 2)] 47)).heap.size from (by simp)) rowI_l (one_cell (v := (.slice (some ⟨x.1, 0, none⟩) 2 2)) (by go_simp)) rowI_one (by omega) (bthen' hX6 (balloc w4 (.cells #[(.slice (some ⟨x.1, 0, none⟩) 2 2)] 47))).size ?_; rintro A5 c5 w5 hown5 hb5 _; have HO8 := Lib.hid hown5; have hX8 := ((bthen' hX6 (balloc w4 (.cells #[(.slice (some ⟨x.1, 0, none⟩) 2 2)] 47)))).trans hb5; clear hown5 hb5; rw [hlt1])
                            | (refine step_append_slice (by rfl) _ _ _ (by rfl) w3.heap.size 47 (.slice none 0 0) 1 24 Try.underlying26 infoRowI rfl (by omega) (by omega) rowI (M.take k ++ [pm x]) (M.drop k) A5 c5 (by rw [hl4]; rfl) HO8.out (some ⟨g, k, none⟩) _ w5.heap.size (by rw [hld1]; rfl) (HDr.out w5 hX8) rowI_l rowI_one (by rw [hl4, hld1]; omega) hX8.size ?_; rintro A6 c6 w6 hown6 hb6 _; have hX9 := hX8.trans hb6; have HO7 := Lib.hid (hown6.base hbase); clear hown6 hb6; rw [hl4, hld1, hsum]))
                          all_goals
                            have hl7 : (M.take k ++ [pm x] ++ M.drop k).length = M.length + 1 := by rw [List.length_append, hl4, hld1] <;> omega
                            obtain ⟨g6, rfl, hg61, hg62, _⟩ := HO7.out.someI (by omega)
                            go_wp2_with fail
                            exact ⟨⟨i + 1, g6, c6, (M.take k ++ [pm x] ++ M.drop k), by omega, by go_num, by rw [hl7], HNew.out, HO7.out, hg61, hg62, hb3.trans (hX9.mono hbase)⟩, by simp [intOf]; omega⟩
                    · obtain rfl : k = M.length := by omega
                      have HStop : Hid (∀ y, M[M.length]? = some (pm y) → x.2.1 < y.2.1) := fun y h => by
                        rw [List.getElem?_eq_none (Nat.le_refl _)] at h
                        exact absurd h (by simp)
                      have hcap := HO2.out.cap
                      clear hown
                      go_wp2_with fail
                      have hdr : ∀ m, Below wr.heap.size wr (wr.drewN m) := fun m => below_drewN (Below.refl _ _) _
                      go_quiet (fail)
                      have HO3 := Lib.hid (HO2.out.keep (hdr nq))
                      have hb3 := bthen' hbk (hdr nq)
                      have hg3 : g < (wr.drewN nq).heap.size := Nat.lt_of_lt_of_le hgr (hdr nq).size
                      have cx0 := (HXc.out _ hb3).1
                      have q0 := HPd.out _ i x hb3 HX.out
                      clear HO2 hbk hgr hdr cx1
                      generalize wr.drewN nq = wr at HO3 hb3 hg3 cx0 q0 ⊢
                      have HO2 := HO3
                      have hbk := hb3
                      have hgr := hg3
                      clear HO3 hb3 hg3
                      go_wp2_with fail
                      have hdr : ∀ m, Below wr.heap.size wr (wr.drewN m) := fun m => below_drewN (Below.refl _ _) _
                      go_quiet (fail)
                      have HO3 := Lib.hid (HO2.out.keep (hdr nq))
                      have hb3 := bthen' hbk (hdr nq)
                      have hg3 : g < (wr.drewN nq).heap.size := Nat.lt_of_lt_of_le hgr (hdr nq).size
                      generalize wr.drewN nq = w3 at HO3 hb3 hg3 ⊢
                      have hbase : wb.heap.size ≤ w3.heap.size := hb3.size
                      have HNew : Hid (FrontOk Lp (i + 1) (M.take M.length ++ [pm x] ++ M.drop M.length)) := by
                        have := HF.out.put HX.out Hgood.out (k := M.length) (by omega) Hg.out HStop.out
                        unfold Hid
                        simpa using this
                      clear Hg HStop HO2 HO HF cx0
                      have HT := Lib.hid ((HO3.out.flat rowI_l).rd)
                      have hlt1 : (M.take M.length).length = M.length := by rw [List.length_take]; omega
                      have hld1 : (M.drop M.length).length = 0 := by rw [List.length_drop]; omega
                      have hl4 : (M.take M.length ++ [pm x]).length = M.length + 1 := by rw [List.length_append, hlt1]; rfl
                      have hkc : (M.length : Int) ≤ (c' : Int) := by omega
                      have hkL : (M.length : Int) ≤ (M.length : Int) := by omega
                      by_cases hck : c' = M.length
                      · have hkl2 : M.length = M.length := by omega
                        obtain rfl : M.length = c' := hck.symm
                        have HDr : Hid (∀ v : World, Below w3.heap.size w3 v → Rd v v.heap.size 1 rowI (some ⟨g, 0, none⟩) (M.drop M.length)) := fun v _ h => absurd h (by rw [hld1]; omega)
                        have HR1 : Hid (∀ v : World, Below w3.heap.size w3 v → Rd v v.heap.size 1 rowI (some ⟨g, 0, none⟩) (M.take M.length)) := fun v hv => (HT.out.next hv).takeI M.length
                        have HCv : Hid (∀ v : World, Below w3.heap.size w3 v → v.cell? ⟨pg, i, none⟩ = some (.slice (some ⟨x.1, 0, none⟩) 2 2)) := fun v hv => HPd.out v i x (hb3.trans (hv.mono hbase)) HX.out
                        have hYa : Below w3.heap.size w3 (w3.drew.alloc (.cells #[] 47)) := bthen' (bdrew w3) (balloc _ _)
                        have hYx : Below w3.heap.size w3 (w3.drew.alloc (.cells #[(.slice (some ⟨x.1, 0, none⟩) 2 2)] 47)) := bthen' (bdrew w3) (balloc _ _)
                        have hYb : Below w3.heap.size w3 ((w3.drew.alloc (.cells #[] 47)).alloc (.cells #[(.slice (some ⟨x.1, 0, none⟩) 2 2)] 47)) := bthen' hYa (balloc _ _)
                        have hYc : Below w3.heap.size w3 ((w3.drew.alloc (.cells #[(.slice (some ⟨x.1, 0, none⟩) 2 2)] 47)).alloc (.cells #[] 47)) := bthen' hYx (balloc _ _)
                        have cD := HCv.out w3.drew (bdrew w3)
                        have cN := HCv.out (w3.alloc (.cells #[] 47)) (balloc _ _)
                        have hsN : (w3.drew.alloc (.cells #[] 47)).heap.size = w3.heap.size + 1 := by simp
                        have hsX : (w3.drew.alloc (.cells #[(.slice (some ⟨x.1, 0, none⟩) 2 2)] 47)).heap.size = w3.heap.size + 1 := by simp
                        have hsB : w3.heap.size + 1 < ((w3.drew.alloc (.cells #[] 47)).alloc (.cells #[(.slice (some ⟨x.1, 0, none⟩) 2 2)] 47)).heap.size := by simp
                        have hsC : w3.heap.size < ((w3.drew.alloc (.cells #[(.slice (some ⟨x.1, 0, none⟩) 2 2)] 47)).alloc (.cells #[] 47)).heap.size := by simp; omega
                        have HEb : Hid ((((w3.drew.alloc (.cells #[] 47)).alloc (.cells #[(.slice (some ⟨x.1, 0, none⟩) 2 2)] 47))).cell? ⟨w3.heap.size + 1, 0, none⟩ = some (.slice (some ⟨x.1, 0, none⟩) 2 2)) := by
                          unfold Hid
                          rw [← hsN]
                          go_simp
                        have HEc : Hid ((((w3.drew.alloc (.cells #[(.slice (some ⟨x.1, 0, none⟩) 2 2)] 47)).alloc (.cells #[] 47))).cell? ⟨w3.heap.size, 0, none⟩ = some (.slice (some ⟨x.1, 0, none⟩) 2 2)) := by
                          unfold Hid
                          go_simp
                        have HOc : Hid (Own ((w3.drew.alloc (.cells #[(.slice (some ⟨x.1, 0, none⟩) 2 2)] 47)).alloc (.cells #[] 47)) w3.heap.size 47 1 rowI (some ⟨w3.heap.size + 1, 0, none⟩) 0 ([] : List RowI)) := by
                          have h : Own ((w3.drew.alloc (.cells #[(.slice (some ⟨x.1, 0, none⟩) 2 2)] 47)).alloc (.cells #[] 47)) w3.heap.size 47 1 rowI (some ⟨(w3.drew.alloc (.cells #[(.slice (some ⟨x.1, 0, none⟩) 2 2)] 47)).heap.size, 0, none⟩) 0 ([] : List RowI) := Own.made (w := (w3.drew.alloc (.cells #[(.slice (some ⟨x.1, 0, none⟩) 2 2)] 47))) _ hYx.size rfl
                          rwa [hsX] at h
                        clear hsN hsX
                        clear hck hkl2
                        go_wp2_with fail
                        go_region_law (first
                          | (refine step_append_slice (by rfl) _ _ _ (by rfl) w3.heap.size 47 (.slice none 0 0) 1 24 Try.underlying26 infoRowI rfl (by omega) (by omega) rowI [] (M.take M.length) (some ⟨w3.drew.heap.size, 0, none⟩) 0 (by rfl) (Own.made (w := w3.drew) _ (Nat.le_refl _) rfl) (some ⟨g, 0, none⟩) M.length _ (by rw [hlt1]; rfl) (HR1.out _ hYa) rowI_l rowI_one (by rw [hlt1]; simp; omega) hYa.size ?_; rintro A4 c4 w4 hown4 hb4 hfar4; have HO6 : Hid (Own w4 w3.heap.size 47 1 rowI A4 c4 (M.take M.length)) := hown4; have hX6 := hYa.trans hb4; have c4x := HCv.out w4 hX6; clear hown4 hb4 hfar4; rw [hlt1, show ([] : List RowI).length + M.length = M.length from Nat.zero_add _])
                          | (refine step_append_slice (by rfl) _ _ _ (by rfl) w3.heap.size 47 (.slice none 0 0) 1 24 Try.underlying26 infoRowI rfl (by omega) (by omega) rowI [] (M.take M.length) (some ⟨w3.drew.heap.size, 0, none⟩) 0 (by rfl) ((Own.made (w := w3.drew) _ (Nat.le_refl _) rfl).keep (balloc _ _)) (some ⟨g, 0, none⟩) M.length _ (by rw [hlt1]; rfl) (HR1.out _ hYb) rowI_l rowI_one (by rw [hlt1]; simp; omega) hYb.size ?_; rintro A4 c4 w4 hown4 hb4 hfar4; have HO6 : Hid (Own w4 w3.heap.size 47 1 rowI A4 c4 (M.take M.length)) := hown4; have hX6 := hYb.trans hb4; have c4x := HCv.out w4 hX6; have cE := (World.cell?_of_block (a := ⟨w3.heap.size + 1, 0, none⟩) (hfar4 (w3.heap.size + 1) hsB (fun b o e => by simp at e; omega)).2).trans HEb.out; have lE : w3.heap.size + 1 < w4.heap.size := Nat.lt_of_lt_of_le hsB hb4.size; clear hown4 hb4 hfar4; rw [hlt1, show ([] : List RowI).length + M.length = M.length from Nat.zero_add _])
                          | (refine step_append_slice (by rfl) _ _ _ (by rfl) w3.heap.size 47 (.slice none 0 0) 1 24 Try.underlying26 infoRowI rfl (by omega) (by omega) rowI [] (M.take M.length) (some ⟨w3.heap.size + 1, 0, none⟩) 0 (by rfl) HOc.out (some ⟨g, 0, none⟩) M.length _ (by rw [hlt1]; rfl) (HR1.out _ hYc) rowI_l rowI_one (by rw [hlt1]; simp; omega) hYc.size ?_; rintro A4 c4 w4 hown4 hb4 hfar4; have HO6 : Hid (Own w4 w3.heap.size 47 1 rowI A4 c4 (M.take M.length)) := hown4; have hX6 := hYc.trans hb4; have c4x := HCv.out w4 hX6; have cE := (World.cell?_of_block (a := ⟨w3.heap.size, 0, none⟩) (hfar4 w3.heap.size hsC (fun b o e => by simp at e; omega)).2).trans HEc.out; have lE : w3.heap.size < w4.heap.size := Nat.lt_of_lt_of_le hsC hb4.size; clear hown4 hb4 hfar4; rw [hlt1, show ([] : List RowI).length + M.length = M.length from Nat.zero_add _])
                          | (refine step_append_el (by rfl) _ _ _ (by rfl) w3.heap.size 47 (.slice none 0 0) 1 24 Try.underlying26 infoRowI rfl (by omega) (by omega) rowI (M.take M.length) (pm x) A4 c4 (by rw [hlt1]; rfl) HO6.out _ _ (by rfl) lE rowI_l (one_cell (v := (.slice (some ⟨x.1, 0, none⟩) 2 2)) cE) rowI_one (by omega) hX6.size ?_; rintro A5 c5 w5 hown5 hb5 _; have HO8 := Lib.hid hown5; have hX8 := (hX6).trans hb5; clear hown5 hb5; rw [hlt1])
                          | (refine step_append_el (by rfl) _ _ _ (by rfl) w3.heap.size 47 (.slice none 0 0) 1 24 Try.underlying26 infoRowI rfl (by omega) (by omega) rowI (M.take M.length) (pm x) A4 c4 (by rw [hlt1]; rfl) (HO6.out.keep (balloc _ _)) _ _ (by rfl) (show w4.heap.size < (w4.alloc (.cells #[(.slice (some ⟨x.1, 0, none⟩) 2 2)] 47)).heap.size from (by simp)) rowI_l (one_cell (v := (.slice (some ⟨x.1, 0, none⟩) 2 2)) (by go_simp)) rowI_one (by omega) (bthen' hX6 (balloc w4 (.cells #[(.slice (some ⟨x.1, 0, none⟩) 2 2)] 47))).size ?_; rintro A5 c5 w5 hown5 hb5 _; have HO8 := Lib.hid hown5; have hX8 := ((bthen' hX6 (balloc w4 (.cells #[(.slice (some ⟨x.1, 0, none⟩) 2 2)] 47)))).trans hb5; clear hown5 hb5; rw [hlt1])
                          | (refine step_append_slice (by rfl) _ _ _ (by rfl) w3.heap.size 47 (.slice none 0 0) 1 24 Try.underlying26 infoRowI rfl (by omega) (by omega) rowI (M.take M.length ++ [pm x]) (M.drop M.length) A5 c5 (by rw [hl4]; rfl) HO8.out (some ⟨g, 0, none⟩) _ w5.heap.size (by rw [hld1]; rfl) (HDr.out w5 hX8) rowI_l rowI_one (by rw [hl4, hld1]; omega) hX8.size ?_; rintro A6 c6 w6 hown6 hb6 _; have hX9 := hX8.trans hb6; have HO7 := Lib.hid (hown6.base hbase); clear hown6 hb6; rw [hl4, hld1, Nat.add_zero]))
                        all_goals
                          have hl7 : (M.take M.length ++ [pm x] ++ M.drop M.length).length = M.length + 1 := by rw [List.length_append, hl4, hld1] <;> omega
                          obtain ⟨g6, rfl, hg61, hg62, _⟩ := HO7.out.someI (by omega)
                          go_wp2_with fail
                          exact ⟨⟨i + 1, g6, c6, (M.take M.length ++ [pm x] ++ M.drop M.length), by omega, by go_num, by rw [hl7], HNew.out, HO7.out, hg61, hg62, hb3.trans (hX9.mono hbase)⟩, by simp [intOf]; omega⟩
                      · have HDr : Hid (∀ v : World, Below w3.heap.size w3 v → Rd v v.heap.size 1 rowI (some ⟨g, M.length, none⟩) (M.drop M.length)) := fun v hv => by
                          have := rdI_drop (HT.out.next hv) M.length
                          rwa [Nat.zero_add] at this
                        have HR1 : Hid (∀ v : World, Below w3.heap.size w3 v → Rd v v.heap.size 1 rowI (some ⟨g, 0, none⟩) (M.take M.length)) := fun v hv => (HT.out.next hv).takeI M.length
                        have HCv : Hid (∀ v : World, Below w3.heap.size w3 v → v.cell? ⟨pg, i, none⟩ = some (.slice (some ⟨x.1, 0, none⟩) 2 2)) := fun v hv => HPd.out v i x (hb3.trans (hv.mono hbase)) HX.out
                        have hYa : Below w3.heap.size w3 (w3.drew.alloc (.cells #[] 47)) := bthen' (bdrew w3) (balloc _ _)
                        have hYx : Below w3.heap.size w3 (w3.drew.alloc (.cells #[(.slice (some ⟨x.1, 0, none⟩) 2 2)] 47)) := bthen' (bdrew w3) (balloc _ _)
                        have hYb : Below w3.heap.size w3 ((w3.drew.alloc (.cells #[] 47)).alloc (.cells #[(.slice (some ⟨x.1, 0, none⟩) 2 2)] 47)) := bthen' hYa (balloc _ _)
                        have hYc : Below w3.heap.size w3 ((w3.drew.alloc (.cells #[(.slice (some ⟨x.1, 0, none⟩) 2 2)] 47)).alloc (.cells #[] 47)) := bthen' hYx (balloc _ _)
                        have cD := HCv.out w3.drew (bdrew w3)
                        have cN := HCv.out (w3.alloc (.cells #[] 47)) (balloc _ _)
                        have hsN : (w3.drew.alloc (.cells #[] 47)).heap.size = w3.heap.size + 1 := by simp
                        have hsX : (w3.drew.alloc (.cells #[(.slice (some ⟨x.1, 0, none⟩) 2 2)] 47)).heap.size = w3.heap.size + 1 := by simp
                        have hsB : w3.heap.size + 1 < ((w3.drew.alloc (.cells #[] 47)).alloc (.cells #[(.slice (some ⟨x.1, 0, none⟩) 2 2)] 47)).heap.size := by simp
                        have hsC : w3.heap.size < ((w3.drew.alloc (.cells #[(.slice (some ⟨x.1, 0, none⟩) 2 2)] 47)).alloc (.cells #[] 47)).heap.size := by simp; omega
                        have HEb : Hid ((((w3.drew.alloc (.cells #[] 47)).alloc (.cells #[(.slice (some ⟨x.1, 0, none⟩) 2 2)] 47))).cell? ⟨w3.heap.size + 1, 0, none⟩ = some (.slice (some ⟨x.1, 0, none⟩) 2 2)) := by
                          unfold Hid
                          rw [← hsN]
                          go_simp
                        have HEc : Hid ((((w3.drew.alloc (.cells #[(.slice (some ⟨x.1, 0, none⟩) 2 2)] 47)).alloc (.cells #[] 47))).cell? ⟨w3.heap.size, 0, none⟩ = some (.slice (some ⟨x.1, 0, none⟩) 2 2)) := by
                          unfold Hid
                          go_simp
                        have HOc : Hid (Own ((w3.drew.alloc (.cells #[(.slice (some ⟨x.1, 0, none⟩) 2 2)] 47)).alloc (.cells #[] 47)) w3.heap.size 47 1 rowI (some ⟨w3.heap.size + 1, 0, none⟩) 0 ([] : List RowI)) := by
                          have h : Own ((w3.drew.alloc (.cells #[(.slice (some ⟨x.1, 0, none⟩) 2 2)] 47)).alloc (.cells #[] 47)) w3.heap.size 47 1 rowI (some ⟨(w3.drew.alloc (.cells #[(.slice (some ⟨x.1, 0, none⟩) 2 2)] 47)).heap.size, 0, none⟩) 0 ([] : List RowI) := Own.made (w := (w3.drew.alloc (.cells #[(.slice (some ⟨x.1, 0, none⟩) 2 2)] 47))) _ hYx.size rfl
                          rwa [hsX] at h
                        clear hsN hsX
                        go_wp2_with fail
                        go_region_law (first
                          | (refine step_append_slice (by rfl) _ _ _ (by rfl) w3.heap.size 47 (.slice none 0 0) 1 24 Try.underlying26 infoRowI rfl (by omega) (by omega) rowI [] (M.take M.length) (some ⟨w3.drew.heap.size, 0, none⟩) 0 (by rfl) (Own.made (w := w3.drew) _ (Nat.le_refl _) rfl) (some ⟨g, 0, none⟩) c' _ (by rw [hlt1]; rfl) (HR1.out _ hYa) rowI_l rowI_one (by rw [hlt1]; simp; omega) hYa.size ?_; rintro A4 c4 w4 hown4 hb4 hfar4; have HO6 : Hid (Own w4 w3.heap.size 47 1 rowI A4 c4 (M.take M.length)) := hown4; have hX6 := hYa.trans hb4; have c4x := HCv.out w4 hX6; clear hown4 hb4 hfar4; rw [hlt1, show ([] : List RowI).length + M.length = M.length from Nat.zero_add _])
                          | (refine step_append_slice (by rfl) _ _ _ (by rfl) w3.heap.size 47 (.slice none 0 0) 1 24 Try.underlying26 infoRowI rfl (by omega) (by omega) rowI [] (M.take M.length) (some ⟨w3.drew.heap.size, 0, none⟩) 0 (by rfl) ((Own.made (w := w3.drew) _ (Nat.le_refl _) rfl).keep (balloc _ _)) (some ⟨g, 0, none⟩) c' _ (by rw [hlt1]; rfl) (HR1.out _ hYb) rowI_l rowI_one (by rw [hlt1]; simp; omega) hYb.size ?_; rintro A4 c4 w4 hown4 hb4 hfar4; have HO6 : Hid (Own w4 w3.heap.size 47 1 rowI A4 c4 (M.take M.length)) := hown4; have hX6 := hYb.trans hb4; have c4x := HCv.out w4 hX6; have cE := (World.cell?_of_block (a := ⟨w3.heap.size + 1, 0, none⟩) (hfar4 (w3.heap.size + 1) hsB (fun b o e => by simp at e; omega)).2).trans HEb.out; have lE : w3.heap.size + 1 < w4.heap.size := Nat.lt_of_lt_of_le hsB hb4.size; clear hown4 hb4 hfar4; rw [hlt1, show ([] : List RowI).length + M.length = M.length from Nat.zero_add _])
                          | (refine step_append_slice (by rfl) _ _ _ (by rfl) w3.heap.size 47 (.slice none 0 0) 1 24 Try.underlying26 infoRowI rfl (by omega) (by omega) rowI [] (M.take M.length) (some ⟨w3.heap.size + 1, 0, none⟩) 0 (by rfl) HOc.out (some ⟨g, 0, none⟩) c' _ (by rw [hlt1]; rfl) (HR1.out _ hYc) rowI_l rowI_one (by rw [hlt1]; simp; omega) hYc.size ?_; rintro A4 c4 w4 hown4 hb4 hfar4; have HO6 : Hid (Own w4 w3.heap.size 47 1 rowI A4 c4 (M.take M.length)) := hown4; have hX6 := hYc.trans hb4; have c4x := HCv.out w4 hX6; have cE := (World.cell?_of_block (a := ⟨w3.heap.size, 0, none⟩) (hfar4 w3.heap.size hsC (fun b o e => by simp at e; omega)).2).trans HEc.out; have lE : w3.heap.size < w4.heap.size := Nat.lt_of_lt_of_le hsC hb4.size; clear hown4 hb4 hfar4; rw [hlt1, show ([] : List RowI).length + M.length = M.length from Nat.zero_add _])
                          | (refine step_append_el (by rfl) _ _ _ (by rfl) w3.heap.size 47 (.slice none 0 0) 1 24 Try.underlying26 infoRowI rfl (by omega) (by omega) rowI (M.take M.length) (pm x) A4 c4 (by rw [hlt1]; rfl) HO6.out _ _ (by rfl) lE rowI_l (one_cell (v := (.slice (some ⟨x.1, 0, none⟩) 2 2)) cE) rowI_one (by omega) hX6.size ?_; rintro A5 c5 w5 hown5 hb5 _; have HO8 := Lib.hid hown5; have hX8 := (hX6).trans hb5; clear hown5 hb5; rw [hlt1])
                          | (refine step_append_el (by rfl) _ _ _ (by rfl) w3.heap.size 47 (.slice none 0 0) 1 24 Try.underlying26 infoRowI rfl (by omega) (by omega) rowI (M.take M.length) (pm x) A4 c4 (by rw [hlt1]; rfl) (HO6.out.keep (balloc _ _)) _ _ (by rfl) (show w4.heap.size < (w4.alloc (.cells #[(.slice (some ⟨x.1, 0, none⟩) 2 2)] 47)).heap.size from (by simp)) rowI_l (one_cell (v := (.slice (some ⟨x.1, 0, none⟩) 2 2)) (by go_simp)) rowI_one (by omega) (bthen' hX6 (balloc w4 (.cells #[(.slice (some ⟨x.1, 0, none⟩) 2 2)] 47))).size ?_; rintro A5 c5 w5 hown5 hb5 _; have HO8 := Lib.hid hown5; have hX8 := ((bthen' hX6 (balloc w4 (.cells #[(.slice (some ⟨x.1, 0, none⟩) 2 2)] 47)))).trans hb5; clear hown5 hb5; rw [hlt1])
                          | (refine step_append_slice (by rfl) _ _ _ (by rfl) w3.heap.size 47 (.slice none 0 0) 1 24 Try.underlying26 infoRowI rfl (by omega) (by omega) rowI (M.take M.length ++ [pm x]) (M.drop M.length) A5 c5 (by rw [hl4]; rfl) HO8.out (some ⟨g, M.length, none⟩) _ w5.heap.size (by rw [hld1]; rfl) (HDr.out w5 hX8) rowI_l rowI_one (by rw [hl4, hld1]; omega) hX8.size ?_; rintro A6 c6 w6 hown6 hb6 _; have hX9 := hX8.trans hb6; have HO7 := Lib.hid (hown6.base hbase); clear hown6 hb6; rw [hl4, hld1, Nat.add_zero]))
                        all_goals
                          have hl7 : (M.take M.length ++ [pm x] ++ M.drop M.length).length = M.length + 1 := by rw [List.length_append, hl4, hld1] <;> omega
                          obtain ⟨g6, rfl, hg61, hg62, _⟩ := HO7.out.someI (by omega)
                          go_wp2_with fail
                          exact ⟨⟨i + 1, g6, c6, (M.take M.length ++ [pm x] ++ M.drop M.length), by omega, by go_num, by rw [hl7], HNew.out, HO7.out, hg61, hg62, hb3.trans (hX9.mono hbase)⟩, by simp [intOf]; omega⟩
          · obtain rfl : i = P := by omega
            have HFl := Lib.hid (HO.out.flat rowI_l)
            have HCp := Lib.hid HO.out.cap
            have hs2 := hbw2.size
            obtain ⟨hR1, hR2⟩ := HFin.out wr (some ⟨g, 0, none⟩) M HF.out hb (HFl.out.mono hs2 (Nat.le_refl _))
            have HR1 := Lib.hid hR1
            have HR2 := Lib.hid hR2
            clear hR1 hR2 HFin HF
            go_wp2_with fail
            go_ret2
            exact ⟨_, c', by rw [HR2.out]; rfl, HR1.out, by rw [HR2.out]; exact HCp.out, bthen hbw2 hb⟩
  · rw [bothI_no hb] at hCo
    have HCo := Lib.hid hCo; clear hCo
    have HR : Hid (frontR vs js = ([], 1)) := by unfold Hid frontR; rw [if_neg hb]
    clear hb hs hm2
    generalize frontR vs js = R at HR ⊢
    go_enter Try.func7, Try.ntmps7
    go_wp2_with fail
    refine HCo.out.mono ?_
    rintro e w1 ⟨rfl, hb1⟩
    go_wp2_with fail
    go_ret2
    exact ⟨none, 0, by rw [HR.out]; rfl, by rw [HR.out]; exact FlatI.nil, by rw [HR.out]; exact Nat.le_refl _, hb1⟩

end Go.Proofs.Ytioblfbhjkkgoaa

namespace Go.Proofs.Ytioblfbhjkkgoaa
set_option maxRecDepth 100000
open Go.RowKit

set_option maxHeartbeats 1000000 in
theorem markJointS_any (A : Option Addr) (c : Nat) (xs : List (Int × Int × Int)) (k : Int) (lo hi : Nat) (w : World) (hf : Flat w lo hi 62 3 jointC A xs) (hm : xs.length ≤ 1048576) (k0 : 0 < k) (k1 : k ≤ 1000000000000000) :
    Calls Try.prog 15 #[.slice A xs.length c, .int .i64 k] w fun e w' => e = .returned (.int .i64 (k + xs.length * 3)) ∧ Only lo hi w w' := by
  have hroom := hf.room
  clear hf
  go_enter Try.func15, Try.ntmps15
  go_wp2_with fail
  go_loopw [1, 5] (fun kk i wr => ∃ j : Nat, j ≤ xs.length ∧ i = .int .i64 j ∧ kk = .int .i64 (k + j * 3) ∧ Only lo hi w wr ∧ Room wr lo hi 62 3 A xs.length) (fun _ i _ => xs.length - (intOf i).toNat)
  case atStart => exact ⟨0, Nat.zero_le _, rfl, by simp, Only.refl _ _ _, hroom⟩
  case round =>
    obtain ⟨j, hj, rfl, rfl, ho, hrm⟩ := hrel

    by_cases hlt : j < xs.length
    · obtain ⟨g, m, rfl, hl, hg, hrow, hm2⟩ := hrm (by omega)
      have hrow1 := hrow
      have hrm1 := hrm
      have ho1 := ho
      obtain ⟨z0, hz0⟩ := hrow1.cell (j := j * 3) (by omega)
      have hf0 := hrow1.frozen (j * 3)
      obtain ⟨z1, hz1⟩ := hrow1.cell (j := j * 3 + 1) (by omega)
      have hf1 := hrow1.frozen (j * 3 + 1)
      obtain ⟨z2, hz2⟩ := hrow1.cell (j := j * 3 + 2) (by omega)
      have hf2 := hrow1.frozen (j * 3 + 2)
      go_wp2_with fail
      exact ⟨⟨j + 1, by omega, by go_num, by go_num, (((ho1).trans (Only.setCell (p := ⟨g, j * 3, none⟩) ⟨hl, hg⟩ _)).trans (Only.setCell (p := ⟨g, j * 3 + 1, none⟩) ⟨hl, hg⟩ _)).trans (Only.setCell (p := ⟨g, j * 3 + 2, none⟩) ⟨hl, hg⟩ _), hrm1.keep (fun _ _ h => (((h).setCell _ _).setCell _ _).setCell _ _)⟩, by simp [intOf]; omega⟩
    · obtain rfl : j = xs.length := by omega
      go_wp2_with fail
      go_ret
      exact ⟨rfl, ho⟩

end Go.Proofs.Ytioblfbhjkkgoaa

namespace Go.Proofs.Ytioblfbhjkkgoaa
set_option maxRecDepth 100000
open Go.RowKit

theorem szJointS_k (A : Option Addr) (c : Nat) (xs : List (Int × Int × Int)) (l : Int) (w : World) (_ : Rd w w.heap.size 3 jointC A xs) (hm : xs.length ≤ maxLen) (_ : ∀ x ∈ xs, (fun _ => True) x) (h2 : 0 ≤ l) (h3 : l ≤ 1048576) :
    Calls Try.prog 6 #[.slice A xs.length c, .int .i64 l] w (SzPost w l (xs.length ≤ 1048576)) := by
  unfold maxLen at hm
  refine (szJointS_any A xs.length c l (by omega) h2 h3 w).mono ?_
  rintro e w' ⟨rfl, rfl⟩
  refine ⟨_, rfl, ?_, Below.refl _ _⟩
  split
  · exact Or.inl rfl
  · exact Or.inr ⟨by omega, by omega, by omega⟩
theorem toJointS_k (A : Option Addr) (c : Nat) (xs : List (Int × Int × Int)) (w : World) (hr : Rd w w.heap.size 3 jointC A xs) (hs : xs.length ≤ 1048576) :
    Calls Try.prog 9 #[.slice A xs.length c] w (GivesFlat w 62 3 jointC xs) := toJointS_any A c xs w hr hs
theorem eqJointS_k (A A' : Option Addr) (c c' : Nat) (xs : List (Int × Int × Int)) (w : World) (hr : Rd w w.heap.size 3 jointC A xs) (hr' : Rd w w.heap.size 3 jointC A' xs) (hs : xs.length ≤ 1048576) :
    Calls Try.prog 13 #[.slice A xs.length c, .slice A' xs.length c'] w fun e w' => e = .returned (.bool true) ∧ Below w.heap.size w w' := by
  have := eqJointS_any A A' c c' xs xs w hr hr' hs
  rwa [decide_eq_true (rfl : xs = xs)] at this
theorem markJointS_k (A : Option Addr) (c : Nat) (xs : List (Int × Int × Int)) (k : Int) (lo hi : Nat) (w : World) (hf : Flat w lo hi 62 3 jointC A xs) (hs : xs.length ≤ 1048576) (k0 : 0 < k) (k1 : k ≤ 900000000000000) :
    Calls Try.prog 15 #[.slice A xs.length c, .int .i64 k] w (MarkedOnly w lo hi k) := by
  refine (markJointS_any A c xs k lo hi w hf hs k0 (by omega)).mono ?_
  rintro e w' ⟨rfl, ho⟩
  exact ⟨_, rfl, by omega, by omega, ho⟩

end Go.Proofs.Ytioblfbhjkkgoaa

namespace Go.Proofs.Ytioblfbhjkkgoaa
set_option maxRecDepth 100000
open Go.RowKit Go.ChangeShapes Go.WideShapes Go.ChangeAt Go.Joins Go.Deep

theorem frontR_small (vs : List PartT) (js : List JointT) : SmallI (frontR vs js).1 := by
  unfold frontR
  split
  · rename_i hb
    have hp : partsB vs = true := by
      unfold bothB at hb
      simp only [Bool.and_eq_true] at hb
      exact hb.1
    have h1 := frontP_sub (pairsB vs js) (pairsB vs js)
    have h2 := allB_len js hp
    have h3 : (pairsB vs js).length = (allB vs js).length := by unfold pairsB; rw [List.length_map]
    refine ⟨by rw [List.length_map]; omega, fun r hr => ?_⟩
    obtain ⟨p, _, rfl⟩ := List.mem_map.1 hr
    simp [rowOfP]
  · exact ⟨by simp, fun r h => absurd h (by simp)⟩

set_option maxHeartbeats 1000000 in
theorem law_FnExactFrontier (A0 : Option Addr) (c0 : Nat) (xs0 : List PartT) (A1 : Option Addr) (c1 : Nat) (xs1 : List (Int × Int × Int)) (w : World) (hr0 : xs0.length ≤ maxLen ∧ (∀ x ∈ xs0, goodV x) ∧ RdV w w.heap.size A0 xs0) (hr1 : xs1.length ≤ maxLen ∧ (∀ x ∈ xs1, (fun _ => True) x) ∧ Rd w w.heap.size 3 jointC A1 xs1) :
    Calls Try.prog 3 #[.slice A0 xs0.length c0, .slice A1 xs1.length c1] w fun e w' => e = .returned (.bool true) ∧ Below w.heap.size w w' := by
  obtain ⟨hm0, hg0, hr0⟩ := hr0
  obtain ⟨hm1, hg1, hr1⟩ := hr1
  have Hg0 := Lib.hid hg0; clear hg0
  have Hg1 := Lib.hid hg1; clear hg1
  go_enter Try.func3, Try.ntmps3
  go_wp2_with fail
  have hbW := Below.refl w.heap.size w
  have sz0 := Nat.le_refl w.heap.size
  refine (szPartS_k A0 c0 xs0 1048576 _ ((hr0.below hbW).more hbW.size) hm0 Hg0.out (by omega) (by omega)).mono ?_
  rintro e w1 ⟨r1, rfl, hq1, hb1⟩
  have sz1 := hb1.size
  replace hbW := bthen' hbW hb1
  rcases hq1 with rfl | ⟨hq1, hl1, hS0⟩
  · go_wp2_with fail
    go_ret
    exact ⟨rfl, hbW⟩
  have HS0 := Lib.hid hS0; clear hS0
  go_wp2_with fail
  refine (szJointS_k A1 c1 xs1 r1 _ ((hr1.below hbW).more hbW.size) hm1 Hg1.out (by omega) (by omega)).mono ?_
  rintro e w2 ⟨r2, rfl, hq2, hb2⟩
  have sz2 := hb2.size
  replace hbW := bthen' hbW hb2
  rcases hq2 with rfl | ⟨hq2, hl2, hS1⟩
  · go_wp2_with fail
    go_ret
    exact ⟨rfl, hbW⟩
  have HS1 := Lib.hid hS1; clear hS1
  go_wp2_with fail
  have hSp := Lib.hid (fun A0' c0' A1' c1' v q0 q1 => Frontier_spec A0' A1' c0' c1' xs0 xs1 v q0 q1 HS0.out HS1.out)
  have hIm := Lib.hid (fun A0' c0' A1' c1' v q0 q1 => Frontier_impl A0' A1' c0' c1' xs0 xs1 v q0 q1 HS0.out HS1.out)
  have hSm := Lib.hid (frontR_small xs0 xs1)
  generalize frontR xs0 xs1 = res at hSp hIm hSm
  obtain ⟨y0, y1⟩ := res
  have hkv := (kI_bd y0 1 (fun x hx => hSm.out.2 x hx)).1
  refine (toPartS_k A0 c0 xs0 _ ((hr0.below hbW).more hbW.size) HS0.out).mono ?_
  rintro e w3 ⟨aA0, rfl, af0, hb3⟩
  have sz3 := hb3.size
  replace hbW := bthen' hbW hb3
  go_wp2_with fail
  refine (toJointS_k A1 c1 xs1 _ ((hr1.below hbW).more hbW.size) HS1.out).mono ?_
  rintro e w4 ⟨aA1, rfl, af1, hb4⟩
  have sz4 := hb4.size
  replace hbW := bthen' hbW hb4
  replace af0 := af0.below hb4 (by omega)
  go_wp2_with fail
  refine (hSp.out aA0 _ aA1 _ _ (af0.rd.more (by omega)) (af1.rd.more (by omega))).mono ?_
  rintro e w5 ⟨aG, ac, rfl, ag, -, hb5⟩
  have sz5 := hb5.size
  replace hbW := bthen' hbW hb5
  replace af0 := af0.below hb5 (by omega)
  replace af1 := af1.below hb5 (by omega)
  simp only at ag
  go_wp2_with fail
  clear af0 af1
  refine (toPartS_k A0 c0 xs0 _ ((hr0.below hbW).more hbW.size) HS0.out).mono ?_
  rintro e w6 ⟨bA0, rfl, bf0, hb6⟩
  have sz6 := hb6.size
  replace hbW := bthen' hbW hb6
  replace ag := ag.below hb6 (by omega)
  go_wp2_with fail
  refine (toJointS_k A1 c1 xs1 _ ((hr1.below hbW).more hbW.size) HS1.out).mono ?_
  rintro e w7 ⟨bA1, rfl, bf1, hb7⟩
  have sz7 := hb7.size
  replace hbW := bthen' hbW hb7
  replace ag := ag.below hb7 (by omega)
  replace bf0 := bf0.below hb7 (by omega)
  go_wp2_with fail
  refine (hIm.out bA0 _ bA1 _ _ (bf0.rd.more (by omega)) (bf1.rd.more (by omega))).mono ?_
  rintro e w8 ⟨bG, bc, rfl, bg, -, hb8⟩
  have sz8 := hb8.size
  replace hbW := bthen' hbW hb8
  replace ag := ag.below hb8 (by omega)
  replace bf0 := bf0.below hb8 (by omega)
  replace bf1 := bf1.below hb8 (by omega)
  simp only at bg
  go_wp2_with fail
  refine (eqInt64SS_r bG aG _ _ y0 _ (bg.rd.more (by omega)) (ag.rd.more (by omega)) hSm.out).mono ?_
  rintro e w9 ⟨rfl, hb9⟩
  have sz9 := hb9.size
  replace hbW := bthen' hbW hb9
  replace ag := ag.below hb9 (by omega)
  replace bf0 := bf0.below hb9 (by omega)
  replace bf1 := bf1.below hb9 (by omega)
  replace bg := bg.below hb9 (by omega)
  go_wp2_with fail
  refine (toPartS_k A0 c0 xs0 _ ((hr0.below hbW).more hbW.size) HS0.out).mono ?_
  rintro e w10 ⟨dA0, rfl, df0, hb10⟩
  have sz10 := hb10.size
  replace hbW := bthen' hbW hb10
  replace ag := ag.below hb10 (by omega)
  replace bf0 := bf0.below hb10 (by omega)
  replace bf1 := bf1.below hb10 (by omega)
  replace bg := bg.below hb10 (by omega)
  go_wp2_with fail
  refine (eqPartS_k bA0 dA0 _ _ xs0 _ (bf0.rd.more (by omega)) (df0.rd.more (by omega)) HS0.out).mono ?_
  rintro e w11 ⟨rfl, hb11⟩
  have sz11 := hb11.size
  replace hbW := bthen' hbW hb11
  replace ag := ag.below hb11 (by omega)
  replace bf0 := bf0.below hb11 (by omega)
  replace bf1 := bf1.below hb11 (by omega)
  replace bg := bg.below hb11 (by omega)
  clear df0
  go_wp2_with fail
  refine (toJointS_k A1 c1 xs1 _ ((hr1.below hbW).more hbW.size) HS1.out).mono ?_
  rintro e w12 ⟨dA1, rfl, df1, hb12⟩
  have sz12 := hb12.size
  replace hbW := bthen' hbW hb12
  replace ag := ag.below hb12 (by omega)
  replace bf0 := bf0.below hb12 (by omega)
  replace bf1 := bf1.below hb12 (by omega)
  replace bg := bg.below hb12 (by omega)
  go_wp2_with fail
  refine (eqJointS_k bA1 dA1 _ _ xs1 _ (bf1.rd.more (by omega)) (df1.rd.more (by omega)) HS1.out).mono ?_
  rintro e w13 ⟨rfl, hb13⟩
  have sz13 := hb13.size
  replace hbW := bthen' hbW hb13
  replace ag := ag.below hb13 (by omega)
  replace bf0 := bf0.below hb13 (by omega)
  replace bf1 := bf1.below hb13 (by omega)
  replace bg := bg.below hb13 (by omega)
  clear df1
  go_wp2_with fail
  refine (markPartS_k bA0 _ xs0 1 _ _ _ bf0 HS0.out (by omega) (by omega)).mono ?_
  rintro e w14 ⟨k14, rfl, kl14, ku14, ho14⟩
  have sz14 := ho14.size
  clear bf0
  replace hbW := hbW.trans (ho14.below (B := w.heap.size) (by omega) (by omega))
  replace ag := ag.only ho14 (by omega) (by omega)
  replace bf1 := bf1.only ho14 (by omega) (by omega)
  replace bg := bg.only ho14 (by omega) (by omega)
  go_wp2_with fail
  refine (markJointS_k bA1 _ xs1 k14 _ _ _ bf1 HS1.out (by omega) (by omega)).mono ?_
  rintro e w15 ⟨k15, rfl, kl15, ku15, ho15⟩
  have sz15 := ho15.size
  clear bf1
  replace hbW := hbW.trans (ho15.below (B := w.heap.size) (by omega) (by omega))
  replace ag := ag.only ho15 (by omega) (by omega)
  replace bg := bg.only ho15 (by omega) (by omega)
  go_wp2_with fail
  refine (eqInt64SS_r bG aG _ _ y0 _ (bg.rd.more (by omega)) (ag.rd.more (by omega)) hSm.out).mono ?_
  rintro e w16 ⟨rfl, hb16⟩
  have sz16 := hb16.size
  replace hbW := bthen' hbW hb16
  replace ag := ag.below hb16 (by omega)
  replace bg := bg.below hb16 (by omega)
  go_wp2_with fail
  refine (markInt64SS_r bG _ y0 _ _ _ bg hSm.out).mono ?_
  rintro e w17 ⟨rfl, ho17, mg⟩
  have sz17 := ho17.size
  clear bg
  replace hbW := hbW.trans (ho17.below (B := w.heap.size) (by omega) (by omega))
  replace ag := ag.only ho17 (by omega) (by omega)
  go_wp2_with fail
  refine (heldInt64SS_r bG _ y0 _ _ _ mg (by omega) hSm.out).mono ?_
  rintro e w18 ⟨rfl, hb18⟩
  have sz18 := hb18.size
  replace hbW := bthen' hbW hb18
  replace ag := ag.below hb18 (by omega)
  replace mg := mg.below hb18 (by omega)
  go_wp2_with fail
  refine (toPartS_k A0 c0 xs0 _ ((hr0.below hbW).more hbW.size) HS0.out).mono ?_
  rintro e w19 ⟨cA0, rfl, cf0, hb19⟩
  have sz19 := hb19.size
  replace hbW := bthen' hbW hb19
  replace ag := ag.below hb19 (by omega)
  replace mg := mg.below hb19 (by omega)
  go_wp2_with fail
  refine (toJointS_k A1 c1 xs1 _ ((hr1.below hbW).more hbW.size) HS1.out).mono ?_
  rintro e w20 ⟨cA1, rfl, cf1, hb20⟩
  have sz20 := hb20.size
  replace hbW := bthen' hbW hb20
  replace ag := ag.below hb20 (by omega)
  replace mg := mg.below hb20 (by omega)
  replace cf0 := cf0.below hb20 (by omega)
  go_wp2_with fail
  refine (hIm.out cA0 _ cA1 _ _ (cf0.rd.more (by omega)) (cf1.rd.more (by omega))).mono ?_
  rintro e w21 ⟨cG, cc, rfl, cg, -, hb21⟩
  have sz21 := hb21.size
  replace hbW := bthen' hbW hb21
  replace ag := ag.below hb21 (by omega)
  replace mg := mg.below hb21 (by omega)
  replace cf0 := cf0.below hb21 (by omega)
  replace cf1 := cf1.below hb21 (by omega)
  simp only at cg
  go_wp2_with fail
  refine (eqInt64SS_r cG aG _ _ y0 _ (cg.rd.more (by omega)) (ag.rd.more (by omega)) hSm.out).mono ?_
  rintro e w22 ⟨rfl, hb22⟩
  have sz22 := hb22.size
  replace hbW := bthen' hbW hb22
  replace ag := ag.below hb22 (by omega)
  replace mg := mg.below hb22 (by omega)
  replace cf0 := cf0.below hb22 (by omega)
  replace cf1 := cf1.below hb22 (by omega)
  replace cg := cg.below hb22 (by omega)
  go_wp2_with fail
  refine (heldInt64SS_r bG _ y0 _ _ _ mg (by omega) hSm.out).mono ?_
  rintro e w23 ⟨rfl, hb23⟩
  have sz23 := hb23.size
  replace hbW := bthen' hbW hb23
  replace ag := ag.below hb23 (by omega)
  replace mg := mg.below hb23 (by omega)
  replace cf0 := cf0.below hb23 (by omega)
  replace cf1 := cf1.below hb23 (by omega)
  replace cg := cg.below hb23 (by omega)
  go_wp2_with fail
  go_ret
  exact ⟨rfl, hbW⟩

set_option maxRecDepth 100000 in
theorem fnExactFrontier_lifted (os : Os) (started : os.Started) (H : Type) (enc : TypeId × Value → H) :
    ReturnsInHanded {} Try.checked os 3 .any (Rows.fnExactFrontierSpec.pre6 enc Try.prog Try.f3 Rows.fnExactFrontierRow.domain false) (Rows.fnExactFrontierSpec.post enc Try.prog Try.f3 false true false false) := by
  refine returnsInHanded_of_change (C := Try.checked) own started (by kernel_rfl) Try.func3
    (ChangeSpec.witness6 (enc := enc) (C := Try.checked) false ⟨#[], #[.slice none 0 0, .slice none 0 0], []⟩ 8 (by kernel_rfl) (by kernel_rfl) (by kernel_rfl) (by kernel_rfl)) ?_
  intro W base args ds gs before hval0 hW hcnd _
  have hval : ∀ (j : Nat) t v, Try.f3.params[j]? = some t → args[j]? = some v → Value.okWide Try.prog W .any base t v := hval0
  have hlt : ∀ x ∈ before, x.block < W.heap.size := fun x hx => hW.lt x hx
  have hW' := hW
  obtain ⟨p, q, hA0, hV, rfl, hfz, hnd⟩ := hW
  have hA : DataW.TrodAll enc Try.prog W 0 (fun _ => true) true Try.f3.params.toList args.toList ds p := hA0
  rw [Try.params3] at hA hval
  obtain ⟨v0, v1, d0, d1, p0, p1, rfl, rfl, rfl, h0, h1⟩ := trodAll_two hA
  obtain ⟨A0, k0, xs0, rfl, hr0⟩ := open_partsV (hval 0 22 v0 rfl rfl) h0
  obtain ⟨A1, k1, xs1, rfl, hr1⟩ := open_joints (hval 1 23 v1 rfl rfl) h1
  refine (law_FnExactFrontier A0 k0 xs0 A1 k1 xs1 W hr0 hr1).mono fun e W' ⟨he, hb⟩ => ?_
  subst he
  exact ⟨_, rfl, law_post (tb := 4) laidOut (by kernel_rfl) rfl rfl Try.underlying4 hW' rfl hb⟩
theorem fnExactFrontier_closed : joinedFacts Try.prog 3 Try.f3 Rows.fnExactFrontierSpec Rows.fnExactFrontierRow = true := by
  unfold joinedFacts; rw [mayEnter_yes, liftsFinal_no, make_cut]; kernel_rfl
theorem fnExactFrontier_holds : Rows.FnExactFrontierSaid :=
  OpenClaim.holds_of_wide 3 Try.f3 rfl rfl rfl rfl rfl rfl rfl ⟨rfl, rfl, rfl, rfl, rfl⟩ rfl rfl rfl rfl rfl (by kernel_rfl) Try.func3 fnExactFrontier_closed
    (of_decide_eq_true (by kernel_rfl)) (by unfold Func.isWrapper; rw [if_neg (of_decide_eq_false (by kernel_rfl))]; exact ⟨rfl, rfl⟩)
    (fun os started H enc _ => fnExactFrontier_lifted os started H enc)
#print axioms fnExactFrontier_holds

end Go.Proofs.Ytioblfbhjkkgoaa
