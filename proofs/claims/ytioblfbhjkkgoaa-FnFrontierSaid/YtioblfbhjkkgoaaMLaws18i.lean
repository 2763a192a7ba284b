/- DERIVED. The law on the frontier: what is dearer is lighter, and its first one is the cheapest bicycle. By program (laws18i.py). -/
import Derived.Test.YtioblfbhjkkgoaaFront
import Derived.Test.YtioblfbhjkkgoaaRowI
import Derived.Test.YtioblfbhjkkgoaaSrch
import Derived.Test.YtioblfbhjkkgoaaBest18
import Derived.Test.YtioblfbhjkkgoaaBestS
import Derived.Test.YtioblfbhjkkgoaaBikeS
import Derived.Test.YtioblfbhjkkgoaaSl
import Derived.Test.YtioblfbhjkkgoaaMDrF
import Derived.Test.YtioblfbhjkkgoaaOpen
import Derived.Test.YtioblfbhjkkgoaaHead
import Derived.Laws.IdiomCopy
import Derived.StillTailTactics
import Derived.Deep.RegionLaw
import Derived.Deep.CutRange
import Derived.Lib.SmallJoins
import Derived.Deep.Slices
import Derived.Deep.Fields
import Derived.ChangeMaps5
import Derived.Carry

namespace Go.Proofs.Ytioblfbhjkkgoaa
set_option maxRecDepth 100000
open Go.RowKit

theorem rowI_l (m : RowI) : (rowI m).length = 1 := rfl
/-- A row as a value. -/
def rvI (m : RowI) : Value := .slice m.A m.ns.length m.c
theorem flat_map_rowI : ∀ l : List RowI, l.flatMap rowI = l.map rvI
  | [] => rfl
  | x :: l => by rw [List.flatMap_cons, flat_map_rowI l]; rfl
/-- A row of a pair, its numbers in block x.1. -/
def pm (x : Nat × (Int × Int)) : RowI := ⟨some ⟨x.1, 0, none⟩, 2, [x.2.1, x.2.2]⟩
theorem pm_inj {x y : Nat × (Int × Int)} (h : pm x = pm y) : x = y := by
  obtain ⟨a, b, c⟩ := x
  obtain ⟨a', b', c'⟩ := y
  simp [pm] at h
  obtain ⟨rfl, rfl, rfl⟩ := h
  rfl
def nilRow : RowI := ⟨none, 0, []⟩

theorem Own.setI {w : World} {base g c i : Nat} {E : TypeId} {xs : List RowI} (h : Own w base E 1 rowI (some ⟨g, 0, none⟩) c xs) (_hi : i < xs.length) (v : RowI) : Own (w.setCell ⟨g, i, none⟩ (rvI v)) base E 1 rowI (some ⟨g, 0, none⟩) c (xs.set i v) := by
  refine ⟨by rw [flat_map_rowI, List.length_map, List.length_set, Nat.mul_one], ?_⟩
  rcases h.2 with ⟨h2, _⟩ | ⟨g', cap, cur, e, hB, hg, h3, h4, h5, h6⟩
  · cases h2
  · simp only [Value.slice.injEq, Option.some.injEq, Addr.mk.injEq] at e
    obtain ⟨⟨rfl, _⟩, _, rfl⟩ := e
    refine Or.inr ⟨g, c, cur.setIfInBounds i (rvI v), by rw [List.length_set], hB, by simp [World.setCell, Array.getElem?_modify, hg], by rw [List.length_set]; exact h3, h4, by simpa using h5, ?_⟩
    rw [flat_map_rowI] at h6 ⊢
    rw [List.map_set, ← h6, List.length_set, Nat.mul_one, Array.toList_setIfInBounds, List.take_set]
/-- The block of a slice of rows of the call's own that holds something. -/
theorem Own.someI {w : World} {base c : Nat} {E : TypeId} {A : Option Addr} {xs : List RowI} (h : Own w base E 1 rowI A c xs) (hp : 0 < xs.length) : ∃ g, A = some ⟨g, 0, none⟩ ∧ base ≤ g ∧ g < w.heap.size ∧ (∀ k x, xs[k]? = some x → w.cell? ⟨g, k, none⟩ = some (rvI x)) ∧ ∀ j, w.frozen? ⟨g, j, none⟩ = false := by
  obtain ⟨g, m, rfl, h1, h2, h3, h4, h5⟩ := h.flat rowI_l hp
  refine ⟨g, rfl, h1, h2, fun k x hx => ?_, fun j => h3.frozen j⟩
  have := h5 k x hx 0 _ rfl
  rw [Nat.mul_one, Nat.add_zero] at this
  exact this

def setManyI (xs : List RowI) (o : Nat) : List RowI → List RowI
  | [] => xs
  | v :: vs => setManyI (xs.set o v) (o + 1) vs
theorem setManyI_len : ∀ (vs xs : List RowI) (o : Nat), (setManyI xs o vs).length = xs.length
  | [], _, _ => rfl
  | v :: vs, xs, o => by
    unfold setManyI
    rw [setManyI_len vs, List.length_set]
theorem setManyI_eq : ∀ (vs xs : List RowI) (o : Nat), o + vs.length ≤ xs.length → setManyI xs o vs = xs.take o ++ vs ++ xs.drop (o + vs.length)
  | [], xs, o, _ => by simp [setManyI]
  | v :: vs, xs, o, h => by
    simp only [List.length_cons] at h
    unfold setManyI
    rw [setManyI_eq vs (xs.set o v) (o + 1) (by rw [List.length_set]; omega)]
    have e1 : (xs.set o v).take (o + 1) = xs.take o ++ [v] := by
      rw [List.take_succ_eq_append_getElem (by rw [List.length_set]; omega), List.getElem_set_self]
      congr 1
      rw [List.take_set_of_le (Nat.le_refl _)]
    have e2 : (xs.set o v).drop (o + 1 + vs.length) = xs.drop (o + (vs.length + 1)) := by
      rw [List.drop_set_of_lt (by omega), show o + 1 + vs.length = o + (vs.length + 1) by omega]
    rw [e1, e2]
    simp
theorem Own.setManyI {base g c : Nat} {E : TypeId} : ∀ (vs xs : List RowI) (w : World) (o : Nat), Own w base E 1 rowI (some ⟨g, 0, none⟩) c xs → o + vs.length ≤ xs.length → Own (w.setCells g o (vs.map rvI)) base E 1 rowI (some ⟨g, 0, none⟩) c (Go.Proofs.Ytioblfbhjkkgoaa.setManyI xs o vs)
  | [], _, _, _, h, _ => h
  | v :: vs, xs, w, o, h, hl => by
    simp only [List.length_cons] at hl
    exact Own.setManyI vs (xs.set o v) _ (o + 1) (h.setI (by omega) v) (by rw [List.length_set]; omega)
theorem belowI_setCells {B g : Nat} (hg : B ≤ g) : ∀ (vs : List Value) (w : World) (o : Nat), Below B w (w.setCells g o vs)
  | [], _, _ => Below.refl _ _
  | v :: vs, w, o => ((Below.refl B w).setCell (p := ⟨g, o, none⟩) hg v).trans (belowI_setCells hg vs _ (o + 1))
/-- Where the rows behind k move up by one and one is put at k. -/
theorem pushI_at {L : List RowI} {k : Nat} {x z : RowI} (hk : k ≤ L.length) : (setManyI (L ++ [z]) (k + 1) (L.drop k)).set k x = L.take k ++ x :: L.drop k := by
  rw [setManyI_eq _ _ _ (by rw [List.length_drop, List.length_append, List.length_singleton]; omega)]
  have e1 : k + 1 + (L.drop k).length = (L ++ [z]).length := by rw [List.length_drop, List.length_append, List.length_singleton]; omega
  rw [e1, List.drop_length, List.append_nil]
  have e2 : (L ++ [z]).take (k + 1) = L.take k ++ [(L ++ [z])[k]'(by rw [List.length_append, List.length_singleton]; omega)] := by
    rw [List.take_succ_eq_append_getElem (by rw [List.length_append, List.length_singleton]; omega), List.take_append_of_le_length hk]
  rw [e2]
  have hl : (L.take k).length = k := by rw [List.length_take]; omega
  generalize (L ++ [z])[k]'_ = u
  generalize L.take k = P at hl ⊢
  subst hl
  simp

/-- Pairs, each in a block from lo on. -/
def Pairs (w : World) (lo : Nat) (L : List (Nat × (Int × Int))) : Prop := ∀ x ∈ L, Flat w lo w.heap.size 2 1 nC (some ⟨x.1, 0, none⟩) [x.2.1, x.2.2]
section
variable {w w' : World} {lo : Nat} {L : List (Nat × (Int × Int))}
theorem Pairs.nil : Pairs w lo [] := fun _ h => absurd h (by simp)
theorem Pairs.next (h : Pairs w lo L) (hb : Below w.heap.size w w') : Pairs w' lo L := fun x hx => ((h x hx).below hb (Nat.le_refl _)).mono (Nat.le_refl _) hb.size
theorem Pairs.cells (h : Pairs w lo L) {x : Nat × (Int × Int)} (hx : x ∈ L) : w.cell? ⟨x.1, 0, none⟩ = some (.int .i64 x.2.1) ∧ w.cell? ⟨x.1, 1, none⟩ = some (.int .i64 x.2.2) := by
  obtain ⟨g, m, e, _, _, _, _, hc⟩ := h x hx (by simp)
  simp only [Option.some.injEq, Addr.mk.injEq] at e
  obtain ⟨e, _⟩ := e
  rw [e]
  have h0 := hc 0 _ rfl 0 _ rfl
  have h1 := hc 1 _ rfl 0 _ rfl
  simp at h0 h1
  exact ⟨h0, h1⟩
theorem Pairs.far {β : Type} {w4 : World} {sz' c base : Nat} {E' : TypeId} {f' : β → List Value} {B A2 : Option Addr} {ys : List β} (h : Pairs w lo L) (ho : Own w base E' sz' f' B c ys) (hE : E' ≠ 2) (hs : w.heap.size ≤ w4.heap.size)
    (hfar : ∀ g, g < w.heap.size → Apart B g → Apart A2 g ∧ w4.heap[g]? = w.heap[g]?) : Pairs w4 lo L := fun x hx => ((h x hx).farType ho hE (Nat.le_refl _) hfar).mono (Nat.le_refl _) hs
theorem Pairs.snoc {x : Nat × (Int × Int)} (h : Pairs w lo L) (hx : Flat w lo w.heap.size 2 1 nC (some ⟨x.1, 0, none⟩) [x.2.1, x.2.2]) : Pairs w lo (L ++ [x]) := fun y hy => by
  rcases List.mem_append.1 hy with hy | hy
  · exact h y hy
  · simp only [List.mem_singleton] at hy
    subst hy
    exact hx
end
theorem pair_made (w : World) (lo : Nat) (a b : Int) (h : lo ≤ w.heap.size) : Flat (w.alloc (.cells #[.int .i64 a, .int .i64 b] 2)) lo (w.alloc (.cells #[.int .i64 a, .int .i64 b] 2)).heap.size 2 1 nC (some ⟨w.heap.size, 0, none⟩) [a, b] := fun _ => by
  refine ⟨w.heap.size, 2, rfl, h, by simp, Row.new w _ _, by simp, fun k x hk j v hj => ?_⟩
  match k, hk with
  | 0, hk =>
    simp at hk
    subst hk
    match j, hj with
    | 0, hj =>
      simp [nC] at hj
      subst hj
      go_simp
    | j + 1, hj => simp [nC] at hj
  | 1, hk =>
    simp at hk
    subst hk
    match j, hj with
    | 0, hj =>
      simp [nC] at hj
      subst hj
      go_simp
    | j + 1, hj => simp [nC] at hj
  | k + 2, hk => simp at hk

/-- Beaten by one of the first j. -/
def beatTo (ps : List (Int × Int)) (a : Int × Int) (j : Nat) : Bool := (ps.take j).any fun b => beatsP b a
theorem beatTo_zero (ps : List (Int × Int)) (a : Int × Int) : beatTo ps a 0 = false := by simp [beatTo]
theorem beatTo_succ {ps : List (Int × Int)} {a b : Int × Int} {j : Nat} (h : ps[j]? = some b) : beatTo ps a (j + 1) = (beatTo ps a j || beatsP b a) := by
  unfold beatTo
  rw [List.take_add_one, h, List.any_append]
  simp
theorem beatTo_all {ps : List (Int × Int)} {a : Int × Int} {j : Nat} (h : ps.length ≤ j) : goodP ps a = !beatTo ps a j := by
  unfold beatTo goodP
  rw [List.take_of_length_le h]
  induction ps with
  | nil => rfl
  | cons b bs ih =>
    rw [List.all_cons, List.any_cons, ih (by simp at h; omega)]
    simp
theorem beats_yes {b a : Int × Int} (h : (b.1 < a.1 ∧ b.2 ≤ a.2) ∨ (b.2 < a.2 ∧ b.1 ≤ a.1)) : beatsP b a = true := decide_eq_true h
theorem beats_no {b a : Int × Int} (h : ¬ ((b.1 < a.1 ∧ b.2 ≤ a.2) ∨ (b.2 < a.2 ∧ b.1 ≤ a.1))) : beatsP b a = false := decide_eq_false h

/-- The rows kept of the first i pairs. -/
def FrontOk (Lp : List (Nat × (Int × Int))) (i : Nat) (M : List RowI) : Prop := ∃ L : List (Nat × (Int × Int)), M = L.map pm ∧ L.map Prod.snd = frontP (Lp.map Prod.snd) ((Lp.map Prod.snd).take i) ∧ ∀ x ∈ L, x ∈ Lp
section
variable {Lp : List (Nat × (Int × Int))} {i k : Nat} {M : List RowI} {x y : Nat × (Int × Int)}
theorem FrontOk.zero : FrontOk Lp 0 [] := ⟨[], rfl, by simp [frontP], fun _ h => absurd h (by simp)⟩
theorem FrontOk.len (h : FrontOk Lp i M) : M.length ≤ i := by
  obtain ⟨L, rfl, h1, _⟩ := h
  have h2 := congrArg List.length h1
  rw [List.length_map] at h2
  rw [List.length_map, h2]
  refine Nat.le_trans (frontP_sub _ _) ?_
  rw [List.length_take]
  omega
theorem FrontOk.row (h : FrontOk Lp i M) {m : RowI} (hm : M[k]? = some m) : ∃ x ∈ Lp, m = pm x := by
  obtain ⟨L, rfl, _, h2⟩ := h
  rw [List.getElem?_map, Option.map_eq_some_iff] at hm
  obtain ⟨x, hx, rfl⟩ := hm
  exact ⟨x, h2 x (List.mem_of_getElem? hx), rfl⟩
theorem front_next (hx : Lp[i]? = some x) : frontP (Lp.map Prod.snd) ((Lp.map Prod.snd).take (i + 1)) = if goodP (Lp.map Prod.snd) x.2 = true then insP x.2 (frontP (Lp.map Prod.snd) ((Lp.map Prod.snd).take i)) else frontP (Lp.map Prod.snd) ((Lp.map Prod.snd).take i) := by
  rw [List.take_add_one, List.getElem?_map, hx]
  exact frontP_snoc _ _ _
theorem FrontOk.bad (h : FrontOk Lp i M) (hx : Lp[i]? = some x) (hg : goodP (Lp.map Prod.snd) x.2 = false) : FrontOk Lp (i + 1) M := by
  obtain ⟨L, rfl, h1, h2⟩ := h
  refine ⟨L, rfl, ?_, h2⟩
  rw [front_next hx, hg, h1]
  rfl
theorem FrontOk.there (h : FrontOk Lp i M) (hx : Lp[i]? = some x) (hm : M[k]? = some (pm y)) (he : y.2.1 = x.2.1) : FrontOk Lp (i + 1) M := by
  obtain ⟨L, rfl, h1, h2⟩ := h
  refine ⟨L, rfl, ?_, h2⟩
  rw [front_next hx]
  split
  · rw [List.getElem?_map, Option.map_eq_some_iff] at hm
    obtain ⟨y', hy, e⟩ := hm
    obtain rfl := pm_inj e
    refine h1.trans (insP_there (k := k) (b := y'.2) (frontP_rise _ _) ?_ he).symm
    rw [← h1, List.getElem?_map, hy]
    rfl
  · exact h1
theorem FrontOk.put (h : FrontOk Lp i M) (hx : Lp[i]? = some x) (hg : goodP (Lp.map Prod.snd) x.2 = true) (hk : k ≤ M.length) (ha : ∀ y, 0 < k → M[k - 1]? = some (pm y) → y.2.1 < x.2.1) (hb : ∀ y, M[k]? = some (pm y) → x.2.1 < y.2.1) : FrontOk Lp (i + 1) (M.take k ++ pm x :: M.drop k) := by
  obtain ⟨L, rfl, h1, h2⟩ := h
  rw [List.length_map] at hk
  refine ⟨L.take k ++ x :: L.drop k, by simp, ?_, fun z hz => ?_⟩
  · rw [front_next hx, if_pos hg, ← h1, insP_at (k := k) (by rw [h1]; exact frontP_rise _ _) (by rw [List.length_map]; exact hk) (fun b h0 hb1 => ?_) (fun b hb1 => ?_)]
    · simp
    · rw [List.getElem?_map, Option.map_eq_some_iff] at hb1
      obtain ⟨z, hz, rfl⟩ := hb1
      exact ha z h0 (by rw [List.getElem?_map, hz]; rfl)
    · rw [List.getElem?_map, Option.map_eq_some_iff] at hb1
      obtain ⟨z, hz, rfl⟩ := hb1
      exact hb z (by rw [List.getElem?_map, hz]; rfl)
  · rcases List.mem_append.1 hz with hz | hz
    · exact h2 z (List.mem_of_mem_take hz)
    · rcases List.mem_cons.1 hz with rfl | hz
      · exact List.mem_of_getElem? hx
      · exact h2 z (List.mem_of_mem_drop hz)
end
/-- What Frontier returns. -/
def pairOf (vs : List PartT) (b : List ByteArray) : Int × Int := (priceB vs b, gramsB vs b)
def pairsB (vs : List PartT) (js : List JointT) : List (Int × Int) := (allB vs js).map (pairOf vs)
def rowOfP (p : Int × Int) : List Int := [p.1, p.2]
def frontR (vs : List PartT) (js : List JointT) : List (List Int) × Int := if bothB vs js = true then ((frontP (pairsB vs js) (pairsB vs js)).map rowOfP, 0) else ([], 1)
/-- The rows that are kept lie apart. -/
theorem FrontOk.flat {Lp : List (Nat × (Int × Int))} {i : Nat} {M : List RowI} {w : World} {lo : Nat} {A : Option Addr} (h : FrontOk Lp i M) (hp : Pairs w lo Lp) (ho : Flat w lo w.heap.size 47 1 rowI A M) : FlatI w lo w.heap.size A ((frontP (Lp.map Prod.snd) ((Lp.map Prod.snd).take i)).map rowOfP) := by
  obtain ⟨L, rfl, h1, h2⟩ := h
  refine ⟨L.map pm, ?_, ho, fun m hm => ?_, ?_⟩
  · rw [← h1, List.map_map, List.map_map]
    rfl
  · obtain ⟨x, hx, rfl⟩ := List.mem_map.1 hm
    exact hp x (h2 x hx)
  · rw [List.pairwise_map]
    have hr := frontP_rise (Lp.map Prod.snd) ((Lp.map Prod.snd).take i)
    rw [← h1] at hr
    unfold Rise at hr
    rw [List.pairwise_map] at hr
    refine List.Pairwise.imp_of_mem ?_ hr
    intro a b ha hb hlt _ _ e
    simp only [pm, Option.some.injEq, Addr.mk.injEq, and_true] at e
    have c1 := (hp.cells (h2 a ha)).1
    have c2 := (hp.cells (h2 b hb)).1
    rw [e, c2] at c1
    simp only [Option.some.injEq, Value.int.injEq, true_and] at c1
    omega

end Go.Proofs.Ytioblfbhjkkgoaa

namespace Go.Proofs.Ytioblfbhjkkgoaa
set_option maxRecDepth 100000
open Go.RowKit

section
variable {β : Type} {key : β → Int} {z : β}
theorem best_fold : ∀ (l : List β) (a : β × Int), 0 ≤ a.2 → a.2 = key a.1 → (∀ b ∈ l, 0 ≤ key b) →
    ((l.foldl (bestStep key) a).1 = a.1 ∨ (l.foldl (bestStep key) a).1 ∈ l) ∧ (l.foldl (bestStep key) a).2 = key (l.foldl (bestStep key) a).1 ∧ (l.foldl (bestStep key) a).2 ≤ a.2 ∧ ∀ b ∈ l, (l.foldl (bestStep key) a).2 ≤ key b
  | [], a, _, h1, _ => ⟨Or.inl rfl, h1, Int.le_refl _, fun b hb => absurd hb (by simp)⟩
  | b :: l, a, h0, h1, hk => by
    have hkb := hk b List.mem_cons_self
    have hkl : ∀ c ∈ l, 0 ≤ key c := fun c hc => hk c (List.mem_cons_of_mem _ hc)
    rw [List.foldl_cons]
    by_cases h : a.2 < 0 ∨ key b < a.2
    · rw [show bestStep key a b = (b, key b) from if_pos h]
      obtain ⟨i1, i2, i3, i4⟩ := best_fold l (b, key b) hkb rfl hkl
      refine ⟨?_, i2, by simp only at i3; omega, fun c hc => ?_⟩
      · rcases i1 with i1 | i1
        · exact Or.inr (by rw [i1]; exact List.mem_cons_self)
        · exact Or.inr (List.mem_cons_of_mem _ i1)
      · rcases List.mem_cons.1 hc with rfl | hc
        · exact i3
        · exact i4 c hc
    · rw [show bestStep key a b = a from if_neg h]
      obtain ⟨i1, i2, i3, i4⟩ := best_fold l a h0 h1 hkl
      refine ⟨?_, i2, i3, fun c hc => ?_⟩
      · rcases i1 with i1 | i1
        · exact Or.inl i1
        · exact Or.inr (List.mem_cons_of_mem _ i1)
      · rcases List.mem_cons.1 hc with rfl | hc
        · exact Int.le_trans i3 (by omega)
        · exact i4 c hc
theorem best_some {l : List β} (hk : ∀ b ∈ l, 0 ≤ key b) (hl : l ≠ []) : (bestOf key z l).1 ∈ l ∧ (bestOf key z l).2 = key (bestOf key z l).1 ∧ 0 ≤ (bestOf key z l).2 ∧ ∀ b ∈ l, (bestOf key z l).2 ≤ key b := by
  cases l with
  | nil => exact absurd rfl hl
  | cons b l =>
    have hkb := hk b List.mem_cons_self
    have hkl : ∀ c ∈ l, 0 ≤ key c := fun c hc => hk c (List.mem_cons_of_mem _ hc)
    have e : bestOf key z (b :: l) = l.foldl (bestStep key) (b, key b) := by
      unfold bestOf
      rw [List.foldl_cons, show bestStep key (z, -1) b = (b, key b) from if_pos (Or.inl (by simp only; omega))]
    rw [e]
    obtain ⟨i1, i2, i3, i4⟩ := best_fold l (b, key b) hkb rfl hkl
    have hmem : (l.foldl (bestStep key) (b, key b)).1 ∈ b :: l := by
      rcases i1 with i1 | i1
      · rw [i1]
        exact List.mem_cons_self
      · exact List.mem_cons_of_mem _ i1
    refine ⟨hmem, i2, ?_, fun c hc => ?_⟩
    · rw [i2]
      exact hk _ hmem
    · rcases List.mem_cons.1 hc with rfl | hc
      · exact i3
      · exact i4 c hc
theorem best_none : bestOf key z [] = (z, -1) := rfl
end
theorem fin_some {key : List ByteArray → Int} {l : List (List ByteArray)} (hk : ∀ b ∈ l, 0 ≤ key b) : (l = [] ∧ finR (bestOf key [] l) = ([], 0, 4)) ∨ (∃ b ∈ l, finR (bestOf key [] l) = (b, key b, 0) ∧ ∀ c ∈ l, key b ≤ key c) := by
  by_cases hl : l = []
  · subst hl
    exact Or.inl ⟨rfl, by unfold finR; rw [best_none, if_pos (by decide)]⟩
  · obtain ⟨i1, i2, i3, i4⟩ := best_some (key := key) (z := []) hk hl
    refine Or.inr ⟨_, i1, ?_, fun c hc => by rw [← i2]; exact i4 c hc⟩
    unfold finR
    rw [if_neg (by omega), i2]
theorem both_parts {vs : List PartT} {js : List JointT} (h : bothB vs js = true) : partsB vs = true := by
  unfold bothB at h
  simp only [Bool.and_eq_true] at h
  exact h.1
theorem insP_new {a : Int × Int} : ∀ (l : List (Int × Int)), ∃ z ∈ insP a l, z.1 = a.1
  | [] => ⟨a, by simp [insP], rfl⟩
  | b :: bs => by
    unfold insP
    split
    · obtain ⟨z, hz, h⟩ := insP_new (a := a) bs
      exact ⟨z, List.mem_cons_of_mem _ hz, h⟩
    · split
      · rename_i h
        exact ⟨b, List.mem_cons_self, h⟩
      · exact ⟨a, List.mem_cons_self, rfl⟩
theorem insP_old {a z : Int × Int} : ∀ {l : List (Int × Int)}, z ∈ l → z ∈ insP a l
  | [], h => absurd h (by simp)
  | b :: bs, h => by
    unfold insP
    split
    · rcases List.mem_cons.1 h with rfl | h
      · exact List.mem_cons_self
      · exact List.mem_cons_of_mem _ (insP_old h)
    · split
      · exact h
      · exact List.mem_cons_of_mem _ h
theorem front_mem (ps : List (Int × Int)) : ∀ (l acc : List (Int × Int)) (z : Int × Int), z ∈ l.foldl (fun out a => if goodP ps a = true then insP a out else out) acc → z ∈ acc ∨ (z ∈ l ∧ goodP ps z = true)
  | [], _, z, h => Or.inl h
  | a :: l, acc, z, h => by
    rw [List.foldl_cons] at h
    rcases front_mem ps l _ z h with h | ⟨h1, h2⟩
    · split at h
      · rename_i hg
        rcases insP_mem h with rfl | h
        · exact Or.inr ⟨List.mem_cons_self, hg⟩
        · exact Or.inl h
      · exact Or.inl h
    · exact Or.inr ⟨List.mem_cons_of_mem _ h1, h2⟩
theorem frontP_mem {ps l : List (Int × Int)} {z : Int × Int} (h : z ∈ frontP ps l) : z ∈ l ∧ goodP ps z = true := by
  rcases front_mem ps l [] z h with h | h
  · exact absurd h (by simp)
  · exact h
theorem front_has (ps : List (Int × Int)) : ∀ (l acc : List (Int × Int)) (b : Int × Int), ((b ∈ l ∧ goodP ps b = true) ∨ ∃ z ∈ acc, z.1 = b.1) → ∃ z ∈ l.foldl (fun out a => if goodP ps a = true then insP a out else out) acc, z.1 = b.1
  | [], acc, b, h => by
    rcases h with ⟨h, _⟩ | h
    · exact absurd h (by simp)
    · exact h
  | a :: l, acc, b, h => by
    rw [List.foldl_cons]
    refine front_has ps l _ b ?_
    rcases h with ⟨h, hg⟩ | ⟨z, hz, e⟩
    · rcases List.mem_cons.1 h with rfl | h
      · rw [if_pos hg]
        exact Or.inr (insP_new acc)
      · exact Or.inl ⟨h, hg⟩
    · refine Or.inr ⟨z, ?_, e⟩
      split
      · exact insP_old hz
      · exact hz
theorem good_not {ps : List (Int × Int)} {a b : Int × Int} (h : goodP ps a = true) (hb : b ∈ ps) : ¬ ((b.1 < a.1 ∧ b.2 ≤ a.2) ∨ (b.2 < a.2 ∧ b.1 ≤ a.1)) := by
  unfold goodP at h
  rw [List.all_eq_true] at h
  have := h b hb
  simp only [beatsP, Bool.not_eq_true', decide_eq_false_iff_not] at this
  exact this
theorem not_good {ps : List (Int × Int)} {a : Int × Int} (h : ¬ goodP ps a = true) : ∃ b ∈ ps, (b.1 < a.1 ∧ b.2 ≤ a.2) ∨ (b.2 < a.2 ∧ b.1 ≤ a.1) := by
  have h2 : goodP ps a = false := by simpa using h
  unfold goodP at h2
  rw [List.all_eq_false] at h2
  obtain ⟨b, hb, h3⟩ := h2
  refine ⟨b, hb, ?_⟩
  cases hbt : beatsP b a with
  | true => exact of_decide_eq_true hbt
  | false =>
    rw [hbt] at h3
    exact absurd rfl h3
/-- Each pair is no better than one that nothing beats. -/
theorem good_under {ps : List (Int × Int)} (h0 : ∀ a ∈ ps, 0 ≤ a.1 ∧ 0 ≤ a.2) : ∀ (n : Nat) (a : Int × Int), a ∈ ps → (a.1 + a.2).toNat ≤ n → ∃ b ∈ ps, goodP ps b = true ∧ b.1 ≤ a.1 ∧ b.2 ≤ a.2
  | n, a, ha, hn => by
    by_cases hg : goodP ps a = true
    · exact ⟨a, ha, hg, Int.le_refl _, Int.le_refl _⟩
    · obtain ⟨b, hb, hbt⟩ := not_good hg
      have ha0 := h0 a ha
      have hb0 := h0 b hb
      cases n with
      | zero => omega
      | succ n =>
        obtain ⟨c, hc, hcg, h1, h2⟩ := good_under h0 n b hb (by omega)
        exact ⟨c, hc, hcg, by omega, by omega⟩
theorem front_under {ps : List (Int × Int)} (h0 : ∀ a ∈ ps, 0 ≤ a.1 ∧ 0 ≤ a.2) {a : Int × Int} (ha : a ∈ ps) : ∃ b ∈ frontP ps ps, b.1 ≤ a.1 ∧ b.2 ≤ a.2 := by
  obtain ⟨b, hb, hg, h1, h2⟩ := good_under h0 _ a ha (Nat.le_refl _)
  obtain ⟨z, hz, e⟩ := front_has ps ps [] b (Or.inl ⟨hb, hg⟩)
  have hzm := frontP_mem hz
  have n1 := good_not hg hzm.1
  have n2 := good_not hzm.2 hb
  exact ⟨z, hz, by omega, by omega⟩
/-- What is dearer is lighter. -/
theorem front_fall {ps : List (Int × Int)} {i : Nat} {a b : Int × Int} (ha : (frontP ps ps)[i]? = some a) (hb : (frontP ps ps)[i + 1]? = some b) : a.1 < b.1 ∧ b.2 < a.2 := by
  have h1 := (frontP_rise ps ps).at ha hb (by omega)
  have h2 := frontP_mem (List.mem_of_getElem? hb)
  have h3 := frontP_mem (List.mem_of_getElem? ha)
  have := good_not h2.2 h3.1
  exact ⟨h1, by omega⟩
theorem front_grams {ps : List (Int × Int)} : ∀ (d i : Nat) {a b : Int × Int}, (frontP ps ps)[i]? = some a → (frontP ps ps)[i + d]? = some b → b.2 ≤ a.2
  | 0, i, a, b, ha, hb => by
    rw [Nat.add_zero, ha] at hb
    rw [Option.some.inj hb]
    exact Int.le_refl _
  | d + 1, i, a, b, ha, hb => by
    have hl := (List.getElem?_eq_some_iff.1 hb).1
    have hm : (frontP ps ps)[i + d]? = some ((frontP ps ps)[i + d]'(by omega)) := List.getElem?_eq_getElem (by omega)
    have h1 := front_grams d i ha hm
    have h2 := (front_fall hm (by rw [← hb]; congr 1)).2
    omega
/-- The first is the cheapest, the last the lightest. -/
theorem front_law (vs : List PartT) (js : List JointT) (h : (frontR vs js).2 = 0) : ∃ P : List (Int × Int), (frontR vs js).1 = P.map rowOfP ∧ P.length ≤ 131071 ∧ (∀ a ∈ P, 0 ≤ a.1 ∧ a.1 ≤ 80000000 ∧ 0 ≤ a.2 ∧ a.2 ≤ 80000000) ∧ (∀ i a b, P[i]? = some a → P[i + 1]? = some b → a.1 < b.1 ∧ b.2 < a.2) ∧
    ((P = [] ∧ (cheapR vs js).2.2 = 4) ∨ ∃ a b, 0 < P.length ∧ P[0]? = some a ∧ P[P.length - 1]? = some b ∧ (cheapR vs js).2.1 = a.1 ∧ (cheapR vs js).2.2 = 0 ∧ (lightR vs js 100000000).2.1 = b.2 ∧ (lightR vs js 100000000).2.2 = 0) := by
  unfold frontR at h ⊢
  by_cases hb : bothB vs js = true
  · rw [if_pos hb]
    have hbd : ∀ b ∈ allB vs js, (0 ≤ priceB vs b ∧ priceB vs b ≤ 80000000) ∧ 0 ≤ gramsB vs b ∧ gramsB vs b ≤ 80000000 := fun b hm =>
      ⟨priceB_bd (founds_codes (both_parts hb) hm), gramsB_bd (founds_codes (both_parts hb) hm)⟩
    have hps : ∀ a ∈ pairsB vs js, ∃ b ∈ allB vs js, a = (priceB vs b, gramsB vs b) := fun a ha => by
      obtain ⟨b, hm, rfl⟩ := List.mem_map.1 ha
      exact ⟨b, hm, rfl⟩
    have hin : ∀ b ∈ allB vs js, (priceB vs b, gramsB vs b) ∈ pairsB vs js := fun b hm => List.mem_map.2 ⟨b, hm, rfl⟩
    have h0 : ∀ a ∈ pairsB vs js, 0 ≤ a.1 ∧ 0 ≤ a.2 := fun a ha => by
      obtain ⟨b, hm, rfl⟩ := hps a ha
      exact ⟨(hbd b hm).1.1, (hbd b hm).2.1⟩
    have hlen : (frontP (pairsB vs js) (pairsB vs js)).length ≤ 131071 := by
      have h1 := frontP_sub (pairsB vs js) (pairsB vs js)
      have h2 := allB_len js (both_parts hb)
      have h3 : (pairsB vs js).length = (allB vs js).length := by unfold pairsB; rw [List.length_map]
      omega
    have ec : cheapR vs js = finR (bestOf (priceB vs) [] (allB vs js)) := by unfold cheapR; rw [if_pos hb]
    have el : lightR vs js 100000000 = finR (bestOf (gramsB vs) [] (allB vs js)) := by
      unfold lightR
      rw [if_pos hb, if_pos (by decide)]
      congr 2
      rw [List.filter_eq_self]
      intro b hm
      have := (hbd b hm).1.2
      simp only [decide_eq_true_eq]
      omega
    have HU := fun a (ha : a ∈ pairsB vs js) => front_under h0 ha
    have HM := fun z (hz : z ∈ frontP (pairsB vs js) (pairsB vs js)) => frontP_mem hz
    have HR := frontP_rise (pairsB vs js) (pairsB vs js)
    have HFa := fun i a b => front_fall (ps := pairsB vs js) (i := i) (a := a) (b := b)
    have HG := fun d i a b => front_grams (ps := pairsB vs js) d i (a := a) (b := b)
    generalize frontP (pairsB vs js) (pairsB vs js) = P at hlen HU HM HR HFa HG ⊢
    refine ⟨P, rfl, hlen, fun a ha => ?_, HFa, ?_⟩
    · obtain ⟨b, hm, rfl⟩ := hps a (HM a ha).1
      exact ⟨(hbd b hm).1.1, (hbd b hm).1.2, (hbd b hm).2.1, (hbd b hm).2.2⟩
    rw [ec, el]
    rcases fin_some (key := priceB vs) (l := allB vs js) (fun b hm => (hbd b hm).1.1) with ⟨hn, hc⟩ | ⟨b1, hm1, hc, hmin1⟩
    · refine Or.inl ⟨?_, by rw [hc]⟩
      cases P with
      | nil => rfl
      | cons z P =>
        obtain ⟨b, hm, _⟩ := hps z (HM z List.mem_cons_self).1
        rw [hn] at hm
        exact absurd hm (by simp)
    · rcases fin_some (key := gramsB vs) (l := allB vs js) (fun b hm => (hbd b hm).2.1) with ⟨hn, _⟩ | ⟨b2, hm2, hl, hmin2⟩
      · rw [hn] at hm1
        exact absurd hm1 (by simp)
      · rw [hc, hl]
        obtain ⟨z1, hz1, u1, _⟩ := HU _ (hin b1 hm1)
        obtain ⟨z2, hz2, _, u2⟩ := HU _ (hin b2 hm2)
        obtain ⟨i1, hi1⟩ := List.mem_iff_getElem?.1 hz1
        obtain ⟨i2, hi2⟩ := List.mem_iff_getElem?.1 hz2
        have hl1 := (List.getElem?_eq_some_iff.1 hi1).1
        have hl2 := (List.getElem?_eq_some_iff.1 hi2).1
        have hf : P[0]? = some (P[0]'(by omega)) := List.getElem?_eq_getElem (by omega)
        have hla : P[P.length - 1]? = some (P[P.length - 1]'(by omega)) := List.getElem?_eq_getElem (by omega)
        refine Or.inr ⟨_, _, by omega, hf, hla, ?_, rfl, ?_, rfl⟩
        · obtain ⟨b, hm, e⟩ := hps _ (HM _ (List.mem_of_getElem? hf)).1
          have k1 := hmin1 b hm
          have k2 : (P[0]'(by omega)).1 ≤ z1.1 := by
            by_cases e0 : i1 = 0
            · subst e0
              rw [hf] at hi1
              rw [Option.some.inj hi1]
              exact Int.le_refl _
            · exact Int.le_of_lt (HR.at hf hi1 (by omega))
          rw [e] at k2 ⊢
          simp only at u1 k2 ⊢
          omega
        · obtain ⟨b, hm, e⟩ := hps _ (HM _ (List.mem_of_getElem? hla)).1
          have k1 := hmin2 b hm
          have k2 := HG (P.length - 1 - i2) i2 z2 _ hi2 (by rw [show i2 + (P.length - 1 - i2) = P.length - 1 by omega]; exact hla)
          rw [e] at k2 ⊢
          simp only at u2 k2 ⊢
          omega
  · rw [if_neg hb] at h
    simp at h
/-- The i-th of rows of pairs. -/
theorem FlatI.pair {w : World} {lo hi b i : Nat} {P : List (Int × Int)} {a : Int × Int} (h : FlatI w lo hi (some ⟨b, 0, none⟩) (P.map rowOfP)) (ha : P[i]? = some a) : ∃ g c, w.cell? ⟨b, i, none⟩ = some (.slice (some ⟨g, 0, none⟩) 2 c) ∧ w.cell? ⟨g, 0, none⟩ = some (.int .i64 a.1) ∧ w.cell? ⟨g, 1, none⟩ = some (.int .i64 a.2) := by
  obtain ⟨ms, e, h1, h2⟩ := h
  have hm : (ms.map RowI.ns)[i]? = some (rowOfP a) := by rw [e, List.getElem?_map, ha]; rfl
  rw [List.getElem?_map, Option.map_eq_some_iff] at hm
  obtain ⟨m, hmi, hns⟩ := hm
  have hr := h2.flat m (List.mem_of_getElem? hmi)
  rw [hns] at hr
  obtain ⟨g, _, eg, _, _, _, _, hc⟩ := hr (by simp [rowOfP])
  have c0 := hc 0 a.1 rfl 0 _ rfl
  have c1 := hc 1 a.2 rfl 0 _ rfl
  obtain ⟨b', _, eb, _, _, _, _, hd⟩ := h1 (by have := (List.getElem?_eq_some_iff.1 hmi).1; omega)
  simp only [Option.some.injEq, Addr.mk.injEq] at eb
  obtain ⟨rfl, _⟩ := eb
  have h0 := hd i m hmi 0 _ rfl
  rw [Nat.mul_one, Nat.add_zero, hns, eg] at h0
  exact ⟨g, m.c, h0, by simpa using c0, by simpa using c1⟩
theorem FlatI.addr {w : World} {lo hi : Nat} {A : Option Addr} {P : List (Int × Int)} (h : FlatI w lo hi A (P.map rowOfP)) (hp : 0 < P.length) : ∃ b, A = some ⟨b, 0, none⟩ := by
  obtain ⟨ms, e, h1, _⟩ := h
  have hl : ms.length = P.length := by
    have := congrArg List.length e
    rwa [List.length_map, List.length_map] at this
  obtain ⟨b, _, e, _⟩ := h1 (by omega)
  exact ⟨b, e⟩

end Go.Proofs.Ytioblfbhjkkgoaa

namespace Go.Proofs.Ytioblfbhjkkgoaa
set_option maxRecDepth 100000
open Go.RowKit

set_option maxHeartbeats 4000000 in
theorem Frontier_impl (LA JA : Option Addr) (lc jc : Nat) (vs : List PartT) (js : List JointT) (w : World) (hr : RdV w w.heap.size LA vs) (hr2 : Rd w w.heap.size 3 jointC JA js) (hs : SmallV vs) (hm2 : js.length ≤ 1048576) :
    Calls Try.prog 10 #[.slice LA vs.length lc, .slice JA js.length jc] w (GivesI w (frontR vs js)) := by
  have hBo := areBoth_any LA JA lc jc vs js w hr hr2 hs hm2
  by_cases hb : bothB vs js = true
  · rw [hb] at hBo
    have HBo := Lib.hid hBo; clear hBo
    have HSu : Hid (∀ (v : World) (r : RowM), RdV v v.heap.size LA vs → Rd v v.heap.size 1 tC r.A r.bs → Codes vs r.bs → Calls Try.prog 32 #[.slice LA vs.length lc, .slice r.A r.bs.length r.c] v fun e w' => e = .returned (.tuple #[.int .i64 (priceB vs r.bs), .int .i64 (gramsB vs r.bs)]) ∧ Below v.heap.size v w') := fun v r h1 h2 h3 => buildSums_any LA r.A lc r.c vs r.bs v h1 h2 hs h3
    have HB : Hid (∀ v : World, RdV v v.heap.size LA vs → Rd v v.heap.size 3 jointC JA js → Calls Try.prog 31 #[.slice LA vs.length lc, .slice JA js.length jc] v (GivesRowsN v (allB vs js) (nodesOf (tr vs js)))) := fun v h1 h2 => bicycles_any LA JA lc jc vs js v h1 h2 hs hb
    have HCo : Hid (∀ b ∈ allB vs js, Codes vs b) := fun b hbm => founds_codes (bothB_true hb).1 hbm
    have hal := allB_len js (bothB_true hb).1
    have HR : Hid (frontR vs js = ((frontP (pairsB vs js) (pairsB vs js)).map rowOfP, 0)) := by unfold Hid frontR; rw [if_pos hb]
    rw [HR.out]
    clear HR hs hb hm2
    go_enter Try.func10, Try.ntmps10
    go_wp2_with fail
    refine HBo.out.mono ?_
    rintro e w0 ⟨rfl, hb1⟩
    go_wp2_with fail
    refine (HB.out w0 (hr.next hb1) (hr2.next hb1)).mono ?_
    rintro e w1 ⟨A, c, ms, rfl, hms, fms, rms, hb2⟩
    have hb12 := bthen hb1 hb2
    have HMS := Lib.hid hms
    have hml : ms.length ≤ 131071 := by
      rw [← List.length_map (f := RowM.bs), hms]
      exact hal
    have HF := Lib.hid fms
    have HRs := Lib.hid rms
    clear hms fms rms hal HB HBo hr2
    have Hr := Lib.hid (hr.next hb12); clear hr
    go_wp2_with fail
    go_loopw [8, 32] (fun o1 z wr => ∃ (n : Nat) (pA : Option Addr) (pc : Nat) (M : List RowI), n ≤ ms.length ∧ z = .int .i64 n ∧ o1 = .slice pA M.length pc ∧ M.length ≤ n ∧ Hid (M.length = n) ∧ Hid (∃ L : List (Nat × (Int × Int)), M = L.map pm ∧ L.map Prod.snd = ((allB vs js).take n).map (pairOf vs) ∧ Pairs wr w1.heap.size L) ∧ Own wr w1.heap.size 47 1 rowI pA pc M ∧ Below w1.heap.size w1 wr) (fun _ z _ => ms.length - (intOf z).toNat)
    case atStart => exact ⟨0, none, 0, [], Nat.zero_le _, rfl, rfl, Nat.le_refl _, rfl, ⟨[], rfl, by simp, Pairs.nil⟩, Own.nil, Below.refl _ _⟩
    case round =>
      obtain ⟨n, pA, pc, M, hn, rfl, rfl, hMl, HMn, HL, hown, hb⟩ := hrel
      have HO := Lib.hid hown; clear hown
      by_cases hlt : n < ms.length
      · have hx : ms[n]? = some ms[n] := List.getElem?_eq_getElem hlt
        obtain ⟨g, rfl⟩ := HF.out.some (by omega)
        have q0 := (HF.out.below hb (Nat.le_refl _)).cell1 hx rfl
        have hrow := HRs.out ms[n] (List.mem_of_getElem? hx)
        have hxa : (allB vs js)[n]? = some (ms[n]).bs := by
          rw [← HMS.out, List.getElem?_map, hx]
          rfl
        generalize ms[n] = y at hx q0 hrow hxa
        have hcy := HCo.out y.bs (List.mem_of_getElem? hxa)
        have HSy := Lib.hid (HSu.out wr y (Hr.out.next hb) ((hrow.1.rd.below hb).more hb.size) hcy)
        have HNx : Hid (((allB vs js).take (n + 1)).map (pairOf vs) = ((allB vs js).take n).map (pairOf vs) ++ [(priceB vs y.bs, gramsB vs y.bs)]) := by
          unfold Hid
          rw [List.take_add_one, hxa, List.map_append]
          rfl
        clear hx hcy hxa hrow
        generalize priceB vs y.bs = p at HSy HNx
        generalize gramsB vs y.bs = q at HSy HNx
        go_wp2_with fail
        refine HSy.out.mono ?_
        rintro e w3 ⟨rfl, hb3⟩
        have hbn := bthen hb hb3
        have hbw := bthen hb12 hbn
        have hbase : w1.heap.size ≤ w3.heap.size := hbn.size
        have HO3 := Lib.hid (HO.out.keep hb3)
        have HL3 : Hid (∃ L : List (Nat × (Int × Int)), M = L.map pm ∧ L.map Prod.snd = ((allB vs js).take n).map (pairOf vs) ∧ Pairs w3 w1.heap.size L) := by
          obtain ⟨L, e1, e2, e3⟩ := HL.out
          exact ⟨L, e1, e2, e3.next hb3⟩
        have HPm := Lib.hid (pair_made w3 w1.heap.size p q hbase)
        clear HO HL HSy HSu q0
        go_wp2_with (at_builtin; refine wpList_append_far rfl _ _ _ rfl w1.heap.size 47 (.slice none 0 0) 1 24 Try.underlying26 infoRowI rfl (by omega) (by omega) rowI M (pm (w3.heap.size, p, q)) pA pc rfl ((HO3.out.keep (balloc _ _)).keep (balloc _ _)) (w3.heap.size + 1) _ rfl rfl (one_cell (v := .slice (some ⟨w3.heap.size, 0, none⟩) 2 2) (by go_simp)) (by simp [rowI, pm]; rfl) (by omega) (by simp; omega) ?_)
        intro A4 c4 w4 hown4 hb4 hfar4
        have hs4 := hb4.size
        have HP4 : Hid (∃ L : List (Nat × (Int × Int)), M ++ [pm (w3.heap.size, p, q)] = L.map pm ∧ L.map Prod.snd = ((allB vs js).take (n + 1)).map (pairOf vs) ∧ Pairs w4 w1.heap.size L) := by
          obtain ⟨L, e1, e2, e3⟩ := HL3.out
          refine ⟨L ++ [(w3.heap.size, p, q)], by rw [e1]; simp, by rw [HNx.out, ← e2]; simp, ?_⟩
          have h1 : Pairs (w3.alloc (.cells #[.int .i64 p, .int .i64 q] 2)) w1.heap.size (L ++ [(w3.heap.size, p, q)]) := (e3.next (balloc _ _)).snoc HPm.out
          have h2 := h1.next (balloc _ (.cells #[.slice (some ⟨w3.heap.size, 0, none⟩) 2 2] 47))
          exact h2.far ((HO3.out.keep (balloc _ _)).keep (balloc _ _)) (by decide) hs4 (fun g hg => hfar4 g (by simpa using hg))
        have hb5 : Below w1.heap.size w1 w4 := ((hbn.alloc hbase _).alloc (by simp; omega) _).trans hb4
        have HO4 := Lib.hid hown4; clear hown4 hfar4
        go_wp2_with fail
        refine ⟨⟨n + 1, A4, c4, M ++ [pm (w3.heap.size, p, q)], by omega, by go_num, by simp, by simp; omega, (by have := HMn.out; unfold Hid; simp; omega), HP4.out, HO4.out, hb5⟩, by simp [intOf]; omega⟩
      · obtain rfl : n = ms.length := by omega
        obtain ⟨Lp, hMe, hL2, hPr⟩ := HL.out
        have hps : Lp.map Prod.snd = pairsB vs js := by
          rw [hL2, List.take_of_length_le (by rw [← HMS.out, List.length_map]; exact Nat.le_refl _)]
          rfl
        have hLn : Lp.length = M.length := by rw [hMe, List.length_map]
        have hMm := HMn.out
        have hbw2 := bthen hb12 hb
        have hsz := hb12.size
        have hfl : Flat wr w1.heap.size wr.heap.size 47 1 rowI pA M := HO.out.flat rowI_l
        have HLn := Lib.hid hLn
        have HFin : Hid (∀ (v : World) (A3 : Option Addr) (M3 : List RowI), FrontOk Lp M.length M3 → Below wr.heap.size wr v → Flat v w.heap.size v.heap.size 47 1 rowI A3 M3 → FlatI v w.heap.size v.heap.size A3 ((frontP (pairsB vs js) (pairsB vs js)).map rowOfP) ∧ ((frontP (pairsB vs js) (pairsB vs js)).map rowOfP).length = M3.length) := fun v A3 M3 h1 h2 h3 => by
          have hP2 : Pairs v w.heap.size Lp := fun x hx => ((hPr.next h2) x hx).mono hsz (Nat.le_refl _)
          have h4 := h1.flat hP2 h3
          have hlen := h1
          obtain ⟨L, rfl, e1, _⟩ := hlen
          rw [hps, List.take_of_length_le (by rw [← hps, List.length_map, hLn]; exact Nat.le_refl _)] at h4 e1
          refine ⟨h4, ?_⟩
          rw [← e1]
          simp
        have HPc : Hid (∀ (v : World) (j : Nat) (x : Nat × (Int × Int)), Below wr.heap.size wr v → Lp[j]? = some x → ∃ pg, pA = some ⟨pg, 0, none⟩ ∧ v.cell? ⟨pg, j, none⟩ = some (.slice (some ⟨x.1, 0, none⟩) 2 2)) := fun v j x h1 h2 => by
          have hj : M[j]? = some (pm x) := by rw [hMe, List.getElem?_map, h2]; rfl
          obtain ⟨pg, rfl⟩ := hfl.some (by have := (List.getElem?_eq_some_iff.1 hj).1; omega)
          exact ⟨pg, rfl, (hfl.below h1 (Nat.le_refl _)).cell1 hj rfl⟩
        have HOc : Hid (∀ (v : World) (x : Nat × (Int × Int)), Below wr.heap.size wr v → x ∈ Lp → v.cell? ⟨x.1, 0, none⟩ = some (.int .i64 x.2.1) ∧ v.cell? ⟨x.1, 1, none⟩ = some (.int .i64 x.2.2)) := fun v x h1 h2 => (hPr.next h1).cells h2
        have hMl : M.length ≤ 131071 := by have := HMn.out; omega
        clear hMm HMn hfl hPr hps hL2 hMe HL HO HSu hLn HCo HMS HRs HF Hr hb hb12
        generalize M.length = P at HLn HFin hMl ⊢
        obtain ⟨w2, rfl⟩ : ∃ w2, w2 = wr := ⟨_, rfl⟩
        go_wp2_with fail
        go_loopw [13, 51] (fun out z wr => ∃ (i : Nat) (A' : Option Addr) (c' : Nat) (M : List RowI), i ≤ P ∧ z = .int .i64 i ∧ out = .slice A' M.length c' ∧ Hid (FrontOk Lp i M) ∧ Own wr w2.heap.size 47 1 rowI A' c' M ∧ Below w2.heap.size w2 wr) (fun _ z _ => P - (intOf z).toNat)
        case atStart => exact ⟨0, none, 0, [], Nat.zero_le _, rfl, rfl, FrontOk.zero, Own.nil, Below.refl _ _⟩
        case round =>
          obtain ⟨i, A', c', M, hi, rfl, rfl, HF, hown, hb⟩ := hrel
          have HO := Lib.hid hown; clear hown
          have hMi := HF.out.len
          by_cases hlt : i < P
          · have hx : Lp[i]? = some (Lp[i]'(by have := HLn.out; omega)) := List.getElem?_eq_getElem _
            generalize Lp[i]'_ = x at hx
            have HX := Lib.hid hx; clear hx
            obtain ⟨pg, rfl, q0⟩ := HPc.out wr i x hb HX.out
            have HPd : Hid (∀ (v : World) (j : Nat) (y : Nat × (Int × Int)), Below w2.heap.size w2 v → Lp[j]? = some y → v.cell? ⟨pg, j, none⟩ = some (.slice (some ⟨y.1, 0, none⟩) 2 2)) := fun v j y h1 h2 => by
              obtain ⟨pg', e, h⟩ := HPc.out v j y h1 h2
              simp only [Option.some.injEq, Addr.mk.injEq] at e
              rw [e.1]
              exact h
            have HXc : Hid (∀ v : World, Below w2.heap.size w2 v → v.cell? ⟨x.1, 0, none⟩ = some (.int .i64 x.2.1) ∧ v.cell? ⟨x.1, 1, none⟩ = some (.int .i64 x.2.2)) := fun v h1 => HOc.out v x h1 (List.mem_of_getElem? HX.out)
            obtain ⟨wo, rfl⟩ : ∃ wo, wo = wr := ⟨_, rfl⟩
            go_wp2_with fail
            go_loopw [16, 57] (fun bo z wr => ∃ (j : Nat) (bt : Bool), j ≤ P ∧ z = .int .i64 j ∧ bo = .bool bt ∧ Hid (beatTo (Lp.map Prod.snd) x.2 j = bt) ∧ Below wo.heap.size wo wr) (fun _ z _ => P - (intOf z).toNat)
            case atStart => exact ⟨0, false, Nat.zero_le _, rfl, rfl, beatTo_zero _ _, Below.refl _ _⟩
            case round =>
              obtain ⟨j, bt, hj, rfl, rfl, Hbt, hbj⟩ := hrel
              have hbk := bthen' hb hbj
              by_cases hlt2 : j < P
              · have hy : Lp[j]? = some (Lp[j]'(by have := HLn.out; omega)) := List.getElem?_eq_getElem _
                generalize Lp[j]'_ = y at hy
                have HY := Lib.hid hy; clear hy
                have q1 := HPd.out wr j y hbk HY.out
                obtain ⟨cx0, cx1⟩ := HXc.out wr hbk
                obtain ⟨cy0, cy1⟩ := HOc.out wr y hbk (List.mem_of_getElem? HY.out)
                have HBs : Hid (beatTo (Lp.map Prod.snd) x.2 (j + 1) = (beatTo (Lp.map Prod.snd) x.2 j || beatsP y.2 x.2)) := beatTo_succ (by rw [List.getElem?_map, HY.out]; rfl)
                by_cases h1 : y.2.1 < x.2.1
                · by_cases h2 : y.2.2 ≤ x.2.2
                  · have HB1 : Hid (beatTo (Lp.map Prod.snd) x.2 (j + 1) = true) := by
                      unfold Hid
                      rw [HBs.out, beats_yes (by omega), Bool.or_true]
                    go_wp2_with fail
                    have dh1 : decide (y.2.1 < x.2.1) = true := by simp; omega
                    have dh2 : decide (y.2.2 ≤ x.2.2) = true := by simp; omega
                    go_quiet (fail)
                    go_wp2_with fail
                    exact ⟨⟨j + 1, true, by omega, by go_num, rfl, HB1.out, below_drewN hbj _⟩, by simp [intOf]; omega⟩
                  · have h3 : ¬ y.2.2 < x.2.2 := by omega
                    have HB1 : Hid (beatTo (Lp.map Prod.snd) x.2 (j + 1) = bt) := by
                      unfold Hid
                      rw [HBs.out, beats_no (by omega), Bool.or_false, Hbt.out]
                    go_wp2_with fail
                    have dh1 : decide (y.2.1 < x.2.1) = true := by simp; omega
                    have dh2 : decide (y.2.2 ≤ x.2.2) = false := by simp; omega
                    have dh3 : decide (y.2.2 < x.2.2) = false := by simp; omega
                    go_quiet (fail)
                    go_wp2_with fail
                    exact ⟨⟨j + 1, bt, by omega, by go_num, rfl, HB1.out, below_drewN hbj _⟩, by simp [intOf]; omega⟩
                · by_cases h3 : y.2.2 < x.2.2
                  · by_cases h4 : y.2.1 ≤ x.2.1
                    · have HB1 : Hid (beatTo (Lp.map Prod.snd) x.2 (j + 1) = true) := by
                        unfold Hid
                        rw [HBs.out, beats_yes (by omega), Bool.or_true]
                      go_wp2_with fail
                      have dh1 : decide (y.2.1 < x.2.1) = false := by simp; omega
                      have dh3 : decide (y.2.2 < x.2.2) = true := by simp; omega
                      have dh4 : decide (y.2.1 ≤ x.2.1) = true := by simp; omega
                      go_quiet (fail)
                      go_wp2_with fail
                      exact ⟨⟨j + 1, true, by omega, by go_num, rfl, HB1.out, below_drewN hbj _⟩, by simp [intOf]; omega⟩
                    · have HB1 : Hid (beatTo (Lp.map Prod.snd) x.2 (j + 1) = bt) := by
                        unfold Hid
                        rw [HBs.out, beats_no (by omega), Bool.or_false, Hbt.out]
                      go_wp2_with fail
                      have dh1 : decide (y.2.1 < x.2.1) = false := by simp; omega
                      have dh3 : decide (y.2.2 < x.2.2) = true := by simp; omega
                      have dh4 : decide (y.2.1 ≤ x.2.1) = false := by simp; omega
                      go_quiet (fail)
                      go_wp2_with fail
                      exact ⟨⟨j + 1, bt, by omega, by go_num, rfl, HB1.out, below_drewN hbj _⟩, by simp [intOf]; omega⟩
                  · have HB1 : Hid (beatTo (Lp.map Prod.snd) x.2 (j + 1) = bt) := by
                      unfold Hid
                      rw [HBs.out, beats_no (by omega), Bool.or_false, Hbt.out]
                    go_wp2_with fail
                    have dh1 : decide (y.2.1 < x.2.1) = false := by simp; omega
                    have dh3 : decide (y.2.2 < x.2.2) = false := by simp; omega
                    go_quiet (fail)
                    go_wp2_with fail
                    exact ⟨⟨j + 1, bt, by omega, by go_num, rfl, HB1.out, below_drewN hbj _⟩, by simp [intOf]; omega⟩
              · obtain rfl : j = P := by omega
                have HG : Hid (goodP (Lp.map Prod.snd) x.2 = !bt) := by
                  unfold Hid
                  rw [beatTo_all (j := j) (by rw [List.length_map, HLn.out]; exact Nat.le_refl _), Hbt.out]
                have HO1 := Lib.hid (HO.out.keep hbj)
                clear HO Hbt hbj
                cases bt with
                | true =>
                  have HF1 := Lib.hid (HF.out.bad HX.out HG.out)
                  go_wp2_with fail
                  exact ⟨⟨i + 1, A', c', M, by omega, by go_num, rfl, HF1.out, HO1.out, hbk⟩, by simp [intOf]; omega⟩
                | false =>
                  have Hgood : Hid (goodP (Lp.map Prod.snd) x.2 = true) := HG.out
                  go_wp2_with fail
                  go_loopw [19] (fun z wr => ∃ k : Nat, k ≤ M.length ∧ z = .int .i64 k ∧ Hid (∀ y, M[k]? = some (pm y) → x.2.1 < y.2.1) ∧ Own wr w2.heap.size 47 1 rowI A' c' M ∧ Below w2.heap.size w2 wr) (fun z _ => (intOf z).toNat)
                  case atStart => exact ⟨M.length, Nat.le_refl _, rfl, (fun y hy => by
                    have := (List.getElem?_eq_some_iff.1 hy).1
                    omega), HO1.out, hbk⟩
                  case round =>
                    obtain ⟨k, hk, rfl, Hg, hown, hbk⟩ := hrel
                    have HO2 := Lib.hid hown
                    obtain ⟨cx0, cx1⟩ := HXc.out wr hbk
                    by_cases hk0 : k = 0
                    · subst hk0
                      have HStop : Hid (∀ y, 0 < 0 → M[0 - 1]? = some (pm y) → y.2.1 < x.2.1) := fun y h => absurd h (by omega)
                      clear hown
                      go_wp2_with fail
                      have hdr : ∀ m, Below wr.heap.size wr (wr.drewN m) := fun m => below_drewN (Below.refl _ _) _
                      go_quiet (fail)
                      have HO3 := Lib.hid (HO2.out.keep (hdr nq))
                      have hb3 := bthen' hbk (hdr nq)
                      have cx0 := (HXc.out _ hb3).1
                      clear HO2 hbk hdr
                      generalize wr.drewN nq = wr at HO3 hb3 cx0 ⊢
                      have HO2 := HO3
                      have hbk := hb3
                      clear HO3 hb3
                      go_wp2_with fail
                      have hdr : ∀ m, Below wr.heap.size wr (wr.drewN m) := fun m => below_drewN (Below.refl _ _) _
                      go_quiet (fail)
                      have HO3 := Lib.hid (HO2.out.keep (hdr nq))
                      have hb3 := bthen' hbk (hdr nq)
                      have cx0 := (HXc.out _ hb3).1
                      have cx1 := (HXc.out _ hb3).2
                      generalize wr.drewN nq = w3 at HO3 hb3 cx0 cx1 ⊢
                      have hbase : w2.heap.size ≤ w3.heap.size := hb3.size
                      go_wp2_with (at_builtin; refine wpList_append_el rfl _ _ _ rfl w2.heap.size 47 (.slice none 0 0) 1 24 Try.underlying26 infoRowI rfl (by omega) (by omega) rowI M nilRow A' c' rfl (HO3.out.keep (balloc _ _)) w3.heap.size _ rfl rfl (one_cell (v := .slice none 0 0) (by go_simp)) (by simp [rowI, nilRow]; rfl) (by omega) (by simp; omega) ?_)
                      intro A4 c4 w4 hown4 _ hb4
                      obtain ⟨g4, rfl, hg41, hg42, hcell4, hfz4⟩ := hown4.someI (by simp)
                      have hcap4 := hown4.cap
                      rw [List.length_append, List.length_singleton] at hcap4
                      have HO4 := Lib.hid hown4
                      have hb04 : Below w2.heap.size w2 w4 := (hb3.alloc hbase _).trans hb4
                      have HC4 := Lib.hid hcell4
                      have HF4 := Lib.hid hfz4
                      clear hown4 hcell4 hfz4 cx0 cx1
                      go_upto_region 28 with (fail)
                      have hw1 : IntKind.i64.wrap 1 = 1 := IntWalk.i64_in _ (by omega)
                      have ht1 : ((1 : Int).toNat) = 1 := by omega
                      have hb2 : (1 : Int) ≤ (M.length : Int) + 1 := by omega
                      have hb3i : (0 : Int) ≤ (M.length : Int) + 1 := by omega
                      have hck : ¬ c4 = 0 := by omega
                      have HNew : Hid (FrontOk Lp (i + 1) ((setManyI (M ++ [nilRow]) (1) M).set 0 (pm x))) := by
                        unfold Hid
                        have pa := pushI_at (L := M) (k := 0) (x := pm x) (z := nilRow) (by omega)
                        rw [List.drop_zero] at pa
                        rw [pa]
                        have ia := HF.out.put HX.out Hgood.out (k := 0) (by omega) HStop.out Hg.out
                        rw [List.drop_zero] at ia
                        exact ia
                      by_cases hc1 : c4 = 1
                      · have hkL : 0 = M.length := by omega
                        subst hc1
                        have HO5 : Hid (Own w4.drew w2.heap.size 47 1 rowI (some ⟨g4, 0, none⟩) (1) (setManyI (M ++ [nilRow]) (1) M)) := by
                          unfold Hid
                          rw [show setManyI (M ++ [nilRow]) (1) M = M ++ [nilRow] from by rw [show M = [] from List.length_eq_zero_iff.1 (by omega)]; rfl]
                          exact HO4.out.keep (bdrew _)
                        have hb5 : Below w2.heap.size w2 w4.drew := bthen' hb04 (bdrew w4)
                        obtain ⟨g5, e5, _, hg52, hcell5, hfz5⟩ := HO5.out.someI (by rw [setManyI_len, List.length_append, List.length_singleton]; omega)
                        simp only [Option.some.injEq, Addr.mk.injEq] at e5
                        obtain ⟨rfl, _⟩ := e5
                        have c5 := hcell5 0 _ (List.getElem?_eq_getElem (by rw [setManyI_len, List.length_append, List.length_singleton]; omega))
                        have f5 := hfz5 0
                        generalize rvI ((setManyI (M ++ [nilRow]) (1) M)[0]'_) = u5 at c5
                        clear hcell5 hfz5
                        clear hkL
                        obtain rfl : M = [] := List.length_eq_zero_iff.1 (by omega)
                        have hcp := run_copy_none (P := Try.prog) w4.drew 26 26 3 47 (some ⟨g4, 0, none⟩) (some ⟨g4, 0, none⟩) 0 0 1 1 Try.underlying26 (by kernel_rfl) rfl
                        go_region_law (fail)
                        all_goals
                          go_wp2_with fail
                          refine ⟨⟨i + 1, some ⟨g4, 0, none⟩, 1, ((setManyI ([] ++ [nilRow]) (1) []).set 0 (pm x)), by omega, by go_num, by rw [List.length_set, setManyI_len, List.length_append, List.length_singleton] <;> rfl, HNew.out, HO5.out.setI (by rw [setManyI_len, List.length_append, List.length_singleton]; simp) _, hb5.setCell (p := ⟨g4, 0, none⟩) hg41 _⟩, by simp [intOf]; omega⟩
                      · have hcp := run_copy_cells (P := Try.prog) w4.drew 26 26 3 47 g4 (1) (M.length + 1 - (1)) (c4 - (1)) ⟨g4, 0, none⟩ (M.length + 1 - 0) (c4 - 0) (M.map rvI) Try.underlying26 (by kernel_rfl) (by simp only [List.length_map, Nat.min_def]; split <;> omega) (fun j v hv => by
                          rw [List.getElem?_map, Option.map_eq_some_iff] at hv
                          obtain ⟨z, hz, rfl⟩ := hv
                          have := HC4.out (j) z (by rw [List.getElem?_append_left (List.getElem?_eq_some_iff.1 hz).1]; exact hz)
                          rw [Addr.add_lit]
                          rw [Nat.zero_add]
                          exact this) (fun j hj => by
                          have hlt9 : 1 + j < (M ++ [nilRow]).length := by
                            rw [List.length_append, List.length_singleton]
                            simp only [List.length_map] at hj
                            omega
                          have := HC4.out (1 + j) _ (List.getElem?_eq_getElem hlt9)
                          exact Option.isSome_iff_exists.2 ⟨_, this⟩) (fun j _ => HF4.out _) (fun v hv => by
                          obtain ⟨z, _, rfl⟩ := List.mem_map.1 hv
                          rfl)
                        rw [show M.length + 1 - 1 = M.length by omega, Nat.sub_zero, Nat.sub_zero] at hcp
                        have HO5 : Hid (Own (w4.drew.setCells g4 (1) (M.map rvI)) w2.heap.size 47 1 rowI (some ⟨g4, 0, none⟩) c4 (setManyI (M ++ [nilRow]) (1) M)) := by
                          unfold Hid
                          exact Own.setManyI _ _ _ _ (HO4.out.keep (bdrew _)) (by rw [List.length_append, List.length_singleton]; omega)
                        have hb5 : Below w2.heap.size w2 (w4.drew.setCells g4 (1) (M.map rvI)) := (bthen' hb04 (bdrew w4)).trans (belowI_setCells hg41 _ _ _)
                        obtain ⟨g5, e5, _, hg52, hcell5, hfz5⟩ := HO5.out.someI (by rw [setManyI_len, List.length_append, List.length_singleton]; omega)
                        simp only [Option.some.injEq, Addr.mk.injEq] at e5
                        obtain ⟨rfl, _⟩ := e5
                        have c5 := hcell5 0 _ (List.getElem?_eq_getElem (by rw [setManyI_len, List.length_append, List.length_singleton]; omega))
                        have f5 := hfz5 0
                        generalize rvI ((setManyI (M ++ [nilRow]) (1) M)[0]'_) = u5 at c5
                        clear hcell5 hfz5
                        go_region_law (fail)
                        all_goals
                          go_wp2_with fail
                          refine ⟨⟨i + 1, some ⟨g4, 0, none⟩, c4, ((setManyI (M ++ [nilRow]) (1) M).set 0 (pm x)), by omega, by go_num, by rw [List.length_set, setManyI_len, List.length_append, List.length_singleton] <;> rfl, HNew.out, HO5.out.setI (by rw [setManyI_len, List.length_append, List.length_singleton]; omega) _, hb5.setCell (p := ⟨g4, 0, none⟩) hg41 _⟩, by simp [intOf]; omega⟩
                    · have hpk : 0 < k := by omega
                      have hLk : k - 1 < M.length := by omega
                      obtain ⟨g, rfl, hg1, hg2, hcell, _⟩ := hown.someI (by omega)
                      have hy : M[k - 1]? = some M[k - 1] := List.getElem?_eq_getElem hLk
                      have c1 := hcell (k - 1) _ hy
                      obtain ⟨y, hyL, ey⟩ := HF.out.row hy
                      rw [ey] at hy c1
                      change wr.cell? ⟨g, k - 1, none⟩ = some (.slice (some ⟨y.1, 0, none⟩) 2 2) at c1
                      obtain ⟨cy0, cy1⟩ := HOc.out wr y hbk hyL
                      have HYk := Lib.hid hy
                      have HYL := Lib.hid hyL
                      have HV : Hid (∀ z, M[k - 1]? = some (pm z) → z = y) := fun z h => by
                        rw [hy] at h
                        exact (pm_inj (Option.some.inj h)).symm
                      clear hcell hown hy hLk ey hyL
                      by_cases hvx : x.2.1 < y.2.1
                      · go_wp2_with fail
                        go_quiet (fail)
                        go_wp2_with fail
                        exact ⟨⟨k - 1, by omega, by congr 1; omega, fun z h => by rw [HV.out z h]; exact hvx, HO2.out.keep (below_drewN (Below.refl _ _) _), below_drewN hbk _⟩, by simp [intOf]; omega⟩
                      · by_cases heq : y.2.1 = x.2.1
                        · have hbe : (y.2.1 == x.2.1) = true := by simp [heq]
                          have HF1 := Lib.hid (HF.out.there HX.out HYk.out heq)
                          clear heq
                          go_wp2_with fail
                          go_quiet (fail)
                          go_wp2_with fail
                          go_quiet (fail)
                          go_wp2_with fail
                          exact ⟨⟨i + 1, _, c', M, by omega, by go_num, rfl, HF1.out, HO2.out.keep (below_drewN (Below.refl _ _) _), below_drewN hbk _⟩, by simp [intOf]; omega⟩
                        · have hbe : (y.2.1 == x.2.1) = false := by simp [heq]
                          have HStop : Hid (∀ z, 0 < k → M[k - 1]? = some (pm z) → z.2.1 < x.2.1) := fun z _ h => by
                            rw [HV.out z h]
                            omega
                          clear heq
                          go_wp2_with fail
                          have hdr : ∀ m, Below wr.heap.size wr (wr.drewN m) := fun m => below_drewN (Below.refl _ _) _
                          go_quiet (fail)
                          have HO3 := Lib.hid (HO2.out.keep (hdr nq))
                          have hb3 := bthen' hbk (hdr nq)
                          have cx0 := (HXc.out _ hb3).1
                          have c1 := ((hdr nq).cell (p := ⟨g, k - 1, none⟩) hg2).trans c1
                          have cy0 := (HOc.out _ y hb3 HYL.out).1
                          clear HO2 hbk hdr
                          generalize wr.drewN nq = wr at HO3 hb3 cx0 c1 cy0 ⊢
                          have HO2 := HO3
                          have hbk := hb3
                          clear HO3 hb3
                          go_wp2_with fail
                          have hdr : ∀ m, Below wr.heap.size wr (wr.drewN m) := fun m => below_drewN (Below.refl _ _) _
                          go_quiet (fail)
                          have HO3 := Lib.hid (HO2.out.keep (hdr nq))
                          have hb3 := bthen' hbk (hdr nq)
                          have cx0 := (HXc.out _ hb3).1
                          have cx1 := (HXc.out _ hb3).2
                          generalize wr.drewN nq = w3 at HO3 hb3 cx0 cx1 ⊢
                          have hbase : w2.heap.size ≤ w3.heap.size := hb3.size
                          go_wp2_with (at_builtin; refine wpList_append_el rfl _ _ _ rfl w2.heap.size 47 (.slice none 0 0) 1 24 Try.underlying26 infoRowI rfl (by omega) (by omega) rowI M nilRow (some ⟨g, 0, none⟩) c' rfl (HO3.out.keep (balloc _ _)) w3.heap.size _ rfl rfl (one_cell (v := .slice none 0 0) (by go_simp)) (by simp [rowI, nilRow]; rfl) (by omega) (by simp; omega) ?_)
                          intro A4 c4 w4 hown4 _ hb4
                          obtain ⟨g4, rfl, hg41, hg42, hcell4, hfz4⟩ := hown4.someI (by simp)
                          have hcap4 := hown4.cap
                          rw [List.length_append, List.length_singleton] at hcap4
                          have HO4 := Lib.hid hown4
                          have hb04 : Below w2.heap.size w2 w4 := (hb3.alloc hbase _).trans hb4
                          have HC4 := Lib.hid hcell4
                          have HF4 := Lib.hid hfz4
                          clear hown4 hcell4 hfz4 cx0 cx1
                          go_upto_region 28 with (fail)
                          have hw1 : IntKind.i64.wrap ((k : Int) + 1) = (k : Int) + 1 := IntWalk.i64_in _ (by omega)
                          have ht1 : ((k : Int) + 1).toNat = k + 1 := by omega
                          have hb1 : 0 ≤ (k : Int) + 1 := by omega
                          have hb2 : (k : Int) + 1 ≤ (M.length : Int) + 1 := by omega
                          have hb3i : (k : Int) ≤ (M.length : Int) + 1 := by omega
                          have hck : ¬ c4 = k := by omega
                          have HNew : Hid (FrontOk Lp (i + 1) ((setManyI (M ++ [nilRow]) (k + 1) (M.drop k)).set k (pm x))) := by
                            unfold Hid
                            rw [pushI_at (by omega)]
                            exact HF.out.put HX.out Hgood.out (by omega) HStop.out Hg.out
                          by_cases hc1 : c4 = k + 1
                          · have hkL : k = M.length := by omega
                            subst hc1
                            have HO5 : Hid (Own w4.drew w2.heap.size 47 1 rowI (some ⟨g4, 0, none⟩) (k + 1) (setManyI (M ++ [nilRow]) (k + 1) (M.drop k))) := by
                              unfold Hid
                              rw [show setManyI (M ++ [nilRow]) (k + 1) (M.drop k) = M ++ [nilRow] from by rw [show (M.drop k) = [] from List.drop_eq_nil_of_le (by omega)]; rfl]
                              exact HO4.out.keep (bdrew _)
                            have hb5 : Below w2.heap.size w2 w4.drew := bthen' hb04 (bdrew w4)
                            obtain ⟨g5, e5, _, hg52, hcell5, hfz5⟩ := HO5.out.someI (by rw [setManyI_len, List.length_append, List.length_singleton]; omega)
                            simp only [Option.some.injEq, Addr.mk.injEq] at e5
                            obtain ⟨rfl, _⟩ := e5
                            have c5 := hcell5 k _ (List.getElem?_eq_getElem (by rw [setManyI_len, List.length_append, List.length_singleton]; omega))
                            have f5 := hfz5 k
                            generalize rvI ((setManyI (M ++ [nilRow]) (k + 1) (M.drop k))[k]'_) = u5 at c5
                            clear hcell5 hfz5
                            have hcp := run_copy_none (P := Try.prog) w4.drew 26 26 3 47 (some ⟨g4, 0, none⟩) (some ⟨g4, M.length, none⟩) 0 0 1 1 Try.underlying26 (by kernel_rfl) rfl
                            have e1 : M.length + 1 - M.length = 1 := by omega
                            subst hkL
                            go_region_law (fail)
                            all_goals
                              go_wp2_with fail
                              refine ⟨⟨i + 1, some ⟨g4, 0, none⟩, (M.length + 1), ((setManyI (M ++ [nilRow]) (M.length + 1) (M.drop M.length)).set M.length (pm x)), by omega, by go_num, by rw [List.length_set, setManyI_len, List.length_append, List.length_singleton] <;> rfl, HNew.out, HO5.out.setI (by rw [setManyI_len, List.length_append, List.length_singleton]; omega) _, hb5.setCell (p := ⟨g4, M.length, none⟩) hg41 _⟩, by simp [intOf]; omega⟩
                          · have hcp := run_copy_cells (P := Try.prog) w4.drew 26 26 3 47 g4 (k + 1) (M.length + 1 - (k + 1)) (c4 - (k + 1)) ⟨g4, k, none⟩ (M.length + 1 - k) (c4 - k) ((M.map rvI).drop k) Try.underlying26 (by kernel_rfl) (by simp only [List.length_map, List.length_drop, Nat.min_def]; split <;> omega) (fun j v hv => by
                              rw [← List.map_drop] at hv
                              rw [List.getElem?_map, Option.map_eq_some_iff] at hv
                              obtain ⟨z, hz, rfl⟩ := hv
                              rw [List.getElem?_drop] at hz
                              have := HC4.out (k + j) z (by rw [List.getElem?_append_left (List.getElem?_eq_some_iff.1 hz).1]; exact hz)
                              rw [Addr.add_lit]
                              exact this) (fun j hj => by
                              have hlt9 : k + 1 + j < (M ++ [nilRow]).length := by
                                rw [List.length_append, List.length_singleton]
                                simp only [List.length_map, List.length_drop] at hj
                                omega
                              have := HC4.out (k + 1 + j) _ (List.getElem?_eq_getElem hlt9)
                              exact Option.isSome_iff_exists.2 ⟨_, this⟩) (fun j _ => HF4.out _) (fun v hv => by
                              obtain ⟨z, _, rfl⟩ := List.mem_map.1 (List.mem_of_mem_drop hv)
                              rfl)
                            rw [show M.length + 1 - (k + 1) = M.length - k by omega] at hcp
                            have HO5 : Hid (Own (w4.drew.setCells g4 (k + 1) ((M.map rvI).drop k)) w2.heap.size 47 1 rowI (some ⟨g4, 0, none⟩) c4 (setManyI (M ++ [nilRow]) (k + 1) (M.drop k))) := by
                              unfold Hid
                              rw [← List.map_drop]
                              exact Own.setManyI _ _ _ _ (HO4.out.keep (bdrew _)) (by rw [List.length_drop, List.length_append, List.length_singleton]; omega)
                            have hb5 : Below w2.heap.size w2 (w4.drew.setCells g4 (k + 1) ((M.map rvI).drop k)) := (bthen' hb04 (bdrew w4)).trans (belowI_setCells hg41 _ _ _)
                            obtain ⟨g5, e5, _, hg52, hcell5, hfz5⟩ := HO5.out.someI (by rw [setManyI_len, List.length_append, List.length_singleton]; omega)
                            simp only [Option.some.injEq, Addr.mk.injEq] at e5
                            obtain ⟨rfl, _⟩ := e5
                            have c5 := hcell5 k _ (List.getElem?_eq_getElem (by rw [setManyI_len, List.length_append, List.length_singleton]; omega))
                            have f5 := hfz5 k
                            generalize rvI ((setManyI (M ++ [nilRow]) (k + 1) (M.drop k))[k]'_) = u5 at c5
                            clear hcell5 hfz5
                            go_region_law (fail)
                            all_goals
                              go_wp2_with fail
                              refine ⟨⟨i + 1, some ⟨g4, 0, none⟩, c4, ((setManyI (M ++ [nilRow]) (k + 1) (M.drop k)).set k (pm x)), by omega, by go_num, by rw [List.length_set, setManyI_len, List.length_append, List.length_singleton] <;> rfl, HNew.out, HO5.out.setI (by rw [setManyI_len, List.length_append, List.length_singleton]; omega) _, hb5.setCell (p := ⟨g4, k, none⟩) hg41 _⟩, by simp [intOf]; omega⟩
          · obtain rfl : i = P := by omega
            have HFl := Lib.hid (HO.out.flat rowI_l)
            have HCp := Lib.hid HO.out.cap
            have hs2 := hbw2.size
            obtain ⟨hR1, hR2⟩ := HFin.out wr A' M HF.out hb (HFl.out.mono hs2 (Nat.le_refl _))
            have HR1 := Lib.hid hR1
            have HR2 := Lib.hid hR2
            clear hR1 hR2 HFin HF
            go_wp2_with fail
            go_ret2
            exact ⟨A', c', by rw [HR2.out]; rfl, HR1.out, by rw [HR2.out]; exact HCp.out, bthen hbw2 hb⟩
  · have HR : Hid (frontR vs js = ([], 1)) := by unfold Hid frontR; rw [if_neg hb]
    have hb' : bothB vs js = false := by simpa using hb
    rw [hb'] at hBo
    have HBo := Lib.hid hBo; clear hBo hb hb' hs hm2
    generalize frontR vs js = R at HR ⊢
    go_enter Try.func10, Try.ntmps10
    go_wp2_with fail
    refine HBo.out.mono ?_
    rintro e w1 ⟨rfl, hb1⟩
    go_wp2_with fail
    go_ret2
    exact ⟨none, 0, by rw [HR.out]; rfl, by rw [HR.out]; exact FlatI.nil, by rw [HR.out]; exact Nat.le_refl _, hb1⟩

end Go.Proofs.Ytioblfbhjkkgoaa

namespace Go.Proofs.Ytioblfbhjkkgoaa
set_option maxRecDepth 100000
open Go.RowKit

theorem rdI_drop {w : World} {B b o : Nat} {xs : List RowI} (h : Rd w B 1 rowI (some ⟨b, o, none⟩) xs) (k : Nat) : Rd w B 1 rowI (some ⟨b, o + k, none⟩) (xs.drop k) := fun hx => by
  rw [List.length_drop] at hx
  obtain ⟨b1, o1, e, hb, hc⟩ := h (by omega)
  simp only [Option.some.injEq, Addr.mk.injEq] at e
  obtain ⟨rfl, rfl, _⟩ := e
  refine ⟨b, o + k, rfl, hb, fun j x hj i v hi => ?_⟩
  rw [List.getElem?_drop] at hj
  have := hc (k + j) x hj i v hi
  rw [show o + k + j * 1 + i = o + (k + j) * 1 + i by omega]
  exact this
theorem Rd.takeI {w : World} {B : Nat} {A : Option Addr} {xs : List RowI} (h : Rd w B 1 rowI A xs) (k : Nat) : Rd w B 1 rowI A (xs.take k) := fun hx => by
  rw [List.length_take] at hx
  obtain ⟨b, o, e, hb, hc⟩ := h (by omega)
  refine ⟨b, o, e, hb, fun j x hj i v hi => hc j x ?_ i v hi⟩
  rw [List.getElem?_take] at hj
  split at hj
  · exact hj
  · exact absurd hj (by simp)

set_option maxHeartbeats 8000000 in
theorem Frontier_spec (LA JA : Option Addr) (lc jc : Nat) (vs : List PartT) (js : List JointT) (w : World) (hr : RdV w w.heap.size LA vs) (hr2 : Rd w w.heap.size 3 jointC JA js) (hs : SmallV vs) (hm2 : js.length ≤ 1048576) :
    Calls Try.prog 7 #[.slice LA vs.length lc, .slice JA js.length jc] w (GivesI w (frontR vs js)) := by
  have hCo := l18Code_any LA JA lc jc vs js w hr hr2 hs hm2
  by_cases hb : bothB vs js = true
  · rw [bothI_yes hb] at hCo
    have HCo := Lib.hid hCo; clear hCo
    have HA : Hid (∀ v : World, RdV v v.heap.size LA vs → Rd v v.heap.size 3 jointC JA js → Calls Try.prog 25 #[.slice LA vs.length lc, .slice JA js.length jc] v (GivesAllS v (allB vs js))) := fun v h1 h2 => l18All_any LA JA lc jc vs js v h1 h2 hs hb
    have HPs : Hid (∀ (v : World) (r : RowM), RdV v v.heap.size LA vs → Rd v v.heap.size 1 tC r.A r.bs → Codes vs r.bs → Calls Try.prog 26 #[.slice LA vs.length lc, .slice r.A r.bs.length r.c] v fun e w' => e = .returned (.int .i64 (priceB vs r.bs)) ∧ Below v.heap.size v w') := fun v r h1 h2 h3 => l17Price_any LA r.A lc r.c vs r.bs v h1 h2 hs h3
    have HGs : Hid (∀ (v : World) (r : RowM), RdV v v.heap.size LA vs → Rd v v.heap.size 1 tC r.A r.bs → Codes vs r.bs → Calls Try.prog 27 #[.slice LA vs.length lc, .slice r.A r.bs.length r.c] v fun e w' => e = .returned (.int .i64 (gramsB vs r.bs)) ∧ Below v.heap.size v w') := fun v r h1 h2 h3 => l17Grams_any LA r.A lc r.c vs r.bs v h1 h2 hs h3
    have HCc : Hid (∀ b ∈ allB vs js, Codes vs b) := fun b hbm => founds_codes (bothB_true hb).1 hbm
    have hal := allB_len js (bothB_true hb).1
    have HR : Hid (frontR vs js = ((frontP (pairsB vs js) (pairsB vs js)).map rowOfP, 0)) := by unfold Hid frontR; rw [if_pos hb]
    rw [HR.out]
    clear HR hs hb hm2
    go_enter Try.func7, Try.ntmps7
    go_wp2_with fail
    refine HCo.out.mono ?_
    rintro e w0 ⟨rfl, hb1⟩
    go_wp2_with fail
    refine (HA.out w0 (hr.next hb1) (hr2.next hb1)).mono ?_
    rintro e w1 ⟨A, c, ms, rfl, hms, fms, rms, hb2⟩
    have hb12 := bthen hb1 hb2
    have HMS := Lib.hid hms
    have hml : ms.length ≤ 131071 := by
      rw [← List.length_map (f := RowM.bs), hms]
      exact hal
    have HF := Lib.hid fms
    have HRs := Lib.hid rms
    clear hms fms rms hal HA HCo hr2
    have Hr := Lib.hid (hr.next hb12); clear hr
    have HO0 : Hid (Own (w1.alloc (.cells #[] 47)) w1.heap.size 47 1 rowI (some ⟨w1.heap.size, 0, none⟩) 0 ([] : List RowI)) := Own.made _ (Nat.le_refl _) rfl
    go_wp2_with fail
    go_loopw [8, 9] (fun o1 z wr => ∃ (n : Nat) (pA : Option Addr) (pc : Nat) (M : List RowI), n ≤ ms.length ∧ z = .int .i64 n ∧ o1 = .slice pA M.length pc ∧ M.length ≤ n ∧ Hid (M.length = n) ∧ Hid (∃ L : List (Nat × (Int × Int)), M = L.map pm ∧ L.map Prod.snd = ((allB vs js).take n).map (pairOf vs) ∧ Pairs wr w1.heap.size L) ∧ Own wr w1.heap.size 47 1 rowI pA pc M ∧ Below w1.heap.size w1 wr) (fun _ z _ => ms.length - (intOf z).toNat)
    case atStart => exact ⟨0, _, 0, [], Nat.zero_le _, rfl, rfl, Nat.le_refl _, rfl, ⟨[], rfl, by simp, Pairs.nil⟩, HO0.out, balloc w1 _⟩
    case round =>
      obtain ⟨n, pA, pc, M, hn, rfl, rfl, hMl, HMn, HL, hown, hb⟩ := hrel
      have HO := Lib.hid hown; clear hown
      by_cases hlt : n < ms.length
      · have hx : ms[n]? = some ms[n] := List.getElem?_eq_getElem hlt
        obtain ⟨g, rfl⟩ := HF.out.some (by omega)
        have HQ : Hid (∀ v : World, Below wr.heap.size wr v → v.cell? ⟨g, n, none⟩ = some (.slice (ms[n]).A (ms[n]).bs.length (ms[n]).c)) := fun v hv => (HF.out.below (bthen hb hv) (Nat.le_refl _)).cell1 hx rfl
        have hrow := HRs.out ms[n] (List.mem_of_getElem? hx)
        have hxa : (allB vs js)[n]? = some (ms[n]).bs := by
          rw [← HMS.out, List.getElem?_map, hx]
          rfl
        generalize ms[n] = y at hx HQ hrow hxa
        have hcy := HCc.out y.bs (List.mem_of_getElem? hxa)
        have HPy : Hid (∀ v : World, Below wr.heap.size wr v → Calls Try.prog 26 #[.slice LA vs.length lc, .slice y.A y.bs.length y.c] v fun e w' => e = .returned (.int .i64 (priceB vs y.bs)) ∧ Below v.heap.size v w') := fun v hv => HPs.out v y (Hr.out.next (bthen hb hv)) ((hrow.1.rd.below (bthen hb hv)).more (bthen hb hv).size) hcy
        have HGy : Hid (∀ v : World, Below wr.heap.size wr v → Calls Try.prog 27 #[.slice LA vs.length lc, .slice y.A y.bs.length y.c] v fun e w' => e = .returned (.int .i64 (gramsB vs y.bs)) ∧ Below v.heap.size v w') := fun v hv => HGs.out v y (Hr.out.next (bthen hb hv)) ((hrow.1.rd.below (bthen hb hv)).more (bthen hb hv).size) hcy
        have HNx : Hid (((allB vs js).take (n + 1)).map (pairOf vs) = ((allB vs js).take n).map (pairOf vs) ++ [(priceB vs y.bs, gramsB vs y.bs)]) := by
          unfold Hid
          rw [List.take_add_one, hxa, List.map_append]
          rfl
        have q0 := HQ.out wr (Below.refl _ _)
        clear hx hcy hxa hrow
        generalize priceB vs y.bs = p at HPy HNx
        generalize gramsB vs y.bs = q at HGy HNx
        have HStep : Hid (∀ (w4 w6 : World) (A4 : Option Addr) (c4 : Nat), Below wr.heap.size wr w4 → Own w6 w1.heap.size 47 1 rowI A4 c4 (M ++ [pm (w4.heap.size, p, q)]) → Below w1.heap.size ((w4.alloc (.cells #[.int .i64 p, .int .i64 q] 2)).alloc (.cells #[.slice (some ⟨w4.heap.size, 0, none⟩) 2 2] 47)) w6 → (∀ g, g < ((w4.alloc (.cells #[.int .i64 p, .int .i64 q] 2)).alloc (.cells #[.slice (some ⟨w4.heap.size, 0, none⟩) 2 2] 47)).heap.size → Apart pA g → Apart A4 g ∧ w6.heap[g]? = ((w4.alloc (.cells #[.int .i64 p, .int .i64 q] 2)).alloc (.cells #[.slice (some ⟨w4.heap.size, 0, none⟩) 2 2] 47)).heap[g]?) → (∃ L : List (Nat × (Int × Int)), M ++ [pm (w4.heap.size, p, q)] = L.map pm ∧ L.map Prod.snd = ((allB vs js).take (n + 1)).map (pairOf vs) ∧ Pairs w6 w1.heap.size L) ∧ Below w1.heap.size w1 w6) := fun w4 w6 A4 c4 h1 h2 h3 h4 => by
          obtain ⟨L, e1, e2, e3⟩ := HL.out
          have hbn := bthen hb h1
          have hbase : w1.heap.size ≤ w4.heap.size := hbn.size
          have hO4 := HO.out.keep h1
          refine ⟨⟨L ++ [(w4.heap.size, p, q)], by rw [e1]; simp, by rw [HNx.out, ← e2]; simp, ?_⟩, ((hbn.alloc hbase _).alloc (by simp; omega) _).trans h3⟩
          have k1 : Pairs (w4.alloc (.cells #[.int .i64 p, .int .i64 q] 2)) w1.heap.size (L ++ [(w4.heap.size, p, q)]) := ((e3.next h1).next (balloc _ _)).snoc (pair_made w4 w1.heap.size p q hbase)
          have k2 := k1.next (balloc _ (.cells #[.slice (some ⟨w4.heap.size, 0, none⟩) 2 2] 47))
          exact k2.far ((hO4.keep (balloc _ _)).keep (balloc _ _)) (by decide) h3.size h4
        have hbase : w1.heap.size ≤ wr.heap.size := hb.size
        go_wp2_with fail
        go_region_law (first
          | (go_simp; go_at_call 26; refine (HPy.out wr.drew (bdrew wr)).mono ?_; rintro e w3 ⟨rfl, hb3⟩; have hB3 : Below wr.heap.size wr w3 := bthen' (bdrew wr) hb3; have q3 := HQ.out w3 hB3; clear hb3; go_wp2_with fail)
          | (go_simp; go_at_call 27; refine (HGy.out w3 hB3).mono ?_; rintro e w4 ⟨rfl, hb4⟩; have hB4 : Below wr.heap.size wr w4 := bthen hB3 hb4; have q4 := HQ.out w4 hB4; clear hb4; go_wp2_with fail)
          | (refine step_append_el (by rfl) _ _ _ (by rfl) w1.heap.size 47 (.slice none 0 0) 1 24 Try.underlying26 infoRowI rfl (by omega) (by omega) rowI M (pm (w4.heap.size, p, q)) pA pc (by rfl) (((HO.out.keep hB4).keep (balloc _ _)).keep (balloc _ _)) (w4.heap.size + 1) _ (by rfl) (by simp) rowI_l (one_cell (v := .slice (some ⟨w4.heap.size, 0, none⟩) 2 2) (by go_simp)) rowI_one (by omega) (by have := hB4.size; simp; omega) ?_; rintro A6 c6 w6 hown6 hb6 hfar6; have hSt := Lib.hid (HStep.out w4 w6 A6 c6 hB4 hown6 hb6 (fun g hg => hfar6 g (by simpa using hg))); have HO6 := Lib.hid hown6; clear hown6 hb6 hfar6))
        all_goals
          go_wp2_with fail
          exact ⟨⟨n + 1, A6, c6, M ++ [pm (w4.heap.size, p, q)], by omega, by go_num, by simp, by simp; omega, (by have := HMn.out; unfold Hid; simp; omega), hSt.out.1, HO6.out, hSt.out.2⟩, by simp [intOf]; omega⟩
      · obtain rfl : n = ms.length := by omega
        obtain ⟨Lp, hMe, hL2, hPr⟩ := HL.out
        have hps : Lp.map Prod.snd = pairsB vs js := by
          rw [hL2, List.take_of_length_le (by rw [← HMS.out, List.length_map]; exact Nat.le_refl _)]
          rfl
        have hLn : Lp.length = M.length := by rw [hMe, List.length_map]
        have hMm := HMn.out
        have hbw2 := bthen hb12 hb
        have hsz := hb12.size
        have hfl : Flat wr w1.heap.size wr.heap.size 47 1 rowI pA M := HO.out.flat rowI_l
        have HLn := Lib.hid hLn
        have HFin : Hid (∀ (v : World) (A3 : Option Addr) (M3 : List RowI), FrontOk Lp M.length M3 → Below wr.heap.size wr v → Flat v w.heap.size v.heap.size 47 1 rowI A3 M3 → FlatI v w.heap.size v.heap.size A3 ((frontP (pairsB vs js) (pairsB vs js)).map rowOfP) ∧ ((frontP (pairsB vs js) (pairsB vs js)).map rowOfP).length = M3.length) := fun v A3 M3 h1 h2 h3 => by
          have hP2 : Pairs v w.heap.size Lp := fun x hx => ((hPr.next h2) x hx).mono hsz (Nat.le_refl _)
          have h4 := h1.flat hP2 h3
          have hlen := h1
          obtain ⟨L, rfl, e1, _⟩ := hlen
          rw [hps, List.take_of_length_le (by rw [← hps, List.length_map, hLn]; exact Nat.le_refl _)] at h4 e1
          refine ⟨h4, ?_⟩
          rw [← e1]
          simp
        have HPc : Hid (∀ (v : World) (j : Nat) (x : Nat × (Int × Int)), Below wr.heap.size wr v → Lp[j]? = some x → ∃ pg, pA = some ⟨pg, 0, none⟩ ∧ v.cell? ⟨pg, j, none⟩ = some (.slice (some ⟨x.1, 0, none⟩) 2 2)) := fun v j x h1 h2 => by
          have hj : M[j]? = some (pm x) := by rw [hMe, List.getElem?_map, h2]; rfl
          obtain ⟨pg, rfl⟩ := hfl.some (by have := (List.getElem?_eq_some_iff.1 hj).1; omega)
          exact ⟨pg, rfl, (hfl.below h1 (Nat.le_refl _)).cell1 hj rfl⟩
        have HOc : Hid (∀ (v : World) (x : Nat × (Int × Int)), Below wr.heap.size wr v → x ∈ Lp → v.cell? ⟨x.1, 0, none⟩ = some (.int .i64 x.2.1) ∧ v.cell? ⟨x.1, 1, none⟩ = some (.int .i64 x.2.2)) := fun v x h1 h2 => (hPr.next h1).cells h2
        have hMl : M.length ≤ 131071 := by have := HMn.out; omega
        clear hMm HMn hfl hPr hps hL2 hMe HL HO HPs HGs hLn HCc HMS HRs HF Hr hb hb12
        generalize M.length = P at HLn HFin hMl ⊢
        obtain ⟨wb, rfl⟩ : ∃ wb, wb = wr := ⟨_, rfl⟩
        have HO0 : Hid (Own (wb.alloc (.cells #[] 47)) wb.heap.size 47 1 rowI (some ⟨wb.heap.size, 0, none⟩) 0 ([] : List RowI)) := Own.made _ (Nat.le_refl _) rfl
        go_wp2_with fail
        go_loopw [10, 11] (fun out z wr => ∃ (i g c' : Nat) (M : List RowI), i ≤ P ∧ z = .int .i64 i ∧ out = .slice (some ⟨g, 0, none⟩) M.length c' ∧ Hid (FrontOk Lp i M) ∧ Own wr wb.heap.size 47 1 rowI (some ⟨g, 0, none⟩) c' M ∧ wb.heap.size ≤ g ∧ g < wr.heap.size ∧ Below wb.heap.size wb wr) (fun _ z _ => P - (intOf z).toNat)
        case atStart => exact ⟨0, wb.heap.size, 0, [], Nat.zero_le _, rfl, rfl, FrontOk.zero, HO0.out, Nat.le_refl _, by simp, balloc wb _⟩
        case round =>
          obtain ⟨i, g, c', M, hi, rfl, rfl, HF, hown, hgl, hgu, hb⟩ := hrel
          have HO := Lib.hid hown; clear hown
          have hMi := HF.out.len
          by_cases hlt : i < P
          · have hx : Lp[i]? = some (Lp[i]'(by have := HLn.out; omega)) := List.getElem?_eq_getElem _
            generalize Lp[i]'_ = x at hx
            have HX := Lib.hid hx; clear hx
            obtain ⟨pg, rfl, q0⟩ := HPc.out wr i x hb HX.out
            have HPd : Hid (∀ (v : World) (j : Nat) (y : Nat × (Int × Int)), Below wb.heap.size wb v → Lp[j]? = some y → v.cell? ⟨pg, j, none⟩ = some (.slice (some ⟨y.1, 0, none⟩) 2 2)) := fun v j y h1 h2 => by
              obtain ⟨pg', e, h⟩ := HPc.out v j y h1 h2
              simp only [Option.some.injEq, Addr.mk.injEq] at e
              rw [e.1]
              exact h
            have HXc : Hid (∀ v : World, Below wb.heap.size wb v → v.cell? ⟨x.1, 0, none⟩ = some (.int .i64 x.2.1) ∧ v.cell? ⟨x.1, 1, none⟩ = some (.int .i64 x.2.2)) := fun v h1 => HOc.out v x h1 (List.mem_of_getElem? HX.out)
            obtain ⟨wo, rfl⟩ : ∃ wo, wo = wr := ⟨_, rfl⟩
            go_wp2_with fail
            go_loopw [12, 14] (fun bo z wr => ∃ (j : Nat) (gt : Bool), j ≤ P ∧ z = .int .i64 j ∧ bo = .bool gt ∧ Hid (beatTo (Lp.map Prod.snd) x.2 j = !gt) ∧ Below wo.heap.size wo wr) (fun _ z _ => P - (intOf z).toNat)
            case atStart => exact ⟨0, true, Nat.zero_le _, rfl, rfl, beatTo_zero _ _, Below.refl _ _⟩
            case round =>
              obtain ⟨j, gt, hj, rfl, rfl, Hbt, hbj⟩ := hrel
              have hbk := bthen' hb hbj
              by_cases hlt2 : j < P
              · have hy : Lp[j]? = some (Lp[j]'(by have := HLn.out; omega)) := List.getElem?_eq_getElem _
                generalize Lp[j]'_ = y at hy
                have HY := Lib.hid hy; clear hy
                have q1 := HPd.out wr j y hbk HY.out
                have q2 := HPd.out wr i x hbk HX.out
                obtain ⟨cx0, cx1⟩ := HXc.out wr hbk
                obtain ⟨cy0, cy1⟩ := HOc.out wr y hbk (List.mem_of_getElem? HY.out)
                have HBs : Hid (beatTo (Lp.map Prod.snd) x.2 (j + 1) = (beatTo (Lp.map Prod.snd) x.2 j || beatsP y.2 x.2)) := beatTo_succ (by rw [List.getElem?_map, HY.out]; rfl)
                by_cases h1 : y.2.1 < x.2.1
                · by_cases h2 : y.2.2 ≤ x.2.2
                  · have HB1 : Hid (beatTo (Lp.map Prod.snd) x.2 (j + 1) = !false) := by
                      unfold Hid
                      rw [HBs.out, beats_yes (by omega), Bool.or_true] <;> rfl
                    go_wp2_with fail
                    go_quiet (fail)
                    go_wp2_with fail
                    have dh1 : decide (y.2.1 < x.2.1) = true := by simp; omega
                    have dh2 : decide (y.2.2 ≤ x.2.2) = true := by simp; omega
                    go_quiet (fail)
                    go_wp2_with fail
                    exact ⟨⟨j + 1, false, by omega, by go_num, rfl, HB1.out, below_drewN hbj _⟩, by simp [intOf]; omega⟩
                  · have h3 : ¬ y.2.2 < x.2.2 := by omega
                    have HB1 : Hid (beatTo (Lp.map Prod.snd) x.2 (j + 1) = !gt) := by
                      unfold Hid
                      rw [HBs.out, beats_no (by omega), Bool.or_false, Hbt.out] <;> rfl
                    go_wp2_with fail
                    go_quiet (fail)
                    go_wp2_with fail
                    have dh1 : decide (y.2.1 < x.2.1) = true := by simp; omega
                    have dh2 : decide (y.2.2 ≤ x.2.2) = false := by simp; omega
                    have dh3 : decide (y.2.2 < x.2.2) = false := by simp; omega
                    go_quiet (fail)
                    go_wp2_with fail
                    exact ⟨⟨j + 1, gt, by omega, by go_num, rfl, HB1.out, below_drewN hbj _⟩, by simp [intOf]; omega⟩
                · by_cases h3 : y.2.2 < x.2.2
                  · by_cases h4 : y.2.1 ≤ x.2.1
                    · have HB1 : Hid (beatTo (Lp.map Prod.snd) x.2 (j + 1) = !false) := by
                        unfold Hid
                        rw [HBs.out, beats_yes (by omega), Bool.or_true] <;> rfl
                      go_wp2_with fail
                      go_quiet (fail)
                      go_wp2_with fail
                      have dh1 : decide (y.2.1 < x.2.1) = false := by simp; omega
                      have dh3 : decide (y.2.2 < x.2.2) = true := by simp; omega
                      have dh4 : decide (y.2.1 ≤ x.2.1) = true := by simp; omega
                      go_quiet (fail)
                      go_wp2_with fail
                      exact ⟨⟨j + 1, false, by omega, by go_num, rfl, HB1.out, below_drewN hbj _⟩, by simp [intOf]; omega⟩
                    · have HB1 : Hid (beatTo (Lp.map Prod.snd) x.2 (j + 1) = !gt) := by
                        unfold Hid
                        rw [HBs.out, beats_no (by omega), Bool.or_false, Hbt.out] <;> rfl
                      go_wp2_with fail
                      go_quiet (fail)
                      go_wp2_with fail
                      have dh1 : decide (y.2.1 < x.2.1) = false := by simp; omega
                      have dh3 : decide (y.2.2 < x.2.2) = true := by simp; omega
                      have dh4 : decide (y.2.1 ≤ x.2.1) = false := by simp; omega
                      go_quiet (fail)
                      go_wp2_with fail
                      exact ⟨⟨j + 1, gt, by omega, by go_num, rfl, HB1.out, below_drewN hbj _⟩, by simp [intOf]; omega⟩
                  · have HB1 : Hid (beatTo (Lp.map Prod.snd) x.2 (j + 1) = !gt) := by
                      unfold Hid
                      rw [HBs.out, beats_no (by omega), Bool.or_false, Hbt.out] <;> rfl
                    go_wp2_with fail
                    go_quiet (fail)
                    go_wp2_with fail
                    have dh1 : decide (y.2.1 < x.2.1) = false := by simp; omega
                    have dh3 : decide (y.2.2 < x.2.2) = false := by simp; omega
                    go_quiet (fail)
                    go_wp2_with fail
                    exact ⟨⟨j + 1, gt, by omega, by go_num, rfl, HB1.out, below_drewN hbj _⟩, by simp [intOf]; omega⟩
              · obtain rfl : j = P := by omega
                have HG : Hid (goodP (Lp.map Prod.snd) x.2 = gt) := by
                  unfold Hid
                  rw [beatTo_all (j := j) (by rw [List.length_map, HLn.out]; exact Nat.le_refl _), Hbt.out, Bool.not_not]
                have HO1 := Lib.hid (HO.out.keep hbj)
                have hgu1 := Nat.lt_of_lt_of_le hgu hbj.size
                clear HO Hbt hbj
                have HO := HO1
                cases gt with
                | false =>
                  go_wp2_with fail
                  go_loopw [13] (fun z wr => ∃ k : Nat, k ≤ M.length ∧ z = .int .i64 k ∧ Hid (∀ y, 0 < k → M[k - 1]? = some (pm y) → y.2.1 < x.2.1) ∧ Own wr wb.heap.size 47 1 rowI (some ⟨g, 0, none⟩) c' M ∧ g < wr.heap.size ∧ Below wb.heap.size wb wr) (fun z _ => M.length - (intOf z).toNat)
                  case atStart => exact ⟨0, Nat.zero_le _, rfl, (fun y h => absurd h (by omega)), HO1.out, hgu1, hbk⟩
                  case round =>
                    obtain ⟨k, hk, rfl, Hg, hown, hgr, hbk⟩ := hrel
                    have HO2 := Lib.hid hown
                    obtain ⟨cx0, cx1⟩ := HXc.out wr hbk
                    have q0 := HPd.out wr i x hbk HX.out
                    by_cases hkl : k < M.length
                    · have hy : M[k]? = some M[k] := List.getElem?_eq_getElem hkl
                      have c1 := (hown.flat rowI_l).cell1 hy rfl
                      obtain ⟨y, hyL, ey⟩ := HF.out.row hy
                      rw [ey] at hy c1
                      change wr.cell? ⟨g, k, none⟩ = some (.slice (some ⟨y.1, 0, none⟩) 2 2) at c1
                      obtain ⟨cy0, cy1⟩ := HOc.out wr y hbk hyL
                      have HYk := Lib.hid hy
                      have HYL := Lib.hid hyL
                      have HV : Hid (∀ z, M[k]? = some (pm z) → z = y) := fun z h => by
                        rw [hy] at h
                        exact (pm_inj (Option.some.inj h)).symm
                      clear hown hy ey hyL
                      by_cases hvx : y.2.1 < x.2.1
                      · go_wp2_with fail
                        go_quiet (fail)
                        go_wp2_with fail
                        exact ⟨⟨k + 1, by omega, by go_num, fun z _ h => by rw [HV.out z (by simpa using h)]; exact hvx, HO2.out.keep (below_drewN (Below.refl _ _) _), Nat.lt_of_lt_of_le hgr (below_drewN (Below.refl wr.heap.size _) _).size, below_drewN hbk _⟩, by simp [intOf]; omega⟩
                      · have HF1 := Lib.hid (HF.out.bad HX.out HG.out)
                        go_wp2_with fail
                        have dvx : decide (y.2.1 < x.2.1) = false := by simp; omega
                        go_quiet (fail)
                        go_wp2_with fail
                        go_quiet (fail)
                        go_wp2_with fail
                        exact ⟨⟨i + 1, g, c', M, by omega, by go_num, rfl, HF1.out, HO2.out.keep (below_drewN (Below.refl _ _) _), hgl, Nat.lt_of_lt_of_le hgr (below_drewN (Below.refl wr.heap.size _) _).size, below_drewN hbk _⟩, by simp [intOf]; omega⟩
                    · obtain rfl : k = M.length := by omega
                      have HF1 := Lib.hid (HF.out.bad HX.out HG.out)
                      clear hown
                      go_wp2_with fail
                      go_quiet (fail)
                      go_wp2_with fail
                      go_quiet (fail)
                      go_wp2_with fail
                      exact ⟨⟨i + 1, g, c', M, by omega, by go_num, rfl, HF1.out, HO2.out.keep (below_drewN (Below.refl _ _) _), hgl, Nat.lt_of_lt_of_le hgr (below_drewN (Below.refl wr.heap.size _) _).size, below_drewN hbk _⟩, by simp [intOf]; omega⟩
                | true =>
                  have Hgood : Hid (goodP (Lp.map Prod.snd) x.2 = true) := HG.out
                  go_wp2_with fail
                  go_loopw [13] (fun z wr => ∃ k : Nat, k ≤ M.length ∧ z = .int .i64 k ∧ Hid (∀ y, 0 < k → M[k - 1]? = some (pm y) → y.2.1 < x.2.1) ∧ Own wr wb.heap.size 47 1 rowI (some ⟨g, 0, none⟩) c' M ∧ g < wr.heap.size ∧ Below wb.heap.size wb wr) (fun z _ => M.length - (intOf z).toNat)
                  case atStart => exact ⟨0, Nat.zero_le _, rfl, (fun y h => absurd h (by omega)), HO1.out, hgu1, hbk⟩
                  case round =>
                    obtain ⟨k, hk, rfl, Hg, hown, hgr, hbk⟩ := hrel
                    have HO2 := Lib.hid hown
                    obtain ⟨cx0, cx1⟩ := HXc.out wr hbk
                    have q0 := HPd.out wr i x hbk HX.out
                    by_cases hkl : k < M.length
                    · have hy : M[k]? = some M[k] := List.getElem?_eq_getElem hkl
                      have c1 := (hown.flat rowI_l).cell1 hy rfl
                      obtain ⟨y, hyL, ey⟩ := HF.out.row hy
                      rw [ey] at hy c1
                      change wr.cell? ⟨g, k, none⟩ = some (.slice (some ⟨y.1, 0, none⟩) 2 2) at c1
                      obtain ⟨cy0, cy1⟩ := HOc.out wr y hbk hyL
                      have HYk := Lib.hid hy
                      have HYL := Lib.hid hyL
                      have HV : Hid (∀ z, M[k]? = some (pm z) → z = y) := fun z h => by
                        rw [hy] at h
                        exact (pm_inj (Option.some.inj h)).symm
                      clear hown hy ey hyL
                      by_cases hvx : y.2.1 < x.2.1
                      · go_wp2_with fail
                        go_quiet (fail)
                        go_wp2_with fail
                        exact ⟨⟨k + 1, by omega, by go_num, fun z _ h => by rw [HV.out z (by simpa using h)]; exact hvx, HO2.out.keep (below_drewN (Below.refl _ _) _), Nat.lt_of_lt_of_le hgr (below_drewN (Below.refl wr.heap.size _) _).size, below_drewN hbk _⟩, by simp [intOf]; omega⟩
                      · by_cases heq : y.2.1 = x.2.1
                        · have HF1 := Lib.hid (HF.out.there HX.out HYk.out heq)
                          have Heq := Lib.hid heq
                          go_wp2_with fail
                          have dvx : decide (y.2.1 < x.2.1) = false := by simp; omega
                          clear heq
                          go_quiet (fail)
                          go_wp2_with fail
                          have hke : ((k : Int) == (M.length : Int)) = false := by simp; omega
                          have hbe : (y.2.1 != x.2.1) = false := by simp [Heq.out]
                          go_quiet (fail)
                          go_wp2_with fail
                          exact ⟨⟨i + 1, g, c', M, by omega, by go_num, rfl, HF1.out, HO2.out.keep (below_drewN (Below.refl _ _) _), hgl, Nat.lt_of_lt_of_le hgr (below_drewN (Below.refl wr.heap.size _) _).size, below_drewN hbk _⟩, by simp [intOf]; omega⟩
                        · have HStop : Hid (∀ z, M[k]? = some (pm z) → x.2.1 < z.2.1) := fun z h => by
                            rw [HV.out z h]
                            omega
                          have hbe : (y.2.1 != x.2.1) = true := by simp [heq]
                          have hcap := HO2.out.cap
                          go_wp2_with fail
                          have dvx : decide (y.2.1 < x.2.1) = false := by simp; omega
                          clear heq
                          have hdr : ∀ m, Below wr.heap.size wr (wr.drewN m) := fun m => below_drewN (Below.refl _ _) _
                          go_quiet (fail)
                          have HO3 := Lib.hid (HO2.out.keep (hdr nq))
                          have hb3 := bthen' hbk (hdr nq)
                          have hg3 : g < (wr.drewN nq).heap.size := Nat.lt_of_lt_of_le hgr (hdr nq).size
                          have cx0 := (HXc.out _ hb3).1
                          have q0 := HPd.out _ i x hb3 HX.out
                          have c1 : (wr.drewN nq).cell? ⟨g, k, none⟩ = some (.slice (some ⟨y.1, 0, none⟩) 2 2) := (HO3.out.flat rowI_l).cell1 HYk.out rfl
                          have cy0 := (HOc.out _ y hb3 HYL.out).1
                          clear HO2 hbk hgr hdr cx1
                          generalize wr.drewN nq = wr at HO3 hb3 hg3 cx0 q0 c1 cy0 ⊢
                          have HO2 := HO3
                          have hbk := hb3
                          have hgr := hg3
                          clear HO3 hb3 hg3
                          go_wp2_with fail
                          have hke : ((k : Int) == (M.length : Int)) = false := by simp; omega
                          have hdr : ∀ m, Below wr.heap.size wr (wr.drewN m) := fun m => below_drewN (Below.refl _ _) _
                          go_quiet (fail)
                          have HO3 := Lib.hid (HO2.out.keep (hdr nq))
                          have hb3 := bthen' hbk (hdr nq)
                          have hg3 : g < (wr.drewN nq).heap.size := Nat.lt_of_lt_of_le hgr (hdr nq).size
                          generalize wr.drewN nq = w3 at HO3 hb3 hg3 ⊢
                          have hbase : wb.heap.size ≤ w3.heap.size := hb3.size
                          have HNew : Hid (FrontOk Lp (i + 1) (M.take k ++ [pm x] ++ M.drop k)) := by
                            have := HF.out.put HX.out Hgood.out (k := k) (by omega) Hg.out HStop.out
                            unfold Hid
                            simpa using this
                          clear Hg HStop HO2 HO HF cx0
                          have HT := Lib.hid ((HO3.out.flat rowI_l).rd)
                          have hlt1 : (M.take k).length = k := by rw [List.length_take]; omega
                          have hld1 : (M.drop k).length = M.length - k := List.length_drop
                          have hl4 : (M.take k ++ [pm x]).length = k + 1 := by rw [List.length_append, hlt1]; rfl
                          have hsum : k + 1 + (M.length - k) = M.length + 1 := by omega
                          have hkc : (k : Int) ≤ (c' : Int) := by omega
                          have hkL : (k : Int) ≤ (M.length : Int) := by omega
                          have hck : ¬ c' = k := by omega
                          have HDr : Hid (∀ v : World, Below w3.heap.size w3 v → Rd v v.heap.size 1 rowI (some ⟨g, k, none⟩) (M.drop k)) := fun v hv => by
                            have := rdI_drop (HT.out.next hv) k
                            rwa [Nat.zero_add] at this
                          have HR1 : Hid (∀ v : World, Below w3.heap.size w3 v → Rd v v.heap.size 1 rowI (some ⟨g, 0, none⟩) (M.take k)) := fun v hv => (HT.out.next hv).takeI k
                          have HCv : Hid (∀ v : World, Below w3.heap.size w3 v → v.cell? ⟨pg, i, none⟩ = some (.slice (some ⟨x.1, 0, none⟩) 2 2)) := fun v hv => HPd.out v i x (hb3.trans (hv.mono hbase)) HX.out
                          have hYa : Below w3.heap.size w3 (w3.drew.alloc (.cells #[] 47)) := bthen' (bdrew w3) (balloc _ _)
                          have hYx : Below w3.heap.size w3 (w3.drew.alloc (.cells #[(.slice (some ⟨x.1, 0, none⟩) 2 2)] 47)) := bthen' (bdrew w3) (balloc _ _)
                          have hYb : Below w3.heap.size w3 ((w3.drew.alloc (.cells #[] 47)).alloc (.cells #[(.slice (some ⟨x.1, 0, none⟩) 2 2)] 47)) := bthen' hYa (balloc _ _)
                          have hYc : Below w3.heap.size w3 ((w3.drew.alloc (.cells #[(.slice (some ⟨x.1, 0, none⟩) 2 2)] 47)).alloc (.cells #[] 47)) := bthen' hYx (balloc _ _)
                          have cD := HCv.out w3.drew (bdrew w3)
                          have cN := HCv.out (w3.alloc (.cells #[] 47)) (balloc _ _)
                          have hsN : (w3.drew.alloc (.cells #[] 47)).heap.size = w3.heap.size + 1 := by simp
                          have hsX : (w3.drew.alloc (.cells #[(.slice (some ⟨x.1, 0, none⟩) 2 2)] 47)).heap.size = w3.heap.size + 1 := by simp
                          have hsB : w3.heap.size + 1 < ((w3.drew.alloc (.cells #[] 47)).alloc (.cells #[(.slice (some ⟨x.1, 0, none⟩) 2 2)] 47)).heap.size := by simp
                          have hsC : w3.heap.size < ((w3.drew.alloc (.cells #[(.slice (some ⟨x.1, 0, none⟩) 2 2)] 47)).alloc (.cells #[] 47)).heap.size := by simp; omega
                          have HEb : Hid ((((w3.drew.alloc (.cells #[] 47)).alloc (.cells #[(.slice (some ⟨x.1, 0, none⟩) 2 2)] 47))).cell? ⟨w3.heap.size + 1, 0, none⟩ = some (.slice (some ⟨x.1, 0, none⟩) 2 2)) := by
                            unfold Hid
                            rw [← hsN]
                            go_simp
                          have HEc : Hid ((((w3.drew.alloc (.cells #[(.slice (some ⟨x.1, 0, none⟩) 2 2)] 47)).alloc (.cells #[] 47))).cell? ⟨w3.heap.size, 0, none⟩ = some (.slice (some ⟨x.1, 0, none⟩) 2 2)) := by
                            unfold Hid
                            go_simp
                          have HOc : Hid (Own ((w3.drew.alloc (.cells #[(.slice (some ⟨x.1, 0, none⟩) 2 2)] 47)).alloc (.cells #[] 47)) w3.heap.size 47 1 rowI (some ⟨w3.heap.size + 1, 0, none⟩) 0 ([] : List RowI)) := by
                            have h : Own ((w3.drew.alloc (.cells #[(.slice (some ⟨x.1, 0, none⟩) 2 2)] 47)).alloc (.cells #[] 47)) w3.heap.size 47 1 rowI (some ⟨(w3.drew.alloc (.cells #[(.slice (some ⟨x.1, 0, none⟩) 2 2)] 47)).heap.size, 0, none⟩) 0 ([] : List RowI) := Own.made (w := (w3.drew.alloc (.cells #[(.slice (some ⟨x.1, 0, none⟩) 2 2)] 47))) _ hYx.size rfl
                            rwa [hsX] at h
                          clear hsN hsX
                          go_wp2_with fail
                          go_region_law (first
                            | (refine step_append_slice (by rfl) _ _ _ (by rfl) w3.heap.size 47 (.slice none 0 0) 1 24 Try.underlying26 infoRowI rfl (by omega) (by omega) rowI [] (M.take k) (some ⟨w3.drew.heap.size, 0, none⟩) 0 (by rfl) (Own.made (w := w3.drew) _ (Nat.le_refl _) rfl) (some ⟨g, 0, none⟩) c' _ (by rw [hlt1]; rfl) (HR1.out _ hYa) rowI_l rowI_one (by rw [hlt1]; simp; omega) hYa.size ?_; rintro A4 c4 w4 hown4 hb4 hfar4; have HO6 : Hid (Own w4 w3.heap.size 47 1 rowI A4 c4 (M.take k)) := hown4; have hX6 := hYa.trans hb4; have c4x := HCv.out w4 hX6; clear hown4 hb4 hfar4; rw [hlt1, show ([] : List RowI).length + k = k from Nat.zero_add _])
                            | (refine step_append_slice (by rfl) _ _ _ (by rfl) w3.heap.size 47 (.slice none 0 0) 1 24 Try.underlying26 infoRowI rfl (by omega) (by omega) rowI [] (M.take k) (some ⟨w3.drew.heap.size, 0, none⟩) 0 (by rfl) ((Own.made (w := w3.drew) _ (Nat.le_refl _) rfl).keep (balloc _ _)) (some ⟨g, 0, none⟩) c' _ (by rw [hlt1]; rfl) (HR1.out _ hYb) rowI_l rowI_one (by rw [hlt1]; simp; omega) hYb.size ?_; rintro A4 c4 w4 hown4 hb4 hfar4; have HO6 : Hid (Own w4 w3.heap.size 47 1 rowI A4 c4 (M.take k)) := hown4; have hX6 := hYb.trans hb4; have c4x := HCv.out w4 hX6; have cE := (World.cell?_of_block (a := ⟨w3.heap.size + 1, 0, none⟩) (hfar4 (w3.heap.size + 1) hsB (fun b o e => by simp at e; omega)).2).trans HEb.out; have lE : w3.heap.size + 1 < w4.heap.size := Nat.lt_of_lt_of_le hsB hb4.size; clear hown4 hb4 hfar4; rw [hlt1, show ([] : List RowI).length + k = k from Nat.zero_add _])
                            | (refine step_append_slice (by rfl) _ _ _ (by rfl) w3.heap.size 47 (.slice none 0 0) 1 24 Try.underlying26 infoRowI rfl (by omega) (by omega) rowI [] (M.take k) (some ⟨w3.heap.size + 1, 0, none⟩) 0 (by rfl) HOc.out (some ⟨g, 0, none⟩) c' _ (by rw [hlt1]; rfl) (HR1.out _ hYc) rowI_l rowI_one (by rw [hlt1]; simp; omega) hYc.size ?_; rintro A4 c4 w4 hown4 hb4 hfar4; have HO6 : Hid (Own w4 w3.heap.size 47 1 rowI A4 c4 (M.take k)) := hown4; have hX6 := hYc.trans hb4; have c4x := HCv.out w4 hX6; have cE := (World.cell?_of_block (a := ⟨w3.heap.size, 0, none⟩) (hfar4 w3.heap.size hsC (fun b o e => by simp at e; omega)).2).trans HEc.out; have lE : w3.heap.size < w4.heap.size := Nat.lt_of_lt_of_le hsC hb4.size; clear hown4 hb4 hfar4; rw [hlt1, show ([] : List RowI).length + k = k from Nat.zero_add _])
                            | (refine step_append_el (by rfl) _ _ _ (by rfl) w3.heap.size 47 (.slice none 0 0) 1 24 Try.underlying26 infoRowI rfl (by omega) (by omega) rowI (M.take k) (pm x) A4 c4 (by rw [hlt1]; rfl) HO6.out _ _ (by rfl) lE rowI_l (one_cell (v := (.slice (some ⟨x.1, 0, none⟩) 2 2)) cE) rowI_one (by omega) hX6.size ?_; rintro A5 c5 w5 hown5 hb5 _; have HO8 := Lib.hid hown5; have hX8 := (hX6).trans hb5; clear hown5 hb5; rw [hlt1])
                            | (refine step_append_el (by rfl) _ _ _ (by rfl) w3.heap.size 47 (.slice none 0 0) 1 24 Try.underlying26 infoRowI rfl (by omega) (by omega) rowI (M.take k) (pm x) A4 c4 (by rw [hlt1]; rfl) (HO6.out.keep (balloc _ _)) _ _ (by rfl) (show w4.heap.size < (w4.alloc (.cells #[(.slice (some ⟨x.1, 0, none⟩) 2 2)] 47)).heap.size from (by simp)) rowI_l (one_cell (v := (.slice (some ⟨x.1, 0, none⟩) 2 2)) (by go_simp)) rowI_one (by omega) (bthen' hX6 (balloc w4 (.cells #[(.slice (some ⟨x.1, 0, none⟩) 2 2)] 47))).size ?_; rintro A5 c5 w5 hown5 hb5 _; have HO8 := Lib.hid hown5; have hX8 := ((bthen' hX6 (balloc w4 (.cells #[(.slice (some ⟨x.1, 0, none⟩) 2 2)] 47)))).trans hb5; clear hown5 hb5; rw [hlt1])
                            | (refine step_append_slice (by rfl) _ _ _ (by rfl) w3.heap.size 47 (.slice none 0 0) 1 24 Try.underlying26 infoRowI rfl (by omega) (by omega) rowI (M.take k ++ [pm x]) (M.drop k) A5 c5 (by rw [hl4]; rfl) HO8.out (some ⟨g, k, none⟩) _ w5.heap.size (by rw [hld1]; rfl) (HDr.out w5 hX8) rowI_l rowI_one (by rw [hl4, hld1]; omega) hX8.size ?_; rintro A6 c6 w6 hown6 hb6 _; have hX9 := hX8.trans hb6; have HO7 := Lib.hid (hown6.base hbase); clear hown6 hb6; rw [hl4, hld1, hsum]))
                          all_goals
                            have hl7 : (M.take k ++ [pm x] ++ M.drop k).length = M.length + 1 := by rw [List.length_append, hl4, hld1] <;> omega
                            obtain ⟨g6, rfl, hg61, hg62, _⟩ := HO7.out.someI (by omega)
                            go_wp2_with fail
                            exact ⟨⟨i + 1, g6, c6, (M.take k ++ [pm x] ++ M.drop k), by omega, by go_num, by rw [hl7], HNew.out, HO7.out, hg61, hg62, hb3.trans (hX9.mono hbase)⟩, by simp [intOf]; omega⟩
                    · obtain rfl : k = M.length := by omega
                      have HStop : Hid (∀ y, M[M.length]? = some (pm y) → x.2.1 < y.2.1) := fun y h => by
                        rw [List.getElem?_eq_none (Nat.le_refl _)] at h
                        exact absurd h (by simp)
                      have hcap := HO2.out.cap
                      clear hown
                      go_wp2_with fail
                      have hdr : ∀ m, Below wr.heap.size wr (wr.drewN m) := fun m => below_drewN (Below.refl _ _) _
                      go_quiet (fail)
                      have HO3 := Lib.hid (HO2.out.keep (hdr nq))
                      have hb3 := bthen' hbk (hdr nq)
                      have hg3 : g < (wr.drewN nq).heap.size := Nat.lt_of_lt_of_le hgr (hdr nq).size
                      have cx0 := (HXc.out _ hb3).1
                      have q0 := HPd.out _ i x hb3 HX.out
                      clear HO2 hbk hgr hdr cx1
                      generalize wr.drewN nq = wr at HO3 hb3 hg3 cx0 q0 ⊢
                      have HO2 := HO3
                      have hbk := hb3
                      have hgr := hg3
                      clear HO3 hb3 hg3
                      go_wp2_with fail
                      have hdr : ∀ m, Below wr.heap.size wr (wr.drewN m) := fun m => below_drewN (Below.refl _ _) _
                      go_quiet (fail)
                      have HO3 := Lib.hid (HO2.out.keep (hdr nq))
                      have hb3 := bthen' hbk (hdr nq)
                      have hg3 : g < (wr.drewN nq).heap.size := Nat.lt_of_lt_of_le hgr (hdr nq).size
                      generalize wr.drewN nq = w3 at HO3 hb3 hg3 ⊢
                      have hbase : wb.heap.size ≤ w3.heap.size := hb3.size
                      have HNew : Hid (FrontOk Lp (i + 1) (M.take M.length ++ [pm x] ++ M.drop M.length)) := by
                        have := HF.out.put HX.out Hgood.out (k := M.length) (by omega) Hg.out HStop.out
                        unfold Hid
                        simpa using this
                      clear Hg HStop HO2 HO HF cx0
                      have HT := Lib.hid ((HO3.out.flat rowI_l).rd)
                      have hlt1 : (M.take M.length).length = M.length := by rw [List.length_take]; omega
                      have hld1 : (M.drop M.length).length = 0 := by rw [List.length_drop]; omega
                      have hl4 : (M.take M.length ++ [pm x]).length = M.length + 1 := by rw [List.length_append, hlt1]; rfl
                      have hkc : (M.length : Int) ≤ (c' : Int) := by omega
                      have hkL : (M.length : Int) ≤ (M.length : Int) := by omega
                      by_cases hck : c' = M.length
                      · have hkl2 : M.length = M.length := by omega
                        obtain rfl : M.length = c' := hck.symm
                        have HDr : Hid (∀ v : World, Below w3.heap.size w3 v → Rd v v.heap.size 1 rowI (some ⟨g, 0, none⟩) (M.drop M.length)) := fun v _ h => absurd h (by rw [hld1]; omega)
                        have HR1 : Hid (∀ v : World, Below w3.heap.size w3 v → Rd v v.heap.size 1 rowI (some ⟨g, 0, none⟩) (M.take M.length)) := fun v hv => (HT.out.next hv).takeI M.length
                        have HCv : Hid (∀ v : World, Below w3.heap.size w3 v → v.cell? ⟨pg, i, none⟩ = some (.slice (some ⟨x.1, 0, none⟩) 2 2)) := fun v hv => HPd.out v i x (hb3.trans (hv.mono hbase)) HX.out
                        have hYa : Below w3.heap.size w3 (w3.drew.alloc (.cells #[] 47)) := bthen' (bdrew w3) (balloc _ _)
                        have hYx : Below w3.heap.size w3 (w3.drew.alloc (.cells #[(.slice (some ⟨x.1, 0, none⟩) 2 2)] 47)) := bthen' (bdrew w3) (balloc _ _)
                        have hYb : Below w3.heap.size w3 ((w3.drew.alloc (.cells #[] 47)).alloc (.cells #[(.slice (some ⟨x.1, 0, none⟩) 2 2)] 47)) := bthen' hYa (balloc _ _)
                        have hYc : Below w3.heap.size w3 ((w3.drew.alloc (.cells #[(.slice (some ⟨x.1, 0, none⟩) 2 2)] 47)).alloc (.cells #[] 47)) := bthen' hYx (balloc _ _)
                        have cD := HCv.out w3.drew (bdrew w3)
                        have cN := HCv.out (w3.alloc (.cells #[] 47)) (balloc _ _)
                        have hsN : (w3.drew.alloc (.cells #[] 47)).heap.size = w3.heap.size + 1 := by simp
                        have hsX : (w3.drew.alloc (.cells #[(.slice (some ⟨x.1, 0, none⟩) 2 2)] 47)).heap.size = w3.heap.size + 1 := by simp
                        have hsB : w3.heap.size + 1 < ((w3.drew.alloc (.cells #[] 47)).alloc (.cells #[(.slice (some ⟨x.1, 0, none⟩) 2 2)] 47)).heap.size := by simp
                        have hsC : w3.heap.size < ((w3.drew.alloc (.cells #[(.slice (some ⟨x.1, 0, none⟩) 2 2)] 47)).alloc (.cells #[] 47)).heap.size := by simp; omega
                        have HEb : Hid ((((w3.drew.alloc (.cells #[] 47)).alloc (.cells #[(.slice (some ⟨x.1, 0, none⟩) 2 2)] 47))).cell? ⟨w3.heap.size + 1, 0, none⟩ = some (.slice (some ⟨x.1, 0, none⟩) 2 2)) := by
                          unfold Hid
                          rw [← hsN]
                          go_simp
                        have HEc : Hid ((((w3.drew.alloc (.cells #[(.slice (some ⟨x.1, 0, none⟩) 2 2)] 47)).alloc (.cells #[] 47))).cell? ⟨w3.heap.size, 0, none⟩ = some (.slice (some ⟨x.1, 0, none⟩) 2 2)) := by
                          unfold Hid
                          go_simp
                        have HOc : Hid (Own ((w3.drew.alloc (.cells #[(.slice (some ⟨x.1, 0, none⟩) 2 2)] 47)).alloc (.cells #[] 47)) w3.heap.size 47 1 rowI (some ⟨w3.heap.size + 1, 0, none⟩) 0 ([] : List RowI)) := by
                          have h : Own ((w3.drew.alloc (.cells #[(.slice (some ⟨x.1, 0, none⟩) 2 2)] 47)).alloc (.cells #[] 47)) w3.heap.size 47 1 rowI (some ⟨(w3.drew.alloc (.cells #[(.slice (some ⟨x.1, 0, none⟩) 2 2)] 47)).heap.size, 0, none⟩) 0 ([] : List RowI) := Own.made (w := (w3.drew.alloc (.cells #[(.slice (some ⟨x.1, 0, none⟩) 2 2)] 47))) _ hYx.size rfl
                          rwa [hsX] at h
                        clear hsN hsX
                        clear hck hkl2
                        go_wp2_with fail
                        go_region_law (first
                          | (refine step_append_slice (by rfl) _ _ _ (by rfl) w3.heap.size 47 (.slice none 0 0) 1 24 Try.underlying26 infoRowI rfl (by omega) (by omega) rowI [] (M.take M.length) (some ⟨w3.drew.heap.size, 0, none⟩) 0 (by rfl) (Own.made (w := w3.drew) _ (Nat.le_refl _) rfl) (some ⟨g, 0, none⟩) M.length _ (by rw [hlt1]; rfl) (HR1.out _ hYa) rowI_l rowI_one (by rw [hlt1]; simp; omega) hYa.size ?_; rintro A4 c4 w4 hown4 hb4 hfar4; have HO6 : Hid (Own w4 w3.heap.size 47 1 rowI A4 c4 (M.take M.length)) := hown4; have hX6 := hYa.trans hb4; have c4x := HCv.out w4 hX6; clear hown4 hb4 hfar4; rw [hlt1, show ([] : List RowI).length + M.length = M.length from Nat.zero_add _])
                          | (refine step_append_slice (by rfl) _ _ _ (by rfl) w3.heap.size 47 (.slice none 0 0) 1 24 Try.underlying26 infoRowI rfl (by omega) (by omega) rowI [] (M.take M.length) (some ⟨w3.drew.heap.size, 0, none⟩) 0 (by rfl) ((Own.made (w := w3.drew) _ (Nat.le_refl _) rfl).keep (balloc _ _)) (some ⟨g, 0, none⟩) M.length _ (by rw [hlt1]; rfl) (HR1.out _ hYb) rowI_l rowI_one (by rw [hlt1]; simp; omega) hYb.size ?_; rintro A4 c4 w4 hown4 hb4 hfar4; have HO6 : Hid (Own w4 w3.heap.size 47 1 rowI A4 c4 (M.take M.length)) := hown4; have hX6 := hYb.trans hb4; have c4x := HCv.out w4 hX6; have cE := (World.cell?_of_block (a := ⟨w3.heap.size + 1, 0, none⟩) (hfar4 (w3.heap.size + 1) hsB (fun b o e => by simp at e; omega)).2).trans HEb.out; have lE : w3.heap.size + 1 < w4.heap.size := Nat.lt_of_lt_of_le hsB hb4.size; clear hown4 hb4 hfar4; rw [hlt1, show ([] : List RowI).length + M.length = M.length from Nat.zero_add _])
                          | (refine step_append_slice (by rfl) _ _ _ (by rfl) w3.heap.size 47 (.slice none 0 0) 1 24 Try.underlying26 infoRowI rfl (by omega) (by omega) rowI [] (M.take M.length) (some ⟨w3.heap.size + 1, 0, none⟩) 0 (by rfl) HOc.out (some ⟨g, 0, none⟩) M.length _ (by rw [hlt1]; rfl) (HR1.out _ hYc) rowI_l rowI_one (by rw [hlt1]; simp; omega) hYc.size ?_; rintro A4 c4 w4 hown4 hb4 hfar4; have HO6 : Hid (Own w4 w3.heap.size 47 1 rowI A4 c4 (M.take M.length)) := hown4; have hX6 := hYc.trans hb4; have c4x := HCv.out w4 hX6; have cE := (World.cell?_of_block (a := ⟨w3.heap.size, 0, none⟩) (hfar4 w3.heap.size hsC (fun b o e => by simp at e; omega)).2).trans HEc.out; have lE : w3.heap.size < w4.heap.size := Nat.lt_of_lt_of_le hsC hb4.size; clear hown4 hb4 hfar4; rw [hlt1, show ([] : List RowI).length + M.length = M.length from Nat.zero_add _])
                          | (refine step_append_el (by rfl) _ _ _ (by rfl) w3.heap.size 47 (.slice none 0 0) 1 24 Try.underlying26 infoRowI rfl (by omega) (by omega) rowI (M.take M.length) (pm x) A4 c4 (by rw [hlt1]; rfl) HO6.out _ _ (by rfl) lE rowI_l (one_cell (v := (.slice (some ⟨x.1, 0, none⟩) 2 2)) cE) rowI_one (by omega) hX6.size ?_; rintro A5 c5 w5 hown5 hb5 _; have HO8 := Lib.hid hown5; have hX8 := (hX6).trans hb5; clear hown5 hb5; rw [hlt1])
                          | (refine step_append_el (by rfl) _ _ _ (by rfl) w3.heap.size 47 (.slice none 0 0) 1 24 Try.underlying26 infoRowI rfl (by omega) (by omega) rowI (M.take M.length) (pm x) A4 c4 (by rw [hlt1]; rfl) (HO6.out.keep (balloc _ _)) _ _ (by rfl) (show w4.heap.size < (w4.alloc (.cells #[(.slice (some ⟨x.1, 0, none⟩) 2 2)] 47)).heap.size from (by simp)) rowI_l (one_cell (v := (.slice (some ⟨x.1, 0, none⟩) 2 2)) (by go_simp)) rowI_one (by omega) (bthen' hX6 (balloc w4 (.cells #[(.slice (some ⟨x.1, 0, none⟩) 2 2)] 47))).size ?_; rintro A5 c5 w5 hown5 hb5 _; have HO8 := Lib.hid hown5; have hX8 := ((bthen' hX6 (balloc w4 (.cells #[(.slice (some ⟨x.1, 0, none⟩) 2 2)] 47)))).trans hb5; clear hown5 hb5; rw [hlt1])
                          | (refine step_append_slice (by rfl) _ _ _ (by rfl) w3.heap.size 47 (.slice none 0 0) 1 24 Try.underlying26 infoRowI rfl (by omega) (by omega) rowI (M.take M.length ++ [pm x]) (M.drop M.length) A5 c5 (by rw [hl4]; rfl) HO8.out (some ⟨g, 0, none⟩) _ w5.heap.size (by rw [hld1]; rfl) (HDr.out w5 hX8) rowI_l rowI_one (by rw [hl4, hld1]; omega) hX8.size ?_; rintro A6 c6 w6 hown6 hb6 _; have hX9 := hX8.trans hb6; have HO7 := Lib.hid (hown6.base hbase); clear hown6 hb6; rw [hl4, hld1, Nat.add_zero]))
                        all_goals
                          have hl7 : (M.take M.length ++ [pm x] ++ M.drop M.length).length = M.length + 1 := by rw [List.length_append, hl4, hld1] <;> omega
                          obtain ⟨g6, rfl, hg61, hg62, _⟩ := HO7.out.someI (by omega)
                          go_wp2_with fail
                          exact ⟨⟨i + 1, g6, c6, (M.take M.length ++ [pm x] ++ M.drop M.length), by omega, by go_num, by rw [hl7], HNew.out, HO7.out, hg61, hg62, hb3.trans (hX9.mono hbase)⟩, by simp [intOf]; omega⟩
                      · have HDr : Hid (∀ v : World, Below w3.heap.size w3 v → Rd v v.heap.size 1 rowI (some ⟨g, M.length, none⟩) (M.drop M.length)) := fun v hv => by
                          have := rdI_drop (HT.out.next hv) M.length
                          rwa [Nat.zero_add] at this
                        have HR1 : Hid (∀ v : World, Below w3.heap.size w3 v → Rd v v.heap.size 1 rowI (some ⟨g, 0, none⟩) (M.take M.length)) := fun v hv => (HT.out.next hv).takeI M.length
                        have HCv : Hid (∀ v : World, Below w3.heap.size w3 v → v.cell? ⟨pg, i, none⟩ = some (.slice (some ⟨x.1, 0, none⟩) 2 2)) := fun v hv => HPd.out v i x (hb3.trans (hv.mono hbase)) HX.out
                        have hYa : Below w3.heap.size w3 (w3.drew.alloc (.cells #[] 47)) := bthen' (bdrew w3) (balloc _ _)
                        have hYx : Below w3.heap.size w3 (w3.drew.alloc (.cells #[(.slice (some ⟨x.1, 0, none⟩) 2 2)] 47)) := bthen' (bdrew w3) (balloc _ _)
                        have hYb : Below w3.heap.size w3 ((w3.drew.alloc (.cells #[] 47)).alloc (.cells #[(.slice (some ⟨x.1, 0, none⟩) 2 2)] 47)) := bthen' hYa (balloc _ _)
                        have hYc : Below w3.heap.size w3 ((w3.drew.alloc (.cells #[(.slice (some ⟨x.1, 0, none⟩) 2 2)] 47)).alloc (.cells #[] 47)) := bthen' hYx (balloc _ _)
                        have cD := HCv.out w3.drew (bdrew w3)
                        have cN := HCv.out (w3.alloc (.cells #[] 47)) (balloc _ _)
                        have hsN : (w3.drew.alloc (.cells #[] 47)).heap.size = w3.heap.size + 1 := by simp
                        have hsX : (w3.drew.alloc (.cells #[(.slice (some ⟨x.1, 0, none⟩) 2 2)] 47)).heap.size = w3.heap.size + 1 := by simp
                        have hsB : w3.heap.size + 1 < ((w3.drew.alloc (.cells #[] 47)).alloc (.cells #[(.slice (some ⟨x.1, 0, none⟩) 2 2)] 47)).heap.size := by simp
                        have hsC : w3.heap.size < ((w3.drew.alloc (.cells #[(.slice (some ⟨x.1, 0, none⟩) 2 2)] 47)).alloc (.cells #[] 47)).heap.size := by simp; omega
                        have HEb : Hid ((((w3.drew.alloc (.cells #[] 47)).alloc (.cells #[(.slice (some ⟨x.1, 0, none⟩) 2 2)] 47))).cell? ⟨w3.heap.size + 1, 0, none⟩ = some (.slice (some ⟨x.1, 0, none⟩) 2 2)) := by
                          unfold Hid
                          rw [← hsN]
                          go_simp
                        have HEc : Hid ((((w3.drew.alloc (.cells #[(.slice (some ⟨x.1, 0, none⟩) 2 2)] 47)).alloc (.cells #[] 47))).cell? ⟨w3.heap.size, 0, none⟩ = some (.slice (some ⟨x.1, 0, none⟩) 2 2)) := by
                          unfold Hid
                          go_simp
                        have HOc : Hid (Own ((w3.drew.alloc (.cells #[(.slice (some ⟨x.1, 0, none⟩) 2 2)] 47)).alloc (.cells #[] 47)) w3.heap.size 47 1 rowI (some ⟨w3.heap.size + 1, 0, none⟩) 0 ([] : List RowI)) := by
                          have h : Own ((w3.drew.alloc (.cells #[(.slice (some ⟨x.1, 0, none⟩) 2 2)] 47)).alloc (.cells #[] 47)) w3.heap.size 47 1 rowI (some ⟨(w3.drew.alloc (.cells #[(.slice (some ⟨x.1, 0, none⟩) 2 2)] 47)).heap.size, 0, none⟩) 0 ([] : List RowI) := Own.made (w := (w3.drew.alloc (.cells #[(.slice (some ⟨x.1, 0, none⟩) 2 2)] 47))) _ hYx.size rfl
                          rwa [hsX] at h
                        clear hsN hsX
                        go_wp2_with fail
                        go_region_law (first
                          | (refine step_append_slice (by rfl) _ _ _ (by rfl) w3.heap.size 47 (.slice none 0 0) 1 24 Try.underlying26 infoRowI rfl (by omega) (by omega) rowI [] (M.take M.length) (some ⟨w3.drew.heap.size, 0, none⟩) 0 (by rfl) (Own.made (w := w3.drew) _ (Nat.le_refl _) rfl) (some ⟨g, 0, none⟩) c' _ (by rw [hlt1]; rfl) (HR1.out _ hYa) rowI_l rowI_one (by rw [hlt1]; simp; omega) hYa.size ?_; rintro A4 c4 w4 hown4 hb4 hfar4; have HO6 : Hid (Own w4 w3.heap.size 47 1 rowI A4 c4 (M.take M.length)) := hown4; have hX6 := hYa.trans hb4; have c4x := HCv.out w4 hX6; clear hown4 hb4 hfar4; rw [hlt1, show ([] : List RowI).length + M.length = M.length from Nat.zero_add _])
                          | (refine step_append_slice (by rfl) _ _ _ (by rfl) w3.heap.size 47 (.slice none 0 0) 1 24 Try.underlying26 infoRowI rfl (by omega) (by omega) rowI [] (M.take M.length) (some ⟨w3.drew.heap.size, 0, none⟩) 0 (by rfl) ((Own.made (w := w3.drew) _ (Nat.le_refl _) rfl).keep (balloc _ _)) (some ⟨g, 0, none⟩) c' _ (by rw [hlt1]; rfl) (HR1.out _ hYb) rowI_l rowI_one (by rw [hlt1]; simp; omega) hYb.size ?_; rintro A4 c4 w4 hown4 hb4 hfar4; have HO6 : Hid (Own w4 w3.heap.size 47 1 rowI A4 c4 (M.take M.length)) := hown4; have hX6 := hYb.trans hb4; have c4x := HCv.out w4 hX6; have cE := (World.cell?_of_block (a := ⟨w3.heap.size + 1, 0, none⟩) (hfar4 (w3.heap.size + 1) hsB (fun b o e => by simp at e; omega)).2).trans HEb.out; have lE : w3.heap.size + 1 < w4.heap.size := Nat.lt_of_lt_of_le hsB hb4.size; clear hown4 hb4 hfar4; rw [hlt1, show ([] : List RowI).length + M.length = M.length from Nat.zero_add _])
                          | (refine step_append_slice (by rfl) _ _ _ (by rfl) w3.heap.size 47 (.slice none 0 0) 1 24 Try.underlying26 infoRowI rfl (by omega) (by omega) rowI [] (M.take M.length) (some ⟨w3.heap.size + 1, 0, none⟩) 0 (by rfl) HOc.out (some ⟨g, 0, none⟩) c' _ (by rw [hlt1]; rfl) (HR1.out _ hYc) rowI_l rowI_one (by rw [hlt1]; simp; omega) hYc.size ?_; rintro A4 c4 w4 hown4 hb4 hfar4; have HO6 : Hid (Own w4 w3.heap.size 47 1 rowI A4 c4 (M.take M.length)) := hown4; have hX6 := hYc.trans hb4; have c4x := HCv.out w4 hX6; have cE := (World.cell?_of_block (a := ⟨w3.heap.size, 0, none⟩) (hfar4 w3.heap.size hsC (fun b o e => by simp at e; omega)).2).trans HEc.out; have lE : w3.heap.size < w4.heap.size := Nat.lt_of_lt_of_le hsC hb4.size; clear hown4 hb4 hfar4; rw [hlt1, show ([] : List RowI).length + M.length = M.length from Nat.zero_add _])
                          | (refine step_append_el (by rfl) _ _ _ (by rfl) w3.heap.size 47 (.slice none 0 0) 1 24 Try.underlying26 infoRowI rfl (by omega) (by omega) rowI (M.take M.length) (pm x) A4 c4 (by rw [hlt1]; rfl) HO6.out _ _ (by rfl) lE rowI_l (one_cell (v := (.slice (some ⟨x.1, 0, none⟩) 2 2)) cE) rowI_one (by omega) hX6.size ?_; rintro A5 c5 w5 hown5 hb5 _; have HO8 := Lib.hid hown5; have hX8 := (hX6).trans hb5; clear hown5 hb5; rw [hlt1])
                          | (refine step_append_el (by rfl) _ _ _ (by rfl) w3.heap.size 47 (.slice none 0 0) 1 24 Try.underlying26 infoRowI rfl (by omega) (by omega) rowI (M.take M.length) (pm x) A4 c4 (by rw [hlt1]; rfl) (HO6.out.keep (balloc _ _)) _ _ (by rfl) (show w4.heap.size < (w4.alloc (.cells #[(.slice (some ⟨x.1, 0, none⟩) 2 2)] 47)).heap.size from (by simp)) rowI_l (one_cell (v := (.slice (some ⟨x.1, 0, none⟩) 2 2)) (by go_simp)) rowI_one (by omega) (bthen' hX6 (balloc w4 (.cells #[(.slice (some ⟨x.1, 0, none⟩) 2 2)] 47))).size ?_; rintro A5 c5 w5 hown5 hb5 _; have HO8 := Lib.hid hown5; have hX8 := ((bthen' hX6 (balloc w4 (.cells #[(.slice (some ⟨x.1, 0, none⟩) 2 2)] 47)))).trans hb5; clear hown5 hb5; rw [hlt1])
                          | (refine step_append_slice (by rfl) _ _ _ (by rfl) w3.heap.size 47 (.slice none 0 0) 1 24 Try.underlying26 infoRowI rfl (by omega) (by omega) rowI (M.take M.length ++ [pm x]) (M.drop M.length) A5 c5 (by rw [hl4]; rfl) HO8.out (some ⟨g, M.length, none⟩) _ w5.heap.size (by rw [hld1]; rfl) (HDr.out w5 hX8) rowI_l rowI_one (by rw [hl4, hld1]; omega) hX8.size ?_; rintro A6 c6 w6 hown6 hb6 _; have hX9 := hX8.trans hb6; have HO7 := Lib.hid (hown6.base hbase); clear hown6 hb6; rw [hl4, hld1, Nat.add_zero]))
                        all_goals
                          have hl7 : (M.take M.length ++ [pm x] ++ M.drop M.length).length = M.length + 1 := by rw [List.length_append, hl4, hld1] <;> omega
                          obtain ⟨g6, rfl, hg61, hg62, _⟩ := HO7.out.someI (by omega)
                          go_wp2_with fail
                          exact ⟨⟨i + 1, g6, c6, (M.take M.length ++ [pm x] ++ M.drop M.length), by omega, by go_num, by rw [hl7], HNew.out, HO7.out, hg61, hg62, hb3.trans (hX9.mono hbase)⟩, by simp [intOf]; omega⟩
          · obtain rfl : i = P := by omega
            have HFl := Lib.hid (HO.out.flat rowI_l)
            have HCp := Lib.hid HO.out.cap
            have hs2 := hbw2.size
            obtain ⟨hR1, hR2⟩ := HFin.out wr (some ⟨g, 0, none⟩) M HF.out hb (HFl.out.mono hs2 (Nat.le_refl _))
            have HR1 := Lib.hid hR1
            have HR2 := Lib.hid hR2
            clear hR1 hR2 HFin HF
            go_wp2_with fail
            go_ret2
            exact ⟨_, c', by rw [HR2.out]; rfl, HR1.out, by rw [HR2.out]; exact HCp.out, bthen hbw2 hb⟩
  · rw [bothI_no hb] at hCo
    have HCo := Lib.hid hCo; clear hCo
    have HR : Hid (frontR vs js = ([], 1)) := by unfold Hid frontR; rw [if_neg hb]
    clear hb hs hm2
    generalize frontR vs js = R at HR ⊢
    go_enter Try.func7, Try.ntmps7
    go_wp2_with fail
    refine HCo.out.mono ?_
    rintro e w1 ⟨rfl, hb1⟩
    go_wp2_with fail
    go_ret2
    exact ⟨none, 0, by rw [HR.out]; rfl, by rw [HR.out]; exact FlatI.nil, by rw [HR.out]; exact Nat.le_refl _, hb1⟩

end Go.Proofs.Ytioblfbhjkkgoaa

namespace Go.Proofs.Ytioblfbhjkkgoaa
set_option maxRecDepth 100000
open Go.RowKit

set_option maxHeartbeats 1000000 in
theorem CheapestBicycle_impl (LA JA : Option Addr) (lc jc : Nat) (vs : List PartT) (js : List JointT) (w : World) (hr : RdV w w.heap.size LA vs) (hr2 : Rd w w.heap.size 3 jointC JA js) (hs : SmallV vs) (hm2 : js.length ≤ 1048576) :
    Calls Try.prog 21 #[.slice LA vs.length lc, .slice JA js.length jc] w (GivesRes2 w w.heap.size (cheapR vs js)) := by
  have hBo := areBoth_any LA JA lc jc vs js w hr hr2 hs hm2
  by_cases hb : bothB vs js = true
  · rw [hb] at hBo
    have HBo := Lib.hid hBo; clear hBo
    have HC : Hid (∀ v : World, RdV v v.heap.size LA vs → Rd v v.heap.size 3 jointC JA js → Calls Try.prog 43 #[.slice LA vs.length lc, .slice JA js.length jc, .string noText] v (GivesRes2 v v.heap.size (finR (bestOf (priceB vs) [] (allB vs js))))) := fun v h1 h2 => cheapest_any LA JA lc jc vs js v h1 h2 hs hb
    have HR : Hid (cheapR vs js = finR (bestOf (priceB vs) [] (allB vs js))) := by unfold Hid cheapR; rw [if_pos hb]
    generalize finR (bestOf (priceB vs) [] (allB vs js)) = R2 at HC HR
    generalize cheapR vs js = R at HR ⊢
    clear hs hb hm2
    go_enter Try.func21, Try.ntmps21
    go_wp2_with fail
    refine HBo.out.mono ?_
    rintro e w1 ⟨rfl, hb1⟩
    go_wp2_with fail
    refine (HC.out w1 (hr.next hb1) (hr2.next hb1)).mono ?_
    rintro e w2 ⟨A, c, rfl, hf, hc, hb2⟩
    have Hf := Lib.hid hf
    have Hc := Lib.hid hc
    clear hf hc
    go_wp2_with fail
    go_ret3
    have := HR.out
    subst this
    exact ⟨A, c, rfl, Hf.out.mono hb1.size (Nat.le_refl _), Hc.out, bthen hb1 hb2⟩
  · have HR : Hid (cheapR vs js = ([], 0, 1)) := by unfold Hid cheapR; rw [if_neg hb]
    have hb' : bothB vs js = false := by simpa using hb
    rw [hb'] at hBo
    have HBo := Lib.hid hBo; clear hBo hb hb' hs hm2
    generalize cheapR vs js = R at HR ⊢
    go_enter Try.func21, Try.ntmps21
    go_wp2_with fail
    refine HBo.out.mono ?_
    rintro e w1 ⟨rfl, hb1⟩
    go_wp2_with fail
    go_ret3
    exact ⟨none, 0, by rw [HR.out]; rfl, by rw [HR.out]; exact flat_nil, by rw [HR.out]; exact Nat.le_refl _, hb1⟩

set_option maxHeartbeats 2000000 in
theorem LightestBicycle_impl (LA JA : Option Addr) (lc jc : Nat) (vs : List PartT) (js : List JointT) (w : World) (hr : RdV w w.heap.size LA vs) (hr2 : Rd w w.heap.size 3 jointC JA js) (hs : SmallV vs) (hm2 : js.length ≤ 1048576) (m : Int) (hm : -9223372036854775808 ≤ m ∧ m ≤ 9223372036854775807) :
    Calls Try.prog 22 #[.slice LA vs.length lc, .slice JA js.length jc, .int .i64 m] w (GivesRes2 w w.heap.size (lightR vs js m)) := by
  have hBo := areBoth_any LA JA lc jc vs js w hr hr2 hs hm2
  have hI := within_any m 0 100000000
  by_cases hb : bothB vs js = true
  · rw [hb] at hBo
    have HBo := Lib.hid hBo; clear hBo
    by_cases hi : inB m 0 100000000 = true
    · rw [hi] at hI
      have HI := Lib.hid hI; clear hI
      have HSu : Hid (∀ (v : World) (r : RowM), RdV v v.heap.size LA vs → Rd v v.heap.size 1 tC r.A r.bs → Codes vs r.bs → Calls Try.prog 32 #[.slice LA vs.length lc, .slice r.A r.bs.length r.c] v fun e w' => e = .returned (.tuple #[.int .i64 (priceB vs r.bs), .int .i64 (gramsB vs r.bs)]) ∧ Below v.heap.size v w') := fun v r h1 h2 h3 => buildSums_any LA r.A lc r.c vs r.bs v h1 h2 hs h3
      have HB : Hid (∀ v : World, RdV v v.heap.size LA vs → Rd v v.heap.size 3 jointC JA js → Calls Try.prog 31 #[.slice LA vs.length lc, .slice JA js.length jc] v (GivesRowsN v (allB vs js) (nodesOf (tr vs js)))) := fun v h1 h2 => bicycles_any LA JA lc jc vs js v h1 h2 hs hb
      have HCo : Hid (∀ b ∈ allB vs js, Codes vs b) := fun b hbm => founds_codes (bothB_true hb).1 hbm
      have hal := allB_len js (bothB_true hb).1
      have HLR : Hid (lightR vs js m = finR (bestOf (gramsB vs) [] ((allB vs js).filter fun b => decide (priceB vs b ≤ m)))) := by unfold Hid lightR; rw [if_pos hb, if_pos hi]
      rw [HLR.out]
      clear hs hb hi hm2 HLR
      go_enter Try.func22, Try.ntmps22
      go_wp2_with fail
      refine HBo.out.mono ?_
      rintro e w1 ⟨rfl, hb1⟩
      go_wp2_with (go_at_call 44; refine (HI.out _).mono ?_; rintro e w' ⟨rfl, rfl⟩)
      refine (HB.out w1 (hr.next hb1) (hr2.next hb1)).mono ?_
      rintro e w2 ⟨A, c, ms, rfl, hms, fms, rms, hb2⟩
      have hb12 := bthen hb1 hb2
      have hs1 := hb1.size
      have HMS := Lib.hid hms
      have hml : ms.length ≤ 131071 := by
        rw [← List.length_map (f := RowM.bs), hms]
        exact hal
      have HBd : Hid (∀ i, -1 ≤ (bestFil (gramsB vs) [] (fun b => decide (priceB vs b ≤ m)) (allB vs js) i).2 ∧ (bestFil (gramsB vs) [] (fun b => decide (priceB vs b ≤ m)) (allB vs js) i).2 ≤ 80000000) := bestFil_bd (by omega) fun b hbm => gramsB_bd (HCo.out b hbm)
      have HZ : Hid ((bestFil (gramsB vs) [] (fun b => decide (priceB vs b ≤ m)) (allB vs js) 0) = ([], -1)) := bestFil_zero _ _
      have HY : Hid (∀ (i : Nat) (b : List ByteArray), (allB vs js)[i]? = some b → (fun b => decide (priceB vs b ≤ m)) b = true → (bestFil (gramsB vs) [] (fun b => decide (priceB vs b ≤ m)) (allB vs js) (i + 1)) = bestStep (gramsB vs) (bestFil (gramsB vs) [] (fun b => decide (priceB vs b ≤ m)) (allB vs js) i) b) := fun i b h1 h2 => bestFil_yes h1 h2
      have HN : Hid (∀ (i : Nat) (b : List ByteArray), (allB vs js)[i]? = some b → (fun b => decide (priceB vs b ≤ m)) b = false → (bestFil (gramsB vs) [] (fun b => decide (priceB vs b ≤ m)) (allB vs js) (i + 1)) = (bestFil (gramsB vs) [] (fun b => decide (priceB vs b ≤ m)) (allB vs js) i)) := fun i b h1 h2 => bestFil_no h1 h2
      have HE : Hid (∀ i, ms.length ≤ i → (bestFil (gramsB vs) [] (fun b => decide (priceB vs b ≤ m)) (allB vs js) i) = bestOf (gramsB vs) [] ((allB vs js).filter (fun b => decide (priceB vs b ≤ m)))) := fun i hi => bestFil_all (by rw [← hms, List.length_map]; exact hi)
      have HF := Lib.hid fms
      have HRs := Lib.hid rms
      clear hms fms rms hal
      generalize (bestFil (gramsB vs) [] (fun b => decide (priceB vs b ≤ m)) (allB vs js)) = Bf at HBd HZ HY HN HE
      go_wp2_with fail
      go_loopw [9, 10, 32] (fun o1 o2 i wr => ∃ (n : Nat) (r : RowM), n ≤ ms.length ∧ i = .int .i64 n ∧ o1 = .slice r.A r.bs.length r.c ∧ o2 = .int .i64 (Bf n).2 ∧ r.bs = (Bf n).1 ∧ RowOk w2 w.heap.size r ∧ Below w2.heap.size w2 wr) (fun _ _ i _ => ms.length - (intOf i).toNat)
      case atStart => exact ⟨0, ⟨none, 0, []⟩, Nat.zero_le _, rfl, rfl, by rw [HZ.out], by rw [HZ.out], RowOk.nil _ _, Below.refl _ _⟩
      case round =>
        obtain ⟨n, r, hn, rfl, rfl, rfl, hrb, hrk, hb⟩ := hrel
        have HRb := Lib.hid hrb; clear hrb
        obtain ⟨hz0, hz1⟩ := HBd.out n
        have HRk := Lib.hid hrk; clear hrk
        have hb1r := bthen hb12 hb
        by_cases hlt : n < ms.length
        · have hx : ms[n]? = some ms[n] := List.getElem?_eq_getElem hlt
          obtain ⟨g, rfl⟩ := HF.out.some (by omega)
          have q0 := (HF.out.below hb (Nat.le_refl _)).cell1 hx rfl
          have hrow := HRs.out ms[n] (List.mem_of_getElem? hx)
          have hxa : (allB vs js)[n]? = some (ms[n]).bs := by
            rw [← HMS.out, List.getElem?_map, hx]
            rfl
          generalize ms[n] = y at hx q0 hrow hxa
          have hcy := HCo.out y.bs (List.mem_of_getElem? hxa)
          obtain ⟨hp0, hp1⟩ := priceB_bd hcy
          obtain ⟨hg0, hg1⟩ := gramsB_bd hcy
          have HYx := Lib.hid (HY.out n y.bs hxa)
          have HNx := Lib.hid (HN.out n y.bs hxa)
          have HSy := Lib.hid (HSu.out wr y (hr.next hb1r) ((hrow.1.rd.below hb).more hb.size) hcy)
          have HCy := Lib.hid hcy
          have HRy : Hid (RowOk w2 w.heap.size y) := ⟨hrow.1.mono (by first | exact Nat.le_refl _ | omega) (Nat.le_refl _), hrow.2⟩
          clear hx hcy hxa
          by_cases hpm : priceB vs y.bs ≤ m
          · have hpy : decide (priceB vs y.bs ≤ m) = true := by simpa using hpm
            have Hpy := Lib.hid hpy; clear hpy
            by_cases hl0 : (Bf n).2 < 0
            · have HB1 : Hid (Bf (n + 1) = (y.bs, gramsB vs y.bs)) := by unfold Hid; rw [HYx.out Hpy.out, bestStep_yes (Or.inl hl0)]
              clear HYx HNx HSu HB
              go_wp2_with fail
              refine HSy.out.mono ?_
              rintro e w3 ⟨rfl, hb3⟩
              have hbn := bthen hb hb3
              go_wp2_with fail
              exact ⟨⟨n + 1, y, by omega, by go_num, rfl, by rw [HB1.out], by rw [HB1.out], HRy.out, hbn⟩, by simp [intOf]; omega⟩
            · by_cases hl1 : gramsB vs y.bs < (Bf n).2
              · have HB1 : Hid (Bf (n + 1) = (y.bs, gramsB vs y.bs)) := by unfold Hid; rw [HYx.out Hpy.out, bestStep_yes (Or.inr hl1)]
                clear HYx HNx HSu HB
                go_wp2_with fail
                refine HSy.out.mono ?_
                rintro e w3 ⟨rfl, hb3⟩
                have hbn := bthen hb hb3
                go_wp2_with fail
                exact ⟨⟨n + 1, y, by omega, by go_num, rfl, by rw [HB1.out], by rw [HB1.out], HRy.out, hbn⟩, by simp [intOf]; omega⟩
              · have HB1 : Hid (Bf (n + 1) = Bf n) := by unfold Hid; rw [HYx.out Hpy.out, bestStep_no (by omega)]
                clear HYx HNx HSu HB
                go_wp2_with fail
                refine HSy.out.mono ?_
                rintro e w3 ⟨rfl, hb3⟩
                have hbn := bthen hb hb3
                go_wp2_with fail
                exact ⟨⟨n + 1, r, by omega, by go_num, rfl, by rw [HB1.out], by rw [HB1.out]; exact HRb.out, HRk.out, hbn⟩, by simp [intOf]; omega⟩
          · have HB1 : Hid (Bf (n + 1) = Bf n) := HNx.out (by simpa using hpm)
            clear HYx HNx HSu HB
            go_wp2_with fail
            refine HSy.out.mono ?_
            rintro e w3 ⟨rfl, hb3⟩
            have hbn := bthen hb hb3
            go_wp2_with fail
            exact ⟨⟨n + 1, r, by omega, by go_num, rfl, by rw [HB1.out], by rw [HB1.out]; exact HRb.out, HRk.out, hbn⟩, by simp [intOf]; omega⟩
        · have HEn := Lib.hid (HE.out n (by omega))
          by_cases hl0 : (Bf n).2 < 0
          · have HR2 : Hid (finR (bestOf (gramsB vs) [] ((allB vs js).filter fun b => decide (priceB vs b ≤ m))) = ([], 0, 4)) := by unfold Hid finR; rw [← HEn.out, if_pos hl0]
            go_wp2_with fail
            go_ret3
            skip
            exact ⟨none, 0, by rw [HR2.out]; rfl, by rw [HR2.out]; exact flat_nil, by rw [HR2.out]; exact Nat.le_refl _, bthen hb12 hb⟩
          · have HR2 : Hid (finR (bestOf (gramsB vs) [] ((allB vs js).filter fun b => decide (priceB vs b ≤ m))) = ((Bf n).1, (Bf n).2, 0)) := by unfold Hid finR; rw [← HEn.out, if_neg hl0]
            go_wp2_with fail
            go_ret3
            skip
            refine ⟨r.A, r.c, by rw [HR2.out, ← HRb.out]; rfl, ?_, by rw [HR2.out, ← HRb.out]; exact HRk.out.2, bthen hb12 hb⟩
            rw [HR2.out, ← HRb.out]
            exact (HRk.out.1.below hb (Nat.le_refl _)).mono (Nat.le_refl _) hb.size
    · have HR : Hid (lightR vs js m = ([], 0, 2)) := by unfold Hid lightR; rw [if_pos hb, if_neg hi]
      rw [eq_false_of_ne_true hi] at hI
      have HI := Lib.hid hI; clear hI hi hb hs hm2
      generalize lightR vs js m = R at HR ⊢
      go_enter Try.func22, Try.ntmps22
      go_wp2_with fail
      refine HBo.out.mono ?_
      rintro e w1 ⟨rfl, hb1⟩
      go_wp2_with (go_at_call 44; refine (HI.out _).mono ?_; rintro e w' ⟨rfl, rfl⟩)
      go_ret3
      exact ⟨none, 0, by rw [HR.out]; rfl, by rw [HR.out]; exact flat_nil, by rw [HR.out]; exact Nat.le_refl _, hb1⟩
  · have HR : Hid (lightR vs js m = ([], 0, 1)) := by unfold Hid lightR; rw [if_neg hb]
    have hb' : bothB vs js = false := by simpa using hb
    rw [hb'] at hBo
    have HBo := Lib.hid hBo; clear hBo hb hb' hs hm2 hI
    generalize lightR vs js m = R at HR ⊢
    go_enter Try.func22, Try.ntmps22
    go_wp2_with fail
    refine HBo.out.mono ?_
    rintro e w1 ⟨rfl, hb1⟩
    go_wp2_with fail
    go_ret3
    exact ⟨none, 0, by rw [HR.out]; rfl, by rw [HR.out]; exact flat_nil, by rw [HR.out]; exact Nat.le_refl _, hb1⟩

end Go.Proofs.Ytioblfbhjkkgoaa

namespace Go.Proofs.Ytioblfbhjkkgoaa
set_option maxRecDepth 100000
open Go.RowKit

set_option maxHeartbeats 400000 in
theorem likeInts_any (A A' : Option Addr) (c c' : Nat) (xs ys : List Int) (w : World) (hr : Rd w w.heap.size 1 nC A xs) (hr' : Rd w w.heap.size 1 nC A' ys) (hm : xs.length ≤ 1048576) :
    Calls Try.prog 42 #[.slice A xs.length c, .slice A' ys.length c'] w fun e w' => e = .returned (.bool (decide (xs = ys))) ∧ Below w.heap.size w w' := by
  by_cases hl : xs.length = ys.length
  · have hn : ((xs.length : Int) != (ys.length : Int)) = false := by simp [hl]
    have Hl := Lib.hid hl; clear hl
    go_enter Try.func42, Try.ntmps42
    go_wp2_with fail
    go_loopw [5] (fun i wr => ∃ k : Nat, k ≤ xs.length ∧ i = .int .i64 k ∧ Below w.heap.size w wr ∧ xs.take k = ys.take k) (fun i _ => xs.length - (intOf i).toNat)
    case atStart => exact ⟨0, Nat.zero_le _, rfl, Below.refl _ _, rfl⟩
    case round =>
      obtain ⟨k, hk, rfl, hb, hpre⟩ := hrel
      have Hp := Lib.hid hpre; clear hpre
      by_cases hlt : k < xs.length
      · have hlt' : k < ys.length := by have := Hl.out; omega
        have hx : xs[k]? = some xs[k] := List.getElem?_eq_getElem hlt
        have hy : ys[k]? = some ys[k] := List.getElem?_eq_getElem hlt'
        obtain ⟨b, o, rfl, hB, h0⟩ := (hr.below hb).at1 hx rfl
        obtain ⟨b', o', rfl, hB', h0'⟩ := (hr'.below hb).at1 hy rfl
        rw [Nat.mul_one] at h0 h0'
        generalize xs[k] = t at h0 hx
        generalize ys[k] = t' at h0' hy
        have Hx := Lib.hid hx; clear hx
        have Hy := Lib.hid hy; clear hy
        by_cases ht : t = t'
        · have htt : (t != t') = false := by simp [ht]
          have Ht := Lib.hid ht; clear ht
          go_wp2_with fail
          go_quiet (fail)
          go_wp2_with fail
          exact ⟨⟨k + 1, by omega, by go_num, below_drewN hb _, take_next Hp.out Hx.out Hy.out Ht.out⟩, by simp [intOf]; omega⟩
        · have htt : (t != t') = true := by simp [ht]
          have hne : decide (xs = ys) = false := decide_eq_false (ne_next Hx.out Hy.out ht)
          have Ht := Lib.hid ht; clear ht
          have Hne := Lib.hid hne; clear hne
          go_wp2_with fail
          go_quiet (fail)
          go_wp2_with fail
          go_ret
          exact ⟨ret_bool Hne.out.symm, below_drewN hb _⟩
      · have e : decide (xs = ys) = true := decide_eq_true (take_all Hp.out Hl.out (by omega))
        have E := Lib.hid e; clear e
        go_wp2_with fail
        go_ret
        exact ⟨ret_bool E.out.symm, hb⟩
  · have hd : decide (xs = ys) = false := by simp; intro h; exact hl (by rw [h])
    have hn : ((xs.length : Int) != (ys.length : Int)) = true := by simp; omega
    rw [hd]
    go_enter Try.func42, Try.ntmps42
    go_wp2_with fail
    go_ret
    exact ⟨rfl, Below.refl _ _⟩

theorem likeInts_k (A A' : Option Addr) (c c' : Nat) (xs : List Int) (w : World) (hr : Rd w w.heap.size 1 nC A xs) (hr' : Rd w w.heap.size 1 nC A' xs) (hl : xs.length ≤ 1048576) :
    Calls Try.prog 42 #[.slice A xs.length c, .slice A' xs.length c'] w fun e w' => e = .returned (.bool true) ∧ Below w.heap.size w w' := by
  have := likeInts_any A A' c c' xs xs w hr hr' hl
  rwa [decide_eq_true (rfl : xs = xs)] at this

end Go.Proofs.Ytioblfbhjkkgoaa

namespace Go.Proofs.Ytioblfbhjkkgoaa
set_option maxRecDepth 100000
open Go.RowKit

set_option maxHeartbeats 1000000 in
theorem likeRows_k (A A' : Option Addr) (c c' : Nat) (ms ns : List RowI) (w : World) (hr : RdJ w w.heap.size A ms) (hr' : RdJ w w.heap.size A' ns) (he : ms.map RowI.ns = ns.map RowI.ns) (hm : ms.length ≤ 1048576) (hp : ∀ m ∈ ms, m.ns.length ≤ 1048576) :
    Calls Try.prog 20 #[.slice A ms.length c, .slice A' ns.length c'] w fun e w' => e = .returned (.bool true) ∧ Below w.heap.size w w' := by
  have hl : ms.length = ns.length := by
    have := congrArg List.length he
    rwa [List.length_map, List.length_map] at this
  have hn : ((ms.length : Int) != (ns.length : Int)) = false := by simp [hl]
  have Hl := Lib.hid hl; clear hl
  have He := Lib.hid he; clear he
  have Hr := Lib.hid hr; clear hr
  have Hr' := Lib.hid hr'; clear hr'
  have Hp := Lib.hid hp; clear hp
  go_enter Try.func20, Try.ntmps20
  go_wp2_with fail
  go_loopw [5] (fun i wr => ∃ k : Nat, k ≤ ms.length ∧ i = .int .i64 k ∧ Below w.heap.size w wr) (fun i _ => ms.length - (intOf i).toNat)
  case atStart => exact ⟨0, Nat.zero_le _, rfl, Below.refl _ _⟩
  case round =>
    obtain ⟨k, hk, rfl, hb⟩ := hrel
    by_cases hlt : k < ms.length
    · have hlt' : k < ns.length := by have := Hl.out; omega
      have hx : ms[k]? = some ms[k] := List.getElem?_eq_getElem hlt
      have hy : ns[k]? = some ns[k] := List.getElem?_eq_getElem hlt'
      have hev : (ns[k]).ns = (ms[k]).ns := by
        have h1 : (ms.map RowI.ns)[k]? = some (ms[k]).ns := by rw [List.getElem?_map, hx]; rfl
        have h2 : (ns.map RowI.ns)[k]? = some (ns[k]).ns := by rw [List.getElem?_map, hy]; rfl
        rw [He.out, h2] at h1
        exact Option.some.inj h1
      have hi1 := ((Hr.out.2 _ (List.mem_of_getElem? hx)).below hb).more hb.size
      have hi2 := ((Hr'.out.2 _ (List.mem_of_getElem? hy)).below hb).more hb.size
      have htl := Hp.out _ (List.mem_of_getElem? hx)
      obtain ⟨b, o, hA, hB, h0⟩ := (Hr.out.1.below hb).at1 hx rfl
      obtain ⟨b', o', hA', hB', h0'⟩ := (Hr'.out.1.below hb).at1 hy rfl
      rw [Nat.mul_one] at h0 h0'
      subst hA
      subst hA'
      generalize ms[k] = t at h0 hx hi1 htl hev
      generalize ns[k] = t' at h0' hy hi2 hev
      rw [hev] at hi2 h0'
      have HC : Hid (∀ (v : World), Below wr.heap.size wr v → Calls Try.prog 42 #[.slice t.A t.ns.length t.c, .slice t'.A t.ns.length t'.c] v fun e w' => e = .returned (.bool true) ∧ Below v.heap.size v w') := fun v hv => likeInts_k t.A t'.A t.c t'.c t.ns v (hi1.next hv) (hi2.next hv) htl
      clear hx hy hi1 hi2 hev
      go_wp2_with fail
      go_still_tail 8, (by kernel_rfl)
      change wpList _ _ _ _ _ wr.drew
      have hb2 := hb.drew
      have HC2 := Lib.hid (HC.out wr.drew (bdrew wr))
      clear HC
      generalize wr.drew = w2 at hb2 HC2 ⊢
      go_wp2_with (go_at_call 42; refine HC2.out.mono ?_; rintro e w3 ⟨rfl, hb3⟩)
      exact ⟨⟨k + 1, by omega, by go_num, bthen hb2 hb3⟩, by simp [intOf]; omega⟩
    · go_wp2_with fail
      go_ret
      exact ⟨rfl, hb⟩
theorem likeRows_r (A A' : Option Addr) (c c' : Nat) (rs : List (List Int)) (w : World) (hr : RdI w w.heap.size A rs) (hr' : RdI w w.heap.size A' rs) (hs : SmallI rs) :
    Calls Try.prog 20 #[.slice A rs.length c, .slice A' rs.length c'] w fun e w' => e = .returned (.bool true) ∧ Below w.heap.size w w' := by
  obtain ⟨ms, e1, h1⟩ := hr
  obtain ⟨ns, e2, h2⟩ := hr'
  have l1 : rs.length = ms.length := by rw [← e1, List.length_map]
  have l2 : rs.length = ns.length := by rw [← e2, List.length_map]
  have := likeRows_k A A' c c' ms ns w h1 h2 (e1.trans e2.symm) (by rw [← l1]; exact hs.1) (fun m hm => hs.2 m.ns (by rw [← e1]; exact List.mem_map.2 ⟨m, hm, rfl⟩))
  rw [← l1, ← l2] at this
  exact this

end Go.Proofs.Ytioblfbhjkkgoaa

namespace Go.Proofs.Ytioblfbhjkkgoaa
set_option maxRecDepth 100000
open Go.RowKit Go.ChangeShapes Go.WideShapes Go.ChangeAt Go.Joins Go.Deep

theorem bd_u8 {n : Int} (h : (Lit.int .u8 n).wf = true) : 0 ≤ n ∧ n < 256 := by
  simp [Lit.wf, IntKind.min, IntKind.max, IntKind.signed, IntKind.bits] at h
  omega
theorem open_bytes {H : Type} {enc : TypeId × Value → H} {W : World} {spare : Nat → Bool} {r : Reach} {b0 : Nat} {v : Value} {d : DataW H} {p : List MemPlace}
    (hv : Value.okWide Try.prog W r b0 40 v) (h : DataW.Trod enc Try.prog W 0 spare true 40 v d p) :
    ∃ A c xs, v = .slice A (List.length xs) c ∧ List.length xs ≤ maxLen ∧ (∀ x ∈ xs, (fun n : Int => 0 ≤ n ∧ n < 256) x) ∧ Rd W W.heap.size 1 uC A xs :=
  open_flat (fun n : Int => 0 ≤ n ∧ n < 256) uC Try.underlying40 (show Try.prog.cellsOf 5 = 1 by kernel_rfl) (by omega) (fun n cs y hl h => by
    match cs, hl with
    | [c0], _ =>
      obtain ⟨x0, e0, -, wx0⟩ := DataW.trod_int Try.underlying5 h
      simp at e0
      subst e0
      exact ⟨x0, bd_u8 wx0, rfl⟩) hv h

theorem big_k (A : Option Addr) (c n : Nat) (w : World) : Calls Try.prog 18 #[.slice A n c] w fun e w' => e = .returned (.bool (decide ((4096 : Int) < n))) ∧ w = w' := by
  go_enter Try.func18, Try.ntmps18
  go_wp2_with fail
  go_ret
  exact ⟨rfl, rfl⟩

end Go.Proofs.Ytioblfbhjkkgoaa

namespace Go.Proofs.Ytioblfbhjkkgoaa
set_option maxRecDepth 100000
open Go.RowKit Go.ChangeShapes Go.WideShapes Go.ChangeAt Go.Joins Go.Deep

theorem frontR_small (vs : List PartT) (js : List JointT) : SmallI (frontR vs js).1 := by
  unfold frontR
  split
  · rename_i hb
    have h1 := frontP_sub (pairsB vs js) (pairsB vs js)
    have h2 := allB_len js (both_parts hb)
    have h3 : (pairsB vs js).length = (allB vs js).length := by unfold pairsB; rw [List.length_map]
    refine ⟨by rw [List.length_map]; omega, fun r hr => ?_⟩
    obtain ⟨p, _, rfl⟩ := List.mem_map.1 hr
    simp [rowOfP]
  · exact ⟨by simp, fun r h => absurd h (by simp)⟩

set_option maxHeartbeats 40000000 in
theorem law_FnFrontier (A : Option Addr) (c : Nat) (xs : List Int) (w : World) (hr : Rd w w.heap.size 1 uC A xs) (hx : ∀ x ∈ xs, 0 ≤ x ∧ x < 256) (hm : xs.length ≤ maxLen) :
    Calls Try.prog 4 #[.slice A xs.length c] w fun e w' => e = .returned (.bool true) ∧ Below w.heap.size w w' := by
  unfold maxLen at hm
  by_cases hbig : (4096 : Int) < xs.length
  · go_enter Try.func4, Try.ntmps4
    go_wp2_with (go_at_call 18; refine (big_k A c xs.length _).mono ?_; rintro e w' ⟨rfl, rfl⟩)
    go_ret
    exact ⟨rfl, Below.refl _ _⟩
  have HBig : Hid (∀ v : World, Calls Try.prog 18 #[.slice A xs.length c] v fun e w' => e = .returned (.bool false) ∧ v = w') := fun v => (big_k A c xs.length v).mono (by rintro e w' ⟨rfl, rfl⟩; exact ⟨by simp only [hbig, decide_false], rfl⟩)
  have HD := Lib.hid (DrawFrontier_any A c xs w hr hx (by omega))
  clear hr hx hbig
  go_enter Try.func4, Try.ntmps4
  go_wp2_with (go_at_call 18; refine (HBig.out _).mono ?_; rintro e w' ⟨rfl, rfl⟩)
  refine HD.out.mono ?_
  rintro e w1 ⟨LA, JA, lc, jc, vs, js, rfl, hrv, hsv, hrj, hjl, hb1⟩
  have HFi : Hid (∀ v : World, Below w1.heap.size w1 v → Calls Try.prog 10 #[.slice LA vs.length lc, .slice JA js.length jc] v (GivesI v (frontR vs js))) := fun v hv => Frontier_impl LA JA lc jc vs js v (hrv.next hv) (hrj.next hv) hsv (by omega)
  have HFs : Hid (∀ v : World, Below w1.heap.size w1 v → Calls Try.prog 7 #[.slice LA vs.length lc, .slice JA js.length jc] v (GivesI v (frontR vs js))) := fun v hv => Frontier_spec LA JA lc jc vs js v (hrv.next hv) (hrj.next hv) hsv (by omega)
  have HCi : Hid (∀ v : World, Below w1.heap.size w1 v → Calls Try.prog 21 #[.slice LA vs.length lc, .slice JA js.length jc] v (GivesRes2 v v.heap.size (cheapR vs js))) := fun v hv => CheapestBicycle_impl LA JA lc jc vs js v (hrv.next hv) (hrj.next hv) hsv (by omega)
  have HLi : Hid (∀ v : World, Below w1.heap.size w1 v → Calls Try.prog 22 #[.slice LA vs.length lc, .slice JA js.length jc, .int .i64 100000000] v (GivesRes2 v v.heap.size (lightR vs js 100000000))) := fun v hv => LightestBicycle_impl LA JA lc jc vs js v (hrv.next hv) (hrj.next hv) hsv (by omega) 100000000 (by omega)
  have HSm := Lib.hid (frontR_small vs js)
  have HLaw := Lib.hid (front_law vs js)
  clear hrv hrj hsv HD HBig
  by_cases hbad : (frontR vs js).2 = 0
  · obtain ⟨P, hF, hPl, hPb, hfall, hends⟩ := HLaw.out hbad
    have eF : frontR vs js = (P.map rowOfP, 0) := by rw [← hF, ← hbad]
    rw [eF] at HFi HFs HSm
    have GG : ∀ (v : World) (e : Ending) (w' : World), GivesI v (P.map rowOfP, 0) e w' → ∃ A c, e = .returned (.tuple #[.slice A P.length c, .int .i64 0]) ∧ FlatI w' v.heap.size w'.heap.size A (P.map rowOfP) ∧ Below v.heap.size v w' := fun v e w' h => by
      obtain ⟨A, c, rfl, h1, _, h2⟩ := h
      exact ⟨A, c, by rw [show (P.map rowOfP, (0 : Int)).1.length = P.length from List.length_map _], h1, h2⟩
    have HGi : Hid (∀ v : World, Below w1.heap.size w1 v → Calls Try.prog 10 #[.slice LA vs.length lc, .slice JA js.length jc] v fun e w' => ∃ A c, e = .returned (.tuple #[.slice A P.length c, .int .i64 0]) ∧ FlatI w' v.heap.size w'.heap.size A (P.map rowOfP) ∧ Below v.heap.size v w') := fun v hv => (HFi.out v hv).mono (GG v)
    have HGs : Hid (∀ v : World, Below w1.heap.size w1 v → Calls Try.prog 7 #[.slice LA vs.length lc, .slice JA js.length jc] v fun e w' => ∃ A c, e = .returned (.tuple #[.slice A P.length c, .int .i64 0]) ∧ FlatI w' v.heap.size w'.heap.size A (P.map rowOfP) ∧ Below v.heap.size v w') := fun v hv => (HFs.out v hv).mono (GG v)
    have HLr : Hid (∀ (v : World) (B B' : Option Addr) (d d' : Nat), RdI v v.heap.size B (P.map rowOfP) → RdI v v.heap.size B' (P.map rowOfP) → Calls Try.prog 20 #[.slice B P.length d, .slice B' P.length d'] v fun e w' => e = .returned (.bool true) ∧ Below v.heap.size v w') := fun v B B' d d' h1 h2 => by
      have := likeRows_r B B' d d' (P.map rowOfP) v h1 h2 HSm.out
      rwa [List.length_map] at this
    have HFa := Lib.hid hfall
    have HPb := Lib.hid hPb
    generalize cheapR vs js = CR at HCi hends
    generalize lightR vs js 100000000 = LR at HLi hends
    obtain ⟨ct, pr, one⟩ := CR
    obtain ⟨lt, gr, two⟩ := LR
    have HEn := Lib.hid hends
    clear HFi HFs HSm HLaw hF eF GG hfall hPb hends hbad
    go_wp2_with fail
    refine (HGi.out w1 (Below.refl _ _)).mono ?_
    rintro e w2 ⟨FA, fc, rfl, hf, hb2⟩
    have Hf := Lib.hid hf; clear hf HGi
    go_wp2_with fail
    refine (HGs.out w2 hb2).mono ?_
    rintro e w3 ⟨GA, gc, rfl, hg, hb3⟩
    have Hg := Lib.hid hg; clear hg HGs
    have Hf3 : Hid (FlatI w3 0 w3.heap.size FA (P.map rowOfP)) := (Hf.out.below hb3 (Nat.le_refl _)).mono (Nat.zero_le _) hb3.size
    have Hg3 : Hid (FlatI w3 0 w3.heap.size GA (P.map rowOfP)) := Hg.out.mono (Nat.zero_le _) (Nat.le_refl _)
    have hb13 := bthen hb2 hb3
    clear Hf Hg hb2 hb3
    have HLx := Lib.hid (HLr.out w3 FA GA fc gc Hf3.out.rd Hg3.out.rd)
    clear HLr
    go_wp2_with fail
    refine HLx.out.mono ?_
    rintro e w4 ⟨rfl, hb4⟩
    have hb14 := bthen hb13 hb4
    have Hf4 : Hid (FlatI w4 0 w4.heap.size FA (P.map rowOfP)) := (Hf3.out.below hb4 (Nat.le_refl _)).mono (Nat.zero_le _) hb4.size
    have Hg4 : Hid (FlatI w4 0 w4.heap.size GA (P.map rowOfP)) := (Hg3.out.below hb4 (Nat.le_refl _)).mono (Nat.zero_le _) hb4.size
    clear Hf3 Hg3 hb13 hb4 HLx
    go_wp2_with fail
    refine (HCi.out w4 hb14).mono ?_
    rintro e w5 ⟨CA, cc, rfl, _, _, hb5⟩
    have hb15 := bthen hb14 hb5
    have Hf5 : Hid (FlatI w5 0 w5.heap.size FA (P.map rowOfP)) := (Hf4.out.below hb5 (Nat.le_refl _)).mono (Nat.zero_le _) hb5.size
    have Hg5 : Hid (FlatI w5 0 w5.heap.size GA (P.map rowOfP)) := (Hg4.out.below hb5 (Nat.le_refl _)).mono (Nat.zero_le _) hb5.size
    clear Hf4 Hg4 hb14 hb5 HCi
    by_cases hP : P.length = 0
    · have hone : one = 4 := by
        rcases HEn.out with ⟨_, h⟩ | ⟨_, _, h, _⟩
        · exact h
        · omega
      subst hone
      have HP := Lib.hid hP
      obtain rfl : P = [] := List.length_eq_zero_iff.1 HP.out
      clear HEn hP HP HFa HPb Hf5 Hg5
      go_wp2_with fail
      go_loopw [12] (fun z wr => z = .int .i64 1 ∧ Below w5.heap.size w5 wr) (fun _ _ => 0)
      case atStart => exact ⟨rfl, Below.refl _ _⟩
      case round =>
        obtain ⟨rfl, hbk⟩ := hrel
        go_wp2_with fail
        go_ret
        exact ⟨rfl, hb1.trans ((bthen hb15 hbk).mono hb1.size)⟩
    · have hpl : 0 < P.length := by omega
      obtain ⟨fb, rfl⟩ := Hf5.out.addr hpl
      obtain ⟨gb, rfl⟩ := Hg5.out.addr hpl
      have HFc : Hid (∀ (v : World) (i : Nat) (a : Int × Int), Below w5.heap.size w5 v → P[i]? = some a → ∃ g c, v.cell? ⟨fb, i, none⟩ = some (.slice (some ⟨g, 0, none⟩) 2 c) ∧ v.cell? ⟨g, 0, none⟩ = some (.int .i64 a.1) ∧ v.cell? ⟨g, 1, none⟩ = some (.int .i64 a.2)) := fun v i a h1 h2 => (Hf5.out.below h1 (Nat.le_refl _)).pair h2
      have HGc : Hid (∀ (v : World) (i : Nat) (a : Int × Int), Below w5.heap.size w5 v → P[i]? = some a → ∃ g c, v.cell? ⟨gb, i, none⟩ = some (.slice (some ⟨g, 0, none⟩) 2 c) ∧ v.cell? ⟨g, 0, none⟩ = some (.int .i64 a.1) ∧ v.cell? ⟨g, 1, none⟩ = some (.int .i64 a.2)) := fun v i a h1 h2 => (Hg5.out.below h1 (Nat.le_refl _)).pair h2
      have hl0 : ((P.length : Int) == 0) = false := beq_eq_false_iff_ne.2 (by omega)
      have HP := Lib.hid hP
      clear Hf5 Hg5 hP
      go_wp2_with fail
      go_loopw [12] (fun z wr => ∃ k : Nat, 0 < k ∧ k ≤ P.length ∧ z = .int .i64 k ∧ Below w5.heap.size w5 wr) (fun z _ => P.length - (intOf z).toNat)
      case atStart => exact ⟨1, by omega, by omega, rfl, Below.refl _ _⟩
      case round =>
        obtain ⟨k, hk0, hk, rfl, hbk⟩ := hrel
        by_cases hlt : k < P.length
        · have hlt1 : k - 1 < P.length := by omega
          have hx : P[k]? = some P[k] := List.getElem?_eq_getElem hlt
          have hy : P[k - 1]? = some (P[k - 1]'hlt1) := List.getElem?_eq_getElem hlt1
          have hxy := HFa.out (k - 1) _ _ hy (by rw [show k - 1 + 1 = k by omega]; exact hx)
          obtain ⟨g1, c1, x0, x1, x2⟩ := HFc.out wr k _ hbk hx
          obtain ⟨g2, c2, y0, y1, y2⟩ := HFc.out wr (k - 1) _ hbk hy
          generalize P[k] = x at x1 x2 hxy hx
          generalize P[k - 1]'hlt1 = y at y1 y2 hxy hy
          obtain ⟨hxy1, hxy2⟩ := hxy
          have d1 : decide (x.1 ≤ y.1) = false := by simp; omega
          have d2 : decide (y.2 ≤ x.2) = false := by simp; omega
          clear hx hy
          go_wp2_with fail
          have e1 : decide (x.1 ≤ y.1) = false := by simp; omega
          have e2 : decide (y.2 ≤ x.2) = false := by simp; omega
          go_quiet (fail)
          go_wp2_with fail
          exact ⟨⟨k + 1, by omega, by omega, by go_num, below_drewN hbk _⟩, by simp [intOf]; omega⟩
        · obtain ⟨a, b, ha, hb, e1, e2, e3, e4⟩ : ∃ a b, P[0]? = some a ∧ P[P.length - 1]? = some b ∧ pr = a.1 ∧ one = 0 ∧ gr = b.2 ∧ two = 0 := by
            rcases HEn.out with ⟨h, _⟩ | ⟨a, b, _, h1, h2, h3, h4, h5, h6⟩
            · rw [h] at hpl
              exact absurd hpl (by simp)
            · exact ⟨a, b, h1, h2, h3, h4, h5, h6⟩
          subst e1
          subst e2
          subst e3
          subst e4
          have HA := Lib.hid ha
          have HB := Lib.hid hb
          have hb1k := bthen hb15 hbk
          clear ha hb HEn HFa HFc HPb
          go_wp2_with fail
          refine (HLi.out wr hb1k).mono ?_
          rintro e w7 ⟨DA, dc, rfl, _, _, hb7⟩
          have hbk7 := bthen hbk hb7
          obtain ⟨g1, c1, x0, x1, _⟩ := HGc.out w7 0 a hbk7 HA.out
          obtain ⟨g2, c2, y0, _, y2⟩ := HGc.out w7 (P.length - 1) b hbk7 HB.out
          clear HGc HA HB
          go_wp2_with fail
          go_ret
          exact ⟨rfl, hb1.trans ((bthen hb1k hb7).mono hb1.size)⟩
  · have HN : ∀ (v : World) (e : Ending) (w' : World), GivesI v (frontR vs js) e w' → ∃ A c, e = .returned (.tuple #[.slice A (frontR vs js).1.length c, .int .i64 (frontR vs js).2]) ∧ FlatI w' v.heap.size w'.heap.size A (frontR vs js).1 ∧ Below v.heap.size v w' := fun v e w' h => by
      obtain ⟨A, c, rfl, h1, _, h2⟩ := h
      exact ⟨A, c, rfl, h1, h2⟩
    have hbb : ((frontR vs js).2 != 0) = true := by simp [hbad]
    clear HLaw hbad HN HCi HLi
    generalize frontR vs js = FR at HFi HFs HSm hbb
    obtain ⟨F, bad⟩ := FR
    try simp only at hbb
    go_wp2_with fail
    refine (HFi.out w1 (Below.refl _ _)).mono ?_
    rintro e w2 ⟨FA, fc, rfl, hf, _, hb2⟩
    have Hf := Lib.hid hf; clear hf HFi
    go_wp2_with fail
    refine (HFs.out w2 hb2).mono ?_
    rintro e w3 ⟨GA, gc, rfl, hg, _, hb3⟩
    have HLx := Lib.hid (likeRows_r FA GA fc gc F w3 (Hf.out.rd.next hb3) hg.rd HSm.out)
    have hb13 := bthen hb2 hb3
    clear hg Hf HFs hb2 hb3 HSm
    go_wp2_with fail
    refine HLx.out.mono ?_
    rintro e w4 ⟨rfl, hb4⟩
    have hb14 := bthen hb13 hb4
    clear HLx
    go_wp2_with fail
    go_ret
    exact ⟨rfl, hb1.trans (hb14.mono hb1.size)⟩

set_option maxRecDepth 100000 in
theorem fnFrontier_lifted (os : Os) (started : os.Started) (H : Type) (enc : TypeId × Value → H) :
    ReturnsInHanded {} Try.checked os 4 .any (Rows.fnFrontierSpec.pre6 enc Try.prog Try.f4 Rows.fnFrontierRow.domain false) (Rows.fnFrontierSpec.post enc Try.prog Try.f4 false true false false) := by
  refine returnsInHanded_of_change (C := Try.checked) own started (by kernel_rfl) Try.func4
    (ChangeSpec.witness6 (enc := enc) (C := Try.checked) false ⟨#[], #[.slice none 0 0], []⟩ 8 (by kernel_rfl) (by kernel_rfl) (by kernel_rfl) (by kernel_rfl)) ?_
  intro W base args ds gs before hval0 hW hcnd _
  have hval : ∀ (j : Nat) t v, Try.f4.params[j]? = some t → args[j]? = some v → Value.okWide Try.prog W .any base t v := hval0
  have hlt : ∀ x ∈ before, x.block < W.heap.size := fun x hx => hW.lt x hx
  have hW' := hW
  obtain ⟨p, q, hA0, hV, rfl, hfz, hnd⟩ := hW
  have hA : DataW.TrodAll enc Try.prog W 0 (fun _ => true) true Try.f4.params.toList args.toList ds p := hA0
  rw [Try.params4] at hA hval
  obtain ⟨v0, d0, rfl, rfl, h0⟩ := trodAll_one hA
  obtain ⟨A, c, xs, rfl, hm, hx, hr⟩ := open_bytes (hval 0 40 v0 rfl rfl) h0
  refine (law_FnFrontier A c xs W hr hx hm).mono fun e W' ⟨he, hb⟩ => ?_
  subst he
  exact ⟨_, rfl, law_post (tb := 4) laidOut (by kernel_rfl) rfl rfl Try.underlying4 hW' rfl hb⟩
theorem fnFrontier_closed : joinedFacts Try.prog 4 Try.f4 Rows.fnFrontierSpec Rows.fnFrontierRow = true := by
  unfold joinedFacts; rw [mayEnter_yes, liftsFinal_no, make_cut]; kernel_rfl
theorem fnFrontier_holds : Rows.FnFrontierSaid :=
  OpenClaim.holds_of_wide 4 Try.f4 rfl rfl rfl rfl rfl rfl rfl ⟨rfl, rfl, rfl, rfl, rfl⟩ rfl rfl rfl rfl rfl (by kernel_rfl) Try.func4 fnFrontier_closed
    (of_decide_eq_true (by kernel_rfl)) (by unfold Func.isWrapper; rw [if_neg (of_decide_eq_false (by kernel_rfl))]; exact ⟨rfl, rfl⟩)
    (fun os started H enc _ => fnFrontier_lifted os started H enc)
#print axioms fnFrontier_holds

end Go.Proofs.Ytioblfbhjkkgoaa
