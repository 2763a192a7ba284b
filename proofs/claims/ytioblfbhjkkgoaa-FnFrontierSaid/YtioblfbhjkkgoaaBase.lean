/- DERIVED. Small tools of this seat's proofs: what is kept under growth of memory; the last step of every law: the answer is true and nothing that was there has turned. -/
import Derived.Test.YtioblfbhjkkgoaaRows
import Derived.WalkKit
import Derived.WalkSpells
import Derived.WalkLawsBesides
import Derived.ProofKit
import Derived.Lib.Hide
import Derived.StillTailTactics
import Derived.BigQuiet
import Derived.Deep.RegionWith
namespace Go.Proofs.Ytioblfbhjkkgoaa
set_option maxRecDepth 100000
open Go.RowKit Go.ChangeShapes Go.WideShapes Go.ChangeAt

theorem bcell {W w1 : World} (hb : Below W.heap.size W w1) : (∀ b o, b < W.heap.size → w1.cell? ⟨b, o, none⟩ = W.cell? ⟨b, o, none⟩) ∧ (∀ b o, b < W.heap.size → w1.frozen? ⟨b, o, none⟩ = W.frozen? ⟨b, o, none⟩) :=
  ⟨fun b o h => hb.cell (p := ⟨b, o, none⟩) h, fun b o h => hb.frozen (p := ⟨b, o, none⟩) h⟩

theorem bthen {w w1 w2 : World} (h : Below w.heap.size w w1) (k : Below w1.heap.size w1 w2) : Below w.heap.size w w2 := h.trans (k.mono h.size)
theorem bthen' {B : Nat} {w w1 w2 : World} (h : Below B w w1) (k : Below w1.heap.size w1 w2) (hB : B ≤ w.heap.size := by omega) : Below B w w2 := h.trans (k.mono (Nat.le_trans hB h.size))
theorem balloc (w : World) (o : Obj) : Below w.heap.size w (w.alloc o) := (Below.refl _ _).alloc (Nat.le_refl _) _
theorem bdrew (w : World) : Below w.heap.size w w.drew := (Below.refl _ _).drew
theorem below_drewN {B : Nat} {a w : World} (h : Below B a w) (n : Nat) : Below B a (w.drewN n) := ⟨h.os, h.tape, h.output, h.size, h.block⟩
theorem bd_i64 {n : Int} (h : (Lit.int .i64 n).wf = true) : -9223372036854775808 ≤ n ∧ n ≤ 9223372036854775807 := by
  simp [Lit.wf, IntKind.min, IntKind.max, IntKind.signed, IntKind.bits] at h
  omega
theorem str_eq {a b : ByteArray} : a.toList = b.toList ↔ a = b := by
  rw [ByteArray.toList_eq, ByteArray.toList_eq]
  constructor
  · intro h
    exact ByteArray.ext (Array.toList_inj.1 h)
  · rintro rfl
    rfl
theorem ret_bool {a b : Bool} (h : a = b) : Ending.returned (.bool a) = .returned (.bool b) := by rw [h]
theorem ret_int {k : IntKind} {a b : Int} (h : a = b) : Ending.returned (.int k a) = .returned (.int k b) := by rw [h]

/-- A number between two others. -/
def inB (n lo hi : Int) : Bool := decide (lo ≤ n ∧ n ≤ hi)
theorem inB_true {n lo hi : Int} (h : inB n lo hi = true) : lo ≤ n ∧ n ≤ hi := by simpa [inB] using h

/-- A slice (its address A, its length that of xs) whose k-th element lies in the cells f xs[k], sz cells an element; below block B. -/
def Rd {α : Type} (w : World) (B sz : Nat) (f : α → List Value) (A : Option Addr) (xs : List α) : Prop :=
  0 < xs.length → ∃ b o, A = some ⟨b, o, none⟩ ∧ b < B ∧ ∀ k x, xs[k]? = some x → ∀ j v, (f x)[j]? = some v → w.cell? ⟨b, o + k * sz + j, none⟩ = some v
section
variable {α : Type} {w w' : World} {B B' sz : Nat} {f : α → List Value} {A : Option Addr} {xs : List α}
theorem Rd.keep (h : Rd w B sz f A xs) (hk : ∀ b o, b < B → w'.cell? ⟨b, o, none⟩ = w.cell? ⟨b, o, none⟩) : Rd w' B sz f A xs := fun hx => by
  obtain ⟨b, o, e, hB, hc⟩ := h hx
  exact ⟨b, o, e, hB, fun k x hk' j v hj => (hk _ _ hB).trans (hc k x hk' j v hj)⟩
theorem Rd.below (h : Rd w B sz f A xs) (hb : Below B w w') : Rd w' B sz f A xs := h.keep fun b o hB => hb.cell (p := ⟨b, o, none⟩) hB
theorem Rd.more (h : Rd w B sz f A xs) (hB : B ≤ B') : Rd w B' sz f A xs := fun hx => by
  obtain ⟨b, o, e, h1, hc⟩ := h hx
  exact ⟨b, o, e, by omega, hc⟩
theorem Rd.next (h : Rd w w.heap.size sz f A xs) (hb : Below w.heap.size w w') : Rd w' w'.heap.size sz f A xs := (h.below hb).more hb.size
theorem Rd.at1 {k : Nat} {x : α} {v0 : Value} (h : Rd w B sz f A xs) (hk : xs[k]? = some x) (hf : f x = [v0]) : ∃ b o, A = some ⟨b, o, none⟩ ∧ b < B ∧ w.cell? ⟨b, o + k * sz, none⟩ = some v0 := by
  obtain ⟨b, o, e, hB, hc⟩ := h (by have := (List.getElem?_eq_some_iff.1 hk).1; omega)
  exact ⟨b, o, e, hB, hc k x hk 0 _ (by rw [hf]; rfl)⟩
theorem Rd.at2 {k : Nat} {x : α} {v0 v1 : Value} (h : Rd w B sz f A xs) (hk : xs[k]? = some x) (hf : f x = [v0, v1]) : ∃ b o, A = some ⟨b, o, none⟩ ∧ b < B ∧ w.cell? ⟨b, o + k * sz, none⟩ = some v0 ∧ w.cell? ⟨b, o + k * sz + 1, none⟩ = some v1 := by
  obtain ⟨b, o, e, hB, hc⟩ := h (by have := (List.getElem?_eq_some_iff.1 hk).1; omega)
  exact ⟨b, o, e, hB, hc k x hk 0 _ (by rw [hf]; rfl), hc k x hk 1 _ (by rw [hf]; rfl)⟩
theorem Rd.at3 {k : Nat} {x : α} {v0 v1 v2 : Value} (h : Rd w B sz f A xs) (hk : xs[k]? = some x) (hf : f x = [v0, v1, v2]) : ∃ b o, A = some ⟨b, o, none⟩ ∧ b < B ∧ w.cell? ⟨b, o + k * sz, none⟩ = some v0 ∧ w.cell? ⟨b, o + k * sz + 1, none⟩ = some v1 ∧ w.cell? ⟨b, o + k * sz + 2, none⟩ = some v2 := by
  obtain ⟨b, o, e, hB, hc⟩ := h (by have := (List.getElem?_eq_some_iff.1 hk).1; omega)
  exact ⟨b, o, e, hB, hc k x hk 0 _ (by rw [hf]; rfl), hc k x hk 1 _ (by rw [hf]; rfl), hc k x hk 2 _ (by rw [hf]; rfl)⟩
theorem Rd.at4 {k : Nat} {x : α} {v0 v1 v2 v3 : Value} (h : Rd w B sz f A xs) (hk : xs[k]? = some x) (hf : f x = [v0, v1, v2, v3]) : ∃ b o, A = some ⟨b, o, none⟩ ∧ b < B ∧ w.cell? ⟨b, o + k * sz, none⟩ = some v0 ∧ w.cell? ⟨b, o + k * sz + 1, none⟩ = some v1 ∧ w.cell? ⟨b, o + k * sz + 2, none⟩ = some v2 ∧ w.cell? ⟨b, o + k * sz + 3, none⟩ = some v3 := by
  obtain ⟨b, o, e, hB, hc⟩ := h (by have := (List.getElem?_eq_some_iff.1 hk).1; omega)
  exact ⟨b, o, e, hB, hc k x hk 0 _ (by rw [hf]; rfl), hc k x hk 1 _ (by rw [hf]; rfl), hc k x hk 2 _ (by rw [hf]; rfl), hc k x hk 3 _ (by rw [hf]; rfl)⟩
end
theorem take_next {α : Type} {xs ys : List α} {k : Nat} {x y : α} (h : xs.take k = ys.take k) (hx : xs[k]? = some x) (hy : ys[k]? = some y) (e : x = y) : xs.take (k + 1) = ys.take (k + 1) := by
  subst e
  rw [List.take_add_one, List.take_add_one, h, hx, hy]
theorem ne_next {α : Type} {xs ys : List α} {k : Nat} {x y : α} (hx : xs[k]? = some x) (hy : ys[k]? = some y) (e : ¬ x = y) : ¬ xs = ys := fun h => by
  subst h
  rw [hx] at hy
  exact e (Option.some.inj hy)
theorem take_all {α : Type} {xs ys : List α} {k : Nat} (h : xs.take k = ys.take k) (hl : xs.length = ys.length) (hk : xs.length ≤ k) : xs = ys := by
  rwa [List.take_of_length_le hk, List.take_of_length_le (by omega)] at h
theorem all_snoc {α : Type} {p : α → Bool} {xs : List α} {k : Nat} (hlt : k < xs.length) : (xs.take (k + 1)).all p = ((xs.take k).all p && p xs[k]) := by
  rw [List.take_succ_eq_append_getElem hlt, List.all_append]
  simp
theorem all_out {α : Type} {p : α → Bool} {xs : List α} {k : Nat} (hlt : k < xs.length) (h : p xs[k] = false) : xs.all p = false := by
  rw [List.all_eq_false]
  exact ⟨xs[k], List.getElem_mem hlt, by simp [h]⟩

section
variable {H : Type} {enc : TypeId × Value → H} {P : Program}
theorem all_stays (hl : laidOutB P = true) {W W' : World} {sp : Nat → Bool} :
    ∀ {ts : List TypeId} {vs : List Value} {ds : List (DataW H)} {ps : List MemPlace}, (∀ t ∈ ts, P.readableRec t = true ∧ t < P.types.size) →
      DataW.TrodAll enc P W 0 (fun _ => true) true ts vs ds ps → (∀ x ∈ ps, W.sameAt W' x) → (∀ x ∈ ps, sp x.block = true) → DataW.TrodAll enc P W' 0 sp true ts vs ds ps
  | [], [], [], _, _, h, _, _ => h
  | _ :: _, _ :: _, _ :: _, _, hT, ⟨p, q, h1, h2, e⟩, hsame, hs =>
    ⟨p, q, WideElems.Trod_stays hl (hT _ (List.mem_cons.2 (Or.inl rfl))).1 (hT _ (List.mem_cons.2 (Or.inl rfl))).2 h1 (fun x hx => hsame x (by rw [e]; exact List.mem_append_left _ hx)) (fun x hx => hs x (by rw [e]; exact List.mem_append_left _ hx)),
      all_stays hl (fun t ht => hT t (List.mem_cons.2 (Or.inr ht))) h2 (fun x hx => hsame x (by rw [e]; exact List.mem_append_right _ hx)) (fun x hx => hs x (by rw [e]; exact List.mem_append_right _ hx)), e⟩

/-- The last step of a law: it answered true, and below the heap's old size nothing has turned. -/
theorem law_post {f : Func} {s : ChangeSpec} {apart fresh handsOn again : Bool} {W W' : World} {args : Array Value} {ds gs : List (DataW H)} {before : List MemPlace} {tb : TypeId}
    (hl : laidOutB P = true) (hT0 : (f.params.toList.all fun t => P.readableRec t && decide (t < P.types.size)) = true) (hv : s.vars = [])
    (hres : f.resultTypes = #[tb]) (hb : P.underlying tb = some .bool)
    (hW : DataW.Whole enc P f.params.toList s.vars apart W args.toList ds gs before)
    (hfn : s.fn H ds = { results := [.lit (.bool true)], args := ds }) (hbl : Below W.heap.size W W') :
    s.post enc P f apart fresh handsOn again W args (.bool true) W' := by
  have hT : ∀ t ∈ f.params.toList, P.readableRec t = true ∧ t < P.types.size := fun t ht => by
    have := List.all_eq_true.1 hT0 t ht
    simpa only [Bool.and_eq_true, decide_eq_true_eq] using this
  have hlt : ∀ p ∈ before, p.block < W.heap.size := fun p hp => hW.lt p hp
  have hold : ∀ p ∈ before, (fun b => decide (b < W.heap.size)) p.block = true := fun p hp => by simpa using hlt p hp
  have hW' := hW
  obtain ⟨p, q, hA, hV, rfl, hfz, hnd⟩ := hW
  rw [hv] at hV
  obtain ⟨rfl, rfl⟩ := trodVars_none hV
  simp only [List.append_nil] at *
  have hargs : ∀ sp : Nat → Bool, (∀ x ∈ p, sp x.block = true) → DataW.TrodAll enc P W' 0 sp true f.params.toList args.toList ds p := fun sp hs =>
    all_stays hl hT hA (fun x hx => hbl.same (hlt x hx)) hs
  have hbool : ∀ (b : Nat) (sp : Nat → Bool) (hd : Bool), DataW.TrodAll enc P W' b sp hd f.resultTypes.toList ((Value.bool true).resultList f.resultTypes.size) [.lit (.bool true)] [] := fun b sp hd => by
    rw [hres]
    exact trodAll_mk1 (shut_bool hb true)
  refine ⟨ds, [], p, [], p, [], hW', ?_, ?_, ?_, World.keptBut_mono (fun x hx => ⟨hx, ?_⟩) (hbl.frame (· ∈ p)), fun _ => ?_⟩
  · simp only [List.append_nil, hfn]
    exact hbool _ _ _
  · simp only [List.append_nil, hfn]
    exact hargs _ hold
  · simp only [List.append_nil, hfn]
    rw [hv]
    exact rfl
  · exact Or.inr (by simpa using hx)
  · refine ⟨?_, _, _, ([] ++ p) ++ [], ⟨[] ++ p, [], trodAll_append (hargs _ (fun _ _ => rfl)) (hbool _ _ _), (show DataW.TrodVars enc P W' (fun _ => true) s.vars [] [] by rw [hv]; rfl), rfl, ?_, ?_⟩, ?_⟩
    · intro j t r h1 h2
      rw [hres] at h1 h2
      match j with
      | 0 =>
        obtain rfl : tb = t := by simpa using h1
        obtain rfl : Value.bool true = r := by simpa [Value.resultList] using h2
        exact okWide_bool_mk hb true
      | j + 1 => simp at h1
    · intro b off hp
      have hin : MemPlace.cell b off ∈ p := by simpa using hp
      rw [hbl.frozen (hlt _ hin)]
      exact hfz b off hin
    · intro ha
      simpa using hnd ha
    · intro x hx _
      simpa using hx
end
end Go.Proofs.Ytioblfbhjkkgoaa
