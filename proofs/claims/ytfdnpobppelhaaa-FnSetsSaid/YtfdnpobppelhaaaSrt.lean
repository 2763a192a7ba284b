/- DERIVED. Numbers put in order one by one: plainly. -/
import Derived.Test.YtfdnpobppelhaaaBase
namespace Go.Proofs.Ytfdnpobppelhaaa
set_option maxRecDepth 100000
open Go.RowKit

def insF (f : Int → Int) (x : Int) : List Int → List Int
  | [] => [x]
  | y :: ys => if f y ≤ f x then y :: insF f x ys else x :: y :: ys
def srt (f : Int → Int) (l : List Int) : List Int := l.foldl (fun acc x => insF f x acc) []
theorem srt_nil (f : Int → Int) : srt f [] = [] := rfl
theorem srt_snoc (f : Int → Int) (l : List Int) (x : Int) : srt f (l ++ [x]) = insF f x (srt f l) := by
  unfold srt
  rw [List.foldl_append]
  rfl
theorem insF_split {f : Int → Int} {x : Int} : ∀ {pre suf : List Int}, (∀ y ∈ pre, f y ≤ f x) → (∀ y, suf[0]? = some y → f x < f y) → insF f x (pre ++ suf) = pre ++ x :: suf
  | [], [], _, _ => rfl
  | [], y :: ys, _, h => by
    have := h y rfl
    show (if f y ≤ f x then _ else _) = _
    rw [if_neg (by omega)]
    rfl
  | z :: zs, suf, h1, h2 => by
    show (if f z ≤ f x then _ else _) = _
    rw [if_pos (h1 z List.mem_cons_self)]
    show z :: insF f x (zs ++ suf) = _
    rw [insF_split (fun y hy => h1 y (List.mem_cons_of_mem _ hy)) h2]
    rfl
theorem insF_len (f : Int → Int) (x : Int) : ∀ l, (insF f x l).length = l.length + 1
  | [] => rfl
  | y :: ys => by
    unfold insF
    split
    · simp [insF_len f x ys]
    · simp
theorem insF_mem {f : Int → Int} {x z : Int} : ∀ {l : List Int}, z ∈ insF f x l ↔ z = x ∨ z ∈ l
  | [] => by simp [insF]
  | y :: ys => by
    unfold insF
    split
    · rw [List.mem_cons, insF_mem, List.mem_cons]
      constructor
      · rintro (h | h | h)
        · exact Or.inr (Or.inl h)
        · exact Or.inl h
        · exact Or.inr (Or.inr h)
      · rintro (h | h | h)
        · exact Or.inr (Or.inl h)
        · exact Or.inl h
        · exact Or.inr (Or.inr h)
    · rw [List.mem_cons]
def Asc (f : Int → Int) (l : List Int) : Prop := l.Pairwise fun a b => f a ≤ f b
theorem insF_asc {f : Int → Int} {x : Int} : ∀ {l : List Int}, Asc f l → Asc f (insF f x l)
  | [], _ => List.pairwise_singleton _ _
  | y :: ys, h => by
    have h1 := List.pairwise_cons.1 h
    unfold insF
    split
    · rename_i hle
      refine List.pairwise_cons.2 ⟨fun z hz => ?_, insF_asc h1.2⟩
      rcases insF_mem.1 hz with rfl | hz
      · exact hle
      · exact h1.1 z hz
    · rename_i hle
      refine List.pairwise_cons.2 ⟨fun z hz => ?_, h⟩
      rcases List.mem_cons.1 hz with rfl | hz
      · omega
      · have := h1.1 z hz
        omega
theorem insF_nodup {f : Int → Int} {x : Int} : ∀ {l : List Int}, l.Nodup → x ∉ l → (insF f x l).Nodup
  | [], _, _ => by simp [insF]
  | y :: ys, h, hx => by
    rw [List.nodup_cons] at h
    simp only [List.mem_cons, not_or] at hx
    unfold insF
    split
    · rw [List.nodup_cons]
      refine ⟨fun hm => ?_, insF_nodup h.2 hx.2⟩
      rcases insF_mem.1 hm with e | hm
      · exact hx.1 e.symm
      · exact h.1 hm
    · rw [List.nodup_cons, List.nodup_cons]
      refine ⟨?_, h⟩
      simp only [List.mem_cons, not_or]
      exact hx
theorem insF_map {f : Int → Int} {x : Int} : ∀ {l : List Int}, (insF f x l).map f = insF (fun z => z) (f x) (l.map f)
  | [] => rfl
  | y :: ys => by
    unfold insF
    simp only [List.map_cons]
    split
    · rw [List.map_cons, insF_map]
    · rfl
/-- By induction over the front. -/
theorem snoc_ind {P : List Int → Prop} (h0 : P []) (h1 : ∀ l x, P l → P (l ++ [x])) (l : List Int) : P l := by
  have key : ∀ n (l : List Int), l.length = n → P l := by
    intro n
    induction n with
    | zero => intro l hl; rw [List.length_eq_zero_iff.1 hl]; exact h0
    | succ n ih =>
      intro l hl
      have hne : l ≠ [] := fun e => by rw [e] at hl; simp at hl
      rw [← List.dropLast_concat_getLast hne]
      exact h1 _ _ (ih _ (by rw [List.length_dropLast, hl]; rfl))
  exact key _ l rfl
theorem srt_len (f : Int → Int) (l : List Int) : (srt f l).length = l.length := by
  induction l using snoc_ind with
  | h0 => rfl
  | h1 l x ih => rw [srt_snoc, insF_len, ih]; simp
theorem srt_mem {f : Int → Int} {l : List Int} {z : Int} : z ∈ srt f l ↔ z ∈ l := by
  induction l using snoc_ind with
  | h0 => exact Iff.rfl
  | h1 l x ih =>
    rw [srt_snoc, insF_mem, ih, List.mem_append, List.mem_singleton]
    exact or_comm
theorem srt_asc (f : Int → Int) (l : List Int) : Asc f (srt f l) := by
  induction l using snoc_ind with
  | h0 => exact List.Pairwise.nil
  | h1 l x ih => rw [srt_snoc]; exact insF_asc ih
theorem srt_nodup {f : Int → Int} {l : List Int} (h : l.Nodup) : (srt f l).Nodup := by
  revert h
  induction l using snoc_ind with
  | h0 => intro _; exact List.nodup_nil
  | h1 l x ih =>
    intro h
    rw [List.nodup_append] at h
    rw [srt_snoc]
    refine insF_nodup (ih h.1) fun hm => ?_
    exact h.2.2 x (srt_mem.1 hm) x (by simp) rfl
theorem srt_map (f : Int → Int) (l : List Int) : (srt f l).map f = srt (fun z => z) (l.map f) := by
  induction l using snoc_ind with
  | h0 => rfl
  | h1 l x ih => rw [srt_snoc, insF_map, ih, List.map_append, List.map_cons, List.map_nil, srt_snoc]
theorem Asc.at {f : Int → Int} {l : List Int} (h : Asc f l) {i j : Nat} {a b : Int} (hi : l[i]? = some a) (hj : l[j]? = some b) (hij : i ≤ j) : f a ≤ f b := by
  obtain ⟨h1, rfl⟩ := List.getElem?_eq_some_iff.1 hi
  obtain ⟨h2, rfl⟩ := List.getElem?_eq_some_iff.1 hj
  by_cases e : i = j
  · subst e
    exact Int.le_refl _
  · exact List.pairwise_iff_getElem.1 h i j h1 h2 (by omega)
/-- Where the number goes in a list in order: behind k that are not greater, ahead of greater ones. -/
theorem insF_at {f : Int → Int} {x : Int} {l : List Int} (ha : Asc f l) {k : Nat} (hk : k ≤ l.length) (h1 : ∀ y, 0 < k → l[k - 1]? = some y → f y ≤ f x) (h2 : ∀ y, l[k]? = some y → f x < f y) : insF f x l = l.take k ++ x :: l.drop k := by
  have e := insF_split (f := f) (x := x) (pre := l.take k) (suf := l.drop k) (fun y hy => ?_) (fun y hy => ?_)
  · rw [List.take_append_drop] at e
    exact e
  · obtain ⟨i, hi⟩ := List.mem_iff_getElem?.1 hy
    have hlt := (List.getElem?_eq_some_iff.1 hi).1
    rw [List.length_take] at hlt
    rw [List.getElem?_take_of_lt (by omega)] at hi
    have hl : l[k - 1]? = some l[k - 1] := List.getElem?_eq_getElem (by omega)
    exact Int.le_trans (ha.at hi hl (by omega)) (h1 _ (by omega) hl)
  · rw [List.getElem?_drop, Nat.add_zero] at hy
    exact h2 y hy
/-- Indices. -/
def idxL (n : Nat) : List Int := (List.range n).map fun i : Nat => (i : Int)
theorem idxL_succ (n : Nat) : idxL (n + 1) = idxL n ++ [(n : Int)] := by
  unfold idxL
  rw [List.range_succ, List.map_append]
  rfl
theorem idxL_len (n : Nat) : (idxL n).length = n := by simp [idxL]
theorem idxL_mem {n : Nat} {x : Int} (h : x ∈ idxL n) : ∃ j : Nat, x = (j : Int) ∧ j < n := by
  unfold idxL at h
  obtain ⟨j, hj, rfl⟩ := List.mem_map.1 h
  exact ⟨j, rfl, List.mem_range.1 hj⟩
theorem idxL_nodup : ∀ n, (idxL n).Nodup
  | 0 => List.nodup_nil
  | n + 1 => by
    rw [idxL_succ, List.nodup_append]
    refine ⟨idxL_nodup n, by simp, fun a ha b hb => ?_⟩
    obtain ⟨j, rfl, hj⟩ := idxL_mem ha
    simp at hb
    omega
def bAt (bs : List Int) (n : Int) : Int := match bs[n.toNat]? with
  | some x => x
  | none => 0
theorem bAt_of {bs : List Int} {j : Nat} {x : Int} (h : bs[j]? = some x) : bAt bs (j : Int) = x := by
  unfold bAt
  rw [Int.toNat_natCast, h]
theorem idxL_map (bs : List Int) : (idxL bs.length).map (bAt bs) = bs := by
  refine List.ext_getElem? fun i => ?_
  unfold idxL
  rw [List.map_map, List.getElem?_map]
  by_cases h : i < bs.length
  · rw [List.getElem?_range h]
    simp only [Option.map_some, Function.comp]
    rw [bAt_of (List.getElem?_eq_getElem h), List.getElem?_eq_getElem h]
  · rw [List.getElem?_eq_none (by simpa using h), List.getElem?_eq_none (by omega)]
    rfl
def ordL (bs : List Int) : List Int := srt (bAt bs) (idxL bs.length)
def sizL (bs : List Int) : List Int := srt (fun z => z) bs
theorem ordL_map (bs : List Int) : (ordL bs).map (bAt bs) = sizL bs := by
  unfold ordL sizL
  rw [srt_map, idxL_map]
theorem ordL_len (bs : List Int) : (ordL bs).length = bs.length := by unfold ordL; rw [srt_len, idxL_len]
theorem sizL_len (bs : List Int) : (sizL bs).length = bs.length := srt_len _ _
theorem ordL_at {bs : List Int} {i : Nat} {x : Int} (h : (ordL bs)[i]? = some x) : ∃ (j : Nat) (y : Int), x = (j : Int) ∧ bs[j]? = some y ∧ (sizL bs)[i]? = some y := by
  obtain ⟨j, rfl, hj⟩ := idxL_mem (srt_mem.1 (List.mem_of_getElem? h))
  refine ⟨j, bs[j], rfl, List.getElem?_eq_getElem hj, ?_⟩
  rw [← ordL_map, List.getElem?_map, h]
  exact congrArg some (bAt_of (List.getElem?_eq_getElem hj))
end Go.Proofs.Ytfdnpobppelhaaa
