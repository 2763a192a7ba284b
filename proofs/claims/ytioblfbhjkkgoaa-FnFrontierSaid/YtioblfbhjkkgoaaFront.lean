/- DERIVED. The prices and grams that nothing beats: plainly. -/
import Derived.Test.YtioblfbhjkkgoaaBase
namespace Go.Proofs.Ytioblfbhjkkgoaa
set_option maxRecDepth 100000
open Go.RowKit

/-- b beats a. -/
def beatsP (b a : Int × Int) : Bool := decide ((b.1 < a.1 ∧ b.2 ≤ a.2) ∨ (b.2 < a.2 ∧ b.1 ≤ a.1))
def goodP (ps : List (Int × Int)) (a : Int × Int) : Bool := ps.all fun b => !beatsP b a
def insP (a : Int × Int) : List (Int × Int) → List (Int × Int)
  | [] => [a]
  | b :: bs => if b.1 < a.1 then b :: insP a bs else if b.1 = a.1 then b :: bs else a :: b :: bs
def frontP (ps : List (Int × Int)) (l : List (Int × Int)) : List (Int × Int) := l.foldl (fun out a => if goodP ps a = true then insP a out else out) []
theorem frontP_snoc (ps l : List (Int × Int)) (a : Int × Int) : frontP ps (l ++ [a]) = if goodP ps a = true then insP a (frontP ps l) else frontP ps l := by
  unfold frontP
  rw [List.foldl_append]
  rfl
theorem insP_split {a : Int × Int} : ∀ {pre suf : List (Int × Int)}, (∀ b ∈ pre, b.1 < a.1) → (∀ b, suf[0]? = some b → a.1 < b.1) → insP a (pre ++ suf) = pre ++ a :: suf
  | [], [], _, _ => rfl
  | [], b :: bs, _, h => by
    have := h b rfl
    show (if b.1 < a.1 then _ else if b.1 = a.1 then _ else _) = _
    rw [if_neg (by omega), if_neg (by omega)]
    rfl
  | c :: cs, suf, h1, h2 => by
    show (if c.1 < a.1 then c :: insP a (cs ++ suf) else _) = _
    rw [if_pos (h1 c List.mem_cons_self), insP_split (fun b hb => h1 b (List.mem_cons_of_mem _ hb)) h2]
    rfl
theorem insP_same {a : Int × Int} : ∀ {pre suf : List (Int × Int)}, (∀ b ∈ pre, b.1 < a.1) → (∃ b, suf[0]? = some b ∧ b.1 = a.1) → insP a (pre ++ suf) = pre ++ suf
  | [], [], _, h => by
    obtain ⟨b, h, _⟩ := h
    exact absurd h (by simp)
  | [], b :: bs, _, h => by
    obtain ⟨b', e, h⟩ := h
    obtain rfl : b = b' := Option.some.inj e
    show (if b.1 < a.1 then _ else if b.1 = a.1 then b :: bs else _) = _
    rw [if_neg (by omega), if_pos h]
    rfl
  | c :: cs, suf, h1, h2 => by
    show (if c.1 < a.1 then c :: insP a (cs ++ suf) else _) = _
    rw [if_pos (h1 c List.mem_cons_self), insP_same (fun b hb => h1 b (List.mem_cons_of_mem _ hb)) h2]
    rfl
/-- Prices rise. -/
def Rise (l : List (Int × Int)) : Prop := l.Pairwise fun a b => a.1 < b.1
theorem insP_mem {a z : Int × Int} : ∀ {l : List (Int × Int)}, z ∈ insP a l → z = a ∨ z ∈ l
  | [], h => by
    simp [insP] at h
    exact Or.inl h
  | b :: bs, h => by
    unfold insP at h
    split at h
    · rcases List.mem_cons.1 h with h | h
      · exact Or.inr (by rw [h]; exact List.mem_cons_self)
      · rcases insP_mem h with h | h
        · exact Or.inl h
        · exact Or.inr (List.mem_cons_of_mem _ h)
    · split at h
      · exact Or.inr h
      · rcases List.mem_cons.1 h with h | h
        · exact Or.inl h
        · exact Or.inr h
theorem insP_rise {a : Int × Int} : ∀ {l : List (Int × Int)}, Rise l → Rise (insP a l)
  | [], _ => List.pairwise_singleton _ _
  | b :: bs, h => by
    have h1 := List.pairwise_cons.1 h
    unfold insP
    split
    · rename_i hlt
      refine List.pairwise_cons.2 ⟨fun z hz => ?_, insP_rise h1.2⟩
      rcases insP_mem hz with rfl | hz
      · exact hlt
      · exact h1.1 z hz
    · split
      · exact h
      · refine List.pairwise_cons.2 ⟨fun z hz => ?_, h⟩
        rcases List.mem_cons.1 hz with rfl | hz
        · omega
        · have := h1.1 z hz
          omega
theorem front_rise (ps : List (Int × Int)) : ∀ (l acc : List (Int × Int)), Rise acc → Rise (l.foldl (fun out a => if goodP ps a = true then insP a out else out) acc)
  | [], _, h => h
  | a :: l, acc, h => by
    rw [List.foldl_cons]
    refine front_rise ps l _ ?_
    split
    · exact insP_rise h
    · exact h
theorem frontP_rise (ps l : List (Int × Int)) : Rise (frontP ps l) := front_rise ps l [] List.Pairwise.nil
theorem Rise.at {l : List (Int × Int)} (h : Rise l) {i j : Nat} {a b : Int × Int} (hi : l[i]? = some a) (hj : l[j]? = some b) (hij : i < j) : a.1 < b.1 := by
  obtain ⟨h1, rfl⟩ := List.getElem?_eq_some_iff.1 hi
  obtain ⟨h2, rfl⟩ := List.getElem?_eq_some_iff.1 hj
  exact List.pairwise_iff_getElem.1 h i j h1 h2 hij
theorem take_less {l : List (Int × Int)} {a : Int × Int} (hr : Rise l) {k : Nat} (hk : k ≤ l.length) (h1 : ∀ b, 0 < k → l[k - 1]? = some b → b.1 < a.1) : ∀ b ∈ l.take k, b.1 < a.1 := fun b hb => by
  obtain ⟨i, hi⟩ := List.mem_iff_getElem?.1 hb
  have hlt := (List.getElem?_eq_some_iff.1 hi).1
  rw [List.length_take] at hlt
  rw [List.getElem?_take_of_lt (by omega)] at hi
  have hl : l[k - 1]? = some l[k - 1] := List.getElem?_eq_getElem (by omega)
  have h2 := h1 _ (by omega) hl
  by_cases e : i = k - 1
  · subst e
    rw [hi] at hl
    rw [Option.some.inj hl]
    exact h2
  · have := hr.at hi hl (by omega)
    omega
/-- Where the pair goes: behind k of less price, ahead of greater ones. -/
theorem insP_at {l : List (Int × Int)} {a : Int × Int} (hr : Rise l) {k : Nat} (hk : k ≤ l.length) (h1 : ∀ b, 0 < k → l[k - 1]? = some b → b.1 < a.1) (h2 : ∀ b, l[k]? = some b → a.1 < b.1) : insP a l = l.take k ++ a :: l.drop k := by
  have e := insP_split (a := a) (pre := l.take k) (suf := l.drop k) (take_less hr hk h1) (fun b hb => by
    rw [List.getElem?_drop, Nat.add_zero] at hb
    exact h2 b hb)
  rwa [List.take_append_drop] at e
/-- Where a pair of this price is there, nothing changes. -/
theorem insP_there {l : List (Int × Int)} {a b : Int × Int} (hr : Rise l) {k : Nat} (hk : l[k]? = some b) (he : b.1 = a.1) : insP a l = l := by
  have hlt := (List.getElem?_eq_some_iff.1 hk).1
  have e := insP_same (a := a) (pre := l.take k) (suf := l.drop k) (take_less hr (by omega) (fun c h0 hc => by
    have := hr.at hc hk (by omega)
    omega)) ⟨b, by rw [List.getElem?_drop, Nat.add_zero]; exact hk, he⟩
  rwa [List.take_append_drop] at e
theorem frontP_sub (ps : List (Int × Int)) (l : List (Int × Int)) : (frontP ps l).length ≤ l.length := by
  have h1 : ∀ (a : Int × Int) (l : List (Int × Int)), (insP a l).length ≤ l.length + 1 := fun a l => by
    induction l with
    | nil => simp [insP]
    | cons b bs ih =>
      unfold insP
      split
      · simp only [List.length_cons]
        omega
      · split <;> simp
  have h2 : ∀ (l acc : List (Int × Int)), (l.foldl (fun out a => if goodP ps a = true then insP a out else out) acc).length ≤ acc.length + l.length := fun l => by
    induction l with
    | nil => intro acc; simp
    | cons a l ih =>
      intro acc
      rw [List.foldl_cons, List.length_cons]
      have := ih (if goodP ps a = true then insP a acc else acc)
      have h3 := h1 a acc
      split at this <;> rename_i hg
      · rw [if_pos hg]
        omega
      · rw [if_neg hg]
        omega
  have h4 := h2 l []
  rw [List.length_nil, Nat.zero_add] at h4
  exact h4
end Go.Proofs.Ytioblfbhjkkgoaa
