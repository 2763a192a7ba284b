/- DERIVED. Choices of so many of the first numbers, in lexicographic order: plainly. -/
import Derived.Test.YtfdnpobppelhaaaWhich
import Derived.Test.YtfdnpobppelhaaaRowI
namespace Go.Proofs.Ytfdnpobppelhaaa
set_option maxRecDepth 100000
open Go.RowKit

def bitsTo (p : Nat → Bool) : Nat → List Int
  | 0 => []
  | k + 1 => if p k = true then bitsTo p k ++ [(k : Int)] else bitsTo p k
theorem bitsTo_yes {p : Nat → Bool} {k : Nat} (h : p k = true) : bitsTo p (k + 1) = bitsTo p k ++ [(k : Int)] := by
  show (if p k = true then _ else _) = _
  rw [if_pos h]
theorem bitsTo_no {p : Nat → Bool} {k : Nat} (h : p k = false) : bitsTo p (k + 1) = bitsTo p k := by
  show (if p k = true then _ else _) = _
  rw [if_neg (by simp [h])]
theorem bitsTo_congr {p q : Nat → Bool} : ∀ {k : Nat}, (∀ j, j < k → p j = q j) → bitsTo p k = bitsTo q k
  | 0, _ => rfl
  | k + 1, h => by
    have ih := bitsTo_congr (k := k) fun j hj => h j (by omega)
    have hk := h k (by omega)
    cases e : q k with
    | true => rw [bitsTo_yes (hk.trans e), bitsTo_yes e, ih]
    | false => rw [bitsTo_no (hk.trans e), bitsTo_no e, ih]
theorem bitsTo_mem {p : Nat → Bool} : ∀ {k : Nat} {x : Int}, x ∈ bitsTo p k → ∃ j : Nat, x = (j : Int) ∧ j < k ∧ p j = true
  | 0, x, h => by simp [bitsTo] at h
  | k + 1, x, h => by
    cases e : p k with
    | true =>
      rw [bitsTo_yes e] at h
      rcases List.mem_append.1 h with h | h
      · obtain ⟨j, h1, h2, h3⟩ := bitsTo_mem h
        exact ⟨j, h1, by omega, h3⟩
      · exact ⟨k, by simpa using h, by omega, e⟩
    | false =>
      rw [bitsTo_no e] at h
      obtain ⟨j, h1, h2, h3⟩ := bitsTo_mem h
      exact ⟨j, h1, by omega, h3⟩
theorem bitsTo_has {p : Nat → Bool} : ∀ {k j : Nat}, j < k → p j = true → (j : Int) ∈ bitsTo p k
  | 0, j, h, _ => by omega
  | k + 1, j, h, hp => by
    by_cases e : j = k
    · subst e
      rw [bitsTo_yes hp]
      simp
    · have ih := bitsTo_has (k := k) (by omega : j < k) hp
      cases e2 : p k with
      | true => rw [bitsTo_yes e2]; exact List.mem_append_left _ ih
      | false => rw [bitsTo_no e2]; exact ih
theorem bitsTo_le (p : Nat → Bool) : ∀ k, (bitsTo p k).length ≤ k
  | 0 => Nat.le_refl _
  | k + 1 => by
    have ih := bitsTo_le p k
    cases e : p k with
    | true => rw [bitsTo_yes e]; simp; omega
    | false => rw [bitsTo_no e]; omega
def hasI (b : List Int) (j : Nat) : Bool := decide ((j : Int) ∈ b)
/-- b holds, in order, numbers less than i. -/
def UpTo (i : Nat) (b : List Int) : Prop := b = bitsTo (hasI b) i
theorem UpTo.lt {i : Nat} {b : List Int} (h : UpTo i b) : ∀ x ∈ b, ∃ j : Nat, x = (j : Int) ∧ j < i := fun x hx => by
  rw [h] at hx
  obtain ⟨j, h1, h2, _⟩ := bitsTo_mem hx
  exact ⟨j, h1, h2⟩
theorem UpTo.not {i : Nat} {b : List Int} (h : UpTo i b) : hasI b i = false := by
  unfold hasI
  refine decide_eq_false fun hm => ?_
  obtain ⟨j, h1, h2⟩ := h.lt _ hm
  omega
theorem UpTo.nil (i : Nat) : UpTo i [] := by
  induction i with
  | zero => rfl
  | succ i ih =>
    unfold UpTo at ih ⊢
    rw [bitsTo_no (by simp [hasI])]
    exact ih
theorem UpTo.more {i : Nat} {b : List Int} (h : UpTo i b) : UpTo (i + 1) b := by
  have := h.not
  unfold UpTo at h ⊢
  rw [bitsTo_no this]
  exact h
theorem UpTo.add {i : Nat} {b : List Int} (h : UpTo i b) : UpTo (i + 1) (b ++ [(i : Int)]) := by
  unfold UpTo at h ⊢
  rw [bitsTo_yes (by simp [hasI])]
  have : bitsTo (hasI (b ++ [(i : Int)])) i = bitsTo (hasI b) i := bitsTo_congr fun j hj => by
    unfold hasI
    refine decide_eq_decide.2 ?_
    rw [List.mem_append]
    constructor
    · rintro (h | h)
      · exact h
      · simp at h; omega
    · exact Or.inl
  rw [this, ← h]
/-- All choices of m more numbers out of the d numbers from i on, behind b. -/
def combs : Nat → Nat → Nat → List Int → List (List Int)
  | 0, _, m, b => if m = 0 then [b] else []
  | d + 1, i, m, b => if m = 0 then [b] else combs d (i + 1) (m - 1) (b ++ [(i : Int)]) ++ combs d (i + 1) m b
theorem combs_zero (d i : Nat) (b : List Int) : combs d i 0 b = [b] := by cases d <;> rfl
theorem combs_none (i m : Nat) (b : List Int) : combs 0 i (m + 1) b = [] := rfl
theorem combs_step (d i m : Nat) (b : List Int) : combs (d + 1) i (m + 1) b = combs d (i + 1) m (b ++ [(i : Int)]) ++ combs d (i + 1) (m + 1) b := rfl
theorem combs_none' {m : Nat} (h : 1 ≤ m) (i : Nat) (b : List Int) : combs 0 i m b = [] := by
  obtain ⟨q, rfl⟩ : ∃ q, m = q + 1 := ⟨m - 1, by omega⟩
  rfl
theorem combs_step' {m : Nat} (h : 1 ≤ m) (d i : Nat) (b : List Int) : combs (d + 1) i m b = combs d (i + 1) (m - 1) (b ++ [(i : Int)]) ++ combs d (i + 1) m b := by
  obtain ⟨q, rfl⟩ : ∃ q, m = q + 1 := ⟨m - 1, by omega⟩
  rfl
theorem combs_up : ∀ (d i m : Nat) (b r : List Int), UpTo i b → r ∈ combs d i m b → UpTo (i + d) r ∧ r.length = b.length + m
  | d, i, 0, b, r, h, hr => by
    rw [combs_zero] at hr
    obtain rfl : r = b := by simpa using hr
    refine ⟨?_, rfl⟩
    induction d with
    | zero => exact h
    | succ d ih => exact (ih).more
  | 0, i, m + 1, b, r, h, hr => by simp [combs_none] at hr
  | d + 1, i, m + 1, b, r, h, hr => by
    rw [combs_step] at hr
    rcases List.mem_append.1 hr with hr | hr
    · obtain ⟨h1, h2⟩ := combs_up d (i + 1) m _ r h.add hr
      rw [show i + 1 + d = i + (d + 1) by omega] at h1
      refine ⟨h1, ?_⟩
      rw [h2]
      simp
      omega
    · obtain ⟨h1, h2⟩ := combs_up d (i + 1) (m + 1) _ r h.more hr
      rw [show i + 1 + d = i + (d + 1) by omega] at h1
      exact ⟨h1, h2⟩
theorem combs_le : ∀ (d i m : Nat) (b : List Int), (combs d i m b).length ≤ 2 ^ d
  | d, i, 0, b => by
    rw [combs_zero]
    exact Nat.one_le_two_pow
  | 0, i, m + 1, b => by simp [combs_none]
  | d + 1, i, m + 1, b => by
    have h1 := combs_le d (i + 1) m (b ++ [(i : Int)])
    have h2 := combs_le d (i + 1) (m + 1) b
    rw [combs_step, List.length_append, Nat.pow_succ]
    omega
def bitsFrom (p : Nat → Bool) : Nat → Nat → List Int
  | _, 0 => []
  | i, d + 1 => if p i = true then (i : Int) :: bitsFrom p (i + 1) d else bitsFrom p (i + 1) d
theorem bitsFrom_yes {p : Nat → Bool} {i d : Nat} (h : p i = true) : bitsFrom p i (d + 1) = (i : Int) :: bitsFrom p (i + 1) d := by
  show (if p i = true then _ else _) = _
  rw [if_pos h]
theorem bitsFrom_no {p : Nat → Bool} {i d : Nat} (h : p i = false) : bitsFrom p i (d + 1) = bitsFrom p (i + 1) d := by
  show (if p i = true then _ else _) = _
  rw [if_neg (by simp [h])]
theorem bits_both (p : Nat → Bool) : ∀ (d i : Nat), bitsTo p (i + d) = bitsTo p i ++ bitsFrom p i d
  | 0, i => by simp [bitsFrom]
  | d + 1, i => by
    rw [show i + (d + 1) = i + 1 + d by omega, bits_both p d (i + 1)]
    cases e : p i with
    | true => rw [bitsTo_yes e, bitsFrom_yes e]; simp
    | false => rw [bitsTo_no e, bitsFrom_no e]
theorem combs_has (p : Nat → Bool) : ∀ (d i : Nat) (b : List Int), b ++ bitsFrom p i d ∈ combs d i (bitsFrom p i d).length b
  | 0, i, b => by simp [bitsFrom, combs_zero]
  | d + 1, i, b => by
    cases e : p i with
    | true =>
      rw [bitsFrom_yes e, List.length_cons, combs_step]
      refine List.mem_append_left _ ?_
      have := combs_has p d (i + 1) (b ++ [(i : Int)])
      simpa using this
    | false =>
      rw [bitsFrom_no e]
      have ih := combs_has p d (i + 1) b
      cases hm : (bitsFrom p (i + 1) d).length with
      | zero =>
        have : bitsFrom p (i + 1) d = [] := List.length_eq_zero_iff.1 hm
        rw [this, combs_zero]
        simp
      | succ m =>
        rw [combs_step]
        rw [hm] at ih
        exact List.mem_append_right _ ih
theorem combs_all (p : Nat → Bool) (n : Nat) : bitsTo p n ∈ combs n 0 (bitsTo p n).length [] := by
  have := bits_both p n 0
  rw [Nat.zero_add] at this
  have h2 := combs_has p n 0 []
  rw [show bitsTo p 0 = [] from rfl, List.nil_append] at this
  rw [this]
  simpa using h2
/-- Two lists have a number in common. -/
def meetsB (a b : List Int) : Bool := a.any fun x => decide (x ∈ b)
def meetAll (rows : List (List Int)) (b : List Int) : Bool := rows.all fun r => meetsB r b
/-- The first choice that does, of the fewest numbers. -/
def firstFrom (ok : List Int → Bool) (n : Nat) : Nat → Nat → Option (List Int)
  | 0, _ => none
  | f + 1, k => match (combs n 0 k []).find? ok with
    | some r => some r
    | none => firstFrom ok n f (k + 1)
theorem firstFrom_hit {ok : List Int → Bool} {n f k : Nat} {r : List Int} (h : (combs n 0 k []).find? ok = some r) : firstFrom ok n (f + 1) k = some r := by
  unfold firstFrom
  rw [h]
theorem firstFrom_miss {ok : List Int → Bool} {n f k : Nat} (h : (combs n 0 k []).find? ok = none) : firstFrom ok n (f + 1) k = firstFrom ok n f (k + 1) := by
  conv => lhs; unfold firstFrom
  rw [h]
theorem firstFrom_ok {ok : List Int → Bool} {n : Nat} : ∀ {f k : Nat} {r : List Int}, firstFrom ok n f k = some r → ok r = true ∧ UpTo n r ∧ ∃ j, k ≤ j ∧ j < k + f ∧ r.length = j ∧ ∀ i, k ≤ i → i < j → (combs n 0 i []).find? ok = none
  | 0, k, r, h => by simp [firstFrom] at h
  | f + 1, k, r, h => by
    cases e : (combs n 0 k []).find? ok with
    | some q =>
      rw [firstFrom_hit e] at h
      obtain rfl := Option.some.inj h
      have hm := List.mem_of_find?_eq_some e
      obtain ⟨h1, h2⟩ := combs_up n 0 k [] q (UpTo.nil 0) hm
      rw [Nat.zero_add] at h1
      exact ⟨List.find?_some e, h1, k, Nat.le_refl _, by omega, by simpa using h2, fun i h1 h2 => by omega⟩
    | none =>
      rw [firstFrom_miss e] at h
      obtain ⟨h1, h2, j, h3, h4, h5, h6⟩ := firstFrom_ok h
      refine ⟨h1, h2, j, by omega, by omega, h5, fun i h7 h8 => ?_⟩
      by_cases ei : i = k
      · subst ei
        exact e
      · exact h6 i (by omega) h8
theorem firstFrom_none {ok : List Int → Bool} {n : Nat} (h : ∀ r, ok r = false) : ∀ f k, firstFrom ok n f k = none
  | 0, k => rfl
  | f + 1, k => by
    rw [firstFrom_miss (List.find?_eq_none.2 fun r _ => by simp [h r])]
    exact firstFrom_none h f (k + 1)
/-- The numbers of a list as the bits of a number. -/
def maskN (b : List Int) : Nat := b.foldl (fun a x => a ||| 2 ^ x.toNat) 0
theorem maskN_nil : maskN [] = 0 := rfl
theorem maskN_snoc (b : List Int) (x : Int) : maskN (b ++ [x]) = maskN b ||| 2 ^ x.toNat := by simp [maskN]
theorem maskN_bit' : ∀ (b : List Int) (a j : Nat), (∀ x ∈ b, 0 ≤ x) → (b.foldl (fun a x => a ||| 2 ^ x.toNat) a).testBit j = (a.testBit j || decide ((j : Int) ∈ b))
  | [], a, j, _ => by simp
  | y :: ys, a, j, h => by
    rw [List.foldl_cons, maskN_bit' ys _ j fun x hx => h x (List.mem_cons_of_mem _ hx), Nat.testBit_or, Nat.testBit_two_pow, Bool.or_assoc]
    congr 1
    have hy := h y List.mem_cons_self
    have e1 : decide (y.toNat = j) = decide ((j : Int) = y) := decide_eq_decide.2 (by omega)
    rw [e1, ← Bool.decide_or]
    refine decide_eq_decide.2 ?_
    rw [List.mem_cons]
theorem maskN_bit {b : List Int} (h : ∀ x ∈ b, 0 ≤ x) (j : Nat) : (maskN b).testBit j = hasI b j := by
  unfold maskN
  rw [maskN_bit' b 0 j h, Nat.zero_testBit, Bool.false_or]
  rfl
theorem maskN_lt : ∀ (b : List Int) (a n : Nat), a < 2 ^ n → (∀ x ∈ b, 0 ≤ x ∧ x < (n : Int)) → b.foldl (fun a x => a ||| 2 ^ x.toNat) a < 2 ^ n
  | [], a, n, ha, _ => ha
  | y :: ys, a, n, ha, h => by
    have hy := h y List.mem_cons_self
    refine maskN_lt ys _ n (Nat.or_lt_two_pow ha ?_) fun x hx => h x (List.mem_cons_of_mem _ hx)
    exact Nat.pow_lt_pow_right (by omega) (by omega)
theorem maskN_small {b : List Int} {n : Nat} (h : ∀ x ∈ b, 0 ≤ x ∧ x < (n : Int)) : maskN b < 2 ^ n := maskN_lt b 0 n (Nat.two_pow_pos n) h
theorem maskN_and {a b : List Int} (ha : ∀ x ∈ a, 0 ≤ x) (hb : ∀ x ∈ b, 0 ≤ x) : (maskN a &&& maskN b = 0) ↔ meetsB a b = false := by
  constructor
  · intro h
    unfold meetsB
    refine List.any_eq_false.2 fun x hx hm => ?_
    have hm := of_decide_eq_true hm
    obtain ⟨j, rfl⟩ := Int.eq_ofNat_of_zero_le (ha x hx)
    have := congrArg (fun m => Nat.testBit m j) h
    simp only [Nat.testBit_and, Nat.zero_testBit, maskN_bit ha, maskN_bit hb] at this
    simp [hasI, hx, hm] at this
  · intro h
    refine Nat.eq_of_testBit_eq fun j => ?_
    rw [Nat.testBit_and, Nat.zero_testBit, maskN_bit ha, maskN_bit hb]
    unfold meetsB at h
    have h1 := List.any_eq_false.1 h
    cases e : hasI a j with
    | false => rfl
    | true =>
      have := h1 _ (of_decide_eq_true e)
      simpa [hasI] using this
theorem maskN_one {b : List Int} (h : ∀ x ∈ b, 0 ≤ x) (j : Nat) : (maskN b &&& 2 ^ j = 0) ↔ hasI b j = false := by
  have := maskN_and (a := [(j : Int)]) (b := b) (fun x hx => by simp at hx; omega) h
  have e : maskN [(j : Int)] = 2 ^ j := by simp [maskN]
  rw [e, Nat.and_comm] at this
  rw [this]
  unfold meetsB hasI
  simp
theorem maskN_zero {b : List Int} (h : ∀ x ∈ b, 0 ≤ x) : maskN b = 0 ↔ b = [] := by
  constructor
  · intro e
    cases b with
    | nil => rfl
    | cons x xs =>
      obtain ⟨j, hj⟩ := Int.eq_ofNat_of_zero_le (h x List.mem_cons_self)
      have := maskN_bit h j
      rw [e, Nat.zero_testBit] at this
      rw [hj] at this
      simp [hasI] at this
  · rintro rfl
    rfl
/-- No list of different numbers is longer than one that holds them all. -/
theorem nodup_le : ∀ {l c : List Int}, l.Nodup → (∀ x ∈ l, x ∈ c) → l.length ≤ c.length
  | [], c, _, _ => Nat.zero_le _
  | x :: l, c, hn, hs => by
    rw [List.nodup_cons] at hn
    have hx := hs x List.mem_cons_self
    have := nodup_le (l := l) (c := c.erase x) hn.2 fun y hy => by
      refine (List.mem_erase_of_ne ?_).2 (hs y (List.mem_cons_of_mem _ hy))
      rintro rfl
      exact hn.1 hy
    rw [List.length_erase_of_mem hx] at this
    have hp := List.length_pos_of_mem hx
    rw [List.length_cons]
    omega
theorem bitsTo_nodup (p : Nat → Bool) : ∀ k, (bitsTo p k).Nodup
  | 0 => List.nodup_nil
  | k + 1 => by
    have ih := bitsTo_nodup p k
    cases e : p k with
    | false => rw [bitsTo_no e]; exact ih
    | true =>
      rw [bitsTo_yes e, List.nodup_append]
      refine ⟨ih, by simp, fun a ha b hb => ?_⟩
      obtain ⟨j, rfl, hj, _⟩ := bitsTo_mem ha
      simp at hb
      omega
theorem UpTo.len {n : Nat} {b : List Int} (h : UpTo n b) : b.length ≤ n := by
  rw [h]
  exact bitsTo_le _ _

/-- Riders, plainly. -/
abbrev RidT := Int × Int × Int
abbrev SizT := ByteArray × Int × Int × Int
def ridB (r : RidT) : Bool := riderB r.1 r.2.1 r.2.2
def ridersB (rs : List RidT) : Bool := decide (rs.length ≤ 60) && rs.all ridB
def rowOf (xs : List SizT) (r : RidT) : List Int := idxTo (suitT r.1 r.2.1 r.2.2) xs xs.length
def tableR (rs : List RidT) (xs : List SizT) : List (List Int) × Int := if ridersB rs = true ∧ sizesB xs = true then (rs.map (rowOf xs), 0) else ([], 1)
def fewOf : Option (List Int) → List Int × Int
  | some r => (r, 0)
  | none => ([], 4)
def fewR (rs : List RidT) (xs : List SizT) : List Int × Int :=
  if ridersB rs = true ∧ sizesB xs = true then
    fewOf (firstFrom (meetAll (rs.map (rowOf xs))) xs.length (xs.length + 1) 0)
  else ([], 1)
def mI (r : List Int) : Int := (maskN r : Int)
theorem meetAll_none {rows : List (List Int)} (h : [] ∈ rows) (r : List Int) : meetAll rows r = false := by
  unfold meetAll
  exact List.all_eq_false.2 ⟨[], h, by simp [meetsB]⟩
theorem rowOf_nat {xs : List SizT} {r : RidT} : ∀ x ∈ rowOf xs r, 0 ≤ x ∧ x < (xs.length : Int) := fun x hx => by
  obtain ⟨j, y, h1, h2, _⟩ := idxTo_mem hx
  omega
theorem ridersB_len {rs : List RidT} (h : ridersB rs = true) : rs.length ≤ 60 := by
  unfold ridersB at h
  simp at h
  exact h.1
theorem ridersB_all {rs : List RidT} (h : ridersB rs = true) : ∀ r ∈ rs, ridB r = true := by
  unfold ridersB at h
  simp at h
  exact fun r hr => h.2 _ _ _ hr
theorem sizesB_len {xs : List SizT} (h : sizesB xs = true) : xs.length ≤ 12 := by
  unfold sizesB at h
  simp at h
  exact h.1
theorem tableR_small (rs : List RidT) (xs : List SizT) : SmallI (tableR rs xs).1 := by
  unfold tableR SmallI
  split
  · rename_i h
    refine ⟨by rw [List.length_map]; have := ridersB_len h.1; omega, fun r hr => ?_⟩
    obtain ⟨q, _, rfl⟩ := List.mem_map.1 hr
    have := idxTo_le (suitT q.1 q.2.1 q.2.2) xs xs.length
    have h2 := sizesB_len h.2
    unfold rowOf
    omega
  · exact ⟨Nat.zero_le _, fun r hr => absurd hr (by simp)⟩
theorem fewR_len (rs : List RidT) (xs : List SizT) : (fewR rs xs).1.length ≤ 1048576 := by
  unfold fewR
  split
  · rename_i h
    cases hr : firstFrom (meetAll (rs.map (rowOf xs))) xs.length (xs.length + 1) 0 with
    | some r =>
      obtain ⟨_, h2, _⟩ := firstFrom_ok hr
      have := h2.len
      have h3 := sizesB_len h.2
      simp only [fewOf]
      omega
    | none => exact Nat.zero_le _
  · exact Nat.zero_le _
end Go.Proofs.Ytfdnpobppelhaaa
