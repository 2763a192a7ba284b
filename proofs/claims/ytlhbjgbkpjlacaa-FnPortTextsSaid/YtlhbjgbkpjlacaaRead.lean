/- DERIVED. Texts split and numbers read, as plain lists of bytes. -/
import Derived.Test.YtlhbjgbkpjlacaaPortText
namespace Go.Proofs.Ytlhbjgbkpjlacaa
set_option maxRecDepth 100000
open Go.RowKit

/-- A list of bytes split at each b. -/
def splitL (b : UInt8) : List UInt8 → List (List UInt8)
  | [] => [[]]
  | c :: cs => if c = b then [] :: splitL b cs else (match splitL b cs with
    | [] => [[c]]
    | h :: t => (c :: h) :: t)
theorem splitL_ne (b : UInt8) : ∀ l, splitL b l ≠ []
  | [] => by simp [splitL]
  | c :: cs => by
    unfold splitL
    split
    · simp
    · split <;> simp
theorem splitL_none {b : UInt8} : ∀ {l : List UInt8}, (∀ c ∈ l, c ≠ b) → splitL b l = [l]
  | [], _ => rfl
  | c :: cs, h => by
    have h1 := h c (by simp)
    have ih := splitL_none (l := cs) fun x hx => h x (by simp [hx])
    simp [splitL, h1, ih]
theorem splitL_hit {b : UInt8} : ∀ {l : List UInt8} (m : List UInt8), (∀ c ∈ l, c ≠ b) → splitL b (l ++ b :: m) = l :: splitL b m
  | [], m, _ => by simp [splitL]
  | c :: cs, m, h => by
    have h1 := h c (by simp)
    have ih := splitL_hit (l := cs) m fun x hx => h x (by simp [hx])
    simp [splitL, h1, ih]
theorem splitL_len (b : UInt8) : ∀ l : List UInt8, (splitL b l).length ≤ l.length + 1
  | [] => by simp [splitL]
  | c :: cs => by
    have ih := splitL_len b cs
    unfold splitL
    split
    · simp; omega
    · split
      · simp
      · rename_i h; rw [h] at ih; simp at ih ⊢; omega
def splitT (s : ByteArray) (b : UInt8) : List ByteArray := (splitL b s.data.toList).map S
theorem S_data (l : List UInt8) : (S l).data.toList = l := by simp [S]
theorem S_of (s : ByteArray) : S s.data.toList = s := by
  apply ByteArray.ext
  simp [S]
theorem extract_S (s : ByteArray) (f i : Nat) : s.extract f i = S ((s.data.toList.drop f).take (i - f)) := by
  apply ByteArray.ext
  rw [ByteArray.data_extract]
  apply Array.toList_inj.1
  simp [S]
/-- What is split so far, from f on not yet, and no b from there up to i. -/
structure SplitAt (s : ByteArray) (b : UInt8) (out : List ByteArray) (f i : Nat) : Prop where
  le : f ≤ i
  li : i ≤ s.size
  eq : out ++ (splitL b (s.data.toList.drop f)).map S = splitT s b
  no : ∀ c ∈ (s.data.toList.drop f).take (i - f), c ≠ b
theorem SplitAt.zero (s : ByteArray) (b : UInt8) : SplitAt s b [] 0 0 := ⟨Nat.le_refl _, Nat.zero_le _, by simp [splitT], by simp⟩
theorem take_snoc_at {s : ByteArray} {f i : Nat} (hf : f ≤ i) (hi : i < s.size) : (s.data.toList.drop f).take (i + 1 - f) = (s.data.toList.drop f).take (i - f) ++ [s[i]] := by
  have e : i + 1 - f = (i - f) + 1 := by omega
  rw [e, List.take_add_one, List.getElem?_drop, show f + (i - f) = i from by omega, List.getElem?_eq_getElem (by simpa using hi)]
  rfl
theorem SplitAt.no_hit {s : ByteArray} {b : UInt8} {out : List ByteArray} {f i : Nat} (h : SplitAt s b out f i) (hi : i < s.size) (hc : s[i] ≠ b) : SplitAt s b out f (i + 1) := by
  refine ⟨by have := h.le; omega, by omega, h.eq, fun c hcm => ?_⟩
  rw [take_snoc_at h.le hi] at hcm
  rcases List.mem_append.1 hcm with hcm | hcm
  · exact h.no c hcm
  · simp only [List.mem_singleton] at hcm
    rw [hcm]; exact hc
theorem SplitAt.hit {s : ByteArray} {b : UInt8} {out : List ByteArray} {f i : Nat} (h : SplitAt s b out f i) (hi : i < s.size) (hc : s[i] = b) : SplitAt s b (out ++ [s.extract f i]) (i + 1) (i + 1) := by
  refine ⟨Nat.le_refl _, by omega, ?_, by simp⟩
  have hle := h.le
  have e : s.data.toList.drop f = (s.data.toList.drop f).take (i - f) ++ b :: s.data.toList.drop (i + 1) := by
    have e1 : s.data.toList.drop i = b :: s.data.toList.drop (i + 1) := by
      rw [List.drop_eq_getElem_cons (by simpa using hi)]
      congr 1
    have e2 := (List.take_append_drop (i - f) (s.data.toList.drop f)).symm
    rw [List.drop_drop, show f + (i - f) = i from by omega, e1] at e2
    exact e2
  have h2 := h.eq
  rw [e, splitL_hit _ h.no] at h2
  rw [List.append_assoc, extract_S]
  simpa using h2
theorem SplitAt.done {s : ByteArray} {b : UInt8} {out : List ByteArray} {f : Nat} (h : SplitAt s b out f s.size) : out ++ [s.extract f s.size] = splitT s b := by
  have e : (s.data.toList.drop f).take (s.size - f) = s.data.toList.drop f := List.take_of_length_le (by simp)
  have h2 := h.eq
  have h3 := h.no
  rw [e] at h3
  rw [splitL_none h3] at h2
  rw [extract_S, e]
  simpa using h2
theorem splitT_len (s : ByteArray) (b : UInt8) : (splitT s b).length ≤ s.size + 1 := by
  unfold splitT
  rw [List.length_map]
  have := splitL_len b s.data.toList
  simpa using this
theorem SplitAt.len {s : ByteArray} {b : UInt8} {out : List ByteArray} {f i : Nat} (h : SplitAt s b out f i) : out.length ≤ s.size := by
  have h1 := congrArg List.length h.eq
  have h2 := splitT_len s b
  have h3 : 0 < (splitL b (s.data.toList.drop f)).length := List.length_pos_iff.2 (splitL_ne _ _)
  rw [List.length_append, List.length_map] at h1
  omega

/-- Digits. -/
def digB (c : UInt8) : Bool := decide (48 ≤ (c.toNat : Int)) && decide ((c.toNat : Int) ≤ 57)
theorem digB_true {c : UInt8} (h : digB c = true) : 48 ≤ (c.toNat : Int) ∧ (c.toNat : Int) ≤ 57 := by simpa [digB] using h
def valL (l : List UInt8) : Int := l.foldl (fun n c => 10 * n + ((c.toNat : Int) - 48)) 0
theorem valL_snoc (l : List UInt8) (c : UInt8) : valL (l ++ [c]) = 10 * valL l + ((c.toNat : Int) - 48) := by simp [valL]
theorem valL_bd : ∀ (n : Nat) (l : List UInt8), l.length = n → l.all digB = true → 0 ≤ valL l ∧ valL l < 10 ^ n
  | 0, l, h, _ => by
    obtain rfl := List.eq_nil_of_length_eq_zero h
    simp [valL]
  | n + 1, l, h, hd => by
    obtain ⟨m, c, rfl⟩ : ∃ m c, l = m ++ [c] := ⟨l.dropLast, l.getLast (by intro e; simp [e] at h), (List.dropLast_concat_getLast _).symm⟩
    rw [List.all_append, Bool.and_eq_true] at hd
    have ih := valL_bd n m (by simpa using h) hd.1
    have hc := digB_true (c := c) (by simpa using hd.2)
    rw [valL_snoc, Int.pow_succ]
    omega
theorem valL_bd17 {l : List UInt8} (h : l.length ≤ 17) (hd : l.all digB = true) : 0 ≤ valL l ∧ valL l < 100000000000000000 := by
  obtain ⟨h1, h2⟩ := valL_bd l.length l rfl hd
  have : (10 : Int) ^ l.length ≤ 10 ^ 17 := by
    have h3 : (10 : Nat) ^ l.length ≤ 10 ^ 17 := Nat.pow_le_pow_right (by omega) h
    have h4 : ((10 : Nat) ^ l.length : Int) ≤ ((10 ^ 17 : Nat) : Int) := by exact_mod_cast h3
    simpa using h4
  exact ⟨h1, by omega⟩
theorem decL_ne (n : Nat) : decL n ≠ [] := by
  by_cases h : n < 10
  · rw [decL_small h]; simp
  · rw [decL_big h]; simp
theorem dig_toNat {k : Nat} (h : k < 10) : ((UInt8.ofNat (48 + k)).toNat : Int) = 48 + k := by
  rw [UInt8.toNat_ofNat']
  omega
theorem decL_dig : ∀ n : Nat, (decL n).all digB = true := by
  intro n
  induction n using Nat.strongRecOn with
  | _ n ih =>
    by_cases h : n < 10
    · rw [decL_small h]
      have := dig_toNat h
      simp [digB]
      omega
    · rw [decL_big h, List.all_append, ih (n / 10) (by omega)]
      have := dig_toNat (k := n % 10) (by omega)
      simp [digB]
      omega
theorem valL_dec : ∀ n : Nat, valL (decL n) = n := by
  intro n
  induction n using Nat.strongRecOn with
  | _ n ih =>
    by_cases h : n < 10
    · rw [decL_small h]
      have := dig_toNat h
      have e := valL_snoc [] (UInt8.ofNat (48 + n))
      simp only [List.nil_append] at e
      rw [e, this]
      simp [valL]
      omega
    · rw [decL_big h, valL_snoc, ih (n / 10) (by omega), dig_toNat (k := n % 10) (by omega)]
      omega
/-- A leading zero stands alone. -/
theorem decL_lead : ∀ n : Nat, (decL n)[0]? = some 48 → (decL n).length = 1 := by
  intro n
  induction n using Nat.strongRecOn with
  | _ n ih =>
    intro h
    by_cases hn : n < 10
    · rw [decL_small hn]; rfl
    · rw [decL_big hn] at h
      have hl : 0 < (decL (n / 10)).length := List.length_pos_iff.2 (decL_ne _)
      rw [List.getElem?_append_left hl] at h
      have h1 := ih (n / 10) (by omega) h
      have h2 : n / 10 < 10 := by
        by_cases h3 : n / 10 < 10
        · exact h3
        · rw [decL_big h3, List.length_append] at h1
          have h5 := List.length_pos_iff.2 (decL_ne (n / 10 / 10))
          rw [List.length_singleton] at h1
          omega
      rw [decL_small h2] at h
      simp only [List.getElem?_cons_zero, Option.some.injEq] at h
      have h4 := dig_toNat h2
      rw [h] at h4
      have : n / 10 = 0 := by
        have : ((48 : UInt8).toNat : Int) = 48 := by decide
        omega
      omega
theorem decL_first (n : Nat) : ∀ c, (decL n)[0]? = some c → c ≠ 45 := fun c h e => by
  have := List.all_eq_true.1 (decL_dig n) c (List.mem_of_getElem? h)
  rw [e] at this
  exact absurd this (by decide)
theorem decL_no58 (n : Nat) : ∀ c ∈ decL n, c ≠ 58 := fun c h e => by
  have := List.all_eq_true.1 (decL_dig n) c h
  rw [e] at this
  exact absurd this (by decide)
theorem S_inj {a b : List UInt8} (h : S a = S b) : a = b := by
  have := congrArg (fun s : ByteArray => s.data.toList) h
  simpa [S_data] using this
theorem decL_inj {a b : Nat} (h : decL a = decL b) : a = b := by
  have h1 := valL_dec a
  have h2 := valL_dec b
  rw [h] at h1
  omega
/-- What a reader of a number says: small, and right where the text is a number's. -/
structure ReadNum (s : ByteArray) (n : Int) (ok : Bool) : Prop where
  lo : -1000000000000000000 < n
  hi : n < 1000000000000000000
  right : ∀ m : Nat, m < 1000000 → s = S (decL m) → n = (m : Int) ∧ ok = true
theorem ReadNum.bad {s : ByteArray} (h : ∀ m : Nat, m < 1000000 → s ≠ S (decL m)) : ReadNum s 0 false := ⟨by omega, by omega, fun m hm e => absurd e (h m hm)⟩
theorem dec_size {m : Nat} (hm : m < 1000000) {s : ByteArray} (e : s = S (decL m)) : 1 ≤ s.size ∧ s.size ≤ 6 := by
  have h1 := decL_len 5 m (by omega)
  have h2 := List.length_pos_iff.2 (decL_ne m)
  rw [e, S_size]
  omega
/-- The port with a text. -/
abbrev PortV := Int × Int × Bool
def IsRead (s : ByteArray) (p : PortV) (code : Int) : Prop :=
  (portB p.1 p.2.1 = true ∧ S (portT p.1 p.2.1 p.2.2) = s ∧ code = 0) ∨ ((∀ q : PortV, portB q.1 q.2.1 = true → S (portT q.1 q.2.1 q.2.2) ≠ s) ∧ p = (0, 0, false) ∧ code = 6)
theorem portT_parts (k s : Int) (p : Bool) : splitL 58 (portT k s p) = [decL k.toNat, decL s.toNat ++ [if p then 112 else 115]] := by
  unfold portT
  rw [List.append_assoc, List.append_assoc, List.singleton_append, splitL_hit _ (decL_no58 _), splitL_none]
  intro c hc
  rcases List.mem_append.1 hc with hc | hc
  · exact decL_no58 _ c hc
  · simp only [List.mem_singleton] at hc
    rw [hc]
    split <;> decide
theorem portT_inj {k s k' s' : Int} {p p' : Bool} (h : portB k s = true) (h' : portB k' s' = true) (e : portT k s p = portT k' s' p') : k = k' ∧ s = s' ∧ p = p' := by
  obtain ⟨a1, a2, a3, a4⟩ := portB_true h
  obtain ⟨b1, b2, b3, b4⟩ := portB_true h'
  have e1 := portT_parts k s p
  rw [e, portT_parts] at e1
  simp only [List.cons.injEq, and_true] at e1
  obtain ⟨e1, e2⟩ := e1
  obtain ⟨e2, e3⟩ := List.append_inj' e2 rfl
  have e1 := decL_inj e1
  have e2 := decL_inj e2
  refine ⟨by omega, by omega, ?_⟩
  cases p <;> cases p' <;> simp at e3 ⊢
theorem IsRead.unique {s : ByteArray} {p q : PortV} {a b : Int} (h : IsRead s p a) (k : IsRead s q b) : p = q ∧ a = b := by
  rcases h with ⟨h1, h2, h3⟩ | ⟨h1, h2, h3⟩ <;> rcases k with ⟨k1, k2, k3⟩ | ⟨k1, k2, k3⟩
  · obtain ⟨e1, e2, e3⟩ := portT_inj h1 k1 (S_inj (h2.trans k2.symm))
    exact ⟨by ext1; exact e1; ext1; exact e2; exact e3, by omega⟩
  · exact absurd h2 (k1 p h1)
  · exact absurd k2 (h1 q k1)
  · exact ⟨h2.trans k2.symm, by omega⟩
end Go.Proofs.Ytlhbjgbkpjlacaa
