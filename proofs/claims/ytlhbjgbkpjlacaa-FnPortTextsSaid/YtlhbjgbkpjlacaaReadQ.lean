/- DERIVED. What is read of a port's text: plainly. -/
import Derived.Test.YtlhbjgbkpjlacaaReadS
namespace Go.Proofs.Ytlhbjgbkpjlacaa
set_option maxRecDepth 100000
open Go.RowKit

theorem read_bad {s : ByteArray} (h : ∀ q : PortV, portB q.1 q.2.1 = true → S (portT q.1 q.2.1 q.2.2) ≠ s) : IsRead s (0, 0, false) 6 := Or.inr ⟨h, rfl, rfl⟩
theorem split_port {s : ByteArray} {q : PortV} (h : S (portT q.1 q.2.1 q.2.2) = s) : splitT s 58 = [S (decL q.1.toNat), S (decL q.2.1.toNat ++ [if q.2.2 then 112 else 115])] := by
  subst h
  unfold splitT
  rw [S_data, portT_parts]
  rfl
theorem S_take (l : List UInt8) (c : UInt8) : (S (l ++ [c])).extract 0 ((S (l ++ [c])).size - 1) = S l := by
  rw [extract_S, S_data, S_size]
  simp
theorem S_last (l : List UInt8) (c : UInt8) (h : (S (l ++ [c])).size - 1 < (S (l ++ [c])).size) : (S (l ++ [c]))[(S (l ++ [c])).size - 1] = c := by
  have h1 := byte_at h
  rw [S_data] at h1
  have h2 : (S (l ++ [c])).size - 1 = l.length := by rw [S_size]; simp
  generalize (S (l ++ [c])).size - 1 = k at h h1 h2 ⊢
  subst h2
  simp at h1
  exact h1.symm
theorem port_num {q : PortV} (h : portB q.1 q.2.1 = true) : q.1.toNat < 1000000 ∧ q.2.1.toNat < 1000000 ∧ ((q.1.toNat : Nat) : Int) = q.1 ∧ ((q.2.1.toNat : Nat) : Int) = q.2.1 := by
  have := portB_true h
  omega
theorem plug_byte (p : Bool) : decide ((if p = true then (112 : UInt8) else 115) = 112) = p := by cases p <;> rfl
/-- The program's reading: two words. -/
theorem read_key {s t0 t1 : ByteArray} {n0 n1 : Int} {ok0 ok1 : Bool} (hL : splitT s 58 = [t0, t1]) (R0 : ReadNum t0 n0 ok0) (R1 : ReadNum (t1.extract 0 (t1.size - 1)) n1 ok1) (h1 : t1.size - 1 < t1.size) (q : PortV) (hq : portB q.1 q.2.1 = true) (hs : S (portT q.1 q.2.1 q.2.2) = s) :
    ok0 = true ∧ ok1 = true ∧ q = (n0, n1, decide (t1[t1.size - 1] = 112)) := by
  have e := split_port hs
  rw [hL] at e
  simp only [List.cons.injEq, and_true] at e
  obtain ⟨rfl, rfl⟩ := e
  obtain ⟨a1, a2, a3, a4⟩ := port_num hq
  rw [S_take] at R1
  obtain ⟨b1, b2⟩ := R0.right _ a1 rfl
  obtain ⟨b3, b4⟩ := R1.right _ a2 rfl
  refine ⟨b2, b4, ?_⟩
  rw [S_last, plug_byte, b1, b3, a3, a4]
theorem read_two {s : ByteArray} (q : PortV) (hs : S (portT q.1 q.2.1 q.2.2) = s) : ∃ t0 t1, splitT s 58 = [t0, t1] ∧ 2 ≤ t1.size := by
  refine ⟨_, _, split_port hs, ?_⟩
  have := List.length_pos_iff.2 (decL_ne q.2.1.toNat)
  rw [S_size, List.length_append, List.length_singleton]
  omega
theorem port_cons (q : PortV) : portT q.1 q.2.1 q.2.2 = (decL q.1.toNat ++ 58 :: decL q.2.1.toNat) ++ [if q.2.2 then 112 else 115] := by
  unfold portT
  simp
theorem read_size {s : ByteArray} (q : PortV) (hs : S (portT q.1 q.2.1 q.2.2) = s) : 0 < s.size := by
  rw [← hs, port_cons, S_size, List.length_append, List.length_singleton]
  omega
/-- The reference's reading: the numbers ahead of the last byte. -/
theorem read_key2 {s : ByteArray} {ns : List Int} {ok : Bool} (R : NumsOf (splitT (s.extract 0 (s.size - 1)) 58) ns ok) (h1 : s.size - 1 < s.size) (q : PortV) (hq : portB q.1 q.2.1 = true) (hs : S (portT q.1 q.2.1 q.2.2) = s) :
    ok = true ∧ ns = [q.1, q.2.1] ∧ q.2.2 = decide (s[s.size - 1] = 112) := by
  subst hs
  obtain ⟨a1, a2, a3, a4⟩ := port_num hq
  simp only [port_cons] at R h1 ⊢
  rw [S_take] at R
  have e : splitT (S (decL q.1.toNat ++ 58 :: decL q.2.1.toNat)) 58 = [S (decL q.1.toNat), S (decL q.2.1.toNat)] := by
    unfold splitT
    rw [S_data, splitL_hit _ (decL_no58 _), splitL_none (decL_no58 _)]
    rfl
  rw [e] at R
  rw [S_last, plug_byte]
  rcases R with ⟨h2, h3, h4⟩ | ⟨h2, h3, t, ht, n, hn⟩
  · match ns, h3, h4 with
    | [a, b], _, h4 =>
      have b1 := ((h4 0 _ a rfl rfl).right _ a1 rfl).1
      have b2 := ((h4 1 _ b rfl rfl).right _ a2 rfl).1
      exact ⟨h2, by rw [b1, b2, a3, a4], rfl⟩
  · simp only [List.mem_cons, List.not_mem_nil, or_false] at ht
    rcases ht with rfl | rfl
    · have := (hn.right _ a1 rfl).2
      cases this
    · have := (hn.right _ a2 rfl).2
      cases this
theorem split_bytes {s : ByteArray} {b : UInt8} : ∀ t ∈ splitT s b, t.size ≤ s.size := by
  have key : ∀ (l : List UInt8), ∀ t ∈ splitL b l, t.length ≤ l.length := by
    intro l
    induction l with
    | nil => intro t ht; simp [splitL] at ht; subst ht; simp
    | cons c cs ih =>
      intro t ht
      unfold splitL at ht
      split at ht
      · rcases List.mem_cons.1 ht with rfl | ht
        · simp
        · have := ih t ht
          simp; omega
      · split at ht
        · simp at ht
          subst ht
          simp
        · rename_i h0 t0 he
          rcases List.mem_cons.1 ht with rfl | ht
          · have := ih h0 (by rw [he]; simp)
            simp; omega
          · have := ih t (by rw [he]; simp [ht])
            simp; omega
  intro t ht
  unfold splitT at ht
  obtain ⟨l, hl, rfl⟩ := List.mem_map.1 ht
  rw [S_size]
  have := key _ l hl
  simpa using this
end Go.Proofs.Ytlhbjgbkpjlacaa
