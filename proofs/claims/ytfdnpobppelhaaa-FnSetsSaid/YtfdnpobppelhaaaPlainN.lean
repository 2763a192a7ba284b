/- DERIVED. The law on sets of balls: plainly. -/
import Derived.Test.YtfdnpobppelhaaaSetP
namespace Go.Proofs.Ytfdnpobppelhaaa
set_option maxRecDepth 100000
open Go.RowKit

def HasG (S : List Int) (n : Nat) (tol : Int) (i : Nat) : Prop := ∃ k, i ≤ k ∧ k + n ≤ S.length ∧ gapN S n k ≤ tol
theorem hasG_out {S : List Int} {n i : Nat} {tol : Int} (h : ¬ i + n ≤ S.length) : ¬ HasG S n tol i := fun ⟨k, h1, h2, _⟩ => by omega
theorem hasG_miss {S : List Int} {n i : Nat} {tol : Int} (h : ¬ gapN S n i ≤ tol) : HasG S n tol (i + 1) ↔ HasG S n tol i := by
  constructor
  · rintro ⟨k, h1, h2, h3⟩
    exact ⟨k, by omega, h2, h3⟩
  · rintro ⟨k, h1, h2, h3⟩
    refine ⟨k, ?_, h2, h3⟩
    by_cases e : k = i
    · rw [e] at h3
      exact absurd h3 h
    · omega
theorem first_iff {S : List Int} {n : Nat} {tol : Int} : ∀ (f i : Nat), S.length < i + f → ((∃ k, firstG S n tol f i = some k) ↔ HasG S n tol i)
  | 0, i, hf => by
    constructor
    · rintro ⟨k, h⟩
      exact absurd h (by simp [firstG])
    · exact fun h => absurd h (hasG_out (by omega))
  | f + 1, i, hf => by
    by_cases h : i + n ≤ S.length
    · by_cases hg : gapN S n i ≤ tol
      · rw [firstG_hit (by omega) h hg]
        exact ⟨fun _ => ⟨i, Nat.le_refl _, h, hg⟩, fun _ => ⟨i, rfl⟩⟩
      · rw [firstG_miss (by omega) h hg, ← hasG_miss hg]
        exact first_iff f (i + 1) (by omega)
    · rw [firstG_out h]
      constructor
      · rintro ⟨k, h⟩
        exact absurd h (by simp)
      · exact fun h' => absurd h' (hasG_out h)
theorem first_some {S : List Int} {n : Nat} {tol : Int} {k : Nat} : ∀ (f i : Nat), firstG S n tol f i = some k → k + n ≤ S.length ∧ gapN S n k ≤ tol
  | 0, i, h => absurd h (by simp [firstG])
  | f + 1, i, h => by
    by_cases h1 : i + n ≤ S.length
    · by_cases hg : gapN S n i ≤ tol
      · rw [firstG_hit (by omega) h1 hg] at h
        obtain rfl := Option.some.inj h
        exact ⟨h1, hg⟩
      · rw [firstG_miss (by omega) h1 hg] at h
        exact first_some f (i + 1) h
    · rw [firstG_out h1] at h
      exact absurd h (by simp)
theorem cnt_iff {S : List Int} {n : Nat} {tol : Int} : ∀ (f i : Nat), S.length < i + f → (0 < cntG S n tol f i ↔ HasG S n tol i)
  | 0, i, hf => ⟨fun h => absurd h (by simp [cntG]), fun h => absurd h (hasG_out (by omega))⟩
  | f + 1, i, hf => by
    by_cases h : i + n ≤ S.length
    · by_cases hg : gapN S n i ≤ tol
      · rw [cntG_hit (by omega) h hg]
        exact ⟨fun _ => ⟨i, Nat.le_refl _, h, hg⟩, fun _ => by omega⟩
      · rw [cntG_miss (by omega) h hg, ← hasG_miss hg]
        exact cnt_iff f (i + 1) (by omega)
    · rw [cntG_out h]
      exact ⟨fun h' => absurd h' (by omega), fun h' => absurd h' (hasG_out h)⟩
theorem cnt_le {S : List Int} {n : Nat} {tol : Int} : ∀ (f i : Nat), i ≤ S.length → cntG S n tol f i * n + i ≤ S.length
  | 0, i, hi => by simp [cntG]; exact hi
  | f + 1, i, hi => by
    by_cases h : i + n ≤ S.length
    · by_cases hg : gapN S n i ≤ tol
      · rw [cntG_hit (by omega) h hg, Nat.add_mul]
        have := cnt_le (n := n) (tol := tol) f (i + n) h
        simp only [Nat.add_sub_cancel, Nat.one_mul] at this ⊢
        omega
      · rw [cntG_miss (by omega) h hg]
        by_cases h2 : i + 1 ≤ S.length
        · have := cnt_le (n := n) (tol := tol) f (i + 1) h2
          simp only [Nat.add_sub_cancel] at this ⊢
          omega
        · rw [cntG_out (by omega)]
          omega
    · rw [cntG_out h]
      omega
theorem least_iff {S : List Int} {n : Nat} {tol : Int} (ht : tol ≤ 1000) : ∀ m, (leastG S n m ≤ tol ↔ ∃ k, k < m ∧ gapN S n k ≤ tol)
  | 0 => by
    constructor
    · intro h
      have : (1001 : Int) ≤ tol := h
      omega
    · rintro ⟨k, h, _⟩
      omega
  | m + 1 => by
    have ih := least_iff (S := S) (n := n) ht m
    have e : leastG S n (m + 1) = if gapN S n m < leastG S n m then gapN S n m else leastG S n m := rfl
    rw [e]
    constructor
    · intro h
      split at h
      · exact ⟨m, by omega, h⟩
      · obtain ⟨k, h1, h2⟩ := ih.1 h
        exact ⟨k, by omega, h2⟩
    · rintro ⟨k, h1, h2⟩
      by_cases hk : k = m
      · subst hk
        split <;> omega
      · have := ih.2 ⟨k, by omega, h2⟩
        split <;> omega
theorem codeN_back {bs : List Int} {n tol : Int} (h : codeN bs n tol = 0) : ballsB bs = true ∧ (3 ≤ n ∧ n ≤ 40) ∧ (0 ≤ tol ∧ tol ≤ 1000) ∧ codeN bs n 0 = 0 := by
  unfold codeN at h
  split at h
  · rename_i hb
    split at h
    · rename_i h2
      rw [Bool.and_eq_true] at h2
      exact ⟨hb, inB_true h2.1, inB_true h2.2, codeN_ok hb (by rw [h2.1]; decide)⟩
    · exact absurd h (by decide)
  · exact absurd h (by decide)
theorem pick_code {bs : List Int} {n tol : Int} (h : codeN bs n tol = 0) : ((pickR bs n tol).2 = 0 ↔ HasG (sizL bs) n.toNat tol 0) := by
  rw [← first_iff (bs.length + 1) 0 (by rw [sizL_len]; omega)]
  change _ ↔ ∃ k, pickAt bs n tol = some k
  cases hp : pickAt bs n tol with
  | none =>
    rw [pickR_none h hp]
    constructor
    · intro h
      exact absurd h (by decide)
    · rintro ⟨k, h⟩
      exact absurd h (by simp)
  | some k =>
    rw [pickR_some h hp]
    exact ⟨fun _ => ⟨k, rfl⟩, fun _ => rfl⟩
/-- What the law says of the codes and numbers. -/
theorem count_law {bs : List Int} {n tol : Int} (h : (countR bs n tol).2 = 0) : (0 < (countR bs n tol).1 ↔ (pickR bs n tol).2 = 0) ∧ 0 ≤ (countR bs n tol).1 ∧ (countR bs n tol).1 * n ≤ bs.length ∧ (3 ≤ n ∧ n ≤ 40) ∧ ((pickR bs n tol).2 = 0 ↔ ((needR bs n).2 = 0 ∧ (needR bs n).1 ≤ tol)) := by
  have hc : codeN bs n tol = 0 := by
    by_cases hc : codeN bs n tol = 0
    · exact hc
    · rw [countR_bad hc] at h
      exact h
  obtain ⟨hb, hn, ht, hc0⟩ := codeN_back hc
  have e1 : countR bs n tol = ((cntG (sizL bs) n.toNat tol (bs.length + 1) 0 : Int), 0) := if_pos hc
  have e2 : needR bs n = if 1000 < leastV bs n then (0, 4) else (leastV bs n, 0) := if_pos hc0
  have hsl := sizL_len bs
  have h1 := cnt_iff (S := sizL bs) (n := n.toNat) (tol := tol) (bs.length + 1) 0 (by omega)
  have h2 := cnt_le (S := sizL bs) (n := n.toNat) (tol := tol) (bs.length + 1) 0 (by omega)
  have h3 := pick_code hc
  have h4 := least_iff (S := sizL bs) (n := n.toNat) (tol := tol) ht.2 (bs.length + 1 - n.toNat)
  have h5 : (∃ k, k < bs.length + 1 - n.toNat ∧ gapN (sizL bs) n.toNat k ≤ tol) ↔ HasG (sizL bs) n.toNat tol 0 := by
    constructor
    · rintro ⟨k, a, b⟩
      exact ⟨k, Nat.zero_le _, by omega, b⟩
    · rintro ⟨k, _, a, b⟩
      exact ⟨k, by omega, b⟩
  rw [e1]
  refine ⟨?_, Int.natCast_nonneg _, ?_, hn, ?_⟩
  · rw [h3, ← h1]
    simp
  · obtain ⟨m, rfl⟩ : ∃ m : Nat, n = (m : Int) := ⟨n.toNat, by omega⟩
    rw [Int.toNat_natCast] at h2 ⊢
    rw [← Int.natCast_mul]
    omega
  · rw [h3, ← h5, ← h4, e2]
    change (leastV bs n ≤ tol) ↔ _
    by_cases hl : 1000 < leastV bs n
    · rw [if_pos hl]
      constructor
      · intro h
        omega
      · rintro ⟨h, _⟩
        exact absurd h (by decide)
    · rw [if_neg hl]
      exact ⟨fun h => ⟨rfl, h⟩, fun h => h.2⟩
theorem pick_law {bs : List Int} {n tol : Int} (h : (pickR bs n tol).2 = 0) : ballsB bs = true ∧ ((pickR bs n tol).1.length : Int) = n ∧ 3 ≤ n ∧ (∃ lo hi : Int, hi - lo ≤ tol ∧ hi - lo ≤ (spreadR bs).1 ∧ ∀ x ∈ (pickR bs n tol).1, ∃ (j : Nat) (y : Int), x = (j : Int) ∧ bs[j]? = some y ∧ lo ≤ y ∧ y ≤ hi ∧ 1000 ≤ y ∧ y ≤ 20000) ∧ (∀ i a b, (pickR bs n tol).1[i]? = some a → (pickR bs n tol).1[i + 1]? = some b → a < b) := by
  have hc : codeN bs n tol = 0 := by
    by_cases hc : codeN bs n tol = 0
    · exact hc
    · rw [pickR_bad hc] at h
      exact h
  obtain ⟨hb, hn, ht, _⟩ := codeN_back hc
  cases hp : pickAt bs n tol with
  | none =>
    rw [pickR_none hc hp] at h
    exact absurd h (by decide)
  | some k =>
    rw [pickR_some hc hp]
    obtain ⟨m, rfl⟩ : ∃ m : Nat, n = (m : Int) := ⟨n.toNat, by omega⟩
    rw [Int.toNat_natCast]
    have hf := first_some _ _ hp
    rw [Int.toNat_natCast, sizL_len] at hf
    have hsl := sizL_len bs
    have hol := ordL_len bs
    have hl : (((ordL bs).drop k).take m).length = m := by rw [List.length_take, List.length_drop]; omega
    refine ⟨hb, ?_, hn.1, ⟨bAt (sizL bs) (k : Int), bAt (sizL bs) ((k + m - 1 : Nat) : Int), hf.2, ?_, ?_⟩, ?_⟩
    · show ((sizL _).length : Int) = _
      rw [sizL_len, hl]
    · have e : (spreadR bs).1 = spreadV bs := by
        unfold spreadR
        rw [hb]
        rfl
      rw [e]
      unfold spreadV
      rw [if_neg (by omega)]
      obtain ⟨y1, a1, b1, _⟩ := sizL_at (bs := bs) (i := k + m - 1) (by omega)
      obtain ⟨y2, a2, b2, _⟩ := sizL_at (bs := bs) (i := k) (by omega)
      obtain ⟨y3, a3, b3, _⟩ := sizL_at (bs := bs) (i := bs.length - 1) (by omega)
      obtain ⟨y4, a4, b4, _⟩ := sizL_at (bs := bs) (i := 0) (by omega)
      have c1 : y1 ≤ y3 := (srt_asc (fun z => z) bs).at a1 a3 (by omega)
      have c2 : y4 ≤ y2 := (srt_asc (fun z => z) bs).at a4 a2 (by omega)
      rw [b1, b2, b3]
      have b4' : bAt (sizL bs) 0 = y4 := b4
      rw [b4']
      omega
    · intro x hx
      have hx2 : x ∈ ((ordL bs).drop k).take m := srt_mem.1 hx
      obtain ⟨r, hr⟩ := List.mem_iff_getElem?.1 hx2
      have hrm := (List.getElem?_eq_some_iff.1 hr).1
      rw [hl] at hrm
      rw [List.getElem?_take_of_lt hrm, List.getElem?_drop] at hr
      obtain ⟨j, y, e, h1, h2⟩ := ordL_at hr
      obtain ⟨y1, a1, b1, _⟩ := sizL_at (bs := bs) (i := k + m - 1) (by omega)
      obtain ⟨y2, a2, b2, _⟩ := sizL_at (bs := bs) (i := k) (by omega)
      have c1 : y ≤ y1 := (srt_asc (fun z => z) bs).at h2 a1 (by omega)
      have c2 : y2 ≤ y := (srt_asc (fun z => z) bs).at a2 h2 (by omega)
      have hy := (balls_bound hb).2 y (List.mem_of_getElem? h1)
      rw [b1, b2]
      exact ⟨j, y, e, h1, c2, c1, hy⟩
    · intro i a b ha hb'
      have hnd : (((ordL bs).drop k).take m).Nodup := ((srt_nodup (idxL_nodup bs.length)).sublist (List.drop_sublist _ _)).sublist (List.take_sublist _ _)
      have h1 : a ≤ b := (srt_asc (fun z => z) _).at ha hb' (by omega)
      have h2 : (sizL (((ordL bs).drop k).take m)).Nodup := srt_nodup hnd
      obtain ⟨i1, e1⟩ := List.getElem?_eq_some_iff.1 ha
      obtain ⟨i2, e2⟩ := List.getElem?_eq_some_iff.1 hb'
      have h3 : a ≠ b := by
        rw [← e1, ← e2]
        exact List.pairwise_iff_getElem.1 h2 i (i + 1) i1 i2 (by omega)
      omega
theorem pick_one {bs : List Int} {n tol : Int} (h : (pickR bs n tol).2 = 0) : (countR bs n tol).2 = 0 := by
  by_cases hc : codeN bs n tol = 0
  · unfold countR
    rw [if_pos hc]
  · rw [pickR_bad hc] at h
    exact absurd h hc
theorem pick_len (bs : List Int) (n tol : Int) : (pickR bs n tol).1.length ≤ bs.length := by
  unfold pickR
  split
  · split
    · show (sizL _).length ≤ _
      rw [sizL_len, List.length_take, List.length_drop, ordL_len]
      omega
    · simp
  · simp
end Go.Proofs.Ytfdnpobppelhaaa
