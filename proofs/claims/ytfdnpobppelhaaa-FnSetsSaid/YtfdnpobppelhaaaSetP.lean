/- DERIVED. Sets of balls: plainly. -/
import Derived.Test.YtfdnpobppelhaaaBallW
namespace Go.Proofs.Ytfdnpobppelhaaa
set_option maxRecDepth 100000
open Go.RowKit

def gapN (S : List Int) (n i : Nat) : Int := bAt S ((i + n - 1 : Nat) : Int) - bAt S (i : Int)
def codeN (bs : List Int) (n tol : Int) : Int := if ballsB bs = true then (if (inB n 3 40 && inB tol 0 1000) = true then 0 else 2) else 1
/-- The first place from i on with a set, in m steps. -/
def firstG (S : List Int) (n : Nat) (tol : Int) : Nat → Nat → Option Nat
  | 0, _ => none
  | f + 1, i => if i + n ≤ S.length then (if gapN S n i ≤ tol then some i else firstG S n tol f (i + 1)) else none
def cntG (S : List Int) (n : Nat) (tol : Int) : Nat → Nat → Nat
  | 0, _ => 0
  | f + 1, i => if i + n ≤ S.length then (if gapN S n i ≤ tol then cntG S n tol f (i + n) + 1 else cntG S n tol f (i + 1)) else 0
def leastG (S : List Int) (n : Nat) : Nat → Int
  | 0 => 1001
  | i + 1 => if gapN S n i < leastG S n i then gapN S n i else leastG S n i
def pickAt (bs : List Int) (n tol : Int) : Option Nat := firstG (sizL bs) n.toNat tol (bs.length + 1) 0
def pickR (bs : List Int) (n tol : Int) : List Int × Int :=
  if codeN bs n tol = 0 then (match pickAt bs n tol with
    | some i => (sizL (((ordL bs).drop i).take n.toNat), 0)
    | none => ([], 4)) else ([], codeN bs n tol)
def countR (bs : List Int) (n tol : Int) : Int × Int :=
  if codeN bs n tol = 0 then ((cntG (sizL bs) n.toNat tol (bs.length + 1) 0 : Int), 0) else (0, codeN bs n tol)
def spreadV (bs : List Int) : Int := if bs.length = 0 then 0 else bAt (sizL bs) ((bs.length - 1 : Nat) : Int) - bAt (sizL bs) 0
def spreadR (bs : List Int) : Int × Int := if ballsB bs = true then (spreadV bs, 0) else (0, 1)
def leastV (bs : List Int) (n : Int) : Int := leastG (sizL bs) n.toNat (bs.length + 1 - n.toNat)
def needR (bs : List Int) (n : Int) : Int × Int :=
  if codeN bs n 0 = 0 then (if 1000 < leastV bs n then (0, 4) else (leastV bs n, 0)) else (0, codeN bs n 0)
theorem firstG_out {S : List Int} {n : Nat} {tol : Int} {f i : Nat} (h : ¬ i + n ≤ S.length) : firstG S n tol f i = none := by
  cases f with
  | zero => rfl
  | succ f => unfold firstG; rw [if_neg h]
theorem firstG_hit {S : List Int} {n : Nat} {tol : Int} {f i : Nat} (hf : 0 < f) (h : i + n ≤ S.length) (hg : gapN S n i ≤ tol) : firstG S n tol f i = some i := by
  cases f with
  | zero => omega
  | succ f => unfold firstG; rw [if_pos h, if_pos hg]
theorem firstG_miss {S : List Int} {n : Nat} {tol : Int} {f i : Nat} (hf : 0 < f) (h : i + n ≤ S.length) (hg : ¬ gapN S n i ≤ tol) : firstG S n tol f i = firstG S n tol (f - 1) (i + 1) := by
  cases f with
  | zero => omega
  | succ f =>
    show (if i + n ≤ S.length then (if gapN S n i ≤ tol then some i else firstG S n tol f (i + 1)) else none) = _
    rw [if_pos h, if_neg hg]
    rfl
theorem cntG_out {S : List Int} {n : Nat} {tol : Int} {f i : Nat} (h : ¬ i + n ≤ S.length) : cntG S n tol f i = 0 := by
  cases f with
  | zero => rfl
  | succ f => unfold cntG; rw [if_neg h]
theorem cntG_hit {S : List Int} {n : Nat} {tol : Int} {f i : Nat} (hf : 0 < f) (h : i + n ≤ S.length) (hg : gapN S n i ≤ tol) : cntG S n tol f i = cntG S n tol (f - 1) (i + n) + 1 := by
  cases f with
  | zero => omega
  | succ f =>
    show (if i + n ≤ S.length then (if gapN S n i ≤ tol then cntG S n tol f (i + n) + 1 else cntG S n tol f (i + 1)) else 0) = _
    rw [if_pos h, if_pos hg]
    rfl
theorem cntG_miss {S : List Int} {n : Nat} {tol : Int} {f i : Nat} (hf : 0 < f) (h : i + n ≤ S.length) (hg : ¬ gapN S n i ≤ tol) : cntG S n tol f i = cntG S n tol (f - 1) (i + 1) := by
  cases f with
  | zero => omega
  | succ f =>
    show (if i + n ≤ S.length then (if gapN S n i ≤ tol then cntG S n tol f (i + n) + 1 else cntG S n tol f (i + 1)) else 0) = _
    rw [if_pos h, if_neg hg]
    rfl
theorem codeN_bad {bs : List Int} {n tol : Int} (h : ballsB bs = false) : codeN bs n tol = 1 := by
  unfold codeN
  rw [h]
  rfl
theorem codeN_range {bs : List Int} {n tol : Int} (h : ballsB bs = true) (h2 : (inB n 3 40 && inB tol 0 1000) = false) : codeN bs n tol = 2 := by
  unfold codeN
  rw [h, h2]
  rfl
theorem codeN_ok {bs : List Int} {n tol : Int} (h : ballsB bs = true) (h2 : (inB n 3 40 && inB tol 0 1000) = true) : codeN bs n tol = 0 := by
  unfold codeN
  rw [h, h2]
  rfl
theorem pickR_bad {bs : List Int} {n tol : Int} (h : codeN bs n tol ≠ 0) : pickR bs n tol = ([], codeN bs n tol) := if_neg h
theorem countR_bad {bs : List Int} {n tol : Int} (h : codeN bs n tol ≠ 0) : countR bs n tol = (0, codeN bs n tol) := if_neg h
theorem needR_bad {bs : List Int} {n : Int} (h : codeN bs n 0 ≠ 0) : needR bs n = (0, codeN bs n 0) := if_neg h
theorem pickR_none {bs : List Int} {n tol : Int} (h : codeN bs n tol = 0) (h2 : pickAt bs n tol = none) : pickR bs n tol = ([], 4) := by
  unfold pickR
  rw [if_pos h, h2]
theorem pickR_some {bs : List Int} {n tol : Int} {i : Nat} (h : codeN bs n tol = 0) (h2 : pickAt bs n tol = some i) : pickR bs n tol = (sizL (((ordL bs).drop i).take n.toNat), 0) := by
  unfold pickR
  rw [if_pos h, h2]
theorem balls_bound {bs : List Int} (h : ballsB bs = true) : bs.length ≤ 60 ∧ ∀ y ∈ bs, 1000 ≤ y ∧ y ≤ 20000 := by
  unfold ballsB at h
  simp only [Bool.and_eq_true, decide_eq_true_eq, List.all_eq_true, inB] at h
  refine ⟨by omega, fun y hy => ?_⟩
  have := h.2 y hy
  simpa using this
theorem sizL_at {bs : List Int} {i : Nat} (h : i < bs.length) : ∃ y : Int, (sizL bs)[i]? = some y ∧ bAt (sizL bs) (i : Int) = y ∧ y ∈ bs := by
  have hi : i < (sizL bs).length := by rw [sizL_len]; exact h
  refine ⟨(sizL bs)[i], List.getElem?_eq_getElem hi, bAt_of (List.getElem?_eq_getElem hi), ?_⟩
  exact srt_mem.1 (List.getElem_mem hi)
/-- Where a place of the order leads. -/
theorem ordL_to {bs : List Int} {i : Nat} (h : i < bs.length) : ∃ (j : Nat) (y : Int), (ordL bs)[i]? = some (j : Int) ∧ bs[j]? = some y ∧ bAt (sizL bs) (i : Int) = y ∧ y ∈ bs := by
  have hi : i < (ordL bs).length := by rw [ordL_len]; exact h
  obtain ⟨j, y, e, h1, h2⟩ := ordL_at (List.getElem?_eq_getElem hi)
  exact ⟨j, y, by rw [List.getElem?_eq_getElem hi, e], h1, bAt_of h2, List.mem_of_getElem? h1⟩
end Go.Proofs.Ytfdnpobppelhaaa
