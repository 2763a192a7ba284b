/- DERIVED. A counted search as a plain list of events: a node, or something found; what stopping early leaves of it. -/
import Derived.Test.YtioblfbhjkkgoaaBase
namespace Go.Proofs.Ytioblfbhjkkgoaa
set_option maxRecDepth 100000
open Go.RowKit

section
variable {σ β : Type}
/-- What a search meets, in order: none is a node, some is a find. A step gives the ways on, none where the way is barred. -/
def trace (step : σ → β → List (Option β)) : List σ → β → List (Option β)
  | [], b => [some b]
  | s :: ss, b => (step s b).flatMap fun o => none :: (match o with
    | none => []
    | some b' => trace step ss b')
theorem trace_nil (step : σ → β → List (Option β)) (b : β) : trace step [] b = [some b] := by simp [trace]
/-- The events of some of the ways on. -/
def ways (step : σ → β → List (Option β)) (ss : List σ) (os : List (Option β)) : List (Option β) := os.flatMap fun o => none :: (match o with
    | none => []
    | some b' => trace step ss b')
theorem trace_cons (step : σ → β → List (Option β)) (s : σ) (ss : List σ) (b : β) : trace step (s :: ss) b = ways step ss (step s b) := by simp [trace, ways]
theorem ways_nil (step : σ → β → List (Option β)) (ss : List σ) : ways step ss [] = [] := rfl
theorem ways_append (step : σ → β → List (Option β)) (ss : List σ) (xs ys : List (Option β)) : ways step ss (xs ++ ys) = ways step ss xs ++ ways step ss ys := by simp [ways]
theorem ways_none (step : σ → β → List (Option β)) (ss : List σ) : ways step ss [none] = [none] := by simp [ways]
theorem ways_some (step : σ → β → List (Option β)) (ss : List σ) (b : β) : ways step ss [some b] = none :: trace step ss b := by simp [ways]
theorem ways_cons (step : σ → β → List (Option β)) (ss : List σ) (o : Option β) (os : List (Option β)) : ∃ l, ways step ss (o :: os) = none :: l := by
  simp [ways]

/-- Finds, how many nodes lie ahead of each, and how many nodes there are. -/
def founds (T : List (Option β)) : List β := T.filterMap id
def nodesOf : List (Option β) → Int
  | [] => 0
  | none :: T => nodesOf T + 1
  | some _ :: T => nodesOf T
def atsOf : Int → List (Option β) → List Int
  | _, [] => []
  | n, none :: T => atsOf (n + 1) T
  | n, some _ :: T => n :: atsOf n T
theorem founds_append (A B : List (Option β)) : founds (A ++ B) = founds A ++ founds B := by simp [founds]
theorem nodesOf_append : ∀ A B : List (Option β), nodesOf (A ++ B) = nodesOf A + nodesOf B
  | [], B => by simp [nodesOf]
  | none :: A, B => by simp only [List.cons_append, nodesOf, nodesOf_append A B]; omega
  | some _ :: A, B => by simp only [List.cons_append, nodesOf, nodesOf_append A B]
theorem nodesOf_nonneg : ∀ A : List (Option β), 0 ≤ nodesOf A
  | [] => by simp [nodesOf]
  | none :: A => by have := nodesOf_nonneg A; simp only [nodesOf]; omega
  | some _ :: A => by have := nodesOf_nonneg A; simpa only [nodesOf] using this
theorem nodesOf_le : ∀ A : List (Option β), nodesOf A ≤ A.length
  | [] => by simp [nodesOf]
  | none :: A => by have := nodesOf_le A; simp only [nodesOf, List.length_cons]; omega
  | some _ :: A => by have := nodesOf_le A; simp only [nodesOf, List.length_cons]; omega
theorem atsOf_shift : ∀ (n m : Int) (A : List (Option β)), atsOf (n + m) A = (atsOf m A).map (n + ·)
  | _, _, [] => rfl
  | n, m, none :: A => by
    simp only [atsOf]
    rw [show n + m + 1 = n + (m + 1) from by omega]
    exact atsOf_shift n (m + 1) A
  | n, m, some _ :: A => by simp only [atsOf, List.map_cons, atsOf_shift n m A]
theorem atsOf_append : ∀ (n : Int) (A B : List (Option β)), atsOf n (A ++ B) = atsOf n A ++ atsOf (n + nodesOf A) B
  | n, [], B => by simp [atsOf, nodesOf]
  | n, none :: A, B => by
    simp only [List.cons_append, atsOf, nodesOf, atsOf_append (n + 1) A B]
    rw [show n + 1 + nodesOf A = n + (nodesOf A + 1) from by omega]
  | n, some _ :: A, B => by simp only [List.cons_append, atsOf, nodesOf, atsOf_append n A B]
theorem atsOf_length : ∀ (n : Int) (A : List (Option β)), (atsOf n A).length = (founds A).length
  | _, [] => rfl
  | n, none :: A => by simpa [atsOf, founds] using atsOf_length (n + 1) A
  | n, some _ :: A => by simpa [atsOf, founds] using atsOf_length n A
theorem atsOf_bd : ∀ (n : Int) (A : List (Option β)) (k : Int), k ∈ atsOf n A → n ≤ k ∧ k ≤ n + nodesOf A
  | _, [], k, h => by simp [atsOf] at h
  | n, none :: A, k, h => by
    have := atsOf_bd (n + 1) A k h
    simp only [nodesOf]
    omega
  | n, some _ :: A, k, h => by
    simp only [atsOf, List.mem_cons] at h
    have hn := nodesOf_nonneg A
    simp only [nodesOf]
    rcases h with rfl | h
    · omega
    · exact atsOf_bd n A k h
theorem founds_le (A : List (Option β)) : (founds A).length ≤ A.length := List.length_filterMap_le _ _

/-- What a search has counted and found so far. -/
structure St (β : Type) where
  nodes : Int
  full : Bool
  found : List β
def stopped (single : Bool) (st : St β) : Bool := st.full || (single && !st.found.isEmpty)
/-- A node ahead of which the count is looked at. -/
def looked (most : Int) (st : St β) : St β := ⟨st.nodes, st.full || decide (st.nodes = most), st.found⟩
def evt (most : Int) (single : Bool) (st : St β) : Option β → St β
  | none => if stopped single (looked most st) = true then looked most st else ⟨st.nodes + 1, (looked most st).full, st.found⟩
  | some b => if stopped single st = true then st else ⟨st.nodes, st.full, st.found ++ [b]⟩
def runs (most : Int) (single : Bool) (st : St β) (T : List (Option β)) : St β := T.foldl (evt most single) st
theorem runs_append (most : Int) (single : Bool) (st : St β) (A B : List (Option β)) : runs most single st (A ++ B) = runs most single (runs most single st A) B := by simp [runs]
theorem runs_nil (most : Int) (single : Bool) (st : St β) : runs most single st [] = st := rfl
theorem runs_cons (most : Int) (single : Bool) (st : St β) (o : Option β) (A : List (Option β)) : runs most single st (o :: A) = runs most single (evt most single st o) A := rfl
theorem evt_node {most : Int} {single : Bool} {st : St β} (h : stopped single (looked most st) = false) : evt most single st none = ⟨st.nodes + 1, false, st.found⟩ := by
  have h2 := h
  unfold stopped at h2
  simp only [Bool.or_eq_false_iff] at h2
  simp [evt, h, h2.1]
theorem evt_find {most : Int} {single : Bool} {st : St β} {b : β} (h : stopped single st = false) : evt most single st (some b) = ⟨st.nodes, st.full, st.found ++ [b]⟩ := by simp [evt, h]
/-- Once stopped, nothing more is counted or found. -/
theorem looked_settled {most : Int} {single : Bool} {st : St β} (h : stopped single (looked most st) = true) (o : Option β) : evt most single (looked most st) o = looked most st := by
  cases o with
  | none =>
    have hb : ∀ a b : Bool, ((a || b) || b) = (a || b) := by decide
    have e : looked most (looked most st) = looked most st := by unfold looked; simp only; rw [hb]
    unfold evt
    rw [e, if_pos h]
  | some b => simp only [evt, h, if_true]
theorem runs_settled {most : Int} {single : Bool} {st : St β} (h : stopped single (looked most st) = true) : ∀ T : List (Option β), runs most single (looked most st) T = looked most st
  | [] => rfl
  | o :: T => by rw [runs_cons, looked_settled h]; exact runs_settled h T
/-- A node that is not gone to ends all. -/
theorem runs_stop {most : Int} {single : Bool} {st : St β} (h : stopped single (looked most st) = true) (T : List (Option β)) : runs most single st (none :: T) = looked most st := by
  rw [runs_cons, show evt most single st none = looked most st from by unfold evt; rw [if_pos h]]
  exact runs_settled h T

/-- Nothing stops it: all is counted and found. -/
theorem runs_all : ∀ (T : List (Option β)) (n : Int) (fs : List β), 0 ≤ n → runs (-1) false ⟨n, false, fs⟩ T = ⟨n + nodesOf T, false, fs ++ founds T⟩
  | [], n, fs, _ => by simp [runs, nodesOf, founds]
  | none :: T, n, fs, h => by
    have e : evt (-1) false ⟨n, false, fs⟩ none = ⟨n + 1, false, fs⟩ := evt_node (by simp [stopped, looked]; omega)
    rw [runs_cons, e, runs_all T _ _ (by omega)]
    simp only [nodesOf, founds, St.mk.injEq, true_and]
    exact ⟨by omega, by simp⟩
  | some b :: T, n, fs, h => by
    have e : evt (-1) false ⟨n, false, fs⟩ (some b) = ⟨n, false, fs ++ [b]⟩ := evt_find (by simp [stopped])
    rw [runs_cons, e, runs_all T _ _ h]
    simp [nodesOf, founds]
/-- It stops at the first find, or where the budget is spent. -/
theorem runs_found {m : Int} {b : β} : ∀ (T : List (Option β)) (n : Int), (runs m true ⟨n, false, [b]⟩ T).found = [b] ∧ (runs m true ⟨n, false, [b]⟩ T).nodes = n
  | [], n => ⟨rfl, rfl⟩
  | none :: T, n => by
    rw [runs_stop (by simp [stopped, looked])]
    exact ⟨rfl, rfl⟩
  | some c :: T, n => by
    rw [runs_cons, show evt m true ⟨n, false, [b]⟩ (some c) = ⟨n, false, [b]⟩ from by simp [evt, stopped]]
    exact runs_found T n
theorem runs_first {m : Int} : ∀ (T : List (Option β)) (n : Int), n ≤ m →
    (∃ b k, (founds T)[0]? = some b ∧ (atsOf n T)[0]? = some k ∧ k ≤ m ∧ (runs m true ⟨n, false, []⟩ T).found = [b] ∧ (runs m true ⟨n, false, []⟩ T).nodes = k) ∨
    (((founds T) = [] ∨ ∃ k, (atsOf n T)[0]? = some k ∧ m < k) ∧ m < n + nodesOf T ∧ (runs m true ⟨n, false, []⟩ T).found = [] ∧ (runs m true ⟨n, false, []⟩ T).full = true) ∨
    (founds T = [] ∧ n + nodesOf T ≤ m ∧ runs m true ⟨n, false, []⟩ T = ⟨n + nodesOf T, false, []⟩)
  | [], n, h => Or.inr (Or.inr ⟨rfl, by simp [nodesOf]; omega, by simp [runs, nodesOf]⟩)
  | some b :: T, n, h => by
    refine Or.inl ⟨b, n, rfl, rfl, h, ?_⟩
    rw [runs_cons, show evt m true ⟨n, false, []⟩ (some b) = ⟨n, false, [b]⟩ from by simp [evt, stopped]]
    exact runs_found T n
  | none :: T, n, h => by
    by_cases hm : n = m
    · subst hm
      refine Or.inr (Or.inl ⟨?_, ?_, ?_⟩)
      · cases hf : founds T with
        | nil => left; simpa [founds] using hf
        | cons b l =>
          right
          have hl := atsOf_length (n + 1) T
          rw [hf] at hl
          cases ha : atsOf (n + 1) T with
          | nil => rw [ha] at hl; simp at hl
          | cons k l2 =>
            refine ⟨k, by simp [atsOf, ha], ?_⟩
            have := atsOf_bd (n + 1) T k (by rw [ha]; simp)
            omega
      · have := nodesOf_nonneg T
        simp only [nodesOf]
        omega
      · rw [runs_stop (by simp [stopped, looked])]
        simp [looked]
    · have e : evt m true ⟨n, false, []⟩ (none : Option β) = ⟨n + 1, false, []⟩ := evt_node (by simp [stopped, looked, hm])
      rw [runs_cons, e]
      have ih := runs_first (m := m) T (n + 1) (by omega)
      have e2 : n + 1 + nodesOf T = n + (nodesOf T + 1) := by omega
      rw [e2] at ih
      simpa only [founds, atsOf, nodesOf, List.filterMap_cons, id] using ih
theorem runs_nodes_le (most : Int) (single : Bool) : ∀ (T : List (Option β)) (st : St β), st.nodes ≤ (runs most single st T).nodes ∧ (runs most single st T).nodes ≤ st.nodes + T.length
  | [], st => ⟨Int.le_refl _, by simp [runs]⟩
  | o :: T, st => by
    have ih := runs_nodes_le most single T (evt most single st o)
    rw [runs_cons]
    have : st.nodes ≤ (evt most single st o).nodes ∧ (evt most single st o).nodes ≤ st.nodes + 1 := by
      cases o with
      | none => simp only [evt]; split <;> simp [looked] <;> omega
      | some b => simp only [evt]; split <;> simp <;> omega
    simp only [List.length_cons]
    omega
theorem runs_found_le (most : Int) (single : Bool) : ∀ (T : List (Option β)) (st : St β), (runs most single st T).found.length ≤ st.found.length + T.length
  | [], st => by simp [runs]
  | o :: T, st => by
    have ih := runs_found_le most single T (evt most single st o)
    rw [runs_cons]
    have : (evt most single st o).found.length ≤ st.found.length + 1 := by
      cases o with
      | none => simp only [evt]; split <;> simp [looked]
      | some b => simp only [evt]; split <;> simp
    simp only [List.length_cons]
    omega

/-- How long it is at most. -/
theorem flatMap_len_le {α γ : Type} {f : α → List γ} {M : Nat} : ∀ xs : List α, (∀ x ∈ xs, (f x).length ≤ M) → (xs.flatMap f).length ≤ xs.length * M
  | [], _ => by simp
  | x :: xs, h => by
    have h1 := h x (by simp)
    have h2 := flatMap_len_le xs fun y hy => h y (by simp [hy])
    rw [List.flatMap_cons, List.length_append, List.length_cons, Nat.succ_mul]
    omega
theorem two_pow_ge (m : Nat) : 1 + m ≤ 2 ^ m := by
  induction m with
  | zero => simp
  | succ k ih => rw [Nat.pow_succ]; omega
theorem trace_len {step : σ → β → List (Option β)} {m : σ → Nat} (hm : ∀ s b, (step s b).length ≤ m s) : ∀ (ss : List σ) (b : β), (trace step ss b).length + 1 ≤ 2 * 2 ^ (ss.map m).sum
  | [], b => by simp [trace_nil]
  | s :: ss, b => by
    rw [trace_cons, List.map_cons, List.sum_cons, Nat.pow_add]
    have h1 : (ways step ss (step s b)).length ≤ (step s b).length * (2 * 2 ^ (ss.map m).sum) := by
      refine flatMap_len_le _ fun o _ => ?_
      cases o with
      | none =>
        have := Nat.one_le_two_pow (n := (ss.map m).sum)
        simp
        omega
      | some b' =>
        have := trace_len hm ss b'
        simpa using this
    have h2 := hm s b
    have h3 := two_pow_ge (m s)
    have h4 : (step s b).length * (2 * 2 ^ (ss.map m).sum) ≤ m s * (2 * 2 ^ (ss.map m).sum) := Nat.mul_le_mul_right _ h2
    have h5 : (1 + m s) * (2 * 2 ^ (ss.map m).sum) ≤ 2 ^ m s * (2 * 2 ^ (ss.map m).sum) := Nat.mul_le_mul_right _ h3
    rw [Nat.add_mul] at h5
    have h6 := Nat.one_le_two_pow (n := (ss.map m).sum)
    have h7 : 2 * (2 ^ m s * 2 ^ (ss.map m).sum) = 2 ^ m s * (2 * 2 ^ (ss.map m).sum) := by rw [Nat.mul_left_comm]
    omega
end
theorem sum_counts {α : Type} (f : α → Int) : ∀ (vs : List α) (ss : List Int), ss.Nodup → (ss.map fun s => (vs.filter fun x => decide (f x = s)).length).sum ≤ vs.length
  | [], ss, _ => by
    have : ∀ ss : List Int, (ss.map fun s => (([] : List α).filter fun x => decide (f x = s)).length).sum = 0 := fun ss => by
      induction ss with
      | nil => rfl
      | cons s ss ih => simpa using ih
    rw [this]
    exact Nat.zero_le _
  | v :: vs, ss, hn => by
    have ih := sum_counts f vs ss hn
    have key : ∀ ss : List Int, ss.Nodup → (ss.map fun s => ((v :: vs).filter fun x => decide (f x = s)).length).sum ≤ (ss.map fun s => (vs.filter fun x => decide (f x = s)).length).sum + (if f v ∈ ss then 1 else 0) := by
      intro ss
      induction ss with
      | nil => simp
      | cons s ss ih =>
        intro hn
        have hn2 := List.nodup_cons.1 hn
        have ih := ih hn2.2
        rw [List.map_cons, List.sum_cons, List.map_cons, List.sum_cons]
        by_cases e : f v = s
        · rw [if_neg (by rw [e]; exact hn2.1)] at ih
          rw [List.filter_cons_of_pos (by simpa using e), List.length_cons, if_pos (by simp [e])]
          omega
        · rw [List.filter_cons_of_neg (by simpa using e)]
          have : (if f v ∈ s :: ss then 1 else 0) = (if f v ∈ ss then 1 else 0) := by simp [e]
          rw [this]
          omega
    have := key ss hn
    rw [List.length_cons]
    split at this <;> omega
end Go.Proofs.Ytioblfbhjkkgoaa
