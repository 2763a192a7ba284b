/- DERIVED. The best size suits, and the fewest sizes suit everybody: plainly. -/
import Derived.Test.YtfdnpobppelhaaaFew
import Derived.Test.YtfdnpobppelhaaaSizesFor
namespace Go.Proofs.Ytfdnpobppelhaaa
set_option maxRecDepth 100000
open Go.RowKit

theorem idx_has {α : Type} {p : α → Bool} {xs : List α} {j : Nat} {x : α} (hx : xs[j]? = some x) (hp : p x = true) : ∀ k, j < k → ((j : Nat) : Int) ∈ idxTo p xs k
  | 0, h => by omega
  | k + 1, h => by
    by_cases e : j = k
    · subst e
      rw [idxTo_yes hx hp]
      simp
    · have ih := idx_has hx hp k (by omega)
      unfold idxTo
      split
      · split
        · exact List.mem_append_left _ ih
        · exact ih
      · exact ih
structure BestLaw (xs : List SizT) (B : ByteArray × Int) (F : List ByteArray × Int) : Prop where
  co : F.2 = 0 → (decide (B.2 = 0) = decide (0 < F.1.length))
  has : B.2 = 0 → B.1 ∈ F.1
  len : F.1.length ≤ xs.length
theorem best_law (h i a : Int) (xs : List SizT) : BestLaw xs (bestR h i a xs) (forR h i a xs) := by
  by_cases hh : riderB h i a = true ∧ sizesB xs = true
  · have eF : forR h i a xs = (keepTo (suitT h i a) nameT xs xs.length, 0) := by unfold forR; rw [if_pos hh]
    have hl := keepTo_le (suitT h i a) nameT xs xs.length
    have hk := idx_keep (p := suitT h i a) (g := nameT) (z := ⟨#[]⟩) (xs := xs) xs.length
    rw [eF]
    by_cases he : idxTo (suitT h i a) xs xs.length = []
    · rw [bestR_none hh he]
      rw [he] at hk
      rw [← hk]
      exact ⟨fun _ => by simp, fun h => by simp at h, Nat.zero_le _⟩
    · obtain ⟨j, t, e, hj, ht, _⟩ := idxTo_mem (nearestOf_mem (d := distT i) (xs := xs) he)
      rw [bestR_some hh he e ht]
      have hm : nameT t ∈ keepTo (suitT h i a) nameT xs xs.length := by
        rw [← hk]
        refine List.mem_map.2 ⟨_, nearestOf_mem (d := distT i) (xs := xs) he, ?_⟩
        rw [e]
        simp [atI, ht]
      refine ⟨fun _ => ?_, fun _ => hm, hl⟩
      have := List.length_pos_of_mem hm
      simp [this]
  · have eF : forR h i a xs = ([], 1) := by unfold forR; rw [if_neg hh]
    rw [eF, bestR_no hh]
    exact ⟨fun h => by simp at h, fun h => by simp at h, Nat.zero_le _⟩
theorem few_short {rows : List (List Int)} {n : Nat} {L : List Int} (h : firstFrom (meetAll rows) n (n + 1) 0 = some L) : L.length ≤ rows.length := by
  obtain ⟨hok, hup, j, _, _, hj, hmin⟩ := firstFrom_ok h
  have hmeet : ∀ r ∈ rows, ∃ x ∈ r, x ∈ L := fun r hr => by
    have := List.all_eq_true.1 hok r hr
    unfold meetsB at this
    obtain ⟨x, hx, hd⟩ := List.any_eq_true.1 this
    exact ⟨x, hx, of_decide_eq_true hd⟩
  obtain ⟨cs, hcl, hcs⟩ : ∃ cs : List Int, cs.length = rows.length ∧ ∀ r ∈ rows, ∃ x ∈ r, x ∈ L ∧ x ∈ cs := by
    clear h hok hmin
    induction rows with
    | nil => exact ⟨[], rfl, fun r hr => absurd hr (by simp)⟩
    | cons r rows ih =>
      obtain ⟨cs, h1, h2⟩ := ih fun q hq => hmeet q (List.mem_cons_of_mem _ hq)
      obtain ⟨x, hx, hxL⟩ := hmeet r List.mem_cons_self
      refine ⟨x :: cs, by simp [h1], fun q hq => ?_⟩
      rcases List.mem_cons.1 hq with rfl | hq
      · exact ⟨x, hx, hxL, List.mem_cons_self⟩
      · obtain ⟨y, h3, h4, h5⟩ := h2 q hq
        exact ⟨y, h3, h4, List.mem_cons_of_mem _ h5⟩
  have hT : meetAll rows (bitsTo (hasI cs) n) = true := by
    unfold meetAll
    refine List.all_eq_true.2 fun r hr => ?_
    obtain ⟨x, hx, hxL, hxc⟩ := hcs r hr
    obtain ⟨q, rfl, hq⟩ := hup.lt x hxL
    unfold meetsB
    exact List.any_eq_true.2 ⟨_, hx, decide_eq_true (bitsTo_has hq (decide_eq_true hxc))⟩
  have hle : (bitsTo (hasI cs) n).length ≤ cs.length := nodup_le (bitsTo_nodup _ _) fun x hx => by
    obtain ⟨q, rfl, _, hp⟩ := bitsTo_mem hx
    exact of_decide_eq_true hp
  rw [← hcl]
  refine Nat.le_trans ?_ hle
  rw [hj]
  refine Nat.le_of_not_lt fun hlt => ?_
  have hn := hmin _ (Nat.zero_le _) hlt
  have := List.find?_eq_none.1 hn _ (combs_all (hasI cs) n)
  exact this hT
structure FewLaw (rs : List RidT) (xs : List SizT) (F : List Int × Int) (T : List (List Int) × Int) : Prop where
  short : F.2 = 0 → F.1.length ≤ rs.length
  each : F.2 = 0 → ∀ (i : Nat) (r : RidT), rs[i]? = some r → ∃ row, T.1[i]? = some row ∧ (∃ k ∈ F.1, k ∈ row) ∧
    ∀ k ∈ F.1, ∃ (j : Nat) (x : SizT), k = (j : Int) ∧ xs[j]? = some x ∧ suitR r.1 r.2.1 r.2.2 x = (decide (k ∈ row), 0)
theorem few_law (rs : List RidT) (xs : List SizT) : FewLaw rs xs (fewR rs xs) (tableR rs xs) := by
  by_cases z : ridersB rs = true ∧ sizesB xs = true
  · have eF : fewR rs xs = fewOf (firstFrom (meetAll (rs.map (rowOf xs))) xs.length (xs.length + 1) 0) := by unfold fewR; rw [if_pos z]
    have eT : tableR rs xs = (rs.map (rowOf xs), 0) := by unfold tableR; rw [if_pos z]
    rw [eF, eT]
    cases hL : firstFrom (meetAll (rs.map (rowOf xs))) xs.length (xs.length + 1) 0 with
    | none => exact ⟨fun h => by simp [fewOf] at h, fun h => by simp [fewOf] at h⟩
    | some L =>
      obtain ⟨hok, hup, _⟩ := firstFrom_ok hL
      refine ⟨fun _ => ?_, fun _ i r hi => ⟨rowOf xs r, ?_, ?_, fun k hk => ?_⟩⟩
      · have := few_short hL
        rwa [List.length_map] at this
      · rw [List.getElem?_map, hi]
        rfl
      · have := List.all_eq_true.1 hok _ (List.mem_map.2 ⟨r, List.mem_of_getElem? hi, rfl⟩)
        unfold meetsB at this
        obtain ⟨x, hx, hd⟩ := List.any_eq_true.1 this
        exact ⟨x, of_decide_eq_true hd, hx⟩
      · obtain ⟨j, rfl, hj⟩ := hup.lt k hk
        have hx : xs[j]? = some xs[j] := List.getElem?_eq_getElem hj
        refine ⟨j, xs[j], rfl, hx, ?_⟩
        have h1 := ridersB_all z.1 r (List.mem_of_getElem? hi)
        have h2 := sizesB_ok z.2 hx
        unfold suitR
        rw [if_pos ⟨h1, h2⟩]
        congr 1
        show suitT r.1 r.2.1 r.2.2 xs[j] = _
        cases e : suitT r.1 r.2.1 r.2.2 xs[j] with
        | true => exact (decide_eq_true (idx_has hx e xs.length hj)).symm
        | false =>
          refine (decide_eq_false fun hm => ?_).symm
          obtain ⟨q, y, h3, _, h5, h6⟩ := idxTo_mem hm
          obtain rfl : j = q := by omega
          rw [hx] at h5
          obtain rfl := Option.some.inj h5
          rw [e] at h6
          cases h6
  · have eF : fewR rs xs = ([], 1) := by unfold fewR; rw [if_neg z]
    rw [eF]
    exact ⟨fun h => by simp at h, fun h => by simp at h⟩
end Go.Proofs.Ytfdnpobppelhaaa
