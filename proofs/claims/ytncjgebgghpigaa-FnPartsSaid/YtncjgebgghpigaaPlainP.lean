/- DERIVED. Lists of parts with one more, with one less: plainly. -/
import Derived.Test.YtncjgebgghpigaaAdd
import Derived.Test.YtncjgebgghpigaaCheap
namespace Go.Proofs.Ytncjgebgghpigaa
set_option maxRecDepth 100000
open Go.RowKit

theorem partsB_iff {vs : List PartT} : partsB vs = true ↔ vs.length ≤ 16 ∧ (∀ x ∈ vs, partB x = true) ∧ vs.Pairwise fun x y => ltT x.code y.code = true := by
  constructor
  · intro h
    refine ⟨partsB_len h, fun x hx => chainB_mem (partsB_chain h) hx, ?_⟩
    rw [List.pairwise_iff_getElem]
    intro i j hi hj hij
    exact partsB_lt h hij (List.getElem?_eq_getElem hi) (List.getElem?_eq_getElem hj)
  · rintro ⟨h1, h2, h3⟩
    unfold partsB
    rw [decide_eq_true h1, Bool.true_and]
    refine chainB_true fun j hj => ?_
    have hx := List.getElem?_eq_getElem hj
    have hok := h2 _ (List.getElem_mem hj)
    by_cases h0 : j = 0
    · subst h0
      exact stepB_zero hx hok
    · rw [stepB_next hx (by omega) (List.getElem?_eq_getElem (by omega)) hok]
      exact List.pairwise_iff_getElem.1 h3 (j - 1) j (by omega) hj (by omega)
theorem keepTo_filter (p : PartT → Bool) (vs : List PartT) : ∀ k, keepTo p idP vs k = (vs.take k).filter p
  | 0 => by simp [keepTo]
  | k + 1 => by
    unfold keepTo
    rw [List.take_add_one]
    cases h : vs[k]? with
    | none => simp [keepTo_filter p vs k]
    | some x =>
      simp only [Option.toList]
      rw [List.filter_append, ← keepTo_filter p vs k]
      by_cases hp : p x = true
      · rw [if_pos hp]
        simp [hp, idP]
      · rw [if_neg hp]
        simp [hp]
theorem filter_mid {a b : List PartT} {x : PartT} {code : ByteArray} (ha : ∀ y ∈ a, y.code ≠ code) (hx : x.code = code) (hb : ∀ y ∈ b, y.code ≠ code) : (a ++ x :: b).filter (notCode code) = a ++ b := by
  rw [List.filter_append, List.filter_cons_of_neg (by simp [notCode, hx])]
  rw [List.filter_eq_self.2 (fun y hy => by simpa [notCode] using ha y hy), List.filter_eq_self.2 (fun y hy => by simpa [notCode] using hb y hy)]
theorem ltT_ne {a b : ByteArray} (h : ltT a b = true) : a ≠ b := by
  rintro rfl
  rw [ltT_irrefl] at h
  cases h

theorem split_at {vs : List PartT} {k : Nat} {x : PartT} (hx : vs[k]? = some x) : vs = vs.take k ++ x :: vs.drop (k + 1) := by
  obtain ⟨hk, rfl⟩ := List.getElem?_eq_some_iff.1 hx
  rw [List.getElem_cons_drop, List.take_append_drop]
/-- Without the part that has the code. -/
theorem drop_law {vs L : List PartT} {code : ByteArray} (h : dropR vs code = (L, 0)) : partsB L = true ∧ L.length + 1 = vs.length := by
  unfold dropR at h
  by_cases hp : partsB vs = true
  · rw [if_pos hp] at h
    rcases findI_cases vs code with ⟨e, _⟩ | ⟨k, x, e, hk, hx, hc⟩
    · rw [e, if_pos (by omega)] at h
      simp at h
    · rw [e, if_neg (by omega), keepTo_filter, List.take_length] at h
      have hL := (Prod.mk.inj h).1
      obtain ⟨h1, h2, h3⟩ := partsB_iff.1 hp
      have hs := split_at hx
      rw [hs] at h3
      have h4 := List.pairwise_append.1 h3
      have h5 := List.pairwise_cons.1 h4.2.1
      have hm := filter_mid (a := vs.take k) (b := vs.drop (k + 1)) (fun y hy e => ltT_ne (h4.2.2 y hy x List.mem_cons_self) (e.trans hc.symm)) hc (fun y hy e => ltT_ne (h5.1 y hy) (hc.trans e.symm))
      rw [← hs, hL] at hm
      refine ⟨partsB_iff.2 ⟨?_, fun y hy => h2 y ?_, ?_⟩, ?_⟩
      · rw [← hL]
        exact Nat.le_trans (List.length_filter_le _ _) h1
      · rw [← hL] at hy
        exact (List.mem_filter.1 hy).1
      · rw [← hL]
        rw [← hs] at h3
        exact h3.filter _
      · rw [hm, List.length_append, List.length_take, List.length_drop]
        omega
  · rw [if_neg hp] at h
    simp at h
theorem find_law {vs : List PartT} {code : ByteArray} {k : Int} (h : findR vs code = (k, 0)) : ∃ (n : Nat) (x : PartT), k = n ∧ vs[n]? = some x ∧ x.code = code := by
  unfold findR at h
  split at h
  · rcases findI_cases vs code with ⟨e, _⟩ | ⟨n, x, e, _, hx, hc⟩
    · rw [e, if_pos (by omega)] at h
      simp at h
    · rw [e, if_neg (by omega)] at h
      exact ⟨n, x, (Prod.mk.inj h).1.symm, hx, hc⟩
  · simp at h
theorem addTo_form (p : PartT) (vs : List PartT) : ∀ k, k ≤ vs.length → (addTo p vs k = (vs.take k, false) ∧ ∀ x ∈ vs.take k, ltT p.code x.code = false) ∨ ∃ (j : Nat) (x : PartT), j < k ∧ vs[j]? = some x ∧ ltT p.code x.code = true ∧ (∀ y ∈ vs.take j, ltT p.code y.code = false) ∧ addTo p vs k = (vs.take j ++ p :: (vs.take k).drop j, true)
  | 0, _ => Or.inl ⟨by simp [addTo], by simp⟩
  | k + 1, hk => by
    have hx : vs[k]? = some vs[k] := List.getElem?_eq_getElem (by omega)
    have hts : vs.take (k + 1) = vs.take k ++ [vs[k]] := List.take_succ_eq_append_getElem (by omega)
    rcases addTo_form p vs k (by omega) with ⟨e, h⟩ | ⟨j, x, hj, hjx, h1, h2, e⟩
    · by_cases hl : ltT p.code vs[k].code = true
      · refine Or.inr ⟨k, vs[k], by omega, hx, hl, h, ?_⟩
        rw [addTo_in hx (by rw [e]) hl, e, hts, List.drop_left' (by rw [List.length_take]; omega)]
        simp only [List.append_assoc, List.cons_append, List.nil_append]
      · refine Or.inl ⟨?_, fun x hm => ?_⟩
        · rw [addTo_on hx (Or.inr (by simpa using hl)), e, hts]
        · rw [hts] at hm
          rcases List.mem_append.1 hm with hm | hm
          · exact h x hm
          · rw [List.mem_singleton.1 hm]
            simpa using hl
    · refine Or.inr ⟨j, x, by omega, hjx, h1, h2, ?_⟩
      rw [addTo_on hx (Or.inl (by rw [e])), e, hts, List.drop_append_of_le_length (by rw [List.length_take]; omega)]
      simp
theorem addL_form (p : PartT) (vs : List PartT) : ∃ j, j ≤ vs.length ∧ addL p vs = vs.take j ++ p :: vs.drop j ∧ (∀ y ∈ vs.take j, ltT p.code y.code = false) ∧ ∀ x, vs[j]? = some x → ltT p.code x.code = true := by
  unfold addL
  rcases addTo_form p vs vs.length (Nat.le_refl _) with ⟨e, h⟩ | ⟨j, x, hj, hjx, h1, h2, e⟩
  · refine ⟨vs.length, Nat.le_refl _, ?_, h, fun x hx => ?_⟩
    · rw [e]
      simp
    · rw [List.getElem?_eq_none (Nat.le_refl _)] at hx
      cases hx
  · refine ⟨j, by omega, ?_, h2, fun y hy => ?_⟩
    · rw [e]
      simp
    · rw [hjx] at hy
      rw [← Option.some.inj hy]
      exact h1
/-- What is added is found, and dropped again. -/
theorem add_law {vs L : List PartT} {p : PartT} (h : addR vs p = (L, 0)) : ∃ n : Nat, findR L p.code = ((n : Int), 0) ∧ L[n]? = some p ∧ dropR L p.code = (vs, 0) ∧ partsB L = true ∧ L.length = vs.length + 1 := by
  unfold addR at h
  by_cases hp : partsB vs = true
  · rw [if_pos hp] at h
    by_cases hq : partB p = true
    · rw [if_pos hq] at h
      by_cases hf : findI vs p.code < 0
      · rw [if_pos hf] at h
        by_cases hl : vs.length = 16
        · rw [if_pos hl] at h
          simp at h
        · rw [if_neg hl] at h
          have hL := (Prod.mk.inj h).1
          have hno : ∀ x ∈ vs, x.code ≠ p.code := by
            rcases findI_cases vs p.code with ⟨_, h⟩ | ⟨k, _, e, _⟩
            · exact h
            · omega
          obtain ⟨h1, h2, h3⟩ := partsB_iff.1 hp
          obtain ⟨j, hj, e, ha, hb⟩ := addL_form p vs
          rw [hL] at e
          have hA : ∀ y ∈ vs.take j, ltT y.code p.code = true := fun y hy => by
            cases hc : ltT y.code p.code with
            | true => rfl
            | false => exact absurd (ltT_total hc (ha y hy)) (hno y (List.mem_of_mem_take hy))
          have hB : ∀ y ∈ vs.drop j, ltT p.code y.code = true := fun y hy => by
            obtain ⟨i, hi⟩ := List.mem_iff_getElem?.1 hy
            rw [List.getElem?_drop] at hi
            have hil := (List.getElem?_eq_some_iff.1 hi).1
            have hz : vs[j]? = some (vs[j]'(by omega)) := List.getElem?_eq_getElem (by omega)
            have hz2 := hb _ hz
            by_cases h0 : i = 0
            · subst h0
              rw [Nat.add_zero, hz] at hi
              rw [← Option.some.inj hi]
              exact hz2
            · exact ltT_trans hz2 (partsB_lt hp (by omega) hz hi)
          have hlen : L.length = vs.length + 1 := by
            rw [e, List.length_append, List.length_take, List.length_cons, List.length_drop]
            omega
          have h3' := h3
          rw [← List.take_append_drop j vs] at h3'
          have h4 := List.pairwise_append.1 h3'
          have hparts : partsB L = true := by
            refine partsB_iff.2 ⟨by omega, fun y hy => ?_, ?_⟩
            · rw [e] at hy
              rcases List.mem_append.1 hy with hy | hy
              · exact h2 y (List.mem_of_mem_take hy)
              · rcases List.mem_cons.1 hy with rfl | hy
                · exact hq
                · exact h2 y (List.mem_of_mem_drop hy)
            · rw [e]
              refine List.pairwise_append.2 ⟨h4.1, List.pairwise_cons.2 ⟨hB, h4.2.1⟩, fun y hy z hz => ?_⟩
              rcases List.mem_cons.1 hz with rfl | hz
              · exact hA y hy
              · exact h4.2.2 y hy z hz
          have hat : L[j]? = some p := by
            rw [e, List.getElem?_append_right (by rw [List.length_take]; omega), List.length_take, show j - min j vs.length = 0 by omega]
            rfl
          have hfi := findI_at hparts hat
          refine ⟨j, ?_, hat, ?_, hparts, hlen⟩
          · unfold findR
            rw [if_pos hparts, hfi, if_neg (by omega)]
          · unfold dropR
            rw [if_pos hparts, hfi, if_neg (by omega), keepTo_filter, List.take_length]
            conv => lhs; rw [e]
            rw [filter_mid (fun y hy e => ltT_ne (hA y hy) e) rfl (fun y hy e => ltT_ne (hB y hy) e.symm), List.take_append_drop]
      · rw [if_neg hf] at h
        simp at h
    · rw [if_neg hq] at h
      simp at h
  · rw [if_neg hp] at h
    simp at h
theorem best_fold (vs : List PartT) : ∀ (L : List Int) (b : Int), (∀ n ∈ L, 0 ≤ n) → (∀ n ∈ L, priceAt vs (L.foldl (betterP vs) b) ≤ priceAt vs n) ∧ (0 ≤ b → priceAt vs (L.foldl (betterP vs) b) ≤ priceAt vs b)
  | [], b, _ => ⟨fun n h => absurd h (by simp), fun _ => Int.le_refl _⟩
  | m :: L, b, hL => by
    have hm := hL m List.mem_cons_self
    have ih := best_fold vs L (betterP vs b m) fun n hn => hL n (List.mem_cons_of_mem _ hn)
    rw [List.foldl_cons]
    have key : 0 ≤ betterP vs b m → priceAt vs (betterP vs b m) ≤ priceAt vs m ∧ (0 ≤ b → priceAt vs (betterP vs b m) ≤ priceAt vs b) := fun _ => by
      unfold betterP
      split
      · rename_i h
        exact ⟨Int.le_refl _, fun h0 => by rcases h with h | h <;> omega⟩
      · rename_i h
        exact ⟨by omega, fun _ => Int.le_refl _⟩
    have h0 : 0 ≤ betterP vs b m := by
      unfold betterP
      split
      · exact hm
      · omega
    obtain ⟨k1, k2⟩ := key h0
    have i2 := ih.2 h0
    refine ⟨fun n hn => ?_, fun hb => ?_⟩
    · rcases List.mem_cons.1 hn with rfl | hn
      · omega
      · exact ih.1 n hn
    · have := k2 hb
      omega
/-- The cheapest part of a slot. -/
theorem cheap_law {vs : List PartT} {slot c : Int} (h : cheapR vs slot = (c, 0)) : ∃ (n : Nat) (x : PartT), c = n ∧ vs[n]? = some x ∧ ∀ (i : Nat) (m : Int), (slotR vs slot).1[i]? = some m → ∃ (j : Nat) (y : PartT), m = j ∧ vs[j]? = some y ∧ x.price ≤ y.price ∧ y.slot = slot := by
  unfold cheapR at h
  unfold slotR
  by_cases hp : partsB vs = true
  · rw [if_pos hp] at h ⊢
    by_cases hi : inB slot 0 7 = true
    · rw [if_pos hi] at h ⊢
      rcases bestOf_cases vs slot vs.length with ⟨_, e⟩ | ⟨n, x, _, e, _, hx, _⟩
      · rw [e, if_pos (by omega)] at h
        simp at h
      · rw [e, if_neg (by omega)] at h
        refine ⟨n, x, (Prod.mk.inj h).1.symm, hx, fun i m hm => ?_⟩
        have hmem := List.mem_of_getElem? hm
        obtain ⟨j, y, rfl, _, hy, hs⟩ := idxTo_mem hmem
        refine ⟨j, y, rfl, hy, ?_, by simpa [inSlot] using hs⟩
        have := (best_fold vs (idxTo (inSlot slot) vs vs.length) (-1) (fun z hz => by
          obtain ⟨j', _, rfl, _⟩ := idxTo_mem hz
          omega)).1 _ hmem
        rw [show (idxTo (inSlot slot) vs vs.length).foldl (betterP vs) (-1) = (n : Int) from e, priceAt_eq hx, priceAt_eq hy] at this
        exact this
    · rw [if_neg hi] at h
      simp at h
  · rw [if_neg hp] at h
    simp at h
end Go.Proofs.Ytncjgebgghpigaa
