/- DERIVED. The best size that suits. -/
import Derived.Test.YtfdnpobppelhaaaWhich
namespace Go.Proofs.Ytfdnpobppelhaaa
set_option maxRecDepth 100000
open Go.RowKit

section
variable {α : Type} (p : α → Bool) (d : α → Int) (xs : List α)
/-- The program's choice among the first k: the index and its distance. -/
def bestI : Nat → Int × Int
  | 0 => (-1, 0)
  | k + 1 => match xs[k]? with
    | some x => if p x = true then (if (bestI k).1 < 0 ∨ d x < (bestI k).2 then ((k : Int), d x) else bestI k) else bestI k
    | none => bestI k
/-- The distance of the element with this index. -/
def dAt (n : Int) : Int := match xs[n.toNat]? with
  | some x => d x
  | none => 0
/-- The first of these indices that is nearest. -/
def nearestOf : List Int → Int
  | [] => -1
  | n :: l => l.foldl (fun b m => if dAt d xs m < dAt d xs b then m else b) n
variable {p d xs}
theorem nearestOf_snoc (l : List Int) (m : Int) : nearestOf d xs (l ++ [m]) = if l = [] then m else if dAt d xs m < dAt d xs (nearestOf d xs l) then m else nearestOf d xs l := by
  cases l with
  | nil => simp [nearestOf]
  | cons a l =>
    show List.foldl _ _ (l ++ [m]) = _
    rw [List.foldl_append, if_neg (by simp)]
    rfl
theorem fold_mem : ∀ (l : List Int) (n : Int), l.foldl (fun b m => if dAt d xs m < dAt d xs b then m else b) n = n ∨ l.foldl (fun b m => if dAt d xs m < dAt d xs b then m else b) n ∈ l
  | [], n => Or.inl rfl
  | m :: l, n => by
    rw [List.foldl_cons]
    rcases fold_mem l (if dAt d xs m < dAt d xs n then m else n) with h | h
    · rw [h]
      split
      · exact Or.inr (by simp)
      · exact Or.inl rfl
    · exact Or.inr (List.mem_cons_of_mem _ h)
theorem nearestOf_mem : ∀ {l : List Int}, l ≠ [] → nearestOf d xs l ∈ l
  | [], h => absurd rfl h
  | n :: l, _ => by
    show List.foldl _ _ l ∈ _
    rcases fold_mem (d := d) (xs := xs) l n with h | h
    · rw [h]; simp
    · exact List.mem_cons_of_mem _ h
/-- Both choices agree. -/
theorem best_same : ∀ k, k ≤ xs.length → (idxTo p xs k = [] ∧ bestI p d xs k = (-1, 0)) ∨ (idxTo p xs k ≠ [] ∧ bestI p d xs k = (nearestOf d xs (idxTo p xs k), dAt d xs (nearestOf d xs (idxTo p xs k))) ∧ 0 ≤ nearestOf d xs (idxTo p xs k))
  | 0, _ => Or.inl ⟨rfl, rfl⟩
  | k + 1, hk => by
    have ih := best_same k (by omega)
    have hx : xs[k]? = some xs[k] := List.getElem?_eq_getElem (by omega)
    generalize xs[k] = x at hx
    have hd : dAt d xs (k : Int) = d x := by simp [dAt, hx]
    by_cases hp : p x = true
    · right
      rw [idxTo_yes hx hp]
      have hb : bestI p d xs (k + 1) = (if (bestI p d xs k).1 < 0 ∨ d x < (bestI p d xs k).2 then ((k : Int), d x) else bestI p d xs k) := by simp [bestI, hx, hp]
      rw [hb, nearestOf_snoc]
      rcases ih with ⟨h1, h2⟩ | ⟨h1, h2, h3⟩
      · rw [if_pos h1, h2]
        simp [hd]
      · rw [if_neg h1, h2, hd]
        simp only
        by_cases hl : d x < dAt d xs (nearestOf d xs (idxTo p xs k))
        · rw [if_pos (Or.inr hl), if_pos hl]
          simp [hd]
        · rw [if_neg (by omega), if_neg hl]
          exact ⟨by simp, rfl, h3⟩
    · have hb : bestI p d xs (k + 1) = bestI p d xs k := by simp [bestI, hx, hp]
      rw [idxTo_no hx (by simpa using hp), hb]
      exact ih
end
theorem bestI_step {α : Type} {p : α → Bool} {d : α → Int} {xs : List α} {k : Nat} {x : α} (hx : xs[k]? = some x) : bestI p d xs (k + 1) = if p x = true then (if (bestI p d xs k).1 < 0 ∨ d x < (bestI p d xs k).2 then ((k : Int), d x) else bestI p d xs k) else bestI p d xs k := by
  by_cases hp : p x = true
  · simp [bestI, hx, hp]
  · simp [bestI, hx, hp]
def distT (i : Int) (t : ByteArray × Int × Int × Int) : Int := absI (t.2.1 + 200 - saddleN i)
def bestR (h i a : Int) (xs : List (ByteArray × Int × Int × Int)) : ByteArray × Int :=
  if riderB h i a = true ∧ sizesB xs = true then
    (match xs[(nearestOf (distT i) xs (idxTo (suitT h i a) xs xs.length)).toNat]? with
      | some t => if idxTo (suitT h i a) xs xs.length = [] then (⟨#[]⟩, 4) else (t.1, 0)
      | none => (⟨#[]⟩, 4))
  else (⟨#[]⟩, 1)

theorem bestR_no {h i a : Int} {xs : List (ByteArray × Int × Int × Int)} (hh : ¬ (riderB h i a = true ∧ sizesB xs = true)) : bestR h i a xs = (⟨#[]⟩, 1) := by unfold bestR; rw [if_neg hh]
theorem bestR_none {h i a : Int} {xs : List (ByteArray × Int × Int × Int)} (hh : riderB h i a = true ∧ sizesB xs = true) (he : idxTo (suitT h i a) xs xs.length = []) : bestR h i a xs = (⟨#[]⟩, 4) := by
  unfold bestR
  rw [if_pos hh]
  split
  · rw [if_pos he]
  · rfl
theorem bestR_some {h i a : Int} {xs : List (ByteArray × Int × Int × Int)} (hh : riderB h i a = true ∧ sizesB xs = true) (he : idxTo (suitT h i a) xs xs.length ≠ []) {j : Nat} {t : ByteArray × Int × Int × Int} (hj : nearestOf (distT i) xs (idxTo (suitT h i a) xs xs.length) = (j : Int)) (ht : xs[j]? = some t) : bestR h i a xs = (t.1, 0) := by
  unfold bestR
  rw [if_pos hh, hj]
  simp [ht, he]
/-- What the program has when it is through. -/
theorem best_end {h i a : Int} {xs : List (ByteArray × Int × Int × Int)} (hh : riderB h i a = true ∧ sizesB xs = true) : ((bestI (suitT h i a) (distT i) xs xs.length).1 = -1 ∧ bestR h i a xs = (⟨#[]⟩, 4)) ∨ ∃ (j : Nat) (t : ByteArray × Int × Int × Int), (bestI (suitT h i a) (distT i) xs xs.length).1 = (j : Int) ∧ xs[j]? = some t ∧ bestR h i a xs = (t.1, 0) := by
  rcases best_same (p := suitT h i a) (d := distT i) (xs := xs) xs.length (Nat.le_refl _) with ⟨h1, h2⟩ | ⟨h1, h2, h3⟩
  · exact Or.inl ⟨by rw [h2], bestR_none hh h1⟩
  · obtain ⟨j, t, e, hj, ht, _⟩ := idxTo_mem (nearestOf_mem (d := distT i) (xs := xs) h1)
    exact Or.inr ⟨j, t, by rw [h2]; exact e, ht, bestR_some hh h1 e ht⟩

set_option maxHeartbeats 2000000 in
theorem BestSize_impl (h i0 a : Int) (A : Option Addr) (c : Nat) (xs : List (ByteArray × Int × Int × Int)) (w : World) (hr : Rd w w.heap.size 4 sizeC A xs) (hm : xs.length ≤ 1048576) (hc : xs.length ≤ c) (hg : ∀ x ∈ xs, x.1.size ≤ maxLen) :
    Calls Try.prog 51 #[.agg #[.int .i64 h, .int .i64 i0, .int .i64 a], .slice A xs.length c] w fun e w' => e = .returned (.tuple #[.string (bestR h i0 a xs).1, .int .i64 (bestR h i0 a xs).2]) ∧ Below w.heap.size w w' := by
  have hI := isRider_impl h i0 a
  have hJ : Hid (∀ v : World, Rd v v.heap.size 4 sizeC A xs → Calls Try.prog 19 #[.slice A xs.length c] v fun e w' => e = .returned (.bool (sizesB xs)) ∧ Below v.heap.size v w') := fun v hv => areSizes_impl A c xs v hv hm hc hg
  have Hg := Lib.hid hg; clear hg
  by_cases r : riderB h i0 a = true
  · by_cases hs : sizesB xs = true
    · have HE := Lib.hid (best_end ⟨r, hs⟩)
      rw [r] at hI
      rw [hs] at hJ
      have HI := Lib.hid hI; clear hI
      have Hr := Lib.hid r; clear r
      have Hs := Lib.hid hs; clear hs
      generalize bestR h i0 a xs = res at HE ⊢
      go_enter Try.func51, Try.ntmps51
      go_wp2_with fail
      have c0 : (w.alloc (.cells #[.int .i64 h, .int .i64 i0, .int .i64 a] 25)).cell? ⟨w.heap.size, 0, none⟩ = some (.int .i64 h) := by go_simp
      have c1 : (w.alloc (.cells #[.int .i64 h, .int .i64 i0, .int .i64 a] 25)).cell? ⟨w.heap.size, 1, none⟩ = some (.int .i64 i0) := by go_simp
      have c2 : (w.alloc (.cells #[.int .i64 h, .int .i64 i0, .int .i64 a] 25)).cell? ⟨w.heap.size, 2, none⟩ = some (.int .i64 a) := by go_simp
      have hbw := balloc w (.cells #[.int .i64 h, .int .i64 i0, .int .i64 a] 25)
      generalize w.alloc (.cells #[.int .i64 h, .int .i64 i0, .int .i64 a] 25) = W at c0 c1 c2 hbw ⊢
      generalize hg0 : w.heap.size = g0 at c0 c1 c2 ⊢
      refine (HI.out _).mono ?_
      rintro e w1 ⟨rfl, hb1⟩
      go_wp2_with fail
      refine (hJ.out w1 ((hr.below (bthen hbw hb1)).more (bthen hbw hb1).size)).mono ?_
      rintro e w2 ⟨rfl, hb2⟩
      have hb12 := bthen hb1 hb2
      clear hb1 hb2
      go_wp2_with fail
      go_loopw [6, 7, 21] (fun best least i wr => ∃ k : Nat, k ≤ xs.length ∧ i = .int .i64 k ∧ best = .int .i64 (bestI (suitT h i0 a) (distT i0) xs k).1 ∧ least = .int .i64 (bestI (suitT h i0 a) (distT i0) xs k).2 ∧ Below W.heap.size W wr) (fun _ _ i _ => xs.length - (intOf i).toNat)
      case atStart => exact ⟨0, Nat.zero_le _, rfl, rfl, rfl, hb12⟩
      case round =>
        obtain ⟨k, hk, rfl, rfl, rfl, hb⟩ := hrel
        by_cases hlt : k < xs.length
        · have hx : xs[k]? = some xs[k] := List.getElem?_eq_getElem hlt
          obtain ⟨b, o, rfl, hB, h0, h1, h2, h3⟩ := (hr.below (bthen hbw hb)).at4 hx rfl
          generalize xs[k] = t at h0 h1 h2 h3 hx
          have hk0 := okSize_true (sizesB_ok Hs.out hx)
          have Hc : Hid (∀ v : World, Calls Try.prog 61 #[.agg #[.int .i64 h, .int .i64 i0, .int .i64 a], .agg #[.string t.1, .int .i64 t.2.1, .int .i64 t.2.2.1, .int .i64 t.2.2.2]] v fun e w' => e = .returned (.bool (suitT h i0 a t)) ∧ Below v.heap.size v w') := fun v => doesSuit_any h i0 a Hr.out t.1 t.2.1 t.2.2.1 t.2.2.2 (sizesB_ok Hs.out hx) v
          have hsd := saddleN_bd Hr.out
          have HD : Hid (bestI (suitT h i0 a) (distT i0) xs (k + 1) = if suitT h i0 a t = true then (if (bestI (suitT h i0 a) (distT i0) xs k).1 < 0 ∨ absI (t.2.1 + 200 - saddleN i0) < (bestI (suitT h i0 a) (distT i0) xs k).2 then ((k : Int), absI (t.2.1 + 200 - saddleN i0)) else bestI (suitT h i0 a) (distT i0) xs k) else bestI (suitT h i0 a) (distT i0) xs k) := bestI_step hx
          clear hx
          generalize (bestI (suitT h i0 a) (distT i0) xs k) = cur at HD ⊢
          obtain ⟨cb, cl⟩ := cur
          generalize suitT h i0 a t = st at HD Hc
          have e0 : wr.cell? ⟨g0, 0, none⟩ = some (.int .i64 h) := (hb.cell (p := ⟨g0, 0, none⟩) (World.block_lt_of_cell? W _ c0)).trans c0
          have e1 : wr.cell? ⟨g0, 1, none⟩ = some (.int .i64 i0) := (hb.cell (p := ⟨g0, 1, none⟩) (World.block_lt_of_cell? W _ c1)).trans c1
          have e2 : wr.cell? ⟨g0, 2, none⟩ = some (.int .i64 a) := (hb.cell (p := ⟨g0, 2, none⟩) (World.block_lt_of_cell? W _ c2)).trans c2
          have hgw : g0 < wr.heap.size := World.block_lt_of_cell? wr _ e0
          go_wp2_with fail
          refine (Hc.out _).mono ?_
          rintro e w3 ⟨rfl, hb3⟩
          obtain ⟨hcc, hff⟩ := bcell hb3
          have f0 : w3.cell? ⟨g0, 0, none⟩ = some (.int .i64 h) := by go_simp
          have f1 : w3.cell? ⟨g0, 1, none⟩ = some (.int .i64 i0) := by go_simp
          have f2 : w3.cell? ⟨g0, 2, none⟩ = some (.int .i64 a) := by go_simp
          have f3 : w3.cell? ⟨wr.heap.size, 1, none⟩ = some (.int .i64 t.2.1) := by go_simp
          have hbb := bthen (bthen hb (balloc _ _)) hb3
          clear hcc hff hb3 h0 h1 h2 h3 e0 e1 e2 hb
          generalize wr.heap.size = gx at f3 ⊢
          cases st
          case false =>
            go_wp2_with fail
            exact ⟨⟨k + 1, by omega, by go_num, by rw [HD.out]; rfl, by rw [HD.out]; rfl, hbb⟩, by simp [intOf]; omega⟩
          case true =>
            go_wp2_with fail
            have d0 : ∀ v : Later w3, v.w.cell? ⟨g0, 0, none⟩ = some (.int .i64 h) := Later.cell f0
            have d1 : ∀ v : Later w3, v.w.cell? ⟨g0, 1, none⟩ = some (.int .i64 i0) := Later.cell f1
            have d2 : ∀ v : Later w3, v.w.cell? ⟨g0, 2, none⟩ = some (.int .i64 a) := Later.cell f2
            have d3 : ∀ v : Later w3, v.w.cell? ⟨gx, 1, none⟩ = some (.int .i64 t.2.1) := Later.cell f3
            refine wp_region_later (by kernel_rfl) (by kernel_rfl) ?_
            repeat (go_big_quiet_step ((first | (go_at_call 67; exact Later.call (saddle_impl _ _ _ Hr.out _)) | (go_at_call 96; exact Later.call_same (abs_any _ (by omega) (by omega) _)))))
            refine wpQuiet_nil ?_
            rintro w4 ⟨⟨_, hb4⟩, rfl⟩
            clear d0 d1 d2 d3 f0 f1 f2 f3
            generalize absI (t.2.1 + 200 - saddleN i0) = da at HD ⊢
            have hbb4 := bthen hbb hb4
            by_cases hn0 : cb < 0
            · go_wp2_with fail
              exact ⟨⟨k + 1, by omega, by go_num, by rw [HD.out, if_pos trivial, if_pos (Or.inl hn0)], by rw [HD.out, if_pos trivial, if_pos (Or.inl hn0)], hbb4⟩, by simp [intOf]; omega⟩
            · by_cases hl2 : da < cl
              all_goals go_wp2_with fail
              · exact ⟨⟨k + 1, by omega, by go_num, by rw [HD.out, if_pos trivial, if_pos (Or.inr hl2)], by rw [HD.out, if_pos trivial, if_pos (Or.inr hl2)], hbb4⟩, by simp [intOf]; omega⟩
              · exact ⟨⟨k + 1, by omega, by go_num, by rw [HD.out, if_pos trivial, if_neg (by omega)], by rw [HD.out, if_pos trivial, if_neg (by omega)], hbb4⟩, by simp [intOf]; omega⟩
        · obtain rfl : k = xs.length := by omega
          rcases HE.out with ⟨e1, e2⟩ | ⟨j, t, e1, e2, e3⟩
          · rw [e1]
            have E2 := Lib.hid e2; clear e2 e1
            clear HE
            go_wp2_with fail
            go_ret2
            exact ⟨(by rw [E2.out]; first | done | rfl), bthen hbw hb⟩
          · rw [e1]
            have E3 := Lib.hid e3; clear e3 e1
            clear HE
            obtain ⟨b, o, rfl, hB, h0, h1, h2, h3⟩ := (hr.below (bthen hbw hb)).at4 e2 rfl
            have hj := (List.getElem?_eq_some_iff.1 e2).1
            clear e2
            go_wp2_with fail
            go_ret2
            exact ⟨(by rw [E3.out]; first | done | rfl), bthen hbw hb⟩
    · have HF := Lib.hid (bestR_no (fun hh => hs hh.2) : bestR h i0 a xs = _)
      generalize bestR h i0 a xs = res at HF ⊢
      rw [r] at hI
      rw [eq_false_of_ne_true hs] at hJ
      have HI := Lib.hid hI; clear hI
      clear r hs
      go_enter Try.func51, Try.ntmps51
      go_wp2_with fail
      refine (HI.out _).mono ?_
      rintro e w1 ⟨rfl, hb1⟩
      go_wp2_with fail
      refine (hJ.out w1 ((hr.below (bthen (balloc _ _) hb1)).more (bthen (balloc _ _) hb1).size)).mono ?_
      rintro e w2 ⟨rfl, hb2⟩
      go_wp2_with fail
      go_ret2
      exact ⟨(by rw [HF.out]; first | done | rfl), bthen (balloc _ _) (bthen hb1 hb2)⟩
  · have HF := Lib.hid (bestR_no (fun hh => r hh.1) : bestR h i0 a xs = _)
    generalize bestR h i0 a xs = res at HF ⊢
    rw [eq_false_of_ne_true r] at hI
    have HI := Lib.hid hI; clear hI
    clear r
    go_enter Try.func51, Try.ntmps51
    go_wp2_with fail
    refine (HI.out _).mono ?_
    rintro e w1 ⟨rfl, hb1⟩
    go_wp2_with fail
    go_ret2
    exact ⟨(by rw [HF.out]; first | done | rfl), bthen (balloc _ _) hb1⟩

section
variable {α : Type} {d : α → Int} {xs : List α}
/-- The reference's choice when it has looked at k of the indices. -/
def pick (d : α → Int) (xs : List α) (l : List Int) : Nat → Int
  | 0 => l.getD 0 (-1)
  | k + 1 => match l[k]? with
    | some m => if dAt d xs m < dAt d xs (pick d xs l k) then m else pick d xs l k
    | none => pick d xs l k
theorem pick_mem {l : List Int} (h : l ≠ []) : ∀ k, pick d xs l k ∈ l
  | 0 => by
    cases l with
    | nil => exact absurd rfl h
    | cons n l => simp [pick]
  | k + 1 => by
    have ih := pick_mem h k
    unfold pick
    split
    · rename_i m hm
      split
      · exact List.mem_of_getElem? hm
      · exact ih
    · exact ih
theorem pick_step {l : List Int} {k : Nat} {m : Int} (hm : l[k]? = some m) : pick d xs l (k + 1) = if dAt d xs m < dAt d xs (pick d xs l k) then m else pick d xs l k := by
  simp [pick, hm]
theorem pick_fold (n : Int) (l : List Int) : ∀ k, k ≤ l.length → pick d xs (n :: l) (k + 1) = (l.take k).foldl (fun b m => if dAt d xs m < dAt d xs b then m else b) n
  | 0, _ => by simp [pick]
  | k + 1, hk => by
    have hm : (n :: l)[k + 1]? = some l[k] := by
      rw [List.getElem?_cons_succ]
      exact List.getElem?_eq_getElem (by omega)
    rw [pick_step hm, pick_fold n l k (by omega), List.take_succ_eq_append_getElem (by omega), List.foldl_append]
    rfl
theorem pick_end {l : List Int} (h : l ≠ []) : pick d xs l l.length = nearestOf d xs l := by
  cases l with
  | nil => exact absurd rfl h
  | cons n l =>
    rw [List.length_cons, pick_fold n l l.length (Nat.le_refl _), List.take_length]
    rfl
end

set_option maxHeartbeats 2000000 in
theorem BestSize_spec (h i0 a : Int) (A : Option Addr) (c : Nat) (xs : List (ByteArray × Int × Int × Int)) (w : World) (hr : Rd w w.heap.size 4 sizeC A xs) (hm : xs.length ≤ 1048576) (hg : ∀ x ∈ xs, x.1.size ≤ maxLen) :
    Calls Try.prog 52 #[.agg #[.int .i64 h, .int .i64 i0, .int .i64 a], .slice A xs.length c] w fun e w' => e = .returned (.tuple #[.string (bestR h i0 a xs).1, .int .i64 (bestR h i0 a xs).2]) ∧ Below w.heap.size w w' := by
  have hI := isRider_spec h i0 a
  have hJ : Hid (∀ v : World, Rd v v.heap.size 4 sizeC A xs → Calls Try.prog 20 #[.slice A xs.length c] v fun e w' => e = .returned (.bool (sizesB xs)) ∧ Below v.heap.size v w') := fun v hv => areSizes_spec A c xs v hv hm hg
  have Hg := Lib.hid hg; clear hg
  by_cases r : riderB h i0 a = true
  · by_cases hs : sizesB xs = true
    · have HN := Lib.hid (fun he => bestR_none ⟨r, hs⟩ he : idxTo (suitT h i0 a) xs xs.length = [] → _)
      have HS := Lib.hid (fun he j t hj ht => bestR_some (j := j) (t := t) ⟨r, hs⟩ he hj ht : idxTo (suitT h i0 a) xs xs.length ≠ [] → _)
      have HM := Lib.hid (fun n hn => idxTo_mem (p := suitT h i0 a) (xs := xs) (k := xs.length) (n := n) hn)
      have hle := idxTo_le (suitT h i0 a) xs xs.length
      have HW : Hid (∀ v : World, Rd v v.heap.size 4 sizeC A xs → Calls Try.prog 97 #[.agg #[.int .i64 h, .int .i64 i0, .int .i64 a], .slice A xs.length c] v (GivesOwn v 2 1 iC (idxTo (suitT h i0 a) xs xs.length))) := fun v hv => l19Which_any h i0 a r A c xs v hv hm hs
      rw [r] at hI
      rw [hs] at hJ
      have HI := Lib.hid hI; clear hI
      have Hr := Lib.hid r; clear r
      have Hs := Lib.hid hs; clear hs
      generalize bestR h i0 a xs = res at HN HS ⊢
      generalize idxTo (suitT h i0 a) xs xs.length = L at HN HS HM HW hle
      go_enter Try.func52, Try.ntmps52
      go_wp2_with fail
      have c0 : (w.alloc (.cells #[.int .i64 h, .int .i64 i0, .int .i64 a] 25)).cell? ⟨w.heap.size, 0, none⟩ = some (.int .i64 h) := by go_simp
      have c1 : (w.alloc (.cells #[.int .i64 h, .int .i64 i0, .int .i64 a] 25)).cell? ⟨w.heap.size, 1, none⟩ = some (.int .i64 i0) := by go_simp
      have c2 : (w.alloc (.cells #[.int .i64 h, .int .i64 i0, .int .i64 a] 25)).cell? ⟨w.heap.size, 2, none⟩ = some (.int .i64 a) := by go_simp
      have hbw := balloc w (.cells #[.int .i64 h, .int .i64 i0, .int .i64 a] 25)
      generalize w.alloc (.cells #[.int .i64 h, .int .i64 i0, .int .i64 a] 25) = W at c0 c1 c2 hbw ⊢
      generalize hg0 : w.heap.size = g0 at c0 c1 c2 ⊢
      refine (HI.out _).mono ?_
      rintro e w1 ⟨rfl, hb1⟩
      go_wp2_with fail
      refine (hJ.out w1 ((hr.below (bthen hbw hb1)).more (bthen hbw hb1).size)).mono ?_
      rintro e w2 ⟨rfl, hb2⟩
      have hb12 := bthen hb1 hb2
      clear hb1 hb2
      have e0 : w2.cell? ⟨g0, 0, none⟩ = some (.int .i64 h) := (hb12.cell (p := ⟨g0, 0, none⟩) (World.block_lt_of_cell? W _ c0)).trans c0
      have e1 : w2.cell? ⟨g0, 1, none⟩ = some (.int .i64 i0) := (hb12.cell (p := ⟨g0, 1, none⟩) (World.block_lt_of_cell? W _ c1)).trans c1
      have e2 : w2.cell? ⟨g0, 2, none⟩ = some (.int .i64 a) := (hb12.cell (p := ⟨g0, 2, none⟩) (World.block_lt_of_cell? W _ c2)).trans c2
      go_wp2_with fail
      refine (HW.out w2 ((hr.below (bthen hbw hb12)).more (bthen hbw hb12).size)).mono ?_
      rintro e w3 ⟨A3, c3, rfl, hf3, hc3, hb3⟩
      have hr3 := Lib.hid hf3.rd; clear hf3
      have hb13 := bthen hb12 hb3
      clear e0 e1 e2
      by_cases hL : L = []
      · have HF := Lib.hid (HN.out hL)
        have HL := Lib.hid hL
        have hl0 : L.length = 0 := by rw [hL]; rfl
        clear HN HS hL
        go_wp2_with fail
        go_ret2
        exact ⟨(by rw [HF.out]; first | done | rfl), bthen hbw hb13⟩
      have hl0 : 0 < L.length := List.length_pos_iff.2 hL
      have HL := Lib.hid hL; clear hL
      obtain ⟨gb, go, e, hgB, h00⟩ := hr3.out.at1 (List.getElem?_eq_getElem hl0) rfl
      subst e
      simp only [Nat.zero_mul, Nat.add_zero] at h00
      have hp0 : L[0] = pick (distT i0) xs L 0 := by simp [pick, List.getElem?_eq_getElem hl0]
      rw [hp0] at h00
      go_wp2_with fail
      go_loopw [7, 8] (fun best i wr => ∃ k : Nat, k ≤ L.length ∧ i = .int .i64 k ∧ best = .int .i64 (pick (distT i0) xs L k) ∧ Below w3.heap.size w3 wr) (fun _ i _ => L.length - (intOf i).toNat)
      case atStart => exact ⟨0, Nat.zero_le _, rfl, rfl, Below.refl _ _⟩
      case round =>
        obtain ⟨k, hk, rfl, rfl, hb⟩ := hrel
        have hbW := bthen hb13 hb
        by_cases hlt : k < L.length
        · have hm1 : L[k]? = some L[k] := List.getElem?_eq_getElem hlt
          obtain ⟨gb2, go2, e, hgB2, h10⟩ := ((hr3.out.below hb)).at1 hm1 rfl
          simp only [Option.some.injEq, Addr.mk.injEq] at e
          obtain ⟨rfl, rfl, _⟩ := e
          rw [Nat.mul_one] at h10
          have HD := Lib.hid (pick_step (d := distT i0) (xs := xs) hm1)
          obtain ⟨j1, t1, ej1, hj1, ht1, _⟩ := HM.out _ (List.mem_of_getElem? hm1)
          obtain ⟨j2, t2, ej2, hj2, ht2, _⟩ := HM.out _ (pick_mem (d := distT i0) (xs := xs) HL.out k)
          have ed1 : dAt (distT i0) xs L[k] = absI (t1.2.1 + 200 - saddleN i0) := by rw [ej1]; simp [dAt, ht1, distT]
          have ed2 : dAt (distT i0) xs (pick (distT i0) xs L k) = absI (t2.2.1 + 200 - saddleN i0) := by rw [ej2]; simp [dAt, ht2, distT]
          rw [ed1, ed2] at HD
          rw [ej1] at h10
          generalize hLk : L[k] = nk at HD ej1
          clear hLk hm1 ed1 ed2
          rw [ej1] at HD
          clear ej1
          rw [ej2] at HD ⊢
          clear ej2
          obtain ⟨b, o, rfl, hB, h0, h1, h2, h3⟩ := (hr.below (bthen hbw hbW)).at4 ht1 rfl
          obtain ⟨b', o', e', hB', i0', i1, i2, i3⟩ := (hr.below (bthen hbw hbW)).at4 ht2 rfl
          simp only [Option.some.injEq, Addr.mk.injEq] at e'
          obtain ⟨rfl, rfl, _⟩ := e'
          have hk1 := okSize_true (sizesB_ok Hs.out ht1)
          have hk2 := okSize_true (sizesB_ok Hs.out ht2)
          have hsd := saddleN_bd Hr.out
          clear ht1 ht2
          have e0 : wr.cell? ⟨g0, 0, none⟩ = some (.int .i64 h) := (hbW.cell (p := ⟨g0, 0, none⟩) (World.block_lt_of_cell? W _ c0)).trans c0
          have e1 : wr.cell? ⟨g0, 1, none⟩ = some (.int .i64 i0) := (hbW.cell (p := ⟨g0, 1, none⟩) (World.block_lt_of_cell? W _ c1)).trans c1
          have e2 : wr.cell? ⟨g0, 2, none⟩ = some (.int .i64 a) := (hbW.cell (p := ⟨g0, 2, none⟩) (World.block_lt_of_cell? W _ c2)).trans c2
          clear h0 h2 h3 i0' i2 i3
          go_wp2_with fail
          have d0 : ∀ v : Later wr, v.w.cell? ⟨g0, 0, none⟩ = some (.int .i64 h) := Later.cell e0
          have d1 : ∀ v : Later wr, v.w.cell? ⟨g0, 1, none⟩ = some (.int .i64 i0) := Later.cell e1
          have d2 : ∀ v : Later wr, v.w.cell? ⟨g0, 2, none⟩ = some (.int .i64 a) := Later.cell e2
          have d3 : ∀ v : Later wr, v.w.cell? ⟨gb, go + k, none⟩ = some (.int .i64 j1) := Later.cell h10
          have d4 : ∀ v : Later wr, v.w.cell? ⟨b, o + j1 * 4 + 1, none⟩ = some (.int .i64 t1.2.1) := Later.cell h1
          have d5 : ∀ v : Later wr, v.w.cell? ⟨b, o + j2 * 4 + 1, none⟩ = some (.int .i64 t2.2.1) := Later.cell i1
          refine wp_region_later (by kernel_rfl) (by kernel_rfl) ?_
          repeat (go_big_quiet_step ((first | (go_at_call 68; exact Later.call (saddle_spec _ _ _ Hr.out _)) | (go_at_call 98; exact Later.call_same (l01Abs_any _ (by omega) (by omega) _)))))
          refine wpQuiet_nil ?_
          rintro w4 ⟨⟨_, hb4⟩, rfl⟩
          clear d0 d1 d2 d3 d4 d5 e0 e1 e2
          generalize absI (t1.2.1 + 200 - saddleN i0) = da at HD ⊢
          generalize absI (t2.2.1 + 200 - saddleN i0) = db at HD ⊢
          have hbb4 := bthen hb hb4
          have h20 : w4.cell? ⟨gb, go + k, none⟩ = some (.int .i64 j1) := (hb4.cell (p := ⟨gb, go + k, none⟩) (World.block_lt_of_cell? wr _ h10)).trans h10
          by_cases hl2 : da < db
          all_goals go_wp2_with fail
          · exact ⟨⟨k + 1, by omega, by go_num, by rw [HD.out, if_pos hl2], hbb4⟩, by simp [intOf]; omega⟩
          · exact ⟨⟨k + 1, by omega, by go_num, by rw [HD.out, if_neg (by omega)], hbb4⟩, by simp [intOf]; omega⟩
        · obtain rfl : k = L.length := by omega
          obtain ⟨j, t, ej, hj, ht, _⟩ := HM.out _ (pick_mem (d := distT i0) (xs := xs) HL.out L.length)
          have E3 := Lib.hid (HS.out HL.out j t (by rw [← pick_end HL.out]; exact ej) ht)
          rw [ej]
          clear ej HS HN
          obtain ⟨b, o, rfl, hB, h0, h1, h2, h3⟩ := (hr.below (bthen hbw hbW)).at4 ht rfl
          clear ht
          go_wp2_with fail
          go_ret2
          exact ⟨(by rw [E3.out]; first | done | rfl), bthen hbw hbW⟩
    · have HF := Lib.hid (bestR_no (fun hh => hs hh.2) : bestR h i0 a xs = _)
      generalize bestR h i0 a xs = res at HF ⊢
      rw [r] at hI
      rw [eq_false_of_ne_true hs] at hJ
      have HI := Lib.hid hI; clear hI
      clear r hs
      go_enter Try.func52, Try.ntmps52
      go_wp2_with fail
      refine (HI.out _).mono ?_
      rintro e w1 ⟨rfl, hb1⟩
      go_wp2_with fail
      refine (hJ.out w1 ((hr.below (bthen (balloc _ _) hb1)).more (bthen (balloc _ _) hb1).size)).mono ?_
      rintro e w2 ⟨rfl, hb2⟩
      go_wp2_with fail
      go_ret2
      exact ⟨(by rw [HF.out]; first | done | rfl), bthen (balloc _ _) (bthen hb1 hb2)⟩
  · have HF := Lib.hid (bestR_no (fun hh => r hh.1) : bestR h i0 a xs = _)
    generalize bestR h i0 a xs = res at HF ⊢
    rw [eq_false_of_ne_true r] at hI
    have HI := Lib.hid hI; clear hI
    clear r
    go_enter Try.func52, Try.ntmps52
    go_wp2_with fail
    refine (HI.out _).mono ?_
    rintro e w1 ⟨rfl, hb1⟩
    go_wp2_with fail
    go_ret2
    exact ⟨(by rw [HF.out]; first | done | rfl), bthen (balloc _ _) hb1⟩

end Go.Proofs.Ytfdnpobppelhaaa
