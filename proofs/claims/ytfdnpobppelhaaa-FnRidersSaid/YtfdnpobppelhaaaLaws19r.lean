/- DERIVED. The law on riders: the stem for a size leaves little, and a size suits only if there is one. By program (glawr.py). -/
import Derived.Test.YtfdnpobppelhaaaStem
import Derived.Test.YtfdnpobppelhaaaRiderLaws
import Derived.Test.YtfdnpobppelhaaaDrawS
import Derived.Deep.RegionLaw
import Derived.Test.YtfdnpobppelhaaaDLaw
import Derived.Test.YtfdnpobppelhaaaHead
import Derived.Lib.SmallJoins
import Derived.Deep.Slices
import Derived.Deep.Fields
import Derived.ChangeMaps5
import Derived.Carry
namespace Go.Proofs.Ytfdnpobppelhaaa
set_option maxRecDepth 100000
open Go.RowKit Go.ChangeShapes Go.WideShapes Go.ChangeAt Go.Joins Go.Deep

theorem stemI_good (y r : Int) : ∀ k : Nat, k ≤ 8 → ((stemI y r k).1 = 0 ∧ (stemI y r k).2 = 6) ∨ ((stemI y r k).1.tmod 10 = 0 ∧ 60 ≤ (stemI y r k).1 ∧ (stemI y r k).1 ≤ 130 ∧ (stemI y r k).2 ≤ 5 ∧ (stemI y r k).2 = absI (y + (stemI y r k).1 - r - 100))
  | 0, _ => Or.inl ⟨rfl, rfl⟩
  | k + 1, hk => by
    have ih := stemI_good y r k (by omega)
    simp only [stemI]
    by_cases hd : absI (y + (60 + 10 * (k : Int)) - r - 100) < (stemI y r k).2
    · rw [if_pos hd]
      refine Or.inr ⟨?_, by simp only; omega, by simp only; omega, ?_, rfl⟩
      · have e : (60 + 10 * (k : Int)) = 10 * (6 + (k : Int)) := by omega
        simp only
        rw [e]
        exact Int.mul_tmod_right 10 (6 + (k : Int))
      · simp only
        rcases ih with h | h <;> omega
    · rw [if_neg hd]
      exact ih
structure RiderLaw (h i a x y : Int) (S : Bool × Int) (L H W : Int × Int) : Prop where
  rb : riderB h i a = decide (H.2 = 0)
  suit : S.2 = 0 → S.1 = (decide (L.2 = 0) && (decide (x + 60 ≤ H.1) && decide (H.1 ≤ x + 350)))
  bds : S.2 = 0 → 300 ≤ x ∧ x ≤ 700 ∧ 250 ≤ y ∧ y ≤ 700 ∧ -100 ≤ W.1 ∧ W.1 ≤ 2000
  stem : S.2 = 0 → L.2 = 0 → L.1.tmod 10 = 0 ∧ 60 ≤ L.1 ∧ L.1 ≤ 130 ∧ y + L.1 - W.1 - 100 ≤ 5 ∧ -5 ≤ y + L.1 - W.1 - 100
theorem rider_law (h i a x y z : Int) (n : ByteArray) : RiderLaw h i a x y (suitR h i a (n, x, y, z)) (stemR h i a (n, x, y, z)) (saddleR h i a) (wantedR h i a) := by
  by_cases hr : riderB h i a = true
  · have eH : saddleR h i a = (saddleN i, 0) := by unfold saddleR; rw [if_pos hr]
    have eW : wantedR h i a = (reachN h i a, 0) := by unfold wantedR; rw [if_pos hr]
    by_cases hs : okSize (n, x, y, z) = true
    · have eS : suitR h i a (n, x, y, z) = (suitB h i a x y, 0) := by unfold suitR; rw [if_pos ⟨hr, hs⟩]
      have eL : stemR h i a (n, x, y, z) = if stemOf h i a y = 0 then (0, 4) else (stemOf h i a y, 0) := by unfold stemR; rw [if_pos ⟨hr, hs⟩]
      have hb := okSize_true hs
      have hw := reachN_bd hr
      simp only at hb
      rw [eS, eL, eH, eW]
      refine ⟨by rw [hr]; rfl, fun _ => ?_, fun _ => ⟨hb.1, hb.2.1, hb.2.2.1, hb.2.2.2, hw.1, hw.2⟩, fun _ h0 => ?_⟩
      · have hst := stem_spec h i a y
        unfold suitB inB
        simp only
        by_cases h0 : stemOf h i a y = 0
        · rw [if_pos h0, h0]
          simp
        · rw [if_neg h0]
          have hp : 0 < stemOf h i a y := by rcases hst with h1 | h1 <;> omega
          simp [hp]
      · by_cases h1 : stemOf h i a y = 0
        · rw [if_pos h1] at h0
          simp at h0
        · rw [if_neg h1]
          simp only
          rcases stemI_good y (reachN h i a) 8 (Nat.le_refl _) with ⟨h2, _⟩ | ⟨h2, h3, h4, h5, h6⟩
          · exact absurd h2 h1
          · unfold stemOf
            rw [h6] at h5
            have h7 : (stemI y (reachN h i a) 8).1 = (stemI y (reachN h i a) 8).1 := rfl
            generalize (stemI y (reachN h i a) 8).1 = l at *
            unfold absI at h5
            refine ⟨h2, h3, h4, ?_, ?_⟩ <;> (split at h5 <;> omega)
    · have eS : suitR h i a (n, x, y, z) = (false, 1) := by unfold suitR; rw [if_neg (fun h => hs h.2)]
      rw [eS, eH]
      exact ⟨by rw [hr]; rfl, fun h => by simp at h, fun h => by simp at h, fun h => by simp at h⟩
  · have eH : saddleR h i a = (0, 1) := by unfold saddleR; rw [if_neg hr]
    have eS : suitR h i a (n, x, y, z) = (false, 1) := by unfold suitR; rw [if_neg (fun h => hr h.1)]
    have hr' : riderB h i a = false := by simpa using hr
    rw [eS, eH]
    exact ⟨by rw [hr']; rfl, fun h => by simp at h, fun h => by simp at h, fun h => by simp at h⟩
theorem blk_size {w : World} {g : Nat} {n : ByteArray} {x y z : Int} (h : Blk w g 27 [.string n, .int .i64 x, .int .i64 y, .int .i64 z]) : Rd w w.heap.size 4 sizeC (some ⟨g, 0, none⟩) [(n, x, y, z)] := fun _ => by
  refine ⟨g, 0, rfl, h.lt, fun k t hk j v hj => ?_⟩
  match k with
  | 0 =>
    obtain rfl : (n, x, y, z) = t := by simpa using hk
    have := h.cell (j := j) (v := v) hj
    simpa using this
  | k + 1 => simp at hk

set_option linter.unusedSimpArgs false in
set_option maxHeartbeats 40000000 in
theorem law_FnRiders (A : Option Addr) (c : Nat) (xs : List Int) (w : World) (hr : Rd w w.heap.size 1 uC A xs) (hx : ∀ x ∈ xs, 0 ≤ x ∧ x < 256) (hm : xs.length ≤ maxLen) :
    Calls Try.prog 3 #[.slice A xs.length c] w fun e w' => e = .returned (.bool true) ∧ Below w.heap.size w w' := by
  unfold maxLen at hm
  by_cases hbig : (4096 : Int) < xs.length
  · go_enter Try.func3, Try.ntmps3
    go_wp2_with (go_at_call 8; refine (big_k A c xs.length _).mono ?_; rintro e w' ⟨rfl, rfl⟩)
    go_ret
    exact ⟨rfl, Below.refl _ _⟩
  have HBig : Hid (∀ v : World, Calls Try.prog 8 #[.slice A xs.length c] v fun e w' => e = .returned (.bool false) ∧ v = w') := fun v => (big_k A c xs.length v).mono (by rintro e w' ⟨rfl, rfl⟩; exact ⟨by simp only [hbig, decide_false], rfl⟩)
  have HD := Lib.hid (DrawDoesSuit_any A c xs w hr hx (by omega))
  clear hr hx hbig
  go_enter Try.func3, Try.ntmps3
  go_wp2_with (go_at_call 8; refine (HBig.out _).mono ?_; rintro e w' ⟨rfl, rfl⟩)
  refine HD.out.mono ?_
  rintro e w1 ⟨h, i, a, x, y, z, rfl, hx0, hx1, hy0, hy1, hb1⟩
  have hn : ((⟨#[109]⟩ : ByteArray)).size ≤ maxLen := by decide
  have HSI : Hid (∀ v : World, Calls Try.prog 10 #[.agg #[.int .i64 h, .int .i64 i, .int .i64 a], .agg #[.string ⟨#[109]⟩, .int .i64 x, .int .i64 y, .int .i64 z]] v fun e w' => e = .returned (.tuple #[.bool (suitR h i a (⟨#[109]⟩, x, y, z)).1, .int .i64 (suitR h i a (⟨#[109]⟩, x, y, z)).2]) ∧ Below v.heap.size v w') := fun v => DoesSuit_impl h i a ⟨#[109]⟩ x y z hn v
  have HSS : Hid (∀ v : World, Calls Try.prog 11 #[.agg #[.int .i64 h, .int .i64 i, .int .i64 a], .agg #[.string ⟨#[109]⟩, .int .i64 x, .int .i64 y, .int .i64 z]] v fun e w' => e = .returned (.tuple #[.bool (suitR h i a (⟨#[109]⟩, x, y, z)).1, .int .i64 (suitR h i a (⟨#[109]⟩, x, y, z)).2]) ∧ Below v.heap.size v w') := fun v => DoesSuit_spec h i a ⟨#[109]⟩ x y z hn v
  have HLI : Hid (∀ v : World, Calls Try.prog 12 #[.agg #[.int .i64 h, .int .i64 i, .int .i64 a], .agg #[.string ⟨#[109]⟩, .int .i64 x, .int .i64 y, .int .i64 z]] v fun e w' => e = .returned (.tuple #[.int .i64 (stemR h i a (⟨#[109]⟩, x, y, z)).1, .int .i64 (stemR h i a (⟨#[109]⟩, x, y, z)).2]) ∧ Below v.heap.size v w') := fun v => StemFor_impl h i a ⟨#[109]⟩ x y z hn v
  have HLS : Hid (∀ v : World, Calls Try.prog 13 #[.agg #[.int .i64 h, .int .i64 i, .int .i64 a], .agg #[.string ⟨#[109]⟩, .int .i64 x, .int .i64 y, .int .i64 z]] v fun e w' => e = .returned (.tuple #[.int .i64 (stemR h i a (⟨#[109]⟩, x, y, z)).1, .int .i64 (stemR h i a (⟨#[109]⟩, x, y, z)).2]) ∧ Below v.heap.size v w') := fun v => StemFor_spec h i a ⟨#[109]⟩ x y z hn v
  have HHI : Hid (∀ v : World, Calls Try.prog 14 #[.agg #[.int .i64 h, .int .i64 i, .int .i64 a]] v fun e w' => e = .returned (.tuple #[.int .i64 (saddleR h i a).1, .int .i64 (saddleR h i a).2]) ∧ Below v.heap.size v w') := fun v => SaddleHeight_impl h i a v
  have HHS : Hid (∀ v : World, Calls Try.prog 15 #[.agg #[.int .i64 h, .int .i64 i, .int .i64 a]] v fun e w' => e = .returned (.tuple #[.int .i64 (saddleR h i a).1, .int .i64 (saddleR h i a).2]) ∧ Below v.heap.size v w') := fun v => SaddleHeight_spec h i a v
  have HWI : Hid (∀ v : World, Calls Try.prog 16 #[.agg #[.int .i64 h, .int .i64 i, .int .i64 a]] v fun e w' => e = .returned (.tuple #[.int .i64 (wantedR h i a).1, .int .i64 (wantedR h i a).2]) ∧ Below v.heap.size v w') := fun v => WantedReach_impl h i a v
  have HWS : Hid (∀ v : World, Calls Try.prog 17 #[.agg #[.int .i64 h, .int .i64 i, .int .i64 a]] v fun e w' => e = .returned (.tuple #[.int .i64 (wantedR h i a).1, .int .i64 (wantedR h i a).2]) ∧ Below v.heap.size v w') := fun v => WantedReach_spec h i a v
  have HRI : Hid (∀ v : World, Calls Try.prog 18 #[.agg #[.int .i64 h, .int .i64 i, .int .i64 a]] v fun e w' => e = .returned (.bool (riderB h i a)) ∧ Below v.heap.size v w') := fun v => isRider_impl h i a v
  have HAI : Hid (∀ (v : World) (g : Nat), Blk v g 27 [.string ⟨#[109]⟩, .int .i64 x, .int .i64 y, .int .i64 z] → Calls Try.prog 19 #[.slice (some ⟨g, 0, none⟩) 1 1] v fun e w' => e = .returned (.bool (sizesB [(⟨#[109]⟩, x, y, z)])) ∧ Below v.heap.size v w') := fun v g hv => areSizes_impl (some ⟨g, 0, none⟩) 1 [(⟨#[109]⟩, x, y, z)] v (blk_size hv) (by simp) (by simp) (fun t ht => by simp only [List.mem_singleton] at ht; subst ht; exact hn)
  have HAS : Hid (∀ (v : World) (g : Nat), Blk v g 27 [.string ⟨#[109]⟩, .int .i64 x, .int .i64 y, .int .i64 z] → Calls Try.prog 20 #[.slice (some ⟨g, 0, none⟩) 1 1] v fun e w' => e = .returned (.bool (sizesB [(⟨#[109]⟩, x, y, z)])) ∧ Below v.heap.size v w') := fun v g hv => areSizes_spec (some ⟨g, 0, none⟩) 1 [(⟨#[109]⟩, x, y, z)] v (blk_size hv) (by simp) (fun t ht => by simp only [List.mem_singleton] at ht; subst ht; exact hn)
  have HL := Lib.hid (rider_law h i a x y z ⟨#[109]⟩)
  clear HD hn
  generalize suitR h i a (⟨#[109]⟩, x, y, z) = S at HSI HSS HL
  generalize stemR h i a (⟨#[109]⟩, x, y, z) = L at HLI HLS HL
  generalize saddleR h i a = H at HHI HHS HL
  generalize wantedR h i a = W at HWI HWS HL
  generalize sizesB [(⟨#[109]⟩, x, y, z)] = sb at HAI HAS
  obtain ⟨su, bad⟩ := S
  obtain ⟨l, one⟩ := L
  obtain ⟨hh, three⟩ := H
  obtain ⟨ww, five⟩ := W
  go_wp2_with fail
  have hA := (Blk.made w1 25 [.int .i64 h, .int .i64 i, .int .i64 a]).next (balloc _ (.cells #[.string ⟨#[109]⟩, .int .i64 x, .int .i64 y, .int .i64 z] 27))
  have hB := Blk.made (w1.alloc (.cells #[.int .i64 h, .int .i64 i, .int .i64 a] 25)) 27 [.string ⟨#[109]⟩, .int .i64 x, .int .i64 y, .int .i64 z]
  have s1 : (w1.alloc (.cells #[.int .i64 h, .int .i64 i, .int .i64 a] 25)).heap.size = w1.heap.size + 1 := by simp
  rw [s1] at hB
  have hb0 : Below w.heap.size w ((w1.alloc (.cells #[.int .i64 h, .int .i64 i, .int .i64 a] 25)).alloc (.cells #[.string ⟨#[109]⟩, .int .i64 x, .int .i64 y, .int .i64 z] 27)) := (hb1.alloc hb1.size _).alloc (hb1.alloc hb1.size _).size _
  change Blk ((w1.alloc (.cells #[.int .i64 h, .int .i64 i, .int .i64 a] 25)).alloc (.cells #[.string ⟨#[109]⟩, .int .i64 x, .int .i64 y, .int .i64 z] 27)) _ _ _ at hA
  change Blk ((w1.alloc (.cells #[.int .i64 h, .int .i64 i, .int .i64 a] 25)).alloc (.cells #[.string ⟨#[109]⟩, .int .i64 x, .int .i64 y, .int .i64 z] 27)) _ _ _ at hB
  clear s1
  generalize (w1.alloc (.cells #[.int .i64 h, .int .i64 i, .int .i64 a] 25)).alloc (.cells #[.string ⟨#[109]⟩, .int .i64 x, .int .i64 y, .int .i64 z] 27) = V at hA hB hb0 ⊢
  generalize w1.heap.size + 1 = r4 at hB ⊢
  generalize w1.heap.size = r3 at hA ⊢
  have HXA : Hid (∀ v : World, Below V.heap.size V v → Blk v r3 25 [.int .i64 h, .int .i64 i, .int .i64 a]) := fun v hv => hA.next hv
  have HXB : Hid (∀ v : World, Below V.heap.size V v → Blk v r4 27 [.string ⟨#[109]⟩, .int .i64 x, .int .i64 y, .int .i64 z]) := fun v hv => hB.next hv
  have hV := Below.refl V.heap.size V
  clear hA hB
  have q0 := (HXA.out V hV).cell (j := 0) rfl
  have q1 := (HXA.out V hV).cell (j := 1) rfl
  have q2 := (HXA.out V hV).cell (j := 2) rfl
  have p0 := (HXB.out V hV).cell (j := 0) rfl
  have p1 := (HXB.out V hV).cell (j := 1) rfl
  have p2 := (HXB.out V hV).cell (j := 2) rfl
  have p3 := (HXB.out V hV).cell (j := 3) rfl
  go_wp2_with fail
  refine (HSI.out V).mono ?_
  rintro e w2 ⟨rfl, hb2⟩
  replace hV := bthen hV hb2
  clear q0 q1 q2 p0 p1 p2 p3 hb2
  have q0 := (HXA.out w2 hV).cell (j := 0) rfl
  have q1 := (HXA.out w2 hV).cell (j := 1) rfl
  have q2 := (HXA.out w2 hV).cell (j := 2) rfl
  have p0 := (HXB.out w2 hV).cell (j := 0) rfl
  have p1 := (HXB.out w2 hV).cell (j := 1) rfl
  have p2 := (HXB.out w2 hV).cell (j := 2) rfl
  have p3 := (HXB.out w2 hV).cell (j := 3) rfl
  go_wp2_with fail
  refine (HSS.out w2).mono ?_
  rintro e w3 ⟨rfl, hb3⟩
  replace hV := bthen hV hb3
  clear q0 q1 q2 p0 p1 p2 p3 hb3
  have q0 := (HXA.out w3 hV).cell (j := 0) rfl
  have q1 := (HXA.out w3 hV).cell (j := 1) rfl
  have q2 := (HXA.out w3 hV).cell (j := 2) rfl
  have p0 := (HXB.out w3 hV).cell (j := 0) rfl
  have p1 := (HXB.out w3 hV).cell (j := 1) rfl
  have p2 := (HXB.out w3 hV).cell (j := 2) rfl
  have p3 := (HXB.out w3 hV).cell (j := 3) rfl
  go_wp2_with fail
  refine (HLI.out w3).mono ?_
  rintro e w4 ⟨rfl, hb4⟩
  replace hV := bthen hV hb4
  clear q0 q1 q2 p0 p1 p2 p3 hb4
  have q0 := (HXA.out w4 hV).cell (j := 0) rfl
  have q1 := (HXA.out w4 hV).cell (j := 1) rfl
  have q2 := (HXA.out w4 hV).cell (j := 2) rfl
  have p0 := (HXB.out w4 hV).cell (j := 0) rfl
  have p1 := (HXB.out w4 hV).cell (j := 1) rfl
  have p2 := (HXB.out w4 hV).cell (j := 2) rfl
  have p3 := (HXB.out w4 hV).cell (j := 3) rfl
  go_wp2_with fail
  refine (HLS.out w4).mono ?_
  rintro e w5 ⟨rfl, hb5⟩
  replace hV := bthen hV hb5
  clear q0 q1 q2 p0 p1 p2 p3 hb5
  have q0 := (HXA.out w5 hV).cell (j := 0) rfl
  have q1 := (HXA.out w5 hV).cell (j := 1) rfl
  have q2 := (HXA.out w5 hV).cell (j := 2) rfl
  have p0 := (HXB.out w5 hV).cell (j := 0) rfl
  have p1 := (HXB.out w5 hV).cell (j := 1) rfl
  have p2 := (HXB.out w5 hV).cell (j := 2) rfl
  have p3 := (HXB.out w5 hV).cell (j := 3) rfl
  go_wp2_with fail
  refine (HHI.out w5).mono ?_
  rintro e w6 ⟨rfl, hb6⟩
  replace hV := bthen hV hb6
  clear q0 q1 q2 p0 p1 p2 p3 hb6
  have q0 := (HXA.out w6 hV).cell (j := 0) rfl
  have q1 := (HXA.out w6 hV).cell (j := 1) rfl
  have q2 := (HXA.out w6 hV).cell (j := 2) rfl
  have p0 := (HXB.out w6 hV).cell (j := 0) rfl
  have p1 := (HXB.out w6 hV).cell (j := 1) rfl
  have p2 := (HXB.out w6 hV).cell (j := 2) rfl
  have p3 := (HXB.out w6 hV).cell (j := 3) rfl
  go_wp2_with fail
  refine (HHS.out w6).mono ?_
  rintro e w7 ⟨rfl, hb7⟩
  replace hV := bthen hV hb7
  clear q0 q1 q2 p0 p1 p2 p3 hb7
  have q0 := (HXA.out w7 hV).cell (j := 0) rfl
  have q1 := (HXA.out w7 hV).cell (j := 1) rfl
  have q2 := (HXA.out w7 hV).cell (j := 2) rfl
  have p0 := (HXB.out w7 hV).cell (j := 0) rfl
  have p1 := (HXB.out w7 hV).cell (j := 1) rfl
  have p2 := (HXB.out w7 hV).cell (j := 2) rfl
  have p3 := (HXB.out w7 hV).cell (j := 3) rfl
  go_wp2_with fail
  refine (HWI.out w7).mono ?_
  rintro e w8 ⟨rfl, hb8⟩
  replace hV := bthen hV hb8
  clear q0 q1 q2 p0 p1 p2 p3 hb8
  have q0 := (HXA.out w8 hV).cell (j := 0) rfl
  have q1 := (HXA.out w8 hV).cell (j := 1) rfl
  have q2 := (HXA.out w8 hV).cell (j := 2) rfl
  have p0 := (HXB.out w8 hV).cell (j := 0) rfl
  have p1 := (HXB.out w8 hV).cell (j := 1) rfl
  have p2 := (HXB.out w8 hV).cell (j := 2) rfl
  have p3 := (HXB.out w8 hV).cell (j := 3) rfl
  go_wp2_with fail
  refine (HWS.out w8).mono ?_
  rintro e w9 ⟨rfl, hb9⟩
  replace hV := bthen hV hb9
  clear q0 q1 q2 p0 p1 p2 p3 hb9
  have q0 := (HXA.out w9 hV).cell (j := 0) rfl
  have q1 := (HXA.out w9 hV).cell (j := 1) rfl
  have q2 := (HXA.out w9 hV).cell (j := 2) rfl
  have p0 := (HXB.out w9 hV).cell (j := 0) rfl
  have p1 := (HXB.out w9 hV).cell (j := 1) rfl
  have p2 := (HXB.out w9 hV).cell (j := 2) rfl
  have p3 := (HXB.out w9 hV).cell (j := 3) rfl
  have hrb := HL.out.rb
  simp only at hrb
  have HRi : Hid (∀ v : World, Calls Try.prog 18 #[.agg #[.int .i64 h, .int .i64 i, .int .i64 a]] v fun e w' => e = .returned (.bool (three == 0)) ∧ Below v.heap.size v w') := by
    have e3 : (three == 0) = decide (three = 0) := rfl
    rw [e3, ← hrb]
    exact HRI
  have pl3 := (HXA.out w9 hV).lt
  have pl4 := (HXB.out w9 hV).lt
  clear HRI HSI HSS HLI HLS HHI HHS HWI HWS hrb
  go_wp2_with fail
  refine wp_region_any (by kernel_rfl) ?_
  change wpAny _ _ _ _ _ _ _ (World.drew _)
  refine wpAny_take (i := 0) (v := .int .i64 bad) rfl (by kernel_rfl) (by kernel_rfl) (by kernel_rfl) (fun _ _ _ h => h) (Or.inl ⟨by rfl, fun w0 => by go_simp⟩) ?_
  simp only [Act.put, List.getElem_toArray, List.getElem_cons_succ, List.getElem_cons_zero, List.setIfInBounds_toArray, List.set_cons_succ, List.set_cons_zero]
  refine wpAny_take (i := 1) (v := .int .i64 bad) rfl (by kernel_rfl) (by kernel_rfl) (by kernel_rfl) (fun _ _ _ h => h) (Or.inl ⟨by rfl, fun w0 => by go_simp⟩) ?_
  simp only [Act.put, List.getElem_toArray, List.getElem_cons_succ, List.getElem_cons_zero, List.setIfInBounds_toArray, List.set_cons_succ, List.set_cons_zero]
  refine wpAny_take (i := 2) (v := .bool false) rfl (by kernel_rfl) (by kernel_rfl) (by kernel_rfl) (fun _ _ _ h => h) (Or.inl ⟨by rfl, fun w0 => by go_simp⟩) ?_
  simp only [Act.put, List.getElem_toArray, List.getElem_cons_succ, List.getElem_cons_zero, List.setIfInBounds_toArray, List.set_cons_succ, List.set_cons_zero]
  refine wpAny_take (i := 3) (v := .bool false) rfl (by kernel_rfl) (by kernel_rfl) (by kernel_rfl) (fun _ _ _ h => h) (Or.inl ⟨by rfl, fun w0 => by go_simp⟩) ?_
  simp only [Act.put, List.getElem_toArray, List.getElem_cons_succ, List.getElem_cons_zero, List.setIfInBounds_toArray, List.set_cons_succ, List.set_cons_zero]
  refine wpAny_take (i := 4) (v := .bool su) rfl (by kernel_rfl) (by kernel_rfl) (by kernel_rfl) (fun _ _ _ h => h) (Or.inl ⟨by rfl, fun w0 => by go_simp⟩) ?_
  simp only [Act.put, List.getElem_toArray, List.getElem_cons_succ, List.getElem_cons_zero, List.setIfInBounds_toArray, List.set_cons_succ, List.set_cons_zero]
  refine wpAny_take (i := 5) (v := .bool su) rfl (by kernel_rfl) (by kernel_rfl) (by kernel_rfl) (fun _ _ _ h => h) (Or.inl ⟨by rfl, fun w0 => by go_simp⟩) ?_
  simp only [Act.put, List.getElem_toArray, List.getElem_cons_succ, List.getElem_cons_zero, List.setIfInBounds_toArray, List.set_cons_succ, List.set_cons_zero]
  refine wpAny_take (i := 6) (v := .bool false) rfl (by kernel_rfl) (by kernel_rfl) (by kernel_rfl) (fun _ _ _ h => h) (Or.inl ⟨by rfl, fun w0 => by go_simp⟩) ?_
  simp only [Act.put, List.getElem_toArray, List.getElem_cons_succ, List.getElem_cons_zero, List.setIfInBounds_toArray, List.set_cons_succ, List.set_cons_zero]
  refine wpAny_take (i := 7) (v := .bool false) rfl (by kernel_rfl) (by kernel_rfl) (by kernel_rfl) (fun _ _ _ h => h) (Or.inl ⟨by rfl, fun w0 => by go_simp⟩) ?_
  simp only [Act.put, List.getElem_toArray, List.getElem_cons_succ, List.getElem_cons_zero, List.setIfInBounds_toArray, List.set_cons_succ, List.set_cons_zero]
  refine wpAny_take (i := 8) (v := .bool false) rfl (by kernel_rfl) (by kernel_rfl) (by kernel_rfl) (fun _ _ _ h => h) (Or.inl ⟨by rfl, fun w0 => by go_simp⟩) ?_
  simp only [Act.put, List.getElem_toArray, List.getElem_cons_succ, List.getElem_cons_zero, List.setIfInBounds_toArray, List.set_cons_succ, List.set_cons_zero]
  refine wpAny_take (i := 9) (v := .int .i64 one) rfl (by kernel_rfl) (by kernel_rfl) (by kernel_rfl) (fun _ _ _ h => h) (Or.inl ⟨by rfl, fun w0 => by go_simp⟩) ?_
  simp only [Act.put, List.getElem_toArray, List.getElem_cons_succ, List.getElem_cons_zero, List.setIfInBounds_toArray, List.set_cons_succ, List.set_cons_zero]
  refine wpAny_take (i := 10) (v := .int .i64 one) rfl (by kernel_rfl) (by kernel_rfl) (by kernel_rfl) (fun _ _ _ h => h) (Or.inl ⟨by rfl, fun w0 => by go_simp⟩) ?_
  simp only [Act.put, List.getElem_toArray, List.getElem_cons_succ, List.getElem_cons_zero, List.setIfInBounds_toArray, List.set_cons_succ, List.set_cons_zero]
  refine wpAny_take (i := 11) (v := .bool false) rfl (by kernel_rfl) (by kernel_rfl) (by kernel_rfl) (fun _ _ _ h => h) (Or.inl ⟨by rfl, fun w0 => by go_simp⟩) ?_
  simp only [Act.put, List.getElem_toArray, List.getElem_cons_succ, List.getElem_cons_zero, List.setIfInBounds_toArray, List.set_cons_succ, List.set_cons_zero]
  refine wpAny_take (i := 12) (v := .bool false) rfl (by kernel_rfl) (by kernel_rfl) (by kernel_rfl) (fun _ _ _ h => h) (Or.inl ⟨by rfl, fun w0 => by go_simp⟩) ?_
  simp only [Act.put, List.getElem_toArray, List.getElem_cons_succ, List.getElem_cons_zero, List.setIfInBounds_toArray, List.set_cons_succ, List.set_cons_zero]
  refine wpAny_take (i := 13) (v := .bool false) rfl (by kernel_rfl) (by kernel_rfl) (by kernel_rfl) (fun _ _ _ h => h) (Or.inl ⟨by rfl, fun w0 => by go_simp⟩) ?_
  simp only [Act.put, List.getElem_toArray, List.getElem_cons_succ, List.getElem_cons_zero, List.setIfInBounds_toArray, List.set_cons_succ, List.set_cons_zero]
  refine wpAny_take (i := 14) (v := .int .i64 l) rfl (by kernel_rfl) (by kernel_rfl) (by kernel_rfl) (fun _ _ _ h => h) (Or.inl ⟨by rfl, fun w0 => by go_simp⟩) ?_
  simp only [Act.put, List.getElem_toArray, List.getElem_cons_succ, List.getElem_cons_zero, List.setIfInBounds_toArray, List.set_cons_succ, List.set_cons_zero]
  refine wpAny_take (i := 15) (v := .int .i64 l) rfl (by kernel_rfl) (by kernel_rfl) (by kernel_rfl) (fun _ _ _ h => h) (Or.inl ⟨by rfl, fun w0 => by go_simp⟩) ?_
  simp only [Act.put, List.getElem_toArray, List.getElem_cons_succ, List.getElem_cons_zero, List.setIfInBounds_toArray, List.set_cons_succ, List.set_cons_zero]
  refine wpAny_take (i := 16) (v := .bool false) rfl (by kernel_rfl) (by kernel_rfl) (by kernel_rfl) (fun _ _ _ h => h) (Or.inl ⟨by rfl, fun w0 => by go_simp⟩) ?_
  simp only [Act.put, List.getElem_toArray, List.getElem_cons_succ, List.getElem_cons_zero, List.setIfInBounds_toArray, List.set_cons_succ, List.set_cons_zero]
  refine wpAny_take (i := 17) (v := .bool false) rfl (by kernel_rfl) (by kernel_rfl) (by kernel_rfl) (fun _ _ _ h => h) (Or.inl ⟨by rfl, fun w0 => by go_simp⟩) ?_
  simp only [Act.put, List.getElem_toArray, List.getElem_cons_succ, List.getElem_cons_zero, List.setIfInBounds_toArray, List.set_cons_succ, List.set_cons_zero]
  refine wpAny_take (i := 18) (v := .bool false) rfl (by kernel_rfl) (by kernel_rfl) (by kernel_rfl) (fun _ _ _ h => h) (Or.inl ⟨by rfl, fun w0 => by go_simp⟩) ?_
  simp only [Act.put, List.getElem_toArray, List.getElem_cons_succ, List.getElem_cons_zero, List.setIfInBounds_toArray, List.set_cons_succ, List.set_cons_zero]
  refine wpAny_take (i := 19) (v := .int .i64 three) rfl (by kernel_rfl) (by kernel_rfl) (by kernel_rfl) (fun _ _ _ h => h) (Or.inl ⟨by rfl, fun w0 => by go_simp⟩) ?_
  simp only [Act.put, List.getElem_toArray, List.getElem_cons_succ, List.getElem_cons_zero, List.setIfInBounds_toArray, List.set_cons_succ, List.set_cons_zero]
  refine wpAny_take (i := 20) (v := .int .i64 three) rfl (by kernel_rfl) (by kernel_rfl) (by kernel_rfl) (fun _ _ _ h => h) (Or.inl ⟨by rfl, fun w0 => by go_simp⟩) ?_
  simp only [Act.put, List.getElem_toArray, List.getElem_cons_succ, List.getElem_cons_zero, List.setIfInBounds_toArray, List.set_cons_succ, List.set_cons_zero]
  refine wpAny_take (i := 21) (v := .bool false) rfl (by kernel_rfl) (by kernel_rfl) (by kernel_rfl) (fun _ _ _ h => h) (Or.inl ⟨by rfl, fun w0 => by go_simp⟩) ?_
  simp only [Act.put, List.getElem_toArray, List.getElem_cons_succ, List.getElem_cons_zero, List.setIfInBounds_toArray, List.set_cons_succ, List.set_cons_zero]
  refine wpAny_take (i := 22) (v := .bool false) rfl (by kernel_rfl) (by kernel_rfl) (by kernel_rfl) (fun _ _ _ h => h) (Or.inl ⟨by rfl, fun w0 => by go_simp⟩) ?_
  simp only [Act.put, List.getElem_toArray, List.getElem_cons_succ, List.getElem_cons_zero, List.setIfInBounds_toArray, List.set_cons_succ, List.set_cons_zero]
  refine wpAny_take (i := 23) (v := .bool false) rfl (by kernel_rfl) (by kernel_rfl) (by kernel_rfl) (fun _ _ _ h => h) (Or.inl ⟨by rfl, fun w0 => by go_simp⟩) ?_
  simp only [Act.put, List.getElem_toArray, List.getElem_cons_succ, List.getElem_cons_zero, List.setIfInBounds_toArray, List.set_cons_succ, List.set_cons_zero]
  refine wpAny_take (i := 24) (v := .int .i64 hh) rfl (by kernel_rfl) (by kernel_rfl) (by kernel_rfl) (fun _ _ _ h => h) (Or.inl ⟨by rfl, fun w0 => by go_simp⟩) ?_
  simp only [Act.put, List.getElem_toArray, List.getElem_cons_succ, List.getElem_cons_zero, List.setIfInBounds_toArray, List.set_cons_succ, List.set_cons_zero]
  refine wpAny_take (i := 25) (v := .int .i64 hh) rfl (by kernel_rfl) (by kernel_rfl) (by kernel_rfl) (fun _ _ _ h => h) (Or.inl ⟨by rfl, fun w0 => by go_simp⟩) ?_
  simp only [Act.put, List.getElem_toArray, List.getElem_cons_succ, List.getElem_cons_zero, List.setIfInBounds_toArray, List.set_cons_succ, List.set_cons_zero]
  refine wpAny_take (i := 26) (v := .bool false) rfl (by kernel_rfl) (by kernel_rfl) (by kernel_rfl) (fun _ _ _ h => h) (Or.inl ⟨by rfl, fun w0 => by go_simp⟩) ?_
  simp only [Act.put, List.getElem_toArray, List.getElem_cons_succ, List.getElem_cons_zero, List.setIfInBounds_toArray, List.set_cons_succ, List.set_cons_zero]
  refine wpAny_take (i := 27) (v := .bool false) rfl (by kernel_rfl) (by kernel_rfl) (by kernel_rfl) (fun _ _ _ h => h) (Or.inl ⟨by rfl, fun w0 => by go_simp⟩) ?_
  simp only [Act.put, List.getElem_toArray, List.getElem_cons_succ, List.getElem_cons_zero, List.setIfInBounds_toArray, List.set_cons_succ, List.set_cons_zero]
  refine wpAny_take (i := 28) (v := .bool false) rfl (by kernel_rfl) (by kernel_rfl) (by kernel_rfl) (fun _ _ _ h => h) (Or.inl ⟨by rfl, fun w0 => by go_simp⟩) ?_
  simp only [Act.put, List.getElem_toArray, List.getElem_cons_succ, List.getElem_cons_zero, List.setIfInBounds_toArray, List.set_cons_succ, List.set_cons_zero]
  refine wpAny_take (i := 29) (v := .int .i64 five) rfl (by kernel_rfl) (by kernel_rfl) (by kernel_rfl) (fun _ _ _ h => h) (Or.inl ⟨by rfl, fun w0 => by go_simp⟩) ?_
  simp only [Act.put, List.getElem_toArray, List.getElem_cons_succ, List.getElem_cons_zero, List.setIfInBounds_toArray, List.set_cons_succ, List.set_cons_zero]
  refine wpAny_take (i := 30) (v := .int .i64 five) rfl (by kernel_rfl) (by kernel_rfl) (by kernel_rfl) (fun _ _ _ h => h) (Or.inl ⟨by rfl, fun w0 => by go_simp⟩) ?_
  simp only [Act.put, List.getElem_toArray, List.getElem_cons_succ, List.getElem_cons_zero, List.setIfInBounds_toArray, List.set_cons_succ, List.set_cons_zero]
  refine wpAny_take (i := 31) (v := .bool false) rfl (by kernel_rfl) (by kernel_rfl) (by kernel_rfl) (fun _ _ _ h => h) (Or.inl ⟨by rfl, fun w0 => by go_simp⟩) ?_
  simp only [Act.put, List.getElem_toArray, List.getElem_cons_succ, List.getElem_cons_zero, List.setIfInBounds_toArray, List.set_cons_succ, List.set_cons_zero]
  refine wpAny_take (i := 32) (v := .bool false) rfl (by kernel_rfl) (by kernel_rfl) (by kernel_rfl) (fun _ _ _ h => h) (Or.inl ⟨by rfl, fun w0 => by go_simp⟩) ?_
  simp only [Act.put, List.getElem_toArray, List.getElem_cons_succ, List.getElem_cons_zero, List.setIfInBounds_toArray, List.set_cons_succ, List.set_cons_zero]
  refine wpAny_take (i := 33) (v := .bool false) rfl (by kernel_rfl) (by kernel_rfl) (by kernel_rfl) (fun _ _ _ h => h) (Or.inl ⟨by rfl, fun w0 => by go_simp⟩) ?_
  simp only [Act.put, List.getElem_toArray, List.getElem_cons_succ, List.getElem_cons_zero, List.setIfInBounds_toArray, List.set_cons_succ, List.set_cons_zero]
  refine wpAny_take (i := 34) (v := .int .i64 ww) rfl (by kernel_rfl) (by kernel_rfl) (by kernel_rfl) (fun _ _ _ h => h) (Or.inl ⟨by rfl, fun w0 => by go_simp⟩) ?_
  simp only [Act.put, List.getElem_toArray, List.getElem_cons_succ, List.getElem_cons_zero, List.setIfInBounds_toArray, List.set_cons_succ, List.set_cons_zero]
  refine wpAny_take (i := 35) (v := .int .i64 ww) rfl (by kernel_rfl) (by kernel_rfl) (by kernel_rfl) (fun _ _ _ h => h) (Or.inl ⟨by rfl, fun w0 => by go_simp⟩) ?_
  simp only [Act.put, List.getElem_toArray, List.getElem_cons_succ, List.getElem_cons_zero, List.setIfInBounds_toArray, List.set_cons_succ, List.set_cons_zero]
  refine wpAny_take (i := 36) (v := .bool false) rfl (by kernel_rfl) (by kernel_rfl) (by kernel_rfl) (fun _ _ _ h => h) (Or.inl ⟨by rfl, fun w0 => by go_simp⟩) ?_
  simp only [Act.put, List.getElem_toArray, List.getElem_cons_succ, List.getElem_cons_zero, List.setIfInBounds_toArray, List.set_cons_succ, List.set_cons_zero]
  refine wpAny_take (i := 37) (v := .bool false) rfl (by kernel_rfl) (by kernel_rfl) (by kernel_rfl) (fun _ _ _ h => h) (Or.inl ⟨by rfl, fun w0 => by go_simp⟩) ?_
  simp only [Act.put, List.getElem_toArray, List.getElem_cons_succ, List.getElem_cons_zero, List.setIfInBounds_toArray, List.set_cons_succ, List.set_cons_zero]
  refine wpAny_take (i := 38) (v := .bool false) rfl (by kernel_rfl) (by kernel_rfl) (by kernel_rfl) (fun _ _ _ h => h) (Or.inl ⟨by rfl, fun w0 => by go_simp⟩) ?_
  simp only [Act.put, List.getElem_toArray, List.getElem_cons_succ, List.getElem_cons_zero, List.setIfInBounds_toArray, List.set_cons_succ, List.set_cons_zero]
  refine wpAny_take (i := 41) (v := .int .i64 three) rfl (by kernel_rfl) (by kernel_rfl) (by kernel_rfl) (fun _ _ _ h => h) (Or.inl ⟨by rfl, fun w0 => by go_simp⟩) ?_
  simp only [Act.put, List.getElem_toArray, List.getElem_cons_succ, List.getElem_cons_zero, List.setIfInBounds_toArray, List.set_cons_succ, List.set_cons_zero]
  refine wpAny_take (i := 42) (v := .bool (three == 0)) rfl (by kernel_rfl) (by kernel_rfl) (by kernel_rfl) (fun _ _ _ h => h) (Or.inl ⟨by rfl, fun w0 => by go_simp⟩) ?_
  simp only [Act.put, List.getElem_toArray, List.getElem_cons_succ, List.getElem_cons_zero, List.setIfInBounds_toArray, List.set_cons_succ, List.set_cons_zero]
  refine wpAny_ready (rs := [39]) (by kernel_rfl) (by simp) ?_
  refine AllReady.cons rfl (fun K hK => ?_) ?_
  · simp only [List.getElem_toArray, List.getElem_cons_succ, List.getElem_cons_zero]
    go_simp
    refine hK _ _ ?_
    clear hK K
    try simp only [Act.put, List.getElem_toArray, List.getElem_cons_succ, List.getElem_cons_zero, List.setIfInBounds_toArray, List.set_cons_succ, List.set_cons_zero]
    refine wpAny_ready (rs := [40]) (by kernel_rfl) (by simp) ?_
    refine AllReady.cons rfl (fun K hK => ?_) ?_
    · simp only [List.getElem_toArray, List.getElem_cons_succ, List.getElem_cons_zero]
      go_simp
      go_at_call 18
      refine (HRi.out w9.drew).mono ?_
      rintro e w10 ⟨rfl, hb10⟩
      have hV10 := bthen (bthen hV (bdrew w9)) hb10
      skip; have q0w10 := (HXA.out w10 hV10).cell (j := 0) rfl; have q1w10 := (HXA.out w10 hV10).cell (j := 1) rfl; have q2w10 := (HXA.out w10 hV10).cell (j := 2) rfl; have p0w10 := (HXB.out w10 hV10).cell (j := 0) rfl; have p1w10 := (HXB.out w10 hV10).cell (j := 1) rfl; have p2w10 := (HXB.out w10 hV10).cell (j := 2) rfl; have p3w10 := (HXB.out w10 hV10).cell (j := 3) rfl; have l3w10 := (HXA.out w10 hV10).lt; have l4w10 := (HXB.out w10 hV10).lt; have m3w10 : ¬ r3 = w10.heap.size := (by omega); have m3w10q : ¬ w10.heap.size = r3 := (by omega); have m4w10 : ¬ r4 = w10.heap.size := (by omega); have m4w10q : ¬ w10.heap.size = r4 := (by omega); have m5w10 : ¬ r4 = w10.heap.size + 1 := (by omega); have m5w10q : ¬ w10.heap.size + 1 = r4 := (by omega)
      clear hb10
      go_wp2_with fail
      try simp only [Act.put, List.getElem_toArray, List.getElem_cons_succ, List.getElem_cons_zero, List.setIfInBounds_toArray, List.set_cons_succ, List.set_cons_zero]
      refine wpAny_take (i := 43) (v := .bool false) rfl (by kernel_rfl) (by kernel_rfl) (by kernel_rfl) (fun _ _ _ h => h) (Or.inl ⟨by rfl, fun w0 => by go_simp⟩) ?_
      simp only [Act.put, List.getElem_toArray, List.getElem_cons_succ, List.getElem_cons_zero, List.setIfInBounds_toArray, List.set_cons_succ, List.set_cons_zero]
      refine wpAny_take (i := 44) (v := .bool false) rfl (by kernel_rfl) (by kernel_rfl) (by kernel_rfl) (fun _ _ _ h => h) (Or.inl ⟨by rfl, fun w0 => by go_simp⟩) ?_
      simp only [Act.put, List.getElem_toArray, List.getElem_cons_succ, List.getElem_cons_zero, List.setIfInBounds_toArray, List.set_cons_succ, List.set_cons_zero]
      refine wpAny_take (i := 45) (v := .bool false) rfl (by kernel_rfl) (by kernel_rfl) (by kernel_rfl) (fun _ _ _ h => h) (Or.inl ⟨by rfl, fun w0 => by go_simp⟩) ?_
      simp only [Act.put, List.getElem_toArray, List.getElem_cons_succ, List.getElem_cons_zero, List.setIfInBounds_toArray, List.set_cons_succ, List.set_cons_zero]
      refine wpAny_ready (rs := [46, 49]) (by kernel_rfl) (by simp) ?_
      refine AllReady.cons rfl (fun K hK => ?_) ?_
      · simp only [List.getElem_toArray, List.getElem_cons_succ, List.getElem_cons_zero]
        go_simp
        refine hK _ _ ?_
        clear hK K
        try simp only [Act.put, List.getElem_toArray, List.getElem_cons_succ, List.getElem_cons_zero, List.setIfInBounds_toArray, List.set_cons_succ, List.set_cons_zero]
        refine wpAny_ready (rs := [47, 49]) (by kernel_rfl) (by simp) ?_
        refine AllReady.cons rfl (fun K hK => ?_) ?_
        · simp only [List.getElem_toArray, List.getElem_cons_succ, List.getElem_cons_zero]
          go_simp
          refine hK _ _ ?_
          clear hK K
          try simp only [Act.put, List.getElem_toArray, List.getElem_cons_succ, List.getElem_cons_zero, List.setIfInBounds_toArray, List.set_cons_succ, List.set_cons_zero]
          refine wpAny_ready (rs := [48, 49]) (by kernel_rfl) (by simp) ?_
          refine AllReady.cons rfl (fun K hK => ?_) ?_
          · simp only [List.getElem_toArray, List.getElem_cons_succ, List.getElem_cons_zero]
            go_simp
            go_at_call 19
            change Calls _ _ #[.slice (some ⟨w10.heap.size, 0, none⟩) 1 1] (w10.alloc (.cells #[.string ⟨#[109]⟩, .int .i64 x, .int .i64 y, .int .i64 z] 27)) _
            refine (HAI.out (w10.alloc (.cells #[.string ⟨#[109]⟩, .int .i64 x, .int .i64 y, .int .i64 z] 27)) w10.heap.size (Blk.made w10 _ [.string ⟨#[109]⟩, .int .i64 x, .int .i64 y, .int .i64 z])).mono ?_
            rintro e w11 ⟨rfl, hb11⟩
            have hV11 := bthen (bthen hV10 (balloc w10 (.cells #[.string ⟨#[109]⟩, .int .i64 x, .int .i64 y, .int .i64 z] 27))) hb11
            skip; have q0w11 := (HXA.out w11 hV11).cell (j := 0) rfl; have q1w11 := (HXA.out w11 hV11).cell (j := 1) rfl; have q2w11 := (HXA.out w11 hV11).cell (j := 2) rfl; have p0w11 := (HXB.out w11 hV11).cell (j := 0) rfl; have p1w11 := (HXB.out w11 hV11).cell (j := 1) rfl; have p2w11 := (HXB.out w11 hV11).cell (j := 2) rfl; have p3w11 := (HXB.out w11 hV11).cell (j := 3) rfl; have l3w11 := (HXA.out w11 hV11).lt; have l4w11 := (HXB.out w11 hV11).lt; have m3w11 : ¬ r3 = w11.heap.size := (by omega); have m3w11q : ¬ w11.heap.size = r3 := (by omega); have m4w11 : ¬ r4 = w11.heap.size := (by omega); have m4w11q : ¬ w11.heap.size = r4 := (by omega); have m5w11 : ¬ r4 = w11.heap.size + 1 := (by omega); have m5w11q : ¬ w11.heap.size + 1 = r4 := (by omega)
            clear hb11
            go_wp2_with fail
            try simp only [Act.put, List.getElem_toArray, List.getElem_cons_succ, List.getElem_cons_zero, List.setIfInBounds_toArray, List.set_cons_succ, List.set_cons_zero]
            refine wpAny_ready (rs := [49]) (by kernel_rfl) (by simp) ?_
            refine AllReady.cons rfl (fun K hK => ?_) ?_
            · simp only [List.getElem_toArray, List.getElem_cons_succ, List.getElem_cons_zero]
              go_simp
              refine hK _ _ ?_
              clear hK K
              try simp only [Act.put, List.getElem_toArray, List.getElem_cons_succ, List.getElem_cons_zero, List.setIfInBounds_toArray, List.set_cons_succ, List.set_cons_zero]
              refine wpAny_ready (rs := [50]) (by kernel_rfl) (by simp) ?_
              refine AllReady.cons rfl (fun K hK => ?_) ?_
              · simp only [List.getElem_toArray, List.getElem_cons_succ, List.getElem_cons_zero]
                go_simp
                refine hK _ _ ?_
                clear hK K
                try simp only [Act.put, List.getElem_toArray, List.getElem_cons_succ, List.getElem_cons_zero, List.setIfInBounds_toArray, List.set_cons_succ, List.set_cons_zero]
                refine wpAny_ready (rs := [51]) (by kernel_rfl) (by simp) ?_
                refine AllReady.cons rfl (fun K hK => ?_) ?_
                · simp only [List.getElem_toArray, List.getElem_cons_succ, List.getElem_cons_zero]
                  go_simp
                  go_at_call 20
                  change Calls _ _ #[.slice (some ⟨w11.heap.size, 0, none⟩) 1 1] (w11.alloc (.cells #[.string ⟨#[109]⟩, .int .i64 x, .int .i64 y, .int .i64 z] 27)) _
                  refine (HAS.out (w11.alloc (.cells #[.string ⟨#[109]⟩, .int .i64 x, .int .i64 y, .int .i64 z] 27)) w11.heap.size (Blk.made w11 _ [.string ⟨#[109]⟩, .int .i64 x, .int .i64 y, .int .i64 z])).mono ?_
                  rintro e w12 ⟨rfl, hb12⟩
                  have hV12 := bthen (bthen hV11 (balloc w11 (.cells #[.string ⟨#[109]⟩, .int .i64 x, .int .i64 y, .int .i64 z] 27))) hb12
                  skip; have q0w12 := (HXA.out w12 hV12).cell (j := 0) rfl; have q1w12 := (HXA.out w12 hV12).cell (j := 1) rfl; have q2w12 := (HXA.out w12 hV12).cell (j := 2) rfl; have p0w12 := (HXB.out w12 hV12).cell (j := 0) rfl; have p1w12 := (HXB.out w12 hV12).cell (j := 1) rfl; have p2w12 := (HXB.out w12 hV12).cell (j := 2) rfl; have p3w12 := (HXB.out w12 hV12).cell (j := 3) rfl; have l3w12 := (HXA.out w12 hV12).lt; have l4w12 := (HXB.out w12 hV12).lt; have m3w12 : ¬ r3 = w12.heap.size := (by omega); have m3w12q : ¬ w12.heap.size = r3 := (by omega); have m4w12 : ¬ r4 = w12.heap.size := (by omega); have m4w12q : ¬ w12.heap.size = r4 := (by omega); have m5w12 : ¬ r4 = w12.heap.size + 1 := (by omega); have m5w12q : ¬ w12.heap.size + 1 = r4 := (by omega)
                  clear hb12
                  go_wp2_with fail
                  try simp only [Act.put, List.getElem_toArray, List.getElem_cons_succ, List.getElem_cons_zero, List.setIfInBounds_toArray, List.set_cons_succ, List.set_cons_zero]
                  refine wpAny_take (i := 52) (v := .bool false) rfl (by kernel_rfl) (by kernel_rfl) (by kernel_rfl) (fun _ _ _ h => h) (Or.inl ⟨by rfl, fun w0 => by go_simp⟩) ?_
                  simp only [Act.put, List.getElem_toArray, List.getElem_cons_succ, List.getElem_cons_zero, List.setIfInBounds_toArray, List.set_cons_succ, List.set_cons_zero]
                  refine wpAny_take (i := 53) (v := .bool false) rfl (by kernel_rfl) (by kernel_rfl) (by kernel_rfl) (fun _ _ _ h => h) (Or.inl ⟨by rfl, fun w0 => by go_simp⟩) ?_
                  simp only [Act.put, List.getElem_toArray, List.getElem_cons_succ, List.getElem_cons_zero, List.setIfInBounds_toArray, List.set_cons_succ, List.set_cons_zero]
                  refine wpAny_done (by kernel_rfl) ?_ _
                  by_cases hbad : bad = 0
                  · have a1 := HL.out.suit hbad
                    obtain ⟨b1, b2, b3, b4, b5, b6⟩ := HL.out.bds hbad
                    have a2 := HL.out.stem hbad
                    try simp only at a1 a2 b5 b6
                    subst hbad
                    by_cases hone : one = 0
                    · obtain ⟨c1, c2, c3, c4, c5⟩ := a2 hone
                      try simp only at c1 c2 c3 c4 c5
                      subst hone
                      by_cases hs1 : x + 60 ≤ hh
                      · by_cases hs2 : hh ≤ x + 350
                        · have hsu : su = true := by rw [a1]; simp [hs1, hs2]
                          clear a1 a2
                          subst hsu
                          go_wp2_with fail
                          all_goals first
                            | (exfalso; omega)
                            | (go_ret; refine ⟨?_, hb0.trans (hV12.mono hb0.size)⟩; first | rfl | exact ret_bool (decide_eq_true (by omega)) | exact ret_bool (by simp; omega))
                        · have hsu : su = false := by rw [a1]; simp [hs2]
                          clear a1 a2
                          subst hsu
                          go_wp2_with fail
                          all_goals first
                            | (exfalso; omega)
                            | (go_ret; refine ⟨?_, hb0.trans (hV12.mono hb0.size)⟩; first | rfl | exact ret_bool (decide_eq_true (by omega)) | exact ret_bool (by simp; omega))
                      · have hsu : su = false := by rw [a1]; simp [hs1]
                        clear a1 a2
                        subst hsu
                        go_wp2_with fail
                        all_goals first
                          | (exfalso; omega)
                          | (go_ret; refine ⟨?_, hb0.trans (hV12.mono hb0.size)⟩; first | rfl | exact ret_bool (decide_eq_true (by omega)) | exact ret_bool (by simp; omega))
                    · have hone' : (one == 0) = false := by simp [hone]
                      have hone2 : (one != 0) = true := by simp [hone]
                      have hsu : su = false := by rw [a1]; simp [hone]
                      clear a1 a2
                      subst hsu
                      go_wp2_with fail
                      all_goals first
                        | (exfalso; omega)
                        | (go_ret; refine ⟨?_, hb0.trans (hV12.mono hb0.size)⟩; first | rfl | exact ret_bool (decide_eq_true (by omega)) | exact ret_bool (by simp; omega))
                  · have hbad' : (bad == 0) = false := by simp [hbad]
                    have hbad2 : (bad != 0) = true := by simp [hbad]
                    go_wp2_with fail
                    all_goals first
                      | (exfalso; omega)
                      | (go_ret; refine ⟨?_, hb0.trans (hV12.mono hb0.size)⟩; first | rfl | exact ret_bool (decide_eq_true (by omega)) | exact ret_bool (by simp; omega))
                exact AllReady.nil
              exact AllReady.nil
            exact AllReady.nil
          refine AllReady.cons rfl (fun K hK => ?_) ?_
          · simp only [List.getElem_toArray, List.getElem_cons_succ, List.getElem_cons_zero]
            go_simp
            refine hK _ _ ?_
            clear hK K
            try simp only [Act.put, List.getElem_toArray, List.getElem_cons_succ, List.getElem_cons_zero, List.setIfInBounds_toArray, List.set_cons_succ, List.set_cons_zero]
            refine wpAny_ready (rs := [48, 50]) (by kernel_rfl) (by simp) ?_
            refine AllReady.cons rfl (fun K hK => ?_) ?_
            · simp only [List.getElem_toArray, List.getElem_cons_succ, List.getElem_cons_zero]
              go_simp
              go_at_call 19
              change Calls _ _ #[.slice (some ⟨w10.heap.size, 0, none⟩) 1 1] (w10.alloc (.cells #[.string ⟨#[109]⟩, .int .i64 x, .int .i64 y, .int .i64 z] 27)) _
              refine (HAI.out (w10.alloc (.cells #[.string ⟨#[109]⟩, .int .i64 x, .int .i64 y, .int .i64 z] 27)) w10.heap.size (Blk.made w10 _ [.string ⟨#[109]⟩, .int .i64 x, .int .i64 y, .int .i64 z])).mono ?_
              rintro e w11 ⟨rfl, hb11⟩
              have hV11 := bthen (bthen hV10 (balloc w10 (.cells #[.string ⟨#[109]⟩, .int .i64 x, .int .i64 y, .int .i64 z] 27))) hb11
              skip; have q0w11 := (HXA.out w11 hV11).cell (j := 0) rfl; have q1w11 := (HXA.out w11 hV11).cell (j := 1) rfl; have q2w11 := (HXA.out w11 hV11).cell (j := 2) rfl; have p0w11 := (HXB.out w11 hV11).cell (j := 0) rfl; have p1w11 := (HXB.out w11 hV11).cell (j := 1) rfl; have p2w11 := (HXB.out w11 hV11).cell (j := 2) rfl; have p3w11 := (HXB.out w11 hV11).cell (j := 3) rfl; have l3w11 := (HXA.out w11 hV11).lt; have l4w11 := (HXB.out w11 hV11).lt; have m3w11 : ¬ r3 = w11.heap.size := (by omega); have m3w11q : ¬ w11.heap.size = r3 := (by omega); have m4w11 : ¬ r4 = w11.heap.size := (by omega); have m4w11q : ¬ w11.heap.size = r4 := (by omega); have m5w11 : ¬ r4 = w11.heap.size + 1 := (by omega); have m5w11q : ¬ w11.heap.size + 1 = r4 := (by omega)
              clear hb11
              go_wp2_with fail
              try simp only [Act.put, List.getElem_toArray, List.getElem_cons_succ, List.getElem_cons_zero, List.setIfInBounds_toArray, List.set_cons_succ, List.set_cons_zero]
              refine wpAny_ready (rs := [50]) (by kernel_rfl) (by simp) ?_
              refine AllReady.cons rfl (fun K hK => ?_) ?_
              · simp only [List.getElem_toArray, List.getElem_cons_succ, List.getElem_cons_zero]
                go_simp
                refine hK _ _ ?_
                clear hK K
                try simp only [Act.put, List.getElem_toArray, List.getElem_cons_succ, List.getElem_cons_zero, List.setIfInBounds_toArray, List.set_cons_succ, List.set_cons_zero]
                refine wpAny_ready (rs := [51]) (by kernel_rfl) (by simp) ?_
                refine AllReady.cons rfl (fun K hK => ?_) ?_
                · simp only [List.getElem_toArray, List.getElem_cons_succ, List.getElem_cons_zero]
                  go_simp
                  go_at_call 20
                  change Calls _ _ #[.slice (some ⟨w11.heap.size, 0, none⟩) 1 1] (w11.alloc (.cells #[.string ⟨#[109]⟩, .int .i64 x, .int .i64 y, .int .i64 z] 27)) _
                  refine (HAS.out (w11.alloc (.cells #[.string ⟨#[109]⟩, .int .i64 x, .int .i64 y, .int .i64 z] 27)) w11.heap.size (Blk.made w11 _ [.string ⟨#[109]⟩, .int .i64 x, .int .i64 y, .int .i64 z])).mono ?_
                  rintro e w12 ⟨rfl, hb12⟩
                  have hV12 := bthen (bthen hV11 (balloc w11 (.cells #[.string ⟨#[109]⟩, .int .i64 x, .int .i64 y, .int .i64 z] 27))) hb12
                  skip; have q0w12 := (HXA.out w12 hV12).cell (j := 0) rfl; have q1w12 := (HXA.out w12 hV12).cell (j := 1) rfl; have q2w12 := (HXA.out w12 hV12).cell (j := 2) rfl; have p0w12 := (HXB.out w12 hV12).cell (j := 0) rfl; have p1w12 := (HXB.out w12 hV12).cell (j := 1) rfl; have p2w12 := (HXB.out w12 hV12).cell (j := 2) rfl; have p3w12 := (HXB.out w12 hV12).cell (j := 3) rfl; have l3w12 := (HXA.out w12 hV12).lt; have l4w12 := (HXB.out w12 hV12).lt; have m3w12 : ¬ r3 = w12.heap.size := (by omega); have m3w12q : ¬ w12.heap.size = r3 := (by omega); have m4w12 : ¬ r4 = w12.heap.size := (by omega); have m4w12q : ¬ w12.heap.size = r4 := (by omega); have m5w12 : ¬ r4 = w12.heap.size + 1 := (by omega); have m5w12q : ¬ w12.heap.size + 1 = r4 := (by omega)
                  clear hb12
                  go_wp2_with fail
                  try simp only [Act.put, List.getElem_toArray, List.getElem_cons_succ, List.getElem_cons_zero, List.setIfInBounds_toArray, List.set_cons_succ, List.set_cons_zero]
                  refine wpAny_take (i := 52) (v := .bool false) rfl (by kernel_rfl) (by kernel_rfl) (by kernel_rfl) (fun _ _ _ h => h) (Or.inl ⟨by rfl, fun w0 => by go_simp⟩) ?_
                  simp only [Act.put, List.getElem_toArray, List.getElem_cons_succ, List.getElem_cons_zero, List.setIfInBounds_toArray, List.set_cons_succ, List.set_cons_zero]
                  refine wpAny_take (i := 53) (v := .bool false) rfl (by kernel_rfl) (by kernel_rfl) (by kernel_rfl) (fun _ _ _ h => h) (Or.inl ⟨by rfl, fun w0 => by go_simp⟩) ?_
                  simp only [Act.put, List.getElem_toArray, List.getElem_cons_succ, List.getElem_cons_zero, List.setIfInBounds_toArray, List.set_cons_succ, List.set_cons_zero]
                  refine wpAny_done (by kernel_rfl) ?_ _
                  by_cases hbad : bad = 0
                  · have a1 := HL.out.suit hbad
                    obtain ⟨b1, b2, b3, b4, b5, b6⟩ := HL.out.bds hbad
                    have a2 := HL.out.stem hbad
                    try simp only at a1 a2 b5 b6
                    subst hbad
                    by_cases hone : one = 0
                    · obtain ⟨c1, c2, c3, c4, c5⟩ := a2 hone
                      try simp only at c1 c2 c3 c4 c5
                      subst hone
                      by_cases hs1 : x + 60 ≤ hh
                      · by_cases hs2 : hh ≤ x + 350
                        · have hsu : su = true := by rw [a1]; simp [hs1, hs2]
                          clear a1 a2
                          subst hsu
                          go_wp2_with fail
                          all_goals first
                            | (exfalso; omega)
                            | (go_ret; refine ⟨?_, hb0.trans (hV12.mono hb0.size)⟩; first | rfl | exact ret_bool (decide_eq_true (by omega)) | exact ret_bool (by simp; omega))
                        · have hsu : su = false := by rw [a1]; simp [hs2]
                          clear a1 a2
                          subst hsu
                          go_wp2_with fail
                          all_goals first
                            | (exfalso; omega)
                            | (go_ret; refine ⟨?_, hb0.trans (hV12.mono hb0.size)⟩; first | rfl | exact ret_bool (decide_eq_true (by omega)) | exact ret_bool (by simp; omega))
                      · have hsu : su = false := by rw [a1]; simp [hs1]
                        clear a1 a2
                        subst hsu
                        go_wp2_with fail
                        all_goals first
                          | (exfalso; omega)
                          | (go_ret; refine ⟨?_, hb0.trans (hV12.mono hb0.size)⟩; first | rfl | exact ret_bool (decide_eq_true (by omega)) | exact ret_bool (by simp; omega))
                    · have hone' : (one == 0) = false := by simp [hone]
                      have hone2 : (one != 0) = true := by simp [hone]
                      have hsu : su = false := by rw [a1]; simp [hone]
                      clear a1 a2
                      subst hsu
                      go_wp2_with fail
                      all_goals first
                        | (exfalso; omega)
                        | (go_ret; refine ⟨?_, hb0.trans (hV12.mono hb0.size)⟩; first | rfl | exact ret_bool (decide_eq_true (by omega)) | exact ret_bool (by simp; omega))
                  · have hbad' : (bad == 0) = false := by simp [hbad]
                    have hbad2 : (bad != 0) = true := by simp [hbad]
                    go_wp2_with fail
                    all_goals first
                      | (exfalso; omega)
                      | (go_ret; refine ⟨?_, hb0.trans (hV12.mono hb0.size)⟩; first | rfl | exact ret_bool (decide_eq_true (by omega)) | exact ret_bool (by simp; omega))
                exact AllReady.nil
              exact AllReady.nil
            refine AllReady.cons rfl (fun K hK => ?_) ?_
            · simp only [List.getElem_toArray, List.getElem_cons_succ, List.getElem_cons_zero]
              go_simp
              refine hK _ _ ?_
              clear hK K
              try simp only [Act.put, List.getElem_toArray, List.getElem_cons_succ, List.getElem_cons_zero, List.setIfInBounds_toArray, List.set_cons_succ, List.set_cons_zero]
              refine wpAny_ready (rs := [48]) (by kernel_rfl) (by simp) ?_
              refine AllReady.cons rfl (fun K hK => ?_) ?_
              · simp only [List.getElem_toArray, List.getElem_cons_succ, List.getElem_cons_zero]
                go_simp
                go_at_call 19
                change Calls _ _ #[.slice (some ⟨w10.heap.size, 0, none⟩) 1 1] ((w10.alloc (.cells #[.string ⟨#[109]⟩, .int .i64 x, .int .i64 y, .int .i64 z] 27)).alloc (.cells #[.string ⟨#[109]⟩, .int .i64 x, .int .i64 y, .int .i64 z] 27)) _
                refine (HAI.out ((w10.alloc (.cells #[.string ⟨#[109]⟩, .int .i64 x, .int .i64 y, .int .i64 z] 27)).alloc (.cells #[.string ⟨#[109]⟩, .int .i64 x, .int .i64 y, .int .i64 z] 27)) w10.heap.size ((Blk.made w10 _ [.string ⟨#[109]⟩, .int .i64 x, .int .i64 y, .int .i64 z]).next (balloc _ _))).mono ?_
                rintro e w11 ⟨rfl, hb11⟩
                have hV11 := bthen (bthen (bthen hV10 (balloc w10 (.cells #[.string ⟨#[109]⟩, .int .i64 x, .int .i64 y, .int .i64 z] 27))) (balloc _ (.cells #[.string ⟨#[109]⟩, .int .i64 x, .int .i64 y, .int .i64 z] 27))) hb11
                have HG : Hid (Blk w11 (w10.heap.size + 1) 27 [.string ⟨#[109]⟩, .int .i64 x, .int .i64 y, .int .i64 z]) := Lib.hid (by have h9 := (Blk.made (w10.alloc (.cells #[.string ⟨#[109]⟩, .int .i64 x, .int .i64 y, .int .i64 z] 27)) 27 [.string ⟨#[109]⟩, .int .i64 x, .int .i64 y, .int .i64 z]).next hb11; simpa using h9)
                skip; have q0w11 := (HXA.out w11 hV11).cell (j := 0) rfl; have q1w11 := (HXA.out w11 hV11).cell (j := 1) rfl; have q2w11 := (HXA.out w11 hV11).cell (j := 2) rfl; have p0w11 := (HXB.out w11 hV11).cell (j := 0) rfl; have p1w11 := (HXB.out w11 hV11).cell (j := 1) rfl; have p2w11 := (HXB.out w11 hV11).cell (j := 2) rfl; have p3w11 := (HXB.out w11 hV11).cell (j := 3) rfl; have l3w11 := (HXA.out w11 hV11).lt; have l4w11 := (HXB.out w11 hV11).lt; have m3w11 : ¬ r3 = w11.heap.size := (by omega); have m3w11q : ¬ w11.heap.size = r3 := (by omega); have m4w11 : ¬ r4 = w11.heap.size := (by omega); have m4w11q : ¬ w11.heap.size = r4 := (by omega); have m5w11 : ¬ r4 = w11.heap.size + 1 := (by omega); have m5w11q : ¬ w11.heap.size + 1 = r4 := (by omega)
                clear hb11
                go_wp2_with fail
                try simp only [Act.put, List.getElem_toArray, List.getElem_cons_succ, List.getElem_cons_zero, List.setIfInBounds_toArray, List.set_cons_succ, List.set_cons_zero]
                refine wpAny_ready (rs := [51]) (by kernel_rfl) (by simp) ?_
                refine AllReady.cons rfl (fun K hK => ?_) ?_
                · simp only [List.getElem_toArray, List.getElem_cons_succ, List.getElem_cons_zero]
                  go_simp
                  go_at_call 20
                  refine (HAS.out w11 _ HG.out).mono ?_
                  rintro e w12 ⟨rfl, hb12⟩
                  have hV12 := bthen hV11 hb12
                  skip; have q0w12 := (HXA.out w12 hV12).cell (j := 0) rfl; have q1w12 := (HXA.out w12 hV12).cell (j := 1) rfl; have q2w12 := (HXA.out w12 hV12).cell (j := 2) rfl; have p0w12 := (HXB.out w12 hV12).cell (j := 0) rfl; have p1w12 := (HXB.out w12 hV12).cell (j := 1) rfl; have p2w12 := (HXB.out w12 hV12).cell (j := 2) rfl; have p3w12 := (HXB.out w12 hV12).cell (j := 3) rfl; have l3w12 := (HXA.out w12 hV12).lt; have l4w12 := (HXB.out w12 hV12).lt; have m3w12 : ¬ r3 = w12.heap.size := (by omega); have m3w12q : ¬ w12.heap.size = r3 := (by omega); have m4w12 : ¬ r4 = w12.heap.size := (by omega); have m4w12q : ¬ w12.heap.size = r4 := (by omega); have m5w12 : ¬ r4 = w12.heap.size + 1 := (by omega); have m5w12q : ¬ w12.heap.size + 1 = r4 := (by omega)
                  clear hb12
                  go_wp2_with fail
                  try simp only [Act.put, List.getElem_toArray, List.getElem_cons_succ, List.getElem_cons_zero, List.setIfInBounds_toArray, List.set_cons_succ, List.set_cons_zero]
                  refine wpAny_take (i := 52) (v := .bool false) rfl (by kernel_rfl) (by kernel_rfl) (by kernel_rfl) (fun _ _ _ h => h) (Or.inl ⟨by rfl, fun w0 => by go_simp⟩) ?_
                  simp only [Act.put, List.getElem_toArray, List.getElem_cons_succ, List.getElem_cons_zero, List.setIfInBounds_toArray, List.set_cons_succ, List.set_cons_zero]
                  refine wpAny_take (i := 53) (v := .bool false) rfl (by kernel_rfl) (by kernel_rfl) (by kernel_rfl) (fun _ _ _ h => h) (Or.inl ⟨by rfl, fun w0 => by go_simp⟩) ?_
                  simp only [Act.put, List.getElem_toArray, List.getElem_cons_succ, List.getElem_cons_zero, List.setIfInBounds_toArray, List.set_cons_succ, List.set_cons_zero]
                  refine wpAny_done (by kernel_rfl) ?_ _
                  by_cases hbad : bad = 0
                  · have a1 := HL.out.suit hbad
                    obtain ⟨b1, b2, b3, b4, b5, b6⟩ := HL.out.bds hbad
                    have a2 := HL.out.stem hbad
                    try simp only at a1 a2 b5 b6
                    subst hbad
                    by_cases hone : one = 0
                    · obtain ⟨c1, c2, c3, c4, c5⟩ := a2 hone
                      try simp only at c1 c2 c3 c4 c5
                      subst hone
                      by_cases hs1 : x + 60 ≤ hh
                      · by_cases hs2 : hh ≤ x + 350
                        · have hsu : su = true := by rw [a1]; simp [hs1, hs2]
                          clear a1 a2
                          subst hsu
                          go_wp2_with fail
                          all_goals first
                            | (exfalso; omega)
                            | (go_ret; refine ⟨?_, hb0.trans (hV12.mono hb0.size)⟩; first | rfl | exact ret_bool (decide_eq_true (by omega)) | exact ret_bool (by simp; omega))
                        · have hsu : su = false := by rw [a1]; simp [hs2]
                          clear a1 a2
                          subst hsu
                          go_wp2_with fail
                          all_goals first
                            | (exfalso; omega)
                            | (go_ret; refine ⟨?_, hb0.trans (hV12.mono hb0.size)⟩; first | rfl | exact ret_bool (decide_eq_true (by omega)) | exact ret_bool (by simp; omega))
                      · have hsu : su = false := by rw [a1]; simp [hs1]
                        clear a1 a2
                        subst hsu
                        go_wp2_with fail
                        all_goals first
                          | (exfalso; omega)
                          | (go_ret; refine ⟨?_, hb0.trans (hV12.mono hb0.size)⟩; first | rfl | exact ret_bool (decide_eq_true (by omega)) | exact ret_bool (by simp; omega))
                    · have hone' : (one == 0) = false := by simp [hone]
                      have hone2 : (one != 0) = true := by simp [hone]
                      have hsu : su = false := by rw [a1]; simp [hone]
                      clear a1 a2
                      subst hsu
                      go_wp2_with fail
                      all_goals first
                        | (exfalso; omega)
                        | (go_ret; refine ⟨?_, hb0.trans (hV12.mono hb0.size)⟩; first | rfl | exact ret_bool (decide_eq_true (by omega)) | exact ret_bool (by simp; omega))
                  · have hbad' : (bad == 0) = false := by simp [hbad]
                    have hbad2 : (bad != 0) = true := by simp [hbad]
                    go_wp2_with fail
                    all_goals first
                      | (exfalso; omega)
                      | (go_ret; refine ⟨?_, hb0.trans (hV12.mono hb0.size)⟩; first | rfl | exact ret_bool (decide_eq_true (by omega)) | exact ret_bool (by simp; omega))
                exact AllReady.nil
              exact AllReady.nil
            exact AllReady.nil
          exact AllReady.nil
        refine AllReady.cons rfl (fun K hK => ?_) ?_
        · simp only [List.getElem_toArray, List.getElem_cons_succ, List.getElem_cons_zero]
          go_simp
          refine hK _ _ ?_
          clear hK K
          try simp only [Act.put, List.getElem_toArray, List.getElem_cons_succ, List.getElem_cons_zero, List.setIfInBounds_toArray, List.set_cons_succ, List.set_cons_zero]
          refine wpAny_ready (rs := [47, 50]) (by kernel_rfl) (by simp) ?_
          refine AllReady.cons rfl (fun K hK => ?_) ?_
          · simp only [List.getElem_toArray, List.getElem_cons_succ, List.getElem_cons_zero]
            go_simp
            refine hK _ _ ?_
            clear hK K
            try simp only [Act.put, List.getElem_toArray, List.getElem_cons_succ, List.getElem_cons_zero, List.setIfInBounds_toArray, List.set_cons_succ, List.set_cons_zero]
            refine wpAny_ready (rs := [48, 50]) (by kernel_rfl) (by simp) ?_
            refine AllReady.cons rfl (fun K hK => ?_) ?_
            · simp only [List.getElem_toArray, List.getElem_cons_succ, List.getElem_cons_zero]
              go_simp
              go_at_call 19
              change Calls _ _ #[.slice (some ⟨w10.heap.size, 0, none⟩) 1 1] (w10.alloc (.cells #[.string ⟨#[109]⟩, .int .i64 x, .int .i64 y, .int .i64 z] 27)) _
              refine (HAI.out (w10.alloc (.cells #[.string ⟨#[109]⟩, .int .i64 x, .int .i64 y, .int .i64 z] 27)) w10.heap.size (Blk.made w10 _ [.string ⟨#[109]⟩, .int .i64 x, .int .i64 y, .int .i64 z])).mono ?_
              rintro e w11 ⟨rfl, hb11⟩
              have hV11 := bthen (bthen hV10 (balloc w10 (.cells #[.string ⟨#[109]⟩, .int .i64 x, .int .i64 y, .int .i64 z] 27))) hb11
              skip; have q0w11 := (HXA.out w11 hV11).cell (j := 0) rfl; have q1w11 := (HXA.out w11 hV11).cell (j := 1) rfl; have q2w11 := (HXA.out w11 hV11).cell (j := 2) rfl; have p0w11 := (HXB.out w11 hV11).cell (j := 0) rfl; have p1w11 := (HXB.out w11 hV11).cell (j := 1) rfl; have p2w11 := (HXB.out w11 hV11).cell (j := 2) rfl; have p3w11 := (HXB.out w11 hV11).cell (j := 3) rfl; have l3w11 := (HXA.out w11 hV11).lt; have l4w11 := (HXB.out w11 hV11).lt; have m3w11 : ¬ r3 = w11.heap.size := (by omega); have m3w11q : ¬ w11.heap.size = r3 := (by omega); have m4w11 : ¬ r4 = w11.heap.size := (by omega); have m4w11q : ¬ w11.heap.size = r4 := (by omega); have m5w11 : ¬ r4 = w11.heap.size + 1 := (by omega); have m5w11q : ¬ w11.heap.size + 1 = r4 := (by omega)
              clear hb11
              go_wp2_with fail
              try simp only [Act.put, List.getElem_toArray, List.getElem_cons_succ, List.getElem_cons_zero, List.setIfInBounds_toArray, List.set_cons_succ, List.set_cons_zero]
              refine wpAny_ready (rs := [50]) (by kernel_rfl) (by simp) ?_
              refine AllReady.cons rfl (fun K hK => ?_) ?_
              · simp only [List.getElem_toArray, List.getElem_cons_succ, List.getElem_cons_zero]
                go_simp
                refine hK _ _ ?_
                clear hK K
                try simp only [Act.put, List.getElem_toArray, List.getElem_cons_succ, List.getElem_cons_zero, List.setIfInBounds_toArray, List.set_cons_succ, List.set_cons_zero]
                refine wpAny_ready (rs := [51]) (by kernel_rfl) (by simp) ?_
                refine AllReady.cons rfl (fun K hK => ?_) ?_
                · simp only [List.getElem_toArray, List.getElem_cons_succ, List.getElem_cons_zero]
                  go_simp
                  go_at_call 20
                  change Calls _ _ #[.slice (some ⟨w11.heap.size, 0, none⟩) 1 1] (w11.alloc (.cells #[.string ⟨#[109]⟩, .int .i64 x, .int .i64 y, .int .i64 z] 27)) _
                  refine (HAS.out (w11.alloc (.cells #[.string ⟨#[109]⟩, .int .i64 x, .int .i64 y, .int .i64 z] 27)) w11.heap.size (Blk.made w11 _ [.string ⟨#[109]⟩, .int .i64 x, .int .i64 y, .int .i64 z])).mono ?_
                  rintro e w12 ⟨rfl, hb12⟩
                  have hV12 := bthen (bthen hV11 (balloc w11 (.cells #[.string ⟨#[109]⟩, .int .i64 x, .int .i64 y, .int .i64 z] 27))) hb12
                  skip; have q0w12 := (HXA.out w12 hV12).cell (j := 0) rfl; have q1w12 := (HXA.out w12 hV12).cell (j := 1) rfl; have q2w12 := (HXA.out w12 hV12).cell (j := 2) rfl; have p0w12 := (HXB.out w12 hV12).cell (j := 0) rfl; have p1w12 := (HXB.out w12 hV12).cell (j := 1) rfl; have p2w12 := (HXB.out w12 hV12).cell (j := 2) rfl; have p3w12 := (HXB.out w12 hV12).cell (j := 3) rfl; have l3w12 := (HXA.out w12 hV12).lt; have l4w12 := (HXB.out w12 hV12).lt; have m3w12 : ¬ r3 = w12.heap.size := (by omega); have m3w12q : ¬ w12.heap.size = r3 := (by omega); have m4w12 : ¬ r4 = w12.heap.size := (by omega); have m4w12q : ¬ w12.heap.size = r4 := (by omega); have m5w12 : ¬ r4 = w12.heap.size + 1 := (by omega); have m5w12q : ¬ w12.heap.size + 1 = r4 := (by omega)
                  clear hb12
                  go_wp2_with fail
                  try simp only [Act.put, List.getElem_toArray, List.getElem_cons_succ, List.getElem_cons_zero, List.setIfInBounds_toArray, List.set_cons_succ, List.set_cons_zero]
                  refine wpAny_take (i := 52) (v := .bool false) rfl (by kernel_rfl) (by kernel_rfl) (by kernel_rfl) (fun _ _ _ h => h) (Or.inl ⟨by rfl, fun w0 => by go_simp⟩) ?_
                  simp only [Act.put, List.getElem_toArray, List.getElem_cons_succ, List.getElem_cons_zero, List.setIfInBounds_toArray, List.set_cons_succ, List.set_cons_zero]
                  refine wpAny_take (i := 53) (v := .bool false) rfl (by kernel_rfl) (by kernel_rfl) (by kernel_rfl) (fun _ _ _ h => h) (Or.inl ⟨by rfl, fun w0 => by go_simp⟩) ?_
                  simp only [Act.put, List.getElem_toArray, List.getElem_cons_succ, List.getElem_cons_zero, List.setIfInBounds_toArray, List.set_cons_succ, List.set_cons_zero]
                  refine wpAny_done (by kernel_rfl) ?_ _
                  by_cases hbad : bad = 0
                  · have a1 := HL.out.suit hbad
                    obtain ⟨b1, b2, b3, b4, b5, b6⟩ := HL.out.bds hbad
                    have a2 := HL.out.stem hbad
                    try simp only at a1 a2 b5 b6
                    subst hbad
                    by_cases hone : one = 0
                    · obtain ⟨c1, c2, c3, c4, c5⟩ := a2 hone
                      try simp only at c1 c2 c3 c4 c5
                      subst hone
                      by_cases hs1 : x + 60 ≤ hh
                      · by_cases hs2 : hh ≤ x + 350
                        · have hsu : su = true := by rw [a1]; simp [hs1, hs2]
                          clear a1 a2
                          subst hsu
                          go_wp2_with fail
                          all_goals first
                            | (exfalso; omega)
                            | (go_ret; refine ⟨?_, hb0.trans (hV12.mono hb0.size)⟩; first | rfl | exact ret_bool (decide_eq_true (by omega)) | exact ret_bool (by simp; omega))
                        · have hsu : su = false := by rw [a1]; simp [hs2]
                          clear a1 a2
                          subst hsu
                          go_wp2_with fail
                          all_goals first
                            | (exfalso; omega)
                            | (go_ret; refine ⟨?_, hb0.trans (hV12.mono hb0.size)⟩; first | rfl | exact ret_bool (decide_eq_true (by omega)) | exact ret_bool (by simp; omega))
                      · have hsu : su = false := by rw [a1]; simp [hs1]
                        clear a1 a2
                        subst hsu
                        go_wp2_with fail
                        all_goals first
                          | (exfalso; omega)
                          | (go_ret; refine ⟨?_, hb0.trans (hV12.mono hb0.size)⟩; first | rfl | exact ret_bool (decide_eq_true (by omega)) | exact ret_bool (by simp; omega))
                    · have hone' : (one == 0) = false := by simp [hone]
                      have hone2 : (one != 0) = true := by simp [hone]
                      have hsu : su = false := by rw [a1]; simp [hone]
                      clear a1 a2
                      subst hsu
                      go_wp2_with fail
                      all_goals first
                        | (exfalso; omega)
                        | (go_ret; refine ⟨?_, hb0.trans (hV12.mono hb0.size)⟩; first | rfl | exact ret_bool (decide_eq_true (by omega)) | exact ret_bool (by simp; omega))
                  · have hbad' : (bad == 0) = false := by simp [hbad]
                    have hbad2 : (bad != 0) = true := by simp [hbad]
                    go_wp2_with fail
                    all_goals first
                      | (exfalso; omega)
                      | (go_ret; refine ⟨?_, hb0.trans (hV12.mono hb0.size)⟩; first | rfl | exact ret_bool (decide_eq_true (by omega)) | exact ret_bool (by simp; omega))
                exact AllReady.nil
              exact AllReady.nil
            refine AllReady.cons rfl (fun K hK => ?_) ?_
            · simp only [List.getElem_toArray, List.getElem_cons_succ, List.getElem_cons_zero]
              go_simp
              refine hK _ _ ?_
              clear hK K
              try simp only [Act.put, List.getElem_toArray, List.getElem_cons_succ, List.getElem_cons_zero, List.setIfInBounds_toArray, List.set_cons_succ, List.set_cons_zero]
              refine wpAny_ready (rs := [48]) (by kernel_rfl) (by simp) ?_
              refine AllReady.cons rfl (fun K hK => ?_) ?_
              · simp only [List.getElem_toArray, List.getElem_cons_succ, List.getElem_cons_zero]
                go_simp
                go_at_call 19
                change Calls _ _ #[.slice (some ⟨w10.heap.size, 0, none⟩) 1 1] ((w10.alloc (.cells #[.string ⟨#[109]⟩, .int .i64 x, .int .i64 y, .int .i64 z] 27)).alloc (.cells #[.string ⟨#[109]⟩, .int .i64 x, .int .i64 y, .int .i64 z] 27)) _
                refine (HAI.out ((w10.alloc (.cells #[.string ⟨#[109]⟩, .int .i64 x, .int .i64 y, .int .i64 z] 27)).alloc (.cells #[.string ⟨#[109]⟩, .int .i64 x, .int .i64 y, .int .i64 z] 27)) w10.heap.size ((Blk.made w10 _ [.string ⟨#[109]⟩, .int .i64 x, .int .i64 y, .int .i64 z]).next (balloc _ _))).mono ?_
                rintro e w11 ⟨rfl, hb11⟩
                have hV11 := bthen (bthen (bthen hV10 (balloc w10 (.cells #[.string ⟨#[109]⟩, .int .i64 x, .int .i64 y, .int .i64 z] 27))) (balloc _ (.cells #[.string ⟨#[109]⟩, .int .i64 x, .int .i64 y, .int .i64 z] 27))) hb11
                have HG : Hid (Blk w11 (w10.heap.size + 1) 27 [.string ⟨#[109]⟩, .int .i64 x, .int .i64 y, .int .i64 z]) := Lib.hid (by have h9 := (Blk.made (w10.alloc (.cells #[.string ⟨#[109]⟩, .int .i64 x, .int .i64 y, .int .i64 z] 27)) 27 [.string ⟨#[109]⟩, .int .i64 x, .int .i64 y, .int .i64 z]).next hb11; simpa using h9)
                skip; have q0w11 := (HXA.out w11 hV11).cell (j := 0) rfl; have q1w11 := (HXA.out w11 hV11).cell (j := 1) rfl; have q2w11 := (HXA.out w11 hV11).cell (j := 2) rfl; have p0w11 := (HXB.out w11 hV11).cell (j := 0) rfl; have p1w11 := (HXB.out w11 hV11).cell (j := 1) rfl; have p2w11 := (HXB.out w11 hV11).cell (j := 2) rfl; have p3w11 := (HXB.out w11 hV11).cell (j := 3) rfl; have l3w11 := (HXA.out w11 hV11).lt; have l4w11 := (HXB.out w11 hV11).lt; have m3w11 : ¬ r3 = w11.heap.size := (by omega); have m3w11q : ¬ w11.heap.size = r3 := (by omega); have m4w11 : ¬ r4 = w11.heap.size := (by omega); have m4w11q : ¬ w11.heap.size = r4 := (by omega); have m5w11 : ¬ r4 = w11.heap.size + 1 := (by omega); have m5w11q : ¬ w11.heap.size + 1 = r4 := (by omega)
                clear hb11
                go_wp2_with fail
                try simp only [Act.put, List.getElem_toArray, List.getElem_cons_succ, List.getElem_cons_zero, List.setIfInBounds_toArray, List.set_cons_succ, List.set_cons_zero]
                refine wpAny_ready (rs := [51]) (by kernel_rfl) (by simp) ?_
                refine AllReady.cons rfl (fun K hK => ?_) ?_
                · simp only [List.getElem_toArray, List.getElem_cons_succ, List.getElem_cons_zero]
                  go_simp
                  go_at_call 20
                  refine (HAS.out w11 _ HG.out).mono ?_
                  rintro e w12 ⟨rfl, hb12⟩
                  have hV12 := bthen hV11 hb12
                  skip; have q0w12 := (HXA.out w12 hV12).cell (j := 0) rfl; have q1w12 := (HXA.out w12 hV12).cell (j := 1) rfl; have q2w12 := (HXA.out w12 hV12).cell (j := 2) rfl; have p0w12 := (HXB.out w12 hV12).cell (j := 0) rfl; have p1w12 := (HXB.out w12 hV12).cell (j := 1) rfl; have p2w12 := (HXB.out w12 hV12).cell (j := 2) rfl; have p3w12 := (HXB.out w12 hV12).cell (j := 3) rfl; have l3w12 := (HXA.out w12 hV12).lt; have l4w12 := (HXB.out w12 hV12).lt; have m3w12 : ¬ r3 = w12.heap.size := (by omega); have m3w12q : ¬ w12.heap.size = r3 := (by omega); have m4w12 : ¬ r4 = w12.heap.size := (by omega); have m4w12q : ¬ w12.heap.size = r4 := (by omega); have m5w12 : ¬ r4 = w12.heap.size + 1 := (by omega); have m5w12q : ¬ w12.heap.size + 1 = r4 := (by omega)
                  clear hb12
                  go_wp2_with fail
                  try simp only [Act.put, List.getElem_toArray, List.getElem_cons_succ, List.getElem_cons_zero, List.setIfInBounds_toArray, List.set_cons_succ, List.set_cons_zero]
                  refine wpAny_take (i := 52) (v := .bool false) rfl (by kernel_rfl) (by kernel_rfl) (by kernel_rfl) (fun _ _ _ h => h) (Or.inl ⟨by rfl, fun w0 => by go_simp⟩) ?_
                  simp only [Act.put, List.getElem_toArray, List.getElem_cons_succ, List.getElem_cons_zero, List.setIfInBounds_toArray, List.set_cons_succ, List.set_cons_zero]
                  refine wpAny_take (i := 53) (v := .bool false) rfl (by kernel_rfl) (by kernel_rfl) (by kernel_rfl) (fun _ _ _ h => h) (Or.inl ⟨by rfl, fun w0 => by go_simp⟩) ?_
                  simp only [Act.put, List.getElem_toArray, List.getElem_cons_succ, List.getElem_cons_zero, List.setIfInBounds_toArray, List.set_cons_succ, List.set_cons_zero]
                  refine wpAny_done (by kernel_rfl) ?_ _
                  by_cases hbad : bad = 0
                  · have a1 := HL.out.suit hbad
                    obtain ⟨b1, b2, b3, b4, b5, b6⟩ := HL.out.bds hbad
                    have a2 := HL.out.stem hbad
                    try simp only at a1 a2 b5 b6
                    subst hbad
                    by_cases hone : one = 0
                    · obtain ⟨c1, c2, c3, c4, c5⟩ := a2 hone
                      try simp only at c1 c2 c3 c4 c5
                      subst hone
                      by_cases hs1 : x + 60 ≤ hh
                      · by_cases hs2 : hh ≤ x + 350
                        · have hsu : su = true := by rw [a1]; simp [hs1, hs2]
                          clear a1 a2
                          subst hsu
                          go_wp2_with fail
                          all_goals first
                            | (exfalso; omega)
                            | (go_ret; refine ⟨?_, hb0.trans (hV12.mono hb0.size)⟩; first | rfl | exact ret_bool (decide_eq_true (by omega)) | exact ret_bool (by simp; omega))
                        · have hsu : su = false := by rw [a1]; simp [hs2]
                          clear a1 a2
                          subst hsu
                          go_wp2_with fail
                          all_goals first
                            | (exfalso; omega)
                            | (go_ret; refine ⟨?_, hb0.trans (hV12.mono hb0.size)⟩; first | rfl | exact ret_bool (decide_eq_true (by omega)) | exact ret_bool (by simp; omega))
                      · have hsu : su = false := by rw [a1]; simp [hs1]
                        clear a1 a2
                        subst hsu
                        go_wp2_with fail
                        all_goals first
                          | (exfalso; omega)
                          | (go_ret; refine ⟨?_, hb0.trans (hV12.mono hb0.size)⟩; first | rfl | exact ret_bool (decide_eq_true (by omega)) | exact ret_bool (by simp; omega))
                    · have hone' : (one == 0) = false := by simp [hone]
                      have hone2 : (one != 0) = true := by simp [hone]
                      have hsu : su = false := by rw [a1]; simp [hone]
                      clear a1 a2
                      subst hsu
                      go_wp2_with fail
                      all_goals first
                        | (exfalso; omega)
                        | (go_ret; refine ⟨?_, hb0.trans (hV12.mono hb0.size)⟩; first | rfl | exact ret_bool (decide_eq_true (by omega)) | exact ret_bool (by simp; omega))
                  · have hbad' : (bad == 0) = false := by simp [hbad]
                    have hbad2 : (bad != 0) = true := by simp [hbad]
                    go_wp2_with fail
                    all_goals first
                      | (exfalso; omega)
                      | (go_ret; refine ⟨?_, hb0.trans (hV12.mono hb0.size)⟩; first | rfl | exact ret_bool (decide_eq_true (by omega)) | exact ret_bool (by simp; omega))
                exact AllReady.nil
              exact AllReady.nil
            exact AllReady.nil
          refine AllReady.cons rfl (fun K hK => ?_) ?_
          · simp only [List.getElem_toArray, List.getElem_cons_succ, List.getElem_cons_zero]
            go_simp
            refine hK _ _ ?_
            clear hK K
            try simp only [Act.put, List.getElem_toArray, List.getElem_cons_succ, List.getElem_cons_zero, List.setIfInBounds_toArray, List.set_cons_succ, List.set_cons_zero]
            refine wpAny_ready (rs := [47]) (by kernel_rfl) (by simp) ?_
            refine AllReady.cons rfl (fun K hK => ?_) ?_
            · simp only [List.getElem_toArray, List.getElem_cons_succ, List.getElem_cons_zero]
              go_simp
              refine hK _ _ ?_
              clear hK K
              try simp only [Act.put, List.getElem_toArray, List.getElem_cons_succ, List.getElem_cons_zero, List.setIfInBounds_toArray, List.set_cons_succ, List.set_cons_zero]
              refine wpAny_ready (rs := [48]) (by kernel_rfl) (by simp) ?_
              refine AllReady.cons rfl (fun K hK => ?_) ?_
              · simp only [List.getElem_toArray, List.getElem_cons_succ, List.getElem_cons_zero]
                go_simp
                go_at_call 19
                change Calls _ _ #[.slice (some ⟨w10.heap.size + 1, 0, none⟩) 1 1] ((w10.alloc (.cells #[.string ⟨#[109]⟩, .int .i64 x, .int .i64 y, .int .i64 z] 27)).alloc (.cells #[.string ⟨#[109]⟩, .int .i64 x, .int .i64 y, .int .i64 z] 27)) _
                refine (HAI.out ((w10.alloc (.cells #[.string ⟨#[109]⟩, .int .i64 x, .int .i64 y, .int .i64 z] 27)).alloc (.cells #[.string ⟨#[109]⟩, .int .i64 x, .int .i64 y, .int .i64 z] 27)) (w10.heap.size + 1) (by have h9 := Blk.made (w10.alloc (.cells #[.string ⟨#[109]⟩, .int .i64 x, .int .i64 y, .int .i64 z] 27)) 27 [.string ⟨#[109]⟩, .int .i64 x, .int .i64 y, .int .i64 z]; simpa using h9)).mono ?_
                rintro e w11 ⟨rfl, hb11⟩
                have hV11 := bthen (bthen (bthen hV10 (balloc w10 (.cells #[.string ⟨#[109]⟩, .int .i64 x, .int .i64 y, .int .i64 z] 27))) (balloc _ (.cells #[.string ⟨#[109]⟩, .int .i64 x, .int .i64 y, .int .i64 z] 27))) hb11
                have HG : Hid (Blk w11 w10.heap.size 27 [.string ⟨#[109]⟩, .int .i64 x, .int .i64 y, .int .i64 z]) := (((Blk.made w10 27 [.string ⟨#[109]⟩, .int .i64 x, .int .i64 y, .int .i64 z]).next (balloc _ (.cells #[.string ⟨#[109]⟩, .int .i64 x, .int .i64 y, .int .i64 z] 27))).next hb11)
                skip; have q0w11 := (HXA.out w11 hV11).cell (j := 0) rfl; have q1w11 := (HXA.out w11 hV11).cell (j := 1) rfl; have q2w11 := (HXA.out w11 hV11).cell (j := 2) rfl; have p0w11 := (HXB.out w11 hV11).cell (j := 0) rfl; have p1w11 := (HXB.out w11 hV11).cell (j := 1) rfl; have p2w11 := (HXB.out w11 hV11).cell (j := 2) rfl; have p3w11 := (HXB.out w11 hV11).cell (j := 3) rfl; have l3w11 := (HXA.out w11 hV11).lt; have l4w11 := (HXB.out w11 hV11).lt; have m3w11 : ¬ r3 = w11.heap.size := (by omega); have m3w11q : ¬ w11.heap.size = r3 := (by omega); have m4w11 : ¬ r4 = w11.heap.size := (by omega); have m4w11q : ¬ w11.heap.size = r4 := (by omega); have m5w11 : ¬ r4 = w11.heap.size + 1 := (by omega); have m5w11q : ¬ w11.heap.size + 1 = r4 := (by omega)
                clear hb11
                go_wp2_with fail
                try simp only [Act.put, List.getElem_toArray, List.getElem_cons_succ, List.getElem_cons_zero, List.setIfInBounds_toArray, List.set_cons_succ, List.set_cons_zero]
                refine wpAny_ready (rs := [51]) (by kernel_rfl) (by simp) ?_
                refine AllReady.cons rfl (fun K hK => ?_) ?_
                · simp only [List.getElem_toArray, List.getElem_cons_succ, List.getElem_cons_zero]
                  go_simp
                  go_at_call 20
                  refine (HAS.out w11 _ HG.out).mono ?_
                  rintro e w12 ⟨rfl, hb12⟩
                  have hV12 := bthen hV11 hb12
                  skip; have q0w12 := (HXA.out w12 hV12).cell (j := 0) rfl; have q1w12 := (HXA.out w12 hV12).cell (j := 1) rfl; have q2w12 := (HXA.out w12 hV12).cell (j := 2) rfl; have p0w12 := (HXB.out w12 hV12).cell (j := 0) rfl; have p1w12 := (HXB.out w12 hV12).cell (j := 1) rfl; have p2w12 := (HXB.out w12 hV12).cell (j := 2) rfl; have p3w12 := (HXB.out w12 hV12).cell (j := 3) rfl; have l3w12 := (HXA.out w12 hV12).lt; have l4w12 := (HXB.out w12 hV12).lt; have m3w12 : ¬ r3 = w12.heap.size := (by omega); have m3w12q : ¬ w12.heap.size = r3 := (by omega); have m4w12 : ¬ r4 = w12.heap.size := (by omega); have m4w12q : ¬ w12.heap.size = r4 := (by omega); have m5w12 : ¬ r4 = w12.heap.size + 1 := (by omega); have m5w12q : ¬ w12.heap.size + 1 = r4 := (by omega)
                  clear hb12
                  go_wp2_with fail
                  try simp only [Act.put, List.getElem_toArray, List.getElem_cons_succ, List.getElem_cons_zero, List.setIfInBounds_toArray, List.set_cons_succ, List.set_cons_zero]
                  refine wpAny_take (i := 52) (v := .bool false) rfl (by kernel_rfl) (by kernel_rfl) (by kernel_rfl) (fun _ _ _ h => h) (Or.inl ⟨by rfl, fun w0 => by go_simp⟩) ?_
                  simp only [Act.put, List.getElem_toArray, List.getElem_cons_succ, List.getElem_cons_zero, List.setIfInBounds_toArray, List.set_cons_succ, List.set_cons_zero]
                  refine wpAny_take (i := 53) (v := .bool false) rfl (by kernel_rfl) (by kernel_rfl) (by kernel_rfl) (fun _ _ _ h => h) (Or.inl ⟨by rfl, fun w0 => by go_simp⟩) ?_
                  simp only [Act.put, List.getElem_toArray, List.getElem_cons_succ, List.getElem_cons_zero, List.setIfInBounds_toArray, List.set_cons_succ, List.set_cons_zero]
                  refine wpAny_done (by kernel_rfl) ?_ _
                  by_cases hbad : bad = 0
                  · have a1 := HL.out.suit hbad
                    obtain ⟨b1, b2, b3, b4, b5, b6⟩ := HL.out.bds hbad
                    have a2 := HL.out.stem hbad
                    try simp only at a1 a2 b5 b6
                    subst hbad
                    by_cases hone : one = 0
                    · obtain ⟨c1, c2, c3, c4, c5⟩ := a2 hone
                      try simp only at c1 c2 c3 c4 c5
                      subst hone
                      by_cases hs1 : x + 60 ≤ hh
                      · by_cases hs2 : hh ≤ x + 350
                        · have hsu : su = true := by rw [a1]; simp [hs1, hs2]
                          clear a1 a2
                          subst hsu
                          go_wp2_with fail
                          all_goals first
                            | (exfalso; omega)
                            | (go_ret; refine ⟨?_, hb0.trans (hV12.mono hb0.size)⟩; first | rfl | exact ret_bool (decide_eq_true (by omega)) | exact ret_bool (by simp; omega))
                        · have hsu : su = false := by rw [a1]; simp [hs2]
                          clear a1 a2
                          subst hsu
                          go_wp2_with fail
                          all_goals first
                            | (exfalso; omega)
                            | (go_ret; refine ⟨?_, hb0.trans (hV12.mono hb0.size)⟩; first | rfl | exact ret_bool (decide_eq_true (by omega)) | exact ret_bool (by simp; omega))
                      · have hsu : su = false := by rw [a1]; simp [hs1]
                        clear a1 a2
                        subst hsu
                        go_wp2_with fail
                        all_goals first
                          | (exfalso; omega)
                          | (go_ret; refine ⟨?_, hb0.trans (hV12.mono hb0.size)⟩; first | rfl | exact ret_bool (decide_eq_true (by omega)) | exact ret_bool (by simp; omega))
                    · have hone' : (one == 0) = false := by simp [hone]
                      have hone2 : (one != 0) = true := by simp [hone]
                      have hsu : su = false := by rw [a1]; simp [hone]
                      clear a1 a2
                      subst hsu
                      go_wp2_with fail
                      all_goals first
                        | (exfalso; omega)
                        | (go_ret; refine ⟨?_, hb0.trans (hV12.mono hb0.size)⟩; first | rfl | exact ret_bool (decide_eq_true (by omega)) | exact ret_bool (by simp; omega))
                  · have hbad' : (bad == 0) = false := by simp [hbad]
                    have hbad2 : (bad != 0) = true := by simp [hbad]
                    go_wp2_with fail
                    all_goals first
                      | (exfalso; omega)
                      | (go_ret; refine ⟨?_, hb0.trans (hV12.mono hb0.size)⟩; first | rfl | exact ret_bool (decide_eq_true (by omega)) | exact ret_bool (by simp; omega))
                exact AllReady.nil
              exact AllReady.nil
            exact AllReady.nil
          exact AllReady.nil
        exact AllReady.nil
      refine AllReady.cons rfl (fun K hK => ?_) ?_
      · simp only [List.getElem_toArray, List.getElem_cons_succ, List.getElem_cons_zero]
        go_simp
        refine hK _ _ ?_
        clear hK K
        try simp only [Act.put, List.getElem_toArray, List.getElem_cons_succ, List.getElem_cons_zero, List.setIfInBounds_toArray, List.set_cons_succ, List.set_cons_zero]
        refine wpAny_ready (rs := [46, 50]) (by kernel_rfl) (by simp) ?_
        refine AllReady.cons rfl (fun K hK => ?_) ?_
        · simp only [List.getElem_toArray, List.getElem_cons_succ, List.getElem_cons_zero]
          go_simp
          refine hK _ _ ?_
          clear hK K
          try simp only [Act.put, List.getElem_toArray, List.getElem_cons_succ, List.getElem_cons_zero, List.setIfInBounds_toArray, List.set_cons_succ, List.set_cons_zero]
          refine wpAny_ready (rs := [47, 50]) (by kernel_rfl) (by simp) ?_
          refine AllReady.cons rfl (fun K hK => ?_) ?_
          · simp only [List.getElem_toArray, List.getElem_cons_succ, List.getElem_cons_zero]
            go_simp
            refine hK _ _ ?_
            clear hK K
            try simp only [Act.put, List.getElem_toArray, List.getElem_cons_succ, List.getElem_cons_zero, List.setIfInBounds_toArray, List.set_cons_succ, List.set_cons_zero]
            refine wpAny_ready (rs := [48, 50]) (by kernel_rfl) (by simp) ?_
            refine AllReady.cons rfl (fun K hK => ?_) ?_
            · simp only [List.getElem_toArray, List.getElem_cons_succ, List.getElem_cons_zero]
              go_simp
              go_at_call 19
              change Calls _ _ #[.slice (some ⟨w10.heap.size, 0, none⟩) 1 1] (w10.alloc (.cells #[.string ⟨#[109]⟩, .int .i64 x, .int .i64 y, .int .i64 z] 27)) _
              refine (HAI.out (w10.alloc (.cells #[.string ⟨#[109]⟩, .int .i64 x, .int .i64 y, .int .i64 z] 27)) w10.heap.size (Blk.made w10 _ [.string ⟨#[109]⟩, .int .i64 x, .int .i64 y, .int .i64 z])).mono ?_
              rintro e w11 ⟨rfl, hb11⟩
              have hV11 := bthen (bthen hV10 (balloc w10 (.cells #[.string ⟨#[109]⟩, .int .i64 x, .int .i64 y, .int .i64 z] 27))) hb11
              skip; have q0w11 := (HXA.out w11 hV11).cell (j := 0) rfl; have q1w11 := (HXA.out w11 hV11).cell (j := 1) rfl; have q2w11 := (HXA.out w11 hV11).cell (j := 2) rfl; have p0w11 := (HXB.out w11 hV11).cell (j := 0) rfl; have p1w11 := (HXB.out w11 hV11).cell (j := 1) rfl; have p2w11 := (HXB.out w11 hV11).cell (j := 2) rfl; have p3w11 := (HXB.out w11 hV11).cell (j := 3) rfl; have l3w11 := (HXA.out w11 hV11).lt; have l4w11 := (HXB.out w11 hV11).lt; have m3w11 : ¬ r3 = w11.heap.size := (by omega); have m3w11q : ¬ w11.heap.size = r3 := (by omega); have m4w11 : ¬ r4 = w11.heap.size := (by omega); have m4w11q : ¬ w11.heap.size = r4 := (by omega); have m5w11 : ¬ r4 = w11.heap.size + 1 := (by omega); have m5w11q : ¬ w11.heap.size + 1 = r4 := (by omega)
              clear hb11
              go_wp2_with fail
              try simp only [Act.put, List.getElem_toArray, List.getElem_cons_succ, List.getElem_cons_zero, List.setIfInBounds_toArray, List.set_cons_succ, List.set_cons_zero]
              refine wpAny_ready (rs := [50]) (by kernel_rfl) (by simp) ?_
              refine AllReady.cons rfl (fun K hK => ?_) ?_
              · simp only [List.getElem_toArray, List.getElem_cons_succ, List.getElem_cons_zero]
                go_simp
                refine hK _ _ ?_
                clear hK K
                try simp only [Act.put, List.getElem_toArray, List.getElem_cons_succ, List.getElem_cons_zero, List.setIfInBounds_toArray, List.set_cons_succ, List.set_cons_zero]
                refine wpAny_ready (rs := [51]) (by kernel_rfl) (by simp) ?_
                refine AllReady.cons rfl (fun K hK => ?_) ?_
                · simp only [List.getElem_toArray, List.getElem_cons_succ, List.getElem_cons_zero]
                  go_simp
                  go_at_call 20
                  change Calls _ _ #[.slice (some ⟨w11.heap.size, 0, none⟩) 1 1] (w11.alloc (.cells #[.string ⟨#[109]⟩, .int .i64 x, .int .i64 y, .int .i64 z] 27)) _
                  refine (HAS.out (w11.alloc (.cells #[.string ⟨#[109]⟩, .int .i64 x, .int .i64 y, .int .i64 z] 27)) w11.heap.size (Blk.made w11 _ [.string ⟨#[109]⟩, .int .i64 x, .int .i64 y, .int .i64 z])).mono ?_
                  rintro e w12 ⟨rfl, hb12⟩
                  have hV12 := bthen (bthen hV11 (balloc w11 (.cells #[.string ⟨#[109]⟩, .int .i64 x, .int .i64 y, .int .i64 z] 27))) hb12
                  skip; have q0w12 := (HXA.out w12 hV12).cell (j := 0) rfl; have q1w12 := (HXA.out w12 hV12).cell (j := 1) rfl; have q2w12 := (HXA.out w12 hV12).cell (j := 2) rfl; have p0w12 := (HXB.out w12 hV12).cell (j := 0) rfl; have p1w12 := (HXB.out w12 hV12).cell (j := 1) rfl; have p2w12 := (HXB.out w12 hV12).cell (j := 2) rfl; have p3w12 := (HXB.out w12 hV12).cell (j := 3) rfl; have l3w12 := (HXA.out w12 hV12).lt; have l4w12 := (HXB.out w12 hV12).lt; have m3w12 : ¬ r3 = w12.heap.size := (by omega); have m3w12q : ¬ w12.heap.size = r3 := (by omega); have m4w12 : ¬ r4 = w12.heap.size := (by omega); have m4w12q : ¬ w12.heap.size = r4 := (by omega); have m5w12 : ¬ r4 = w12.heap.size + 1 := (by omega); have m5w12q : ¬ w12.heap.size + 1 = r4 := (by omega)
                  clear hb12
                  go_wp2_with fail
                  try simp only [Act.put, List.getElem_toArray, List.getElem_cons_succ, List.getElem_cons_zero, List.setIfInBounds_toArray, List.set_cons_succ, List.set_cons_zero]
                  refine wpAny_take (i := 52) (v := .bool false) rfl (by kernel_rfl) (by kernel_rfl) (by kernel_rfl) (fun _ _ _ h => h) (Or.inl ⟨by rfl, fun w0 => by go_simp⟩) ?_
                  simp only [Act.put, List.getElem_toArray, List.getElem_cons_succ, List.getElem_cons_zero, List.setIfInBounds_toArray, List.set_cons_succ, List.set_cons_zero]
                  refine wpAny_take (i := 53) (v := .bool false) rfl (by kernel_rfl) (by kernel_rfl) (by kernel_rfl) (fun _ _ _ h => h) (Or.inl ⟨by rfl, fun w0 => by go_simp⟩) ?_
                  simp only [Act.put, List.getElem_toArray, List.getElem_cons_succ, List.getElem_cons_zero, List.setIfInBounds_toArray, List.set_cons_succ, List.set_cons_zero]
                  refine wpAny_done (by kernel_rfl) ?_ _
                  by_cases hbad : bad = 0
                  · have a1 := HL.out.suit hbad
                    obtain ⟨b1, b2, b3, b4, b5, b6⟩ := HL.out.bds hbad
                    have a2 := HL.out.stem hbad
                    try simp only at a1 a2 b5 b6
                    subst hbad
                    by_cases hone : one = 0
                    · obtain ⟨c1, c2, c3, c4, c5⟩ := a2 hone
                      try simp only at c1 c2 c3 c4 c5
                      subst hone
                      by_cases hs1 : x + 60 ≤ hh
                      · by_cases hs2 : hh ≤ x + 350
                        · have hsu : su = true := by rw [a1]; simp [hs1, hs2]
                          clear a1 a2
                          subst hsu
                          go_wp2_with fail
                          all_goals first
                            | (exfalso; omega)
                            | (go_ret; refine ⟨?_, hb0.trans (hV12.mono hb0.size)⟩; first | rfl | exact ret_bool (decide_eq_true (by omega)) | exact ret_bool (by simp; omega))
                        · have hsu : su = false := by rw [a1]; simp [hs2]
                          clear a1 a2
                          subst hsu
                          go_wp2_with fail
                          all_goals first
                            | (exfalso; omega)
                            | (go_ret; refine ⟨?_, hb0.trans (hV12.mono hb0.size)⟩; first | rfl | exact ret_bool (decide_eq_true (by omega)) | exact ret_bool (by simp; omega))
                      · have hsu : su = false := by rw [a1]; simp [hs1]
                        clear a1 a2
                        subst hsu
                        go_wp2_with fail
                        all_goals first
                          | (exfalso; omega)
                          | (go_ret; refine ⟨?_, hb0.trans (hV12.mono hb0.size)⟩; first | rfl | exact ret_bool (decide_eq_true (by omega)) | exact ret_bool (by simp; omega))
                    · have hone' : (one == 0) = false := by simp [hone]
                      have hone2 : (one != 0) = true := by simp [hone]
                      have hsu : su = false := by rw [a1]; simp [hone]
                      clear a1 a2
                      subst hsu
                      go_wp2_with fail
                      all_goals first
                        | (exfalso; omega)
                        | (go_ret; refine ⟨?_, hb0.trans (hV12.mono hb0.size)⟩; first | rfl | exact ret_bool (decide_eq_true (by omega)) | exact ret_bool (by simp; omega))
                  · have hbad' : (bad == 0) = false := by simp [hbad]
                    have hbad2 : (bad != 0) = true := by simp [hbad]
                    go_wp2_with fail
                    all_goals first
                      | (exfalso; omega)
                      | (go_ret; refine ⟨?_, hb0.trans (hV12.mono hb0.size)⟩; first | rfl | exact ret_bool (decide_eq_true (by omega)) | exact ret_bool (by simp; omega))
                exact AllReady.nil
              exact AllReady.nil
            refine AllReady.cons rfl (fun K hK => ?_) ?_
            · simp only [List.getElem_toArray, List.getElem_cons_succ, List.getElem_cons_zero]
              go_simp
              refine hK _ _ ?_
              clear hK K
              try simp only [Act.put, List.getElem_toArray, List.getElem_cons_succ, List.getElem_cons_zero, List.setIfInBounds_toArray, List.set_cons_succ, List.set_cons_zero]
              refine wpAny_ready (rs := [48]) (by kernel_rfl) (by simp) ?_
              refine AllReady.cons rfl (fun K hK => ?_) ?_
              · simp only [List.getElem_toArray, List.getElem_cons_succ, List.getElem_cons_zero]
                go_simp
                go_at_call 19
                change Calls _ _ #[.slice (some ⟨w10.heap.size, 0, none⟩) 1 1] ((w10.alloc (.cells #[.string ⟨#[109]⟩, .int .i64 x, .int .i64 y, .int .i64 z] 27)).alloc (.cells #[.string ⟨#[109]⟩, .int .i64 x, .int .i64 y, .int .i64 z] 27)) _
                refine (HAI.out ((w10.alloc (.cells #[.string ⟨#[109]⟩, .int .i64 x, .int .i64 y, .int .i64 z] 27)).alloc (.cells #[.string ⟨#[109]⟩, .int .i64 x, .int .i64 y, .int .i64 z] 27)) w10.heap.size ((Blk.made w10 _ [.string ⟨#[109]⟩, .int .i64 x, .int .i64 y, .int .i64 z]).next (balloc _ _))).mono ?_
                rintro e w11 ⟨rfl, hb11⟩
                have hV11 := bthen (bthen (bthen hV10 (balloc w10 (.cells #[.string ⟨#[109]⟩, .int .i64 x, .int .i64 y, .int .i64 z] 27))) (balloc _ (.cells #[.string ⟨#[109]⟩, .int .i64 x, .int .i64 y, .int .i64 z] 27))) hb11
                have HG : Hid (Blk w11 (w10.heap.size + 1) 27 [.string ⟨#[109]⟩, .int .i64 x, .int .i64 y, .int .i64 z]) := Lib.hid (by have h9 := (Blk.made (w10.alloc (.cells #[.string ⟨#[109]⟩, .int .i64 x, .int .i64 y, .int .i64 z] 27)) 27 [.string ⟨#[109]⟩, .int .i64 x, .int .i64 y, .int .i64 z]).next hb11; simpa using h9)
                skip; have q0w11 := (HXA.out w11 hV11).cell (j := 0) rfl; have q1w11 := (HXA.out w11 hV11).cell (j := 1) rfl; have q2w11 := (HXA.out w11 hV11).cell (j := 2) rfl; have p0w11 := (HXB.out w11 hV11).cell (j := 0) rfl; have p1w11 := (HXB.out w11 hV11).cell (j := 1) rfl; have p2w11 := (HXB.out w11 hV11).cell (j := 2) rfl; have p3w11 := (HXB.out w11 hV11).cell (j := 3) rfl; have l3w11 := (HXA.out w11 hV11).lt; have l4w11 := (HXB.out w11 hV11).lt; have m3w11 : ¬ r3 = w11.heap.size := (by omega); have m3w11q : ¬ w11.heap.size = r3 := (by omega); have m4w11 : ¬ r4 = w11.heap.size := (by omega); have m4w11q : ¬ w11.heap.size = r4 := (by omega); have m5w11 : ¬ r4 = w11.heap.size + 1 := (by omega); have m5w11q : ¬ w11.heap.size + 1 = r4 := (by omega)
                clear hb11
                go_wp2_with fail
                try simp only [Act.put, List.getElem_toArray, List.getElem_cons_succ, List.getElem_cons_zero, List.setIfInBounds_toArray, List.set_cons_succ, List.set_cons_zero]
                refine wpAny_ready (rs := [51]) (by kernel_rfl) (by simp) ?_
                refine AllReady.cons rfl (fun K hK => ?_) ?_
                · simp only [List.getElem_toArray, List.getElem_cons_succ, List.getElem_cons_zero]
                  go_simp
                  go_at_call 20
                  refine (HAS.out w11 _ HG.out).mono ?_
                  rintro e w12 ⟨rfl, hb12⟩
                  have hV12 := bthen hV11 hb12
                  skip; have q0w12 := (HXA.out w12 hV12).cell (j := 0) rfl; have q1w12 := (HXA.out w12 hV12).cell (j := 1) rfl; have q2w12 := (HXA.out w12 hV12).cell (j := 2) rfl; have p0w12 := (HXB.out w12 hV12).cell (j := 0) rfl; have p1w12 := (HXB.out w12 hV12).cell (j := 1) rfl; have p2w12 := (HXB.out w12 hV12).cell (j := 2) rfl; have p3w12 := (HXB.out w12 hV12).cell (j := 3) rfl; have l3w12 := (HXA.out w12 hV12).lt; have l4w12 := (HXB.out w12 hV12).lt; have m3w12 : ¬ r3 = w12.heap.size := (by omega); have m3w12q : ¬ w12.heap.size = r3 := (by omega); have m4w12 : ¬ r4 = w12.heap.size := (by omega); have m4w12q : ¬ w12.heap.size = r4 := (by omega); have m5w12 : ¬ r4 = w12.heap.size + 1 := (by omega); have m5w12q : ¬ w12.heap.size + 1 = r4 := (by omega)
                  clear hb12
                  go_wp2_with fail
                  try simp only [Act.put, List.getElem_toArray, List.getElem_cons_succ, List.getElem_cons_zero, List.setIfInBounds_toArray, List.set_cons_succ, List.set_cons_zero]
                  refine wpAny_take (i := 52) (v := .bool false) rfl (by kernel_rfl) (by kernel_rfl) (by kernel_rfl) (fun _ _ _ h => h) (Or.inl ⟨by rfl, fun w0 => by go_simp⟩) ?_
                  simp only [Act.put, List.getElem_toArray, List.getElem_cons_succ, List.getElem_cons_zero, List.setIfInBounds_toArray, List.set_cons_succ, List.set_cons_zero]
                  refine wpAny_take (i := 53) (v := .bool false) rfl (by kernel_rfl) (by kernel_rfl) (by kernel_rfl) (fun _ _ _ h => h) (Or.inl ⟨by rfl, fun w0 => by go_simp⟩) ?_
                  simp only [Act.put, List.getElem_toArray, List.getElem_cons_succ, List.getElem_cons_zero, List.setIfInBounds_toArray, List.set_cons_succ, List.set_cons_zero]
                  refine wpAny_done (by kernel_rfl) ?_ _
                  by_cases hbad : bad = 0
                  · have a1 := HL.out.suit hbad
                    obtain ⟨b1, b2, b3, b4, b5, b6⟩ := HL.out.bds hbad
                    have a2 := HL.out.stem hbad
                    try simp only at a1 a2 b5 b6
                    subst hbad
                    by_cases hone : one = 0
                    · obtain ⟨c1, c2, c3, c4, c5⟩ := a2 hone
                      try simp only at c1 c2 c3 c4 c5
                      subst hone
                      by_cases hs1 : x + 60 ≤ hh
                      · by_cases hs2 : hh ≤ x + 350
                        · have hsu : su = true := by rw [a1]; simp [hs1, hs2]
                          clear a1 a2
                          subst hsu
                          go_wp2_with fail
                          all_goals first
                            | (exfalso; omega)
                            | (go_ret; refine ⟨?_, hb0.trans (hV12.mono hb0.size)⟩; first | rfl | exact ret_bool (decide_eq_true (by omega)) | exact ret_bool (by simp; omega))
                        · have hsu : su = false := by rw [a1]; simp [hs2]
                          clear a1 a2
                          subst hsu
                          go_wp2_with fail
                          all_goals first
                            | (exfalso; omega)
                            | (go_ret; refine ⟨?_, hb0.trans (hV12.mono hb0.size)⟩; first | rfl | exact ret_bool (decide_eq_true (by omega)) | exact ret_bool (by simp; omega))
                      · have hsu : su = false := by rw [a1]; simp [hs1]
                        clear a1 a2
                        subst hsu
                        go_wp2_with fail
                        all_goals first
                          | (exfalso; omega)
                          | (go_ret; refine ⟨?_, hb0.trans (hV12.mono hb0.size)⟩; first | rfl | exact ret_bool (decide_eq_true (by omega)) | exact ret_bool (by simp; omega))
                    · have hone' : (one == 0) = false := by simp [hone]
                      have hone2 : (one != 0) = true := by simp [hone]
                      have hsu : su = false := by rw [a1]; simp [hone]
                      clear a1 a2
                      subst hsu
                      go_wp2_with fail
                      all_goals first
                        | (exfalso; omega)
                        | (go_ret; refine ⟨?_, hb0.trans (hV12.mono hb0.size)⟩; first | rfl | exact ret_bool (decide_eq_true (by omega)) | exact ret_bool (by simp; omega))
                  · have hbad' : (bad == 0) = false := by simp [hbad]
                    have hbad2 : (bad != 0) = true := by simp [hbad]
                    go_wp2_with fail
                    all_goals first
                      | (exfalso; omega)
                      | (go_ret; refine ⟨?_, hb0.trans (hV12.mono hb0.size)⟩; first | rfl | exact ret_bool (decide_eq_true (by omega)) | exact ret_bool (by simp; omega))
                exact AllReady.nil
              exact AllReady.nil
            exact AllReady.nil
          refine AllReady.cons rfl (fun K hK => ?_) ?_
          · simp only [List.getElem_toArray, List.getElem_cons_succ, List.getElem_cons_zero]
            go_simp
            refine hK _ _ ?_
            clear hK K
            try simp only [Act.put, List.getElem_toArray, List.getElem_cons_succ, List.getElem_cons_zero, List.setIfInBounds_toArray, List.set_cons_succ, List.set_cons_zero]
            refine wpAny_ready (rs := [47]) (by kernel_rfl) (by simp) ?_
            refine AllReady.cons rfl (fun K hK => ?_) ?_
            · simp only [List.getElem_toArray, List.getElem_cons_succ, List.getElem_cons_zero]
              go_simp
              refine hK _ _ ?_
              clear hK K
              try simp only [Act.put, List.getElem_toArray, List.getElem_cons_succ, List.getElem_cons_zero, List.setIfInBounds_toArray, List.set_cons_succ, List.set_cons_zero]
              refine wpAny_ready (rs := [48]) (by kernel_rfl) (by simp) ?_
              refine AllReady.cons rfl (fun K hK => ?_) ?_
              · simp only [List.getElem_toArray, List.getElem_cons_succ, List.getElem_cons_zero]
                go_simp
                go_at_call 19
                change Calls _ _ #[.slice (some ⟨w10.heap.size + 1, 0, none⟩) 1 1] ((w10.alloc (.cells #[.string ⟨#[109]⟩, .int .i64 x, .int .i64 y, .int .i64 z] 27)).alloc (.cells #[.string ⟨#[109]⟩, .int .i64 x, .int .i64 y, .int .i64 z] 27)) _
                refine (HAI.out ((w10.alloc (.cells #[.string ⟨#[109]⟩, .int .i64 x, .int .i64 y, .int .i64 z] 27)).alloc (.cells #[.string ⟨#[109]⟩, .int .i64 x, .int .i64 y, .int .i64 z] 27)) (w10.heap.size + 1) (by have h9 := Blk.made (w10.alloc (.cells #[.string ⟨#[109]⟩, .int .i64 x, .int .i64 y, .int .i64 z] 27)) 27 [.string ⟨#[109]⟩, .int .i64 x, .int .i64 y, .int .i64 z]; simpa using h9)).mono ?_
                rintro e w11 ⟨rfl, hb11⟩
                have hV11 := bthen (bthen (bthen hV10 (balloc w10 (.cells #[.string ⟨#[109]⟩, .int .i64 x, .int .i64 y, .int .i64 z] 27))) (balloc _ (.cells #[.string ⟨#[109]⟩, .int .i64 x, .int .i64 y, .int .i64 z] 27))) hb11
                have HG : Hid (Blk w11 w10.heap.size 27 [.string ⟨#[109]⟩, .int .i64 x, .int .i64 y, .int .i64 z]) := (((Blk.made w10 27 [.string ⟨#[109]⟩, .int .i64 x, .int .i64 y, .int .i64 z]).next (balloc _ (.cells #[.string ⟨#[109]⟩, .int .i64 x, .int .i64 y, .int .i64 z] 27))).next hb11)
                skip; have q0w11 := (HXA.out w11 hV11).cell (j := 0) rfl; have q1w11 := (HXA.out w11 hV11).cell (j := 1) rfl; have q2w11 := (HXA.out w11 hV11).cell (j := 2) rfl; have p0w11 := (HXB.out w11 hV11).cell (j := 0) rfl; have p1w11 := (HXB.out w11 hV11).cell (j := 1) rfl; have p2w11 := (HXB.out w11 hV11).cell (j := 2) rfl; have p3w11 := (HXB.out w11 hV11).cell (j := 3) rfl; have l3w11 := (HXA.out w11 hV11).lt; have l4w11 := (HXB.out w11 hV11).lt; have m3w11 : ¬ r3 = w11.heap.size := (by omega); have m3w11q : ¬ w11.heap.size = r3 := (by omega); have m4w11 : ¬ r4 = w11.heap.size := (by omega); have m4w11q : ¬ w11.heap.size = r4 := (by omega); have m5w11 : ¬ r4 = w11.heap.size + 1 := (by omega); have m5w11q : ¬ w11.heap.size + 1 = r4 := (by omega)
                clear hb11
                go_wp2_with fail
                try simp only [Act.put, List.getElem_toArray, List.getElem_cons_succ, List.getElem_cons_zero, List.setIfInBounds_toArray, List.set_cons_succ, List.set_cons_zero]
                refine wpAny_ready (rs := [51]) (by kernel_rfl) (by simp) ?_
                refine AllReady.cons rfl (fun K hK => ?_) ?_
                · simp only [List.getElem_toArray, List.getElem_cons_succ, List.getElem_cons_zero]
                  go_simp
                  go_at_call 20
                  refine (HAS.out w11 _ HG.out).mono ?_
                  rintro e w12 ⟨rfl, hb12⟩
                  have hV12 := bthen hV11 hb12
                  skip; have q0w12 := (HXA.out w12 hV12).cell (j := 0) rfl; have q1w12 := (HXA.out w12 hV12).cell (j := 1) rfl; have q2w12 := (HXA.out w12 hV12).cell (j := 2) rfl; have p0w12 := (HXB.out w12 hV12).cell (j := 0) rfl; have p1w12 := (HXB.out w12 hV12).cell (j := 1) rfl; have p2w12 := (HXB.out w12 hV12).cell (j := 2) rfl; have p3w12 := (HXB.out w12 hV12).cell (j := 3) rfl; have l3w12 := (HXA.out w12 hV12).lt; have l4w12 := (HXB.out w12 hV12).lt; have m3w12 : ¬ r3 = w12.heap.size := (by omega); have m3w12q : ¬ w12.heap.size = r3 := (by omega); have m4w12 : ¬ r4 = w12.heap.size := (by omega); have m4w12q : ¬ w12.heap.size = r4 := (by omega); have m5w12 : ¬ r4 = w12.heap.size + 1 := (by omega); have m5w12q : ¬ w12.heap.size + 1 = r4 := (by omega)
                  clear hb12
                  go_wp2_with fail
                  try simp only [Act.put, List.getElem_toArray, List.getElem_cons_succ, List.getElem_cons_zero, List.setIfInBounds_toArray, List.set_cons_succ, List.set_cons_zero]
                  refine wpAny_take (i := 52) (v := .bool false) rfl (by kernel_rfl) (by kernel_rfl) (by kernel_rfl) (fun _ _ _ h => h) (Or.inl ⟨by rfl, fun w0 => by go_simp⟩) ?_
                  simp only [Act.put, List.getElem_toArray, List.getElem_cons_succ, List.getElem_cons_zero, List.setIfInBounds_toArray, List.set_cons_succ, List.set_cons_zero]
                  refine wpAny_take (i := 53) (v := .bool false) rfl (by kernel_rfl) (by kernel_rfl) (by kernel_rfl) (fun _ _ _ h => h) (Or.inl ⟨by rfl, fun w0 => by go_simp⟩) ?_
                  simp only [Act.put, List.getElem_toArray, List.getElem_cons_succ, List.getElem_cons_zero, List.setIfInBounds_toArray, List.set_cons_succ, List.set_cons_zero]
                  refine wpAny_done (by kernel_rfl) ?_ _
                  by_cases hbad : bad = 0
                  · have a1 := HL.out.suit hbad
                    obtain ⟨b1, b2, b3, b4, b5, b6⟩ := HL.out.bds hbad
                    have a2 := HL.out.stem hbad
                    try simp only at a1 a2 b5 b6
                    subst hbad
                    by_cases hone : one = 0
                    · obtain ⟨c1, c2, c3, c4, c5⟩ := a2 hone
                      try simp only at c1 c2 c3 c4 c5
                      subst hone
                      by_cases hs1 : x + 60 ≤ hh
                      · by_cases hs2 : hh ≤ x + 350
                        · have hsu : su = true := by rw [a1]; simp [hs1, hs2]
                          clear a1 a2
                          subst hsu
                          go_wp2_with fail
                          all_goals first
                            | (exfalso; omega)
                            | (go_ret; refine ⟨?_, hb0.trans (hV12.mono hb0.size)⟩; first | rfl | exact ret_bool (decide_eq_true (by omega)) | exact ret_bool (by simp; omega))
                        · have hsu : su = false := by rw [a1]; simp [hs2]
                          clear a1 a2
                          subst hsu
                          go_wp2_with fail
                          all_goals first
                            | (exfalso; omega)
                            | (go_ret; refine ⟨?_, hb0.trans (hV12.mono hb0.size)⟩; first | rfl | exact ret_bool (decide_eq_true (by omega)) | exact ret_bool (by simp; omega))
                      · have hsu : su = false := by rw [a1]; simp [hs1]
                        clear a1 a2
                        subst hsu
                        go_wp2_with fail
                        all_goals first
                          | (exfalso; omega)
                          | (go_ret; refine ⟨?_, hb0.trans (hV12.mono hb0.size)⟩; first | rfl | exact ret_bool (decide_eq_true (by omega)) | exact ret_bool (by simp; omega))
                    · have hone' : (one == 0) = false := by simp [hone]
                      have hone2 : (one != 0) = true := by simp [hone]
                      have hsu : su = false := by rw [a1]; simp [hone]
                      clear a1 a2
                      subst hsu
                      go_wp2_with fail
                      all_goals first
                        | (exfalso; omega)
                        | (go_ret; refine ⟨?_, hb0.trans (hV12.mono hb0.size)⟩; first | rfl | exact ret_bool (decide_eq_true (by omega)) | exact ret_bool (by simp; omega))
                  · have hbad' : (bad == 0) = false := by simp [hbad]
                    have hbad2 : (bad != 0) = true := by simp [hbad]
                    go_wp2_with fail
                    all_goals first
                      | (exfalso; omega)
                      | (go_ret; refine ⟨?_, hb0.trans (hV12.mono hb0.size)⟩; first | rfl | exact ret_bool (decide_eq_true (by omega)) | exact ret_bool (by simp; omega))
                exact AllReady.nil
              exact AllReady.nil
            exact AllReady.nil
          exact AllReady.nil
        refine AllReady.cons rfl (fun K hK => ?_) ?_
        · simp only [List.getElem_toArray, List.getElem_cons_succ, List.getElem_cons_zero]
          go_simp
          refine hK _ _ ?_
          clear hK K
          try simp only [Act.put, List.getElem_toArray, List.getElem_cons_succ, List.getElem_cons_zero, List.setIfInBounds_toArray, List.set_cons_succ, List.set_cons_zero]
          refine wpAny_ready (rs := [46]) (by kernel_rfl) (by simp) ?_
          refine AllReady.cons rfl (fun K hK => ?_) ?_
          · simp only [List.getElem_toArray, List.getElem_cons_succ, List.getElem_cons_zero]
            go_simp
            refine hK _ _ ?_
            clear hK K
            try simp only [Act.put, List.getElem_toArray, List.getElem_cons_succ, List.getElem_cons_zero, List.setIfInBounds_toArray, List.set_cons_succ, List.set_cons_zero]
            refine wpAny_ready (rs := [47]) (by kernel_rfl) (by simp) ?_
            refine AllReady.cons rfl (fun K hK => ?_) ?_
            · simp only [List.getElem_toArray, List.getElem_cons_succ, List.getElem_cons_zero]
              go_simp
              refine hK _ _ ?_
              clear hK K
              try simp only [Act.put, List.getElem_toArray, List.getElem_cons_succ, List.getElem_cons_zero, List.setIfInBounds_toArray, List.set_cons_succ, List.set_cons_zero]
              refine wpAny_ready (rs := [48]) (by kernel_rfl) (by simp) ?_
              refine AllReady.cons rfl (fun K hK => ?_) ?_
              · simp only [List.getElem_toArray, List.getElem_cons_succ, List.getElem_cons_zero]
                go_simp
                go_at_call 19
                change Calls _ _ #[.slice (some ⟨w10.heap.size + 1, 0, none⟩) 1 1] ((w10.alloc (.cells #[.string ⟨#[109]⟩, .int .i64 x, .int .i64 y, .int .i64 z] 27)).alloc (.cells #[.string ⟨#[109]⟩, .int .i64 x, .int .i64 y, .int .i64 z] 27)) _
                refine (HAI.out ((w10.alloc (.cells #[.string ⟨#[109]⟩, .int .i64 x, .int .i64 y, .int .i64 z] 27)).alloc (.cells #[.string ⟨#[109]⟩, .int .i64 x, .int .i64 y, .int .i64 z] 27)) (w10.heap.size + 1) (by have h9 := Blk.made (w10.alloc (.cells #[.string ⟨#[109]⟩, .int .i64 x, .int .i64 y, .int .i64 z] 27)) 27 [.string ⟨#[109]⟩, .int .i64 x, .int .i64 y, .int .i64 z]; simpa using h9)).mono ?_
                rintro e w11 ⟨rfl, hb11⟩
                have hV11 := bthen (bthen (bthen hV10 (balloc w10 (.cells #[.string ⟨#[109]⟩, .int .i64 x, .int .i64 y, .int .i64 z] 27))) (balloc _ (.cells #[.string ⟨#[109]⟩, .int .i64 x, .int .i64 y, .int .i64 z] 27))) hb11
                have HG : Hid (Blk w11 w10.heap.size 27 [.string ⟨#[109]⟩, .int .i64 x, .int .i64 y, .int .i64 z]) := (((Blk.made w10 27 [.string ⟨#[109]⟩, .int .i64 x, .int .i64 y, .int .i64 z]).next (balloc _ (.cells #[.string ⟨#[109]⟩, .int .i64 x, .int .i64 y, .int .i64 z] 27))).next hb11)
                skip; have q0w11 := (HXA.out w11 hV11).cell (j := 0) rfl; have q1w11 := (HXA.out w11 hV11).cell (j := 1) rfl; have q2w11 := (HXA.out w11 hV11).cell (j := 2) rfl; have p0w11 := (HXB.out w11 hV11).cell (j := 0) rfl; have p1w11 := (HXB.out w11 hV11).cell (j := 1) rfl; have p2w11 := (HXB.out w11 hV11).cell (j := 2) rfl; have p3w11 := (HXB.out w11 hV11).cell (j := 3) rfl; have l3w11 := (HXA.out w11 hV11).lt; have l4w11 := (HXB.out w11 hV11).lt; have m3w11 : ¬ r3 = w11.heap.size := (by omega); have m3w11q : ¬ w11.heap.size = r3 := (by omega); have m4w11 : ¬ r4 = w11.heap.size := (by omega); have m4w11q : ¬ w11.heap.size = r4 := (by omega); have m5w11 : ¬ r4 = w11.heap.size + 1 := (by omega); have m5w11q : ¬ w11.heap.size + 1 = r4 := (by omega)
                clear hb11
                go_wp2_with fail
                try simp only [Act.put, List.getElem_toArray, List.getElem_cons_succ, List.getElem_cons_zero, List.setIfInBounds_toArray, List.set_cons_succ, List.set_cons_zero]
                refine wpAny_ready (rs := [51]) (by kernel_rfl) (by simp) ?_
                refine AllReady.cons rfl (fun K hK => ?_) ?_
                · simp only [List.getElem_toArray, List.getElem_cons_succ, List.getElem_cons_zero]
                  go_simp
                  go_at_call 20
                  refine (HAS.out w11 _ HG.out).mono ?_
                  rintro e w12 ⟨rfl, hb12⟩
                  have hV12 := bthen hV11 hb12
                  skip; have q0w12 := (HXA.out w12 hV12).cell (j := 0) rfl; have q1w12 := (HXA.out w12 hV12).cell (j := 1) rfl; have q2w12 := (HXA.out w12 hV12).cell (j := 2) rfl; have p0w12 := (HXB.out w12 hV12).cell (j := 0) rfl; have p1w12 := (HXB.out w12 hV12).cell (j := 1) rfl; have p2w12 := (HXB.out w12 hV12).cell (j := 2) rfl; have p3w12 := (HXB.out w12 hV12).cell (j := 3) rfl; have l3w12 := (HXA.out w12 hV12).lt; have l4w12 := (HXB.out w12 hV12).lt; have m3w12 : ¬ r3 = w12.heap.size := (by omega); have m3w12q : ¬ w12.heap.size = r3 := (by omega); have m4w12 : ¬ r4 = w12.heap.size := (by omega); have m4w12q : ¬ w12.heap.size = r4 := (by omega); have m5w12 : ¬ r4 = w12.heap.size + 1 := (by omega); have m5w12q : ¬ w12.heap.size + 1 = r4 := (by omega)
                  clear hb12
                  go_wp2_with fail
                  try simp only [Act.put, List.getElem_toArray, List.getElem_cons_succ, List.getElem_cons_zero, List.setIfInBounds_toArray, List.set_cons_succ, List.set_cons_zero]
                  refine wpAny_take (i := 52) (v := .bool false) rfl (by kernel_rfl) (by kernel_rfl) (by kernel_rfl) (fun _ _ _ h => h) (Or.inl ⟨by rfl, fun w0 => by go_simp⟩) ?_
                  simp only [Act.put, List.getElem_toArray, List.getElem_cons_succ, List.getElem_cons_zero, List.setIfInBounds_toArray, List.set_cons_succ, List.set_cons_zero]
                  refine wpAny_take (i := 53) (v := .bool false) rfl (by kernel_rfl) (by kernel_rfl) (by kernel_rfl) (fun _ _ _ h => h) (Or.inl ⟨by rfl, fun w0 => by go_simp⟩) ?_
                  simp only [Act.put, List.getElem_toArray, List.getElem_cons_succ, List.getElem_cons_zero, List.setIfInBounds_toArray, List.set_cons_succ, List.set_cons_zero]
                  refine wpAny_done (by kernel_rfl) ?_ _
                  by_cases hbad : bad = 0
                  · have a1 := HL.out.suit hbad
                    obtain ⟨b1, b2, b3, b4, b5, b6⟩ := HL.out.bds hbad
                    have a2 := HL.out.stem hbad
                    try simp only at a1 a2 b5 b6
                    subst hbad
                    by_cases hone : one = 0
                    · obtain ⟨c1, c2, c3, c4, c5⟩ := a2 hone
                      try simp only at c1 c2 c3 c4 c5
                      subst hone
                      by_cases hs1 : x + 60 ≤ hh
                      · by_cases hs2 : hh ≤ x + 350
                        · have hsu : su = true := by rw [a1]; simp [hs1, hs2]
                          clear a1 a2
                          subst hsu
                          go_wp2_with fail
                          all_goals first
                            | (exfalso; omega)
                            | (go_ret; refine ⟨?_, hb0.trans (hV12.mono hb0.size)⟩; first | rfl | exact ret_bool (decide_eq_true (by omega)) | exact ret_bool (by simp; omega))
                        · have hsu : su = false := by rw [a1]; simp [hs2]
                          clear a1 a2
                          subst hsu
                          go_wp2_with fail
                          all_goals first
                            | (exfalso; omega)
                            | (go_ret; refine ⟨?_, hb0.trans (hV12.mono hb0.size)⟩; first | rfl | exact ret_bool (decide_eq_true (by omega)) | exact ret_bool (by simp; omega))
                      · have hsu : su = false := by rw [a1]; simp [hs1]
                        clear a1 a2
                        subst hsu
                        go_wp2_with fail
                        all_goals first
                          | (exfalso; omega)
                          | (go_ret; refine ⟨?_, hb0.trans (hV12.mono hb0.size)⟩; first | rfl | exact ret_bool (decide_eq_true (by omega)) | exact ret_bool (by simp; omega))
                    · have hone' : (one == 0) = false := by simp [hone]
                      have hone2 : (one != 0) = true := by simp [hone]
                      have hsu : su = false := by rw [a1]; simp [hone]
                      clear a1 a2
                      subst hsu
                      go_wp2_with fail
                      all_goals first
                        | (exfalso; omega)
                        | (go_ret; refine ⟨?_, hb0.trans (hV12.mono hb0.size)⟩; first | rfl | exact ret_bool (decide_eq_true (by omega)) | exact ret_bool (by simp; omega))
                  · have hbad' : (bad == 0) = false := by simp [hbad]
                    have hbad2 : (bad != 0) = true := by simp [hbad]
                    go_wp2_with fail
                    all_goals first
                      | (exfalso; omega)
                      | (go_ret; refine ⟨?_, hb0.trans (hV12.mono hb0.size)⟩; first | rfl | exact ret_bool (decide_eq_true (by omega)) | exact ret_bool (by simp; omega))
                exact AllReady.nil
              exact AllReady.nil
            exact AllReady.nil
          exact AllReady.nil
        exact AllReady.nil
      exact AllReady.nil
    exact AllReady.nil
  exact AllReady.nil

set_option maxRecDepth 100000 in
theorem fnRiders_lifted (os : Os) (started : os.Started) (H : Type) (enc : TypeId × Value → H) :
    ReturnsInHanded {} Try.checked os 3 .any (Rows.fnRidersSpec.pre6 enc Try.prog Try.f3 Rows.fnRidersRow.domain false) (Rows.fnRidersSpec.post enc Try.prog Try.f3 false true false false) := by
  refine returnsInHanded_of_change (C := Try.checked) own started (by kernel_rfl) Try.func3
    (ChangeSpec.witness6 (enc := enc) (C := Try.checked) false ⟨#[], #[.slice none 0 0], []⟩ 8 (by kernel_rfl) (by kernel_rfl) (by kernel_rfl) (by kernel_rfl)) ?_
  intro W base args ds gs before hval0 hW hcnd _
  have hval : ∀ (j : Nat) t v, Try.f3.params[j]? = some t → args[j]? = some v → Value.okWide Try.prog W .any base t v := hval0
  have hlt : ∀ x ∈ before, x.block < W.heap.size := fun x hx => hW.lt x hx
  have hW' := hW
  obtain ⟨p, q, hA0, hV, rfl, hfz, hnd⟩ := hW
  have hA : DataW.TrodAll enc Try.prog W 0 (fun _ => true) true Try.f3.params.toList args.toList ds p := hA0
  rw [Try.params3] at hA hval
  obtain ⟨v0, d0, rfl, rfl, h0⟩ := trodAll_one hA
  obtain ⟨A, c, xs, rfl, hm, hx, hr⟩ := open_bytes (hval 0 22 v0 rfl rfl) h0
  refine (law_FnRiders A c xs W hr hx hm).mono fun e W' ⟨he, hb⟩ => ?_
  subst he
  exact ⟨_, rfl, law_post (tb := 4) laidOut (by kernel_rfl) rfl rfl Try.underlying4 hW' rfl hb⟩
theorem fnRiders_closed : joinedFacts Try.prog 3 Try.f3 Rows.fnRidersSpec Rows.fnRidersRow = true := by
  unfold joinedFacts; rw [mayEnter_yes, liftsFinal_no, make_cut]; kernel_rfl
theorem fnRiders_holds : Rows.FnRidersSaid :=
  OpenClaim.holds_of_wide 3 Try.f3 rfl rfl rfl rfl rfl rfl rfl ⟨rfl, rfl, rfl, rfl, rfl⟩ rfl rfl rfl rfl rfl (by kernel_rfl) Try.func3 fnRiders_closed
    (of_decide_eq_true (by kernel_rfl)) (by unfold Func.isWrapper; rw [if_neg (of_decide_eq_false (by kernel_rfl))]; exact ⟨rfl, rfl⟩)
    (fun os started H enc _ => fnRiders_lifted os started H enc)
#print axioms fnRiders_holds

end Go.Proofs.Ytfdnpobppelhaaa
