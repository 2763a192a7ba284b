/- DERIVED. The best stem for a rider and a size; whether a size suits. -/
import Derived.Test.YtfdnpobppelhaaaRider
import Derived.Test.YtfdnpobppelhaaaSizes
namespace Go.Proofs.Ytfdnpobppelhaaa
set_option maxRecDepth 100000
open Go.RowKit

/-- The program's choice among the first k stems: the stem and what it leaves. -/
def stemI (reach wanted : Int) : Nat → Int × Int
  | 0 => (0, 6)
  | k + 1 => if absI (reach + (60 + 10 * (k : Int)) - wanted - 100) < (stemI reach wanted k).2 then (60 + 10 * (k : Int), absI (reach + (60 + 10 * (k : Int)) - wanted - 100)) else stemI reach wanted k
/-- The reference's. -/
def stemS (reach wanted : Int) : Nat → Int × Int
  | 0 => (0, -1)
  | k + 1 => if (stemS reach wanted k).2 < 0 ∨ absI (reach + (60 + 10 * (k : Int)) - wanted - 100) < (stemS reach wanted k).2 then (60 + 10 * (k : Int), absI (reach + (60 + 10 * (k : Int)) - wanted - 100)) else stemS reach wanted k
theorem absI_nonneg (n : Int) : 0 ≤ absI n := by unfold absI; split <;> omega
/-- They agree: where the least rest is at most 5 both have the same stem; else the program has none. -/
theorem stem_same (a b : Int) : ∀ k : Nat, ((stemS a b k).2 < 0 ∧ k = 0 ∧ stemI a b k = (0, 6)) ∨ (0 ≤ (stemS a b k).2 ∧ (stemS a b k).2 ≤ 5 ∧ stemI a b k = stemS a b k ∧ 60 ≤ (stemS a b k).1) ∨ (5 < (stemS a b k).2 ∧ stemI a b k = (0, 6))
  | 0 => Or.inl ⟨by simp [stemS], rfl, rfl⟩
  | k + 1 => by
    have h := stem_same a b k
    have hn := absI_nonneg (a + (60 + 10 * (k : Int)) - b - 100)
    simp only [stemI, stemS]
    generalize absI (a + (60 + 10 * (k : Int)) - b - 100) = d at hn ⊢
    rcases h with ⟨h1, rfl, h3⟩ | ⟨h1, h2, h3, h4⟩ | ⟨h1, h3⟩
    · rw [if_pos (Or.inl h1), h3]
      by_cases hd : d < 6
      · rw [if_pos hd]
        exact Or.inr (Or.inl ⟨hn, by omega, rfl, by simp⟩)
      · rw [if_neg hd]
        exact Or.inr (Or.inr ⟨by simp only; omega, rfl⟩)
    · rw [h3]
      by_cases hd : d < (stemS a b k).2
      · rw [if_pos hd, if_pos (Or.inr hd)]
        exact Or.inr (Or.inl ⟨hn, by simp only; omega, rfl, by simp only; omega⟩)
      · rw [if_neg hd, if_neg (by omega)]
        exact Or.inr (Or.inl ⟨h1, h2, rfl, h4⟩)
    · rw [h3]
      by_cases hd : d < 6
      · rw [if_pos hd, if_pos (by omega)]
        exact Or.inr (Or.inl ⟨hn, by simp only; omega, rfl, by simp only; omega⟩)
      · rw [if_neg hd]
        by_cases hd2 : d < (stemS a b k).2
        · rw [if_pos (Or.inr hd2)]
          exact Or.inr (Or.inr ⟨by simp only; omega, rfl⟩)
        · rw [if_neg (by omega)]
          exact Or.inr (Or.inr ⟨h1, rfl⟩)

theorem reachN_bd {h i a : Int} (r : riderB h i a = true) : -100 ≤ reachN h i a ∧ reachN h i a ≤ 2000 := by
  obtain ⟨r1, r2, r3, r4, r5, r6, r7⟩ := riderB_true r
  unfold reachN
  omega
theorem okSize_true {x : ByteArray × Int × Int × Int} (h : okSize x = true) : 300 ≤ x.2.1 ∧ x.2.1 ≤ 700 ∧ 250 ≤ x.2.2.1 ∧ x.2.2.1 ≤ 700 := by
  simp [okSize, inB] at h
  omega

set_option maxHeartbeats 1000000 in
theorem stemFor_any (h i a : Int) (r : riderB h i a = true) (n : ByteArray) (x y z : Int) (hs : okSize (n, x, y, z) = true) (w : World) :
    Calls Try.prog 65 #[.agg #[.int .i64 h, .int .i64 i, .int .i64 a], .agg #[.string n, .int .i64 x, .int .i64 y, .int .i64 z]] w fun e w' => e = .returned (.int .i64 (stemI y (reachN h i a) 8).1) ∧ Below w.heap.size w w' := by
  obtain ⟨q1, q2, q3, q4⟩ := okSize_true hs
  simp only at q1 q2 q3 q4
  obtain ⟨p1, p2⟩ := reachN_bd r
  have Hr := Lib.hid r; clear r hs
  go_enter Try.func65, Try.ntmps65
  go_wp2_with fail
  have c0 : ((w.alloc (.cells #[.int .i64 h, .int .i64 i, .int .i64 a] 25)).alloc (.cells #[.string n, .int .i64 x, .int .i64 y, .int .i64 z] 27)).cell? ⟨w.heap.size, 0, none⟩ = some (.int .i64 h) := by go_simp
  have c1 : ((w.alloc (.cells #[.int .i64 h, .int .i64 i, .int .i64 a] 25)).alloc (.cells #[.string n, .int .i64 x, .int .i64 y, .int .i64 z] 27)).cell? ⟨w.heap.size, 1, none⟩ = some (.int .i64 i) := by go_simp
  have c2 : ((w.alloc (.cells #[.int .i64 h, .int .i64 i, .int .i64 a] 25)).alloc (.cells #[.string n, .int .i64 x, .int .i64 y, .int .i64 z] 27)).cell? ⟨w.heap.size, 2, none⟩ = some (.int .i64 a) := by go_simp
  have c3 : ((w.alloc (.cells #[.int .i64 h, .int .i64 i, .int .i64 a] 25)).alloc (.cells #[.string n, .int .i64 x, .int .i64 y, .int .i64 z] 27)).cell? ⟨w.heap.size + 1, 2, none⟩ = some (.int .i64 y) := by go_simp
  have hbw := bthen (balloc w (.cells #[.int .i64 h, .int .i64 i, .int .i64 a] 25)) (balloc _ (.cells #[.string n, .int .i64 x, .int .i64 y, .int .i64 z] 27))
  generalize (w.alloc (.cells #[.int .i64 h, .int .i64 i, .int .i64 a] 25)).alloc (.cells #[.string n, .int .i64 x, .int .i64 y, .int .i64 z] 27) = W at c0 c1 c2 c3 hbw ⊢
  generalize w.heap.size + 1 = g1 at c3 ⊢
  generalize hg0 : w.heap.size = g0 at c0 c1 c2 ⊢
  clear hg0
  go_loopw [5, 6, 7] (fun best least stem wr => ∃ k : Nat, k ≤ 8 ∧ stem = .int .i64 (60 + 10 * (k : Int)) ∧ best = .int .i64 (stemI y (reachN h i a) k).1 ∧ least = .int .i64 (stemI y (reachN h i a) k).2 ∧ Below W.heap.size W wr) (fun _ _ stem _ => 140 - (intOf stem).toNat)
  case atStart => exact ⟨0, by omega, rfl, rfl, rfl, Below.refl _ _⟩
  case round =>
    obtain ⟨k, hk, rfl, rfl, rfl, hb⟩ := hrel
    by_cases hlt : k < 8
    · have Hn : Hid (stemI y (reachN h i a) (k + 1) = if absI (y + (60 + 10 * (k : Int)) - reachN h i a - 100) < (stemI y (reachN h i a) k).2 then (60 + 10 * (k : Int), absI (y + (60 + 10 * (k : Int)) - reachN h i a - 100)) else stemI y (reachN h i a) k) := rfl
      go_wp2_with fail
      have d0 : ∀ v : Later wr, v.w.cell? ⟨g0, 0, none⟩ = some (.int .i64 h) := Later.cell ((hb.cell (p := ⟨g0, 0, none⟩) (World.block_lt_of_cell? W _ c0)).trans c0)
      have d1 : ∀ v : Later wr, v.w.cell? ⟨g0, 1, none⟩ = some (.int .i64 i) := Later.cell ((hb.cell (p := ⟨g0, 1, none⟩) (World.block_lt_of_cell? W _ c1)).trans c1)
      have d2 : ∀ v : Later wr, v.w.cell? ⟨g0, 2, none⟩ = some (.int .i64 a) := Later.cell ((hb.cell (p := ⟨g0, 2, none⟩) (World.block_lt_of_cell? W _ c2)).trans c2)
      have d3 : ∀ v : Later wr, v.w.cell? ⟨g1, 2, none⟩ = some (.int .i64 y) := Later.cell ((hb.cell (p := ⟨g1, 2, none⟩) (World.block_lt_of_cell? W _ c3)).trans c3)
      refine wp_region_later (by kernel_rfl) (by kernel_rfl) ?_
      repeat (go_big_quiet_step ((first | (go_at_call 69; exact Later.call (reach_impl _ _ _ Hr.out _)) | (go_at_call 96; exact Later.call_same (abs_any _ (by omega) (by omega) _)))))
      refine wpQuiet_nil ?_
      rintro _ ⟨⟨w2, hb2⟩, rfl⟩
      have hn := absI_nonneg (y + (60 + 10 * (k : Int)) - reachN h i a - 100)
      clear Hr d0 d1 d2 d3
      generalize y + (60 + 10 * (k : Int)) - reachN h i a - 100 = dv at hn Hn ⊢
      generalize absI dv = da at hn Hn ⊢
      by_cases hlt2 : da < (stemI y (reachN h i a) k).2
      all_goals go_wp2_with fail
      · rw [if_pos hlt2] at Hn
        exact ⟨⟨k + 1, by omega, by go_num, by rw [Hn.out], by rw [Hn.out], bthen hb hb2⟩, by simp [intOf]; omega⟩
      · rw [if_neg (by omega)] at Hn
        exact ⟨⟨k + 1, by omega, by go_num, by rw [Hn.out], by rw [Hn.out], bthen hb hb2⟩, by simp [intOf]; omega⟩
    · obtain rfl : k = 8 := by omega
      go_wp2_with fail
      go_ret
      exact ⟨rfl, hbw.trans (hb.mono hbw.size)⟩

-- part 2
set_option maxHeartbeats 1000000 in
theorem l19Stem_any (h i a : Int) (r : riderB h i a = true) (n : ByteArray) (x y z : Int) (hs : okSize (n, x, y, z) = true) (w : World) :
    Calls Try.prog 66 #[.agg #[.int .i64 h, .int .i64 i, .int .i64 a], .agg #[.string n, .int .i64 x, .int .i64 y, .int .i64 z]] w fun e w' => e = .returned (.tuple #[.int .i64 (stemS y (reachN h i a) 8).1, .int .i64 (stemS y (reachN h i a) 8).2]) ∧ Below w.heap.size w w' := by
  obtain ⟨q1, q2, q3, q4⟩ := okSize_true hs
  simp only at q1 q2 q3 q4
  obtain ⟨p1, p2⟩ := reachN_bd r
  have Hr := Lib.hid r; clear r hs
  go_enter Try.func66, Try.ntmps66
  go_wp2_with fail
  have c0 : ((w.alloc (.cells #[.int .i64 h, .int .i64 i, .int .i64 a] 25)).alloc (.cells #[.string n, .int .i64 x, .int .i64 y, .int .i64 z] 27)).cell? ⟨w.heap.size, 0, none⟩ = some (.int .i64 h) := by go_simp
  have c1 : ((w.alloc (.cells #[.int .i64 h, .int .i64 i, .int .i64 a] 25)).alloc (.cells #[.string n, .int .i64 x, .int .i64 y, .int .i64 z] 27)).cell? ⟨w.heap.size, 1, none⟩ = some (.int .i64 i) := by go_simp
  have c2 : ((w.alloc (.cells #[.int .i64 h, .int .i64 i, .int .i64 a] 25)).alloc (.cells #[.string n, .int .i64 x, .int .i64 y, .int .i64 z] 27)).cell? ⟨w.heap.size, 2, none⟩ = some (.int .i64 a) := by go_simp
  have c5 : ((w.alloc (.cells #[.int .i64 h, .int .i64 i, .int .i64 a] 25)).alloc (.cells #[.string n, .int .i64 x, .int .i64 y, .int .i64 z] 27)).cell? ⟨w.heap.size + 1, 2, none⟩ = some (.int .i64 y) := by go_simp
  have hbw := bthen (balloc w (.cells #[.int .i64 h, .int .i64 i, .int .i64 a] 25)) (balloc _ (.cells #[.string n, .int .i64 x, .int .i64 y, .int .i64 z] 27))
  generalize (w.alloc (.cells #[.int .i64 h, .int .i64 i, .int .i64 a] 25)).alloc (.cells #[.string n, .int .i64 x, .int .i64 y, .int .i64 z] 27) = W at c0 c1 c2 c5 hbw ⊢
  generalize w.heap.size + 1 = g1 at c5 ⊢
  generalize hg0 : w.heap.size = g0 at c0 c1 c2 ⊢
  clear hg0
  go_loopw [6, 7, 8] (fun best least stem wr => ∃ k : Nat, k ≤ 8 ∧ stem = .int .i64 (60 + 10 * (k : Int)) ∧ best = .int .i64 (stemS y (reachN h i a) k).1 ∧ least = .int .i64 (stemS y (reachN h i a) k).2 ∧ Below W.heap.size W wr) (fun _ _ stem _ => 140 - (intOf stem).toNat)
  case atStart => exact ⟨0, by omega, rfl, rfl, rfl, Below.refl _ _⟩
  case round =>
    obtain ⟨k, hk, rfl, rfl, rfl, hb⟩ := hrel
    by_cases hlt : k < 8
    · have Hn : Hid (stemS y (reachN h i a) (k + 1) = if (stemS y (reachN h i a) k).2 < 0 ∨ absI (y + (60 + 10 * (k : Int)) - reachN h i a - 100) < (stemS y (reachN h i a) k).2 then (60 + 10 * (k : Int), absI (y + (60 + 10 * (k : Int)) - reachN h i a - 100)) else stemS y (reachN h i a) k) := rfl
      go_wp2_with fail
      have d0 : ∀ v : Later wr, v.w.cell? ⟨g0, 0, none⟩ = some (.int .i64 h) := Later.cell ((hb.cell (p := ⟨g0, 0, none⟩) (World.block_lt_of_cell? W _ c0)).trans c0)
      have d1 : ∀ v : Later wr, v.w.cell? ⟨g0, 1, none⟩ = some (.int .i64 i) := Later.cell ((hb.cell (p := ⟨g0, 1, none⟩) (World.block_lt_of_cell? W _ c1)).trans c1)
      have d2 : ∀ v : Later wr, v.w.cell? ⟨g0, 2, none⟩ = some (.int .i64 a) := Later.cell ((hb.cell (p := ⟨g0, 2, none⟩) (World.block_lt_of_cell? W _ c2)).trans c2)
      have d5 : ∀ v : Later wr, v.w.cell? ⟨g1, 2, none⟩ = some (.int .i64 y) := Later.cell ((hb.cell (p := ⟨g1, 2, none⟩) (World.block_lt_of_cell? W _ c5)).trans c5)
      refine wp_region_later (by kernel_rfl) (by kernel_rfl) ?_
      repeat (go_big_quiet_step ((first | (go_at_call 70; exact Later.call (reach_spec _ _ _ Hr.out _)) | (go_at_call 98; exact Later.call_same (l01Abs_any _ (by omega) (by omega) _)))))
      refine wpQuiet_nil ?_
      rintro _ ⟨⟨w2, hb2⟩, rfl⟩
      have hn := absI_nonneg (y + (60 + 10 * (k : Int)) - reachN h i a - 100)
      clear Hr d0 d1 d2 d5
      generalize y + (60 + 10 * (k : Int)) - reachN h i a - 100 = dv at hn Hn ⊢
      generalize absI dv = da at hn Hn ⊢
      by_cases hn0 : (stemS y (reachN h i a) k).2 < 0
      · go_wp2_with fail
        rw [if_pos (Or.inl hn0)] at Hn
        exact ⟨⟨k + 1, by omega, by go_num, by rw [Hn.out], by rw [Hn.out], bthen hb hb2⟩, by simp [intOf]; omega⟩
      · by_cases hlt2 : da < (stemS y (reachN h i a) k).2
        all_goals go_wp2_with fail
        · rw [if_pos (Or.inr hlt2)] at Hn
          exact ⟨⟨k + 1, by omega, by go_num, by rw [Hn.out], by rw [Hn.out], bthen hb hb2⟩, by simp [intOf]; omega⟩
        · rw [if_neg (by omega)] at Hn
          exact ⟨⟨k + 1, by omega, by go_num, by rw [Hn.out], by rw [Hn.out], bthen hb hb2⟩, by simp [intOf]; omega⟩
    · obtain rfl : k = 8 := by omega
      go_wp2_with fail
      go_ret2
      exact ⟨rfl, hbw.trans (hb.mono hbw.size)⟩

/-- The stem that the rider takes on this size (0: none), and whether the size suits. -/
def stemOf (h i a y : Int) : Int := (stemI y (reachN h i a) 8).1
def suitB (h i a x y : Int) : Bool := inB (saddleN i) (x + 60) (x + 350) && decide (0 < stemOf h i a y)
def stemR (h i a : Int) (t : ByteArray × Int × Int × Int) : Int × Int := if riderB h i a = true ∧ okSize t = true then (if stemOf h i a t.2.2.1 = 0 then (0, 4) else (stemOf h i a t.2.2.1, 0)) else (0, 1)
def suitR (h i a : Int) (t : ByteArray × Int × Int × Int) : Bool × Int := if riderB h i a = true ∧ okSize t = true then (suitB h i a t.2.1 t.2.2.1, 0) else (false, 1)
theorem stem_spec (h i a y : Int) : (5 < (stemS y (reachN h i a) 8).2 ∧ stemOf h i a y = 0) ∨ (¬ 5 < (stemS y (reachN h i a) 8).2 ∧ 0 < stemOf h i a y ∧ stemOf h i a y = (stemS y (reachN h i a) 8).1) := by
  unfold stemOf
  rcases stem_same y (reachN h i a) 8 with ⟨_, h2, _⟩ | ⟨h1, h2, h3, h4⟩ | ⟨h1, h3⟩
  · omega
  · exact Or.inr ⟨by omega, by rw [h3]; omega, by rw [h3]⟩
  · exact Or.inl ⟨h1, by rw [h3]⟩
theorem saddleN_bd {h i a : Int} (r : riderB h i a = true) : 300 ≤ saddleN i ∧ saddleN i ≤ 1000 := by
  obtain ⟨r1, r2, r3, r4, r5, r6, r7⟩ := riderB_true r
  unfold saddleN
  omega

set_option maxHeartbeats 1000000 in
theorem doesSuit_any (h i a : Int) (r : riderB h i a = true) (n : ByteArray) (x y z : Int) (hs : okSize (n, x, y, z) = true) (w : World) :
    Calls Try.prog 61 #[.agg #[.int .i64 h, .int .i64 i, .int .i64 a], .agg #[.string n, .int .i64 x, .int .i64 y, .int .i64 z]] w fun e w' => e = .returned (.bool (suitB h i a x y)) ∧ Below w.heap.size w w' := by
  obtain ⟨q1, q2, q3, q4⟩ := okSize_true hs
  simp only at q1 q2 q3 q4
  have HF : Hid (suitB h i a x y = (inB (saddleN i) (x + 60) (x + 350) && decide (0 < stemOf h i a y))) := rfl
  have Hw : Hid (∀ v : World, Calls Try.prog 71 #[.int .i64 (saddleN i), .int .i64 (x + 60), .int .i64 (x + 350)] v fun e w' => e = .returned (.bool (inB (saddleN i) (x + 60) (x + 350))) ∧ v = w') := fun v => within_any _ _ _ v
  have Ht : Hid (∀ v : World, Calls Try.prog 65 #[.agg #[.int .i64 h, .int .i64 i, .int .i64 a], .agg #[.string n, .int .i64 x, .int .i64 y, .int .i64 z]] v fun e w' => e = .returned (.int .i64 (stemOf h i a y)) ∧ Below v.heap.size v w') := fun v => stemFor_any _ _ _ r _ _ _ _ hs v
  have Hr := Lib.hid r; clear r
  generalize inB (saddleN i) (x + 60) (x + 350) = b at HF Hw
  generalize stemOf h i a y = st at HF Ht
  generalize suitB h i a x y = sb at HF ⊢
  have Hs := Lib.hid hs; clear hs
  cases b
  case false =>
    go_enter Try.func61, Try.ntmps61
    go_wp2_with fail
    have c0 : ((w.alloc (.cells #[.int .i64 h, .int .i64 i, .int .i64 a] 25)).alloc (.cells #[.string n, .int .i64 x, .int .i64 y, .int .i64 z] 27)).cell? ⟨w.heap.size, 0, none⟩ = some (.int .i64 h) := by go_simp
    have c1 : ((w.alloc (.cells #[.int .i64 h, .int .i64 i, .int .i64 a] 25)).alloc (.cells #[.string n, .int .i64 x, .int .i64 y, .int .i64 z] 27)).cell? ⟨w.heap.size, 1, none⟩ = some (.int .i64 i) := by go_simp
    have c2 : ((w.alloc (.cells #[.int .i64 h, .int .i64 i, .int .i64 a] 25)).alloc (.cells #[.string n, .int .i64 x, .int .i64 y, .int .i64 z] 27)).cell? ⟨w.heap.size, 2, none⟩ = some (.int .i64 a) := by go_simp
    have c3 : ((w.alloc (.cells #[.int .i64 h, .int .i64 i, .int .i64 a] 25)).alloc (.cells #[.string n, .int .i64 x, .int .i64 y, .int .i64 z] 27)).cell? ⟨w.heap.size + 1, 0, none⟩ = some (.string n) := by go_simp
    have c4 : ((w.alloc (.cells #[.int .i64 h, .int .i64 i, .int .i64 a] 25)).alloc (.cells #[.string n, .int .i64 x, .int .i64 y, .int .i64 z] 27)).cell? ⟨w.heap.size + 1, 1, none⟩ = some (.int .i64 x) := by go_simp
    have c5 : ((w.alloc (.cells #[.int .i64 h, .int .i64 i, .int .i64 a] 25)).alloc (.cells #[.string n, .int .i64 x, .int .i64 y, .int .i64 z] 27)).cell? ⟨w.heap.size + 1, 2, none⟩ = some (.int .i64 y) := by go_simp
    have c6 : ((w.alloc (.cells #[.int .i64 h, .int .i64 i, .int .i64 a] 25)).alloc (.cells #[.string n, .int .i64 x, .int .i64 y, .int .i64 z] 27)).cell? ⟨w.heap.size + 1, 3, none⟩ = some (.int .i64 z) := by go_simp
    have hbw := bthen (balloc w (.cells #[.int .i64 h, .int .i64 i, .int .i64 a] 25)) (balloc _ (.cells #[.string n, .int .i64 x, .int .i64 y, .int .i64 z] 27))
    generalize (w.alloc (.cells #[.int .i64 h, .int .i64 i, .int .i64 a] 25)).alloc (.cells #[.string n, .int .i64 x, .int .i64 y, .int .i64 z] 27) = W at c0 c1 c2 c3 c4 c5 c6 hbw ⊢
    generalize w.heap.size + 1 = g1 at c3 c4 c5 c6 ⊢
    generalize hg0 : w.heap.size = g0 at c0 c1 c2 ⊢
    clear hg0
    have d0 : ∀ v : Later W, v.w.cell? ⟨g0, 0, none⟩ = some (.int .i64 h) := Later.cell c0
    have d1 : ∀ v : Later W, v.w.cell? ⟨g0, 1, none⟩ = some (.int .i64 i) := Later.cell c1
    have d2 : ∀ v : Later W, v.w.cell? ⟨g0, 2, none⟩ = some (.int .i64 a) := Later.cell c2
    have d3 : ∀ v : Later W, v.w.cell? ⟨g1, 0, none⟩ = some (.string n) := Later.cell c3
    have d4 : ∀ v : Later W, v.w.cell? ⟨g1, 1, none⟩ = some (.int .i64 x) := Later.cell c4
    have d5 : ∀ v : Later W, v.w.cell? ⟨g1, 2, none⟩ = some (.int .i64 y) := Later.cell c5
    have d6 : ∀ v : Later W, v.w.cell? ⟨g1, 3, none⟩ = some (.int .i64 z) := Later.cell c6
    refine wp_region_later (by kernel_rfl) (by kernel_rfl) ?_
    repeat (go_big_quiet_step ((first | (go_at_call 67; exact Later.call (saddle_impl _ _ _ Hr.out _)) | (go_at_call 71; exact Later.call_same (Hw.out _)) | (go_at_call 65; exact Later.call (Ht.out _)))))
    refine wpQuiet_nil ?_
    rintro _ ⟨⟨w2, hb2⟩, rfl⟩
    go_wp2_with fail
    go_ret
    exact ⟨ret_bool (by rw [HF.out]; rfl), bthen hbw hb2⟩
  case true =>
    go_enter Try.func61, Try.ntmps61
    go_wp2_with fail
    have c0 : ((w.alloc (.cells #[.int .i64 h, .int .i64 i, .int .i64 a] 25)).alloc (.cells #[.string n, .int .i64 x, .int .i64 y, .int .i64 z] 27)).cell? ⟨w.heap.size, 0, none⟩ = some (.int .i64 h) := by go_simp
    have c1 : ((w.alloc (.cells #[.int .i64 h, .int .i64 i, .int .i64 a] 25)).alloc (.cells #[.string n, .int .i64 x, .int .i64 y, .int .i64 z] 27)).cell? ⟨w.heap.size, 1, none⟩ = some (.int .i64 i) := by go_simp
    have c2 : ((w.alloc (.cells #[.int .i64 h, .int .i64 i, .int .i64 a] 25)).alloc (.cells #[.string n, .int .i64 x, .int .i64 y, .int .i64 z] 27)).cell? ⟨w.heap.size, 2, none⟩ = some (.int .i64 a) := by go_simp
    have c3 : ((w.alloc (.cells #[.int .i64 h, .int .i64 i, .int .i64 a] 25)).alloc (.cells #[.string n, .int .i64 x, .int .i64 y, .int .i64 z] 27)).cell? ⟨w.heap.size + 1, 0, none⟩ = some (.string n) := by go_simp
    have c4 : ((w.alloc (.cells #[.int .i64 h, .int .i64 i, .int .i64 a] 25)).alloc (.cells #[.string n, .int .i64 x, .int .i64 y, .int .i64 z] 27)).cell? ⟨w.heap.size + 1, 1, none⟩ = some (.int .i64 x) := by go_simp
    have c5 : ((w.alloc (.cells #[.int .i64 h, .int .i64 i, .int .i64 a] 25)).alloc (.cells #[.string n, .int .i64 x, .int .i64 y, .int .i64 z] 27)).cell? ⟨w.heap.size + 1, 2, none⟩ = some (.int .i64 y) := by go_simp
    have c6 : ((w.alloc (.cells #[.int .i64 h, .int .i64 i, .int .i64 a] 25)).alloc (.cells #[.string n, .int .i64 x, .int .i64 y, .int .i64 z] 27)).cell? ⟨w.heap.size + 1, 3, none⟩ = some (.int .i64 z) := by go_simp
    have hbw := bthen (balloc w (.cells #[.int .i64 h, .int .i64 i, .int .i64 a] 25)) (balloc _ (.cells #[.string n, .int .i64 x, .int .i64 y, .int .i64 z] 27))
    generalize (w.alloc (.cells #[.int .i64 h, .int .i64 i, .int .i64 a] 25)).alloc (.cells #[.string n, .int .i64 x, .int .i64 y, .int .i64 z] 27) = W at c0 c1 c2 c3 c4 c5 c6 hbw ⊢
    generalize w.heap.size + 1 = g1 at c3 c4 c5 c6 ⊢
    generalize hg0 : w.heap.size = g0 at c0 c1 c2 ⊢
    clear hg0
    have d0 : ∀ v : Later W, v.w.cell? ⟨g0, 0, none⟩ = some (.int .i64 h) := Later.cell c0
    have d1 : ∀ v : Later W, v.w.cell? ⟨g0, 1, none⟩ = some (.int .i64 i) := Later.cell c1
    have d2 : ∀ v : Later W, v.w.cell? ⟨g0, 2, none⟩ = some (.int .i64 a) := Later.cell c2
    have d3 : ∀ v : Later W, v.w.cell? ⟨g1, 0, none⟩ = some (.string n) := Later.cell c3
    have d4 : ∀ v : Later W, v.w.cell? ⟨g1, 1, none⟩ = some (.int .i64 x) := Later.cell c4
    have d5 : ∀ v : Later W, v.w.cell? ⟨g1, 2, none⟩ = some (.int .i64 y) := Later.cell c5
    have d6 : ∀ v : Later W, v.w.cell? ⟨g1, 3, none⟩ = some (.int .i64 z) := Later.cell c6
    refine wp_region_later (by kernel_rfl) (by kernel_rfl) ?_
    repeat (go_big_quiet_step ((first | (go_at_call 67; exact Later.call (saddle_impl _ _ _ Hr.out _)) | (go_at_call 71; exact Later.call_same (Hw.out _)) | (go_at_call 65; exact Later.call (Ht.out _)))))
    refine wpQuiet_nil ?_
    rintro _ ⟨⟨w2, hb2⟩, rfl⟩
    go_wp2_with fail
    go_ret
    exact ⟨ret_bool (by rw [HF.out]; rfl), bthen hbw hb2⟩

-- part 3
set_option maxHeartbeats 1000000 in
theorem l19Suits_any (h i a : Int) (r : riderB h i a = true) (n : ByteArray) (x y z : Int) (hs : okSize (n, x, y, z) = true) (w : World) :
    Calls Try.prog 64 #[.agg #[.int .i64 h, .int .i64 i, .int .i64 a], .agg #[.string n, .int .i64 x, .int .i64 y, .int .i64 z]] w fun e w' => e = .returned (.bool (suitB h i a x y)) ∧ Below w.heap.size w w' := by
  obtain ⟨q1, q2, q3, q4⟩ := okSize_true hs
  simp only at q1 q2 q3 q4
  have HF : Hid (suitB h i a x y = (inB (saddleN i) (x + 60) (x + 350) && decide (0 < stemOf h i a y))) := rfl
  have Hq := Lib.hid (stem_spec h i a y)
  have Hw : Hid (∀ v : World, Calls Try.prog 102 #[.int .i64 (saddleN i), .int .i64 (x + 60), .int .i64 (x + 350)] v fun e w' => e = .returned (.bool (inB (saddleN i) (x + 60) (x + 350))) ∧ v = w') := fun v => l01In_any _ _ _ v
  have Ht : Hid (∀ v : World, Calls Try.prog 66 #[.agg #[.int .i64 h, .int .i64 i, .int .i64 a], .agg #[.string n, .int .i64 x, .int .i64 y, .int .i64 z]] v fun e w' => e = .returned (.tuple #[.int .i64 (stemS y (reachN h i a) 8).1, .int .i64 (stemS y (reachN h i a) 8).2]) ∧ Below v.heap.size v w') := fun v => l19Stem_any _ _ _ r _ _ _ _ hs v
  have Hr := Lib.hid r; clear r
  generalize inB (saddleN i) (x + 60) (x + 350) = b at HF Hw
  generalize stemOf h i a y = st at HF Hq
  generalize (stemS y (reachN h i a) 8).2 = s2 at Hq Ht
  generalize (stemS y (reachN h i a) 8).1 = s1 at Hq Ht
  generalize suitB h i a x y = sb at HF ⊢
  have Hs := Lib.hid hs; clear hs
  cases b
  case false =>
    go_enter Try.func64, Try.ntmps64
    go_wp2_with fail
    have c0 : ((w.alloc (.cells #[.int .i64 h, .int .i64 i, .int .i64 a] 25)).alloc (.cells #[.string n, .int .i64 x, .int .i64 y, .int .i64 z] 27)).cell? ⟨w.heap.size, 0, none⟩ = some (.int .i64 h) := by go_simp
    have c1 : ((w.alloc (.cells #[.int .i64 h, .int .i64 i, .int .i64 a] 25)).alloc (.cells #[.string n, .int .i64 x, .int .i64 y, .int .i64 z] 27)).cell? ⟨w.heap.size, 1, none⟩ = some (.int .i64 i) := by go_simp
    have c2 : ((w.alloc (.cells #[.int .i64 h, .int .i64 i, .int .i64 a] 25)).alloc (.cells #[.string n, .int .i64 x, .int .i64 y, .int .i64 z] 27)).cell? ⟨w.heap.size, 2, none⟩ = some (.int .i64 a) := by go_simp
    have c3 : ((w.alloc (.cells #[.int .i64 h, .int .i64 i, .int .i64 a] 25)).alloc (.cells #[.string n, .int .i64 x, .int .i64 y, .int .i64 z] 27)).cell? ⟨w.heap.size + 1, 0, none⟩ = some (.string n) := by go_simp
    have c4 : ((w.alloc (.cells #[.int .i64 h, .int .i64 i, .int .i64 a] 25)).alloc (.cells #[.string n, .int .i64 x, .int .i64 y, .int .i64 z] 27)).cell? ⟨w.heap.size + 1, 1, none⟩ = some (.int .i64 x) := by go_simp
    have c5 : ((w.alloc (.cells #[.int .i64 h, .int .i64 i, .int .i64 a] 25)).alloc (.cells #[.string n, .int .i64 x, .int .i64 y, .int .i64 z] 27)).cell? ⟨w.heap.size + 1, 2, none⟩ = some (.int .i64 y) := by go_simp
    have c6 : ((w.alloc (.cells #[.int .i64 h, .int .i64 i, .int .i64 a] 25)).alloc (.cells #[.string n, .int .i64 x, .int .i64 y, .int .i64 z] 27)).cell? ⟨w.heap.size + 1, 3, none⟩ = some (.int .i64 z) := by go_simp
    have hbw := bthen (balloc w (.cells #[.int .i64 h, .int .i64 i, .int .i64 a] 25)) (balloc _ (.cells #[.string n, .int .i64 x, .int .i64 y, .int .i64 z] 27))
    generalize (w.alloc (.cells #[.int .i64 h, .int .i64 i, .int .i64 a] 25)).alloc (.cells #[.string n, .int .i64 x, .int .i64 y, .int .i64 z] 27) = W at c0 c1 c2 c3 c4 c5 c6 hbw ⊢
    generalize w.heap.size + 1 = g1 at c3 c4 c5 c6 ⊢
    generalize hg0 : w.heap.size = g0 at c0 c1 c2 ⊢
    clear hg0
    refine (Ht.out _).mono ?_
    rintro e w1 ⟨rfl, hb1⟩
    go_wp2_with fail
    have d0 : ∀ v : Later w1, v.w.cell? ⟨g0, 0, none⟩ = some (.int .i64 h) := Later.cell ((hb1.cell (p := ⟨g0, 0, none⟩) (World.block_lt_of_cell? W _ c0)).trans c0)
    have d1 : ∀ v : Later w1, v.w.cell? ⟨g0, 1, none⟩ = some (.int .i64 i) := Later.cell ((hb1.cell (p := ⟨g0, 1, none⟩) (World.block_lt_of_cell? W _ c1)).trans c1)
    have d2 : ∀ v : Later w1, v.w.cell? ⟨g0, 2, none⟩ = some (.int .i64 a) := Later.cell ((hb1.cell (p := ⟨g0, 2, none⟩) (World.block_lt_of_cell? W _ c2)).trans c2)
    have d3 : ∀ v : Later w1, v.w.cell? ⟨g1, 0, none⟩ = some (.string n) := Later.cell ((hb1.cell (p := ⟨g1, 0, none⟩) (World.block_lt_of_cell? W _ c3)).trans c3)
    have d4 : ∀ v : Later w1, v.w.cell? ⟨g1, 1, none⟩ = some (.int .i64 x) := Later.cell ((hb1.cell (p := ⟨g1, 1, none⟩) (World.block_lt_of_cell? W _ c4)).trans c4)
    have d5 : ∀ v : Later w1, v.w.cell? ⟨g1, 2, none⟩ = some (.int .i64 y) := Later.cell ((hb1.cell (p := ⟨g1, 2, none⟩) (World.block_lt_of_cell? W _ c5)).trans c5)
    have d6 : ∀ v : Later w1, v.w.cell? ⟨g1, 3, none⟩ = some (.int .i64 z) := Later.cell ((hb1.cell (p := ⟨g1, 3, none⟩) (World.block_lt_of_cell? W _ c6)).trans c6)
    refine wp_region_later (by kernel_rfl) (by kernel_rfl) ?_
    repeat (go_big_quiet_step ((first | (go_at_call 68; exact Later.call (saddle_spec _ _ _ Hr.out _)) | (go_at_call 102; exact Later.call_same (Hw.out _)))))
    refine wpQuiet_nil ?_
    rintro _ ⟨⟨w2, hb2⟩, rfl⟩
    go_wp2_with fail
    go_ret
    exact ⟨ret_bool (by rw [HF.out]; have hq := Hq.out; simp; try omega), bthen hbw (bthen hb1 hb2)⟩
  case true =>
    go_enter Try.func64, Try.ntmps64
    go_wp2_with fail
    have c0 : ((w.alloc (.cells #[.int .i64 h, .int .i64 i, .int .i64 a] 25)).alloc (.cells #[.string n, .int .i64 x, .int .i64 y, .int .i64 z] 27)).cell? ⟨w.heap.size, 0, none⟩ = some (.int .i64 h) := by go_simp
    have c1 : ((w.alloc (.cells #[.int .i64 h, .int .i64 i, .int .i64 a] 25)).alloc (.cells #[.string n, .int .i64 x, .int .i64 y, .int .i64 z] 27)).cell? ⟨w.heap.size, 1, none⟩ = some (.int .i64 i) := by go_simp
    have c2 : ((w.alloc (.cells #[.int .i64 h, .int .i64 i, .int .i64 a] 25)).alloc (.cells #[.string n, .int .i64 x, .int .i64 y, .int .i64 z] 27)).cell? ⟨w.heap.size, 2, none⟩ = some (.int .i64 a) := by go_simp
    have c3 : ((w.alloc (.cells #[.int .i64 h, .int .i64 i, .int .i64 a] 25)).alloc (.cells #[.string n, .int .i64 x, .int .i64 y, .int .i64 z] 27)).cell? ⟨w.heap.size + 1, 0, none⟩ = some (.string n) := by go_simp
    have c4 : ((w.alloc (.cells #[.int .i64 h, .int .i64 i, .int .i64 a] 25)).alloc (.cells #[.string n, .int .i64 x, .int .i64 y, .int .i64 z] 27)).cell? ⟨w.heap.size + 1, 1, none⟩ = some (.int .i64 x) := by go_simp
    have c5 : ((w.alloc (.cells #[.int .i64 h, .int .i64 i, .int .i64 a] 25)).alloc (.cells #[.string n, .int .i64 x, .int .i64 y, .int .i64 z] 27)).cell? ⟨w.heap.size + 1, 2, none⟩ = some (.int .i64 y) := by go_simp
    have c6 : ((w.alloc (.cells #[.int .i64 h, .int .i64 i, .int .i64 a] 25)).alloc (.cells #[.string n, .int .i64 x, .int .i64 y, .int .i64 z] 27)).cell? ⟨w.heap.size + 1, 3, none⟩ = some (.int .i64 z) := by go_simp
    have hbw := bthen (balloc w (.cells #[.int .i64 h, .int .i64 i, .int .i64 a] 25)) (balloc _ (.cells #[.string n, .int .i64 x, .int .i64 y, .int .i64 z] 27))
    generalize (w.alloc (.cells #[.int .i64 h, .int .i64 i, .int .i64 a] 25)).alloc (.cells #[.string n, .int .i64 x, .int .i64 y, .int .i64 z] 27) = W at c0 c1 c2 c3 c4 c5 c6 hbw ⊢
    generalize w.heap.size + 1 = g1 at c3 c4 c5 c6 ⊢
    generalize hg0 : w.heap.size = g0 at c0 c1 c2 ⊢
    clear hg0
    refine (Ht.out _).mono ?_
    rintro e w1 ⟨rfl, hb1⟩
    go_wp2_with fail
    have d0 : ∀ v : Later w1, v.w.cell? ⟨g0, 0, none⟩ = some (.int .i64 h) := Later.cell ((hb1.cell (p := ⟨g0, 0, none⟩) (World.block_lt_of_cell? W _ c0)).trans c0)
    have d1 : ∀ v : Later w1, v.w.cell? ⟨g0, 1, none⟩ = some (.int .i64 i) := Later.cell ((hb1.cell (p := ⟨g0, 1, none⟩) (World.block_lt_of_cell? W _ c1)).trans c1)
    have d2 : ∀ v : Later w1, v.w.cell? ⟨g0, 2, none⟩ = some (.int .i64 a) := Later.cell ((hb1.cell (p := ⟨g0, 2, none⟩) (World.block_lt_of_cell? W _ c2)).trans c2)
    have d3 : ∀ v : Later w1, v.w.cell? ⟨g1, 0, none⟩ = some (.string n) := Later.cell ((hb1.cell (p := ⟨g1, 0, none⟩) (World.block_lt_of_cell? W _ c3)).trans c3)
    have d4 : ∀ v : Later w1, v.w.cell? ⟨g1, 1, none⟩ = some (.int .i64 x) := Later.cell ((hb1.cell (p := ⟨g1, 1, none⟩) (World.block_lt_of_cell? W _ c4)).trans c4)
    have d5 : ∀ v : Later w1, v.w.cell? ⟨g1, 2, none⟩ = some (.int .i64 y) := Later.cell ((hb1.cell (p := ⟨g1, 2, none⟩) (World.block_lt_of_cell? W _ c5)).trans c5)
    have d6 : ∀ v : Later w1, v.w.cell? ⟨g1, 3, none⟩ = some (.int .i64 z) := Later.cell ((hb1.cell (p := ⟨g1, 3, none⟩) (World.block_lt_of_cell? W _ c6)).trans c6)
    refine wp_region_later (by kernel_rfl) (by kernel_rfl) ?_
    repeat (go_big_quiet_step ((first | (go_at_call 68; exact Later.call (saddle_spec _ _ _ Hr.out _)) | (go_at_call 102; exact Later.call_same (Hw.out _)))))
    refine wpQuiet_nil ?_
    rintro _ ⟨⟨w2, hb2⟩, rfl⟩
    go_wp2_with fail
    go_ret
    exact ⟨ret_bool (by rw [HF.out]; have hq := Hq.out; simp; try omega), bthen hbw (bthen hb1 hb2)⟩

set_option maxHeartbeats 1000000 in
theorem StemFor_impl (h i a : Int) (n : ByteArray) (x y z : Int) (hn : n.size ≤ maxLen) (w : World) :
    Calls Try.prog 12 #[.agg #[.int .i64 h, .int .i64 i, .int .i64 a], .agg #[.string n, .int .i64 x, .int .i64 y, .int .i64 z]] w fun e w' => e = .returned (.tuple #[.int .i64 (stemR h i a (n, x, y, z)).1, .int .i64 (stemR h i a (n, x, y, z)).2]) ∧ Below w.heap.size w w' := by
  have hI := isRider_impl h i a
  have hJ := isSize_impl n x y z hn
  by_cases r : riderB h i a = true
  · by_cases hs : okSize (n, x, y, z) = true
    · have Hi : Hid (∀ v : World, Calls Try.prog 65 #[.agg #[.int .i64 h, .int .i64 i, .int .i64 a], .agg #[.string n, .int .i64 x, .int .i64 y, .int .i64 z]] v fun e w' => e = .returned (.int .i64 (stemOf h i a y)) ∧ Below v.heap.size v w') := fun v => stemFor_any h i a r n x y z hs v
      have HF : Hid (stemR h i a (n, x, y, z) = (if stemOf h i a y = 0 then (0, 4) else (stemOf h i a y, 0))) := by unfold Hid stemR; rw [if_pos ⟨r, hs⟩]
      rw [r] at hI
      rw [hs] at hJ
      have HI := Lib.hid hI; clear hI
      have HJ := Lib.hid hJ; clear hJ
      clear r hs
      generalize stemR h i a (n, x, y, z) = res at HF ⊢
      generalize stemOf h i a y = st at HF Hi
      go_enter Try.func12, Try.ntmps12
      go_wp2_with fail
      refine (HI.out _).mono ?_
      rintro e w1 ⟨rfl, hb1⟩
      obtain ⟨hc, hf⟩ := bcell hb1
      go_wp2_with fail
      refine (HJ.out _).mono ?_
      rintro e w2 ⟨rfl, hb2⟩
      have hb12 := bthen hb1 hb2
      clear hc hf
      obtain ⟨hc, hf⟩ := bcell hb12
      go_wp2_with fail
      refine (Hi.out _).mono ?_
      rintro e w3 ⟨rfl, hb3⟩
      have hb13 := bthen (bthen (balloc w (.cells #[.int .i64 h, .int .i64 i, .int .i64 a] 25)) (balloc _ (.cells #[.string n, .int .i64 x, .int .i64 y, .int .i64 z] 27))) (bthen hb12 hb3)
      by_cases hz : st = 0
      all_goals go_wp2_with fail
      all_goals go_ret2
      · exact ⟨(by rw [HF.out, if_pos hz]; first | done | rfl), hb13⟩
      · exact ⟨(by rw [HF.out, if_neg hz]; first | done | rfl), hb13⟩
    · have HF : Hid (stemR h i a (n, x, y, z) = (0, 1)) := by unfold Hid stemR; rw [if_neg (fun h => hs h.2)]
      generalize stemR h i a (n, x, y, z) = res at HF ⊢
      rw [r] at hI
      rw [eq_false_of_ne_true hs] at hJ
      have HI := Lib.hid hI; clear hI
      have HJ := Lib.hid hJ; clear hJ
      clear r hs
      go_enter Try.func12, Try.ntmps12
      go_wp2_with fail
      refine (HI.out _).mono ?_
      rintro e w1 ⟨rfl, hb1⟩
      obtain ⟨hc, hf⟩ := bcell hb1
      go_wp2_with fail
      refine (HJ.out _).mono ?_
      rintro e w2 ⟨rfl, hb2⟩
      go_wp2_with fail
      go_ret2
      exact ⟨(by rw [HF.out]; first | done | rfl), bthen (bthen (balloc _ _) (balloc _ _)) (bthen hb1 hb2)⟩
  · have HF : Hid (stemR h i a (n, x, y, z) = (0, 1)) := by unfold Hid stemR; rw [if_neg (fun h => r h.1)]
    generalize stemR h i a (n, x, y, z) = res at HF ⊢
    rw [eq_false_of_ne_true r] at hI
    have HI := Lib.hid hI; clear hI
    clear r hJ
    go_enter Try.func12, Try.ntmps12
    go_wp2_with fail
    refine (HI.out _).mono ?_
    rintro e w1 ⟨rfl, hb1⟩
    go_wp2_with fail
    go_ret2
    exact ⟨(by rw [HF.out]; first | done | rfl), bthen (bthen (balloc _ _) (balloc _ _)) hb1⟩

set_option maxHeartbeats 1000000 in
theorem StemFor_spec (h i a : Int) (n : ByteArray) (x y z : Int) (hn : n.size ≤ maxLen) (w : World) :
    Calls Try.prog 13 #[.agg #[.int .i64 h, .int .i64 i, .int .i64 a], .agg #[.string n, .int .i64 x, .int .i64 y, .int .i64 z]] w fun e w' => e = .returned (.tuple #[.int .i64 (stemR h i a (n, x, y, z)).1, .int .i64 (stemR h i a (n, x, y, z)).2]) ∧ Below w.heap.size w w' := by
  have hI := isRider_spec h i a
  have hJ := isSize_spec n x y z hn
  by_cases r : riderB h i a = true
  · by_cases hs : okSize (n, x, y, z) = true
    · have Hi : Hid (∀ v : World, Calls Try.prog 66 #[.agg #[.int .i64 h, .int .i64 i, .int .i64 a], .agg #[.string n, .int .i64 x, .int .i64 y, .int .i64 z]] v fun e w' => e = .returned (.tuple #[.int .i64 (stemS y (reachN h i a) 8).1, .int .i64 (stemS y (reachN h i a) 8).2]) ∧ Below v.heap.size v w') := fun v => l19Stem_any h i a r n x y z hs v
      have HF : Hid (stemR h i a (n, x, y, z) = (if stemOf h i a y = 0 then (0, 4) else (stemOf h i a y, 0))) := by unfold Hid stemR; rw [if_pos ⟨r, hs⟩]
      have Hq := Lib.hid (stem_spec h i a y)
      rw [r] at hI
      rw [hs] at hJ
      have HI := Lib.hid hI; clear hI
      have HJ := Lib.hid hJ; clear hJ
      clear r hs
      generalize stemR h i a (n, x, y, z) = res at HF ⊢
      generalize stemOf h i a y = st at HF Hq
      generalize (stemS y (reachN h i a) 8).2 = s2 at Hq Hi
      generalize (stemS y (reachN h i a) 8).1 = s1 at Hq Hi
      go_enter Try.func13, Try.ntmps13
      go_wp2_with fail
      refine (HI.out _).mono ?_
      rintro e w1 ⟨rfl, hb1⟩
      obtain ⟨hc, hf⟩ := bcell hb1
      go_wp2_with fail
      refine (HJ.out _).mono ?_
      rintro e w2 ⟨rfl, hb2⟩
      have hb12 := bthen hb1 hb2
      clear hc hf
      obtain ⟨hc, hf⟩ := bcell hb12
      go_wp2_with fail
      refine (Hi.out _).mono ?_
      rintro e w3 ⟨rfl, hb3⟩
      have hb13 := bthen (bthen (balloc w (.cells #[.int .i64 h, .int .i64 i, .int .i64 a] 25)) (balloc _ (.cells #[.string n, .int .i64 x, .int .i64 y, .int .i64 z] 27))) (bthen hb12 hb3)
      by_cases hz : 5 < s2
      all_goals go_wp2_with fail
      all_goals go_ret2
      · have hq := Hq.out
        exact ⟨(by rw [HF.out, if_pos (by omega)]; first | done | rfl), hb13⟩
      · have hq := Hq.out
        obtain rfl : st = s1 := by omega
        exact ⟨(by rw [HF.out, if_neg (by omega)]; first | done | rfl), hb13⟩
    · have HF : Hid (stemR h i a (n, x, y, z) = (0, 1)) := by unfold Hid stemR; rw [if_neg (fun h => hs h.2)]
      generalize stemR h i a (n, x, y, z) = res at HF ⊢
      rw [r] at hI
      rw [eq_false_of_ne_true hs] at hJ
      have HI := Lib.hid hI; clear hI
      have HJ := Lib.hid hJ; clear hJ
      clear r hs
      go_enter Try.func13, Try.ntmps13
      go_wp2_with fail
      refine (HI.out _).mono ?_
      rintro e w1 ⟨rfl, hb1⟩
      obtain ⟨hc, hf⟩ := bcell hb1
      go_wp2_with fail
      refine (HJ.out _).mono ?_
      rintro e w2 ⟨rfl, hb2⟩
      go_wp2_with fail
      go_ret2
      exact ⟨(by rw [HF.out]; first | done | rfl), bthen (bthen (balloc _ _) (balloc _ _)) (bthen hb1 hb2)⟩
  · have HF : Hid (stemR h i a (n, x, y, z) = (0, 1)) := by unfold Hid stemR; rw [if_neg (fun h => r h.1)]
    generalize stemR h i a (n, x, y, z) = res at HF ⊢
    rw [eq_false_of_ne_true r] at hI
    have HI := Lib.hid hI; clear hI
    clear r hJ
    go_enter Try.func13, Try.ntmps13
    go_wp2_with fail
    refine (HI.out _).mono ?_
    rintro e w1 ⟨rfl, hb1⟩
    go_wp2_with fail
    go_ret2
    exact ⟨(by rw [HF.out]; first | done | rfl), bthen (bthen (balloc _ _) (balloc _ _)) hb1⟩

set_option maxHeartbeats 1000000 in
theorem DoesSuit_impl (h i a : Int) (n : ByteArray) (x y z : Int) (hn : n.size ≤ maxLen) (w : World) :
    Calls Try.prog 10 #[.agg #[.int .i64 h, .int .i64 i, .int .i64 a], .agg #[.string n, .int .i64 x, .int .i64 y, .int .i64 z]] w fun e w' => e = .returned (.tuple #[.bool (suitR h i a (n, x, y, z)).1, .int .i64 (suitR h i a (n, x, y, z)).2]) ∧ Below w.heap.size w w' := by
  have hI := isRider_impl h i a
  have hJ := isSize_impl n x y z hn
  by_cases r : riderB h i a = true
  · by_cases hs : okSize (n, x, y, z) = true
    · have Hi : Hid (∀ v : World, Calls Try.prog 61 #[.agg #[.int .i64 h, .int .i64 i, .int .i64 a], .agg #[.string n, .int .i64 x, .int .i64 y, .int .i64 z]] v fun e w' => e = .returned (.bool (suitB h i a x y)) ∧ Below v.heap.size v w') := fun v => doesSuit_any h i a r n x y z hs v
      have HF : Hid (suitR h i a (n, x, y, z) = (suitB h i a x y, 0)) := by unfold Hid suitR; rw [if_pos ⟨r, hs⟩]
      rw [r] at hI
      rw [hs] at hJ
      have HI := Lib.hid hI; clear hI
      have HJ := Lib.hid hJ; clear hJ
      clear r hs
      generalize suitR h i a (n, x, y, z) = res at HF ⊢
      generalize suitB h i a x y = st at HF Hi
      go_enter Try.func10, Try.ntmps10
      go_wp2_with fail
      refine (HI.out _).mono ?_
      rintro e w1 ⟨rfl, hb1⟩
      obtain ⟨hc, hf⟩ := bcell hb1
      go_wp2_with fail
      refine (HJ.out _).mono ?_
      rintro e w2 ⟨rfl, hb2⟩
      have hb12 := bthen hb1 hb2
      clear hc hf
      obtain ⟨hc, hf⟩ := bcell hb12
      go_wp2_with fail
      refine (Hi.out _).mono ?_
      rintro e w3 ⟨rfl, hb3⟩
      have hb13 := bthen (bthen (balloc w (.cells #[.int .i64 h, .int .i64 i, .int .i64 a] 25)) (balloc _ (.cells #[.string n, .int .i64 x, .int .i64 y, .int .i64 z] 27))) (bthen hb12 hb3)
      go_wp2_with fail
      go_ret2
      exact ⟨(by rw [HF.out]; first | done | rfl), hb13⟩
    · have HF : Hid (suitR h i a (n, x, y, z) = (false, 1)) := by unfold Hid suitR; rw [if_neg (fun h => hs h.2)]
      generalize suitR h i a (n, x, y, z) = res at HF ⊢
      rw [r] at hI
      rw [eq_false_of_ne_true hs] at hJ
      have HI := Lib.hid hI; clear hI
      have HJ := Lib.hid hJ; clear hJ
      clear r hs
      go_enter Try.func10, Try.ntmps10
      go_wp2_with fail
      refine (HI.out _).mono ?_
      rintro e w1 ⟨rfl, hb1⟩
      obtain ⟨hc, hf⟩ := bcell hb1
      go_wp2_with fail
      refine (HJ.out _).mono ?_
      rintro e w2 ⟨rfl, hb2⟩
      go_wp2_with fail
      go_ret2
      exact ⟨(by rw [HF.out]; first | done | rfl), bthen (bthen (balloc _ _) (balloc _ _)) (bthen hb1 hb2)⟩
  · have HF : Hid (suitR h i a (n, x, y, z) = (false, 1)) := by unfold Hid suitR; rw [if_neg (fun h => r h.1)]
    generalize suitR h i a (n, x, y, z) = res at HF ⊢
    rw [eq_false_of_ne_true r] at hI
    have HI := Lib.hid hI; clear hI
    clear r hJ
    go_enter Try.func10, Try.ntmps10
    go_wp2_with fail
    refine (HI.out _).mono ?_
    rintro e w1 ⟨rfl, hb1⟩
    go_wp2_with fail
    go_ret2
    exact ⟨(by rw [HF.out]; first | done | rfl), bthen (bthen (balloc _ _) (balloc _ _)) hb1⟩

set_option maxHeartbeats 1000000 in
theorem DoesSuit_spec (h i a : Int) (n : ByteArray) (x y z : Int) (hn : n.size ≤ maxLen) (w : World) :
    Calls Try.prog 11 #[.agg #[.int .i64 h, .int .i64 i, .int .i64 a], .agg #[.string n, .int .i64 x, .int .i64 y, .int .i64 z]] w fun e w' => e = .returned (.tuple #[.bool (suitR h i a (n, x, y, z)).1, .int .i64 (suitR h i a (n, x, y, z)).2]) ∧ Below w.heap.size w w' := by
  have hI := isRider_spec h i a
  have hJ := isSize_spec n x y z hn
  by_cases r : riderB h i a = true
  · by_cases hs : okSize (n, x, y, z) = true
    · have Hi : Hid (∀ v : World, Calls Try.prog 64 #[.agg #[.int .i64 h, .int .i64 i, .int .i64 a], .agg #[.string n, .int .i64 x, .int .i64 y, .int .i64 z]] v fun e w' => e = .returned (.bool (suitB h i a x y)) ∧ Below v.heap.size v w') := fun v => l19Suits_any h i a r n x y z hs v
      have HF : Hid (suitR h i a (n, x, y, z) = (suitB h i a x y, 0)) := by unfold Hid suitR; rw [if_pos ⟨r, hs⟩]
      rw [r] at hI
      rw [hs] at hJ
      have HI := Lib.hid hI; clear hI
      have HJ := Lib.hid hJ; clear hJ
      clear r hs
      generalize suitR h i a (n, x, y, z) = res at HF ⊢
      generalize suitB h i a x y = st at HF Hi
      go_enter Try.func11, Try.ntmps11
      go_wp2_with fail
      refine (HI.out _).mono ?_
      rintro e w1 ⟨rfl, hb1⟩
      obtain ⟨hc, hf⟩ := bcell hb1
      go_wp2_with fail
      refine (HJ.out _).mono ?_
      rintro e w2 ⟨rfl, hb2⟩
      have hb12 := bthen hb1 hb2
      clear hc hf
      obtain ⟨hc, hf⟩ := bcell hb12
      go_wp2_with fail
      refine (Hi.out _).mono ?_
      rintro e w3 ⟨rfl, hb3⟩
      have hb13 := bthen (bthen (balloc w (.cells #[.int .i64 h, .int .i64 i, .int .i64 a] 25)) (balloc _ (.cells #[.string n, .int .i64 x, .int .i64 y, .int .i64 z] 27))) (bthen hb12 hb3)
      go_wp2_with fail
      go_ret2
      exact ⟨(by rw [HF.out]; first | done | rfl), hb13⟩
    · have HF : Hid (suitR h i a (n, x, y, z) = (false, 1)) := by unfold Hid suitR; rw [if_neg (fun h => hs h.2)]
      generalize suitR h i a (n, x, y, z) = res at HF ⊢
      rw [r] at hI
      rw [eq_false_of_ne_true hs] at hJ
      have HI := Lib.hid hI; clear hI
      have HJ := Lib.hid hJ; clear hJ
      clear r hs
      go_enter Try.func11, Try.ntmps11
      go_wp2_with fail
      refine (HI.out _).mono ?_
      rintro e w1 ⟨rfl, hb1⟩
      obtain ⟨hc, hf⟩ := bcell hb1
      go_wp2_with fail
      refine (HJ.out _).mono ?_
      rintro e w2 ⟨rfl, hb2⟩
      go_wp2_with fail
      go_ret2
      exact ⟨(by rw [HF.out]; first | done | rfl), bthen (bthen (balloc _ _) (balloc _ _)) (bthen hb1 hb2)⟩
  · have HF : Hid (suitR h i a (n, x, y, z) = (false, 1)) := by unfold Hid suitR; rw [if_neg (fun h => r h.1)]
    generalize suitR h i a (n, x, y, z) = res at HF ⊢
    rw [eq_false_of_ne_true r] at hI
    have HI := Lib.hid hI; clear hI
    clear r hJ
    go_enter Try.func11, Try.ntmps11
    go_wp2_with fail
    refine (HI.out _).mono ?_
    rintro e w1 ⟨rfl, hb1⟩
    go_wp2_with fail
    go_ret2
    exact ⟨(by rw [HF.out]; first | done | rfl), bthen (bthen (balloc _ _) (balloc _ _)) hb1⟩

end Go.Proofs.Ytfdnpobppelhaaa
