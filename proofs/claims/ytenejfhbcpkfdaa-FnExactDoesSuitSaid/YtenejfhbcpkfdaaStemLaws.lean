/- DERIVED. The laws on the best stem and on what suits. -/
import Derived.Test.YtenejfhbcpkfdaaStem
import Derived.Test.YtenejfhbcpkfdaaHead
import Derived.Lib.SmallJoins
namespace Go.Proofs.Ytenejfhbcpkfdaa
set_option maxRecDepth 100000
open Go.RowKit Go.ChangeShapes Go.WideShapes Go.ChangeAt Go.Joins Go.Deep

set_option maxHeartbeats 1000000 in
theorem law_FnExactStemFor (h i a : Int) (_ : -9223372036854775808 ≤ h ∧ h ≤ 9223372036854775807) (_ : -9223372036854775808 ≤ i ∧ i ≤ 9223372036854775807) (_ : -9223372036854775808 ≤ a ∧ a ≤ 9223372036854775807) (n : ByteArray) (x y z : Int) (hn : n.size ≤ maxLen) (_ : -9223372036854775808 ≤ x ∧ x ≤ 9223372036854775807) (_ : -9223372036854775808 ≤ y ∧ y ≤ 9223372036854775807) (_ : -9223372036854775808 ≤ z ∧ z ≤ 9223372036854775807) (w : World) :
    Calls Try.prog 6 #[.agg #[.int .i64 h, .int .i64 i, .int .i64 a], .agg #[.string n, .int .i64 x, .int .i64 y, .int .i64 z]] w fun e w' => e = .returned (.bool true) ∧ Below w.heap.size w w' := by
  go_enter Try.func6, Try.ntmps6
  go_wp2_with fail
  have c0 : ((w.alloc (.cells #[.int .i64 h, .int .i64 i, .int .i64 a] 37)).alloc (.cells #[.string n, .int .i64 x, .int .i64 y, .int .i64 z] 39)).cell? ⟨w.heap.size, 0, none⟩ = some (.int .i64 h) := by go_simp
  have c1 : ((w.alloc (.cells #[.int .i64 h, .int .i64 i, .int .i64 a] 37)).alloc (.cells #[.string n, .int .i64 x, .int .i64 y, .int .i64 z] 39)).cell? ⟨w.heap.size, 1, none⟩ = some (.int .i64 i) := by go_simp
  have c2 : ((w.alloc (.cells #[.int .i64 h, .int .i64 i, .int .i64 a] 37)).alloc (.cells #[.string n, .int .i64 x, .int .i64 y, .int .i64 z] 39)).cell? ⟨w.heap.size, 2, none⟩ = some (.int .i64 a) := by go_simp
  have c3 : ((w.alloc (.cells #[.int .i64 h, .int .i64 i, .int .i64 a] 37)).alloc (.cells #[.string n, .int .i64 x, .int .i64 y, .int .i64 z] 39)).cell? ⟨w.heap.size + 1, 0, none⟩ = some (.string n) := by go_simp
  have c4 : ((w.alloc (.cells #[.int .i64 h, .int .i64 i, .int .i64 a] 37)).alloc (.cells #[.string n, .int .i64 x, .int .i64 y, .int .i64 z] 39)).cell? ⟨w.heap.size + 1, 1, none⟩ = some (.int .i64 x) := by go_simp
  have c5 : ((w.alloc (.cells #[.int .i64 h, .int .i64 i, .int .i64 a] 37)).alloc (.cells #[.string n, .int .i64 x, .int .i64 y, .int .i64 z] 39)).cell? ⟨w.heap.size + 1, 2, none⟩ = some (.int .i64 y) := by go_simp
  have c6 : ((w.alloc (.cells #[.int .i64 h, .int .i64 i, .int .i64 a] 37)).alloc (.cells #[.string n, .int .i64 x, .int .i64 y, .int .i64 z] 39)).cell? ⟨w.heap.size + 1, 3, none⟩ = some (.int .i64 z) := by go_simp
  have hbw := bthen (balloc w (.cells #[.int .i64 h, .int .i64 i, .int .i64 a] 37)) (balloc _ (.cells #[.string n, .int .i64 x, .int .i64 y, .int .i64 z] 39))
  generalize (w.alloc (.cells #[.int .i64 h, .int .i64 i, .int .i64 a] 37)).alloc (.cells #[.string n, .int .i64 x, .int .i64 y, .int .i64 z] 39) = W at c0 c1 c2 c3 c4 c5 c6 hbw ⊢
  generalize w.heap.size + 1 = g1 at c3 c4 c5 c6 ⊢
  generalize hg0 : w.heap.size = g0 at c0 c1 c2 ⊢
  clear hg0
  refine (szSize_any n x y z 1048576 hn (by omega) (by omega) _).mono ?_
  rintro e w1 ⟨r, rfl, hr1, hb1⟩
  rcases hr1 with rfl | ⟨r0, r1, hs⟩
  · go_wp2_with fail
    go_ret
    exact ⟨rfl, bthen hbw hb1⟩
  · have Hi : Hid (∀ v : World, Calls Try.prog 30 #[.agg #[.int .i64 h, .int .i64 i, .int .i64 a], .agg #[.string n, .int .i64 x, .int .i64 y, .int .i64 z]] v fun e w' => e = .returned (.tuple #[.int .i64 (stemR h i a (n, x, y, z)).1, .int .i64 (stemR h i a (n, x, y, z)).2]) ∧ Below v.heap.size v w') := fun v => StemFor_impl h i a n x y z hn v
    have Hs : Hid (∀ v : World, Calls Try.prog 27 #[.agg #[.int .i64 h, .int .i64 i, .int .i64 a], .agg #[.string n, .int .i64 x, .int .i64 y, .int .i64 z]] v fun e w' => e = .returned (.tuple #[.int .i64 (stemR h i a (n, x, y, z)).1, .int .i64 (stemR h i a (n, x, y, z)).2]) ∧ Below v.heap.size v w') := fun v => StemFor_spec h i a n x y z hn v
    generalize stemR h i a (n, x, y, z) = res at Hi Hs
    obtain ⟨res1, res2⟩ := res
    go_wp2_with fail
    have d0 : ∀ v : Later w1, v.w.cell? ⟨g0, 0, none⟩ = some (.int .i64 h) := Later.cell ((hb1.cell (p := ⟨g0, 0, none⟩) (World.block_lt_of_cell? W _ c0)).trans c0)
    have d1 : ∀ v : Later w1, v.w.cell? ⟨g0, 1, none⟩ = some (.int .i64 i) := Later.cell ((hb1.cell (p := ⟨g0, 1, none⟩) (World.block_lt_of_cell? W _ c1)).trans c1)
    have d2 : ∀ v : Later w1, v.w.cell? ⟨g0, 2, none⟩ = some (.int .i64 a) := Later.cell ((hb1.cell (p := ⟨g0, 2, none⟩) (World.block_lt_of_cell? W _ c2)).trans c2)
    have d3 : ∀ v : Later w1, v.w.cell? ⟨g1, 0, none⟩ = some (.string n) := Later.cell ((hb1.cell (p := ⟨g1, 0, none⟩) (World.block_lt_of_cell? W _ c3)).trans c3)
    have d4 : ∀ v : Later w1, v.w.cell? ⟨g1, 1, none⟩ = some (.int .i64 x) := Later.cell ((hb1.cell (p := ⟨g1, 1, none⟩) (World.block_lt_of_cell? W _ c4)).trans c4)
    have d5 : ∀ v : Later w1, v.w.cell? ⟨g1, 2, none⟩ = some (.int .i64 y) := Later.cell ((hb1.cell (p := ⟨g1, 2, none⟩) (World.block_lt_of_cell? W _ c5)).trans c5)
    have d6 : ∀ v : Later w1, v.w.cell? ⟨g1, 3, none⟩ = some (.int .i64 z) := Later.cell ((hb1.cell (p := ⟨g1, 3, none⟩) (World.block_lt_of_cell? W _ c6)).trans c6)
    refine wp_region_later (by kernel_rfl) (by kernel_rfl) ?_
    repeat (go_big_quiet_step ((first | (go_at_call 28; exact Later.call (toRider_any _ _ _ _)) | (go_at_call 29; exact Later.call (toSize_any _ _ _ _ _)) | (go_at_call 27; exact Later.call (Hs.out _)))))
    refine wpQuiet_nil ?_
    rintro w2 ⟨⟨_, hw2⟩, rfl⟩
    clear d0 d1 d2 d3 d4 d5 d6
    have hb12 := bthen hb1 hw2
    go_wp2_with fail
    have d0 : ∀ v : Later w2, v.w.cell? ⟨g0, 0, none⟩ = some (.int .i64 h) := Later.cell ((hb12.cell (p := ⟨g0, 0, none⟩) (World.block_lt_of_cell? W _ c0)).trans c0)
    have d1 : ∀ v : Later w2, v.w.cell? ⟨g0, 1, none⟩ = some (.int .i64 i) := Later.cell ((hb12.cell (p := ⟨g0, 1, none⟩) (World.block_lt_of_cell? W _ c1)).trans c1)
    have d2 : ∀ v : Later w2, v.w.cell? ⟨g0, 2, none⟩ = some (.int .i64 a) := Later.cell ((hb12.cell (p := ⟨g0, 2, none⟩) (World.block_lt_of_cell? W _ c2)).trans c2)
    have d3 : ∀ v : Later w2, v.w.cell? ⟨g1, 0, none⟩ = some (.string n) := Later.cell ((hb12.cell (p := ⟨g1, 0, none⟩) (World.block_lt_of_cell? W _ c3)).trans c3)
    have d4 : ∀ v : Later w2, v.w.cell? ⟨g1, 1, none⟩ = some (.int .i64 x) := Later.cell ((hb12.cell (p := ⟨g1, 1, none⟩) (World.block_lt_of_cell? W _ c4)).trans c4)
    have d5 : ∀ v : Later w2, v.w.cell? ⟨g1, 2, none⟩ = some (.int .i64 y) := Later.cell ((hb12.cell (p := ⟨g1, 2, none⟩) (World.block_lt_of_cell? W _ c5)).trans c5)
    have d6 : ∀ v : Later w2, v.w.cell? ⟨g1, 3, none⟩ = some (.int .i64 z) := Later.cell ((hb12.cell (p := ⟨g1, 3, none⟩) (World.block_lt_of_cell? W _ c6)).trans c6)
    refine wp_region_later (by kernel_rfl) (by kernel_rfl) ?_
    repeat (go_big_quiet_step ((first | (go_at_call 28; exact Later.call (toRider_any _ _ _ _)) | (go_at_call 29; exact Later.call (toSize_any _ _ _ _ _)) | (go_at_call 30; exact Later.call (Hi.out _)))))
    refine wpQuiet_nil ?_
    rintro w3 ⟨⟨_, hw3⟩, rfl⟩
    clear d0 d1 d2 d3 d4 d5 d6
    go_wp2_with fail
    go_ret
    exact ⟨rfl, bthen hbw (bthen hb12 hw3)⟩

set_option maxRecDepth 100000 in
theorem fnExactStemFor_lifted (os : Os) (started : os.Started) (H : Type) (enc : TypeId × Value → H) :
    ReturnsInHanded {} Try.checked os 6 .any (Rows.fnExactStemForSpec.pre6 enc Try.prog Try.f6 Rows.fnExactStemForRow.domain false) (Rows.fnExactStemForSpec.post enc Try.prog Try.f6 false true false false) := by
  refine returnsInHanded_of_change (C := Try.checked) own started (by kernel_rfl) Try.func6
    (ChangeSpec.witness6 (enc := enc) (C := Try.checked) false ⟨#[], #[.agg #[.int .i64 0, .int .i64 0, .int .i64 0], .agg #[.string ⟨#[]⟩, .int .i64 0, .int .i64 0, .int .i64 0]], []⟩ 8 (by kernel_rfl) (by kernel_rfl) (by kernel_rfl) (by kernel_rfl)) ?_
  intro W base args ds gs before hval0 hW hcnd _
  have hval : ∀ (j : Nat) t v, Try.f6.params[j]? = some t → args[j]? = some v → Value.okWide Try.prog W .any base t v := hval0
  have hlt : ∀ x ∈ before, x.block < W.heap.size := fun x hx => hW.lt x hx
  have hW' := hW
  obtain ⟨p, q, hA0, hV, rfl, hfz, hnd⟩ := hW
  have hA : DataW.TrodAll enc Try.prog W 0 (fun _ => true) true Try.f6.params.toList args.toList ds p := hA0
  rw [Try.params6] at hA hval
  obtain ⟨v0, v1, d0, d1, p0, p1, rfl, rfl, rfl, h0, h1⟩ := trodAll_two hA
  obtain ⟨c00, c01, c02, y00, y01, y02, m0, rfl, -, -, hy00, hy01, hy02⟩ := open_agg3 Try.underlying37 (by kernel_rfl) (show Try.prog.cellsOf 37 = 3 by kernel_rfl) (hval 0 37 v0 rfl rfl) h0
  obtain ⟨a0, e00, -, wa0⟩ := DataW.trod_int Try.underlying2 hy00
  obtain ⟨b0, e01, -, wb0⟩ := DataW.trod_int Try.underlying2 hy01
  obtain ⟨c0, e02, -, wc0⟩ := DataW.trod_int Try.underlying2 hy02
  simp at e00 e01 e02
  subst e00 e01 e02
  obtain ⟨c10, c11, c12, c13, y10, y11, y12, y13, m1, rfl, -, -, hy10, hy11, hy12, hy13⟩ := open_agg4 Try.underlying39 (by kernel_rfl) (show Try.prog.cellsOf 39 = 4 by kernel_rfl) (hval 1 39 v1 rfl rfl) h1
  obtain ⟨a1, e10, -, wa1⟩ := DataW.trod_string Try.underlying9 hy10
  obtain ⟨b1, e11, -, wb1⟩ := DataW.trod_int Try.underlying2 hy11
  obtain ⟨c1, e12, -, wc1⟩ := DataW.trod_int Try.underlying2 hy12
  obtain ⟨g1, e13, -, wg1⟩ := DataW.trod_int Try.underlying2 hy13
  simp at e10 e11 e12 e13
  subst e10 e11 e12 e13
  refine (law_FnExactStemFor a0 b0 c0 (bd_i64 wa0) (bd_i64 wb0) (bd_i64 wc0) a1 b1 c1 g1 wa1 (bd_i64 wb1) (bd_i64 wc1) (bd_i64 wg1) W ).mono fun e W' ⟨he, hb⟩ => ?_
  subst he
  exact ⟨_, rfl, law_post (tb := 4) laidOut (by kernel_rfl) rfl rfl Try.underlying4 hW' rfl hb⟩
theorem fnExactStemFor_closed : joinedFacts Try.prog 6 Try.f6 Rows.fnExactStemForSpec Rows.fnExactStemForRow = true := by
  unfold joinedFacts; rw [mayEnter_yes, liftsFinal_no, make_cut]; kernel_rfl
theorem fnExactStemFor_holds : Rows.FnExactStemForSaid :=
  OpenClaim.holds_of_wide 6 Try.f6 rfl rfl rfl rfl rfl rfl rfl ⟨rfl, rfl, rfl, rfl, rfl⟩ rfl rfl rfl rfl rfl (by kernel_rfl) Try.func6 fnExactStemFor_closed
    (of_decide_eq_true (by kernel_rfl)) (by unfold Func.isWrapper; rw [if_neg (of_decide_eq_false (by kernel_rfl))]; exact ⟨rfl, rfl⟩)
    (fun os started H enc _ => fnExactStemFor_lifted os started H enc)
#print axioms fnExactStemFor_holds

set_option maxHeartbeats 1000000 in
theorem law_FnExactDoesSuit (h i a : Int) (_ : -9223372036854775808 ≤ h ∧ h ≤ 9223372036854775807) (_ : -9223372036854775808 ≤ i ∧ i ≤ 9223372036854775807) (_ : -9223372036854775808 ≤ a ∧ a ≤ 9223372036854775807) (n : ByteArray) (x y z : Int) (hn : n.size ≤ maxLen) (_ : -9223372036854775808 ≤ x ∧ x ≤ 9223372036854775807) (_ : -9223372036854775808 ≤ y ∧ y ≤ 9223372036854775807) (_ : -9223372036854775808 ≤ z ∧ z ≤ 9223372036854775807) (w : World) :
    Calls Try.prog 8 #[.agg #[.int .i64 h, .int .i64 i, .int .i64 a], .agg #[.string n, .int .i64 x, .int .i64 y, .int .i64 z]] w fun e w' => e = .returned (.bool true) ∧ Below w.heap.size w w' := by
  go_enter Try.func8, Try.ntmps8
  go_wp2_with fail
  have c0 : ((w.alloc (.cells #[.int .i64 h, .int .i64 i, .int .i64 a] 37)).alloc (.cells #[.string n, .int .i64 x, .int .i64 y, .int .i64 z] 39)).cell? ⟨w.heap.size, 0, none⟩ = some (.int .i64 h) := by go_simp
  have c1 : ((w.alloc (.cells #[.int .i64 h, .int .i64 i, .int .i64 a] 37)).alloc (.cells #[.string n, .int .i64 x, .int .i64 y, .int .i64 z] 39)).cell? ⟨w.heap.size, 1, none⟩ = some (.int .i64 i) := by go_simp
  have c2 : ((w.alloc (.cells #[.int .i64 h, .int .i64 i, .int .i64 a] 37)).alloc (.cells #[.string n, .int .i64 x, .int .i64 y, .int .i64 z] 39)).cell? ⟨w.heap.size, 2, none⟩ = some (.int .i64 a) := by go_simp
  have c3 : ((w.alloc (.cells #[.int .i64 h, .int .i64 i, .int .i64 a] 37)).alloc (.cells #[.string n, .int .i64 x, .int .i64 y, .int .i64 z] 39)).cell? ⟨w.heap.size + 1, 0, none⟩ = some (.string n) := by go_simp
  have c4 : ((w.alloc (.cells #[.int .i64 h, .int .i64 i, .int .i64 a] 37)).alloc (.cells #[.string n, .int .i64 x, .int .i64 y, .int .i64 z] 39)).cell? ⟨w.heap.size + 1, 1, none⟩ = some (.int .i64 x) := by go_simp
  have c5 : ((w.alloc (.cells #[.int .i64 h, .int .i64 i, .int .i64 a] 37)).alloc (.cells #[.string n, .int .i64 x, .int .i64 y, .int .i64 z] 39)).cell? ⟨w.heap.size + 1, 2, none⟩ = some (.int .i64 y) := by go_simp
  have c6 : ((w.alloc (.cells #[.int .i64 h, .int .i64 i, .int .i64 a] 37)).alloc (.cells #[.string n, .int .i64 x, .int .i64 y, .int .i64 z] 39)).cell? ⟨w.heap.size + 1, 3, none⟩ = some (.int .i64 z) := by go_simp
  have hbw := bthen (balloc w (.cells #[.int .i64 h, .int .i64 i, .int .i64 a] 37)) (balloc _ (.cells #[.string n, .int .i64 x, .int .i64 y, .int .i64 z] 39))
  generalize (w.alloc (.cells #[.int .i64 h, .int .i64 i, .int .i64 a] 37)).alloc (.cells #[.string n, .int .i64 x, .int .i64 y, .int .i64 z] 39) = W at c0 c1 c2 c3 c4 c5 c6 hbw ⊢
  generalize w.heap.size + 1 = g1 at c3 c4 c5 c6 ⊢
  generalize hg0 : w.heap.size = g0 at c0 c1 c2 ⊢
  clear hg0
  refine (szSize_any n x y z 1048576 hn (by omega) (by omega) _).mono ?_
  rintro e w1 ⟨r, rfl, hr1, hb1⟩
  rcases hr1 with rfl | ⟨r0, r1, hs⟩
  · go_wp2_with fail
    go_ret
    exact ⟨rfl, bthen hbw hb1⟩
  · have Hi : Hid (∀ v : World, Calls Try.prog 37 #[.agg #[.int .i64 h, .int .i64 i, .int .i64 a], .agg #[.string n, .int .i64 x, .int .i64 y, .int .i64 z]] v fun e w' => e = .returned (.tuple #[.bool (suitR h i a (n, x, y, z)).1, .int .i64 (suitR h i a (n, x, y, z)).2]) ∧ Below v.heap.size v w') := fun v => DoesSuit_impl h i a n x y z hn v
    have Hs : Hid (∀ v : World, Calls Try.prog 36 #[.agg #[.int .i64 h, .int .i64 i, .int .i64 a], .agg #[.string n, .int .i64 x, .int .i64 y, .int .i64 z]] v fun e w' => e = .returned (.tuple #[.bool (suitR h i a (n, x, y, z)).1, .int .i64 (suitR h i a (n, x, y, z)).2]) ∧ Below v.heap.size v w') := fun v => DoesSuit_spec h i a n x y z hn v
    generalize suitR h i a (n, x, y, z) = res at Hi Hs
    obtain ⟨res1, res2⟩ := res
    go_wp2_with fail
    have d0 : ∀ v : Later w1, v.w.cell? ⟨g0, 0, none⟩ = some (.int .i64 h) := Later.cell ((hb1.cell (p := ⟨g0, 0, none⟩) (World.block_lt_of_cell? W _ c0)).trans c0)
    have d1 : ∀ v : Later w1, v.w.cell? ⟨g0, 1, none⟩ = some (.int .i64 i) := Later.cell ((hb1.cell (p := ⟨g0, 1, none⟩) (World.block_lt_of_cell? W _ c1)).trans c1)
    have d2 : ∀ v : Later w1, v.w.cell? ⟨g0, 2, none⟩ = some (.int .i64 a) := Later.cell ((hb1.cell (p := ⟨g0, 2, none⟩) (World.block_lt_of_cell? W _ c2)).trans c2)
    have d3 : ∀ v : Later w1, v.w.cell? ⟨g1, 0, none⟩ = some (.string n) := Later.cell ((hb1.cell (p := ⟨g1, 0, none⟩) (World.block_lt_of_cell? W _ c3)).trans c3)
    have d4 : ∀ v : Later w1, v.w.cell? ⟨g1, 1, none⟩ = some (.int .i64 x) := Later.cell ((hb1.cell (p := ⟨g1, 1, none⟩) (World.block_lt_of_cell? W _ c4)).trans c4)
    have d5 : ∀ v : Later w1, v.w.cell? ⟨g1, 2, none⟩ = some (.int .i64 y) := Later.cell ((hb1.cell (p := ⟨g1, 2, none⟩) (World.block_lt_of_cell? W _ c5)).trans c5)
    have d6 : ∀ v : Later w1, v.w.cell? ⟨g1, 3, none⟩ = some (.int .i64 z) := Later.cell ((hb1.cell (p := ⟨g1, 3, none⟩) (World.block_lt_of_cell? W _ c6)).trans c6)
    refine wp_region_later (by kernel_rfl) (by kernel_rfl) ?_
    repeat (go_big_quiet_step ((first | (go_at_call 28; exact Later.call (toRider_any _ _ _ _)) | (go_at_call 29; exact Later.call (toSize_any _ _ _ _ _)) | (go_at_call 36; exact Later.call (Hs.out _)))))
    refine wpQuiet_nil ?_
    rintro w2 ⟨⟨_, hw2⟩, rfl⟩
    clear d0 d1 d2 d3 d4 d5 d6
    have hb12 := bthen hb1 hw2
    go_wp2_with fail
    have d0 : ∀ v : Later w2, v.w.cell? ⟨g0, 0, none⟩ = some (.int .i64 h) := Later.cell ((hb12.cell (p := ⟨g0, 0, none⟩) (World.block_lt_of_cell? W _ c0)).trans c0)
    have d1 : ∀ v : Later w2, v.w.cell? ⟨g0, 1, none⟩ = some (.int .i64 i) := Later.cell ((hb12.cell (p := ⟨g0, 1, none⟩) (World.block_lt_of_cell? W _ c1)).trans c1)
    have d2 : ∀ v : Later w2, v.w.cell? ⟨g0, 2, none⟩ = some (.int .i64 a) := Later.cell ((hb12.cell (p := ⟨g0, 2, none⟩) (World.block_lt_of_cell? W _ c2)).trans c2)
    have d3 : ∀ v : Later w2, v.w.cell? ⟨g1, 0, none⟩ = some (.string n) := Later.cell ((hb12.cell (p := ⟨g1, 0, none⟩) (World.block_lt_of_cell? W _ c3)).trans c3)
    have d4 : ∀ v : Later w2, v.w.cell? ⟨g1, 1, none⟩ = some (.int .i64 x) := Later.cell ((hb12.cell (p := ⟨g1, 1, none⟩) (World.block_lt_of_cell? W _ c4)).trans c4)
    have d5 : ∀ v : Later w2, v.w.cell? ⟨g1, 2, none⟩ = some (.int .i64 y) := Later.cell ((hb12.cell (p := ⟨g1, 2, none⟩) (World.block_lt_of_cell? W _ c5)).trans c5)
    have d6 : ∀ v : Later w2, v.w.cell? ⟨g1, 3, none⟩ = some (.int .i64 z) := Later.cell ((hb12.cell (p := ⟨g1, 3, none⟩) (World.block_lt_of_cell? W _ c6)).trans c6)
    refine wp_region_later (by kernel_rfl) (by kernel_rfl) ?_
    repeat (go_big_quiet_step ((first | (go_at_call 28; exact Later.call (toRider_any _ _ _ _)) | (go_at_call 29; exact Later.call (toSize_any _ _ _ _ _)) | (go_at_call 37; exact Later.call (Hi.out _)))))
    refine wpQuiet_nil ?_
    rintro w3 ⟨⟨_, hw3⟩, rfl⟩
    clear d0 d1 d2 d3 d4 d5 d6
    go_wp2_with fail
    go_ret
    exact ⟨rfl, bthen hbw (bthen hb12 hw3)⟩

set_option maxRecDepth 100000 in
theorem fnExactDoesSuit_lifted (os : Os) (started : os.Started) (H : Type) (enc : TypeId × Value → H) :
    ReturnsInHanded {} Try.checked os 8 .any (Rows.fnExactDoesSuitSpec.pre6 enc Try.prog Try.f8 Rows.fnExactDoesSuitRow.domain false) (Rows.fnExactDoesSuitSpec.post enc Try.prog Try.f8 false true false false) := by
  refine returnsInHanded_of_change (C := Try.checked) own started (by kernel_rfl) Try.func8
    (ChangeSpec.witness6 (enc := enc) (C := Try.checked) false ⟨#[], #[.agg #[.int .i64 0, .int .i64 0, .int .i64 0], .agg #[.string ⟨#[]⟩, .int .i64 0, .int .i64 0, .int .i64 0]], []⟩ 8 (by kernel_rfl) (by kernel_rfl) (by kernel_rfl) (by kernel_rfl)) ?_
  intro W base args ds gs before hval0 hW hcnd _
  have hval : ∀ (j : Nat) t v, Try.f8.params[j]? = some t → args[j]? = some v → Value.okWide Try.prog W .any base t v := hval0
  have hlt : ∀ x ∈ before, x.block < W.heap.size := fun x hx => hW.lt x hx
  have hW' := hW
  obtain ⟨p, q, hA0, hV, rfl, hfz, hnd⟩ := hW
  have hA : DataW.TrodAll enc Try.prog W 0 (fun _ => true) true Try.f8.params.toList args.toList ds p := hA0
  rw [Try.params8] at hA hval
  obtain ⟨v0, v1, d0, d1, p0, p1, rfl, rfl, rfl, h0, h1⟩ := trodAll_two hA
  obtain ⟨c00, c01, c02, y00, y01, y02, m0, rfl, -, -, hy00, hy01, hy02⟩ := open_agg3 Try.underlying37 (by kernel_rfl) (show Try.prog.cellsOf 37 = 3 by kernel_rfl) (hval 0 37 v0 rfl rfl) h0
  obtain ⟨a0, e00, -, wa0⟩ := DataW.trod_int Try.underlying2 hy00
  obtain ⟨b0, e01, -, wb0⟩ := DataW.trod_int Try.underlying2 hy01
  obtain ⟨c0, e02, -, wc0⟩ := DataW.trod_int Try.underlying2 hy02
  simp at e00 e01 e02
  subst e00 e01 e02
  obtain ⟨c10, c11, c12, c13, y10, y11, y12, y13, m1, rfl, -, -, hy10, hy11, hy12, hy13⟩ := open_agg4 Try.underlying39 (by kernel_rfl) (show Try.prog.cellsOf 39 = 4 by kernel_rfl) (hval 1 39 v1 rfl rfl) h1
  obtain ⟨a1, e10, -, wa1⟩ := DataW.trod_string Try.underlying9 hy10
  obtain ⟨b1, e11, -, wb1⟩ := DataW.trod_int Try.underlying2 hy11
  obtain ⟨c1, e12, -, wc1⟩ := DataW.trod_int Try.underlying2 hy12
  obtain ⟨g1, e13, -, wg1⟩ := DataW.trod_int Try.underlying2 hy13
  simp at e10 e11 e12 e13
  subst e10 e11 e12 e13
  refine (law_FnExactDoesSuit a0 b0 c0 (bd_i64 wa0) (bd_i64 wb0) (bd_i64 wc0) a1 b1 c1 g1 wa1 (bd_i64 wb1) (bd_i64 wc1) (bd_i64 wg1) W ).mono fun e W' ⟨he, hb⟩ => ?_
  subst he
  exact ⟨_, rfl, law_post (tb := 4) laidOut (by kernel_rfl) rfl rfl Try.underlying4 hW' rfl hb⟩
theorem fnExactDoesSuit_closed : joinedFacts Try.prog 8 Try.f8 Rows.fnExactDoesSuitSpec Rows.fnExactDoesSuitRow = true := by
  unfold joinedFacts; rw [mayEnter_yes, liftsFinal_no, make_cut]; kernel_rfl
theorem fnExactDoesSuit_holds : Rows.FnExactDoesSuitSaid :=
  OpenClaim.holds_of_wide 8 Try.f8 rfl rfl rfl rfl rfl rfl rfl ⟨rfl, rfl, rfl, rfl, rfl⟩ rfl rfl rfl rfl rfl (by kernel_rfl) Try.func8 fnExactDoesSuit_closed
    (of_decide_eq_true (by kernel_rfl)) (by unfold Func.isWrapper; rw [if_neg (of_decide_eq_false (by kernel_rfl))]; exact ⟨rfl, rfl⟩)
    (fun os started H enc _ => fnExactDoesSuit_lifted os started H enc)
#print axioms fnExactDoesSuit_holds

end Go.Proofs.Ytenejfhbcpkfdaa
