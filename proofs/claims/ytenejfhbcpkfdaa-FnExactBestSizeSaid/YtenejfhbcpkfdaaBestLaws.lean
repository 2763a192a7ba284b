/- DERIVED. The law on the best size. -/
import Derived.Test.YtenejfhbcpkfdaaBest
import Derived.Test.YtenejfhbcpkfdaaHead
import Derived.Lib.SmallJoins
namespace Go.Proofs.Ytenejfhbcpkfdaa
set_option maxRecDepth 100000
open Go.RowKit Go.ChangeShapes Go.WideShapes Go.ChangeAt Go.Joins Go.Deep

set_option maxHeartbeats 1000000 in
theorem law_FnExactBestSize (h i0 a : Int) (_ : -9223372036854775808 ≤ h ∧ h ≤ 9223372036854775807) (_ : -9223372036854775808 ≤ i0 ∧ i0 ≤ 9223372036854775807) (_ : -9223372036854775808 ≤ a ∧ a ≤ 9223372036854775807) (A : Option Addr) (c : Nat) (xs : List (ByteArray × Int × Int × Int)) (w : World) (hr : xs.length ≤ maxLen ∧ (∀ x ∈ xs, (fun t => t.1.size ≤ maxLen) x) ∧ Rd w w.heap.size 4 sizeC A xs) :
    Calls Try.prog 10 #[.agg #[.int .i64 h, .int .i64 i0, .int .i64 a], .slice A xs.length c] w fun e w' => e = .returned (.bool true) ∧ Below w.heap.size w w' := by
  obtain ⟨hm, hg, hr⟩ := hr
  have Hg := Lib.hid hg
  go_enter Try.func10, Try.ntmps10
  go_wp2_with fail
  have c0 : (w.alloc (.cells #[.int .i64 h, .int .i64 i0, .int .i64 a] 37)).cell? ⟨w.heap.size, 0, none⟩ = some (.int .i64 h) := by go_simp
  have c1 : (w.alloc (.cells #[.int .i64 h, .int .i64 i0, .int .i64 a] 37)).cell? ⟨w.heap.size, 1, none⟩ = some (.int .i64 i0) := by go_simp
  have c2 : (w.alloc (.cells #[.int .i64 h, .int .i64 i0, .int .i64 a] 37)).cell? ⟨w.heap.size, 2, none⟩ = some (.int .i64 a) := by go_simp
  have hbw := balloc w (.cells #[.int .i64 h, .int .i64 i0, .int .i64 a] 37)
  generalize w.alloc (.cells #[.int .i64 h, .int .i64 i0, .int .i64 a] 37) = W at c0 c1 c2 hbw ⊢
  have hrW := (hr.below hbw).more hbw.size
  clear hr
  have hbs := hbw.size
  generalize hg0 : w.heap.size = g0 at c0 c1 c2 hbw hbs ⊢
  refine (szSizeS_any A c xs 1048576 _ hrW hm hg (by omega) (by omega)).mono ?_
  clear hg
  rintro e w0 ⟨r, rfl, hr1, hb0⟩
  rcases hr1 with rfl | ⟨r0, r1, hs, _⟩
  · go_wp2_with fail
    go_ret
    exact ⟨rfl, by rw [hg0]; exact hbw.trans (hb0.mono hbs)⟩
  · have hS := Lib.hid (fun A' c' w' hr' => BestSize_spec h i0 a A' c' xs w' hr' hs Hg.out)
    have hP := Lib.hid (fun A' c' w' hr' hc' => BestSize_impl h i0 a A' c' xs w' hr' hs hc' Hg.out)
    generalize bestR h i0 a xs = res at hS hP
    obtain ⟨s1, s2⟩ := res
    have e0 : w0.cell? ⟨g0, 0, none⟩ = some (.int .i64 h) := (hb0.cell (p := ⟨g0, 0, none⟩) (World.block_lt_of_cell? W _ c0)).trans c0
    have e1 : w0.cell? ⟨g0, 1, none⟩ = some (.int .i64 i0) := (hb0.cell (p := ⟨g0, 1, none⟩) (World.block_lt_of_cell? W _ c1)).trans c1
    have e2 : w0.cell? ⟨g0, 2, none⟩ = some (.int .i64 a) := (hb0.cell (p := ⟨g0, 2, none⟩) (World.block_lt_of_cell? W _ c2)).trans c2
    go_wp2_with fail
    refine (toRider_any _ _ _ _).mono ?_
    rintro e w1 ⟨rfl, hb1⟩
    have hb01 := bthen hb0 hb1
    go_wp2_with fail
    refine (toSizeS_any A c xs _ ((hrW.below hb01).more hb01.size) hs).mono ?_
    rintro e w2 ⟨A2, rfl, hf2, hb2⟩
    have hb02 := bthen hb01 hb2
    go_wp2_with fail
    refine (hS.out A2 _ _ hf2.rd).mono ?_
    rintro e w3 ⟨rfl, hb3⟩
    have hb03 := bthen hb02 hb3
    go_wp2_with fail
    refine (toSizeS_any A c xs _ ((hrW.below hb03).more hb03.size) hs).mono ?_
    rintro e w4 ⟨A4, rfl, hf4, hb4⟩
    have hb04 := bthen hb03 hb4
    clear e0 e1 e2
    have e0 : w4.cell? ⟨g0, 0, none⟩ = some (.int .i64 h) := (hb04.cell (p := ⟨g0, 0, none⟩) (World.block_lt_of_cell? W _ c0)).trans c0
    have e1 : w4.cell? ⟨g0, 1, none⟩ = some (.int .i64 i0) := (hb04.cell (p := ⟨g0, 1, none⟩) (World.block_lt_of_cell? W _ c1)).trans c1
    have e2 : w4.cell? ⟨g0, 2, none⟩ = some (.int .i64 a) := (hb04.cell (p := ⟨g0, 2, none⟩) (World.block_lt_of_cell? W _ c2)).trans c2
    go_wp2_with fail
    refine (toRider_any _ _ _ _).mono ?_
    rintro e w5 ⟨rfl, hb5⟩
    have hb05 := bthen hb04 hb5
    have hr5 := (hf4.rd.below hb5).more hb5.size
    go_wp2_with fail
    refine (hP.out A4 _ _ hr5 (Nat.le_refl _)).mono ?_
    rintro e w6 ⟨rfl, hb6⟩
    have hb06 := bthen hb05 hb6
    have hr6 := (hr5.below hb6).more hb6.size
    go_wp2_with fail
    refine (toSizeS_any A c xs _ ((hrW.below hb06).more hb06.size) hs).mono ?_
    rintro e w7 ⟨A7, rfl, hf7, hb7⟩
    have hb07 := bthen hb06 hb7
    go_wp2_with fail
    refine (eqSizeS_any A4 A7 _ _ xs xs _ ((hr6.below hb7).more hb7.size) hf7.rd hs).mono ?_
    rw [decide_eq_true (rfl : xs = xs)]
    rintro e w8 ⟨rfl, hb8⟩
    have hb08 := bthen hb07 hb8
    go_wp2_with fail
    go_ret
    exact ⟨rfl, by rw [hg0]; exact hbw.trans (hb08.mono hbs)⟩

set_option maxRecDepth 100000 in
theorem fnExactBestSize_lifted (os : Os) (started : os.Started) (H : Type) (enc : TypeId × Value → H) :
    ReturnsInHanded {} Try.checked os 10 .any (Rows.fnExactBestSizeSpec.pre6 enc Try.prog Try.f10 Rows.fnExactBestSizeRow.domain false) (Rows.fnExactBestSizeSpec.post enc Try.prog Try.f10 false true false false) := by
  refine returnsInHanded_of_change (C := Try.checked) own started (by kernel_rfl) Try.func10
    (ChangeSpec.witness6 (enc := enc) (C := Try.checked) false ⟨#[], #[.agg #[.int .i64 0, .int .i64 0, .int .i64 0], .slice none 0 0], []⟩ 8 (by kernel_rfl) (by kernel_rfl) (by kernel_rfl) (by kernel_rfl)) ?_
  intro W base args ds gs before hval0 hW hcnd _
  have hval : ∀ (j : Nat) t v, Try.f10.params[j]? = some t → args[j]? = some v → Value.okWide Try.prog W .any base t v := hval0
  have hlt : ∀ x ∈ before, x.block < W.heap.size := fun x hx => hW.lt x hx
  have hW' := hW
  obtain ⟨p, q, hA0, hV, rfl, hfz, hnd⟩ := hW
  have hA : DataW.TrodAll enc Try.prog W 0 (fun _ => true) true Try.f10.params.toList args.toList ds p := hA0
  rw [Try.params10] at hA hval
  obtain ⟨v0, v1, d0, d1, p0, p1, rfl, rfl, rfl, h0, h1⟩ := trodAll_two hA
  obtain ⟨c00, c01, c02, y00, y01, y02, m0, rfl, -, -, hy00, hy01, hy02⟩ := open_agg3 Try.underlying37 (by kernel_rfl) (show Try.prog.cellsOf 37 = 3 by kernel_rfl) (hval 0 37 v0 rfl rfl) h0
  obtain ⟨a0, e00, -, wa0⟩ := DataW.trod_int Try.underlying2 hy00
  obtain ⟨b0, e01, -, wb0⟩ := DataW.trod_int Try.underlying2 hy01
  obtain ⟨c0, e02, -, wc0⟩ := DataW.trod_int Try.underlying2 hy02
  simp at e00 e01 e02
  subst e00 e01 e02
  obtain ⟨A1, k1, xs1, rfl, hr1⟩ := open_sizes (hval 1 48 v1 rfl rfl) h1
  refine (law_FnExactBestSize a0 b0 c0 (bd_i64 wa0) (bd_i64 wb0) (bd_i64 wc0) A1 k1 xs1 W hr1).mono fun e W' ⟨he, hb⟩ => ?_
  subst he
  exact ⟨_, rfl, law_post (tb := 4) laidOut (by kernel_rfl) rfl rfl Try.underlying4 hW' rfl hb⟩
theorem fnExactBestSize_closed : joinedFacts Try.prog 10 Try.f10 Rows.fnExactBestSizeSpec Rows.fnExactBestSizeRow = true := by
  unfold joinedFacts; rw [mayEnter_yes, liftsFinal_no, make_cut]; kernel_rfl
theorem fnExactBestSize_holds : Rows.FnExactBestSizeSaid :=
  OpenClaim.holds_of_wide 10 Try.f10 rfl rfl rfl rfl rfl rfl rfl ⟨rfl, rfl, rfl, rfl, rfl⟩ rfl rfl rfl rfl rfl (by kernel_rfl) Try.func10 fnExactBestSize_closed
    (of_decide_eq_true (by kernel_rfl)) (by unfold Func.isWrapper; rw [if_neg (of_decide_eq_false (by kernel_rfl))]; exact ⟨rfl, rfl⟩)
    (fun os started H enc _ => fnExactBestSize_lifted os started H enc)
#print axioms fnExactBestSize_holds

end Go.Proofs.Ytenejfhbcpkfdaa
