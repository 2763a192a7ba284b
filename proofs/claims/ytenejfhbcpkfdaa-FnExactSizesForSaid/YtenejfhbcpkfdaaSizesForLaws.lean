/- DERIVED. The law on all sizes that suit. -/
import Derived.Test.YtenejfhbcpkfdaaSizesFor
import Derived.Test.YtenejfhbcpkfdaaMkSize
import Derived.Test.YtenejfhbcpkfdaaHead
import Derived.Lib.SmallJoins
namespace Go.Proofs.Ytenejfhbcpkfdaa
set_option maxRecDepth 100000
open Go.RowKit Go.ChangeShapes Go.WideShapes Go.ChangeAt Go.Joins Go.Deep

theorem forR_len (h i a : Int) (xs : List SizeT) : (forR h i a xs).1.length ≤ xs.length := by
  unfold forR
  split
  · exact keepTo_le _ _ _ _
  · simp

set_option maxHeartbeats 4000000 in
theorem law_FnExactSizesFor (h i0 a : Int) (_ : -9223372036854775808 ≤ h ∧ h ≤ 9223372036854775807) (_ : -9223372036854775808 ≤ i0 ∧ i0 ≤ 9223372036854775807) (_ : -9223372036854775808 ≤ a ∧ a ≤ 9223372036854775807) (A : Option Addr) (c : Nat) (xs : List (ByteArray × Int × Int × Int)) (w : World) (hr : xs.length ≤ maxLen ∧ (∀ x ∈ xs, (fun t => t.1.size ≤ maxLen) x) ∧ Rd w w.heap.size 4 sizeC A xs) :
    Calls Try.prog 9 #[.agg #[.int .i64 h, .int .i64 i0, .int .i64 a], .slice A xs.length c] w fun e w' => e = .returned (.bool true) ∧ Below w.heap.size w w' := by
  obtain ⟨hm, hg, hr⟩ := hr
  have Hg := Lib.hid hg
  go_enter Try.func9, Try.ntmps9
  go_wp2_with fail
  have c0 : (w.alloc (.cells #[.int .i64 h, .int .i64 i0, .int .i64 a] 37)).cell? ⟨w.heap.size, 0, none⟩ = some (.int .i64 h) := by go_simp
  have c1 : (w.alloc (.cells #[.int .i64 h, .int .i64 i0, .int .i64 a] 37)).cell? ⟨w.heap.size, 1, none⟩ = some (.int .i64 i0) := by go_simp
  have c2 : (w.alloc (.cells #[.int .i64 h, .int .i64 i0, .int .i64 a] 37)).cell? ⟨w.heap.size, 2, none⟩ = some (.int .i64 a) := by go_simp
  have hbw := balloc w (.cells #[.int .i64 h, .int .i64 i0, .int .i64 a] 37)
  generalize w.alloc (.cells #[.int .i64 h, .int .i64 i0, .int .i64 a] 37) = W at c0 c1 c2 hbw ⊢
  have hrW := (hr.below hbw).more hbw.size
  clear hr
  have hbs := hbw.size
  generalize hg0 : w.heap.size = g0 at c0 c1 c2 hbw hbs ⊢
  refine (szSizeS_any A c xs 1048576 _ hrW hm hg (by omega) (by omega)).mono ?_
  clear hg
  rintro e w0 ⟨r, rfl, hr1, hb0⟩
  rcases hr1 with rfl | ⟨r0, r1, hs, _⟩
  · go_wp2_with fail
    go_ret
    exact ⟨rfl, by rw [hg0]; exact hbw.trans (hb0.mono hbs)⟩
  · have hS := Lib.hid (fun A' c' w' hr' => SizesFor_spec h i0 a A' c' xs w' hr' hs Hg.out)
    have hP := Lib.hid (fun A' c' w' hr' hc' => SizesFor_impl h i0 a A' c' xs w' hr' hs hc' Hg.out)
    have hlen := forR_len h i0 a xs
    generalize forR h i0 a xs = res at hS hP hlen
    obtain ⟨l, cd⟩ := res
    simp only at hlen
    have e0 : w0.cell? ⟨g0, 0, none⟩ = some (.int .i64 h) := (hb0.cell (p := ⟨g0, 0, none⟩) (World.block_lt_of_cell? W _ c0)).trans c0
    have e1 : w0.cell? ⟨g0, 1, none⟩ = some (.int .i64 i0) := (hb0.cell (p := ⟨g0, 1, none⟩) (World.block_lt_of_cell? W _ c1)).trans c1
    have e2 : w0.cell? ⟨g0, 2, none⟩ = some (.int .i64 a) := (hb0.cell (p := ⟨g0, 2, none⟩) (World.block_lt_of_cell? W _ c2)).trans c2
    have s0 := hb0.size
    go_wp2_with fail
    refine (toRider_any _ _ _ _).mono ?_
    rintro e w1 ⟨rfl, hb1⟩
    have hb01 := bthen hb0 hb1
    have s1 := hb1.size
    go_wp2_with fail
    refine (toSizeS_any A c xs _ ((hrW.below hb01).more hb01.size) hs).mono ?_
    rintro e w2 ⟨A2, rfl, fl2, hb2⟩
    have hb02 := bthen hb01 hb2
    have s2 := hb2.size
    go_wp2_with fail
    refine (hS.out A2 _ _ fl2.rd).mono ?_
    rintro e w3 ⟨A3, c3, rfl, fl3, hc3, hb3⟩
    have hb03 := bthen hb02 hb3
    have s3 := hb3.size
    simp only at fl3 hc3
    go_wp2_with fail
    refine (toSizeS_any A c xs _ ((hrW.below hb03).more hb03.size) hs).mono ?_
    rintro e w4 ⟨A4, rfl, fl4, hb4⟩
    have hb04 := bthen hb03 hb4
    have s4 := hb4.size
    clear e0 e1 e2
    have e0 : w4.cell? ⟨g0, 0, none⟩ = some (.int .i64 h) := (hb04.cell (p := ⟨g0, 0, none⟩) (World.block_lt_of_cell? W _ c0)).trans c0
    have e1 : w4.cell? ⟨g0, 1, none⟩ = some (.int .i64 i0) := (hb04.cell (p := ⟨g0, 1, none⟩) (World.block_lt_of_cell? W _ c1)).trans c1
    have e2 : w4.cell? ⟨g0, 2, none⟩ = some (.int .i64 a) := (hb04.cell (p := ⟨g0, 2, none⟩) (World.block_lt_of_cell? W _ c2)).trans c2
    go_wp2_with fail
    refine (toRider_any _ _ _ _).mono ?_
    rintro e w5 ⟨rfl, hb5⟩
    have hb05 := bthen hb04 hb5
    have s5 := hb5.size
    go_wp2_with fail
    refine (hP.out A4 _ _ ((fl4.rd.below hb5).more s5) (Nat.le_refl _)).mono ?_
    rintro e w6 ⟨A6, c6, rfl, fl6, hc6, hb6⟩
    have hb06 := bthen hb05 hb6
    have s6 := hb6.size
    simp only at fl6 hc6
    have b36 := bthen (bthen hb4 hb5) hb6
    go_wp2_with fail
    refine (eqStringS_any A6 A3 _ _ l l _ fl6.rd ((fl3.rd.below b36).more b36.size) (by omega)).mono ?_
    rw [decide_eq_true (rfl : l = l)]
    rintro e w7 ⟨rfl, hb7⟩
    have hb07 := bthen hb06 hb7
    have s7 := hb7.size
    go_wp2_with fail
    refine (toSizeS_any A c xs _ ((hrW.below hb07).more hb07.size) hs).mono ?_
    rintro e w8 ⟨A8, rfl, fl8, hb8⟩
    have hb08 := bthen hb07 hb8
    have s8 := hb8.size
    have b48 := bthen (bthen (bthen hb5 hb6) hb7) hb8
    go_wp2_with fail
    refine (eqSizeS_any A4 A8 _ _ xs xs _ ((fl4.rd.below b48).more b48.size) fl8.rd hs).mono ?_
    rw [decide_eq_true (rfl : xs = xs)]
    rintro e w9 ⟨rfl, hb9⟩
    have hb09 := bthen hb08 hb9
    have s9 := hb9.size
    have b49 := bthen b48 hb9
    go_wp2_with fail
    refine (markSizeS_any A4 _ xs 1 w3.heap.size w4.heap.size _ (fl4.below b49 (Nat.le_refl _)) hs (by omega) (by omega) (by omega)).mono ?_
    rintro e w10 ⟨rfl, ho10⟩
    have s10 := ho10.size
    have o3 := (Only.of_below (lo := w3.heap.size) (hi := w4.heap.size) (bthen (bthen b36 (bthen hb7 hb8)) hb9)).trans ho10
    have o6 := (Only.of_below (lo := w3.heap.size) (hi := w4.heap.size) (bthen (bthen hb7 hb8) hb9)).trans ho10
    have f3 := fl3.only o3 (Nat.le_refl _) (Or.inl (Nat.le_refl _))
    have f6 := fl6.only o6 (Nat.le_refl _) (Or.inr (by omega))
    have hb010 := hb09.trans (ho10.below (B := W.heap.size) (by omega) (by omega))
    clear fl3 fl6 o3 o6
    go_wp2_with fail
    refine (eqStringS_any A6 A3 _ _ l l _ (f6.rd.more (by omega)) (f3.rd.more (by omega)) (by omega)).mono ?_
    rw [decide_eq_true (rfl : l = l)]
    rintro e w11 ⟨rfl, hb11⟩
    have s11 := hb11.size
    have hb011 := bthen' hb010 hb11
    go_wp2_with fail
    refine (markStringS_any A6 _ l 1 w5.heap.size w6.heap.size _ (f6.below hb11 (by omega)) (by omega) (by omega) (by omega) (by omega)).mono ?_
    rintro e w12 ⟨rfl, ho12, fm⟩
    have s12 := ho12.size
    have g3 := (f3.below hb11 (by omega)).only ho12 (by omega) (Or.inl (by omega))
    have hb012 := hb011.trans (ho12.below (B := W.heap.size) (by omega) (by omega))
    clear f3 f6
    go_wp2_with fail
    refine (heldStringS_any A6 _ l.length 1 _ (fm.rd.more (by omega)) (by omega) (by omega) (by omega)).mono ?_
    rintro e w13 ⟨rfl, hb13⟩
    have s13 := hb13.size
    have hb013 := bthen' hb012 hb13
    clear e0 e1 e2
    have e0 : w13.cell? ⟨g0, 0, none⟩ = some (.int .i64 h) := (hb013.cell (p := ⟨g0, 0, none⟩) (World.block_lt_of_cell? W _ c0)).trans c0
    have e1 : w13.cell? ⟨g0, 1, none⟩ = some (.int .i64 i0) := (hb013.cell (p := ⟨g0, 1, none⟩) (World.block_lt_of_cell? W _ c1)).trans c1
    have e2 : w13.cell? ⟨g0, 2, none⟩ = some (.int .i64 a) := (hb013.cell (p := ⟨g0, 2, none⟩) (World.block_lt_of_cell? W _ c2)).trans c2
    go_wp2_with fail
    refine (toRider_any _ _ _ _).mono ?_
    rintro e w14 ⟨rfl, hb14⟩
    have s14 := hb14.size
    have hb014 := bthen' hb013 hb14
    go_wp2_with fail
    refine (toSizeS_any A c xs _ ((hrW.below hb014).more hb014.size) hs).mono ?_
    rintro e w15 ⟨A15, rfl, fl15, hb15⟩
    have s15 := hb15.size
    have hb015 := bthen' hb014 hb15
    go_wp2_with fail
    refine (hP.out A15 _ _ fl15.rd (Nat.le_refl _)).mono ?_
    rintro e w16 ⟨A16, c16, rfl, fl16, hc16, hb16⟩
    have s16 := hb16.size
    have hb016 := bthen' hb015 hb16
    simp only at fl16 hc16
    have b1216 := bthen (bthen (bthen hb13 hb14) hb15) hb16
    go_wp2_with fail
    refine (eqStringS_any A16 A3 _ _ l l _ fl16.rd ((g3.rd.below (b1216.mono (by omega))).more (by omega)) (by omega)).mono ?_
    rw [decide_eq_true (rfl : l = l)]
    rintro e w17 ⟨rfl, hb17⟩
    have s17 := hb17.size
    have hb017 := bthen' hb016 hb17
    have b1217 := bthen b1216 hb17
    go_wp2_with fail
    refine (heldStringS_any A6 _ l.length 1 _ ((fm.rd.below (b1217.mono (by omega))).more (by omega)) (by omega) (by omega) (by omega)).mono ?_
    rintro e w18 ⟨rfl, hb18⟩
    have hb018 := bthen' hb017 hb18
    go_wp2_with fail
    go_ret
    exact ⟨rfl, by rw [hg0]; exact hbw.trans (hb018.mono hbs)⟩

set_option maxRecDepth 100000 in
theorem fnExactSizesFor_lifted (os : Os) (started : os.Started) (H : Type) (enc : TypeId × Value → H) :
    ReturnsInHanded {} Try.checked os 9 .any (Rows.fnExactSizesForSpec.pre6 enc Try.prog Try.f9 Rows.fnExactSizesForRow.domain false) (Rows.fnExactSizesForSpec.post enc Try.prog Try.f9 false true false false) := by
  refine returnsInHanded_of_change (C := Try.checked) own started (by kernel_rfl) Try.func9
    (ChangeSpec.witness6 (enc := enc) (C := Try.checked) false ⟨#[], #[.agg #[.int .i64 0, .int .i64 0, .int .i64 0], .slice none 0 0], []⟩ 8 (by kernel_rfl) (by kernel_rfl) (by kernel_rfl) (by kernel_rfl)) ?_
  intro W base args ds gs before hval0 hW hcnd _
  have hval : ∀ (j : Nat) t v, Try.f9.params[j]? = some t → args[j]? = some v → Value.okWide Try.prog W .any base t v := hval0
  have hlt : ∀ x ∈ before, x.block < W.heap.size := fun x hx => hW.lt x hx
  have hW' := hW
  obtain ⟨p, q, hA0, hV, rfl, hfz, hnd⟩ := hW
  have hA : DataW.TrodAll enc Try.prog W 0 (fun _ => true) true Try.f9.params.toList args.toList ds p := hA0
  rw [Try.params9] at hA hval
  obtain ⟨v0, v1, d0, d1, p0, p1, rfl, rfl, rfl, h0, h1⟩ := trodAll_two hA
  obtain ⟨c00, c01, c02, y00, y01, y02, m0, rfl, -, -, hy00, hy01, hy02⟩ := open_agg3 Try.underlying37 (by kernel_rfl) (show Try.prog.cellsOf 37 = 3 by kernel_rfl) (hval 0 37 v0 rfl rfl) h0
  obtain ⟨a0, e00, -, wa0⟩ := DataW.trod_int Try.underlying2 hy00
  obtain ⟨b0, e01, -, wb0⟩ := DataW.trod_int Try.underlying2 hy01
  obtain ⟨c0, e02, -, wc0⟩ := DataW.trod_int Try.underlying2 hy02
  simp at e00 e01 e02
  subst e00 e01 e02
  obtain ⟨A1, k1, xs1, rfl, hr1⟩ := open_sizes (hval 1 48 v1 rfl rfl) h1
  refine (law_FnExactSizesFor a0 b0 c0 (bd_i64 wa0) (bd_i64 wb0) (bd_i64 wc0) A1 k1 xs1 W hr1).mono fun e W' ⟨he, hb⟩ => ?_
  subst he
  exact ⟨_, rfl, law_post (tb := 4) laidOut (by kernel_rfl) rfl rfl Try.underlying4 hW' rfl hb⟩
theorem fnExactSizesFor_closed : joinedFacts Try.prog 9 Try.f9 Rows.fnExactSizesForSpec Rows.fnExactSizesForRow = true := by
  unfold joinedFacts; rw [mayEnter_yes, liftsFinal_no, make_cut]; kernel_rfl
theorem fnExactSizesFor_holds : Rows.FnExactSizesForSaid :=
  OpenClaim.holds_of_wide 9 Try.f9 rfl rfl rfl rfl rfl rfl rfl ⟨rfl, rfl, rfl, rfl, rfl⟩ rfl rfl rfl rfl rfl (by kernel_rfl) Try.func9 fnExactSizesFor_closed
    (of_decide_eq_true (by kernel_rfl)) (by unfold Func.isWrapper; rw [if_neg (of_decide_eq_false (by kernel_rfl))]; exact ⟨rfl, rfl⟩)
    (fun os started H enc _ => fnExactSizesFor_lifted os started H enc)
#print axioms fnExactSizesFor_holds

end Go.Proofs.Ytenejfhbcpkfdaa
