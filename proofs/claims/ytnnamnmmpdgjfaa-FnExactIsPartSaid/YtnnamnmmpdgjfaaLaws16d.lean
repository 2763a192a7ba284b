/- DERIVED. The law on what makes a part. -/
import Derived.Test.YtnnamnmmpdgjfaaParts
import Derived.Test.YtnnamnmmpdgjfaaKitPart1
import Derived.Test.YtnnamnmmpdgjfaaHead
import Derived.Lib.SmallJoins
import Derived.Deep.Slices
import Derived.Deep.Fields
import Derived.ChangeMaps5
import Derived.Carry
import Derived.Deep.RegionHeld3
namespace Go.Proofs.Ytnnamnmmpdgjfaa
set_option maxRecDepth 100000
open Go.RowKit Go.ChangeShapes Go.WideShapes Go.ChangeAt Go.Joins Go.Deep

set_option maxHeartbeats 1000000 in
theorem law_FnExactIsPart (x : PartT) (pA : Option Addr) (pc : Nat) (w : World) (hr : goodV x ∧ Rd w w.heap.size 3 portC pA x.ports ∧ x.ports.length ≤ pc) :
    Calls Try.prog 3 #[argV x pA pc] w fun e w' => e = .returned (.bool true) ∧ Below w.heap.size w w' := by
  obtain ⟨hg, hr, hc⟩ := hr
  unfold argV
  go_enter Try.func3, Try.ntmps3
  go_wp2_with fail
  have c0 : (w.alloc (.cells #[.string x.code, .int .i64 x.slot, .slice pA x.ports.length pc, .int .i64 x.price, .int .i64 x.grams] 24)).cell? ⟨w.heap.size, 0, none⟩ = some (.string x.code) := by go_simp
  have c1 : (w.alloc (.cells #[.string x.code, .int .i64 x.slot, .slice pA x.ports.length pc, .int .i64 x.price, .int .i64 x.grams] 24)).cell? ⟨w.heap.size, 1, none⟩ = some (.int .i64 x.slot) := by go_simp
  have c2 : (w.alloc (.cells #[.string x.code, .int .i64 x.slot, .slice pA x.ports.length pc, .int .i64 x.price, .int .i64 x.grams] 24)).cell? ⟨w.heap.size, 2, none⟩ = some (.slice pA x.ports.length pc) := by go_simp
  have c3 : (w.alloc (.cells #[.string x.code, .int .i64 x.slot, .slice pA x.ports.length pc, .int .i64 x.price, .int .i64 x.grams] 24)).cell? ⟨w.heap.size, 3, none⟩ = some (.int .i64 x.price) := by go_simp
  have c4 : (w.alloc (.cells #[.string x.code, .int .i64 x.slot, .slice pA x.ports.length pc, .int .i64 x.price, .int .i64 x.grams] 24)).cell? ⟨w.heap.size, 4, none⟩ = some (.int .i64 x.grams) := by go_simp
  have hbw := balloc w (.cells #[.string x.code, .int .i64 x.slot, .slice pA x.ports.length pc, .int .i64 x.price, .int .i64 x.grams] 24)
  have hbs := hbw.size
  generalize w.alloc (.cells #[.string x.code, .int .i64 x.slot, .slice pA x.ports.length pc, .int .i64 x.price, .int .i64 x.grams] 24) = W at c0 c1 c2 c3 c4 hbw hbs ⊢
  generalize hg0 : w.heap.size = g0 at c0 c1 c2 c3 c4 ⊢
  refine (szPart_k x pA pc 1048576 W hg (by omega) (by omega)).mono ?_
  rintro e w1 ⟨r1, rfl, hq, hb1⟩
  rcases hq with rfl | ⟨hq, hl, hS⟩
  · go_wp2_with fail
    go_ret
    subst hg0
    exact ⟨rfl, hbw.trans (hb1.mono hbs)⟩
  have hn := hg.1
  have hSp := Lib.hid (fun A' v q => isPart_spec x A' x.ports.length v q hn hS (Nat.le_refl _))
  have hIm := Lib.hid (fun A' v q => isPart_impl x A' x.ports.length v q hn hS (Nat.le_refl _))
  have HE := Lib.hid (fun A' B' v q q' => eqPart_k x A' B' x.ports.length x.ports.length v q q' hS)
  unfold argV at hSp hIm
  generalize partB x = bx at hSp hIm
  have hrW := (hr.below hbw).more hbs
  have d0 := (hb1.cell (p := ⟨g0, 0, none⟩) (World.block_lt_of_cell? W _ c0)).trans c0
  have d1 := (hb1.cell (p := ⟨g0, 1, none⟩) (World.block_lt_of_cell? W _ c1)).trans c1
  have d2 := (hb1.cell (p := ⟨g0, 2, none⟩) (World.block_lt_of_cell? W _ c2)).trans c2
  have d3 := (hb1.cell (p := ⟨g0, 3, none⟩) (World.block_lt_of_cell? W _ c3)).trans c3
  have d4 := (hb1.cell (p := ⟨g0, 4, none⟩) (World.block_lt_of_cell? W _ c4)).trans c4
  go_wp2_with fail
  refine (toPart_k x pA pc _ (hrW.next hb1) hS).mono ?_
  rintro e w2 ⟨a, rfl, fa, hb2⟩
  go_wp2_with fail
  refine (hSp.out a w2 fa.rd).mono ?_
  rintro e w3 ⟨rfl, hb3⟩
  have hb13 := bthen (bthen hb1 hb2) hb3
  clear d0 d1 d2 d3 d4 fa
  have d0 := (hb13.cell (p := ⟨g0, 0, none⟩) (World.block_lt_of_cell? W _ c0)).trans c0
  have d1 := (hb13.cell (p := ⟨g0, 1, none⟩) (World.block_lt_of_cell? W _ c1)).trans c1
  have d2 := (hb13.cell (p := ⟨g0, 2, none⟩) (World.block_lt_of_cell? W _ c2)).trans c2
  have d3 := (hb13.cell (p := ⟨g0, 3, none⟩) (World.block_lt_of_cell? W _ c3)).trans c3
  have d4 := (hb13.cell (p := ⟨g0, 4, none⟩) (World.block_lt_of_cell? W _ c4)).trans c4
  go_wp2_with fail
  refine (toPart_k x pA pc _ (hrW.next hb13) hS).mono ?_
  rintro e w4 ⟨b, rfl, fb, hb4⟩
  have hb14 := bthen hb13 hb4
  clear d0 d1 d2 d3 d4
  have d0 := (hb14.cell (p := ⟨g0, 0, none⟩) (World.block_lt_of_cell? W _ c0)).trans c0
  have d1 := (hb14.cell (p := ⟨g0, 1, none⟩) (World.block_lt_of_cell? W _ c1)).trans c1
  have d2 := (hb14.cell (p := ⟨g0, 2, none⟩) (World.block_lt_of_cell? W _ c2)).trans c2
  have d3 := (hb14.cell (p := ⟨g0, 3, none⟩) (World.block_lt_of_cell? W _ c3)).trans c3
  have d4 := (hb14.cell (p := ⟨g0, 4, none⟩) (World.block_lt_of_cell? W _ c4)).trans c4
  go_wp2_with fail
  have e0 : (w4.alloc (.cells #[.string x.code, .int .i64 x.slot, .slice b x.ports.length x.ports.length, .int .i64 x.price, .int .i64 x.grams] 29)).cell? ⟨w4.heap.size, 0, none⟩ = some (.string x.code) := by go_simp
  have e1 : (w4.alloc (.cells #[.string x.code, .int .i64 x.slot, .slice b x.ports.length x.ports.length, .int .i64 x.price, .int .i64 x.grams] 29)).cell? ⟨w4.heap.size, 1, none⟩ = some (.int .i64 x.slot) := by go_simp
  have e2 : (w4.alloc (.cells #[.string x.code, .int .i64 x.slot, .slice b x.ports.length x.ports.length, .int .i64 x.price, .int .i64 x.grams] 29)).cell? ⟨w4.heap.size, 2, none⟩ = some (.slice b x.ports.length x.ports.length) := by go_simp
  have e3 : (w4.alloc (.cells #[.string x.code, .int .i64 x.slot, .slice b x.ports.length x.ports.length, .int .i64 x.price, .int .i64 x.grams] 29)).cell? ⟨w4.heap.size, 3, none⟩ = some (.int .i64 x.price) := by go_simp
  have e4 : (w4.alloc (.cells #[.string x.code, .int .i64 x.slot, .slice b x.ports.length x.ports.length, .int .i64 x.price, .int .i64 x.grams] 29)).cell? ⟨w4.heap.size, 4, none⟩ = some (.int .i64 x.grams) := by go_simp
  have hb14b := bthen hb14 (balloc w4 (.cells #[.string x.code, .int .i64 x.slot, .slice b x.ports.length x.ports.length, .int .i64 x.price, .int .i64 x.grams] 29))
  have fb' := (fb.below (balloc w4 (.cells #[.string x.code, .int .i64 x.slot, .slice b x.ports.length x.ports.length, .int .i64 x.price, .int .i64 x.grams] 29)) (Nat.le_refl _))
  have hbs4 := (balloc w4 (.cells #[.string x.code, .int .i64 x.slot, .slice b x.ports.length x.ports.length, .int .i64 x.price, .int .i64 x.grams] 29)).size
  generalize w4.alloc (.cells #[.string x.code, .int .i64 x.slot, .slice b x.ports.length x.ports.length, .int .i64 x.price, .int .i64 x.grams] 29) = V at e0 e1 e2 e3 e4 hb14b fb' hbs4 ⊢
  generalize w4.heap.size = g1 at e0 e1 e2 e3 e4 fb' hbs4 ⊢
  clear d0 d1 d2 d3 d4
  refine (hIm.out b V (fb'.rd.more hbs4)).mono ?_
  rintro e w5 ⟨rfl, hb5⟩
  have hb15 := bthen hb14b hb5
  have d0 := (hb15.cell (p := ⟨g0, 0, none⟩) (World.block_lt_of_cell? W _ c0)).trans c0
  have d1 := (hb15.cell (p := ⟨g0, 1, none⟩) (World.block_lt_of_cell? W _ c1)).trans c1
  have d2 := (hb15.cell (p := ⟨g0, 2, none⟩) (World.block_lt_of_cell? W _ c2)).trans c2
  have d3 := (hb15.cell (p := ⟨g0, 3, none⟩) (World.block_lt_of_cell? W _ c3)).trans c3
  have d4 := (hb15.cell (p := ⟨g0, 4, none⟩) (World.block_lt_of_cell? W _ c4)).trans c4
  have f0 := (hb5.cell (p := ⟨g1, 0, none⟩) (World.block_lt_of_cell? V _ e0)).trans e0
  have f1 := (hb5.cell (p := ⟨g1, 1, none⟩) (World.block_lt_of_cell? V _ e1)).trans e1
  have f2 := (hb5.cell (p := ⟨g1, 2, none⟩) (World.block_lt_of_cell? V _ e2)).trans e2
  have f3 := (hb5.cell (p := ⟨g1, 3, none⟩) (World.block_lt_of_cell? V _ e3)).trans e3
  have f4 := (hb5.cell (p := ⟨g1, 4, none⟩) (World.block_lt_of_cell? V _ e4)).trans e4
  have fb5 := (fb'.rd.more hbs4).next hb5
  have hl0 := World.block_lt_of_cell? w5 _ d0
  have hl1 := World.block_lt_of_cell? w5 _ f0
  simp only at hl0 hl1
  go_wp2_with fail
  have hr5 := hrW.next hb15
  have HS : Hid (∀ v, Below w5.heap.size w5.drew v → v.cell? ⟨g0, 0, none⟩ = some (.string x.code) ∧ v.cell? ⟨g0, 1, none⟩ = some (.int .i64 x.slot) ∧ v.cell? ⟨g0, 2, none⟩ = some (.slice pA x.ports.length pc) ∧ v.cell? ⟨g0, 3, none⟩ = some (.int .i64 x.price) ∧ v.cell? ⟨g0, 4, none⟩ = some (.int .i64 x.grams) ∧ v.cell? ⟨g1, 0, none⟩ = some (.string x.code) ∧ v.cell? ⟨g1, 1, none⟩ = some (.int .i64 x.slot) ∧ v.cell? ⟨g1, 2, none⟩ = some (.slice b x.ports.length x.ports.length) ∧ v.cell? ⟨g1, 3, none⟩ = some (.int .i64 x.price) ∧ v.cell? ⟨g1, 4, none⟩ = some (.int .i64 x.grams)) := fun v hv => ⟨(hv.cell (p := ⟨g0, 0, none⟩) hl0).trans d0, (hv.cell (p := ⟨g0, 1, none⟩) hl0).trans d1, (hv.cell (p := ⟨g0, 2, none⟩) hl0).trans d2, (hv.cell (p := ⟨g0, 3, none⟩) hl0).trans d3, (hv.cell (p := ⟨g0, 4, none⟩) hl0).trans d4, (hv.cell (p := ⟨g1, 0, none⟩) hl1).trans f0, (hv.cell (p := ⟨g1, 1, none⟩) hl1).trans f1, (hv.cell (p := ⟨g1, 2, none⟩) hl1).trans f2, (hv.cell (p := ⟨g1, 3, none⟩) hl1).trans f3, (hv.cell (p := ⟨g1, 4, none⟩) hl1).trans f4⟩
  go_region_held3 (fun w' => w'.cell? ⟨g0, 0, none⟩ = some (.string x.code) ∧ w'.cell? ⟨g0, 1, none⟩ = some (.int .i64 x.slot) ∧ w'.cell? ⟨g0, 2, none⟩ = some (.slice pA x.ports.length pc) ∧ w'.cell? ⟨g0, 3, none⟩ = some (.int .i64 x.price) ∧ w'.cell? ⟨g0, 4, none⟩ = some (.int .i64 x.grams) ∧ w'.cell? ⟨g1, 0, none⟩ = some (.string x.code) ∧ w'.cell? ⟨g1, 1, none⟩ = some (.int .i64 x.slot) ∧ w'.cell? ⟨g1, 2, none⟩ = some (.slice b x.ports.length x.ports.length) ∧ w'.cell? ⟨g1, 3, none⟩ = some (.int .i64 x.price) ∧ w'.cell? ⟨g1, 4, none⟩ = some (.int .i64 x.grams)) (first | go_keep | exact HS.out _ (Below.refl _ _) | exact HS.out _ hb6 | exact HS.out _ (bthen hb6 hb7)) (first | (go_at_call 17; refine (toPart_k x pA pc _ (by first | assumption | exact hr5.next (bdrew _)) hS).mono ?_; rintro e w6 ⟨d, rfl, fd, hb6⟩) | (go_at_call 19; refine (HE.out b d _ ((fb5.next (bdrew _)).next hb6) fd.rd).mono ?_; rintro e w7 ⟨rfl, hb7⟩))
  go_wp2_with fail
  go_ret
  subst hg0
  exact ⟨rfl, hbw.trans ((bthen (bthen hb15.drew hb6) hb7).mono hbs)⟩

set_option maxRecDepth 100000 in
theorem fnExactIsPart_lifted (os : Os) (started : os.Started) (H : Type) (enc : TypeId × Value → H) :
    ReturnsInHanded {} Try.checked os 3 .any (Rows.fnExactIsPartSpec.pre6 enc Try.prog Try.f3 Rows.fnExactIsPartRow.domain false) (Rows.fnExactIsPartSpec.post enc Try.prog Try.f3 false true false false) := by
  refine returnsInHanded_of_change (C := Try.checked) own started (by kernel_rfl) Try.func3
    (ChangeSpec.witness6 (enc := enc) (C := Try.checked) false ⟨#[], #[.agg #[.string ⟨#[]⟩, .int .i64 0, .slice none 0 0, .int .i64 0, .int .i64 0]], []⟩ 8 (by kernel_rfl) (by kernel_rfl) (by kernel_rfl) (by kernel_rfl)) ?_
  intro W base args ds gs before hval0 hW hcnd _
  have hval : ∀ (j : Nat) t v, Try.f3.params[j]? = some t → args[j]? = some v → Value.okWide Try.prog W .any base t v := hval0
  have hlt : ∀ x ∈ before, x.block < W.heap.size := fun x hx => hW.lt x hx
  have hW' := hW
  obtain ⟨p, q, hA0, hV, rfl, hfz, hnd⟩ := hW
  have hA : DataW.TrodAll enc Try.prog W 0 (fun _ => true) true Try.f3.params.toList args.toList ds p := hA0
  rw [Try.params3] at hA hval
  obtain ⟨v0, d0, rfl, rfl, h0⟩ := trodAll_one hA
  obtain ⟨pt0, pA0, pc0, rfl, hr0⟩ := open_partV (hval 0 24 v0 rfl rfl) h0
  refine (law_FnExactIsPart pt0 pA0 pc0 W hr0).mono fun e W' ⟨he, hb⟩ => ?_
  subst he
  exact ⟨_, rfl, law_post (tb := 4) laidOut (by kernel_rfl) rfl rfl Try.underlying4 hW' rfl hb⟩
theorem fnExactIsPart_closed : joinedFacts Try.prog 3 Try.f3 Rows.fnExactIsPartSpec Rows.fnExactIsPartRow = true := by
  unfold joinedFacts; rw [mayEnter_yes, liftsFinal_no, make_cut]; kernel_rfl
theorem fnExactIsPart_holds : Rows.FnExactIsPartSaid :=
  OpenClaim.holds_of_wide 3 Try.f3 rfl rfl rfl rfl rfl rfl rfl ⟨rfl, rfl, rfl, rfl, rfl⟩ rfl rfl rfl rfl rfl (by kernel_rfl) Try.func3 fnExactIsPart_closed
    (of_decide_eq_true (by kernel_rfl)) (by unfold Func.isWrapper; rw [if_neg (of_decide_eq_false (by kernel_rfl))]; exact ⟨rfl, rfl⟩)
    (fun os started H enc _ => fnExactIsPart_lifted os started H enc)
#print axioms fnExactIsPart_holds

end Go.Proofs.Ytnnamnmmpdgjfaa
