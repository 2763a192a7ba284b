/- DERIVED. The law on DoJoin. -/
import Derived.Test.YtnnamnmmpdgjfaaDoJoin
import Derived.Test.YtnnamnmmpdgjfaaKitPart1
import Derived.Test.YtnnamnmmpdgjfaaHead
import Derived.Lib.SmallJoins
import Derived.Deep.Slices
import Derived.Deep.Fields
import Derived.ChangeMaps5
import Derived.Carry
import Derived.Deep.RegionHeld3
namespace Go.Proofs.Ytnnamnmmpdgjfaa
set_option maxRecDepth 100000
open Go.RowKit Go.ChangeShapes Go.WideShapes Go.ChangeAt Go.Joins Go.Deep

set_option maxHeartbeats 2000000 in
theorem law_FnExactDoJoin (x : PartT) (pA : Option Addr) (pc : Nat) (y : PartT) (pB : Option Addr) (pd : Nat) (kind : Int) (_ : -9223372036854775808 ≤ kind ∧ kind ≤ 9223372036854775807) (w : World) (hr : goodV x ∧ Rd w w.heap.size 3 portC pA x.ports ∧ x.ports.length ≤ pc) (hr' : goodV y ∧ Rd w w.heap.size 3 portC pB y.ports ∧ y.ports.length ≤ pd) :
    Calls Try.prog 8 #[argV x pA pc, argV y pB pd, .int .i64 kind] w fun e w' => e = .returned (.bool true) ∧ Below w.heap.size w w' := by
  obtain ⟨hg, hr, hc⟩ := hr
  obtain ⟨hg', hr', hc'⟩ := hr'
  unfold argV
  go_enter Try.func8, Try.ntmps8
  go_wp2_with fail
  have c0 : ((w.alloc (.cells #[.string x.code, .int .i64 x.slot, .slice pA x.ports.length pc, .int .i64 x.price, .int .i64 x.grams] 24)).alloc (.cells #[.string y.code, .int .i64 y.slot, .slice pB y.ports.length pd, .int .i64 y.price, .int .i64 y.grams] 24)).cell? ⟨w.heap.size, 0, none⟩ = some (.string x.code) := by go_simp
  have c1 : ((w.alloc (.cells #[.string x.code, .int .i64 x.slot, .slice pA x.ports.length pc, .int .i64 x.price, .int .i64 x.grams] 24)).alloc (.cells #[.string y.code, .int .i64 y.slot, .slice pB y.ports.length pd, .int .i64 y.price, .int .i64 y.grams] 24)).cell? ⟨w.heap.size, 1, none⟩ = some (.int .i64 x.slot) := by go_simp
  have c2 : ((w.alloc (.cells #[.string x.code, .int .i64 x.slot, .slice pA x.ports.length pc, .int .i64 x.price, .int .i64 x.grams] 24)).alloc (.cells #[.string y.code, .int .i64 y.slot, .slice pB y.ports.length pd, .int .i64 y.price, .int .i64 y.grams] 24)).cell? ⟨w.heap.size, 2, none⟩ = some (.slice pA x.ports.length pc) := by go_simp
  have c3 : ((w.alloc (.cells #[.string x.code, .int .i64 x.slot, .slice pA x.ports.length pc, .int .i64 x.price, .int .i64 x.grams] 24)).alloc (.cells #[.string y.code, .int .i64 y.slot, .slice pB y.ports.length pd, .int .i64 y.price, .int .i64 y.grams] 24)).cell? ⟨w.heap.size, 3, none⟩ = some (.int .i64 x.price) := by go_simp
  have c4 : ((w.alloc (.cells #[.string x.code, .int .i64 x.slot, .slice pA x.ports.length pc, .int .i64 x.price, .int .i64 x.grams] 24)).alloc (.cells #[.string y.code, .int .i64 y.slot, .slice pB y.ports.length pd, .int .i64 y.price, .int .i64 y.grams] 24)).cell? ⟨w.heap.size, 4, none⟩ = some (.int .i64 x.grams) := by go_simp
  have k0 : ((w.alloc (.cells #[.string x.code, .int .i64 x.slot, .slice pA x.ports.length pc, .int .i64 x.price, .int .i64 x.grams] 24)).alloc (.cells #[.string y.code, .int .i64 y.slot, .slice pB y.ports.length pd, .int .i64 y.price, .int .i64 y.grams] 24)).cell? ⟨w.heap.size + 1, 0, none⟩ = some (.string y.code) := by go_simp
  have k1 : ((w.alloc (.cells #[.string x.code, .int .i64 x.slot, .slice pA x.ports.length pc, .int .i64 x.price, .int .i64 x.grams] 24)).alloc (.cells #[.string y.code, .int .i64 y.slot, .slice pB y.ports.length pd, .int .i64 y.price, .int .i64 y.grams] 24)).cell? ⟨w.heap.size + 1, 1, none⟩ = some (.int .i64 y.slot) := by go_simp
  have k2 : ((w.alloc (.cells #[.string x.code, .int .i64 x.slot, .slice pA x.ports.length pc, .int .i64 x.price, .int .i64 x.grams] 24)).alloc (.cells #[.string y.code, .int .i64 y.slot, .slice pB y.ports.length pd, .int .i64 y.price, .int .i64 y.grams] 24)).cell? ⟨w.heap.size + 1, 2, none⟩ = some (.slice pB y.ports.length pd) := by go_simp
  have k3 : ((w.alloc (.cells #[.string x.code, .int .i64 x.slot, .slice pA x.ports.length pc, .int .i64 x.price, .int .i64 x.grams] 24)).alloc (.cells #[.string y.code, .int .i64 y.slot, .slice pB y.ports.length pd, .int .i64 y.price, .int .i64 y.grams] 24)).cell? ⟨w.heap.size + 1, 3, none⟩ = some (.int .i64 y.price) := by go_simp
  have k4 : ((w.alloc (.cells #[.string x.code, .int .i64 x.slot, .slice pA x.ports.length pc, .int .i64 x.price, .int .i64 x.grams] 24)).alloc (.cells #[.string y.code, .int .i64 y.slot, .slice pB y.ports.length pd, .int .i64 y.price, .int .i64 y.grams] 24)).cell? ⟨w.heap.size + 1, 4, none⟩ = some (.int .i64 y.grams) := by go_simp
  have hbw := bthen (balloc w (.cells #[.string x.code, .int .i64 x.slot, .slice pA x.ports.length pc, .int .i64 x.price, .int .i64 x.grams] 24)) (balloc _ (.cells #[.string y.code, .int .i64 y.slot, .slice pB y.ports.length pd, .int .i64 y.price, .int .i64 y.grams] 24))
  have hbs := hbw.size
  generalize (w.alloc (.cells #[.string x.code, .int .i64 x.slot, .slice pA x.ports.length pc, .int .i64 x.price, .int .i64 x.grams] 24)).alloc (.cells #[.string y.code, .int .i64 y.slot, .slice pB y.ports.length pd, .int .i64 y.price, .int .i64 y.grams] 24) = W at c0 c1 c2 c3 c4 k0 k1 k2 k3 k4 hbw hbs ⊢
  generalize w.heap.size + 1 = g1 at k0 k1 k2 k3 k4 ⊢
  generalize hg0 : w.heap.size = g0 at c0 c1 c2 c3 c4 ⊢
  refine (szPart_k x pA pc 1048576 W hg (by omega) (by omega)).mono ?_
  rintro e w1 ⟨r1, rfl, hq, hb1⟩
  rcases hq with rfl | ⟨hq, hl, hS⟩
  · go_wp2_with fail
    go_ret
    subst hg0
    exact ⟨rfl, hbw.trans (hb1.mono hbs)⟩
  have m0 := (hb1.cell (p := ⟨g1, 0, none⟩) (World.block_lt_of_cell? W _ k0)).trans k0
  have m1 := (hb1.cell (p := ⟨g1, 1, none⟩) (World.block_lt_of_cell? W _ k1)).trans k1
  have m2 := (hb1.cell (p := ⟨g1, 2, none⟩) (World.block_lt_of_cell? W _ k2)).trans k2
  have m3 := (hb1.cell (p := ⟨g1, 3, none⟩) (World.block_lt_of_cell? W _ k3)).trans k3
  have m4 := (hb1.cell (p := ⟨g1, 4, none⟩) (World.block_lt_of_cell? W _ k4)).trans k4
  go_wp2_with fail
  clear m0 m1 m2 m3 m4
  refine (szPart_k y pB pd r1 w1 hg' (by omega) (by omega)).mono ?_
  rintro e w2 ⟨r2, rfl, hq2, hb2⟩
  have hb12 := bthen hb1 hb2
  rcases hq2 with rfl | ⟨hq2, hl2, hS'⟩
  · go_wp2_with fail
    go_ret
    subst hg0
    exact ⟨rfl, hbw.trans (hb12.mono hbs)⟩
  have hn := hg.1
  have hn' := hg'.1
  have hSp := Lib.hid (fun A' B' v q q' => DoJoin_spec x y A' B' x.ports.length y.ports.length kind v q q' hn hn' hS hS' (Nat.le_refl _) (Nat.le_refl _))
  have hIm := Lib.hid (fun A' B' v q q' => DoJoin_impl x y A' B' x.ports.length y.ports.length kind v q q' hn hn' hS hS' (Nat.le_refl _) (Nat.le_refl _))
  have HE := Lib.hid (fun A' B' v q q' => eqPart_k x A' B' x.ports.length x.ports.length v q q' hS)
  have HE' := Lib.hid (fun A' B' v q q' => eqPart_k y A' B' y.ports.length y.ports.length v q q' hS')
  unfold argV at hSp hIm
  generalize joinR x y kind = R at hSp hIm
  obtain ⟨R1, R2⟩ := R
  have hrW := (hr.below hbw).more hbs
  have hrW' := (hr'.below hbw).more hbs
  have hr2 := hrW.next hb12
  have hr2' := hrW'.next hb12
  have d0 := (hb12.cell (p := ⟨g0, 0, none⟩) (World.block_lt_of_cell? W _ c0)).trans c0
  have d1 := (hb12.cell (p := ⟨g0, 1, none⟩) (World.block_lt_of_cell? W _ c1)).trans c1
  have d2 := (hb12.cell (p := ⟨g0, 2, none⟩) (World.block_lt_of_cell? W _ c2)).trans c2
  have d3 := (hb12.cell (p := ⟨g0, 3, none⟩) (World.block_lt_of_cell? W _ c3)).trans c3
  have d4 := (hb12.cell (p := ⟨g0, 4, none⟩) (World.block_lt_of_cell? W _ c4)).trans c4
  have m0 := (hb12.cell (p := ⟨g1, 0, none⟩) (World.block_lt_of_cell? W _ k0)).trans k0
  have m1 := (hb12.cell (p := ⟨g1, 1, none⟩) (World.block_lt_of_cell? W _ k1)).trans k1
  have m2 := (hb12.cell (p := ⟨g1, 2, none⟩) (World.block_lt_of_cell? W _ k2)).trans k2
  have m3 := (hb12.cell (p := ⟨g1, 3, none⟩) (World.block_lt_of_cell? W _ k3)).trans k3
  have m4 := (hb12.cell (p := ⟨g1, 4, none⟩) (World.block_lt_of_cell? W _ k4)).trans k4
  go_wp2_with fail
  have HS0 : Hid (∀ v, Below w2.heap.size w2.drew v → v.cell? ⟨g0, 0, none⟩ = some (.string x.code) ∧ v.cell? ⟨g0, 1, none⟩ = some (.int .i64 x.slot) ∧ v.cell? ⟨g0, 2, none⟩ = some (.slice pA x.ports.length pc) ∧ v.cell? ⟨g0, 3, none⟩ = some (.int .i64 x.price) ∧ v.cell? ⟨g0, 4, none⟩ = some (.int .i64 x.grams) ∧ v.cell? ⟨g1, 0, none⟩ = some (.string y.code) ∧ v.cell? ⟨g1, 1, none⟩ = some (.int .i64 y.slot) ∧ v.cell? ⟨g1, 2, none⟩ = some (.slice pB y.ports.length pd) ∧ v.cell? ⟨g1, 3, none⟩ = some (.int .i64 y.price) ∧ v.cell? ⟨g1, 4, none⟩ = some (.int .i64 y.grams)) := fun v hv => ⟨(hv.cell (p := ⟨g0, 0, none⟩) (World.block_lt_of_cell? _ _ d0)).trans d0, (hv.cell (p := ⟨g0, 1, none⟩) (World.block_lt_of_cell? _ _ d1)).trans d1, (hv.cell (p := ⟨g0, 2, none⟩) (World.block_lt_of_cell? _ _ d2)).trans d2, (hv.cell (p := ⟨g0, 3, none⟩) (World.block_lt_of_cell? _ _ d3)).trans d3, (hv.cell (p := ⟨g0, 4, none⟩) (World.block_lt_of_cell? _ _ d4)).trans d4, (hv.cell (p := ⟨g1, 0, none⟩) (World.block_lt_of_cell? _ _ m0)).trans m0, (hv.cell (p := ⟨g1, 1, none⟩) (World.block_lt_of_cell? _ _ m1)).trans m1, (hv.cell (p := ⟨g1, 2, none⟩) (World.block_lt_of_cell? _ _ m2)).trans m2, (hv.cell (p := ⟨g1, 3, none⟩) (World.block_lt_of_cell? _ _ m3)).trans m3, (hv.cell (p := ⟨g1, 4, none⟩) (World.block_lt_of_cell? _ _ m4)).trans m4⟩
  go_region_held3 (fun w' => w'.cell? ⟨g0, 0, none⟩ = some (.string x.code) ∧ w'.cell? ⟨g0, 1, none⟩ = some (.int .i64 x.slot) ∧ w'.cell? ⟨g0, 2, none⟩ = some (.slice pA x.ports.length pc) ∧ w'.cell? ⟨g0, 3, none⟩ = some (.int .i64 x.price) ∧ w'.cell? ⟨g0, 4, none⟩ = some (.int .i64 x.grams) ∧ w'.cell? ⟨g1, 0, none⟩ = some (.string y.code) ∧ w'.cell? ⟨g1, 1, none⟩ = some (.int .i64 y.slot) ∧ w'.cell? ⟨g1, 2, none⟩ = some (.slice pB y.ports.length pd) ∧ w'.cell? ⟨g1, 3, none⟩ = some (.int .i64 y.price) ∧ w'.cell? ⟨g1, 4, none⟩ = some (.int .i64 y.grams)) (first | exact HS0.out _ (Below.refl _ _) | exact HS0.out _ ha3 | exact HS0.out _ hb3 | exact HS0.out _ (bthen ha3 hb3) | exact HS0.out _ (bthen hb3 ha3) | exact HS0.out _ (bthen (bthen ha3 hb3) hj3) | exact HS0.out _ (bthen (bthen hb3 ha3) hj3)) (first | (go_at_call 17; (first | ((with_reducible refine (toPart_k x pA pc _ (by first | exact hr2.next (bdrew _) | exact (hr2.next (bdrew _)).next hb3) hS).mono ?_); rintro e wa ⟨a, rfl, fa, ha3⟩) | ((with_reducible refine (toPart_k y pB pd _ (by first | exact hr2'.next (bdrew _) | exact (hr2'.next (bdrew _)).next ha3) hS').mono ?_); rintro e wb ⟨b, rfl, fb, hb3⟩))) | (go_at_call 34; (with_reducible refine (hSp.out a b _ (by first | exact fa.rd | exact fa.rd.next hb3) (by first | exact fb.rd | exact fb.rd.next ha3)).mono ?_); rintro e wj ⟨rfl, hj3⟩))
  all_goals
    have hbX : Below W.heap.size W wj := by
      first
        | exact bthen (bthen (bthen hb12.drew ha3) hb3) hj3
        | exact bthen (bthen (bthen hb12.drew hb3) ha3) hj3
    clear ha3 hb3 hj3 fa fb HS0 d0 d1 d2 d3 d4 m0 m1 m2 m3 m4
    have d0 := (hbX.cell (p := ⟨g0, 0, none⟩) (World.block_lt_of_cell? W _ c0)).trans c0
    have d1 := (hbX.cell (p := ⟨g0, 1, none⟩) (World.block_lt_of_cell? W _ c1)).trans c1
    have d2 := (hbX.cell (p := ⟨g0, 2, none⟩) (World.block_lt_of_cell? W _ c2)).trans c2
    have d3 := (hbX.cell (p := ⟨g0, 3, none⟩) (World.block_lt_of_cell? W _ c3)).trans c3
    have d4 := (hbX.cell (p := ⟨g0, 4, none⟩) (World.block_lt_of_cell? W _ c4)).trans c4
    have m0 := (hbX.cell (p := ⟨g1, 0, none⟩) (World.block_lt_of_cell? W _ k0)).trans k0
    have m1 := (hbX.cell (p := ⟨g1, 1, none⟩) (World.block_lt_of_cell? W _ k1)).trans k1
    have m2 := (hbX.cell (p := ⟨g1, 2, none⟩) (World.block_lt_of_cell? W _ k2)).trans k2
    have m3 := (hbX.cell (p := ⟨g1, 3, none⟩) (World.block_lt_of_cell? W _ k3)).trans k3
    have m4 := (hbX.cell (p := ⟨g1, 4, none⟩) (World.block_lt_of_cell? W _ k4)).trans k4
    go_wp2_with fail
    refine (toPart_k x pA pc _ (hrW.next hbX) hS).mono ?_
    rintro e w4 ⟨b, rfl, fb, hb4⟩
    have hbX4 := bthen hbX hb4
    clear d0 d1 d2 d3 d4 m0 m1 m2 m3 m4
    have d0 := (hbX4.cell (p := ⟨g0, 0, none⟩) (World.block_lt_of_cell? W _ c0)).trans c0
    have d1 := (hbX4.cell (p := ⟨g0, 1, none⟩) (World.block_lt_of_cell? W _ c1)).trans c1
    have d2 := (hbX4.cell (p := ⟨g0, 2, none⟩) (World.block_lt_of_cell? W _ c2)).trans c2
    have d3 := (hbX4.cell (p := ⟨g0, 3, none⟩) (World.block_lt_of_cell? W _ c3)).trans c3
    have d4 := (hbX4.cell (p := ⟨g0, 4, none⟩) (World.block_lt_of_cell? W _ c4)).trans c4
    have m0 := (hbX4.cell (p := ⟨g1, 0, none⟩) (World.block_lt_of_cell? W _ k0)).trans k0
    have m1 := (hbX4.cell (p := ⟨g1, 1, none⟩) (World.block_lt_of_cell? W _ k1)).trans k1
    have m2 := (hbX4.cell (p := ⟨g1, 2, none⟩) (World.block_lt_of_cell? W _ k2)).trans k2
    have m3 := (hbX4.cell (p := ⟨g1, 3, none⟩) (World.block_lt_of_cell? W _ k3)).trans k3
    have m4 := (hbX4.cell (p := ⟨g1, 4, none⟩) (World.block_lt_of_cell? W _ k4)).trans k4
    have hlg0 := World.block_lt_of_cell? w4 _ d0
    have hlg1 := World.block_lt_of_cell? w4 _ m0
    simp only at hlg0 hlg1
    go_wp2_with fail
    have e0 : (w4.alloc (.cells #[.string x.code, .int .i64 x.slot, .slice b x.ports.length x.ports.length, .int .i64 x.price, .int .i64 x.grams] 29)).cell? ⟨w4.heap.size, 0, none⟩ = some (.string x.code) := by go_simp
    have e1 : (w4.alloc (.cells #[.string x.code, .int .i64 x.slot, .slice b x.ports.length x.ports.length, .int .i64 x.price, .int .i64 x.grams] 29)).cell? ⟨w4.heap.size, 1, none⟩ = some (.int .i64 x.slot) := by go_simp
    have e2 : (w4.alloc (.cells #[.string x.code, .int .i64 x.slot, .slice b x.ports.length x.ports.length, .int .i64 x.price, .int .i64 x.grams] 29)).cell? ⟨w4.heap.size, 2, none⟩ = some (.slice b x.ports.length x.ports.length) := by go_simp
    have e3 : (w4.alloc (.cells #[.string x.code, .int .i64 x.slot, .slice b x.ports.length x.ports.length, .int .i64 x.price, .int .i64 x.grams] 29)).cell? ⟨w4.heap.size, 3, none⟩ = some (.int .i64 x.price) := by go_simp
    have e4 : (w4.alloc (.cells #[.string x.code, .int .i64 x.slot, .slice b x.ports.length x.ports.length, .int .i64 x.price, .int .i64 x.grams] 29)).cell? ⟨w4.heap.size, 4, none⟩ = some (.int .i64 x.grams) := by go_simp
    have hb5 := balloc w4 (.cells #[.string x.code, .int .i64 x.slot, .slice b x.ports.length x.ports.length, .int .i64 x.price, .int .i64 x.grams] 29)
    have hbX5 := bthen hbX4 hb5
    have hrb5 := fb.rd.next hb5
    have hl5 : w4.heap.size < (w4.alloc (.cells #[.string x.code, .int .i64 x.slot, .slice b x.ports.length x.ports.length, .int .i64 x.price, .int .i64 x.grams] 29)).heap.size := by simp
    clear d0 d1 d2 d3 d4 m0 m1 m2 m3 m4 fb hlg0 hlg1
    generalize w4.alloc (.cells #[.string x.code, .int .i64 x.slot, .slice b x.ports.length x.ports.length, .int .i64 x.price, .int .i64 x.grams] 29) = w5 at e0 e1 e2 e3 e4 hb5 hbX5 hrb5 hl5 ⊢
    generalize w4.heap.size = g2 at e0 e1 e2 e3 e4 hl5 ⊢
    have d0 := (hbX5.cell (p := ⟨g0, 0, none⟩) (World.block_lt_of_cell? W _ c0)).trans c0
    have d1 := (hbX5.cell (p := ⟨g0, 1, none⟩) (World.block_lt_of_cell? W _ c1)).trans c1
    have d2 := (hbX5.cell (p := ⟨g0, 2, none⟩) (World.block_lt_of_cell? W _ c2)).trans c2
    have d3 := (hbX5.cell (p := ⟨g0, 3, none⟩) (World.block_lt_of_cell? W _ c3)).trans c3
    have d4 := (hbX5.cell (p := ⟨g0, 4, none⟩) (World.block_lt_of_cell? W _ c4)).trans c4
    have m0 := (hbX5.cell (p := ⟨g1, 0, none⟩) (World.block_lt_of_cell? W _ k0)).trans k0
    have m1 := (hbX5.cell (p := ⟨g1, 1, none⟩) (World.block_lt_of_cell? W _ k1)).trans k1
    have m2 := (hbX5.cell (p := ⟨g1, 2, none⟩) (World.block_lt_of_cell? W _ k2)).trans k2
    have m3 := (hbX5.cell (p := ⟨g1, 3, none⟩) (World.block_lt_of_cell? W _ k3)).trans k3
    have m4 := (hbX5.cell (p := ⟨g1, 4, none⟩) (World.block_lt_of_cell? W _ k4)).trans k4
    refine (toPart_k y pB pd _ (hrW'.next hbX5) hS').mono ?_
    rintro e w6 ⟨b2, rfl, fb2, hb6⟩
    have hbX6 := bthen hbX5 hb6
    have hrb6 := hrb5.next hb6
    clear d0 d1 d2 d3 d4 m0 m1 m2 m3 m4
    have d0 := (hbX6.cell (p := ⟨g0, 0, none⟩) (World.block_lt_of_cell? W _ c0)).trans c0
    have d1 := (hbX6.cell (p := ⟨g0, 1, none⟩) (World.block_lt_of_cell? W _ c1)).trans c1
    have d2 := (hbX6.cell (p := ⟨g0, 2, none⟩) (World.block_lt_of_cell? W _ c2)).trans c2
    have d3 := (hbX6.cell (p := ⟨g0, 3, none⟩) (World.block_lt_of_cell? W _ c3)).trans c3
    have d4 := (hbX6.cell (p := ⟨g0, 4, none⟩) (World.block_lt_of_cell? W _ c4)).trans c4
    have m0 := (hbX6.cell (p := ⟨g1, 0, none⟩) (World.block_lt_of_cell? W _ k0)).trans k0
    have m1 := (hbX6.cell (p := ⟨g1, 1, none⟩) (World.block_lt_of_cell? W _ k1)).trans k1
    have m2 := (hbX6.cell (p := ⟨g1, 2, none⟩) (World.block_lt_of_cell? W _ k2)).trans k2
    have m3 := (hbX6.cell (p := ⟨g1, 3, none⟩) (World.block_lt_of_cell? W _ k3)).trans k3
    have m4 := (hbX6.cell (p := ⟨g1, 4, none⟩) (World.block_lt_of_cell? W _ k4)).trans k4
    have f0 := (hb6.cell (p := ⟨g2, 0, none⟩) (World.block_lt_of_cell? w5 _ e0)).trans e0
    have f1 := (hb6.cell (p := ⟨g2, 1, none⟩) (World.block_lt_of_cell? w5 _ e1)).trans e1
    have f2 := (hb6.cell (p := ⟨g2, 2, none⟩) (World.block_lt_of_cell? w5 _ e2)).trans e2
    have f3 := (hb6.cell (p := ⟨g2, 3, none⟩) (World.block_lt_of_cell? w5 _ e3)).trans e3
    have f4 := (hb6.cell (p := ⟨g2, 4, none⟩) (World.block_lt_of_cell? w5 _ e4)).trans e4
    have hlg2 := World.block_lt_of_cell? w6 _ f0
    simp only at hlg2
    go_wp2_with fail
    have n0 : (w6.alloc (.cells #[.string y.code, .int .i64 y.slot, .slice b2 y.ports.length y.ports.length, .int .i64 y.price, .int .i64 y.grams] 29)).cell? ⟨w6.heap.size, 0, none⟩ = some (.string y.code) := by go_simp
    have n1 : (w6.alloc (.cells #[.string y.code, .int .i64 y.slot, .slice b2 y.ports.length y.ports.length, .int .i64 y.price, .int .i64 y.grams] 29)).cell? ⟨w6.heap.size, 1, none⟩ = some (.int .i64 y.slot) := by go_simp
    have n2 : (w6.alloc (.cells #[.string y.code, .int .i64 y.slot, .slice b2 y.ports.length y.ports.length, .int .i64 y.price, .int .i64 y.grams] 29)).cell? ⟨w6.heap.size, 2, none⟩ = some (.slice b2 y.ports.length y.ports.length) := by go_simp
    have n3 : (w6.alloc (.cells #[.string y.code, .int .i64 y.slot, .slice b2 y.ports.length y.ports.length, .int .i64 y.price, .int .i64 y.grams] 29)).cell? ⟨w6.heap.size, 3, none⟩ = some (.int .i64 y.price) := by go_simp
    have n4 : (w6.alloc (.cells #[.string y.code, .int .i64 y.slot, .slice b2 y.ports.length y.ports.length, .int .i64 y.price, .int .i64 y.grams] 29)).cell? ⟨w6.heap.size, 4, none⟩ = some (.int .i64 y.grams) := by go_simp
    have hb7 := balloc w6 (.cells #[.string y.code, .int .i64 y.slot, .slice b2 y.ports.length y.ports.length, .int .i64 y.price, .int .i64 y.grams] 29)
    have hbX7 := bthen hbX6 hb7
    have hrb7 := hrb6.next hb7
    have hrc7 := fb2.rd.next hb7
    have h0 := (hb7.cell (p := ⟨g2, 0, none⟩) (World.block_lt_of_cell? w6 _ f0)).trans f0
    have h1 := (hb7.cell (p := ⟨g2, 1, none⟩) (World.block_lt_of_cell? w6 _ f1)).trans f1
    have h2 := (hb7.cell (p := ⟨g2, 2, none⟩) (World.block_lt_of_cell? w6 _ f2)).trans f2
    have h3 := (hb7.cell (p := ⟨g2, 3, none⟩) (World.block_lt_of_cell? w6 _ f3)).trans f3
    have h4 := (hb7.cell (p := ⟨g2, 4, none⟩) (World.block_lt_of_cell? w6 _ f4)).trans f4
    clear d0 d1 d2 d3 d4 m0 m1 m2 m3 m4 f0 f1 f2 f3 f4 fb2 hlg2
    generalize w6.alloc (.cells #[.string y.code, .int .i64 y.slot, .slice b2 y.ports.length y.ports.length, .int .i64 y.price, .int .i64 y.grams] 29) = w7 at n0 n1 n2 n3 n4 h0 h1 h2 h3 h4 hb7 hbX7 hrb7 hrc7 ⊢
    generalize w6.heap.size = g3 at n0 n1 n2 n3 n4 ⊢
    refine (hIm.out b b2 w7 hrb7 hrc7).mono ?_
    rintro e w8 ⟨rfl, hb8⟩
    have hbX8 := bthen hbX7 hb8
    have hrb8 := hrb7.next hb8
    have hrc8 := hrc7.next hb8
    have d0 := (hbX8.cell (p := ⟨g0, 0, none⟩) (World.block_lt_of_cell? W _ c0)).trans c0
    have d1 := (hbX8.cell (p := ⟨g0, 1, none⟩) (World.block_lt_of_cell? W _ c1)).trans c1
    have d2 := (hbX8.cell (p := ⟨g0, 2, none⟩) (World.block_lt_of_cell? W _ c2)).trans c2
    have d3 := (hbX8.cell (p := ⟨g0, 3, none⟩) (World.block_lt_of_cell? W _ c3)).trans c3
    have d4 := (hbX8.cell (p := ⟨g0, 4, none⟩) (World.block_lt_of_cell? W _ c4)).trans c4
    have m0 := (hbX8.cell (p := ⟨g1, 0, none⟩) (World.block_lt_of_cell? W _ k0)).trans k0
    have m1 := (hbX8.cell (p := ⟨g1, 1, none⟩) (World.block_lt_of_cell? W _ k1)).trans k1
    have m2 := (hbX8.cell (p := ⟨g1, 2, none⟩) (World.block_lt_of_cell? W _ k2)).trans k2
    have m3 := (hbX8.cell (p := ⟨g1, 3, none⟩) (World.block_lt_of_cell? W _ k3)).trans k3
    have m4 := (hbX8.cell (p := ⟨g1, 4, none⟩) (World.block_lt_of_cell? W _ k4)).trans k4
    have p0 := (hb8.cell (p := ⟨g2, 0, none⟩) (World.block_lt_of_cell? w7 _ h0)).trans h0
    have p1 := (hb8.cell (p := ⟨g2, 1, none⟩) (World.block_lt_of_cell? w7 _ h1)).trans h1
    have p2 := (hb8.cell (p := ⟨g2, 2, none⟩) (World.block_lt_of_cell? w7 _ h2)).trans h2
    have p3 := (hb8.cell (p := ⟨g2, 3, none⟩) (World.block_lt_of_cell? w7 _ h3)).trans h3
    have p4 := (hb8.cell (p := ⟨g2, 4, none⟩) (World.block_lt_of_cell? w7 _ h4)).trans h4
    have q0 := (hb8.cell (p := ⟨g3, 0, none⟩) (World.block_lt_of_cell? w7 _ n0)).trans n0
    have q1 := (hb8.cell (p := ⟨g3, 1, none⟩) (World.block_lt_of_cell? w7 _ n1)).trans n1
    have q2 := (hb8.cell (p := ⟨g3, 2, none⟩) (World.block_lt_of_cell? w7 _ n2)).trans n2
    have q3 := (hb8.cell (p := ⟨g3, 3, none⟩) (World.block_lt_of_cell? w7 _ n3)).trans n3
    have q4 := (hb8.cell (p := ⟨g3, 4, none⟩) (World.block_lt_of_cell? w7 _ n4)).trans n4
    go_wp2_with fail
    have HS1 : Hid (∀ v, Below w8.heap.size w8.drew v → v.cell? ⟨g0, 0, none⟩ = some (.string x.code) ∧ v.cell? ⟨g0, 1, none⟩ = some (.int .i64 x.slot) ∧ v.cell? ⟨g0, 2, none⟩ = some (.slice pA x.ports.length pc) ∧ v.cell? ⟨g0, 3, none⟩ = some (.int .i64 x.price) ∧ v.cell? ⟨g0, 4, none⟩ = some (.int .i64 x.grams) ∧ v.cell? ⟨g2, 0, none⟩ = some (.string x.code) ∧ v.cell? ⟨g2, 1, none⟩ = some (.int .i64 x.slot) ∧ v.cell? ⟨g2, 2, none⟩ = some (.slice b x.ports.length x.ports.length) ∧ v.cell? ⟨g2, 3, none⟩ = some (.int .i64 x.price) ∧ v.cell? ⟨g2, 4, none⟩ = some (.int .i64 x.grams)) := fun v hv => ⟨(hv.cell (p := ⟨g0, 0, none⟩) (World.block_lt_of_cell? _ _ d0)).trans d0, (hv.cell (p := ⟨g0, 1, none⟩) (World.block_lt_of_cell? _ _ d1)).trans d1, (hv.cell (p := ⟨g0, 2, none⟩) (World.block_lt_of_cell? _ _ d2)).trans d2, (hv.cell (p := ⟨g0, 3, none⟩) (World.block_lt_of_cell? _ _ d3)).trans d3, (hv.cell (p := ⟨g0, 4, none⟩) (World.block_lt_of_cell? _ _ d4)).trans d4, (hv.cell (p := ⟨g2, 0, none⟩) (World.block_lt_of_cell? _ _ p0)).trans p0, (hv.cell (p := ⟨g2, 1, none⟩) (World.block_lt_of_cell? _ _ p1)).trans p1, (hv.cell (p := ⟨g2, 2, none⟩) (World.block_lt_of_cell? _ _ p2)).trans p2, (hv.cell (p := ⟨g2, 3, none⟩) (World.block_lt_of_cell? _ _ p3)).trans p3, (hv.cell (p := ⟨g2, 4, none⟩) (World.block_lt_of_cell? _ _ p4)).trans p4⟩
    go_region_held3 (fun w' => w'.cell? ⟨g0, 0, none⟩ = some (.string x.code) ∧ w'.cell? ⟨g0, 1, none⟩ = some (.int .i64 x.slot) ∧ w'.cell? ⟨g0, 2, none⟩ = some (.slice pA x.ports.length pc) ∧ w'.cell? ⟨g0, 3, none⟩ = some (.int .i64 x.price) ∧ w'.cell? ⟨g0, 4, none⟩ = some (.int .i64 x.grams) ∧ w'.cell? ⟨g2, 0, none⟩ = some (.string x.code) ∧ w'.cell? ⟨g2, 1, none⟩ = some (.int .i64 x.slot) ∧ w'.cell? ⟨g2, 2, none⟩ = some (.slice b x.ports.length x.ports.length) ∧ w'.cell? ⟨g2, 3, none⟩ = some (.int .i64 x.price) ∧ w'.cell? ⟨g2, 4, none⟩ = some (.int .i64 x.grams)) (first | go_keep | exact HS1.out _ (Below.refl _ _) | exact HS1.out _ hp1 | exact HS1.out _ (bthen hp1 hq1)) (first | (go_at_call 17; refine (toPart_k x pA pc _ (by first | exact (hrW.next hbX8).next (bdrew _)) hS).mono ?_; rintro e wp1 ⟨d1A, rfl, fd1, hp1⟩) | (go_at_call 19; refine (HE.out b d1A _ ((hrb8.next (bdrew _)).next hp1) fd1.rd).mono ?_; rintro e wq1 ⟨rfl, hq1⟩))
    have hbX9 := bthen (bthen hbX8.drew hp1) hq1
    have hrc9 := (hrc8.next (bdrew _)).next (bthen hp1 hq1)
    clear p0 p1 p2 p3 p4
    have mm0 := (hbX9.cell (p := ⟨g1, 0, none⟩) (World.block_lt_of_cell? W _ k0)).trans k0
    have mm1 := (hbX9.cell (p := ⟨g1, 1, none⟩) (World.block_lt_of_cell? W _ k1)).trans k1
    have mm2 := (hbX9.cell (p := ⟨g1, 2, none⟩) (World.block_lt_of_cell? W _ k2)).trans k2
    have mm3 := (hbX9.cell (p := ⟨g1, 3, none⟩) (World.block_lt_of_cell? W _ k3)).trans k3
    have mm4 := (hbX9.cell (p := ⟨g1, 4, none⟩) (World.block_lt_of_cell? W _ k4)).trans k4
    have qq0 := ((bthen (bdrew w8) (bthen hp1 hq1)).cell (p := ⟨g3, 0, none⟩) (World.block_lt_of_cell? w8 _ q0)).trans q0
    have qq1 := ((bthen (bdrew w8) (bthen hp1 hq1)).cell (p := ⟨g3, 1, none⟩) (World.block_lt_of_cell? w8 _ q1)).trans q1
    have qq2 := ((bthen (bdrew w8) (bthen hp1 hq1)).cell (p := ⟨g3, 2, none⟩) (World.block_lt_of_cell? w8 _ q2)).trans q2
    have qq3 := ((bthen (bdrew w8) (bthen hp1 hq1)).cell (p := ⟨g3, 3, none⟩) (World.block_lt_of_cell? w8 _ q3)).trans q3
    have qq4 := ((bthen (bdrew w8) (bthen hp1 hq1)).cell (p := ⟨g3, 4, none⟩) (World.block_lt_of_cell? w8 _ q4)).trans q4
    clear d0 d1 d2 d3 d4 m0 m1 m2 m3 m4 q0 q1 q2 q3 q4
    go_wp2_with fail
    have HS2 : Hid (∀ v, Below wq1.heap.size wq1.drew v → v.cell? ⟨g1, 0, none⟩ = some (.string y.code) ∧ v.cell? ⟨g1, 1, none⟩ = some (.int .i64 y.slot) ∧ v.cell? ⟨g1, 2, none⟩ = some (.slice pB y.ports.length pd) ∧ v.cell? ⟨g1, 3, none⟩ = some (.int .i64 y.price) ∧ v.cell? ⟨g1, 4, none⟩ = some (.int .i64 y.grams) ∧ v.cell? ⟨g3, 0, none⟩ = some (.string y.code) ∧ v.cell? ⟨g3, 1, none⟩ = some (.int .i64 y.slot) ∧ v.cell? ⟨g3, 2, none⟩ = some (.slice b2 y.ports.length y.ports.length) ∧ v.cell? ⟨g3, 3, none⟩ = some (.int .i64 y.price) ∧ v.cell? ⟨g3, 4, none⟩ = some (.int .i64 y.grams)) := fun v hv => ⟨(hv.cell (p := ⟨g1, 0, none⟩) (World.block_lt_of_cell? _ _ mm0)).trans mm0, (hv.cell (p := ⟨g1, 1, none⟩) (World.block_lt_of_cell? _ _ mm1)).trans mm1, (hv.cell (p := ⟨g1, 2, none⟩) (World.block_lt_of_cell? _ _ mm2)).trans mm2, (hv.cell (p := ⟨g1, 3, none⟩) (World.block_lt_of_cell? _ _ mm3)).trans mm3, (hv.cell (p := ⟨g1, 4, none⟩) (World.block_lt_of_cell? _ _ mm4)).trans mm4, (hv.cell (p := ⟨g3, 0, none⟩) (World.block_lt_of_cell? _ _ qq0)).trans qq0, (hv.cell (p := ⟨g3, 1, none⟩) (World.block_lt_of_cell? _ _ qq1)).trans qq1, (hv.cell (p := ⟨g3, 2, none⟩) (World.block_lt_of_cell? _ _ qq2)).trans qq2, (hv.cell (p := ⟨g3, 3, none⟩) (World.block_lt_of_cell? _ _ qq3)).trans qq3, (hv.cell (p := ⟨g3, 4, none⟩) (World.block_lt_of_cell? _ _ qq4)).trans qq4⟩
    go_region_held3 (fun w' => w'.cell? ⟨g1, 0, none⟩ = some (.string y.code) ∧ w'.cell? ⟨g1, 1, none⟩ = some (.int .i64 y.slot) ∧ w'.cell? ⟨g1, 2, none⟩ = some (.slice pB y.ports.length pd) ∧ w'.cell? ⟨g1, 3, none⟩ = some (.int .i64 y.price) ∧ w'.cell? ⟨g1, 4, none⟩ = some (.int .i64 y.grams) ∧ w'.cell? ⟨g3, 0, none⟩ = some (.string y.code) ∧ w'.cell? ⟨g3, 1, none⟩ = some (.int .i64 y.slot) ∧ w'.cell? ⟨g3, 2, none⟩ = some (.slice b2 y.ports.length y.ports.length) ∧ w'.cell? ⟨g3, 3, none⟩ = some (.int .i64 y.price) ∧ w'.cell? ⟨g3, 4, none⟩ = some (.int .i64 y.grams)) (first | go_keep | exact HS2.out _ (Below.refl _ _) | exact HS2.out _ hp2 | exact HS2.out _ (bthen hp2 hq2)) (first | (go_at_call 17; refine (toPart_k y pB pd _ (by first | exact (hrW'.next hbX9).next (bdrew _)) hS').mono ?_; rintro e wp2 ⟨d2A, rfl, fd2, hp2⟩) | (go_at_call 19; refine (HE'.out b2 d2A _ ((hrc9.next (bdrew _)).next hp2) fd2.rd).mono ?_; rintro e wq2 ⟨rfl, hq2⟩))
    go_wp2_with fail
    go_ret
    subst hg0
    exact ⟨rfl, hbw.trans ((bthen (bthen hbX9.drew hp2) hq2).mono hbs)⟩

set_option maxRecDepth 100000 in
theorem fnExactDoJoin_lifted (os : Os) (started : os.Started) (H : Type) (enc : TypeId × Value → H) :
    ReturnsInHanded {} Try.checked os 8 .any (Rows.fnExactDoJoinSpec.pre6 enc Try.prog Try.f8 Rows.fnExactDoJoinRow.domain false) (Rows.fnExactDoJoinSpec.post enc Try.prog Try.f8 false true false false) := by
  refine returnsInHanded_of_change (C := Try.checked) own started (by kernel_rfl) Try.func8
    (ChangeSpec.witness6 (enc := enc) (C := Try.checked) false ⟨#[], #[.agg #[.string ⟨#[]⟩, .int .i64 0, .slice none 0 0, .int .i64 0, .int .i64 0], .agg #[.string ⟨#[]⟩, .int .i64 0, .slice none 0 0, .int .i64 0, .int .i64 0], .int .i64 0], []⟩ 8 (by kernel_rfl) (by kernel_rfl) (by kernel_rfl) (by kernel_rfl)) ?_
  intro W base args ds gs before hval0 hW hcnd _
  have hval : ∀ (j : Nat) t v, Try.f8.params[j]? = some t → args[j]? = some v → Value.okWide Try.prog W .any base t v := hval0
  have hlt : ∀ x ∈ before, x.block < W.heap.size := fun x hx => hW.lt x hx
  have hW' := hW
  obtain ⟨p, q, hA0, hV, rfl, hfz, hnd⟩ := hW
  have hA : DataW.TrodAll enc Try.prog W 0 (fun _ => true) true Try.f8.params.toList args.toList ds p := hA0
  rw [Try.params8] at hA hval
  obtain ⟨v0, v1, v2, d0, d1, d2, p0, p1, p2, rfl, rfl, rfl, h0, h1, h2⟩ := trodAll_three hA
  obtain ⟨pt0, pA0, pc0, rfl, hr0⟩ := open_partV (hval 0 24 v0 rfl rfl) h0
  obtain ⟨pt1, pA1, pc1, rfl, hr1⟩ := open_partV (hval 1 24 v1 rfl rfl) h1
  obtain ⟨x2, rfl, -, -, wx2⟩ := open_int Try.underlying2 (hval 2 2 v2 rfl rfl) h2
  refine (law_FnExactDoJoin pt0 pA0 pc0 pt1 pA1 pc1 x2 (bd_i64 wx2) W hr0 hr1).mono fun e W' ⟨he, hb⟩ => ?_
  subst he
  exact ⟨_, rfl, law_post (tb := 4) laidOut (by kernel_rfl) rfl rfl Try.underlying4 hW' rfl hb⟩
theorem fnExactDoJoin_closed : joinedFacts Try.prog 8 Try.f8 Rows.fnExactDoJoinSpec Rows.fnExactDoJoinRow = true := by
  unfold joinedFacts; rw [mayEnter_yes, liftsFinal_no, make_cut]; kernel_rfl
theorem fnExactDoJoin_holds : Rows.FnExactDoJoinSaid :=
  OpenClaim.holds_of_wide 8 Try.f8 rfl rfl rfl rfl rfl rfl rfl ⟨rfl, rfl, rfl, rfl, rfl⟩ rfl rfl rfl rfl rfl (by kernel_rfl) Try.func8 fnExactDoJoin_closed
    (of_decide_eq_true (by kernel_rfl)) (by unfold Func.isWrapper; rw [if_neg (of_decide_eq_false (by kernel_rfl))]; exact ⟨rfl, rfl⟩)
    (fun os started H enc _ => fnExactDoJoin_lifted os started H enc)
#print axioms fnExactDoJoin_holds

end Go.Proofs.Ytnnamnmmpdgjfaa
