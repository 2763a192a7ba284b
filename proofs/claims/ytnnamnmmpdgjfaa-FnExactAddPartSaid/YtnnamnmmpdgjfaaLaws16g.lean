/- DERIVED. The law on parts with one more. -/
import Derived.Test.YtnnamnmmpdgjfaaAdd
import Derived.Test.YtnnamnmmpdgjfaaResPart
import Derived.Test.YtnnamnmmpdgjfaaKitPart1
import Derived.Test.YtnnamnmmpdgjfaaHead
import Derived.Lib.SmallJoins
import Derived.Deep.Slices
import Derived.Deep.Fields
import Derived.ChangeMaps5
import Derived.Carry
import Derived.Deep.RegionHeld3
namespace Go.Proofs.Ytnnamnmmpdgjfaa
set_option maxRecDepth 100000
open Go.RowKit Go.ChangeShapes Go.WideShapes Go.ChangeAt Go.Joins Go.Deep

theorem addTo_mem {p : PartT} {vs : List PartT} : ∀ (k : Nat) (x : PartT), x ∈ (addTo p vs k).1 → x = p ∨ x ∈ vs
  | 0, x, h => by simp [addTo] at h
  | k + 1, x, h => by
    unfold addTo at h
    split at h
    · rename_i y hy
      split at h
      · simp only [List.mem_append, List.mem_singleton] at h
        rcases h with (h | h) | h
        · exact addTo_mem k x h
        · exact Or.inl h
        · exact Or.inr (h ▸ List.mem_of_getElem? hy)
      · simp only [List.mem_append, List.mem_singleton] at h
        rcases h with h | h
        · exact addTo_mem k x h
        · exact Or.inr (h ▸ List.mem_of_getElem? hy)
    · exact addTo_mem k x h
theorem addR_small (vs : List PartT) (p : PartT) (h : SmallV vs) (h1 : p.code.size ≤ maxLen) (h2 : p.ports.length ≤ 1048576) : SmallV (addR vs p).1 := by
  have h0 : SmallV [] := ⟨by simp, fun _ h => absurd h (by simp)⟩
  have hmem : ∀ x, x = p ∨ x ∈ vs → x.code.size ≤ maxLen ∧ x.ports.length ≤ 1048576 := fun x hx => by
    rcases hx with rfl | hx
    · exact ⟨h1, h2⟩
    · exact h.2 x hx
  unfold addR
  split
  · rename_i hp
    have hl := partsB_len hp
    split
    · split
      · split
        · exact h0
        · have hle := addTo_le p vs vs.length
          unfold addL
          simp only
          split
          · rename_i hd
            rw [if_pos hd] at hle
            exact ⟨by omega, fun x hx => hmem x (addTo_mem _ _ hx)⟩
          · rename_i hd
            rw [if_neg hd] at hle
            refine ⟨by simp; omega, fun x hx => ?_⟩
            rcases List.mem_append.1 hx with hx | hx
            · exact hmem x (addTo_mem _ _ hx)
            · exact hmem x (Or.inl (by simpa using hx))
      · exact h0
    · exact h0
  · exact h0

set_option maxHeartbeats 4000000 in
theorem law_FnExactAddPart (A : Option Addr) (c : Nat) (vs : List PartT) (x : PartT) (pA : Option Addr) (pc : Nat) (w : World) (hr0 : vs.length ≤ maxLen ∧ (∀ x ∈ vs, goodV x) ∧ RdV w w.heap.size A vs) (hr1 : goodV x ∧ Rd w w.heap.size 3 portC pA x.ports ∧ x.ports.length ≤ pc) :
    Calls Try.prog 6 #[.slice A vs.length c, argV x pA pc] w fun e w' => e = .returned (.bool true) ∧ Below w.heap.size w w' := by
  obtain ⟨hm, hg, hr⟩ := hr0
  have Hg := Lib.hid hg; clear hg
  obtain ⟨hgx, hrx, hcx⟩ := hr1
  unfold argV
  go_enter Try.func6, Try.ntmps6
  go_wp2_with fail
  have c0 : (w.alloc (.cells #[.string x.code, .int .i64 x.slot, .slice pA x.ports.length pc, .int .i64 x.price, .int .i64 x.grams] 24)).cell? ⟨w.heap.size, 0, none⟩ = some (.string x.code) := by go_simp
  have c1 : (w.alloc (.cells #[.string x.code, .int .i64 x.slot, .slice pA x.ports.length pc, .int .i64 x.price, .int .i64 x.grams] 24)).cell? ⟨w.heap.size, 1, none⟩ = some (.int .i64 x.slot) := by go_simp
  have c2 : (w.alloc (.cells #[.string x.code, .int .i64 x.slot, .slice pA x.ports.length pc, .int .i64 x.price, .int .i64 x.grams] 24)).cell? ⟨w.heap.size, 2, none⟩ = some (.slice pA x.ports.length pc) := by go_simp
  have c3 : (w.alloc (.cells #[.string x.code, .int .i64 x.slot, .slice pA x.ports.length pc, .int .i64 x.price, .int .i64 x.grams] 24)).cell? ⟨w.heap.size, 3, none⟩ = some (.int .i64 x.price) := by go_simp
  have c4 : (w.alloc (.cells #[.string x.code, .int .i64 x.slot, .slice pA x.ports.length pc, .int .i64 x.price, .int .i64 x.grams] 24)).cell? ⟨w.heap.size, 4, none⟩ = some (.int .i64 x.grams) := by go_simp
  have hbw := balloc w (.cells #[.string x.code, .int .i64 x.slot, .slice pA x.ports.length pc, .int .i64 x.price, .int .i64 x.grams] 24)
  have hbs := hbw.size
  generalize w.alloc (.cells #[.string x.code, .int .i64 x.slot, .slice pA x.ports.length pc, .int .i64 x.price, .int .i64 x.grams] 24) = W at c0 c1 c2 c3 c4 hbw hbs ⊢
  generalize hg0 : w.heap.size = g0 at c0 c1 c2 c3 c4 ⊢
  have hrV := (hr.below hbw).more hbs
  have hrW' := (hrx.below hbw).more hbs
  refine (szPartS_k A c vs 1048576 W hrV hm Hg.out (by omega) (by omega)).mono ?_
  rintro e w1 ⟨r1, rfl, hq, hb1⟩
  rcases hq with rfl | ⟨hq, hl, hSv⟩
  · go_wp2_with fail
    go_ret
    subst hg0
    exact ⟨rfl, hbw.trans (hb1.mono hbs)⟩
  have HSv := Lib.hid hSv; clear hSv
  have d0 := (hb1.cell (p := ⟨g0, 0, none⟩) (World.block_lt_of_cell? W _ c0)).trans c0
  have d1 := (hb1.cell (p := ⟨g0, 1, none⟩) (World.block_lt_of_cell? W _ c1)).trans c1
  have d2 := (hb1.cell (p := ⟨g0, 2, none⟩) (World.block_lt_of_cell? W _ c2)).trans c2
  have d3 := (hb1.cell (p := ⟨g0, 3, none⟩) (World.block_lt_of_cell? W _ c3)).trans c3
  have d4 := (hb1.cell (p := ⟨g0, 4, none⟩) (World.block_lt_of_cell? W _ c4)).trans c4
  go_wp2_with fail
  clear d0 d1 d2 d3 d4
  refine (szPart_k x pA pc r1 w1 hgx (by omega) (by omega)).mono ?_
  rintro e w2 ⟨r2, rfl, hq2, hb2⟩
  have hbX := bthen hb1 hb2
  rcases hq2 with rfl | ⟨hq2, hl2, hS⟩
  · go_wp2_with fail
    go_ret
    subst hg0
    exact ⟨rfl, hbw.trans (hbX.mono hbs)⟩
  have hn := hgx.1
  have hSp := Lib.hid (fun A' c' v B' d' q q' => AddPart_spec A' c' vs x B' d' v q q' HSv.out hn hS)
  have hIm := Lib.hid (fun A' c' v B' d' q q' => AddPart_impl A' c' vs x B' d' v q q' HSv.out hn hS)
  have hSp := Lib.hid (fun A' c' v B' (_ : Nat) (q : RdV v v.heap.size A' vs) (q' : Rd v v.heap.size 3 portC B' x.ports) => hSp.out A' c' v B' x.ports.length q q' (Nat.le_refl _))
  have hIm := Lib.hid (fun A' c' v B' (_ : Nat) (q : RdV v v.heap.size A' vs) (q' : Rd v v.heap.size 3 portC B' x.ports) => hIm.out A' c' v B' x.ports.length q q' (Nat.le_refl _))
  have HE := Lib.hid (fun A' B' v q q' => eqPart_k x A' B' x.ports.length x.ports.length v q q' hS)
  have hSm := Lib.hid (addR_small vs x HSv.out hn hS)
  generalize addR vs x = res at hSp hIm hSm
  obtain ⟨y0, y1⟩ := res
  have hkv := (kV_bd y0 1 (fun x hx => (hSm.out.2 x hx).2)).1
  unfold GivesParts2 at hSp hIm
  simp only at hSp hIm
  have d0 := (hbX.cell (p := ⟨g0, 0, none⟩) (World.block_lt_of_cell? W _ c0)).trans c0
  have d1 := (hbX.cell (p := ⟨g0, 1, none⟩) (World.block_lt_of_cell? W _ c1)).trans c1
  have d2 := (hbX.cell (p := ⟨g0, 2, none⟩) (World.block_lt_of_cell? W _ c2)).trans c2
  have d3 := (hbX.cell (p := ⟨g0, 3, none⟩) (World.block_lt_of_cell? W _ c3)).trans c3
  have d4 := (hbX.cell (p := ⟨g0, 4, none⟩) (World.block_lt_of_cell? W _ c4)).trans c4
  go_wp2_with fail
  have HS1 : Hid (∀ v, Below w2.heap.size w2.drew v → v.cell? ⟨g0, 0, none⟩ = some (.string x.code) ∧ v.cell? ⟨g0, 1, none⟩ = some (.int .i64 x.slot) ∧ v.cell? ⟨g0, 2, none⟩ = some (.slice pA x.ports.length pc) ∧ v.cell? ⟨g0, 3, none⟩ = some (.int .i64 x.price) ∧ v.cell? ⟨g0, 4, none⟩ = some (.int .i64 x.grams)) := fun v hv => ⟨(hv.cell (p := ⟨g0, 0, none⟩) (World.block_lt_of_cell? _ _ d0)).trans d0, (hv.cell (p := ⟨g0, 1, none⟩) (World.block_lt_of_cell? _ _ d1)).trans d1, (hv.cell (p := ⟨g0, 2, none⟩) (World.block_lt_of_cell? _ _ d2)).trans d2, (hv.cell (p := ⟨g0, 3, none⟩) (World.block_lt_of_cell? _ _ d3)).trans d3, (hv.cell (p := ⟨g0, 4, none⟩) (World.block_lt_of_cell? _ _ d4)).trans d4⟩
  have hxr1 := hrW'.next hbX
  have hvr1 := hrV.next hbX
  go_region_held3 (fun w' => w'.cell? ⟨g0, 0, none⟩ = some (.string x.code) ∧ w'.cell? ⟨g0, 1, none⟩ = some (.int .i64 x.slot) ∧ w'.cell? ⟨g0, 2, none⟩ = some (.slice pA x.ports.length pc) ∧ w'.cell? ⟨g0, 3, none⟩ = some (.int .i64 x.price) ∧ w'.cell? ⟨g0, 4, none⟩ = some (.int .i64 x.grams)) (first | exact HS1.out _ (Below.refl _ _) | exact HS1.out _ ha1 | exact HS1.out _ hb1 | exact HS1.out _ (bthen ha1 hb1) | exact HS1.out _ (bthen hb1 ha1) | exact HS1.out _ (bthen (bthen ha1 hb1) hj1) | exact HS1.out _ (bthen (bthen hb1 ha1) hj1)) (first | (go_at_call 22; refine (toPartS_k A c vs _ (by first | exact hvr1.next (bdrew _) | exact (hvr1.next (bdrew _)).next hb1) HSv.out).mono ?_; rintro e wa1 ⟨a1, rfl, fa1, ha1⟩) | (go_at_call 17; refine (toPart_k x pA pc _ (by first | exact hxr1.next (bdrew _) | exact (hxr1.next (bdrew _)).next ha1) hS).mono ?_; rintro e wb1 ⟨b1, rfl, fb1, hb1⟩) | (go_at_call 27; refine (hSp.out a1 vs.length _ b1 x.ports.length (by first | exact fa1.rd | exact (fa1.rd.below hb1).more hb1.size) (by first | exact fb1.rd | exact fb1.rd.next ha1)).mono ?_; rintro e z1 ⟨G1, gc1, rfl, fg1, -, hj1⟩))
  all_goals
    have hz1 : Below w2.heap.size w2 z1 := by
      first
        | exact bthen (bthen (bthen (bdrew _) ha1) hb1) hj1
        | exact bthen (bthen (bthen (bdrew _) hb1) ha1) hj1
    have hlo1 : ∃ lo, w2.heap.size ≤ lo ∧ FlatR z1 lo z1.heap.size G1 y0 := by
      first
        | exact ⟨_, (bthen (bthen (bdrew w2) ha1) hb1).size, fg1⟩
        | exact ⟨_, (bthen (bthen (bdrew w2) hb1) ha1).size, fg1⟩
    obtain ⟨lo1, hlo1, hG1⟩ := hlo1
    have hsz1 := hz1.size
    clear ha1 hb1 hj1 fa1 fb1 fg1 HS1 hxr1 hvr1
    clear d0 d1 d2 d3 d4
    replace hbX := bthen hbX hz1
    have sW := hbX.size
    have d0 := (hbX.cell (p := ⟨g0, 0, none⟩) (World.block_lt_of_cell? W _ c0)).trans c0
    have d1 := (hbX.cell (p := ⟨g0, 1, none⟩) (World.block_lt_of_cell? W _ c1)).trans c1
    have d2 := (hbX.cell (p := ⟨g0, 2, none⟩) (World.block_lt_of_cell? W _ c2)).trans c2
    have d3 := (hbX.cell (p := ⟨g0, 3, none⟩) (World.block_lt_of_cell? W _ c3)).trans c3
    have d4 := (hbX.cell (p := ⟨g0, 4, none⟩) (World.block_lt_of_cell? W _ c4)).trans c4
    go_wp2_with fail
    refine (toPartS_k A c vs z1 (hrV.next hbX) HSv.out).mono ?_
    rintro e w3 ⟨a2, rfl, fa2, hb3⟩
    have s3 := hb3.size
    have hG := hG1.below hb3 (Nat.le_refl _)
    replace hbX := bthen hbX hb3
    clear d0 d1 d2 d3 d4 hG1
    have d0 := (hbX.cell (p := ⟨g0, 0, none⟩) (World.block_lt_of_cell? W _ c0)).trans c0
    have d1 := (hbX.cell (p := ⟨g0, 1, none⟩) (World.block_lt_of_cell? W _ c1)).trans c1
    have d2 := (hbX.cell (p := ⟨g0, 2, none⟩) (World.block_lt_of_cell? W _ c2)).trans c2
    have d3 := (hbX.cell (p := ⟨g0, 3, none⟩) (World.block_lt_of_cell? W _ c3)).trans c3
    have d4 := (hbX.cell (p := ⟨g0, 4, none⟩) (World.block_lt_of_cell? W _ c4)).trans c4
    go_wp2_with fail
    refine (toPart_k x pA pc w3 (hrW'.next hbX) hS).mono ?_
    rintro e w4 ⟨b, rfl, fb, hb4⟩
    have s4 := hb4.size
    replace hG := hG.below hb4 (by omega)
    replace fa2 := fa2.below hb4 (Nat.le_refl _)
    replace hbX := bthen hbX hb4
    clear d0 d1 d2 d3 d4
    have d0 := (hbX.cell (p := ⟨g0, 0, none⟩) (World.block_lt_of_cell? W _ c0)).trans c0
    have d1 := (hbX.cell (p := ⟨g0, 1, none⟩) (World.block_lt_of_cell? W _ c1)).trans c1
    have d2 := (hbX.cell (p := ⟨g0, 2, none⟩) (World.block_lt_of_cell? W _ c2)).trans c2
    have d3 := (hbX.cell (p := ⟨g0, 3, none⟩) (World.block_lt_of_cell? W _ c3)).trans c3
    have d4 := (hbX.cell (p := ⟨g0, 4, none⟩) (World.block_lt_of_cell? W _ c4)).trans c4
    have hlg := World.block_lt_of_cell? w4 _ d0
    simp only at hlg
    go_wp2_with fail
    have e0 : (w4.alloc (.cells #[.string x.code, .int .i64 x.slot, .slice b x.ports.length x.ports.length, .int .i64 x.price, .int .i64 x.grams] 29)).cell? ⟨w4.heap.size, 0, none⟩ = some (.string x.code) := by go_simp
    have e1 : (w4.alloc (.cells #[.string x.code, .int .i64 x.slot, .slice b x.ports.length x.ports.length, .int .i64 x.price, .int .i64 x.grams] 29)).cell? ⟨w4.heap.size, 1, none⟩ = some (.int .i64 x.slot) := by go_simp
    have e2 : (w4.alloc (.cells #[.string x.code, .int .i64 x.slot, .slice b x.ports.length x.ports.length, .int .i64 x.price, .int .i64 x.grams] 29)).cell? ⟨w4.heap.size, 2, none⟩ = some (.slice b x.ports.length x.ports.length) := by go_simp
    have e3 : (w4.alloc (.cells #[.string x.code, .int .i64 x.slot, .slice b x.ports.length x.ports.length, .int .i64 x.price, .int .i64 x.grams] 29)).cell? ⟨w4.heap.size, 3, none⟩ = some (.int .i64 x.price) := by go_simp
    have e4 : (w4.alloc (.cells #[.string x.code, .int .i64 x.slot, .slice b x.ports.length x.ports.length, .int .i64 x.price, .int .i64 x.grams] 29)).cell? ⟨w4.heap.size, 4, none⟩ = some (.int .i64 x.grams) := by go_simp
    have hb5 := balloc w4 (.cells #[.string x.code, .int .i64 x.slot, .slice b x.ports.length x.ports.length, .int .i64 x.price, .int .i64 x.grams] 29)
    have s5 : w4.heap.size + 1 ≤ (w4.alloc (.cells #[.string x.code, .int .i64 x.slot, .slice b x.ports.length x.ports.length, .int .i64 x.price, .int .i64 x.grams] 29)).heap.size := by simp
    replace hG := hG.below hb5 (by omega)
    replace fa2 := fa2.below hb5 (by omega)
    replace fb := fb.below hb5 (Nat.le_refl _)
    replace hbX := bthen hbX hb5
    clear d0 d1 d2 d3 d4 hlg
    generalize w4.alloc (.cells #[.string x.code, .int .i64 x.slot, .slice b x.ports.length x.ports.length, .int .i64 x.price, .int .i64 x.grams] 29) = w5 at e0 e1 e2 e3 e4 hb5 hbX hG fa2 fb s5 ⊢
    generalize hg1 : w4.heap.size = g1 at e0 e1 e2 e3 e4 ⊢
    refine (hIm.out a2 vs.length w5 b 0 (fa2.rd.more (by omega)) (fb.rd.more (by omega))).mono ?_
    rintro e w6 ⟨G, gc, rfl, hH, -, hb6⟩
    have s6 := hb6.size
    replace hG := hG.below hb6 (by omega)
    replace fa2 := fa2.below hb6 (by omega)
    replace fb := fb.below hb6 (by omega)
    replace hbX := bthen hbX hb6
    have f0 := (hb6.cell (p := ⟨g1, 0, none⟩) (World.block_lt_of_cell? w5 _ e0)).trans e0
    have f1 := (hb6.cell (p := ⟨g1, 1, none⟩) (World.block_lt_of_cell? w5 _ e1)).trans e1
    have f2 := (hb6.cell (p := ⟨g1, 2, none⟩) (World.block_lt_of_cell? w5 _ e2)).trans e2
    have f3 := (hb6.cell (p := ⟨g1, 3, none⟩) (World.block_lt_of_cell? w5 _ e3)).trans e3
    have f4 := (hb6.cell (p := ⟨g1, 4, none⟩) (World.block_lt_of_cell? w5 _ e4)).trans e4
    clear e0 e1 e2 e3 e4
    go_wp2_with fail
    refine (eqPartS_r G G1 _ _ y0 w6 hH.rd (hG.rd.more (by omega)) hSm.out).mono ?_
    rintro e w7 ⟨rfl, hb7⟩
    have s7 := hb7.size
    replace hG := hG.below hb7 (by omega)
    replace hH := hH.below hb7 (by omega)
    replace fa2 := fa2.below hb7 (by omega)
    replace fb := fb.below hb7 (by omega)
    replace hbX := bthen hbX hb7
    have h0 := (hb7.cell (p := ⟨g1, 0, none⟩) (World.block_lt_of_cell? w6 _ f0)).trans f0
    have h1 := (hb7.cell (p := ⟨g1, 1, none⟩) (World.block_lt_of_cell? w6 _ f1)).trans f1
    have h2 := (hb7.cell (p := ⟨g1, 2, none⟩) (World.block_lt_of_cell? w6 _ f2)).trans f2
    have h3 := (hb7.cell (p := ⟨g1, 3, none⟩) (World.block_lt_of_cell? w6 _ f3)).trans f3
    have h4 := (hb7.cell (p := ⟨g1, 4, none⟩) (World.block_lt_of_cell? w6 _ f4)).trans f4
    clear f0 f1 f2 f3 f4
    go_wp2_with fail
    refine (toPartS_k A c vs w7 (hrV.next hbX) HSv.out).mono ?_
    rintro e w8 ⟨a3, rfl, fa3, hb8⟩
    have s8 := hb8.size
    replace hG := hG.below hb8 (by omega)
    replace hH := hH.below hb8 (by omega)
    replace fa2 := fa2.below hb8 (by omega)
    replace fb := fb.below hb8 (by omega)
    replace hbX := bthen hbX hb8
    have i0 := (hb8.cell (p := ⟨g1, 0, none⟩) (World.block_lt_of_cell? w7 _ h0)).trans h0
    have i1 := (hb8.cell (p := ⟨g1, 1, none⟩) (World.block_lt_of_cell? w7 _ h1)).trans h1
    have i2 := (hb8.cell (p := ⟨g1, 2, none⟩) (World.block_lt_of_cell? w7 _ h2)).trans h2
    have i3 := (hb8.cell (p := ⟨g1, 3, none⟩) (World.block_lt_of_cell? w7 _ h3)).trans h3
    have i4 := (hb8.cell (p := ⟨g1, 4, none⟩) (World.block_lt_of_cell? w7 _ h4)).trans h4
    clear h0 h1 h2 h3 h4
    go_wp2_with fail
    refine (eqPartS_k a2 a3 _ _ vs w8 (fa2.rd.more (by omega)) (fa3.rd.more (by omega)) HSv.out).mono ?_
    rintro e w9 ⟨rfl, hb9⟩
    have s9 := hb9.size
    clear fa3
    replace hG := hG.below hb9 (by omega)
    replace hH := hH.below hb9 (by omega)
    replace fa2 := fa2.below hb9 (by omega)
    replace fb := fb.below hb9 (by omega)
    replace hbX := bthen hbX hb9
    have j0 := (hb9.cell (p := ⟨g1, 0, none⟩) (World.block_lt_of_cell? w8 _ i0)).trans i0
    have j1 := (hb9.cell (p := ⟨g1, 1, none⟩) (World.block_lt_of_cell? w8 _ i1)).trans i1
    have j2 := (hb9.cell (p := ⟨g1, 2, none⟩) (World.block_lt_of_cell? w8 _ i2)).trans i2
    have j3 := (hb9.cell (p := ⟨g1, 3, none⟩) (World.block_lt_of_cell? w8 _ i3)).trans i3
    have j4 := (hb9.cell (p := ⟨g1, 4, none⟩) (World.block_lt_of_cell? w8 _ i4)).trans i4
    clear i0 i1 i2 i3 i4
    have d0 := (hbX.cell (p := ⟨g0, 0, none⟩) (World.block_lt_of_cell? W _ c0)).trans c0
    have d1 := (hbX.cell (p := ⟨g0, 1, none⟩) (World.block_lt_of_cell? W _ c1)).trans c1
    have d2 := (hbX.cell (p := ⟨g0, 2, none⟩) (World.block_lt_of_cell? W _ c2)).trans c2
    have d3 := (hbX.cell (p := ⟨g0, 3, none⟩) (World.block_lt_of_cell? W _ c3)).trans c3
    have d4 := (hbX.cell (p := ⟨g0, 4, none⟩) (World.block_lt_of_cell? W _ c4)).trans c4
    go_wp2_with fail
    have hfb9 := fb.rd.more (show w4.heap.size ≤ w9.heap.size by omega)
    have HS2 : Hid (∀ v, Below w9.heap.size w9.drew v → v.cell? ⟨g0, 0, none⟩ = some (.string x.code) ∧ v.cell? ⟨g0, 1, none⟩ = some (.int .i64 x.slot) ∧ v.cell? ⟨g0, 2, none⟩ = some (.slice pA x.ports.length pc) ∧ v.cell? ⟨g0, 3, none⟩ = some (.int .i64 x.price) ∧ v.cell? ⟨g0, 4, none⟩ = some (.int .i64 x.grams) ∧ v.cell? ⟨g1, 0, none⟩ = some (.string x.code) ∧ v.cell? ⟨g1, 1, none⟩ = some (.int .i64 x.slot) ∧ v.cell? ⟨g1, 2, none⟩ = some (.slice b x.ports.length x.ports.length) ∧ v.cell? ⟨g1, 3, none⟩ = some (.int .i64 x.price) ∧ v.cell? ⟨g1, 4, none⟩ = some (.int .i64 x.grams)) := fun v hv => ⟨(hv.cell (p := ⟨g0, 0, none⟩) (World.block_lt_of_cell? _ _ d0)).trans d0, (hv.cell (p := ⟨g0, 1, none⟩) (World.block_lt_of_cell? _ _ d1)).trans d1, (hv.cell (p := ⟨g0, 2, none⟩) (World.block_lt_of_cell? _ _ d2)).trans d2, (hv.cell (p := ⟨g0, 3, none⟩) (World.block_lt_of_cell? _ _ d3)).trans d3, (hv.cell (p := ⟨g0, 4, none⟩) (World.block_lt_of_cell? _ _ d4)).trans d4, (hv.cell (p := ⟨g1, 0, none⟩) (World.block_lt_of_cell? _ _ j0)).trans j0, (hv.cell (p := ⟨g1, 1, none⟩) (World.block_lt_of_cell? _ _ j1)).trans j1, (hv.cell (p := ⟨g1, 2, none⟩) (World.block_lt_of_cell? _ _ j2)).trans j2, (hv.cell (p := ⟨g1, 3, none⟩) (World.block_lt_of_cell? _ _ j3)).trans j3, (hv.cell (p := ⟨g1, 4, none⟩) (World.block_lt_of_cell? _ _ j4)).trans j4⟩
    have hxr2 := hrW'.next hbX
    go_region_held3 (fun w' => w'.cell? ⟨g0, 0, none⟩ = some (.string x.code) ∧ w'.cell? ⟨g0, 1, none⟩ = some (.int .i64 x.slot) ∧ w'.cell? ⟨g0, 2, none⟩ = some (.slice pA x.ports.length pc) ∧ w'.cell? ⟨g0, 3, none⟩ = some (.int .i64 x.price) ∧ w'.cell? ⟨g0, 4, none⟩ = some (.int .i64 x.grams) ∧ w'.cell? ⟨g1, 0, none⟩ = some (.string x.code) ∧ w'.cell? ⟨g1, 1, none⟩ = some (.int .i64 x.slot) ∧ w'.cell? ⟨g1, 2, none⟩ = some (.slice b x.ports.length x.ports.length) ∧ w'.cell? ⟨g1, 3, none⟩ = some (.int .i64 x.price) ∧ w'.cell? ⟨g1, 4, none⟩ = some (.int .i64 x.grams)) (first | exact HS2.out _ (Below.refl _ _) | exact HS2.out _ hp2 | exact HS2.out _ (bthen hp2 hq2)) (first | (go_at_call 17; refine (toPart_k x pA pc _ (hxr2.next (bdrew _)) hS).mono ?_; rintro e wp2 ⟨d2A, rfl, fd2, hp2⟩) | (go_at_call 19; refine (HE.out b d2A _ ((hfb9.next (bdrew _)).next hp2) fd2.rd).mono ?_; rintro e wq2 ⟨rfl, hq2⟩))
    have hz2 := bthen (bthen (bdrew w9) hp2) hq2
    have sz2 := hz2.size
    replace hG := hG.below hz2 (by omega)
    replace hH := hH.below hz2 (by omega)
    replace fa2 := fa2.below hz2 (by omega)
    replace fb := fb.below hz2 (by omega)
    replace hbX := bthen hbX hz2
    have k0 := (hz2.cell (p := ⟨g1, 0, none⟩) (World.block_lt_of_cell? w9 _ j0)).trans j0
    have k1 := (hz2.cell (p := ⟨g1, 1, none⟩) (World.block_lt_of_cell? w9 _ j1)).trans j1
    have k2 := (hz2.cell (p := ⟨g1, 2, none⟩) (World.block_lt_of_cell? w9 _ j2)).trans j2
    have k3 := (hz2.cell (p := ⟨g1, 3, none⟩) (World.block_lt_of_cell? w9 _ j3)).trans j3
    have k4 := (hz2.cell (p := ⟨g1, 4, none⟩) (World.block_lt_of_cell? w9 _ j4)).trans j4
    clear j0 j1 j2 j3 j4 d0 d1 d2 d3 d4 HS2 hxr2 hp2 fd2 hfb9
    go_wp2_with fail
    refine (markPartS_k a2 _ vs 1 _ _ wq2 fa2 HSv.out (by omega) (by omega)).mono ?_
    rintro e w10 ⟨k10, rfl, kl10, ku10, ho10⟩
    have s10 := ho10.size
    clear fa2
    have hg1l := World.block_lt_of_cell? wq2 _ k0
    simp only at hg1l
    have m0 := ho10.cell (by omega) k0
    have m1 := ho10.cell (by omega) k1
    have m2 := ho10.cell (by omega) k2
    have m3 := ho10.cell (by omega) k3
    have m4 := ho10.cell (by omega) k4
    clear k0 k1 k2 k3 k4
    replace hG := hG.only ho10 (by omega) (by omega)
    replace hH := hH.only ho10 (by omega) (by omega)
    replace fb := fb.only ho10 (by omega) (by omega)
    replace hbX := hbX.trans (ho10.below (B := W.heap.size) (by omega) (by omega))
    go_wp2_with fail
    refine (markPart_k x b _ k10 _ _ w10 fb hS (by omega) (by omega)).mono ?_
    rintro e w11 ⟨k11, rfl, kl11, ku11, ho11⟩
    have s11 := ho11.size
    clear fb m0 m1 m2 m3 m4
    replace hG := hG.only ho11 (by omega) (by omega)
    replace hH := hH.only ho11 (by omega) (by omega)
    replace hbX := hbX.trans (ho11.below (B := W.heap.size) (by omega) (by omega))
    go_wp2_with fail
    refine (eqPartS_r G G1 _ _ y0 w11 (hH.rd.more (by omega)) (hG.rd.more (by omega)) hSm.out).mono ?_
    rintro e w12 ⟨rfl, hb12⟩
    have s12 := hb12.size
    replace hG := hG.below hb12 (by omega)
    replace hH := hH.below hb12 (by omega)
    replace hbX := bthen' hbX hb12
    go_wp2_with fail
    refine (markPartS_r G _ y0 _ _ w12 hH hSm.out).mono ?_
    rintro e w13 ⟨rfl, ho13, mg⟩
    have s13 := ho13.size
    clear hH
    replace hG := hG.only ho13 (by omega) (by omega)
    replace hbX := hbX.trans (ho13.below (B := W.heap.size) (by omega) (by omega))
    go_wp2_with fail
    refine (heldPartS_r G _ y0 _ _ w13 mg (by omega) hSm.out).mono ?_
    rintro e w14 ⟨rfl, hb14⟩
    have s14 := hb14.size
    replace hG := hG.below hb14 (by omega)
    replace mg := mg.below hb14 (by omega)
    replace hbX := bthen' hbX hb14
    have d0 := (hbX.cell (p := ⟨g0, 0, none⟩) (World.block_lt_of_cell? W _ c0)).trans c0
    have d1 := (hbX.cell (p := ⟨g0, 1, none⟩) (World.block_lt_of_cell? W _ c1)).trans c1
    have d2 := (hbX.cell (p := ⟨g0, 2, none⟩) (World.block_lt_of_cell? W _ c2)).trans c2
    have d3 := (hbX.cell (p := ⟨g0, 3, none⟩) (World.block_lt_of_cell? W _ c3)).trans c3
    have d4 := (hbX.cell (p := ⟨g0, 4, none⟩) (World.block_lt_of_cell? W _ c4)).trans c4
    go_wp2_with fail
    have HS3 : Hid (∀ v, Below w14.heap.size w14.drew v → v.cell? ⟨g0, 0, none⟩ = some (.string x.code) ∧ v.cell? ⟨g0, 1, none⟩ = some (.int .i64 x.slot) ∧ v.cell? ⟨g0, 2, none⟩ = some (.slice pA x.ports.length pc) ∧ v.cell? ⟨g0, 3, none⟩ = some (.int .i64 x.price) ∧ v.cell? ⟨g0, 4, none⟩ = some (.int .i64 x.grams)) := fun v hv => ⟨(hv.cell (p := ⟨g0, 0, none⟩) (World.block_lt_of_cell? _ _ d0)).trans d0, (hv.cell (p := ⟨g0, 1, none⟩) (World.block_lt_of_cell? _ _ d1)).trans d1, (hv.cell (p := ⟨g0, 2, none⟩) (World.block_lt_of_cell? _ _ d2)).trans d2, (hv.cell (p := ⟨g0, 3, none⟩) (World.block_lt_of_cell? _ _ d3)).trans d3, (hv.cell (p := ⟨g0, 4, none⟩) (World.block_lt_of_cell? _ _ d4)).trans d4⟩
    have hxr3 := hrW'.next hbX
    have hvr3 := hrV.next hbX
    go_region_held3 (fun w' => w'.cell? ⟨g0, 0, none⟩ = some (.string x.code) ∧ w'.cell? ⟨g0, 1, none⟩ = some (.int .i64 x.slot) ∧ w'.cell? ⟨g0, 2, none⟩ = some (.slice pA x.ports.length pc) ∧ w'.cell? ⟨g0, 3, none⟩ = some (.int .i64 x.price) ∧ w'.cell? ⟨g0, 4, none⟩ = some (.int .i64 x.grams)) (first | exact HS3.out _ (Below.refl _ _) | exact HS3.out _ ha3 | exact HS3.out _ hb3 | exact HS3.out _ (bthen ha3 hb3) | exact HS3.out _ (bthen hb3 ha3) | exact HS3.out _ (bthen (bthen ha3 hb3) hj3) | exact HS3.out _ (bthen (bthen hb3 ha3) hj3)) (first | (go_at_call 22; refine (toPartS_k A c vs _ (by first | exact hvr3.next (bdrew _) | exact (hvr3.next (bdrew _)).next hb3) HSv.out).mono ?_; rintro e wa3 ⟨a3, rfl, fa3, ha3⟩) | (go_at_call 17; refine (toPart_k x pA pc _ (by first | exact hxr3.next (bdrew _) | exact (hxr3.next (bdrew _)).next ha3) hS).mono ?_; rintro e wb3 ⟨b3, rfl, fb3, hb3⟩) | (go_at_call 28; refine (hIm.out a3 vs.length _ b3 x.ports.length (by first | exact fa3.rd | exact (fa3.rd.below hb3).more hb3.size) (by first | exact fb3.rd | exact fb3.rd.next ha3)).mono ?_; rintro e z3 ⟨G3, gc3, rfl, fg3, -, hj3⟩))
    all_goals
      have hz3 : Below w14.heap.size w14 z3 := by
        first
          | exact bthen (bthen (bthen (bdrew _) ha3) hb3) hj3
          | exact bthen (bthen (bthen (bdrew _) hb3) ha3) hj3
      have hlo3 : ∃ lo, w14.heap.size ≤ lo ∧ FlatR z3 lo z3.heap.size G3 y0 := by
        first
          | exact ⟨_, (bthen (bthen (bdrew w14) ha3) hb3).size, fg3⟩
          | exact ⟨_, (bthen (bthen (bdrew w14) hb3) ha3).size, fg3⟩
      obtain ⟨lo3, hlo3, hG3⟩ := hlo3
      have hsz3 := hz3.size
      clear ha3 hb3 hj3 fa3 fb3 fg3 HS3 hxr3 hvr3
      clear d0 d1 d2 d3 d4
      replace hG := hG.below hz3 (by omega)
      replace mg := mg.below hz3 (by omega)
      replace hbX := bthen hbX hz3
      go_wp2_with fail
      refine (eqPartS_r G3 G1 _ _ y0 z3 hG3.rd (hG.rd.more (by omega)) hSm.out).mono ?_
      rintro e w15 ⟨rfl, hb15⟩
      have s15 := hb15.size
      replace mg := mg.below hb15 (by omega)
      replace hbX := bthen hbX hb15
      go_wp2_with fail
      refine (heldPartS_r G _ y0 _ _ w15 mg (by omega) hSm.out).mono ?_
      rintro e w16 ⟨rfl, hb16⟩
      replace hbX := bthen hbX hb16
      go_wp2_with fail
      go_ret
      subst hg0
      exact ⟨rfl, hbw.trans (hbX.mono hbs)⟩

set_option maxRecDepth 100000 in
theorem fnExactAddPart_lifted (os : Os) (started : os.Started) (H : Type) (enc : TypeId × Value → H) :
    ReturnsInHanded {} Try.checked os 6 .any (Rows.fnExactAddPartSpec.pre6 enc Try.prog Try.f6 Rows.fnExactAddPartRow.domain false) (Rows.fnExactAddPartSpec.post enc Try.prog Try.f6 false true false false) := by
  refine returnsInHanded_of_change (C := Try.checked) own started (by kernel_rfl) Try.func6
    (ChangeSpec.witness6 (enc := enc) (C := Try.checked) false ⟨#[], #[.slice none 0 0, .agg #[.string ⟨#[]⟩, .int .i64 0, .slice none 0 0, .int .i64 0, .int .i64 0]], []⟩ 8 (by kernel_rfl) (by kernel_rfl) (by kernel_rfl) (by kernel_rfl)) ?_
  intro W base args ds gs before hval0 hW hcnd _
  have hval : ∀ (j : Nat) t v, Try.f6.params[j]? = some t → args[j]? = some v → Value.okWide Try.prog W .any base t v := hval0
  have hlt : ∀ x ∈ before, x.block < W.heap.size := fun x hx => hW.lt x hx
  have hW' := hW
  obtain ⟨p, q, hA0, hV, rfl, hfz, hnd⟩ := hW
  have hA : DataW.TrodAll enc Try.prog W 0 (fun _ => true) true Try.f6.params.toList args.toList ds p := hA0
  rw [Try.params6] at hA hval
  obtain ⟨v0, v1, d0, d1, p0, p1, rfl, rfl, rfl, h0, h1⟩ := trodAll_two hA
  obtain ⟨A0, k0, xs0, rfl, hr0⟩ := open_partsV (hval 0 33 v0 rfl rfl) h0
  obtain ⟨pt1, pA1, pc1, rfl, hr1⟩ := open_partV (hval 1 24 v1 rfl rfl) h1
  refine (law_FnExactAddPart A0 k0 xs0 pt1 pA1 pc1 W hr0 hr1).mono fun e W' ⟨he, hb⟩ => ?_
  subst he
  exact ⟨_, rfl, law_post (tb := 4) laidOut (by kernel_rfl) rfl rfl Try.underlying4 hW' rfl hb⟩
theorem fnExactAddPart_closed : joinedFacts Try.prog 6 Try.f6 Rows.fnExactAddPartSpec Rows.fnExactAddPartRow = true := by
  unfold joinedFacts; rw [mayEnter_yes, liftsFinal_no, make_cut]; kernel_rfl
theorem fnExactAddPart_holds : Rows.FnExactAddPartSaid :=
  OpenClaim.holds_of_wide 6 Try.f6 rfl rfl rfl rfl rfl rfl rfl ⟨rfl, rfl, rfl, rfl, rfl⟩ rfl rfl rfl rfl rfl (by kernel_rfl) Try.func6 fnExactAddPart_closed
    (of_decide_eq_true (by kernel_rfl)) (by unfold Func.isWrapper; rw [if_neg (of_decide_eq_false (by kernel_rfl))]; exact ⟨rfl, rfl⟩)
    (fun os started H enc _ => fnExactAddPart_lifted os started H enc)
#print axioms fnExactAddPart_holds

end Go.Proofs.Ytnnamnmmpdgjfaa
