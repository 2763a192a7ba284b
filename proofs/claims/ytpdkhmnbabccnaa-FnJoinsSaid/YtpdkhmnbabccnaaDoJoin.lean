/- DERIVED. DoJoin, in the program and in the reference. By program (gdojoin.py). -/
import Derived.Test.YtpdkhmnbabccnaaJoin
import Derived.Test.YtpdkhmnbabccnaaParts
namespace Go.Proofs.Ytpdkhmnbabccnaa
set_option maxRecDepth 100000
open Go.RowKit

def joinR (x y : PartT) (kind : Int) : Bool × Int := if partB x = true then (if partB y = true then (if inB kind 0 9 = true then (joinB x.ports y.ports kind, 0) else (false, 2)) else (false, 1)) else (false, 1)

set_option maxHeartbeats 1000000 in
theorem DoJoin_impl (x y : PartT) (pA pB : Option Addr) (pc pd : Nat) (kind : Int) (w : World) (hr : Rd w w.heap.size 3 portC pA x.ports) (hr' : Rd w w.heap.size 3 portC pB y.ports) (hn : x.code.size ≤ maxLen) (hn' : y.code.size ≤ maxLen) (hm : x.ports.length ≤ 1048576) (hm' : y.ports.length ≤ 1048576) (hc : x.ports.length ≤ pc) (hc' : y.ports.length ≤ pd) :
    Calls Try.prog 17 #[argV x pA pc, argV y pB pd, .int .i64 kind] w fun e w' => e = .returned (.tuple #[.bool (joinR x y kind).1, .int .i64 (joinR x y kind).2]) ∧ Below w.heap.size w w' := by
  have HA : Hid (∀ v : World, Rd v v.heap.size 3 portC pA x.ports → Calls Try.prog 42 #[argV x pA pc] v fun e w' => e = .returned (.bool (partB x)) ∧ Below v.heap.size v w') := fun v hv => isPart_impl x pA pc v hv hn hm hc
  have HB : Hid (∀ v : World, Rd v v.heap.size 3 portC pB y.ports → Calls Try.prog 42 #[argV y pB pd] v fun e w' => e = .returned (.bool (partB y)) ∧ Below v.heap.size v w') := fun v hv => isPart_impl y pB pd v hv hn' hm' hc'
  have HK : Hid (∀ v : World, Calls Try.prog 112 #[.int .i64 kind, .int .i64 0, .int .i64 9] v fun e w' => e = .returned (.bool (inB kind 0 9)) ∧ v = w') := fun v => within_any kind 0 9 v
  have HJ : Hid (∀ v : World, Rd v v.heap.size 3 portC pA x.ports → Rd v v.heap.size 3 portC pB y.ports → Calls Try.prog 113 #[argV x pA pc, argV y pB pd, .int .i64 kind] v fun e w' => e = .returned (.bool (joinB x.ports y.ports kind)) ∧ Below v.heap.size v w') := fun v h1 h2 => doJoin_any x y pA pB pc pd kind v h1 h2 hm hm'
  have hR : Hid (joinR x y kind = if partB x = true then (if partB y = true then (if inB kind 0 9 = true then (joinB x.ports y.ports kind, 0) else (false, 2)) else (false, 1)) else (false, 1)) := rfl
  generalize joinR x y kind = R at hR ⊢
  generalize partB x = bx at HA hR
  generalize partB y = bY at HB hR
  generalize inB kind 0 9 = bk at HK hR
  generalize joinB x.ports y.ports kind = bj at HJ hR
  unfold argV at HA HB HJ ⊢
  go_enter Try.func17, Try.ntmps17
  go_wp2_with fail
  have hbW := bthen (balloc w (.cells #[.string x.code, .int .i64 x.slot, .slice pA x.ports.length pc, .int .i64 x.price, .int .i64 x.grams] 26)) (balloc _ (.cells #[.string y.code, .int .i64 y.slot, .slice pB y.ports.length pd, .int .i64 y.price, .int .i64 y.grams] 26))
  have c0 : ((w.alloc (.cells #[.string x.code, .int .i64 x.slot, .slice pA x.ports.length pc, .int .i64 x.price, .int .i64 x.grams] 26)).alloc (.cells #[.string y.code, .int .i64 y.slot, .slice pB y.ports.length pd, .int .i64 y.price, .int .i64 y.grams] 26)).cell? ⟨w.heap.size, 0, none⟩ = some (.string x.code) := by go_simp
  have c1 : ((w.alloc (.cells #[.string x.code, .int .i64 x.slot, .slice pA x.ports.length pc, .int .i64 x.price, .int .i64 x.grams] 26)).alloc (.cells #[.string y.code, .int .i64 y.slot, .slice pB y.ports.length pd, .int .i64 y.price, .int .i64 y.grams] 26)).cell? ⟨w.heap.size, 1, none⟩ = some (.int .i64 x.slot) := by go_simp
  have c2 : ((w.alloc (.cells #[.string x.code, .int .i64 x.slot, .slice pA x.ports.length pc, .int .i64 x.price, .int .i64 x.grams] 26)).alloc (.cells #[.string y.code, .int .i64 y.slot, .slice pB y.ports.length pd, .int .i64 y.price, .int .i64 y.grams] 26)).cell? ⟨w.heap.size, 2, none⟩ = some (.slice pA x.ports.length pc) := by go_simp
  have c3 : ((w.alloc (.cells #[.string x.code, .int .i64 x.slot, .slice pA x.ports.length pc, .int .i64 x.price, .int .i64 x.grams] 26)).alloc (.cells #[.string y.code, .int .i64 y.slot, .slice pB y.ports.length pd, .int .i64 y.price, .int .i64 y.grams] 26)).cell? ⟨w.heap.size, 3, none⟩ = some (.int .i64 x.price) := by go_simp
  have c4 : ((w.alloc (.cells #[.string x.code, .int .i64 x.slot, .slice pA x.ports.length pc, .int .i64 x.price, .int .i64 x.grams] 26)).alloc (.cells #[.string y.code, .int .i64 y.slot, .slice pB y.ports.length pd, .int .i64 y.price, .int .i64 y.grams] 26)).cell? ⟨w.heap.size, 4, none⟩ = some (.int .i64 x.grams) := by go_simp
  have d0 : ((w.alloc (.cells #[.string x.code, .int .i64 x.slot, .slice pA x.ports.length pc, .int .i64 x.price, .int .i64 x.grams] 26)).alloc (.cells #[.string y.code, .int .i64 y.slot, .slice pB y.ports.length pd, .int .i64 y.price, .int .i64 y.grams] 26)).cell? ⟨w.heap.size + 1, 0, none⟩ = some (.string y.code) := by go_simp
  have d1 : ((w.alloc (.cells #[.string x.code, .int .i64 x.slot, .slice pA x.ports.length pc, .int .i64 x.price, .int .i64 x.grams] 26)).alloc (.cells #[.string y.code, .int .i64 y.slot, .slice pB y.ports.length pd, .int .i64 y.price, .int .i64 y.grams] 26)).cell? ⟨w.heap.size + 1, 1, none⟩ = some (.int .i64 y.slot) := by go_simp
  have d2 : ((w.alloc (.cells #[.string x.code, .int .i64 x.slot, .slice pA x.ports.length pc, .int .i64 x.price, .int .i64 x.grams] 26)).alloc (.cells #[.string y.code, .int .i64 y.slot, .slice pB y.ports.length pd, .int .i64 y.price, .int .i64 y.grams] 26)).cell? ⟨w.heap.size + 1, 2, none⟩ = some (.slice pB y.ports.length pd) := by go_simp
  have d3 : ((w.alloc (.cells #[.string x.code, .int .i64 x.slot, .slice pA x.ports.length pc, .int .i64 x.price, .int .i64 x.grams] 26)).alloc (.cells #[.string y.code, .int .i64 y.slot, .slice pB y.ports.length pd, .int .i64 y.price, .int .i64 y.grams] 26)).cell? ⟨w.heap.size + 1, 3, none⟩ = some (.int .i64 y.price) := by go_simp
  have d4 : ((w.alloc (.cells #[.string x.code, .int .i64 x.slot, .slice pA x.ports.length pc, .int .i64 x.price, .int .i64 x.grams] 26)).alloc (.cells #[.string y.code, .int .i64 y.slot, .slice pB y.ports.length pd, .int .i64 y.price, .int .i64 y.grams] 26)).cell? ⟨w.heap.size + 1, 4, none⟩ = some (.int .i64 y.grams) := by go_simp
  generalize (w.alloc (.cells #[.string x.code, .int .i64 x.slot, .slice pA x.ports.length pc, .int .i64 x.price, .int .i64 x.grams] 26)).alloc (.cells #[.string y.code, .int .i64 y.slot, .slice pB y.ports.length pd, .int .i64 y.price, .int .i64 y.grams] 26) = W at c0 c1 c2 c3 c4 d0 d1 d2 d3 d4 hbW ⊢
  generalize w.heap.size + 1 = g1 at d0 d1 d2 d3 d4 ⊢
  generalize hg0 : w.heap.size = g0 at c0 c1 c2 c3 c4 ⊢
  refine (HA.out W ((hr.below hbW).more hbW.size)).mono ?_
  rintro e w1 ⟨rfl, hb1⟩
  have f0 := (hb1.cell (p := ⟨g0, 0, none⟩) (World.block_lt_of_cell? W _ c0)).trans c0
  have f1 := (hb1.cell (p := ⟨g0, 1, none⟩) (World.block_lt_of_cell? W _ c1)).trans c1
  have f2 := (hb1.cell (p := ⟨g0, 2, none⟩) (World.block_lt_of_cell? W _ c2)).trans c2
  have f3 := (hb1.cell (p := ⟨g0, 3, none⟩) (World.block_lt_of_cell? W _ c3)).trans c3
  have f4 := (hb1.cell (p := ⟨g0, 4, none⟩) (World.block_lt_of_cell? W _ c4)).trans c4
  have e0 := (hb1.cell (p := ⟨g1, 0, none⟩) (World.block_lt_of_cell? W _ d0)).trans d0
  have e1 := (hb1.cell (p := ⟨g1, 1, none⟩) (World.block_lt_of_cell? W _ d1)).trans d1
  have e2 := (hb1.cell (p := ⟨g1, 2, none⟩) (World.block_lt_of_cell? W _ d2)).trans d2
  have e3 := (hb1.cell (p := ⟨g1, 3, none⟩) (World.block_lt_of_cell? W _ d3)).trans d3
  have e4 := (hb1.cell (p := ⟨g1, 4, none⟩) (World.block_lt_of_cell? W _ d4)).trans d4
  cases bx
  case false =>
    go_wp2_with fail
    go_ret2
    subst hg0
    exact ⟨by rw [hR.out]; rfl, hbW.trans (hb1.mono hbW.size)⟩
  case true =>
    go_wp2_with fail
    refine (HB.out w1 ((hr'.below (bthen hbW hb1)).more (bthen hbW hb1).size)).mono ?_
    rintro e w2 ⟨rfl, hb2⟩
    clear f0 f1 f2 f3 f4 e0 e1 e2 e3 e4
    have hb12 := bthen hb1 hb2
    have f0 := (hb12.cell (p := ⟨g0, 0, none⟩) (World.block_lt_of_cell? W _ c0)).trans c0
    have f1 := (hb12.cell (p := ⟨g0, 1, none⟩) (World.block_lt_of_cell? W _ c1)).trans c1
    have f2 := (hb12.cell (p := ⟨g0, 2, none⟩) (World.block_lt_of_cell? W _ c2)).trans c2
    have f3 := (hb12.cell (p := ⟨g0, 3, none⟩) (World.block_lt_of_cell? W _ c3)).trans c3
    have f4 := (hb12.cell (p := ⟨g0, 4, none⟩) (World.block_lt_of_cell? W _ c4)).trans c4
    have e0 := (hb12.cell (p := ⟨g1, 0, none⟩) (World.block_lt_of_cell? W _ d0)).trans d0
    have e1 := (hb12.cell (p := ⟨g1, 1, none⟩) (World.block_lt_of_cell? W _ d1)).trans d1
    have e2 := (hb12.cell (p := ⟨g1, 2, none⟩) (World.block_lt_of_cell? W _ d2)).trans d2
    have e3 := (hb12.cell (p := ⟨g1, 3, none⟩) (World.block_lt_of_cell? W _ d3)).trans d3
    have e4 := (hb12.cell (p := ⟨g1, 4, none⟩) (World.block_lt_of_cell? W _ d4)).trans d4
    cases bY
    case false =>
      go_wp2_with fail
      go_ret2
      subst hg0
      exact ⟨by rw [hR.out]; rfl, hbW.trans (hb12.mono hbW.size)⟩
    case true =>
      cases bk
      case false =>
        go_wp2_with (go_at_call 112; refine (HK.out _).mono ?_; rintro e w' ⟨rfl, rfl⟩)
        go_ret2
        subst hg0
        exact ⟨by rw [hR.out]; rfl, hbW.trans (hb12.mono hbW.size)⟩
      case true =>
        go_wp2_with (go_at_call 112; refine (HK.out _).mono ?_; rintro e w' ⟨rfl, rfl⟩)
        refine (HJ.out w2 ((hr.below (bthen hbW hb12)).more (bthen hbW hb12).size) ((hr'.below (bthen hbW hb12)).more (bthen hbW hb12).size)).mono ?_
        rintro e w3 ⟨rfl, hb3⟩
        go_wp2_with fail
        go_ret2
        subst hg0
        exact ⟨by rw [hR.out]; rfl, hbW.trans ((bthen hb12 hb3).mono hbW.size)⟩

set_option maxHeartbeats 1000000 in
theorem DoJoin_spec (x y : PartT) (pA pB : Option Addr) (pc pd : Nat) (kind : Int) (w : World) (hr : Rd w w.heap.size 3 portC pA x.ports) (hr' : Rd w w.heap.size 3 portC pB y.ports) (hn : x.code.size ≤ maxLen) (hn' : y.code.size ≤ maxLen) (hm : x.ports.length ≤ 1048576) (hm' : y.ports.length ≤ 1048576) (hc : x.ports.length ≤ pc) (hc' : y.ports.length ≤ pd) :
    Calls Try.prog 18 #[argV x pA pc, argV y pB pd, .int .i64 kind] w fun e w' => e = .returned (.tuple #[.bool (joinR x y kind).1, .int .i64 (joinR x y kind).2]) ∧ Below w.heap.size w w' := by
  have HA : Hid (∀ v : World, Rd v v.heap.size 3 portC pA x.ports → Calls Try.prog 43 #[argV x pA pc] v fun e w' => e = .returned (.bool (partB x)) ∧ Below v.heap.size v w') := fun v hv => isPart_spec x pA pc v hv hn hm hc
  have HB : Hid (∀ v : World, Rd v v.heap.size 3 portC pB y.ports → Calls Try.prog 43 #[argV y pB pd] v fun e w' => e = .returned (.bool (partB y)) ∧ Below v.heap.size v w') := fun v hv => isPart_spec y pB pd v hv hn' hm' hc'
  have HK : Hid (∀ v : World, Calls Try.prog 114 #[.int .i64 kind, .int .i64 0, .int .i64 9] v fun e w' => e = .returned (.bool (inB kind 0 9)) ∧ v = w') := fun v => l01In_any kind 0 9 v
  have HJ : Hid (∀ v : World, Rd v v.heap.size 3 portC pA x.ports → Rd v v.heap.size 3 portC pB y.ports → Calls Try.prog 115 #[argV x pA pc, argV y pB pd, .int .i64 kind] v fun e w' => e = .returned (.bool (joinB x.ports y.ports kind)) ∧ Below v.heap.size v w') := fun v h1 h2 => l16Join_any x y pA pB pc pd kind v h1 h2 hm hm'
  have hR : Hid (joinR x y kind = if partB x = true then (if partB y = true then (if inB kind 0 9 = true then (joinB x.ports y.ports kind, 0) else (false, 2)) else (false, 1)) else (false, 1)) := rfl
  generalize joinR x y kind = R at hR ⊢
  generalize partB x = bx at HA hR
  generalize partB y = bY at HB hR
  generalize inB kind 0 9 = bk at HK hR
  generalize joinB x.ports y.ports kind = bj at HJ hR
  unfold argV at HA HB HJ ⊢
  go_enter Try.func18, Try.ntmps18
  go_wp2_with fail
  have hbW := bthen (balloc w (.cells #[.string x.code, .int .i64 x.slot, .slice pA x.ports.length pc, .int .i64 x.price, .int .i64 x.grams] 26)) (balloc _ (.cells #[.string y.code, .int .i64 y.slot, .slice pB y.ports.length pd, .int .i64 y.price, .int .i64 y.grams] 26))
  have c0 : ((w.alloc (.cells #[.string x.code, .int .i64 x.slot, .slice pA x.ports.length pc, .int .i64 x.price, .int .i64 x.grams] 26)).alloc (.cells #[.string y.code, .int .i64 y.slot, .slice pB y.ports.length pd, .int .i64 y.price, .int .i64 y.grams] 26)).cell? ⟨w.heap.size, 0, none⟩ = some (.string x.code) := by go_simp
  have c1 : ((w.alloc (.cells #[.string x.code, .int .i64 x.slot, .slice pA x.ports.length pc, .int .i64 x.price, .int .i64 x.grams] 26)).alloc (.cells #[.string y.code, .int .i64 y.slot, .slice pB y.ports.length pd, .int .i64 y.price, .int .i64 y.grams] 26)).cell? ⟨w.heap.size, 1, none⟩ = some (.int .i64 x.slot) := by go_simp
  have c2 : ((w.alloc (.cells #[.string x.code, .int .i64 x.slot, .slice pA x.ports.length pc, .int .i64 x.price, .int .i64 x.grams] 26)).alloc (.cells #[.string y.code, .int .i64 y.slot, .slice pB y.ports.length pd, .int .i64 y.price, .int .i64 y.grams] 26)).cell? ⟨w.heap.size, 2, none⟩ = some (.slice pA x.ports.length pc) := by go_simp
  have c3 : ((w.alloc (.cells #[.string x.code, .int .i64 x.slot, .slice pA x.ports.length pc, .int .i64 x.price, .int .i64 x.grams] 26)).alloc (.cells #[.string y.code, .int .i64 y.slot, .slice pB y.ports.length pd, .int .i64 y.price, .int .i64 y.grams] 26)).cell? ⟨w.heap.size, 3, none⟩ = some (.int .i64 x.price) := by go_simp
  have c4 : ((w.alloc (.cells #[.string x.code, .int .i64 x.slot, .slice pA x.ports.length pc, .int .i64 x.price, .int .i64 x.grams] 26)).alloc (.cells #[.string y.code, .int .i64 y.slot, .slice pB y.ports.length pd, .int .i64 y.price, .int .i64 y.grams] 26)).cell? ⟨w.heap.size, 4, none⟩ = some (.int .i64 x.grams) := by go_simp
  have d0 : ((w.alloc (.cells #[.string x.code, .int .i64 x.slot, .slice pA x.ports.length pc, .int .i64 x.price, .int .i64 x.grams] 26)).alloc (.cells #[.string y.code, .int .i64 y.slot, .slice pB y.ports.length pd, .int .i64 y.price, .int .i64 y.grams] 26)).cell? ⟨w.heap.size + 1, 0, none⟩ = some (.string y.code) := by go_simp
  have d1 : ((w.alloc (.cells #[.string x.code, .int .i64 x.slot, .slice pA x.ports.length pc, .int .i64 x.price, .int .i64 x.grams] 26)).alloc (.cells #[.string y.code, .int .i64 y.slot, .slice pB y.ports.length pd, .int .i64 y.price, .int .i64 y.grams] 26)).cell? ⟨w.heap.size + 1, 1, none⟩ = some (.int .i64 y.slot) := by go_simp
  have d2 : ((w.alloc (.cells #[.string x.code, .int .i64 x.slot, .slice pA x.ports.length pc, .int .i64 x.price, .int .i64 x.grams] 26)).alloc (.cells #[.string y.code, .int .i64 y.slot, .slice pB y.ports.length pd, .int .i64 y.price, .int .i64 y.grams] 26)).cell? ⟨w.heap.size + 1, 2, none⟩ = some (.slice pB y.ports.length pd) := by go_simp
  have d3 : ((w.alloc (.cells #[.string x.code, .int .i64 x.slot, .slice pA x.ports.length pc, .int .i64 x.price, .int .i64 x.grams] 26)).alloc (.cells #[.string y.code, .int .i64 y.slot, .slice pB y.ports.length pd, .int .i64 y.price, .int .i64 y.grams] 26)).cell? ⟨w.heap.size + 1, 3, none⟩ = some (.int .i64 y.price) := by go_simp
  have d4 : ((w.alloc (.cells #[.string x.code, .int .i64 x.slot, .slice pA x.ports.length pc, .int .i64 x.price, .int .i64 x.grams] 26)).alloc (.cells #[.string y.code, .int .i64 y.slot, .slice pB y.ports.length pd, .int .i64 y.price, .int .i64 y.grams] 26)).cell? ⟨w.heap.size + 1, 4, none⟩ = some (.int .i64 y.grams) := by go_simp
  generalize (w.alloc (.cells #[.string x.code, .int .i64 x.slot, .slice pA x.ports.length pc, .int .i64 x.price, .int .i64 x.grams] 26)).alloc (.cells #[.string y.code, .int .i64 y.slot, .slice pB y.ports.length pd, .int .i64 y.price, .int .i64 y.grams] 26) = W at c0 c1 c2 c3 c4 d0 d1 d2 d3 d4 hbW ⊢
  generalize w.heap.size + 1 = g1 at d0 d1 d2 d3 d4 ⊢
  generalize hg0 : w.heap.size = g0 at c0 c1 c2 c3 c4 ⊢
  refine (HA.out W ((hr.below hbW).more hbW.size)).mono ?_
  rintro e w1 ⟨rfl, hb1⟩
  have f0 := (hb1.cell (p := ⟨g0, 0, none⟩) (World.block_lt_of_cell? W _ c0)).trans c0
  have f1 := (hb1.cell (p := ⟨g0, 1, none⟩) (World.block_lt_of_cell? W _ c1)).trans c1
  have f2 := (hb1.cell (p := ⟨g0, 2, none⟩) (World.block_lt_of_cell? W _ c2)).trans c2
  have f3 := (hb1.cell (p := ⟨g0, 3, none⟩) (World.block_lt_of_cell? W _ c3)).trans c3
  have f4 := (hb1.cell (p := ⟨g0, 4, none⟩) (World.block_lt_of_cell? W _ c4)).trans c4
  have e0 := (hb1.cell (p := ⟨g1, 0, none⟩) (World.block_lt_of_cell? W _ d0)).trans d0
  have e1 := (hb1.cell (p := ⟨g1, 1, none⟩) (World.block_lt_of_cell? W _ d1)).trans d1
  have e2 := (hb1.cell (p := ⟨g1, 2, none⟩) (World.block_lt_of_cell? W _ d2)).trans d2
  have e3 := (hb1.cell (p := ⟨g1, 3, none⟩) (World.block_lt_of_cell? W _ d3)).trans d3
  have e4 := (hb1.cell (p := ⟨g1, 4, none⟩) (World.block_lt_of_cell? W _ d4)).trans d4
  cases bx
  case false =>
    go_wp2_with fail
    go_ret2
    subst hg0
    exact ⟨by rw [hR.out]; rfl, hbW.trans (hb1.mono hbW.size)⟩
  case true =>
    go_wp2_with fail
    refine (HB.out w1 ((hr'.below (bthen hbW hb1)).more (bthen hbW hb1).size)).mono ?_
    rintro e w2 ⟨rfl, hb2⟩
    clear f0 f1 f2 f3 f4 e0 e1 e2 e3 e4
    have hb12 := bthen hb1 hb2
    have f0 := (hb12.cell (p := ⟨g0, 0, none⟩) (World.block_lt_of_cell? W _ c0)).trans c0
    have f1 := (hb12.cell (p := ⟨g0, 1, none⟩) (World.block_lt_of_cell? W _ c1)).trans c1
    have f2 := (hb12.cell (p := ⟨g0, 2, none⟩) (World.block_lt_of_cell? W _ c2)).trans c2
    have f3 := (hb12.cell (p := ⟨g0, 3, none⟩) (World.block_lt_of_cell? W _ c3)).trans c3
    have f4 := (hb12.cell (p := ⟨g0, 4, none⟩) (World.block_lt_of_cell? W _ c4)).trans c4
    have e0 := (hb12.cell (p := ⟨g1, 0, none⟩) (World.block_lt_of_cell? W _ d0)).trans d0
    have e1 := (hb12.cell (p := ⟨g1, 1, none⟩) (World.block_lt_of_cell? W _ d1)).trans d1
    have e2 := (hb12.cell (p := ⟨g1, 2, none⟩) (World.block_lt_of_cell? W _ d2)).trans d2
    have e3 := (hb12.cell (p := ⟨g1, 3, none⟩) (World.block_lt_of_cell? W _ d3)).trans d3
    have e4 := (hb12.cell (p := ⟨g1, 4, none⟩) (World.block_lt_of_cell? W _ d4)).trans d4
    cases bY
    case false =>
      go_wp2_with fail
      go_ret2
      subst hg0
      exact ⟨by rw [hR.out]; rfl, hbW.trans (hb12.mono hbW.size)⟩
    case true =>
      cases bk
      case false =>
        go_wp2_with (go_at_call 114; refine (HK.out _).mono ?_; rintro e w' ⟨rfl, rfl⟩)
        go_ret2
        subst hg0
        exact ⟨by rw [hR.out]; rfl, hbW.trans (hb12.mono hbW.size)⟩
      case true =>
        go_wp2_with (go_at_call 114; refine (HK.out _).mono ?_; rintro e w' ⟨rfl, rfl⟩)
        refine (HJ.out w2 ((hr.below (bthen hbW hb12)).more (bthen hbW hb12).size) ((hr'.below (bthen hbW hb12)).more (bthen hbW hb12).size)).mono ?_
        rintro e w3 ⟨rfl, hb3⟩
        go_wp2_with fail
        go_ret2
        subst hg0
        exact ⟨by rw [hR.out]; rfl, hbW.trans ((bthen hb12 hb3).mono hbW.size)⟩

end Go.Proofs.Ytpdkhmnbabccnaa
