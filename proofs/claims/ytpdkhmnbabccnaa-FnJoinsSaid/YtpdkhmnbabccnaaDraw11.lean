/- DERIVED. Two parts and a kind drawn. By program (gdrawj.py). -/
import Derived.Test.YtpdkhmnbabccnaaDraw10
import Derived.Deep.RegionLaw
namespace Go.Proofs.Ytpdkhmnbabccnaa
set_option maxRecDepth 100000
open Go.RowKit

/-- A source in hand, two parts' ports beside it; r2 and r3 may be written. -/
structure JoinIn (w0 w : World) (B r2 r3 r6 r7 b : Nat) (A : Option Addr) (c : Nat) (xs : List Int) (ps qs : List PortT) (pA pB : Option Addr) (pc pd : Nat) : Prop where
  src : Src w b A c xs
  below : Below w0.heap.size w0 w
  xo : Own w B 32 3 portC pA pc ps
  yo : Own w B 32 3 portC pB pd qs
  r2w : w0.heap.size ≤ r2
  r3w : w0.heap.size ≤ r3
  bw : w0.heap.size ≤ b
  r2b : r2 < b
  r3b : r3 < b
  bB : b < B
  h6 : b < r6
  h7 : r6 < r7
  r7w : r7 < w.heap.size
  row2 : Row w r2 26 5
  row3 : Row w r3 26 5
theorem Src.setNe {w : World} {b c : Nat} {A : Option Addr} {xs : List Int} (h : Src w b A c xs) {p : Addr} (hp : p.block ≠ b) (u : Value) : Src (w.setCell p u) b A c xs := by
  obtain ⟨k, sd, q0, q1, q2, hk, h0, h2, hf, hl⟩ := h
  have e : ∀ j, (w.setCell p u).cell? ⟨b, j, none⟩ = w.cell? ⟨b, j, none⟩ := fun j => World.cell?_of_block (a := ⟨b, j, none⟩) (Below.heap_setCell _ _ _ _ hp.symm)
  exact ⟨k, sd, (e 0).trans q0, (e 1).trans q1, (e 2).trans q2, hk, h0, h2, fun j => by rw [World.frozen?_setCell]; exact hf j, by simpa [World.setCell] using hl⟩
section
variable {w0 w w' : World} {B r2 r3 r6 r7 b c pc pd : Nat} {A pA pB : Option Addr} {xs : List Int} {ps qs : List PortT}
theorem JoinIn.set (h : JoinIn w0 w B r2 r3 r6 r7 b A c xs ps qs pA pB pc pd) {p : Addr} (hp : p.block = r2 ∨ p.block = r3) (u : Value) : JoinIn w0 (w.setCell p u) B r2 r3 r6 r7 b A c xs ps qs pA pB pc pd := by
  have := h.r2w
  have := h.r3w
  have := h.r2b
  have := h.r3b
  have := h.bB
  exact ⟨h.src.setNe (by omega) u, h.below.setCell (by omega) u, h.xo.setOther (by omega) u, h.yo.setOther (by omega) u, h.r2w, h.r3w, h.bw, h.r2b, h.r3b, h.bB, h.h6, h.h7, by simpa [World.setCell] using h.r7w, h.row2.setCell _ _, h.row3.setCell _ _⟩
theorem JoinIn.turn (h : JoinIn w0 w B r2 r3 r6 r7 b A c xs ps qs pA pB pc pd) (hS : Src w' b A c xs) (hO : Only b (b + 1) w w') : JoinIn w0 w' B r2 r3 r6 r7 b A c xs ps qs pA pB pc pd := by
  have := h.r2b
  have := h.r3b
  have := h.h6
  have := h.h7
  have := h.r7w
  exact ⟨hS, h.below.trans (hO.below h.bw h.below.size), h.xo.only hO h.bB, h.yo.only hO h.bB, h.r2w, h.r3w, h.bw, h.r2b, h.r3b, h.bB, h.h6, h.h7, Nat.lt_of_lt_of_le h.r7w hO.size, h.row2.kept (hO.block r2 (by omega) (by omega)), h.row3.kept (hO.block r3 (by omega) (by omega))⟩
theorem JoinIn.next (h : JoinIn w0 w B r2 r3 r6 r7 b A c xs ps qs pA pB pc pd) (hb : Below w.heap.size w w') : JoinIn w0 w' B r2 r3 r6 r7 b A c xs ps qs pA pB pc pd := h.turn (h.src.next hb) (Only.of_below hb)
theorem JoinIn.rd (h : JoinIn w0 w B r2 r3 r6 r7 b A c xs ps qs pA pB pc pd) (hr : Rd w0 w0.heap.size 1 uC A xs) : Rd w b 1 uC A xs := (hr.below h.below).more h.bw
theorem JoinIn.kept (h : JoinIn w0 w B r2 r3 r6 r7 b A c xs ps qs pA pB pc pd) (hO : Only b (b + 1) w w') {g : Nat} (hg : g < w.heap.size) (hn : g ≠ b) : (∀ j, w'.cell? ⟨g, j, none⟩ = w.cell? ⟨g, j, none⟩) ∧ ∀ j, w'.frozen? ⟨g, j, none⟩ = w.frozen? ⟨g, j, none⟩ := by
  have e := hO.block g hg (by omega)
  refine ⟨fun j => World.cell?_of_block (a := ⟨g, j, none⟩) e, fun j => ?_⟩
  unfold World.frozen?
  simp only [e]
end
/-- A number drawn beside it; the four boxes as they were. -/
def TurnJ (w0 : World) (B r2 r3 r6 r7 b : Nat) (A : Option Addr) (c : Nat) (xs : List Int) (ps qs : List PortT) (pA pB : Option Addr) (pc pd : Nat) (lo hi : Int) (v : World) (e : Ending) (w' : World) : Prop := ∃ z : Int, e = .returned (.int .i64 z) ∧ lo ≤ z ∧ z ≤ hi ∧ JoinIn w0 w' B r2 r3 r6 r7 b A c xs ps qs pA pB pc pd ∧ v.heap.size ≤ w'.heap.size ∧
  (∀ j, w'.cell? ⟨r2, j, none⟩ = v.cell? ⟨r2, j, none⟩) ∧ (∀ j, w'.cell? ⟨r3, j, none⟩ = v.cell? ⟨r3, j, none⟩) ∧ (∀ j, w'.cell? ⟨r6, j, none⟩ = v.cell? ⟨r6, j, none⟩) ∧ (∀ j, w'.cell? ⟨r7, j, none⟩ = v.cell? ⟨r7, j, none⟩)
theorem JoinIn.turnJ {w0 v w' : World} {B r2 r3 r6 r7 b c pc pd : Nat} {A pA pB : Option Addr} {xs : List Int} {ps qs : List PortT} {lo hi z : Int} (h : JoinIn w0 v B r2 r3 r6 r7 b A c xs ps qs pA pB pc pd) (hS : Src w' b A c xs) (hO : Only b (b + 1) v w') (hlo : lo ≤ z) (hhi : z ≤ hi) : TurnJ w0 B r2 r3 r6 r7 b A c xs ps qs pA pB pc pd lo hi v (.returned (.int .i64 z)) w' := by
  have := h.r2b
  have := h.r3b
  have := h.h6
  have := h.h7
  have := h.r7w
  have k2 := h.kept hO (g := r2) (by omega) (by omega)
  have k3 := h.kept hO (g := r3) (by omega) (by omega)
  exact ⟨z, rfl, hlo, hhi, h.turn hS hO, hO.size, k2.1, k3.1, (h.kept hO (g := r6) (by omega) (by omega)).1, (h.kept hO (g := r7) (by omega) (by omega)).1⟩
theorem tab_set {w : World} {g : Nat} {ys : List Int} (h : ∀ k y, ys[k]? = some y → w.cell? ⟨g, k, none⟩ = some (.int .i64 y)) {p : Addr} (hp : p.block ≠ g) (u : Value) : ∀ k y, ys[k]? = some y → (w.setCell p u).cell? ⟨g, k, none⟩ = some (.int .i64 y) := fun k y hy => (World.cell?_of_block (a := ⟨g, k, none⟩) (Below.heap_setCell _ _ _ _ hp.symm)).trans (h k y hy)
theorem tab_new (w : World) (E : TypeId) (ys : List Int) {g : Nat} (hg : g = w.heap.size) : ∀ k y, ys[k]? = some y → (w.alloc (.cells (ys.map (Value.int .i64)).toArray E)).cell? ⟨g, k, none⟩ = some (.int .i64 y) := fun k y hy => by
  subst hg
  rw [cell_of_row _ _ _ _ E (0, 0) (heap_alloc_new w _)]
  simp [hy]

theorem set5_other {v : World} {r g : Nat} (h : r ≠ g) (u0 u1 u2 u3 u4 : Value) (j : Nat) : (((((v.setCell ⟨r, 0, none⟩ u0).setCell ⟨r, 1, none⟩ u1).setCell ⟨r, 2, none⟩ u2).setCell ⟨r, 3, none⟩ u3).setCell ⟨r, 4, none⟩ u4).cell? ⟨g, j, none⟩ = v.cell? ⟨g, j, none⟩ := by
  rw [setCell_other (by omega), setCell_other (by omega), setCell_other (by omega), setCell_other (by omega), setCell_other (by omega)]
theorem set5_same {v : World} {r : Nat} {E : TypeId} (h : Row v r E 5) (u0 u1 u2 u3 u4 : Value) : ∀ X, X = ((((v.setCell ⟨r, 0, none⟩ u0).setCell ⟨r, 1, none⟩ u1).setCell ⟨r, 2, none⟩ u2).setCell ⟨r, 3, none⟩ u3).setCell ⟨r, 4, none⟩ u4 → X.cell? ⟨r, 0, none⟩ = some u0 ∧ X.cell? ⟨r, 1, none⟩ = some u1 ∧ X.cell? ⟨r, 2, none⟩ = some u2 ∧ X.cell? ⟨r, 3, none⟩ = some u3 ∧ X.cell? ⟨r, 4, none⟩ = some u4 := by
  obtain ⟨y0, hy0⟩ := h.cell (j := 0) (by omega)
  obtain ⟨y1, hy1⟩ := h.cell (j := 1) (by omega)
  obtain ⟨y2, hy2⟩ := h.cell (j := 2) (by omega)
  obtain ⟨y3, hy3⟩ := h.cell (j := 3) (by omega)
  obtain ⟨y4, hy4⟩ := h.cell (j := 4) (by omega)
  rintro X rfl
  refine ⟨?_, ?_, ?_, ?_, ?_⟩
  · rw [setCell_other (by omega), setCell_other (by omega), setCell_other (by omega), setCell_other (by omega)]
    exact setCell_same hy0
  · rw [setCell_other (by omega), setCell_other (by omega), setCell_other (by omega)]
    exact setCell_same (v := y1) (by rw [setCell_other (by omega)]; exact hy1)
  · rw [setCell_other (by omega), setCell_other (by omega)]
    exact setCell_same (v := y2) (by rw [setCell_other (by omega), setCell_other (by omega)]; exact hy2)
  · rw [setCell_other (by omega)]
    exact setCell_same (v := y3) (by rw [setCell_other (by omega), setCell_other (by omega), setCell_other (by omega)]; exact hy3)
  · exact setCell_same (v := y4) (by rw [setCell_other (by omega), setCell_other (by omega), setCell_other (by omega), setCell_other (by omega)]; exact hy4)
def DrawnJoin (w : World) (e : Ending) (w' : World) : Prop := ∃ (x : PartT) (pA : Option Addr) (pc : Nat) (y : PartT) (pB : Option Addr) (pd : Nat) (kind : Int), e = .returned (.tuple #[argV x pA pc, argV y pB pd, .int .i64 kind]) ∧ x.code.size ≤ 64 ∧ y.code.size ≤ 64 ∧ x.ports.length ≤ 64 ∧ y.ports.length ≤ 64 ∧ -10 ≤ kind ∧ kind ≤ 100 ∧ Rd w' w'.heap.size 3 portC pA x.ports ∧ Rd w' w'.heap.size 3 portC pB y.ports ∧ x.ports.length ≤ pc ∧ y.ports.length ≤ pd ∧ Below w.heap.size w w'

set_option maxHeartbeats 1600000 in
theorem DrawDoJoin_any (A : Option Addr) (c : Nat) (xs : List Int) (w : World) (hr : Rd w w.heap.size 1 uC A xs) (hx : ∀ x ∈ xs, 0 ≤ x ∧ x < 256) (hm : xs.length ≤ 4096) :
    Calls Try.prog 16 #[.slice A xs.length c] w (DrawnJoin w) := by
  have HX := Lib.hid hx; clear hx
  have HR := Lib.hid hr; clear hr
  have HS0 : Hid (∀ v : World, Rd v v.heap.size 1 uC A xs → Calls Try.prog 108 #[.slice A xs.length c] v (MadeSrc v A c xs)) := fun v h => l01From_any A c xs v h HX.out hm
  have HD : Hid (∀ (v : World) (b : Nat), Feed v b A c xs → Calls Try.prog 109 #[.pointer (some ⟨b, 0, none⟩)] v (DrawnPart 64 v b A c xs)) := fun v b h => l16Draw_any A c b xs v h
  have HN : Hid (∀ (v : World) (b : Nat), Src v b A c xs → Rd v b 1 uC A xs → Calls Try.prog 111 #[.pointer (some ⟨b, 0, none⟩), .int .i64 12] v (Drawn v b A c xs 12)) := fun v b h1 h2 => l01Next_any A c b xs 12 v h1 h2 HX.out hm (by omega)
  have HP : Hid (∀ (v : World) (b g : Nat) (z : Int), Src v b A c xs → Rd v b 1 uC A xs → g ≠ b → g < v.heap.size → (∀ k y, [0, 1, 2, 0, 1, z][k]? = some y → v.cell? ⟨g, k, none⟩ = some (.int .i64 y)) → Calls Try.prog 110 #[.pointer (some ⟨b, 0, none⟩), .slice (some ⟨g, 0, none⟩) 6 6] v (Picked v b A c xs [0, 1, 2, 0, 1, z])) := fun v b g z h1 h2 h3 h4 h5 => l01Pick_any A c b g 6 xs [0, 1, 2, 0, 1, z] v h1 h2 HX.out hm h3 h4 h5 (by simp) (by simp)
  go_enter Try.func16, Try.ntmps16
  go_wp2_with fail
  have hbZ : Below w.heap.size w ((w.alloc (.cells #[.string ⟨#[]⟩, .int .i64 0, .slice none 0 0, .int .i64 0, .int .i64 0] 26)).alloc (.cells #[.string ⟨#[]⟩, .int .i64 0, .slice none 0 0, .int .i64 0, .int .i64 0] 26)) := bthen (balloc w _) (balloc _ _)
  have hsZ : ((w.alloc (.cells #[.string ⟨#[]⟩, .int .i64 0, .slice none 0 0, .int .i64 0, .int .i64 0] 26)).alloc (.cells #[.string ⟨#[]⟩, .int .i64 0, .slice none 0 0, .int .i64 0, .int .i64 0] 26)).heap.size = w.heap.size + 2 := by simp
  have hR2 : Row ((w.alloc (.cells #[.string ⟨#[]⟩, .int .i64 0, .slice none 0 0, .int .i64 0, .int .i64 0] 26)).alloc (.cells #[.string ⟨#[]⟩, .int .i64 0, .slice none 0 0, .int .i64 0, .int .i64 0] 26)) w.heap.size 26 5 := (Row.new w #[.string ⟨#[]⟩, .int .i64 0, .slice none 0 0, .int .i64 0, .int .i64 0] 26).alloc _
  have hR3 : Row ((w.alloc (.cells #[.string ⟨#[]⟩, .int .i64 0, .slice none 0 0, .int .i64 0, .int .i64 0] 26)).alloc (.cells #[.string ⟨#[]⟩, .int .i64 0, .slice none 0 0, .int .i64 0, .int .i64 0] 26)) (w.heap.size + 1) 26 5 := (by simpa using Row.new (w.alloc (.cells #[.string ⟨#[]⟩, .int .i64 0, .slice none 0 0, .int .i64 0, .int .i64 0] 26)) #[.string ⟨#[]⟩, .int .i64 0, .slice none 0 0, .int .i64 0, .int .i64 0] 26)
  have hz20 : ((w.alloc (.cells #[.string ⟨#[]⟩, .int .i64 0, .slice none 0 0, .int .i64 0, .int .i64 0] 26)).alloc (.cells #[.string ⟨#[]⟩, .int .i64 0, .slice none 0 0, .int .i64 0, .int .i64 0] 26)).cell? ⟨w.heap.size, 0, none⟩ = some (.string ⟨#[]⟩) := by go_simp
  have hz21 : ((w.alloc (.cells #[.string ⟨#[]⟩, .int .i64 0, .slice none 0 0, .int .i64 0, .int .i64 0] 26)).alloc (.cells #[.string ⟨#[]⟩, .int .i64 0, .slice none 0 0, .int .i64 0, .int .i64 0] 26)).cell? ⟨w.heap.size, 1, none⟩ = some (.int .i64 0) := by go_simp
  have hz22 : ((w.alloc (.cells #[.string ⟨#[]⟩, .int .i64 0, .slice none 0 0, .int .i64 0, .int .i64 0] 26)).alloc (.cells #[.string ⟨#[]⟩, .int .i64 0, .slice none 0 0, .int .i64 0, .int .i64 0] 26)).cell? ⟨w.heap.size, 2, none⟩ = some (.slice none 0 0) := by go_simp
  have hz23 : ((w.alloc (.cells #[.string ⟨#[]⟩, .int .i64 0, .slice none 0 0, .int .i64 0, .int .i64 0] 26)).alloc (.cells #[.string ⟨#[]⟩, .int .i64 0, .slice none 0 0, .int .i64 0, .int .i64 0] 26)).cell? ⟨w.heap.size, 3, none⟩ = some (.int .i64 0) := by go_simp
  have hz24 : ((w.alloc (.cells #[.string ⟨#[]⟩, .int .i64 0, .slice none 0 0, .int .i64 0, .int .i64 0] 26)).alloc (.cells #[.string ⟨#[]⟩, .int .i64 0, .slice none 0 0, .int .i64 0, .int .i64 0] 26)).cell? ⟨w.heap.size, 4, none⟩ = some (.int .i64 0) := by go_simp
  have hz30 : ((w.alloc (.cells #[.string ⟨#[]⟩, .int .i64 0, .slice none 0 0, .int .i64 0, .int .i64 0] 26)).alloc (.cells #[.string ⟨#[]⟩, .int .i64 0, .slice none 0 0, .int .i64 0, .int .i64 0] 26)).cell? ⟨w.heap.size + 1, 0, none⟩ = some (.string ⟨#[]⟩) := by go_simp
  have hz31 : ((w.alloc (.cells #[.string ⟨#[]⟩, .int .i64 0, .slice none 0 0, .int .i64 0, .int .i64 0] 26)).alloc (.cells #[.string ⟨#[]⟩, .int .i64 0, .slice none 0 0, .int .i64 0, .int .i64 0] 26)).cell? ⟨w.heap.size + 1, 1, none⟩ = some (.int .i64 0) := by go_simp
  have hz32 : ((w.alloc (.cells #[.string ⟨#[]⟩, .int .i64 0, .slice none 0 0, .int .i64 0, .int .i64 0] 26)).alloc (.cells #[.string ⟨#[]⟩, .int .i64 0, .slice none 0 0, .int .i64 0, .int .i64 0] 26)).cell? ⟨w.heap.size + 1, 2, none⟩ = some (.slice none 0 0) := by go_simp
  have hz33 : ((w.alloc (.cells #[.string ⟨#[]⟩, .int .i64 0, .slice none 0 0, .int .i64 0, .int .i64 0] 26)).alloc (.cells #[.string ⟨#[]⟩, .int .i64 0, .slice none 0 0, .int .i64 0, .int .i64 0] 26)).cell? ⟨w.heap.size + 1, 3, none⟩ = some (.int .i64 0) := by go_simp
  have hz34 : ((w.alloc (.cells #[.string ⟨#[]⟩, .int .i64 0, .slice none 0 0, .int .i64 0, .int .i64 0] 26)).alloc (.cells #[.string ⟨#[]⟩, .int .i64 0, .slice none 0 0, .int .i64 0, .int .i64 0] 26)).cell? ⟨w.heap.size + 1, 4, none⟩ = some (.int .i64 0) := by go_simp
  generalize (w.alloc (.cells #[.string ⟨#[]⟩, .int .i64 0, .slice none 0 0, .int .i64 0, .int .i64 0] 26)).alloc (.cells #[.string ⟨#[]⟩, .int .i64 0, .slice none 0 0, .int .i64 0, .int .i64 0] 26) = Z0 at *
  generalize hr3 : w.heap.size + 1 = r3 at hR3 hz30 hz31 hz32 hz33 hz34 ⊢
  generalize hr2 : w.heap.size = r2 at hR2 hz20 hz21 hz22 hz23 hz24 ⊢
  refine (HS0.out Z0 (((HR.out.below hbZ).more (by omega)))).mono ?_
  rintro e w1 ⟨b, rfl, hS, hbl, hb1⟩
  have z1 := hb1.size
  have hk1 : ∀ g, g < Z0.heap.size → w1.heap[g]? = Z0.heap[g]? := fun g hg => hb1.block g hg
  have hR21 := hR2.kept (hk1 r2 (by omega))
  have hR31 := hR3.kept (hk1 r3 (by omega))
  replace hz20 := (World.cell?_of_block (a := ⟨r2, 0, none⟩) (hk1 r2 (by omega))).trans hz20
  replace hz21 := (World.cell?_of_block (a := ⟨r2, 1, none⟩) (hk1 r2 (by omega))).trans hz21
  replace hz22 := (World.cell?_of_block (a := ⟨r2, 2, none⟩) (hk1 r2 (by omega))).trans hz22
  replace hz23 := (World.cell?_of_block (a := ⟨r2, 3, none⟩) (hk1 r2 (by omega))).trans hz23
  replace hz24 := (World.cell?_of_block (a := ⟨r2, 4, none⟩) (hk1 r2 (by omega))).trans hz24
  replace hz30 := (World.cell?_of_block (a := ⟨r3, 0, none⟩) (hk1 r3 (by omega))).trans hz30
  replace hz31 := (World.cell?_of_block (a := ⟨r3, 1, none⟩) (hk1 r3 (by omega))).trans hz31
  replace hz32 := (World.cell?_of_block (a := ⟨r3, 2, none⟩) (hk1 r3 (by omega))).trans hz32
  replace hz33 := (World.cell?_of_block (a := ⟨r3, 3, none⟩) (hk1 r3 (by omega))).trans hz33
  replace hz34 := (World.cell?_of_block (a := ⟨r3, 4, none⟩) (hk1 r3 (by omega))).trans hz34
  have hF1 : Hid (Feed w1 b A c xs) := ⟨hS, (HR.out.below (hbZ.trans (hb1.mono (by omega)))).more (by omega), HX.out, hm⟩
  have hbw1 : Below w.heap.size w w1 := hbZ.trans (hb1.mono (by omega))
  clear hk1 hb1
  go_wp2_with fail
  refine (HD.out w1 b hF1.out).mono ?_
  rintro e w2 ⟨x, pA, pc, rfl, x1, x2, hox, hF2, hO2⟩
  have hF2 := Lib.hid hF2
  have z2 := hO2.size
  have hR22 := hR21.kept (hO2.block r2 (by omega) (by omega))
  have hR32 := hR31.kept (hO2.block r3 (by omega) (by omega))
  replace hz20 := (World.cell?_of_block (a := ⟨r2, 0, none⟩) (hO2.block r2 (by omega) (by omega))).trans hz20
  replace hz21 := (World.cell?_of_block (a := ⟨r2, 1, none⟩) (hO2.block r2 (by omega) (by omega))).trans hz21
  replace hz22 := (World.cell?_of_block (a := ⟨r2, 2, none⟩) (hO2.block r2 (by omega) (by omega))).trans hz22
  replace hz23 := (World.cell?_of_block (a := ⟨r2, 3, none⟩) (hO2.block r2 (by omega) (by omega))).trans hz23
  replace hz24 := (World.cell?_of_block (a := ⟨r2, 4, none⟩) (hO2.block r2 (by omega) (by omega))).trans hz24
  replace hz30 := (World.cell?_of_block (a := ⟨r3, 0, none⟩) (hO2.block r3 (by omega) (by omega))).trans hz30
  replace hz31 := (World.cell?_of_block (a := ⟨r3, 1, none⟩) (hO2.block r3 (by omega) (by omega))).trans hz31
  replace hz32 := (World.cell?_of_block (a := ⟨r3, 2, none⟩) (hO2.block r3 (by omega) (by omega))).trans hz32
  replace hz33 := (World.cell?_of_block (a := ⟨r3, 3, none⟩) (hO2.block r3 (by omega) (by omega))).trans hz33
  replace hz34 := (World.cell?_of_block (a := ⟨r3, 4, none⟩) (hO2.block r3 (by omega) (by omega))).trans hz34
  unfold argV
  go_wp2_with fail
  have hr6 : w2.heap.size = w2.heap.size := rfl
  have z3 : (w2.alloc (.cells #[.string x.code, .int .i64 x.slot, .slice pA x.ports.length pc, .int .i64 x.price, .int .i64 x.grams] 26)).heap.size = w2.heap.size + 1 := by simp
  have hO3 : Only b (b + 1) w2 (w2.alloc (.cells #[.string x.code, .int .i64 x.slot, .slice pA x.ports.length pc, .int .i64 x.price, .int .i64 x.grams] 26)) := Only.alloc _
  have hb3 := balloc w2 (.cells #[.string x.code, .int .i64 x.slot, .slice pA x.ports.length pc, .int .i64 x.price, .int .i64 x.grams] 26)
  have hx0 : (w2.alloc (.cells #[.string x.code, .int .i64 x.slot, .slice pA x.ports.length pc, .int .i64 x.price, .int .i64 x.grams] 26)).cell? ⟨w2.heap.size, 0, none⟩ = some (.string x.code) := by go_simp
  have hx1 : (w2.alloc (.cells #[.string x.code, .int .i64 x.slot, .slice pA x.ports.length pc, .int .i64 x.price, .int .i64 x.grams] 26)).cell? ⟨w2.heap.size, 1, none⟩ = some (.int .i64 x.slot) := by go_simp
  have hx2 : (w2.alloc (.cells #[.string x.code, .int .i64 x.slot, .slice pA x.ports.length pc, .int .i64 x.price, .int .i64 x.grams] 26)).cell? ⟨w2.heap.size, 2, none⟩ = some (.slice pA x.ports.length pc) := by go_simp
  have hx3 : (w2.alloc (.cells #[.string x.code, .int .i64 x.slot, .slice pA x.ports.length pc, .int .i64 x.price, .int .i64 x.grams] 26)).cell? ⟨w2.heap.size, 3, none⟩ = some (.int .i64 x.price) := by go_simp
  have hx4 : (w2.alloc (.cells #[.string x.code, .int .i64 x.slot, .slice pA x.ports.length pc, .int .i64 x.price, .int .i64 x.grams] 26)).cell? ⟨w2.heap.size, 4, none⟩ = some (.int .i64 x.grams) := by go_simp
  generalize w2.alloc (.cells #[.string x.code, .int .i64 x.slot, .slice pA x.ports.length pc, .int .i64 x.price, .int .i64 x.grams] 26) = W3 at hO3 z3 hb3 hx0 hx1 hx2 hx3 hx4 ⊢
  generalize hr6 : w2.heap.size = r6 at hx0 hx1 hx2 hx3 hx4 ⊢
  have HF3 := Lib.hid (hF2.out.next hb3)
  have hox3 : Hid (Own W3 w1.heap.size 32 3 portC pA pc x.ports) := hox.only hO3 (by have := hF1.out.src.lt; omega)
  refine (HD.out W3 b HF3.out).mono ?_
  rintro e w4 ⟨y, pB, pd, rfl, y1, y2, hoy, hF4, hO4⟩
  have HF4 := Lib.hid hF4
  clear hF4
  have z4 := hO4.size
  have hb24 := hO3.trans hO4
  replace hz20 := (World.cell?_of_block (a := ⟨r2, 0, none⟩) (hb24.block r2 (by omega) (by omega))).trans hz20
  replace hz21 := (World.cell?_of_block (a := ⟨r2, 1, none⟩) (hb24.block r2 (by omega) (by omega))).trans hz21
  replace hz22 := (World.cell?_of_block (a := ⟨r2, 2, none⟩) (hb24.block r2 (by omega) (by omega))).trans hz22
  replace hz23 := (World.cell?_of_block (a := ⟨r2, 3, none⟩) (hb24.block r2 (by omega) (by omega))).trans hz23
  replace hz24 := (World.cell?_of_block (a := ⟨r2, 4, none⟩) (hb24.block r2 (by omega) (by omega))).trans hz24
  replace hz30 := (World.cell?_of_block (a := ⟨r3, 0, none⟩) (hb24.block r3 (by omega) (by omega))).trans hz30
  replace hz31 := (World.cell?_of_block (a := ⟨r3, 1, none⟩) (hb24.block r3 (by omega) (by omega))).trans hz31
  replace hz32 := (World.cell?_of_block (a := ⟨r3, 2, none⟩) (hb24.block r3 (by omega) (by omega))).trans hz32
  replace hz33 := (World.cell?_of_block (a := ⟨r3, 3, none⟩) (hb24.block r3 (by omega) (by omega))).trans hz33
  replace hz34 := (World.cell?_of_block (a := ⟨r3, 4, none⟩) (hb24.block r3 (by omega) (by omega))).trans hz34
  have hbl2 := hF1.out.src.lt
  replace hx0 := (World.cell?_of_block (a := ⟨r6, 0, none⟩) (hO4.block r6 (by omega) (by omega))).trans hx0
  replace hx1 := (World.cell?_of_block (a := ⟨r6, 1, none⟩) (hO4.block r6 (by omega) (by omega))).trans hx1
  replace hx2 := (World.cell?_of_block (a := ⟨r6, 2, none⟩) (hO4.block r6 (by omega) (by omega))).trans hx2
  replace hx3 := (World.cell?_of_block (a := ⟨r6, 3, none⟩) (hO4.block r6 (by omega) (by omega))).trans hx3
  replace hx4 := (World.cell?_of_block (a := ⟨r6, 4, none⟩) (hO4.block r6 (by omega) (by omega))).trans hx4
  unfold argV
  go_wp2_with fail
  have z5 : (w4.alloc (.cells #[.string y.code, .int .i64 y.slot, .slice pB y.ports.length pd, .int .i64 y.price, .int .i64 y.grams] 26)).heap.size = w4.heap.size + 1 := by simp
  have hO5 : Only b (b + 1) w4 (w4.alloc (.cells #[.string y.code, .int .i64 y.slot, .slice pB y.ports.length pd, .int .i64 y.price, .int .i64 y.grams] 26)) := Only.alloc _
  have hb5 := balloc w4 (.cells #[.string y.code, .int .i64 y.slot, .slice pB y.ports.length pd, .int .i64 y.price, .int .i64 y.grams] 26)
  have hy0 : (w4.alloc (.cells #[.string y.code, .int .i64 y.slot, .slice pB y.ports.length pd, .int .i64 y.price, .int .i64 y.grams] 26)).cell? ⟨w4.heap.size, 0, none⟩ = some (.string y.code) := by go_simp
  have hy1 : (w4.alloc (.cells #[.string y.code, .int .i64 y.slot, .slice pB y.ports.length pd, .int .i64 y.price, .int .i64 y.grams] 26)).cell? ⟨w4.heap.size, 1, none⟩ = some (.int .i64 y.slot) := by go_simp
  have hy2 : (w4.alloc (.cells #[.string y.code, .int .i64 y.slot, .slice pB y.ports.length pd, .int .i64 y.price, .int .i64 y.grams] 26)).cell? ⟨w4.heap.size, 2, none⟩ = some (.slice pB y.ports.length pd) := by go_simp
  have hy3 : (w4.alloc (.cells #[.string y.code, .int .i64 y.slot, .slice pB y.ports.length pd, .int .i64 y.price, .int .i64 y.grams] 26)).cell? ⟨w4.heap.size, 3, none⟩ = some (.int .i64 y.price) := by go_simp
  have hy4 : (w4.alloc (.cells #[.string y.code, .int .i64 y.slot, .slice pB y.ports.length pd, .int .i64 y.price, .int .i64 y.grams] 26)).cell? ⟨w4.heap.size, 4, none⟩ = some (.int .i64 y.grams) := by go_simp
  generalize w4.alloc (.cells #[.string y.code, .int .i64 y.slot, .slice pB y.ports.length pd, .int .i64 y.price, .int .i64 y.grams] 26) = W5 at hO5 z5 hb5 hy0 hy1 hy2 hy3 hy4 ⊢
  generalize hr7 : w4.heap.size = r7 at hy0 hy1 hy2 hy3 hy4 ⊢
  replace hz20 := (World.cell?_of_block (a := ⟨r2, 0, none⟩) (hO5.block r2 (by omega) (by omega))).trans hz20
  replace hz21 := (World.cell?_of_block (a := ⟨r2, 1, none⟩) (hO5.block r2 (by omega) (by omega))).trans hz21
  replace hz22 := (World.cell?_of_block (a := ⟨r2, 2, none⟩) (hO5.block r2 (by omega) (by omega))).trans hz22
  replace hz23 := (World.cell?_of_block (a := ⟨r2, 3, none⟩) (hO5.block r2 (by omega) (by omega))).trans hz23
  replace hz24 := (World.cell?_of_block (a := ⟨r2, 4, none⟩) (hO5.block r2 (by omega) (by omega))).trans hz24
  replace hz30 := (World.cell?_of_block (a := ⟨r3, 0, none⟩) (hO5.block r3 (by omega) (by omega))).trans hz30
  replace hz31 := (World.cell?_of_block (a := ⟨r3, 1, none⟩) (hO5.block r3 (by omega) (by omega))).trans hz31
  replace hz32 := (World.cell?_of_block (a := ⟨r3, 2, none⟩) (hO5.block r3 (by omega) (by omega))).trans hz32
  replace hz33 := (World.cell?_of_block (a := ⟨r3, 3, none⟩) (hO5.block r3 (by omega) (by omega))).trans hz33
  replace hz34 := (World.cell?_of_block (a := ⟨r3, 4, none⟩) (hO5.block r3 (by omega) (by omega))).trans hz34
  replace hx0 := (World.cell?_of_block (a := ⟨r6, 0, none⟩) (hO5.block r6 (by omega) (by omega))).trans hx0
  replace hx1 := (World.cell?_of_block (a := ⟨r6, 1, none⟩) (hO5.block r6 (by omega) (by omega))).trans hx1
  replace hx2 := (World.cell?_of_block (a := ⟨r6, 2, none⟩) (hO5.block r6 (by omega) (by omega))).trans hx2
  replace hx3 := (World.cell?_of_block (a := ⟨r6, 3, none⟩) (hO5.block r6 (by omega) (by omega))).trans hx3
  replace hx4 := (World.cell?_of_block (a := ⟨r6, 4, none⟩) (hO5.block r6 (by omega) (by omega))).trans hx4
  have hR25 := hR22.kept ((hO5.block r2 (by omega) (by omega)).trans (hb24.block r2 (by omega) (by omega)))
  have hR35 := hR32.kept ((hO5.block r3 (by omega) (by omega)).trans (hb24.block r3 (by omega) (by omega)))
  have hJ : Hid (JoinIn w W5 w1.heap.size r2 r3 r6 r7 b A c xs x.ports y.ports pA pB pc pd) :=
    ⟨HF4.out.src.next hb5, ((hbw1.trans ((hO2.trans hb24).below (by omega) (by omega))).trans (hb5.mono (by omega))), (hox3.out.only hO4 (by omega)).only hO5 (by omega), (hoy.base (by omega)).only hO5 (by omega), by omega, by omega, by omega, by omega, by omega, hbl2, by omega, by omega, by omega, hR25, hR35⟩
  have f20 := hR25.frozen 0
  have f21 := hR25.frozen 1
  have f22 := hR25.frozen 2
  have f23 := hR25.frozen 3
  have f24 := hR25.frozen 4
  have f30 := hR35.frozen 0
  have f31 := hR35.frozen 1
  have f32 := hR35.frozen 2
  have f33 := hR35.frozen 3
  have f34 := hR35.frozen 4
  have hs5 : r7 < W5.heap.size := by omega
  have hb7 : b < r7 := by omega
  have hr67 : r6 < r7 := by omega
  have h26 : r2 < r6 := by omega
  have h36 : r3 < r6 := by omega
  have h2b : r2 < b := by omega
  have h3b : r3 < b := by omega
  have h6b : b < r6 := by omega
  have n23 : ¬ r2 = r3 := by omega
  have n32 : ¬ r3 = r2 := by omega
  have m26 : ¬ r2 = r6 := by omega
  have m62 : ¬ r6 = r2 := by omega
  have m27 : ¬ r2 = r7 := by omega
  have m72 : ¬ r7 = r2 := by omega
  have m36 : ¬ r3 = r6 := by omega
  have m63 : ¬ r6 = r3 := by omega
  have m37 : ¬ r3 = r7 := by omega
  have m73 : ¬ r7 = r3 := by omega
  have HL1 := Lib.hid hox.1
  have HL2 := Lib.hid hoy.1
  clear hb24 hO5 hO4 hO3 hO2 hox hoy hox3 HF3 HF4 hF1 hR2 hR3 hR21 hR31 hR22 hR32 hR25 hR35 hb5 hb3 hbw1 hbZ hr6 hr7 hr2 hr3 HD HS0 z1 z2 z3 z4 z5 hF2 hS hsZ hbl
  have HNJ : Hid (∀ v : World, JoinIn w v w1.heap.size r2 r3 r6 r7 b A c xs x.ports y.ports pA pB pc pd → Calls Try.prog 111 #[.pointer (some ⟨b, 0, none⟩), .int .i64 12] v (TurnJ w w1.heap.size r2 r3 r6 r7 b A c xs x.ports y.ports pA pB pc pd 0 11 v)) := fun v hj => (HN.out v b hj.src (hj.rd HR.out)).mono (by
    rintro e w' ⟨z, rfl, a0, a1, _, hS, hO⟩
    have := a1 (by omega)
    exact hj.turnJ hS hO a0 (by omega))
  have HPJ : Hid (∀ (v : World) (g : Nat) (z : Int), 0 ≤ z → z ≤ 11 → JoinIn w v w1.heap.size r2 r3 r6 r7 b A c xs x.ports y.ports pA pB pc pd → g ≠ b → g < v.heap.size → (∀ k y, [0, 1, 2, 0, 1, z - 1][k]? = some y → v.cell? ⟨g, k, none⟩ = some (.int .i64 y)) → Calls Try.prog 110 #[.pointer (some ⟨b, 0, none⟩), .slice (some ⟨g, 0, none⟩) 6 6] v (TurnJ w w1.heap.size r2 r3 r6 r7 b A c xs x.ports y.ports pA pB pc pd (-10) 100 v)) := fun v g z z0 z1 hj h3 h4 h5 => (HP.out v b g (z - 1) hj.src (hj.rd HR.out) h3 h4 h5).mono (by
    rintro e w' ⟨z', hz', rfl, hS, hO⟩
    have : -1 ≤ z' ∧ z' ≤ 11 := by
      simp only [List.mem_cons, List.not_mem_nil, or_false] at hz'
      omega
    exact hj.turnJ hS hO (by omega) (by omega))
  clear HN HP HR HX
  generalize hB : w1.heap.size = B at HNJ HPJ hJ
  go_wp2_with fail
  have HKS : Hid (∀ v w' : World, (∀ j, w'.cell? ⟨r6, j, none⟩ = v.cell? ⟨r6, j, none⟩) → (∀ j, w'.cell? ⟨r7, j, none⟩ = v.cell? ⟨r7, j, none⟩) → (v.cell? ⟨r6, 0, none⟩ = some (.string x.code) ∧ v.cell? ⟨r6, 1, none⟩ = some (.int .i64 x.slot) ∧ v.cell? ⟨r6, 2, none⟩ = some (.slice pA x.ports.length pc) ∧ v.cell? ⟨r6, 3, none⟩ = some (.int .i64 x.price) ∧ v.cell? ⟨r6, 4, none⟩ = some (.int .i64 x.grams) ∧ v.cell? ⟨r7, 0, none⟩ = some (.string y.code) ∧ v.cell? ⟨r7, 1, none⟩ = some (.int .i64 y.slot) ∧ v.cell? ⟨r7, 2, none⟩ = some (.slice pB y.ports.length pd) ∧ v.cell? ⟨r7, 3, none⟩ = some (.int .i64 y.price) ∧ v.cell? ⟨r7, 4, none⟩ = some (.int .i64 y.grams)) → (w'.cell? ⟨r6, 0, none⟩ = some (.string x.code) ∧ w'.cell? ⟨r6, 1, none⟩ = some (.int .i64 x.slot) ∧ w'.cell? ⟨r6, 2, none⟩ = some (.slice pA x.ports.length pc) ∧ w'.cell? ⟨r6, 3, none⟩ = some (.int .i64 x.price) ∧ w'.cell? ⟨r6, 4, none⟩ = some (.int .i64 x.grams) ∧ w'.cell? ⟨r7, 0, none⟩ = some (.string y.code) ∧ w'.cell? ⟨r7, 1, none⟩ = some (.int .i64 y.slot) ∧ w'.cell? ⟨r7, 2, none⟩ = some (.slice pB y.ports.length pd) ∧ w'.cell? ⟨r7, 3, none⟩ = some (.int .i64 y.price) ∧ w'.cell? ⟨r7, 4, none⟩ = some (.int .i64 y.grams))) := fun v w' h6 h7 hv => by
    simp only [h6, h7]
    exact hv
  have HS5 : Hid (W5.drew.cell? ⟨r6, 0, none⟩ = some (.string x.code) ∧ W5.drew.cell? ⟨r6, 1, none⟩ = some (.int .i64 x.slot) ∧ W5.drew.cell? ⟨r6, 2, none⟩ = some (.slice pA x.ports.length pc) ∧ W5.drew.cell? ⟨r6, 3, none⟩ = some (.int .i64 x.price) ∧ W5.drew.cell? ⟨r6, 4, none⟩ = some (.int .i64 x.grams) ∧ W5.drew.cell? ⟨r7, 0, none⟩ = some (.string y.code) ∧ W5.drew.cell? ⟨r7, 1, none⟩ = some (.int .i64 y.slot) ∧ W5.drew.cell? ⟨r7, 2, none⟩ = some (.slice pB y.ports.length pd) ∧ W5.drew.cell? ⟨r7, 3, none⟩ = some (.int .i64 y.price) ∧ W5.drew.cell? ⟨r7, 4, none⟩ = some (.int .i64 y.grams)) := HKS.out W5 _ (fun j => by simp) (fun j => by simp) ⟨hx0, hx1, hx2, hx3, hx4, hy0, hy1, hy2, hy3, hy4⟩
  have HQ2 : Hid (∀ (v : World) (u0 u1 u2 u3 u4 : Value), (v.cell? ⟨r6, 0, none⟩ = some (.string x.code) ∧ v.cell? ⟨r6, 1, none⟩ = some (.int .i64 x.slot) ∧ v.cell? ⟨r6, 2, none⟩ = some (.slice pA x.ports.length pc) ∧ v.cell? ⟨r6, 3, none⟩ = some (.int .i64 x.price) ∧ v.cell? ⟨r6, 4, none⟩ = some (.int .i64 x.grams) ∧ v.cell? ⟨r7, 0, none⟩ = some (.string y.code) ∧ v.cell? ⟨r7, 1, none⟩ = some (.int .i64 y.slot) ∧ v.cell? ⟨r7, 2, none⟩ = some (.slice pB y.ports.length pd) ∧ v.cell? ⟨r7, 3, none⟩ = some (.int .i64 y.price) ∧ v.cell? ⟨r7, 4, none⟩ = some (.int .i64 y.grams)) → ((((((v.setCell ⟨r2, 0, none⟩ (u0)).setCell ⟨r2, 1, none⟩ (u1)).setCell ⟨r2, 2, none⟩ (u2)).setCell ⟨r2, 3, none⟩ (u3)).setCell ⟨r2, 4, none⟩ (u4)).cell? ⟨r6, 0, none⟩ = some (.string x.code) ∧ (((((v.setCell ⟨r2, 0, none⟩ (u0)).setCell ⟨r2, 1, none⟩ (u1)).setCell ⟨r2, 2, none⟩ (u2)).setCell ⟨r2, 3, none⟩ (u3)).setCell ⟨r2, 4, none⟩ (u4)).cell? ⟨r6, 1, none⟩ = some (.int .i64 x.slot) ∧ (((((v.setCell ⟨r2, 0, none⟩ (u0)).setCell ⟨r2, 1, none⟩ (u1)).setCell ⟨r2, 2, none⟩ (u2)).setCell ⟨r2, 3, none⟩ (u3)).setCell ⟨r2, 4, none⟩ (u4)).cell? ⟨r6, 2, none⟩ = some (.slice pA x.ports.length pc) ∧ (((((v.setCell ⟨r2, 0, none⟩ (u0)).setCell ⟨r2, 1, none⟩ (u1)).setCell ⟨r2, 2, none⟩ (u2)).setCell ⟨r2, 3, none⟩ (u3)).setCell ⟨r2, 4, none⟩ (u4)).cell? ⟨r6, 3, none⟩ = some (.int .i64 x.price) ∧ (((((v.setCell ⟨r2, 0, none⟩ (u0)).setCell ⟨r2, 1, none⟩ (u1)).setCell ⟨r2, 2, none⟩ (u2)).setCell ⟨r2, 3, none⟩ (u3)).setCell ⟨r2, 4, none⟩ (u4)).cell? ⟨r6, 4, none⟩ = some (.int .i64 x.grams) ∧ (((((v.setCell ⟨r2, 0, none⟩ (u0)).setCell ⟨r2, 1, none⟩ (u1)).setCell ⟨r2, 2, none⟩ (u2)).setCell ⟨r2, 3, none⟩ (u3)).setCell ⟨r2, 4, none⟩ (u4)).cell? ⟨r7, 0, none⟩ = some (.string y.code) ∧ (((((v.setCell ⟨r2, 0, none⟩ (u0)).setCell ⟨r2, 1, none⟩ (u1)).setCell ⟨r2, 2, none⟩ (u2)).setCell ⟨r2, 3, none⟩ (u3)).setCell ⟨r2, 4, none⟩ (u4)).cell? ⟨r7, 1, none⟩ = some (.int .i64 y.slot) ∧ (((((v.setCell ⟨r2, 0, none⟩ (u0)).setCell ⟨r2, 1, none⟩ (u1)).setCell ⟨r2, 2, none⟩ (u2)).setCell ⟨r2, 3, none⟩ (u3)).setCell ⟨r2, 4, none⟩ (u4)).cell? ⟨r7, 2, none⟩ = some (.slice pB y.ports.length pd) ∧ (((((v.setCell ⟨r2, 0, none⟩ (u0)).setCell ⟨r2, 1, none⟩ (u1)).setCell ⟨r2, 2, none⟩ (u2)).setCell ⟨r2, 3, none⟩ (u3)).setCell ⟨r2, 4, none⟩ (u4)).cell? ⟨r7, 3, none⟩ = some (.int .i64 y.price) ∧ (((((v.setCell ⟨r2, 0, none⟩ (u0)).setCell ⟨r2, 1, none⟩ (u1)).setCell ⟨r2, 2, none⟩ (u2)).setCell ⟨r2, 3, none⟩ (u3)).setCell ⟨r2, 4, none⟩ (u4)).cell? ⟨r7, 4, none⟩ = some (.int .i64 y.grams))) := fun v u0 u1 u2 u3 u4 hv => HKS.out v _ (set5_other (by omega) u0 u1 u2 u3 u4) (set5_other (by omega) u0 u1 u2 u3 u4) hv
  have HQ3 : Hid (∀ (v : World) (u0 u1 u2 u3 u4 : Value), (v.cell? ⟨r6, 0, none⟩ = some (.string x.code) ∧ v.cell? ⟨r6, 1, none⟩ = some (.int .i64 x.slot) ∧ v.cell? ⟨r6, 2, none⟩ = some (.slice pA x.ports.length pc) ∧ v.cell? ⟨r6, 3, none⟩ = some (.int .i64 x.price) ∧ v.cell? ⟨r6, 4, none⟩ = some (.int .i64 x.grams) ∧ v.cell? ⟨r7, 0, none⟩ = some (.string y.code) ∧ v.cell? ⟨r7, 1, none⟩ = some (.int .i64 y.slot) ∧ v.cell? ⟨r7, 2, none⟩ = some (.slice pB y.ports.length pd) ∧ v.cell? ⟨r7, 3, none⟩ = some (.int .i64 y.price) ∧ v.cell? ⟨r7, 4, none⟩ = some (.int .i64 y.grams)) → ((((((v.setCell ⟨r3, 0, none⟩ (u0)).setCell ⟨r3, 1, none⟩ (u1)).setCell ⟨r3, 2, none⟩ (u2)).setCell ⟨r3, 3, none⟩ (u3)).setCell ⟨r3, 4, none⟩ (u4)).cell? ⟨r6, 0, none⟩ = some (.string x.code) ∧ (((((v.setCell ⟨r3, 0, none⟩ (u0)).setCell ⟨r3, 1, none⟩ (u1)).setCell ⟨r3, 2, none⟩ (u2)).setCell ⟨r3, 3, none⟩ (u3)).setCell ⟨r3, 4, none⟩ (u4)).cell? ⟨r6, 1, none⟩ = some (.int .i64 x.slot) ∧ (((((v.setCell ⟨r3, 0, none⟩ (u0)).setCell ⟨r3, 1, none⟩ (u1)).setCell ⟨r3, 2, none⟩ (u2)).setCell ⟨r3, 3, none⟩ (u3)).setCell ⟨r3, 4, none⟩ (u4)).cell? ⟨r6, 2, none⟩ = some (.slice pA x.ports.length pc) ∧ (((((v.setCell ⟨r3, 0, none⟩ (u0)).setCell ⟨r3, 1, none⟩ (u1)).setCell ⟨r3, 2, none⟩ (u2)).setCell ⟨r3, 3, none⟩ (u3)).setCell ⟨r3, 4, none⟩ (u4)).cell? ⟨r6, 3, none⟩ = some (.int .i64 x.price) ∧ (((((v.setCell ⟨r3, 0, none⟩ (u0)).setCell ⟨r3, 1, none⟩ (u1)).setCell ⟨r3, 2, none⟩ (u2)).setCell ⟨r3, 3, none⟩ (u3)).setCell ⟨r3, 4, none⟩ (u4)).cell? ⟨r6, 4, none⟩ = some (.int .i64 x.grams) ∧ (((((v.setCell ⟨r3, 0, none⟩ (u0)).setCell ⟨r3, 1, none⟩ (u1)).setCell ⟨r3, 2, none⟩ (u2)).setCell ⟨r3, 3, none⟩ (u3)).setCell ⟨r3, 4, none⟩ (u4)).cell? ⟨r7, 0, none⟩ = some (.string y.code) ∧ (((((v.setCell ⟨r3, 0, none⟩ (u0)).setCell ⟨r3, 1, none⟩ (u1)).setCell ⟨r3, 2, none⟩ (u2)).setCell ⟨r3, 3, none⟩ (u3)).setCell ⟨r3, 4, none⟩ (u4)).cell? ⟨r7, 1, none⟩ = some (.int .i64 y.slot) ∧ (((((v.setCell ⟨r3, 0, none⟩ (u0)).setCell ⟨r3, 1, none⟩ (u1)).setCell ⟨r3, 2, none⟩ (u2)).setCell ⟨r3, 3, none⟩ (u3)).setCell ⟨r3, 4, none⟩ (u4)).cell? ⟨r7, 2, none⟩ = some (.slice pB y.ports.length pd) ∧ (((((v.setCell ⟨r3, 0, none⟩ (u0)).setCell ⟨r3, 1, none⟩ (u1)).setCell ⟨r3, 2, none⟩ (u2)).setCell ⟨r3, 3, none⟩ (u3)).setCell ⟨r3, 4, none⟩ (u4)).cell? ⟨r7, 3, none⟩ = some (.int .i64 y.price) ∧ (((((v.setCell ⟨r3, 0, none⟩ (u0)).setCell ⟨r3, 1, none⟩ (u1)).setCell ⟨r3, 2, none⟩ (u2)).setCell ⟨r3, 3, none⟩ (u3)).setCell ⟨r3, 4, none⟩ (u4)).cell? ⟨r7, 4, none⟩ = some (.int .i64 y.grams))) := fun v u0 u1 u2 u3 u4 hv => HKS.out v _ (set5_other (by omega) u0 u1 u2 u3 u4) (set5_other (by omega) u0 u1 u2 u3 u4) hv
  clear hx0 hx1 hx2 hx3 hx4 hy0 hy1 hy2 hy3 hy4 hz20 hz21 hz22 hz23 hz24 hz30 hz31 hz32 hz33 hz34 f20 f21 f22 f23 f24 f30 f31 f32 f33 f34
  go_region_held3 (fun w' => w'.cell? ⟨r6, 0, none⟩ = some (.string x.code) ∧ w'.cell? ⟨r6, 1, none⟩ = some (.int .i64 x.slot) ∧ w'.cell? ⟨r6, 2, none⟩ = some (.slice pA x.ports.length pc) ∧ w'.cell? ⟨r6, 3, none⟩ = some (.int .i64 x.price) ∧ w'.cell? ⟨r6, 4, none⟩ = some (.int .i64 x.grams) ∧ w'.cell? ⟨r7, 0, none⟩ = some (.string y.code) ∧ w'.cell? ⟨r7, 1, none⟩ = some (.int .i64 y.slot) ∧ w'.cell? ⟨r7, 2, none⟩ = some (.slice pB y.ports.length pd) ∧ w'.cell? ⟨r7, 3, none⟩ = some (.int .i64 y.price) ∧ w'.cell? ⟨r7, 4, none⟩ = some (.int .i64 y.grams)) (with_reducible first
    | exact HS5.out
    | exact HQ2.out _ _ _ _ _ _ ‹_ ∧ _›
    | exact HQ3.out _ _ _ _ _ _ ‹_ ∧ _›
    | exact HKS.out _ _ k76 k77 ‹_ ∧ _›
    | exact HKS.out _ _ k66 k67 ‹_ ∧ _›
    | exact HKS.out w6 _ (fun j => (balloc w6 _).cell (p := ⟨r6, j, none⟩) n66) (fun j => (balloc w6 _).cell (p := ⟨r7, j, none⟩) n67) ‹_ ∧ _›) (first
    | (go_at_call 111; refine (HNJ.out _ (by (repeat (first | exact HJ7.out | exact HJ6.out | exact hJ.out | refine JoinIn.set ?_ (Or.inl rfl) _ | refine JoinIn.set ?_ (Or.inr rfl) _ | refine JoinIn.next ?_ (balloc _ _) | refine JoinIn.next ?_ (bdrew _))))).mono ?_; rintro e w6 ⟨z6, rfl, a60, a61, hj6, s6, k62, k63, k66, k67⟩; clear k62 k63; have HJ6 := Lib.hid hj6; clear hj6; have hw6 : IntKind.i64.wrap (z6 - 1) = z6 - 1 := IntWalk.i64_in _ (by omega); have n67 := HJ6.out.r7w; have n66 : r6 < w6.heap.size := (by omega))
    | (go_at_call 110; refine (HPJ.out _ _ z6 a60 a61 (by (repeat (first | exact HJ7.out | exact HJ6.out | exact hJ.out | refine JoinIn.set ?_ (Or.inl rfl) _ | refine JoinIn.set ?_ (Or.inr rfl) _ | refine JoinIn.next ?_ (balloc _ _) | refine JoinIn.next ?_ (bdrew _)))) (by first | omega | (simp; omega)) (by simp) (by repeat (first | exact tab_new _ _ [0, 1, 2, 0, 1, z6 - 1] (by first | rfl | simp) | refine tab_set ?_ (by first | omega | (simp; omega)) _))).mono ?_; rintro e w7 ⟨z7, rfl, a70, a71, hj7, s7, k72, k73, k76, k77⟩; clear k72 k73; have HJ7 := Lib.hid hj7; clear hj7; obtain ⟨v20, c720⟩ := HJ7.out.row2.cell (j := 0) (by omega); obtain ⟨v21, c721⟩ := HJ7.out.row2.cell (j := 1) (by omega); obtain ⟨v22, c722⟩ := HJ7.out.row2.cell (j := 2) (by omega); obtain ⟨v23, c723⟩ := HJ7.out.row2.cell (j := 3) (by omega); obtain ⟨v24, c724⟩ := HJ7.out.row2.cell (j := 4) (by omega); obtain ⟨v30, c730⟩ := HJ7.out.row3.cell (j := 0) (by omega); obtain ⟨v31, c731⟩ := HJ7.out.row3.cell (j := 1) (by omega); obtain ⟨v32, c732⟩ := HJ7.out.row3.cell (j := 2) (by omega); obtain ⟨v33, c733⟩ := HJ7.out.row3.cell (j := 3) (by omega); obtain ⟨v34, c734⟩ := HJ7.out.row3.cell (j := 4) (by omega); have f720 := HJ7.out.row2.frozen 0; have f721 := HJ7.out.row2.frozen 1; have f722 := HJ7.out.row2.frozen 2; have f723 := HJ7.out.row2.frozen 3; have f724 := HJ7.out.row2.frozen 4; have f730 := HJ7.out.row3.frozen 0; have f731 := HJ7.out.row3.frozen 1; have f732 := HJ7.out.row3.frozen 2; have f733 := HJ7.out.row3.frozen 3; have f734 := HJ7.out.row3.frozen 4))
  go_wp2_with fail
  have hX2 := set5_same HJ7.out.row2 (.string x.code) (.int .i64 x.slot) (.slice pA x.ports.length pc) (.int .i64 x.price) (.int .i64 x.grams) _ rfl
  have hJX2 : JoinIn w ((((((w7.setCell ⟨r2, 0, none⟩ (.string x.code)).setCell ⟨r2, 1, none⟩ (.int .i64 x.slot)).setCell ⟨r2, 2, none⟩ (.slice pA x.ports.length pc)).setCell ⟨r2, 3, none⟩ (.int .i64 x.price)).setCell ⟨r2, 4, none⟩ (.int .i64 x.grams))) B r2 r3 r6 r7 b A c xs x.ports y.ports pA pB pc pd := ((((HJ7.out.set (p := ⟨r2, 0, none⟩) (Or.inl rfl) _).set (p := ⟨r2, 1, none⟩) (Or.inl rfl) _).set (p := ⟨r2, 2, none⟩) (Or.inl rfl) _).set (p := ⟨r2, 3, none⟩) (Or.inl rfl) _).set (p := ⟨r2, 4, none⟩) (Or.inl rfl) _
  generalize hY : (((((w7.setCell ⟨r2, 0, none⟩ (.string x.code)).setCell ⟨r2, 1, none⟩ (.int .i64 x.slot)).setCell ⟨r2, 2, none⟩ (.slice pA x.ports.length pc)).setCell ⟨r2, 3, none⟩ (.int .i64 x.price)).setCell ⟨r2, 4, none⟩ (.int .i64 x.grams)) = Y at hX2 hJX2 ⊢
  have hX3 := set5_same hJX2.row3 (.string y.code) (.int .i64 y.slot) (.slice pB y.ports.length pd) (.int .i64 y.price) (.int .i64 y.grams) _ rfl
  have hJX3 : JoinIn w ((((((Y.setCell ⟨r3, 0, none⟩ (.string y.code)).setCell ⟨r3, 1, none⟩ (.int .i64 y.slot)).setCell ⟨r3, 2, none⟩ (.slice pB y.ports.length pd)).setCell ⟨r3, 3, none⟩ (.int .i64 y.price)).setCell ⟨r3, 4, none⟩ (.int .i64 y.grams))) B r2 r3 r6 r7 b A c xs x.ports y.ports pA pB pc pd := ((((hJX2.set (p := ⟨r3, 0, none⟩) (Or.inr rfl) _).set (p := ⟨r3, 1, none⟩) (Or.inr rfl) _).set (p := ⟨r3, 2, none⟩) (Or.inr rfl) _).set (p := ⟨r3, 3, none⟩) (Or.inr rfl) _).set (p := ⟨r3, 4, none⟩) (Or.inr rfl) _
  have hK2 := fun j => set5_other (v := Y) (r := r3) (g := r2) (by omega) (.string y.code) (.int .i64 y.slot) (.slice pB y.ports.length pd) (.int .i64 y.price) (.int .i64 y.grams) j
  generalize (((((Y.setCell ⟨r3, 0, none⟩ (.string y.code)).setCell ⟨r3, 1, none⟩ (.int .i64 y.slot)).setCell ⟨r3, 2, none⟩ (.slice pB y.ports.length pd)).setCell ⟨r3, 3, none⟩ (.int .i64 y.price)).setCell ⟨r3, 4, none⟩ (.int .i64 y.grams)) = Z at hX3 hJX3 hK2 ⊢
  obtain ⟨a0, a1, a2, a3, a4⟩ := hX2
  obtain ⟨e0, e1, e2, e3, e4⟩ := hX3
  have d0 := (hK2 0).trans a0
  have d1 := (hK2 1).trans a1
  have d2 := (hK2 2).trans a2
  have d3 := (hK2 3).trans a3
  have d4 := (hK2 4).trans a4
  refine bodyPost_ret (v := .tuple #[argV x pA pc, argV y pB pd, .int .i64 z7]) (by simp [results, Try.results16, go_sem, argV, d0, d1, d2, d3, d4, e0, e1, e2, e3, e4]) rfl ?_
  exact ⟨x, pA, pc, y, pB, pd, z7, rfl, x1, y1, x2, y2, a70, a71, (hJX3.xo.flat portC_len3).rd, (hJX3.yo.flat portC_len3).rd, hJX3.xo.cap, hJX3.yo.cap, hJX3.below⟩
end Go.Proofs.Ytpdkhmnbabccnaa
