/- DERIVED. The law on bicycles: needed parts are usable, and the cheapest bicycle with a part is not cheaper than the cheapest one. By program (laws18b2.py). -/
import Derived.Test.YtlhbjgbkpjlacaaDraw4
import Derived.Test.YtlhbjgbkpjlacaaOwn3
import Derived.Test.YtlhbjgbkpjlacaaPartV
import Derived.Test.YtlhbjgbkpjlacaaOwn2
import Derived.Test.YtlhbjgbkpjlacaaKitPart
import Derived.Test.YtlhbjgbkpjlacaaFind
import Derived.Test.YtlhbjgbkpjlacaaIdx
import Derived.Test.YtlhbjgbkpjlacaaFlJoint
import Derived.Test.YtlhbjgbkpjlacaaDraw3
import Derived.Test.YtlhbjgbkpjlacaaJList
import Derived.Test.YtlhbjgbkpjlacaaSrch
import Derived.Test.YtlhbjgbkpjlacaaBest18
import Derived.Test.YtlhbjgbkpjlacaaSl
import Derived.Test.YtlhbjgbkpjlacaaDraw
import Derived.Test.YtlhbjgbkpjlacaaOpen
import Derived.Test.YtlhbjgbkpjlacaaHead
import Derived.Test.YtlhbjgbkpjlacaaSums
import Derived.Deep.RegionHeld3
import Derived.Deep.RegionLaw
import Derived.Deep.CutRange
import Derived.Lib.SmallJoins
import Derived.Deep.Slices
import Derived.Deep.Fields
import Derived.ChangeMaps5
import Derived.Carry
import Derived.Deep.DeepCutAuto

namespace Go.Proofs.Ytlhbjgbkpjlacaa
set_option maxRecDepth 100000
open Go.RowKit

theorem Own.setAt {α : Type} {w : World} {base sz c lo hi : Nat} {E : TypeId} {f : α → List Value} {A : Option Addr} {xs : List α} {w' : World} (h : Own w base E sz f A c xs) (ho : Only lo hi w w') (hh : hi ≤ base) : Own w' base E sz f A c xs := h.only ho hh
/-- A list that grows, a source in hand; below the base nothing but the source turns. -/
structure GrowSt {α : Type} (V w : World) (b : Nat) (A : Option Addr) (c : Nat) (xs : List Int) (E : TypeId) (sz : Nat) (f : α → List Value) (LA : Option Addr) (lc : Nat) (ms : List α) : Prop where
  feed : Feed w b A c xs
  own : Own w V.heap.size E sz f LA lc ms
  old : Only b (b + 1) V w
  lt : b < V.heap.size
section
variable {α : Type} {V w w' : World} {b c lc sz : Nat} {A LA : Option Addr} {xs : List Int} {E : TypeId} {f : α → List Value} {ms : List α}
theorem GrowSt.made (hF : Feed w b A c xs) : GrowSt w (w.alloc (.cells #[] E)) b A c xs E sz f (some ⟨w.heap.size, 0, none⟩) 0 ([] : List α) :=
  ⟨hF.next (balloc _ _), Own.made _ (Nat.le_refl _) rfl, Only.alloc _, hF.src.lt⟩
theorem GrowSt.turn (h : GrowSt V w b A c xs E sz f LA lc ms) (hF : Feed w' b A c xs) (hO : Only b (b + 1) w w') : GrowSt V w' b A c xs E sz f LA lc ms := by
  have := h.lt
  exact ⟨hF, h.own.only hO (by omega), h.old.trans hO, h.lt⟩
theorem GrowSt.next (h : GrowSt V w b A c xs E sz f LA lc ms) (hb : Below w.heap.size w w') : GrowSt V w' b A c xs E sz f LA lc ms := h.turn (h.feed.next hb) (Only.of_below hb)
/-- One more. -/
theorem GrowSt.grow {w4 : World} {m : α} {A2 : Option Addr} {c2 : Nat} {o : Obj} (h : GrowSt V w b A c xs E sz f LA lc ms) (hown : Own w4 V.heap.size E sz f A2 c2 (ms ++ [m])) (hb4 : Below V.heap.size (w.alloc o) w4) : GrowSt V w4 b A c xs E sz f A2 c2 (ms ++ [m]) := by
  have hlt := h.lt
  have hVs := h.old.size
  have hb24 : Below V.heap.size w w4 := ((balloc w o).mono hVs).trans hb4
  have ho2 := h.old
  exact ⟨h.feed.under hb24 hlt, hown, ⟨hb24.os.trans ho2.os, hb24.tape.trans ho2.tape, hb24.output.trans ho2.output, Nat.le_trans ho2.size hb24.size, fun k hk hn => (hb24.block k hk).trans (ho2.block k hk hn)⟩, hlt⟩
end
/-- A list drawn: any list of at most m elements. -/
def DrawnList {α : Type} (m : Nat) (E : TypeId) (sz : Nat) (f : α → List Value) (G : α → Prop) (w : World) (b : Nat) (A : Option Addr) (c : Nat) (xs : List Int) (e : Ending) (w' : World) : Prop :=
  ∃ (LA : Option Addr) (lc : Nat) (ms : List α), e = .returned (.slice LA ms.length lc) ∧ Flat w' w.heap.size w'.heap.size E sz f LA ms ∧ ms.length ≤ lc ∧ ms.length ≤ m ∧ (∀ x ∈ ms, G x) ∧ Feed w' b A c xs ∧ Only b (b + 1) w w'
theorem GrowSt.drawn {α : Type} {V w : World} {b c lc sz m : Nat} {A LA : Option Addr} {xs : List Int} {E : TypeId} {f : α → List Value} {G : α → Prop} {ms : List α} (h : GrowSt V w b A c xs E sz f LA lc ms) (hf : ∀ x, (f x).length = sz) (hm : ms.length ≤ m) (hG : ∀ x ∈ ms, G x) : DrawnList m E sz f G V b A c xs (.returned (.slice LA ms.length lc)) w :=
  ⟨LA, lc, ms, rfl, h.own.flat hf, h.own.cap, hm, hG, h.feed, h.old⟩
theorem mem_snoc {α : Type} {G : α → Prop} {ms : List α} {x : α} (h : ∀ y ∈ ms, G y) (hx : G x) : ∀ y ∈ ms ++ [x], G y := fun y hy => by
  rcases List.mem_append.1 hy with hy | hy
  · exact h y hy
  · simp only [List.mem_singleton] at hy
    subst hy
    exact hx
def lenOf : Value → Nat
  | .slice _ n _ => n
  | _ => 0

end Go.Proofs.Ytlhbjgbkpjlacaa

namespace Go.Proofs.Ytlhbjgbkpjlacaa
set_option maxRecDepth 100000
open Go.RowKit

def names : List ByteArray := [⟨#[97, 110, 99, 104, 111, 114]⟩, ⟨#[98, 111, 108, 116]⟩, ⟨#[99, 114, 97, 110, 107]⟩, ⟨#[102, 111, 114, 107]⟩, ⟨#[102, 114, 97, 109, 101]⟩, ⟨#[104, 101, 97, 100, 115, 101, 116]⟩, ⟨#[112, 111, 115, 116]⟩, ⟨#[115, 97, 100, 100, 108, 101]⟩]
theorem l16Names_any (w : World) : Calls Try.prog 146 #[] w fun e w' => e = .returned (.slice (some ⟨w.heap.size, 0, none⟩) 8 8) ∧ w' = w.alloc (.cells (names.map Value.string).toArray 9) := by
  go_enter Try.func146, Try.ntmps146
  go_wp2_with fail
  go_ret
  exact ⟨rfl, rfl⟩

/-- The port that a law is asked about. -/
def GivenPort (w : World) (e : Ending) (w' : World) : Prop := ∃ (k s : Int) (p : Bool), e = .returned (.agg #[.int .i64 k, .int .i64 s, .bool p]) ∧ 0 ≤ k ∧ k ≤ 20 ∧ 0 ≤ s ∧ s ≤ 10001 ∧ Below w.heap.size w w'
theorem DrawPortText_any (A : Option Addr) (c : Nat) (xs : List Int) (w : World) (hr : Rd w w.heap.size 1 uC A xs) (hx : ∀ x ∈ xs, 0 ≤ x ∧ x < 256) (hm : xs.length ≤ 4096) :
    Calls Try.prog 14 #[.slice A xs.length c] w (GivenPort w) := by
  have hlV : w.heap.size < (w.alloc (.cells #[.int .i64 0, .int .i64 0, .bool false] 23)).heap.size := by simp
  have hbV : Below w.heap.size w (w.alloc (.cells #[.int .i64 0, .int .i64 0, .bool false] 23)) := balloc _ _
  have hrV : Rd (w.alloc (.cells #[.int .i64 0, .int .i64 0, .bool false] 23)) w.heap.size 1 uC A xs := hr.below hbV
  have HS := Lib.hid (l01From_any A c xs (w.alloc (.cells #[.int .i64 0, .int .i64 0, .bool false] 23)) (hrV.more (Nat.le_of_lt hlV)) hx hm)
  have HP : Hid (∀ (v : World) (b : Nat), Feed v b A c xs → Calls Try.prog 89 #[.pointer (some ⟨b, 0, none⟩)] v (DrawnPort v b A c xs)) := fun v b h => l16DrawPort_any A c b xs v h
  have HX := Lib.hid hx; clear hx
  have HK : Hid (∀ v : World, Below (w.alloc (.cells #[.int .i64 0, .int .i64 0, .bool false] 23)).heap.size (w.alloc (.cells #[.int .i64 0, .int .i64 0, .bool false] 23)) v → v.cell? ⟨w.heap.size, 0, none⟩ = some (.int .i64 0) ∧ v.cell? ⟨w.heap.size, 1, none⟩ = some (.int .i64 0) ∧ v.cell? ⟨w.heap.size, 2, none⟩ = some (.bool false) ∧ (∀ j, v.frozen? ⟨w.heap.size, j, none⟩ = false)) := fun v hv => by
    have e := hv.block w.heap.size hlV
    refine ⟨(World.cell?_of_block (a := ⟨w.heap.size, 0, none⟩) e).trans (by go_simp), (World.cell?_of_block (a := ⟨w.heap.size, 1, none⟩) e).trans (by go_simp), (World.cell?_of_block (a := ⟨w.heap.size, 2, none⟩) e).trans (by go_simp), fun j => ?_⟩
    exact ((Row.new w #[.int .i64 0, .int .i64 0, .bool false] 23).kept e).frozen j
  go_enter Try.func14, Try.ntmps14
  go_wp2_with fail
  generalize (w.alloc (.cells #[.int .i64 0, .int .i64 0, .bool false] 23)) = V at hlV hbV hrV HS HK ⊢
  generalize hr0 : w.heap.size = r at HK hlV hrV ⊢
  refine HS.out.mono ?_
  rintro e w1 ⟨b, rfl, hS, hbl, hb1⟩
  have HF : Hid (Feed w1 b A c xs) := ⟨hS, (hrV.below (B := r) ⟨hb1.os, hb1.tape, hb1.output, hb1.size, fun k hk => hb1.block k (by omega)⟩).more (by omega), HX.out, hm⟩
  clear hS HS hr
  go_wp2_with fail
  refine (HP.out w1 b HF.out).mono ?_
  rintro e w2 ⟨k, s, p, rfl, k0, k1, s0, s1, _, hO⟩
  have hb2 : Below V.heap.size V w2 := hb1.trans (hO.below hbl hb1.size)
  obtain ⟨z0, z1, z2, zf⟩ := HK.out w2 hb2
  have zf0 := zf 0
  have zf1 := zf 1
  have zf2 := zf 2
  clear zf HK hO HF
  go_wp2_with fail
  have u0 : (((w2.setCell ⟨r, 0, none⟩ (.int .i64 k)).setCell ⟨r, 1, none⟩ (.int .i64 s)).setCell ⟨r, 2, none⟩ (.bool p)).cell? ⟨r, 0, none⟩ = some (.int .i64 k) := by rw [setCell_other (by omega), setCell_other (by omega)]; exact setCell_same z0
  have u1 : (((w2.setCell ⟨r, 0, none⟩ (.int .i64 k)).setCell ⟨r, 1, none⟩ (.int .i64 s)).setCell ⟨r, 2, none⟩ (.bool p)).cell? ⟨r, 1, none⟩ = some (.int .i64 s) := by rw [setCell_other (by omega)]; exact setCell_same (v := .int .i64 0) (by rw [setCell_other (by omega)]; exact z1)
  have u2 : (((w2.setCell ⟨r, 0, none⟩ (.int .i64 k)).setCell ⟨r, 1, none⟩ (.int .i64 s)).setCell ⟨r, 2, none⟩ (.bool p)).cell? ⟨r, 2, none⟩ = some (.bool p) := setCell_same (v := .bool false) (by rw [setCell_other (by omega), setCell_other (by omega)]; exact z2)
  have hrw : w.heap.size ≤ r := by omega
  have hb02 : Below w.heap.size w w2 := hbV.trans ⟨hb2.os, hb2.tape, hb2.output, hb2.size, fun k hk => hb2.block k (by omega)⟩
  have hBU := ((hb02.setCell (p := ⟨r, 0, none⟩) hrw (.int .i64 k)).setCell (p := ⟨r, 1, none⟩) hrw (.int .i64 s)).setCell (p := ⟨r, 2, none⟩) hrw (.bool p)
  generalize ((w2.setCell ⟨r, 0, none⟩ (.int .i64 k)).setCell ⟨r, 1, none⟩ (.int .i64 s)).setCell ⟨r, 2, none⟩ (.bool p) = X at u0 u1 u2 hBU ⊢
  refine bodyPost_ret (v := .agg #[.int .i64 k, .int .i64 s, .bool p]) (by simp [results, Try.results14, go_sem, u0, u1, u2]) rfl ?_
  exact ⟨k, s, p, rfl, k0, k1, s0, s1, hBU⟩

end Go.Proofs.Ytlhbjgbkpjlacaa

namespace Go.Proofs.Ytlhbjgbkpjlacaa
set_option maxRecDepth 100000
open Go.RowKit

/-- A part in its box r, its ports in memory behind it, a source in hand; nothing of what lay there at V has turned but the source. -/
structure GoodSt (V w : World) (r r4 b : Nat) (A : Option Addr) (c : Nat) (xs : List Int) (x : PartT) (PA : Option Addr) (pc : Nat) : Prop where
  feed : Feed w b A c xs
  row : Row w r 37 5
  row4 : Row w r4 37 5
  c0 : w.cell? ⟨r, 0, none⟩ = some (.string x.code)
  c1 : w.cell? ⟨r, 1, none⟩ = some (.int .i64 x.slot)
  c2 : w.cell? ⟨r, 2, none⟩ = some (.slice PA x.ports.length pc)
  c3 : w.cell? ⟨r, 3, none⟩ = some (.int .i64 x.price)
  c4 : w.cell? ⟨r, 4, none⟩ = some (.int .i64 x.grams)
  own : Own w V.heap.size 23 3 portC PA pc x.ports
  old : Only b (b + 1) V w
  lt : b < V.heap.size
  rV : V.heap.size ≤ r
  r4V : V.heap.size ≤ r4
section
variable {V w w' : World} {r r4 b c pc : Nat} {A PA : Option Addr} {xs : List Int} {x : PartT}
theorem GoodSt.turn (h : GoodSt V w r r4 b A c xs x PA pc) (hF : Feed w' b A c xs) (hO : Only b (b + 1) w w') : GoodSt V w' r r4 b A c xs x PA pc := by
  have hl := h.row.lt
  have hl4 := h.row4.lt
  have := h.lt
  have := h.rV
  have := h.r4V
  have e := hO.block r hl (by omega)
  have e4 := hO.block r4 hl4 (by omega)
  exact ⟨hF, h.row.kept e, h.row4.kept e4, (World.cell?_of_block (a := ⟨r, 0, none⟩) e).trans h.c0, (World.cell?_of_block (a := ⟨r, 1, none⟩) e).trans h.c1, (World.cell?_of_block (a := ⟨r, 2, none⟩) e).trans h.c2, (World.cell?_of_block (a := ⟨r, 3, none⟩) e).trans h.c3, (World.cell?_of_block (a := ⟨r, 4, none⟩) e).trans h.c4, h.own.only hO (by omega), h.old.trans hO, h.lt, h.rV, h.r4V⟩
theorem GoodSt.next (h : GoodSt V w r r4 b A c xs x PA pc) (hb : Below w.heap.size w w') : GoodSt V w' r r4 b A c xs x PA pc := h.turn (h.feed.next hb) (Only.of_below hb)
/-- A port more. -/
theorem GoodSt.grow {w4 : World} {p : PortT} {A2 : Option Addr} {c2 : Nat} (h : GoodSt V w r r4 b A c xs x PA pc) (hown : Own w4 V.heap.size 23 3 portC A2 c2 (x.ports ++ [p])) (hb : Below V.heap.size w w4) (hfar : ∀ g, g < w.heap.size → Apart PA g → Apart A2 g ∧ w4.heap[g]? = w.heap[g]?) :
    GoodSt V (w4.setCell ⟨r, 2, none⟩ (.slice A2 (x.ports.length + 1) c2)) r r4 b A c xs { x with ports := x.ports ++ [p] } A2 c2 := by
  have hlt := h.lt
  have hrV := h.rV
  have hl := h.row.lt
  have hE : (23 : TypeId) ≠ 37 := by decide
  obtain ⟨_, e⟩ := hfar r hl (h.own.apartType h.row hE)
  obtain ⟨_, e4⟩ := hfar r4 h.row4.lt (h.own.apartType h.row4 hE)
  have hF4 := h.feed.under hb hlt
  have hne : ∀ j, j ≠ 2 → (w4.setCell ⟨r, 2, none⟩ (.slice A2 (x.ports.length + 1) c2)).cell? ⟨r, j, none⟩ = w.cell? ⟨r, j, none⟩ := fun j hj => by
    rw [setCell_other (by omega)]
    exact World.cell?_of_block (a := ⟨r, j, none⟩) e
  have z := (World.cell?_of_block (a := ⟨r, 2, none⟩) e).trans h.c2
  have hold : Only b (b + 1) V w4 := ⟨hb.os.trans h.old.os, hb.tape.trans h.old.tape, hb.output.trans h.old.output, Nat.le_trans h.old.size hb.size, fun k hk hn => (hb.block k hk).trans (h.old.block k hk hn)⟩
  have hrow := h.row.kept e
  have hdif : ∀ g m, Row w4 g 23 m → g ≠ r := fun g m hg => hg.ne hrow hE
  refine ⟨hF4.setFar (p := ⟨r, 2, none⟩) (show b < r by omega) _, hrow.setCell _ _, (h.row4.kept e4).setCell _ _, (hne 0 (by omega)).trans h.c0, (hne 1 (by omega)).trans h.c1, ?_, (hne 3 (by omega)).trans h.c3, (hne 4 (by omega)).trans h.c4, ?_, hold.setNew hrV _, hlt, hrV, h.r4V⟩
  · rw [setCell_same z]
    simp
  · refine ⟨hown.1, ?_⟩
    rcases hown.2 with h2 | ⟨g, cap, cur, e', hB, hg, h3⟩
    · exact Or.inl h2
    · exact Or.inr ⟨g, cap, cur, e', hB, (Below.heap_setCell _ _ _ _ (hdif g _ ⟨cur, hg, rfl⟩)).trans hg, h3⟩
end
section
variable {V w w' : World} {r r4 b c pc : Nat} {A PA : Option Addr} {xs : List Int} {x : PartT}
theorem GoodSt.setOne (h : GoodSt V w r r4 b A c xs x PA pc) (j : Nat) (u : Value) : Feed (w.setCell ⟨r, j, none⟩ u) b A c xs ∧ Row (w.setCell ⟨r, j, none⟩ u) r 37 5 ∧ Row (w.setCell ⟨r, j, none⟩ u) r4 37 5 ∧ Own (w.setCell ⟨r, j, none⟩ u) V.heap.size 23 3 portC PA pc x.ports ∧ Only b (b + 1) V (w.setCell ⟨r, j, none⟩ u) := by
  have hlt := h.lt
  have hrV := h.rV
  have hE : (23 : TypeId) ≠ 37 := by decide
  refine ⟨h.feed.setFar (p := ⟨r, j, none⟩) (show b < r by omega) _, h.row.setCell _ _, h.row4.setCell _ _, ⟨h.own.1, ?_⟩, h.old.setNew hrV _⟩
  rcases h.own.2 with h2 | ⟨g, cap, cur, e', hB, hg, h3⟩
  · exact Or.inl h2
  · exact Or.inr ⟨g, cap, cur, e', hB, (Below.heap_setCell _ _ _ _ (Row.ne (E := 23) ⟨cur, hg, rfl⟩ h.row hE)).trans hg, h3⟩
theorem GoodSt.setCode (h : GoodSt V w r r4 b A c xs x PA pc) (v : ByteArray) : GoodSt V (w.setCell ⟨r, 0, none⟩ (.string v)) r r4 b A c xs { x with code := v } PA pc := by
  obtain ⟨h1, h2, h3, h4, h5⟩ := h.setOne 0 (.string v)
  have hne : ∀ j, j ≠ 0 → (w.setCell ⟨r, 0, none⟩ (.string v)).cell? ⟨r, j, none⟩ = w.cell? ⟨r, j, none⟩ := fun j hj => setCell_other (by omega)
  exact ⟨h1, h2, h3, setCell_same h.c0, (hne 1 (by omega)).trans h.c1, (hne 2 (by omega)).trans h.c2, (hne 3 (by omega)).trans h.c3, (hne 4 (by omega)).trans h.c4, h4, h5, h.lt, h.rV, h.r4V⟩
theorem GoodSt.setSlot (h : GoodSt V w r r4 b A c xs x PA pc) (v : Int) : GoodSt V (w.setCell ⟨r, 1, none⟩ (.int .i64 v)) r r4 b A c xs { x with slot := v } PA pc := by
  obtain ⟨h1, h2, h3, h4, h5⟩ := h.setOne 1 (.int .i64 v)
  have hne : ∀ j, j ≠ 1 → (w.setCell ⟨r, 1, none⟩ (.int .i64 v)).cell? ⟨r, j, none⟩ = w.cell? ⟨r, j, none⟩ := fun j hj => setCell_other (by omega)
  exact ⟨h1, h2, h3, (hne 0 (by omega)).trans h.c0, setCell_same h.c1, (hne 2 (by omega)).trans h.c2, (hne 3 (by omega)).trans h.c3, (hne 4 (by omega)).trans h.c4, h4, h5, h.lt, h.rV, h.r4V⟩
theorem GoodSt.setPrice (h : GoodSt V w r r4 b A c xs x PA pc) (v : Int) : GoodSt V (w.setCell ⟨r, 3, none⟩ (.int .i64 v)) r r4 b A c xs { x with price := v } PA pc := by
  obtain ⟨h1, h2, h3, h4, h5⟩ := h.setOne 3 (.int .i64 v)
  have hne : ∀ j, j ≠ 3 → (w.setCell ⟨r, 3, none⟩ (.int .i64 v)).cell? ⟨r, j, none⟩ = w.cell? ⟨r, j, none⟩ := fun j hj => setCell_other (by omega)
  exact ⟨h1, h2, h3, (hne 0 (by omega)).trans h.c0, (hne 1 (by omega)).trans h.c1, (hne 2 (by omega)).trans h.c2, setCell_same h.c3, (hne 4 (by omega)).trans h.c4, h4, h5, h.lt, h.rV, h.r4V⟩
end
/-- A part handed out through its result box r4. -/
structure PartOut (V w : World) (r4 b : Nat) (A : Option Addr) (c : Nat) (xs : List Int) (ps : List PortT) (PA : Option Addr) (pc : Nat) : Prop where
  feed : Feed w b A c xs
  row4 : Row w r4 37 5
  own : Own w V.heap.size 23 3 portC PA pc ps
  old : Only b (b + 1) V w
  lt : b < V.heap.size
  r4V : V.heap.size ≤ r4
theorem GoodSt.out {V w : World} {r r4 b c pc : Nat} {A PA : Option Addr} {xs : List Int} {x : PartT} (h : GoodSt V w r r4 b A c xs x PA pc) : PartOut V w r4 b A c xs x.ports PA pc := ⟨h.feed, h.row4, h.own, h.old, h.lt, h.r4V⟩
theorem PartOut.set {V w : World} {r4 b c pc : Nat} {A PA : Option Addr} {xs : List Int} {ps : List PortT} (h : PartOut V w r4 b A c xs ps PA pc) (j : Nat) (u : Value) : PartOut V (w.setCell ⟨r4, j, none⟩ u) r4 b A c xs ps PA pc := by
  have hlt := h.lt
  have hrV := h.r4V
  have hE : (23 : TypeId) ≠ 37 := by decide
  refine ⟨h.feed.setFar (p := ⟨r4, j, none⟩) (show b < r4 by omega) _, h.row4.setCell _ _, ⟨h.own.1, ?_⟩, h.old.setNew hrV _, hlt, hrV⟩
  rcases h.own.2 with h2 | ⟨g, cap, cur, e', hB, hg, h3⟩
  · exact Or.inl h2
  · exact Or.inr ⟨g, cap, cur, e', hB, (Below.heap_setCell _ _ _ _ (Row.ne (E := 23) ⟨cur, hg, rfl⟩ h.row4 hE)).trans hg, h3⟩
/-- A part that was drawn: any part of small size. -/
def DrawnPart (m : Nat) (w : World) (b : Nat) (A : Option Addr) (c : Nat) (xs : List Int) (e : Ending) (w' : World) : Prop := ∃ (x : PartT) (pA : Option Addr) (pc : Nat), e = .returned (argV x pA pc) ∧ x.code.size ≤ 64 ∧ x.ports.length ≤ m ∧ Own w' w.heap.size 23 3 portC pA pc x.ports ∧ Feed w' b A c xs ∧ Only b (b + 1) w w'
theorem portC_len3 (p : PortT) : (portC p).length = 3 := rfl
theorem portC_one3 (p : PortT) : ∀ u ∈ portC p, u.oneCell' = true := fun u hu => by
  simp only [portC, List.mem_cons, List.not_mem_nil, or_false] at hu
  rcases hu with rfl | rfl | rfl <;> rfl

end Go.Proofs.Ytlhbjgbkpjlacaa

namespace Go.Proofs.Ytlhbjgbkpjlacaa
set_option maxRecDepth 100000
open Go.RowKit

set_option maxHeartbeats 1000000 in
theorem l16Good_any (A : Option Addr) (c b : Nat) (xs : List Int) (code : ByteArray) (hcode : code.size ≤ 64) (w : World) (hF : Feed w b A c xs) :
    Calls Try.prog 147 #[.pointer (some ⟨b, 0, none⟩), .string code] w (DrawnPart 3 w b A c xs) := by
  have HN : Hid (∀ (v : World) (n : Int), n < 20000 → Feed v b A c xs → Calls Try.prog 91 #[.pointer (some ⟨b, 0, none⟩), .int .i64 n] v (Drawn v b A c xs n)) := fun v n hn h => l01Next_any A c b xs n v h.src h.rd h.byte h.small (by omega)
  have hlb := hF.src.lt
  have HF := Lib.hid hF; clear hF
  go_enter Try.func147, Try.ntmps147
  go_wp2_with fail
  have HF0 := Lib.hid (HF.out.next (balloc w (.cells #[.string ⟨#[]⟩, .int .i64 0, .slice none 0 0, .int .i64 0, .int .i64 0] 37)))
  refine (HN.out _ 3 (by omega) HF0.out).mono ?_
  rintro e w1 ⟨v1, rfl, a0, a1, _, hS, hO⟩
  have HF1 := Lib.hid (HF0.out.turn hS hO)
  clear hS
  go_wp2_with fail
  have HF1' := Lib.hid (HF1.out.next (balloc w1 (.cells #[] 23)))
  refine (HN.out _ 60 (by omega) HF1'.out).mono ?_
  rintro e w2 ⟨v2, rfl, b0, b1, _, hS, hO2⟩
  have HF2 := Lib.hid (HF1'.out.turn hS hO2)
  clear hS
  have b1 := b1 (by omega)
  go_wp2_with fail
  refine (HN.out _ 900 (by omega) HF2.out).mono ?_
  rintro e w3 ⟨v3, rfl, c0, c1, _, hS, hO3⟩
  have HF3 := Lib.hid (HF2.out.turn hS hO3)
  clear hS
  have c1 := c1 (by omega)
  go_wp2_with fail
  have hO0 : Only b (b + 1) w (w.alloc (.cells #[.string ⟨#[]⟩, .int .i64 0, .slice none 0 0, .int .i64 0, .int .i64 0] 37)) := Only.alloc _
  have hO1a : Only b (b + 1) w1 (w1.alloc (.cells #[] 23)) := Only.alloc _
  have hOW : Only b (b + 1) w3 (w3.alloc (.cells #[.string code, .int .i64 v1, .slice (some ⟨w1.heap.size, 0, none⟩) 0 0, .int .i64 (100 * (1 + v2)), .int .i64 (50 + v3)] 37)) := Only.alloc _
  have s0 := hO0.size
  have s1 := hO.size
  have s1a := hO1a.size
  have s2 := hO2.size
  have s3 := hO3.size
  have z0 : (w.alloc (.cells #[.string ⟨#[]⟩, .int .i64 0, .slice none 0 0, .int .i64 0, .int .i64 0] 37)).heap.size = w.heap.size + 1 := by simp
  have z1 : (w1.alloc (.cells #[] 23)).heap.size = w1.heap.size + 1 := by simp
  have hG : Hid (GoodSt w (w3.alloc (.cells #[.string code, .int .i64 v1, .slice (some ⟨w1.heap.size, 0, none⟩) 0 0, .int .i64 (100 * (1 + v2)), .int .i64 (50 + v3)] 37)) w3.heap.size w.heap.size b A c xs ⟨code, v1, [], 100 * (1 + v2), 50 + v3⟩ (some ⟨w1.heap.size, 0, none⟩) 0) := by
    have hO3' := (((hO0.trans hO).trans hO1a).trans hO2).trans hO3
    have hrow4 : Row w3 w.heap.size 37 5 := (Row.new w #[.string ⟨#[]⟩, .int .i64 0, .slice none 0 0, .int .i64 0, .int .i64 0] 37).kept ((((hO.trans hO1a).trans hO2).trans hO3).block w.heap.size (by omega) (by omega))
    have hownp : Own (w1.alloc (.cells #[] 23)) w.heap.size 23 3 portC (some ⟨w1.heap.size, 0, none⟩) 0 [] := Own.made _ (by omega) rfl
    exact ⟨HF3.out.next (balloc _ _), Row.new w3 _ _, hrow4.alloc _, by go_simp, by go_simp, by go_simp, by go_simp, by go_simp, (((hownp.only hO2 (by omega)).only hO3 (by omega)).keep (balloc _ _)), hO3'.trans hOW, hlb, by omega, Nat.le_refl _⟩
  clear hO0 hO hO1a hO2 hO3 hOW s0 s1 s1a s2 z0 z1 HF HF0 HF1 HF1' HF2 HF3
  generalize w3.alloc (.cells #[.string code, .int .i64 v1, .slice (some ⟨w1.heap.size, 0, none⟩) 0 0, .int .i64 (100 * (1 + v2)), .int .i64 (50 + v3)] 37) = W at hG ⊢
  generalize w3.heap.size = r at hG s3 ⊢
  generalize hr4 : w.heap.size = r4 at hG hlb ⊢
  go_loopw [6] (fun i wr => ∃ (k : Nat) (x : PartT) (PA : Option Addr) (pc : Nat), k ≤ 3 ∧ i = .int .i64 k ∧ x.code = code ∧ x.ports.length ≤ k ∧ GoodSt w wr r r4 b A c xs x PA pc) (fun i _ => 3 - (intOf i).toNat)
  case atStart => exact ⟨0, _, _, _, Nat.zero_le _, rfl, rfl, Nat.le_refl _, hG.out⟩
  case round =>
    obtain ⟨k, x, PA, pc, hk, rfl, hxc, hxl, hg⟩ := hrel
    have HG := Lib.hid hg; clear hg
    by_cases hlt : k < 3
    · go_wp2_with fail
      refine (HN.out wr 4 (by omega) HG.out.feed).mono ?_
      rintro e w4 ⟨v4, rfl, d0, d1, _, hS, hO⟩
      have HG4 := Lib.hid (HG.out.turn (HG.out.feed.turn hS hO) hO)
      clear hS hO HG
      by_cases hv : 0 < v4
      · have z4 := HG4.out.c2
        have l4 := HG4.out.row.lt
        have n4 : ¬ r = w4.heap.size := by omega
        have n4' : ¬ w4.heap.size = r := by omega
        go_wp2_with fail
        go_region_law (first
          | (go_simp; go_at_call 118; change Calls _ _ _ (w4.drew.alloc (.cells (([286, 318] : List Int).map (Value.int .i64)).toArray 2)) _; refine (pick_next A c b xs w4.drew 2 [286, 318] (by simp) (by simp) (HG4.out.feed.next (bdrew _))).mono ?_; rintro e w5 ⟨v5, hv5, rfl, hF5, hO5⟩; have HG5 := Lib.hid ((HG4.out.next (bdrew _)).turn hF5 hO5); have z5 := HG5.out.c2; clear hF5 hO5 hv5; go_wp2_with fail)
          | (go_simp; go_at_call 91; refine (HN.out w5 2 (by omega) HG5.out.feed).mono ?_; rintro e w6 ⟨v6, rfl, e0, e1, _, hS6, hO6⟩; have HG6 := Lib.hid (HG5.out.turn (HG5.out.feed.turn hS6 hO6) hO6); have z6 := HG6.out.c2; have l6 := HG6.out.row.lt; have n6 : ¬ r = w6.heap.size := (by omega); have n6' : ¬ w6.heap.size = r := (by omega); have s6 := HG6.out.old.size; clear hS6 hO6; go_wp2_with fail)
          | (have HG6a := Lib.hid (HG6.out.next (balloc w6 (.cells #[.int .i64 (k : Int), .int .i64 v5, .bool (v6 == 0)] 23))); refine step_append_el (by rfl) _ _ _ (by rfl) w.heap.size 23 (.agg #[.int .i64 0, .int .i64 0, .bool false]) 3 24 Try.underlying35 infoPort rfl (by omega) (by omega) portC x.ports ((k : Int), v5, v6 == 0) PA pc (by rfl) HG6a.out.own w6.heap.size _ (by rfl) (by simp) portC_len3 (three_cells (by go_simp) (by go_simp) (by go_simp)) portC_one3 (by omega) (by simp; omega) ?_; intro A2 c2 w7 hown7 hb7 hfar7; have h7 := hfar7 r HG6a.out.row.lt (HG6a.out.own.apartType HG6a.out.row (by decide)); have z7 := (World.cell?_of_block (a := ⟨r, 2, none⟩) h7.2).trans HG6a.out.c2; have f7 : w7.frozen? ⟨r, 2, none⟩ = false := (HG6a.out.row.kept h7.2).frozen 2; have HG7 := Lib.hid (HG6a.out.grow hown7 hb7 hfar7); clear h7 hown7 hb7 hfar7))
        all_goals
          go_wp2_with fail
          exact ⟨⟨k + 1, { x with ports := x.ports ++ [((k : Int), v5, v6 == 0)] }, A2, c2, by omega, by go_num, hxc, by simp; omega, HG7.out⟩, by simp [intOf]; omega⟩
      · go_wp2_with fail
        exact ⟨⟨k + 1, x, PA, pc, by omega, by go_num, hxc, by omega, HG4.out⟩, by simp [intOf]; omega⟩
    · have c0 := HG.out.c0
      have c1 := HG.out.c1
      have c2 := HG.out.c2
      have c3 := HG.out.c3
      have c4 := HG.out.c4
      obtain ⟨y0, hy0⟩ := HG.out.row4.cell (j := 0) (by omega)
      obtain ⟨y1, hy1⟩ := HG.out.row4.cell (j := 1) (by omega)
      obtain ⟨y2, hy2⟩ := HG.out.row4.cell (j := 2) (by omega)
      obtain ⟨y3, hy3⟩ := HG.out.row4.cell (j := 3) (by omega)
      obtain ⟨y4, hy4⟩ := HG.out.row4.cell (j := 4) (by omega)
      have f0 := HG.out.row4.frozen 0
      have f1 := HG.out.row4.frozen 1
      have f2 := HG.out.row4.frozen 2
      have f3 := HG.out.row4.frozen 3
      have f4 := HG.out.row4.frozen 4
      go_wp2_with fail
      refine bodyPost_ret (v := argV x PA pc) (by simp [results, Try.results147, go_sem, cell_set, hy0, hy1, hy2, hy3, hy4, argV, hxc]) rfl ?_
      have hP := fun (u0 u1 u2 u3 u4 : Value) => ((((HG.out.out.set 0 u0).set 1 u1).set 2 u2).set 3 u3).set 4 u4
      have hp := hP (.string code) (.int .i64 x.slot) (.slice PA x.ports.length pc) (.int .i64 x.price) (.int .i64 x.grams)
      exact ⟨x, PA, pc, rfl, by rw [hxc]; exact hcode, by omega, hp.own, hp.feed, hp.old⟩

end Go.Proofs.Ytlhbjgbkpjlacaa

namespace Go.Proofs.Ytlhbjgbkpjlacaa
set_option maxRecDepth 100000
open Go.RowKit

structure Inner (w : World) (lo hi : Nat) (A : Option Addr) (ms : List PartM) : Prop where
  flat : ∀ m ∈ ms, Flat w lo hi 23 3 portC m.pA m.ports
  cap : ∀ m ∈ ms, m.ports.length ≤ m.pc
  far : ∀ m ∈ ms, 0 < m.ports.length → ∀ g, m.pA = some ⟨g, 0, none⟩ → Apart A g
  apart : ms.Pairwise fun m n => 0 < m.ports.length → 0 < n.ports.length → m.pA ≠ n.pA
theorem Inner.nil {w : World} {lo hi : Nat} {A : Option Addr} : Inner w lo hi A [] := ⟨fun _ hm => absurd hm (by simp), fun _ hm => absurd hm (by simp), fun _ hm => absurd hm (by simp), List.Pairwise.nil⟩
theorem Inner.below {w w' : World} {lo hi hi' B : Nat} {A : Option Addr} {ms : List PartM} (h : Inner w lo hi A ms) (hb : Below B w w') (hB : hi ≤ B) (hh : hi ≤ hi') : Inner w' lo hi' A ms :=
  ⟨fun m hm => ((h.flat m hm).below hb hB).mono (Nat.le_refl _) hh, h.cap, h.far, h.apart⟩
/-- One part more: its ports are new, the row has grown. -/
theorem Inner.append {wr w2 w3 w4 : World} {base n c : Nat} {A A2 : Option Addr} {ms : List PartM} {m : PartM} {o : Obj} (h : Inner wr base wr.heap.size A ms)
    (hA : ∀ k, (Value.slice A n c).ownBlock = some k → base ≤ k ∧ k < wr.heap.size) (hbase : base ≤ wr.heap.size) (hb2 : Below wr.heap.size wr w2) (fm : Flat w2 wr.heap.size w2.heap.size 23 3 portC m.pA m.ports) (hpc : m.ports.length ≤ m.pc)
    (e3 : w3 = w2.alloc o) (hfar : ∀ g, g < w2.heap.size + 1 → Apart A g → Apart A2 g ∧ w4.heap[g]? = w3.heap[g]?) (hs4 : w3.heap.size ≤ w4.heap.size) : Inner w4 base w4.heap.size A2 (ms ++ [m]) := by
  have hs2 := hb2.size
  have hs3 : w3.heap.size = w2.heap.size + 1 := by rw [e3]; simp
  have h32 : ∀ g, g < w2.heap.size → w3.heap[g]? = w2.heap[g]? := fun g hg => by rw [e3]; exact (balloc w2 o).block g hg
  -- the block of an older part
  have hold : ∀ m' ∈ ms, ∀ g, m'.pA = some ⟨g, 0, none⟩ → 0 < m'.ports.length → g < wr.heap.size := fun m' hm' g e hp => by
    obtain ⟨g', _, e', _, h2, _⟩ := h.flat m' hm' hp
    rw [e] at e'
    simp only [Option.some.injEq, Addr.mk.injEq] at e'
    omega
  have hnew : ∀ g, m.pA = some ⟨g, 0, none⟩ → 0 < m.ports.length → wr.heap.size ≤ g ∧ g < w2.heap.size := fun g e hp => by
    obtain ⟨g', _, e', h1, h2, _⟩ := fm hp
    rw [e] at e'
    simp only [Option.some.injEq, Addr.mk.injEq] at e'
    omega
  have hAn : ∀ g, wr.heap.size ≤ g → Apart A g := fun g hg b o' e => by
    subst e
    have := hA b rfl
    omega
  refine ⟨fun m' hm' => ?_, fun m' hm' => ?_, fun m' hm' hp g e => ?_, ?_⟩
  · rcases List.mem_append.1 hm' with h1 | h1
    · refine ((h.flat m' h1).keepAt fun g e hp => ?_).mono (Nat.le_refl _) (by omega)
      have hg := hold m' h1 g e hp
      rw [(hfar g (by omega) (h.far m' h1 hp g e)).2, h32 g (by omega), hb2.block g hg]
    · simp only [List.mem_singleton] at h1
      subst h1
      refine (fm.keepAt fun g e hp => ?_).mono hbase (by omega)
      have hg := hnew g e hp
      rw [(hfar g (by omega) (hAn g hg.1)).2, h32 g hg.2]
  · rcases List.mem_append.1 hm' with h1 | h1
    · exact h.cap m' h1
    · simp only [List.mem_singleton] at h1
      subst h1
      exact hpc
  · rcases List.mem_append.1 hm' with h1 | h1
    · have hg := hold m' h1 g e hp
      exact (hfar g (by omega) (h.far m' h1 hp g e)).1
    · simp only [List.mem_singleton] at h1
      subst h1
      have hg := hnew g e hp
      exact (hfar g (by omega) (hAn g hg.1)).1
  · rw [List.pairwise_append]
    refine ⟨h.apart, List.pairwise_singleton _ _, fun m1 h1 m2 h2 hp1 hp2 => ?_⟩
    simp only [List.mem_singleton] at h2
    subst h2
    obtain ⟨g1, _, e1, _⟩ := h.flat m1 h1 hp1
    obtain ⟨g2, _, e2, _⟩ := fm hp2
    have a1 := hold m1 h1 g1 e1 hp1
    have a2 := hnew g2 e2 hp2
    rw [e1, e2]
    intro e
    simp only [Option.some.injEq, Addr.mk.injEq] at e
    omega

/-- A row of parts between lo and hi, each part's ports apart. -/
def FlatQ (w : World) (lo hi : Nat) (A : Option Addr) (ms : List PartM) : Prop := Flat w lo hi 37 5 partC A ms ∧ Inner w lo hi A ms
/-- The same, by its values. -/
def FlatR (w : World) (lo hi : Nat) (A : Option Addr) (vs : List PartT) : Prop := ∃ ms : List PartM, ms.map PartM.val = vs ∧ FlatQ w lo hi A ms
section
variable {w w' : World} {lo hi lo' hi' : Nat} {A : Option Addr} {ms : List PartM} {vs : List PartT}
theorem FlatQ.only {a b : Nat} (h : FlatQ w lo hi A ms) (hb : Only a b w w') (hs : hi ≤ w.heap.size) (hd : hi ≤ a ∨ b ≤ lo) : FlatQ w' lo hi A ms :=
  ⟨h.1.only hb hs hd, fun m hm => (h.2.flat m hm).only hb hs hd, h.2.cap, h.2.far, h.2.apart⟩
theorem FlatQ.below {B : Nat} (h : FlatQ w lo hi A ms) (hb : Below B w w') (hB : hi ≤ B) : FlatQ w' lo hi A ms := ⟨h.1.below hb hB, h.2.below hb hB (Nat.le_refl _)⟩
theorem FlatQ.mono (h : FlatQ w lo hi A ms) (h1 : lo' ≤ lo) (h2 : hi ≤ hi') : FlatQ w lo' hi' A ms := ⟨h.1.mono h1 h2, fun m hm => (h.2.flat m hm).mono h1 h2, h.2.cap, h.2.far, h.2.apart⟩
theorem FlatQ.rd (h : FlatQ w lo hi A ms) : RdP w hi A ms := ⟨h.1.rd, fun m hm => ⟨(h.2.flat m hm).rd, h.2.cap m hm⟩⟩
theorem FlatR.only {a b : Nat} (h : FlatR w lo hi A vs) (hb : Only a b w w') (hs : hi ≤ w.heap.size) (hd : hi ≤ a ∨ b ≤ lo) : FlatR w' lo hi A vs := by
  obtain ⟨ms, e, h⟩ := h
  exact ⟨ms, e, h.only hb hs hd⟩
theorem FlatR.below {B : Nat} (h : FlatR w lo hi A vs) (hb : Below B w w') (hB : hi ≤ B) : FlatR w' lo hi A vs := by
  obtain ⟨ms, e, h⟩ := h
  exact ⟨ms, e, h.below hb hB⟩
theorem FlatR.mono (h : FlatR w lo hi A vs) (h1 : lo' ≤ lo) (h2 : hi ≤ hi') : FlatR w lo' hi' A vs := by
  obtain ⟨ms, e, h⟩ := h
  exact ⟨ms, e, h.mono h1 h2⟩
theorem FlatR.rd (h : FlatR w lo hi A vs) : RdV w hi A vs := by
  obtain ⟨ms, e, h⟩ := h
  exact ⟨ms, e, h.rd⟩
theorem FlatR.nil : FlatR w lo hi A [] := ⟨[], rfl, fun h => absurd h (by simp), Inner.nil⟩
end
/-- What a function gives that makes parts by append, with a code. -/
def GivesParts2 (w : World) (r : List PartT × Int) (e : Ending) (w' : World) : Prop :=
  ∃ A c, e = .returned (.tuple #[.slice A r.1.length c, .int .i64 r.2]) ∧ FlatR w' w.heap.size w'.heap.size A r.1 ∧ r.1.length ≤ c ∧ Below w.heap.size w w'

end Go.Proofs.Ytlhbjgbkpjlacaa

namespace Go.Proofs.Ytlhbjgbkpjlacaa
set_option maxRecDepth 100000
open Go.RowKit

def GivesCopy (w : World) (x : PartT) (e : Ending) (w' : World) : Prop :=
  ∃ A' c', e = .returned (.agg #[.string x.code, .int .i64 x.slot, .slice A' x.ports.length c', .int .i64 x.price, .int .i64 x.grams]) ∧ Flat w' w.heap.size w'.heap.size 23 3 portC A' x.ports ∧ x.ports.length ≤ c' ∧ Below w.heap.size w w'
theorem set5_heap {w : World} {g1 g : Nat} (h : g ≠ g1) (u0 u1 u2 u3 u4 : Value) : (((((w.setCell ⟨g1, 0, none⟩ u0).setCell ⟨g1, 1, none⟩ u1).setCell ⟨g1, 2, none⟩ u2).setCell ⟨g1, 3, none⟩ u3).setCell ⟨g1, 4, none⟩ u4).heap[g]? = w.heap[g]? := by
  rw [Below.heap_setCell _ _ _ _ (by exact h), Below.heap_setCell _ _ _ _ (by exact h), Below.heap_setCell _ _ _ _ (by exact h), Below.heap_setCell _ _ _ _ (by exact h), Below.heap_setCell _ _ _ _ (by exact h)]
theorem portC_one : ∀ y, ∀ u ∈ portC y, u.oneCell' = true := fun y u hu => by
  simp only [portC, List.mem_cons, List.not_mem_nil, or_false] at hu
  rcases hu with rfl | rfl | rfl <;> rfl

set_option maxHeartbeats 1000000 in
theorem copyPart_any (x : PartT) (pA : Option Addr) (pc : Nat) (w : World) (hr : Rd w w.heap.size 3 portC pA x.ports) (hm : x.ports.length ≤ 1048576) :
    Calls Try.prog 96 #[.agg #[.string x.code, .int .i64 x.slot, .slice pA x.ports.length pc, .int .i64 x.price, .int .i64 x.grams]] w (GivesCopy w x) := by
  have hb3 : Below w.heap.size w (((w.alloc (.cells #[.string x.code, .int .i64 x.slot, .slice pA x.ports.length pc, .int .i64 x.price, .int .i64 x.grams] 37)).alloc (.cells #[.string ⟨#[]⟩, .int .i64 0, .slice none 0 0, .int .i64 0, .int .i64 0] 37)).alloc (.cells #[] 23)) := bthen (bthen (balloc w _) (balloc _ _)) (balloc _ _)
  have hown0 : Own (((w.alloc (.cells #[.string x.code, .int .i64 x.slot, .slice pA x.ports.length pc, .int .i64 x.price, .int .i64 x.grams] 37)).alloc (.cells #[.string ⟨#[]⟩, .int .i64 0, .slice none 0 0, .int .i64 0, .int .i64 0] 37)).alloc (.cells #[] 23)) w.heap.size 23 3 portC (some ⟨w.heap.size + 1 + 1, 0, none⟩) 0 [] := by
    have := Own.made (w := ((w.alloc (.cells #[.string x.code, .int .i64 x.slot, .slice pA x.ports.length pc, .int .i64 x.price, .int .i64 x.grams] 37)).alloc (.cells #[.string ⟨#[]⟩, .int .i64 0, .slice none 0 0, .int .i64 0, .int .i64 0] 37))) (base := w.heap.size) (E := 23) (sz := 3) (f := portC) #[] (by simp; omega) rfl
    simpa using this
  have hrW := hr.below hb3
  go_enter Try.func96, Try.ntmps96
  go_wp2_with (at_builtin; refine wpList_append_slice rfl _ _ _ rfl w.heap.size 23 (.agg #[.int .i64 0, .int .i64 0, .bool false]) 3 24 Try.underlying35 infoPort rfl (by omega) (by omega) portC [] x.ports (some ⟨w.heap.size + 1 + 1, 0, none⟩) 0 rfl hown0 pA pc w.heap.size rfl hrW portC_len portC_one (by simp; omega) (by simp; omega) ?_)
  intro A2 c2 w4 hown4 hb4 hfar
  have hapart : ∀ g, g < w.heap.size + 2 → Apart (some ⟨w.heap.size + 1 + 1, 0, none⟩) g := fun g hg b o e => by
    simp only [Option.some.injEq, Addr.mk.injEq] at e
    omega
  have h30 : (((w.alloc (.cells #[.string x.code, .int .i64 x.slot, .slice pA x.ports.length pc, .int .i64 x.price, .int .i64 x.grams] 37)).alloc (.cells #[.string ⟨#[]⟩, .int .i64 0, .slice none 0 0, .int .i64 0, .int .i64 0] 37)).alloc (.cells #[] 23)).heap.size = w.heap.size + 3 := by simp
  have q0 := hfar w.heap.size (by omega) (hapart _ (by omega))
  have q1 := hfar (w.heap.size + 1) (by omega) (hapart _ (by omega))
  have hs4 := hb4.size
  have y0 : w4.cell? ⟨w.heap.size, 0, none⟩ = some (.string x.code) := (World.cell?_of_block (a := ⟨w.heap.size, 0, none⟩) q0.2).trans (by go_simp)
  have y1 : w4.cell? ⟨w.heap.size, 1, none⟩ = some (.int .i64 x.slot) := (World.cell?_of_block (a := ⟨w.heap.size, 1, none⟩) q0.2).trans (by go_simp)
  have y2 : w4.cell? ⟨w.heap.size, 2, none⟩ = some (.slice pA x.ports.length pc) := (World.cell?_of_block (a := ⟨w.heap.size, 2, none⟩) q0.2).trans (by go_simp)
  have y3 : w4.cell? ⟨w.heap.size, 3, none⟩ = some (.int .i64 x.price) := (World.cell?_of_block (a := ⟨w.heap.size, 3, none⟩) q0.2).trans (by go_simp)
  have y4 : w4.cell? ⟨w.heap.size, 4, none⟩ = some (.int .i64 x.grams) := (World.cell?_of_block (a := ⟨w.heap.size, 4, none⟩) q0.2).trans (by go_simp)
  have z0 : w4.cell? ⟨w.heap.size + 1, 0, none⟩ = some (.string ⟨#[]⟩) := (World.cell?_of_block (a := ⟨w.heap.size + 1, 0, none⟩) q1.2).trans (by go_simp)
  have z1 : w4.cell? ⟨w.heap.size + 1, 1, none⟩ = some (.int .i64 0) := (World.cell?_of_block (a := ⟨w.heap.size + 1, 1, none⟩) q1.2).trans (by go_simp)
  have z2 : w4.cell? ⟨w.heap.size + 1, 2, none⟩ = some (.slice none 0 0) := (World.cell?_of_block (a := ⟨w.heap.size + 1, 2, none⟩) q1.2).trans (by go_simp)
  have z3 : w4.cell? ⟨w.heap.size + 1, 3, none⟩ = some (.int .i64 0) := (World.cell?_of_block (a := ⟨w.heap.size + 1, 3, none⟩) q1.2).trans (by go_simp)
  have z4 : w4.cell? ⟨w.heap.size + 1, 4, none⟩ = some (.int .i64 0) := (World.cell?_of_block (a := ⟨w.heap.size + 1, 4, none⟩) q1.2).trans (by go_simp)
  have f0 : ∀ j, w4.frozen? ⟨w.heap.size, j, none⟩ = false := fun j => (World.frozen?_of_block (a := ⟨w.heap.size, j, none⟩) q0.2).trans (by go_simp)
  have f1 : ∀ j, w4.frozen? ⟨w.heap.size + 1, j, none⟩ = false := fun j => (World.frozen?_of_block (a := ⟨w.heap.size + 1, j, none⟩) q1.2).trans (by go_simp)
  have hcap := hown4.cap
  have HF := Lib.hid ((hown4.flat portC_len)); clear hown4
  have Q0 := Lib.hid q0.1
  have Q1 := Lib.hid q1.1
  have HB := Lib.hid (hb3.trans hb4)
  clear hfar hb4 q0 q1 hapart hown0 hrW hb3
  go_wp2_with fail
  refine bodyPost_ret (v := .agg #[.string x.code, .int .i64 x.slot, .slice A2 x.ports.length c2, .int .i64 x.price, .int .i64 x.grams]) ?_ rfl ?_
  · simp [results, Try.results96, go_sem, cell_set, z0, z1, z2, z3, z4]
  · have hk : ∀ (u0 u1 u2 u3 u4 u5 : Value) g, g ≠ w.heap.size → g ≠ w.heap.size + 1 → ((((((w4.setCell ⟨w.heap.size, 2, none⟩ u0).setCell ⟨w.heap.size + 1, 0, none⟩ u1).setCell ⟨w.heap.size + 1, 1, none⟩ u2).setCell ⟨w.heap.size + 1, 2, none⟩ u3).setCell ⟨w.heap.size + 1, 3, none⟩ u4).setCell ⟨w.heap.size + 1, 4, none⟩ u5).heap[g]? = w4.heap[g]? := fun u0 u1 u2 u3 u4 u5 g h0 h1 => by
      rw [Below.heap_setCell _ _ _ _ (by exact h1), Below.heap_setCell _ _ _ _ (by exact h1), Below.heap_setCell _ _ _ _ (by exact h1), Below.heap_setCell _ _ _ _ (by exact h1), Below.heap_setCell _ _ _ _ (by exact h1), Below.heap_setCell _ _ _ _ (by exact h0)]
    have h0 : w.heap.size ≤ w.heap.size := Nat.le_refl _
    have h1 : w.heap.size ≤ w.heap.size + 1 := by omega
    refine ⟨A2, c2, rfl, (HF.out.keepAt fun g e _ => hk _ _ _ _ _ _ g (Q0.out g 0 e) (Q1.out g 0 e)).mono (Nat.le_refl _) (by simp [World.setCell]), hcap, ?_⟩
    exact (((((HB.out.setCell (p := ⟨w.heap.size, 2, none⟩) h0 _).setCell (p := ⟨w.heap.size + 1, 0, none⟩) h1 _).setCell (p := ⟨w.heap.size + 1, 1, none⟩) h1 _).setCell (p := ⟨w.heap.size + 1, 2, none⟩) h1 _).setCell (p := ⟨w.heap.size + 1, 3, none⟩) h1 _).setCell (p := ⟨w.heap.size + 1, 4, none⟩) h1 _

set_option maxHeartbeats 400000 in
theorem l16Copy_any (x : PartT) (pA : Option Addr) (pc : Nat) (w : World) (hr : Rd w w.heap.size 3 portC pA x.ports) (hm : x.ports.length ≤ 1048576) :
    Calls Try.prog 99 #[.agg #[.string x.code, .int .i64 x.slot, .slice pA x.ports.length pc, .int .i64 x.price, .int .i64 x.grams]] w (GivesCopy w x) := by
  have hb2 : Below w.heap.size w ((w.alloc (.cells #[.string x.code, .int .i64 x.slot, .slice pA x.ports.length pc, .int .i64 x.price, .int .i64 x.grams] 37)).alloc (.cells #[.string ⟨#[]⟩, .int .i64 0, .slice none 0 0, .int .i64 0, .int .i64 0] 37)) := bthen (balloc w _) (balloc _ _)
  have hrW := hr.below hb2
  go_enter Try.func99, Try.ntmps99
  go_wp2_with fail
  have y0 : ((w.alloc (.cells #[.string x.code, .int .i64 x.slot, .slice pA x.ports.length pc, .int .i64 x.price, .int .i64 x.grams] 37)).alloc (.cells #[.string ⟨#[]⟩, .int .i64 0, .slice none 0 0, .int .i64 0, .int .i64 0] 37)).cell? ⟨w.heap.size, 0, none⟩ = some (.string x.code) := by go_simp
  have y1 : ((w.alloc (.cells #[.string x.code, .int .i64 x.slot, .slice pA x.ports.length pc, .int .i64 x.price, .int .i64 x.grams] 37)).alloc (.cells #[.string ⟨#[]⟩, .int .i64 0, .slice none 0 0, .int .i64 0, .int .i64 0] 37)).cell? ⟨w.heap.size, 1, none⟩ = some (.int .i64 x.slot) := by go_simp
  have y2 : ((w.alloc (.cells #[.string x.code, .int .i64 x.slot, .slice pA x.ports.length pc, .int .i64 x.price, .int .i64 x.grams] 37)).alloc (.cells #[.string ⟨#[]⟩, .int .i64 0, .slice none 0 0, .int .i64 0, .int .i64 0] 37)).cell? ⟨w.heap.size, 2, none⟩ = some (.slice pA x.ports.length pc) := by go_simp
  have y3 : ((w.alloc (.cells #[.string x.code, .int .i64 x.slot, .slice pA x.ports.length pc, .int .i64 x.price, .int .i64 x.grams] 37)).alloc (.cells #[.string ⟨#[]⟩, .int .i64 0, .slice none 0 0, .int .i64 0, .int .i64 0] 37)).cell? ⟨w.heap.size, 3, none⟩ = some (.int .i64 x.price) := by go_simp
  have y4 : ((w.alloc (.cells #[.string x.code, .int .i64 x.slot, .slice pA x.ports.length pc, .int .i64 x.price, .int .i64 x.grams] 37)).alloc (.cells #[.string ⟨#[]⟩, .int .i64 0, .slice none 0 0, .int .i64 0, .int .i64 0] 37)).cell? ⟨w.heap.size, 4, none⟩ = some (.int .i64 x.grams) := by go_simp
  have z0 : ((w.alloc (.cells #[.string x.code, .int .i64 x.slot, .slice pA x.ports.length pc, .int .i64 x.price, .int .i64 x.grams] 37)).alloc (.cells #[.string ⟨#[]⟩, .int .i64 0, .slice none 0 0, .int .i64 0, .int .i64 0] 37)).cell? ⟨w.heap.size + 1, 0, none⟩ = some (.string ⟨#[]⟩) := by go_simp
  have z1 : ((w.alloc (.cells #[.string x.code, .int .i64 x.slot, .slice pA x.ports.length pc, .int .i64 x.price, .int .i64 x.grams] 37)).alloc (.cells #[.string ⟨#[]⟩, .int .i64 0, .slice none 0 0, .int .i64 0, .int .i64 0] 37)).cell? ⟨w.heap.size + 1, 1, none⟩ = some (.int .i64 0) := by go_simp
  have z2 : ((w.alloc (.cells #[.string x.code, .int .i64 x.slot, .slice pA x.ports.length pc, .int .i64 x.price, .int .i64 x.grams] 37)).alloc (.cells #[.string ⟨#[]⟩, .int .i64 0, .slice none 0 0, .int .i64 0, .int .i64 0] 37)).cell? ⟨w.heap.size + 1, 2, none⟩ = some (.slice none 0 0) := by go_simp
  have z3 : ((w.alloc (.cells #[.string x.code, .int .i64 x.slot, .slice pA x.ports.length pc, .int .i64 x.price, .int .i64 x.grams] 37)).alloc (.cells #[.string ⟨#[]⟩, .int .i64 0, .slice none 0 0, .int .i64 0, .int .i64 0] 37)).cell? ⟨w.heap.size + 1, 3, none⟩ = some (.int .i64 0) := by go_simp
  have z4 : ((w.alloc (.cells #[.string x.code, .int .i64 x.slot, .slice pA x.ports.length pc, .int .i64 x.price, .int .i64 x.grams] 37)).alloc (.cells #[.string ⟨#[]⟩, .int .i64 0, .slice none 0 0, .int .i64 0, .int .i64 0] 37)).cell? ⟨w.heap.size + 1, 4, none⟩ = some (.int .i64 0) := by go_simp
  have f1 : ∀ j, ((w.alloc (.cells #[.string x.code, .int .i64 x.slot, .slice pA x.ports.length pc, .int .i64 x.price, .int .i64 x.grams] 37)).alloc (.cells #[.string ⟨#[]⟩, .int .i64 0, .slice none 0 0, .int .i64 0, .int .i64 0] 37)).frozen? ⟨w.heap.size + 1, j, none⟩ = false := fun j => by go_simp
  have hs2 : ((w.alloc (.cells #[.string x.code, .int .i64 x.slot, .slice pA x.ports.length pc, .int .i64 x.price, .int .i64 x.grams] 37)).alloc (.cells #[.string ⟨#[]⟩, .int .i64 0, .slice none 0 0, .int .i64 0, .int .i64 0] 37)).heap.size ≤ w.heap.size + 2 := by simp
  have hs3 : w.heap.size + 2 ≤ ((w.alloc (.cells #[.string x.code, .int .i64 x.slot, .slice pA x.ports.length pc, .int .i64 x.price, .int .i64 x.grams] 37)).alloc (.cells #[.string ⟨#[]⟩, .int .i64 0, .slice none 0 0, .int .i64 0, .int .i64 0] 37)).heap.size := by simp
  generalize ((w.alloc (.cells #[.string x.code, .int .i64 x.slot, .slice pA x.ports.length pc, .int .i64 x.price, .int .i64 x.grams] 37)).alloc (.cells #[.string ⟨#[]⟩, .int .i64 0, .slice none 0 0, .int .i64 0, .int .i64 0] 37)) = W at y0 y1 y2 y3 y4 z0 z1 z2 z3 z4 f1 hs2 hs3 hb2 hrW ⊢
  generalize hg1 : w.heap.size + 1 = g1 at z0 z1 z2 z3 z4 f1 ⊢
  generalize hg0 : w.heap.size = g0 at y0 y1 y2 y3 y4 hb2 hrW hs2 hs3 ⊢
  have hownE : ∀ v : World, v.heap.size = W.heap.size → Own (v.alloc (.cells #[] 23)) g0 23 3 portC (some ⟨W.heap.size, 0, none⟩) 0 [] := fun v hv => by
    have := Own.made (w := v) (base := g0) (E := 23) (sz := 3) (f := portC) #[] (by omega) rfl
    rwa [hv] at this
  have HO := Lib.hid hownE; clear hownE
  have HR : Hid (∀ v : World, Below W.heap.size W v → Rd v g0 3 portC pA x.ports) := fun v hv => hrW.below (hv.mono (by omega))
  have HS : Hid (∀ v : World, v.heap[g0]? = W.heap[g0]? → v.cell? ⟨g0, 0, none⟩ = some (.string x.code) ∧ v.cell? ⟨g0, 1, none⟩ = some (.int .i64 x.slot) ∧ v.cell? ⟨g0, 2, none⟩ = some (.slice pA x.ports.length pc) ∧ v.cell? ⟨g0, 3, none⟩ = some (.int .i64 x.price) ∧ v.cell? ⟨g0, 4, none⟩ = some (.int .i64 x.grams)) := fun v hv => ⟨(World.cell?_of_block (a := ⟨g0, 0, none⟩) hv).trans y0, (World.cell?_of_block (a := ⟨g0, 1, none⟩) hv).trans y1, (World.cell?_of_block (a := ⟨g0, 2, none⟩) hv).trans y2, (World.cell?_of_block (a := ⟨g0, 3, none⟩) hv).trans y3, (World.cell?_of_block (a := ⟨g0, 4, none⟩) hv).trans y4⟩
  have hSA := Lib.hid (fun o : Obj => HS.out (W.alloc o) ((balloc W o).block g0 (by omega)))
  have hSB := Lib.hid (fun o : Obj => HS.out (W.alloc o).drew ((balloc W o).block g0 (by omega)))
  have hg01 : g0 ≠ g1 := by omega
  have hAp : ∀ g, g < W.heap.size → Apart (some ⟨W.heap.size, 0, none⟩) g := fun g hg b o e => by
    simp only [Option.some.injEq, Addr.mk.injEq] at e
    omega
  go_region_held3 (fun w' => w'.cell? ⟨g0, 0, none⟩ = some (.string x.code) ∧ w'.cell? ⟨g0, 1, none⟩ = some (.int .i64 x.slot) ∧ w'.cell? ⟨g0, 2, none⟩ = some (.slice pA x.ports.length pc) ∧ w'.cell? ⟨g0, 3, none⟩ = some (.int .i64 x.price) ∧ w'.cell? ⟨g0, 4, none⟩ = some (.int .i64 x.grams)) (first | (with_reducible exact hS5.out _ _ _ _ _) | (with_reducible exact hSS.out) | (with_reducible exact HS.out _ rfl) | (with_reducible exact hSA.out _) | (with_reducible exact hSB.out _) | go_keep)
    ((refine step_append_slice (by rfl) _ _ _ (by rfl) g0 23 (.agg #[.int .i64 0, .int .i64 0, .bool false]) 3 24 Try.underlying35 infoPort rfl (by omega) (by omega) portC [] x.ports (some ⟨W.heap.size, 0, none⟩) 0 (by rfl) (by first | exact HO.out _ rfl | exact (HO.out _ rfl).keep (bdrew _)) pA pc g0 (by rfl) (by first | exact HR.out _ (balloc _ _) | exact HR.out _ ((balloc _ _).drew)) portC_len portC_one (by simp; omega) (by simp; omega) ?_; intro A2 c2 w4 hown4 hb4 hfar; have hp0 := hfar g0 (by first | omega | (simp; omega)) (hAp g0 (by omega)); have hp1 := hfar g1 (by first | omega | (simp; omega)) (hAp g1 (by omega)); have hq0 : w4.heap[g0]? = W.heap[g0]? := hp0.2.trans ((balloc W _).block g0 (by omega)); have hq1 : w4.heap[g1]? = W.heap[g1]? := hp1.2.trans ((balloc W _).block g1 (by omega)); have f2 : ∀ j, w4.frozen? ⟨g1, j, none⟩ = false := (fun j => (World.frozen?_of_block (a := ⟨g1, j, none⟩) hq1).trans (f1 j)); have x0 := (World.cell?_of_block (a := ⟨g1, 0, none⟩) hq1).trans z0; have x1 := (World.cell?_of_block (a := ⟨g1, 1, none⟩) hq1).trans z1; have x2 := (World.cell?_of_block (a := ⟨g1, 2, none⟩) hq1).trans z2; have x3 := (World.cell?_of_block (a := ⟨g1, 3, none⟩) hq1).trans z3; have x4 := (World.cell?_of_block (a := ⟨g1, 4, none⟩) hq1).trans z4; have hSS := Lib.hid (HS.out _ hq0); have hS5 := Lib.hid (fun u0 u1 u2 u3 u4 : Value => HS.out _ ((set5_heap hg01 u0 u1 u2 u3 u4).trans hq0)); have Q0 := Lib.hid hp0.1; have Q1 := Lib.hid hp1.1; have HF := Lib.hid (hown4.flat portC_len); have HC := Lib.hid hown4.cap; have HB := Lib.hid hb4; clear hfar hp0 hp1 hq0 hq1 hown4 hb4))
  go_wp2_with fail
  refine bodyPost_ret (v := .agg #[.string x.code, .int .i64 x.slot, .slice A2 x.ports.length c2, .int .i64 x.price, .int .i64 x.grams]) ?_ rfl ?_
  · simp [results, Try.results99, go_sem, cell_set, x0, x1, x2, x3, x4]
  · subst hg0
    have h1 : w.heap.size ≤ g1 := by omega
    refine ⟨A2, c2, rfl, (HF.out.keepAt fun g e _ => set5_heap (Q1.out g 0 e) _ _ _ _ _).mono (Nat.le_refl _) (by simp [World.setCell]), HC.out, ?_⟩
    exact ((((((hb2.trans ((balloc W _).drew.mono (by omega))).trans HB.out).setCell (p := ⟨g1, 0, none⟩) h1 _).setCell (p := ⟨g1, 1, none⟩) h1 _).setCell (p := ⟨g1, 2, none⟩) h1 _).setCell (p := ⟨g1, 3, none⟩) h1 _).setCell (p := ⟨g1, 4, none⟩) h1 _

end Go.Proofs.Ytlhbjgbkpjlacaa

namespace Go.Proofs.Ytlhbjgbkpjlacaa
set_option maxRecDepth 100000
open Go.RowKit

def idP (x : PartT) : PartT := x
def notCode (code : ByteArray) (x : PartT) : Bool := decide (¬ x.code = code)
def dropR (vs : List PartT) (code : ByteArray) : List PartT × Int := if partsB vs = true then (if findI vs code < 0 then ([], 4) else (keepTo (notCode code) idP vs vs.length, 0)) else ([], 1)
theorem five_cells {w : World} {g : Nat} {v0 v1 v2 v3 v4 : Value} (h0 : w.cell? ⟨g, 0, none⟩ = some v0) (h1 : w.cell? ⟨g, 1, none⟩ = some v1) (h2 : w.cell? ⟨g, 2, none⟩ = some v2) (h3 : w.cell? ⟨g, 3, none⟩ = some v3) (h4 : w.cell? ⟨g, 4, none⟩ = some v4) :
    ∀ j u, [v0, v1, v2, v3, v4][j]? = some u → w.cell? ⟨g, j, none⟩ = some u
  | 0, u, hj => by simp at hj; rw [← hj]; exact h0
  | 1, u, hj => by simp at hj; rw [← hj]; exact h1
  | 2, u, hj => by simp at hj; rw [← hj]; exact h2
  | 3, u, hj => by simp at hj; rw [← hj]; exact h3
  | 4, u, hj => by simp at hj; rw [← hj]; exact h4
  | _ + 5, u, hj => by simp at hj
theorem partC_one (m : PartM) : ∀ u ∈ partC m, u.oneCell' = true := fun u hu => by
  simp only [partC, List.mem_cons, List.not_mem_nil, or_false] at hu
  rcases hu with rfl | rfl | rfl | rfl | rfl <;> rfl
/-- A slice of parts that grows. -/
def GrowP (base : Nat) (w : World) (A : Option Addr) (c : Nat) (ms : List PartM) : Prop := Own w base 37 5 partC A c ms ∧ Inner w base w.heap.size A ms
theorem GrowP.step {base : Nat} {w w' : World} {A : Option Addr} {c : Nat} {ms : List PartM} (h : GrowP base w A c ms) (hb : Below w.heap.size w w') : GrowP base w' A c ms := ⟨h.1.keep hb, h.2.below hb (Nat.le_refl _) hb.size⟩

set_option maxHeartbeats 2000000 in
theorem DropPart_impl (A : Option Addr) (c : Nat) (vs : List PartT) (code : ByteArray) (w : World) (hr : RdV w w.heap.size A vs) (hs : SmallV vs) :
    Calls Try.prog 22 #[.slice A vs.length c, .string code] w (GivesParts2 w (dropR vs code)) := by
  have hJ := areParts_impl A c vs w hr hs.1 hs.2
  have hm := hs.1
  have hs2 := Lib.hid hs.2
  have hbd := findI_bd vs code hs.1
  have HF0 : Hid (∀ v : World, RdV v v.heap.size A vs → Calls Try.prog 95 #[.slice A vs.length c, .string code] v fun e w' => e = .returned (.int .i64 (findI vs code)) ∧ Below v.heap.size v w') := fun v hv => findPart_any A c vs code v hv hs.1
  clear hs
  rcases codeI_cases vs code with ⟨hp, _⟩ | ⟨hp, hn, _⟩ | ⟨hp, hn, _⟩
  · have HF : Hid (dropR vs code = ([], 1)) := by unfold Hid dropR; rw [if_neg (by simp [hp])]
    generalize dropR vs code = R at HF ⊢
    rw [hp] at hJ
    have HJ := Lib.hid hJ; clear hJ hp
    go_enter Try.func22, Try.ntmps22
    go_wp2_with fail
    refine HJ.out.mono ?_
    rintro e w1 ⟨rfl, hb1⟩
    go_wp2_with fail
    go_ret2
    exact ⟨none, 0, by rw [HF.out]; rfl, by rw [HF.out]; exact FlatR.nil, by rw [HF.out]; exact Nat.le_refl _, hb1⟩
  · have HF : Hid (dropR vs code = ([], 4)) := by unfold Hid dropR; rw [if_pos hp, if_pos hn]
    generalize dropR vs code = R at HF ⊢
    rw [hp] at hJ
    have HJ := Lib.hid hJ; clear hJ hp
    generalize findI vs code = n at hbd hn HF0
    go_enter Try.func22, Try.ntmps22
    go_wp2_with fail
    refine HJ.out.mono ?_
    rintro e w1 ⟨rfl, hb1⟩
    go_wp2_with fail
    refine (HF0.out w1 (hr.next hb1)).mono ?_
    rintro e w2 ⟨rfl, hb2⟩
    go_wp2_with fail
    go_ret2
    exact ⟨none, 0, by rw [HF.out]; rfl, by rw [HF.out]; exact FlatR.nil, by rw [HF.out]; exact Nat.le_refl _, bthen hb1 hb2⟩
  · have HF : Hid (dropR vs code = (keepTo (notCode code) idP vs vs.length, 0)) := by unfold Hid dropR; rw [if_pos hp, if_neg (by omega)]
    generalize dropR vs code = R at HF ⊢
    have hlen := partsB_len hp
    rw [hp] at hJ
    have HJ := Lib.hid hJ; clear hJ hp
    generalize findI vs code = n at hbd hn HF0
    go_enter Try.func22, Try.ntmps22
    go_wp2_with fail
    refine HJ.out.mono ?_
    rintro e w1 ⟨rfl, hb1⟩
    go_wp2_with fail
    refine (HF0.out w1 (hr.next hb1)).mono ?_
    rintro e w2 ⟨rfl, hb2⟩
    have hb12 := bthen hb1 hb2
    clear hb1 hb2
    go_wp2_with fail
    go_loopw [6, 18] (fun out i wr => ∃ (k : Nat) (A' : Option Addr) (c' : Nat) (ms : List PartM), k ≤ vs.length ∧ i = .int .i64 k ∧ out = .slice A' ms.length c' ∧ ms.map PartM.val = keepTo (notCode code) idP vs k ∧ GrowP w.heap.size wr A' c' ms ∧ Below w.heap.size w wr) (fun _ i _ => vs.length - (intOf i).toNat)
    case atStart => exact ⟨0, _, _, [], Nat.zero_le _, rfl, rfl, rfl, ⟨Own.nil, Inner.nil⟩, hb12⟩
    case round =>
      obtain ⟨k, A', c', ms, hk, rfl, rfl, hval, hown, hb⟩ := hrel
      have Ho := Lib.hid hown; clear hown
      have Hv := Lib.hid hval; clear hval
      have hml : ms.length ≤ k := by
        have := congrArg List.length Hv.out
        rw [List.length_map] at this
        rw [this]
        exact keepTo_le _ _ _ _
      by_cases hlt : k < vs.length
      · have hx : vs[k]? = some vs[k] := List.getElem?_eq_getElem hlt
        obtain ⟨b, o, rfl⟩ := hr.addr (by omega)
        obtain ⟨hB, pA, pc, q0, q1, q2, q3, q4, hpr, _⟩ := (hr.below hb).cells hx
        generalize vs[k] = t at q0 q1 q2 q3 q4 hx hpr
        have hpl := (hs2.out t (List.mem_of_getElem? hx)).2
        have Hx := Lib.hid hx; clear hx
        by_cases hc : t.code = code
        · have HD := Lib.hid (keepTo_no (p := notCode code) (g := idP) Hx.out (by simp [notCode, hc]))
          have hcc : (t.code.toList == code.toList) = true := by simp [hc]
          clear hc
          go_wp2_with fail
          exact ⟨⟨k + 1, A', c', ms, by omega, by go_num, rfl, by rw [Hv.out, HD.out], Ho.out.step (balloc _ _), (hb.alloc hb.size (.cells #[.string t.code, .int .i64 t.slot, .slice pA t.ports.length pc, .int .i64 t.price, .int .i64 t.grams] 37))⟩, by simp [intOf]; omega⟩
        · have HD := Lib.hid (keepTo_yes (p := notCode code) (g := idP) Hx.out (by simp [notCode, hc]))
          have hcc : (t.code.toList == code.toList) = false := by simp; exact fun e => hc (str_eq.1 e)
          clear hc
          go_wp2_with fail
          have hprV : Rd (wr.alloc (.cells #[.string t.code, .int .i64 t.slot, .slice pA t.ports.length pc, .int .i64 t.price, .int .i64 t.grams] 37)) (wr.alloc (.cells #[.string t.code, .int .i64 t.slot, .slice pA t.ports.length pc, .int .i64 t.price, .int .i64 t.grams] 37)).heap.size 3 portC pA t.ports := (hpr.more hb.size).next (balloc wr _)
          have HoV := Lib.hid (Ho.out.step (balloc wr (.cells #[.string t.code, .int .i64 t.slot, .slice pA t.ports.length pc, .int .i64 t.price, .int .i64 t.grams] 37)))
          have hbV := hb.alloc hb.size (.cells #[.string t.code, .int .i64 t.slot, .slice pA t.ports.length pc, .int .i64 t.price, .int .i64 t.grams] 37)
          generalize (wr.alloc (.cells #[.string t.code, .int .i64 t.slot, .slice pA t.ports.length pc, .int .i64 t.price, .int .i64 t.grams] 37)) = V at hprV HoV hbV ⊢
          clear q0 q1 q2 q3 q4 hpr Ho hb
          refine (copyPart_any t pA pc V hprV hpl).mono ?_
          rintro e w2 ⟨A1, c1, rfl, f1, hc1, hb2⟩
          have hs2' := hb2.size
          have hbase := hbV.size
          have f1' := Lib.hid f1; clear f1
          have hb2' := Lib.hid hb2; clear hb2
          go_wp2_with (at_builtin; refine wpList_append_far rfl _ _ _ rfl w.heap.size 37 (.agg #[.string ⟨#[]⟩, .int .i64 0, .slice none 0 0, .int .i64 0, .int .i64 0]) 5 64 Try.underlying34 infoPart rfl (by omega) (by omega) partC ms ⟨t.code, t.slot, A1, c1, t.ports, t.price, t.grams⟩ A' c' rfl ((HoV.out.1.keep hb2'.out).keep (balloc _ _)) (w2.heap.size) _ rfl rfl (five_cells (by go_simp) (by go_simp) (by go_simp) (by go_simp) (by go_simp)) (partC_one _) (by omega) (by simp; omega) ?_)
          intro A2 c2 w4 hown4 hb4 hfar
          have hI := Lib.hid (HoV.out.2.append (m := ⟨t.code, t.slot, A1, c1, t.ports, t.price, t.grams⟩) HoV.out.1.lt hbase hb2'.out f1'.out hc1 rfl hfar hb4.size)
          have Ho4 := Lib.hid hown4; clear hown4 hfar
          have hb4' := Lib.hid hb4; clear hb4
          go_wp2_with fail
          exact ⟨⟨k + 1, A2, c2, ms ++ [⟨t.code, t.slot, A1, c1, t.ports, t.price, t.grams⟩], by omega, by go_num, by simp, by rw [HD.out, List.map_append, Hv.out]; rfl, ⟨Ho4.out, hI.out⟩, (bthen' (bthen' hbV hb2'.out) (balloc _ _)).trans hb4'.out⟩, by simp [intOf]; omega⟩
      · obtain rfl : k = vs.length := by omega
        go_wp2_with fail
        go_ret2
        exact ⟨A', c', by rw [HF.out, ← Hv.out]; simp only [List.length_map]; rfl, by rw [HF.out]; exact ⟨ms, Hv.out, Ho.out.1.flat partC_len, Ho.out.2⟩, by rw [HF.out, ← Hv.out]; simp only [List.length_map]; exact Ho.out.1.cap, hb⟩

set_option maxHeartbeats 2000000 in
theorem DropPart_spec (A : Option Addr) (c : Nat) (vs : List PartT) (code : ByteArray) (w : World) (hr : RdV w w.heap.size A vs) (hs : SmallV vs) :
    Calls Try.prog 23 #[.slice A vs.length c, .string code] w (GivesParts2 w (dropR vs code)) := by
  have hJ := l16Code_any A c vs code w hr hs
  have hm := hs.1
  have hs2 := Lib.hid hs.2
  clear hs
  rcases codeI_cases vs code with ⟨hp, e⟩ | ⟨hp, hn, e⟩ | ⟨hp, hn, e⟩
  · have HF : Hid (dropR vs code = ([], 1)) := by unfold Hid dropR; rw [if_neg (by simp [hp])]
    generalize dropR vs code = R at HF ⊢
    rw [e] at hJ
    have HJ := Lib.hid hJ; clear hJ hp e
    go_enter Try.func23, Try.ntmps23
    go_wp2_with fail
    refine HJ.out.mono ?_
    rintro e w1 ⟨rfl, hb1⟩
    go_wp2_with fail
    go_ret2
    exact ⟨none, 0, by rw [HF.out]; rfl, by rw [HF.out]; exact FlatR.nil, by rw [HF.out]; exact Nat.le_refl _, hb1⟩
  · have HF : Hid (dropR vs code = ([], 4)) := by unfold Hid dropR; rw [if_pos hp, if_pos hn]
    generalize dropR vs code = R at HF ⊢
    rw [e] at hJ
    have HJ := Lib.hid hJ; clear hJ hp e hn
    go_enter Try.func23, Try.ntmps23
    go_wp2_with fail
    refine HJ.out.mono ?_
    rintro e w1 ⟨rfl, hb1⟩
    go_wp2_with fail
    go_ret2
    exact ⟨none, 0, by rw [HF.out]; rfl, by rw [HF.out]; exact FlatR.nil, by rw [HF.out]; exact Nat.le_refl _, hb1⟩
  · have HF : Hid (dropR vs code = (keepTo (notCode code) idP vs vs.length, 0)) := by unfold Hid dropR; rw [if_pos hp, if_neg (by omega)]
    generalize dropR vs code = R at HF ⊢
    have hlen := partsB_len hp
    rw [e] at hJ
    have HJ := Lib.hid hJ; clear hJ hp e hn
    go_enter Try.func23, Try.ntmps23
    go_wp2_with fail
    refine HJ.out.mono ?_
    rintro e w1 ⟨rfl, hb12⟩
    go_wp2_with fail
    go_loopw [7, 8] (fun out i wr => ∃ (k : Nat) (A' : Option Addr) (c' : Nat) (ms : List PartM), k ≤ vs.length ∧ i = .int .i64 k ∧ out = .slice A' ms.length c' ∧ ms.map PartM.val = keepTo (notCode code) idP vs k ∧ GrowP w.heap.size wr A' c' ms ∧ Below w.heap.size w wr) (fun _ i _ => vs.length - (intOf i).toNat)
    case atStart => exact ⟨0, _, _, [], Nat.zero_le _, rfl, rfl, rfl, ⟨Own.made _ hb12.size rfl, Inner.nil⟩, bthen hb12 (balloc _ _)⟩
    case round =>
      obtain ⟨k, A', c', ms, hk, rfl, rfl, hval, hown, hb⟩ := hrel
      have Ho := Lib.hid hown; clear hown
      have Hv := Lib.hid hval; clear hval
      have hml : ms.length ≤ k := by
        have := congrArg List.length Hv.out
        rw [List.length_map] at this
        rw [this]
        exact keepTo_le _ _ _ _
      by_cases hlt : k < vs.length
      · have hx : vs[k]? = some vs[k] := List.getElem?_eq_getElem hlt
        obtain ⟨b, o, rfl⟩ := hr.addr (by omega)
        obtain ⟨hB, pA, pc, q0, q1, q2, q3, q4, hpr, _⟩ := (hr.below hb).cells hx
        generalize vs[k] = t at q0 q1 q2 q3 q4 hx hpr
        have hpl := (hs2.out t (List.mem_of_getElem? hx)).2
        have Hx := Lib.hid hx; clear hx
        by_cases hc : t.code = code
        · have HD := Lib.hid (keepTo_no (p := notCode code) (g := idP) Hx.out (by simp [notCode, hc]))
          have hcc : (t.code.toList == code.toList) = true := by simp [hc]
          clear hc
          go_wp2_with fail
          exact ⟨⟨k + 1, A', c', ms, by omega, by go_num, rfl, by rw [Hv.out, HD.out], Ho.out, hb⟩, by simp [intOf]; omega⟩
        · have HD := Lib.hid (keepTo_yes (p := notCode code) (g := idP) Hx.out (by simp [notCode, hc]))
          have hcc : (t.code.toList == code.toList) = false := by simp; exact fun e => hc (str_eq.1 e)
          clear hc
          go_wp2_with fail
          have hprV := hpr.more hb.size
          have HoV := Lib.hid Ho.out
          have hbV := hb
          clear q0 q1 q2 q3 q4 hpr Ho hb
          generalize wr = V at hprV HoV hbV ⊢
          refine (l16Copy_any t pA pc V hprV hpl).mono ?_
          rintro e w2 ⟨A1, c1, rfl, f1, hc1, hb2⟩
          have hs2' := hb2.size
          have hbase := hbV.size
          have f1' := Lib.hid f1; clear f1
          have hb2' := Lib.hid hb2; clear hb2
          go_wp2_with (at_builtin; refine wpList_append_far rfl _ _ _ rfl w.heap.size 37 (.agg #[.string ⟨#[]⟩, .int .i64 0, .slice none 0 0, .int .i64 0, .int .i64 0]) 5 64 Try.underlying34 infoPart rfl (by omega) (by omega) partC ms ⟨t.code, t.slot, A1, c1, t.ports, t.price, t.grams⟩ A' c' rfl ((HoV.out.1.keep hb2'.out).keep (balloc _ _)) (w2.heap.size) _ rfl rfl (five_cells (by go_simp) (by go_simp) (by go_simp) (by go_simp) (by go_simp)) (partC_one _) (by omega) (by simp; omega) ?_)
          intro A2 c2 w4 hown4 hb4 hfar
          have hI := Lib.hid (HoV.out.2.append (m := ⟨t.code, t.slot, A1, c1, t.ports, t.price, t.grams⟩) HoV.out.1.lt hbase hb2'.out f1'.out hc1 rfl hfar hb4.size)
          have Ho4 := Lib.hid hown4; clear hown4 hfar
          have hb4' := Lib.hid hb4; clear hb4
          go_wp2_with fail
          exact ⟨⟨k + 1, A2, c2, ms ++ [⟨t.code, t.slot, A1, c1, t.ports, t.price, t.grams⟩], by omega, by go_num, by simp, by rw [HD.out, List.map_append, Hv.out]; rfl, ⟨Ho4.out, hI.out⟩, (bthen' (bthen' hbV hb2'.out) (balloc _ _)).trans hb4'.out⟩, by simp [intOf]; omega⟩
      · obtain rfl : k = vs.length := by omega
        go_wp2_with fail
        go_ret2
        exact ⟨A', c', by rw [HF.out, ← Hv.out]; simp only [List.length_map]; rfl, by rw [HF.out]; exact ⟨ms, Hv.out, Ho.out.1.flat partC_len, Ho.out.2⟩, by rw [HF.out, ← Hv.out]; simp only [List.length_map]; exact Ho.out.1.cap, hb⟩

end Go.Proofs.Ytlhbjgbkpjlacaa

namespace Go.Proofs.Ytlhbjgbkpjlacaa
set_option maxRecDepth 100000
open Go.RowKit

theorem Inner.only {w w' : World} {lo hi hi' a b : Nat} {A : Option Addr} {ms : List PartM} (h : Inner w lo hi A ms) (hb : Only a b w w') (hs : hi ≤ w.heap.size) (hd : hi ≤ a ∨ b ≤ lo) (hh : hi ≤ hi') : Inner w' lo hi' A ms :=
  ⟨fun m hm => ((h.flat m hm).only hb hs hd).mono (Nat.le_refl _) hh, h.cap, h.far, h.apart⟩
/-- One part more: its ports are new, the row has grown; a block below the base may have turned. -/
theorem Inner.appendO {wr w2 w3 w4 : World} {base n c b : Nat} {A A2 : Option Addr} {ms : List PartM} {m : PartM} {o : Obj} (h : Inner wr base wr.heap.size A ms)
    (hA : ∀ k, (Value.slice A n c).ownBlock = some k → base ≤ k ∧ k < wr.heap.size) (hbase : base ≤ wr.heap.size) (hb2 : Only b (b + 1) wr w2) (hbb : b < base) (fm : Flat w2 wr.heap.size w2.heap.size 23 3 portC m.pA m.ports) (hpc : m.ports.length ≤ m.pc)
    (e3 : w3 = w2.alloc o) (hfar : ∀ g, g < w2.heap.size + 1 → Apart A g → Apart A2 g ∧ w4.heap[g]? = w3.heap[g]?) (hs4 : w3.heap.size ≤ w4.heap.size) : Inner w4 base w4.heap.size A2 (ms ++ [m]) := by
  have hs2 := hb2.size
  have hs3 : w3.heap.size = w2.heap.size + 1 := by rw [e3]; simp
  have h32 : ∀ g, g < w2.heap.size → w3.heap[g]? = w2.heap[g]? := fun g hg => by rw [e3]; exact (balloc w2 o).block g hg
  have hold : ∀ m' ∈ ms, ∀ g, m'.pA = some ⟨g, 0, none⟩ → 0 < m'.ports.length → base ≤ g ∧ g < wr.heap.size := fun m' hm' g e hp => by
    obtain ⟨g', _, e', h1, h2, _⟩ := h.flat m' hm' hp
    rw [e] at e'
    simp only [Option.some.injEq, Addr.mk.injEq] at e'
    omega
  have hnew : ∀ g, m.pA = some ⟨g, 0, none⟩ → 0 < m.ports.length → wr.heap.size ≤ g ∧ g < w2.heap.size := fun g e hp => by
    obtain ⟨g', _, e', h1, h2, _⟩ := fm hp
    rw [e] at e'
    simp only [Option.some.injEq, Addr.mk.injEq] at e'
    omega
  have hAn : ∀ g, wr.heap.size ≤ g → Apart A g := fun g hg b o' e => by
    subst e
    have := hA b rfl
    omega
  refine ⟨fun m' hm' => ?_, fun m' hm' => ?_, fun m' hm' hp g e => ?_, ?_⟩
  · rcases List.mem_append.1 hm' with h1 | h1
    · refine ((h.flat m' h1).keepAt fun g e hp => ?_).mono (Nat.le_refl _) (by omega)
      have hg := hold m' h1 g e hp
      rw [(hfar g (by omega) (h.far m' h1 hp g e)).2, h32 g (by omega), hb2.block g hg.2 (by omega)]
    · simp only [List.mem_singleton] at h1
      subst h1
      refine (fm.keepAt fun g e hp => ?_).mono hbase (by omega)
      have hg := hnew g e hp
      rw [(hfar g (by omega) (hAn g hg.1)).2, h32 g hg.2]
  · rcases List.mem_append.1 hm' with h1 | h1
    · exact h.cap m' h1
    · simp only [List.mem_singleton] at h1
      subst h1
      exact hpc
  · rcases List.mem_append.1 hm' with h1 | h1
    · have hg := hold m' h1 g e hp
      exact (hfar g (by omega) (h.far m' h1 hp g e)).1
    · simp only [List.mem_singleton] at h1
      subst h1
      have hg := hnew g e hp
      exact (hfar g (by omega) (hAn g hg.1)).1
  · rw [List.pairwise_append]
    refine ⟨h.apart, List.pairwise_singleton _ _, fun m1 h1 m2 h2 hp1 hp2 => ?_⟩
    simp only [List.mem_singleton] at h2
    subst h2
    obtain ⟨g1, _, e1, _⟩ := h.flat m1 h1 hp1
    obtain ⟨g2, _, e2, _⟩ := fm hp2
    have a1 := hold m1 h1 g1 e1 hp1
    have a2 := hnew g2 e2 hp2
    rw [e1, e2]
    intro e
    simp only [Option.some.injEq, Addr.mk.injEq] at e
    omega

def SmallM (m : PartM) : Prop := m.code.size ≤ 64 ∧ m.ports.length ≤ 64
def PartT.at_ (x : PartT) (pA : Option Addr) (pc : Nat) : PartM := ⟨x.code, x.slot, pA, pc, x.ports, x.price, x.grams⟩
/-- A list of parts that grows, a table of texts in block nt, a source in hand. -/
structure ListSt (V w : World) (b : Nat) (A : Option Addr) (c : Nat) (xs : List Int) (nt : Nat) (tb : Array Value) (LA : Option Addr) (lc : Nat) (ms : List PartM) : Prop where
  feed : Feed w b A c xs
  own : Own w V.heap.size 37 5 partC LA lc ms
  inner : Inner w V.heap.size w.heap.size LA ms
  old : Only b (b + 1) V w
  lt : b < V.heap.size
  small : ∀ m ∈ ms, SmallM m
  tab : w.heap[nt]? = some (.cells tb 9 (0, 0))
  ntV : V.heap.size ≤ nt
section
variable {V w w' : World} {b c lc nt : Nat} {A LA : Option Addr} {xs : List Int} {tb : Array Value} {ms : List PartM}
theorem ListSt.turn (h : ListSt V w b A c xs nt tb LA lc ms) (hF : Feed w' b A c xs) (hO : Only b (b + 1) w w') : ListSt V w' b A c xs nt tb LA lc ms := by
  have := h.lt
  have := h.ntV
  have hnt := (Array.getElem?_eq_some_iff.1 h.tab).1
  exact ⟨hF, h.own.only hO (by omega), h.inner.only hO (Nat.le_refl _) (Or.inr (by omega)) hO.size, h.old.trans hO, h.lt, h.small, (hO.block nt hnt (by omega)).trans h.tab, h.ntV⟩
theorem ListSt.next (h : ListSt V w b A c xs nt tb LA lc ms) (hb : Below w.heap.size w w') : ListSt V w' b A c xs nt tb LA lc ms := h.turn (h.feed.next hb) (Only.of_below hb)
theorem ListSt.cell (h : ListSt V w b A c xs nt tb LA lc ms) {k : Nat} {v : Value} (hv : tb[k]? = some v) : w.cell? ⟨nt, k, none⟩ = some v := by
  rw [cell_of_row w nt k tb 9 (0, 0) h.tab]
  exact hv
/-- A part more. -/
theorem ListSt.grow {w2 w4 : World} {x : PartT} {pA A2 : Option Addr} {pc c2 : Nat} {o : Obj} (h : ListSt V w b A c xs nt tb LA lc ms) (hF2 : Feed w2 b A c xs) (hO2 : Only b (b + 1) w w2) (fm : Flat w2 w.heap.size w2.heap.size 23 3 portC pA x.ports) (hpc : x.ports.length ≤ pc) (h1 : x.code.size ≤ 64) (h2 : x.ports.length ≤ 64)
    (hown : Own w4 V.heap.size 37 5 partC A2 c2 (ms ++ [x.at_ pA pc])) (hb4 : Below V.heap.size (w2.alloc o) w4) (hfar : ∀ g, g < w2.heap.size + 1 → Apart LA g → Apart A2 g ∧ w4.heap[g]? = (w2.alloc o).heap[g]?) :
    ListSt V w4 b A c xs nt tb A2 c2 (ms ++ [x.at_ pA pc]) := by
  have hlt := h.lt
  have hVs := h.old.size
  have hs2 := hO2.size
  have hb24 : Below V.heap.size w2 w4 := ((balloc w2 o).mono (by omega)).trans hb4
  have ht2 := h.turn hF2 hO2
  have hrowt : Row w2 nt 9 tb.size := ⟨tb, ht2.tab, rfl⟩
  have hap : Apart LA nt := ht2.own.apartType hrowt (by decide)
  have hnt2 := hrowt.lt
  have hsz : (w2.alloc o).heap.size = w2.heap.size + 1 := by simp
  refine ⟨hF2.under hb24 hlt, hown, h.inner.appendO (h.own.lt) hVs hO2 hlt fm hpc rfl hfar hb4.size, ?_, hlt, fun m hm => ?_, ?_, h.ntV⟩
  · have ho2 := ht2.old
    exact ⟨hb24.os.trans ho2.os, hb24.tape.trans ho2.tape, hb24.output.trans ho2.output, Nat.le_trans ho2.size hb24.size, fun k hk hn => (hb24.block k hk).trans (ho2.block k hk hn)⟩
  · rcases List.mem_append.1 hm with hm | hm
    · exact h.small m hm
    · simp only [List.mem_singleton] at hm
      subst hm
      exact ⟨h1, h2⟩
  · rw [(hfar nt (by omega) hap).2, (balloc w2 o).block nt hnt2]
    exact ht2.tab
end
/-- Parts that were drawn: any parts of small size. -/
def DrawnParts (w : World) (b : Nat) (A : Option Addr) (c : Nat) (xs : List Int) (e : Ending) (w' : World) : Prop := ∃ (LA : Option Addr) (lc : Nat) (vs : List PartT), e = .returned (.slice LA vs.length lc) ∧ FlatR w' w.heap.size w'.heap.size LA vs ∧ vs.length ≤ lc ∧ vs.length ≤ 64 ∧ (∀ x ∈ vs, x.code.size ≤ 64 ∧ x.ports.length ≤ 64) ∧ Feed w' b A c xs ∧ Only b (b + 1) w w'
theorem partC_len5 (m : PartM) : (partC m).length = 5 := rfl
theorem ListSt.drawn {V w : World} {b c lc nt : Nat} {A LA : Option Addr} {xs : List Int} {tb : Array Value} {ms : List PartM} (h : ListSt V w b A c xs nt tb LA lc ms) (hl : ms.length ≤ 64) : DrawnParts V b A c xs (.returned (.slice LA ms.length lc)) w :=
  ⟨LA, lc, ms.map PartM.val, by simp, ⟨ms, rfl, h.own.flat partC_len5, h.inner⟩, by simpa using h.own.cap, by simpa using hl, fun x hx => by
    obtain ⟨m, hm, rfl⟩ := List.mem_map.1 hx
    exact h.small m hm, h.feed, h.old⟩

end Go.Proofs.Ytlhbjgbkpjlacaa

namespace Go.Proofs.Ytlhbjgbkpjlacaa
set_option maxRecDepth 100000
open Go.RowKit

def outLen : Value → Nat
  | .slice _ n _ => n
  | _ => 0
set_option maxHeartbeats 2000000 in
theorem l16List_any (A : Option Addr) (c b : Nat) (xs : List Int) (w : World) (hF : Feed w b A c xs) :
    Calls Try.prog 93 #[.pointer (some ⟨b, 0, none⟩)] w (DrawnParts w b A c xs) := by
  have HN : Hid (∀ (v : World) (n : Int), n < 20000 → Feed v b A c xs → Calls Try.prog 91 #[.pointer (some ⟨b, 0, none⟩), .int .i64 n] v (Drawn v b A c xs n)) := fun v n hn h => l01Next_any A c b xs n v h.src h.rd h.byte h.small (by omega)
  have HG : Hid (∀ (v : World) (code : ByteArray), code.size ≤ 64 → Feed v b A c xs → Calls Try.prog 147 #[.pointer (some ⟨b, 0, none⟩), .string code] v (DrawnPart 3 v b A c xs)) := fun v code h1 h => l16Good_any A c b xs code h1 v h
  have hlb := hF.src.lt
  have hT : ∀ k, k < 8 → ∃ t : ByteArray, t.size ≤ 64 ∧ (names.map Value.string).toArray[k]? = some (.string t) := fun k hk => by
    have hk' : k < names.length := hk
    refine ⟨names[k], ?_, by simp [hk']⟩
    have : ∀ t ∈ names, t.size ≤ 64 := by decide
    exact this _ (List.getElem_mem _)
  have HT := Lib.hid hT; clear hT
  have HF := Lib.hid hF; clear hF
  go_enter Try.func93, Try.ntmps93
  go_wp2_with fail
  refine (l16Names_any _).mono ?_
  rintro e w1 ⟨rfl, rfl⟩
  have HL : Hid (ListSt w ((w.alloc (.cells #[] 37)).alloc (.cells (names.map Value.string).toArray 9)) b A c xs (w.heap.size + 1) (names.map Value.string).toArray (some ⟨w.heap.size, 0, none⟩) 0 []) := by
    have h1 := balloc w (.cells #[] 37)
    have h2 := balloc (w.alloc (.cells #[] 37)) (.cells (names.map Value.string).toArray 9)
    have e1 : (w.alloc (.cells #[] 37)).heap.size = w.heap.size + 1 := by simp
    refine ⟨(HF.out.next h1).next h2, (Own.made _ (Nat.le_refl _) rfl).keep h2, Inner.nil, Only.of_below (bthen h1 h2), hlb, fun m hm => absurd hm (by simp), ?_, by omega⟩
    rw [← e1]
    exact heap_alloc_new _ _
  have e1 : (w.alloc (.cells #[] 37)).heap.size = w.heap.size + 1 := by simp
  rw [e1]
  clear e1
  generalize (w.alloc (.cells #[] 37)).alloc (.cells (names.map Value.string).toArray 9) = W at HL ⊢
  generalize (names.map Value.string).toArray = tb at HT HL
  generalize hnt : w.heap.size + 1 = nt at HL ⊢
  go_wp2_with fail
  go_loopw [3, 5] (fun out i wr => ∃ (k : Nat) (LA : Option Addr) (lc : Nat) (ms : List PartM), k ≤ 8 ∧ ms.length ≤ k ∧ i = .int .i64 k ∧ out = .slice LA ms.length lc ∧ ListSt w wr b A c xs nt tb LA lc ms) (fun _ i _ => 8 - (intOf i).toNat)
  case atStart => exact ⟨0, _, _, [], by omega, Nat.zero_le _, rfl, rfl, HL.out⟩
  case round =>
    obtain ⟨k, LA, lc, ms, hk, hml, rfl, rfl, hL⟩ := hrel
    have HL1 := Lib.hid hL; clear hL
    by_cases hlt : k < 8
    · go_wp2_with fail
      refine (HN.out wr 3 (by omega) HL1.out.feed).mono ?_
      rintro e w2 ⟨v2, rfl, a0, a1, _, hS, hO⟩
      have HL2 := Lib.hid (HL1.out.turn (HL1.out.feed.turn hS hO) hO)
      clear hS hO HL1
      by_cases hv : 0 < v2
      · obtain ⟨t, ht, htb⟩ := HT.out k hlt
        have q := HL2.out.cell htb
        clear htb
        go_wp2_with fail
        refine (HG.out w2 t ht HL2.out.feed).mono ?_
        rintro e w3 ⟨x, pA, pc, rfl, x1, x2, ox, hF3, hO3⟩
        have hpc := ox.cap; have Fx := Lib.hid (ox.flat portC_len3); clear ox
        have HF3 := Lib.hid hF3; clear hF3
        have HO3 := Lib.hid hO3; clear hO3
        have s2 := HL2.out.old.size
        have s3 := HO3.out.size
        have HL3 := Lib.hid (HL2.out.turn HF3.out HO3.out)
        dsimp only [argV]
        go_wp2_with (at_builtin; refine wpList_append_far rfl _ _ _ rfl w.heap.size 37 (.agg #[.string ⟨#[]⟩, .int .i64 0, .slice none 0 0, .int .i64 0, .int .i64 0]) 5 64 Try.underlying34 infoPart rfl (by omega) (by omega) partC ms ⟨x.code, x.slot, pA, pc, x.ports, x.price, x.grams⟩ LA lc rfl (HL3.out.own.keep (balloc _ _)) w3.heap.size _ rfl rfl (five_cells (by go_simp) (by go_simp) (by go_simp) (by go_simp) (by go_simp)) (partC_one _) (by omega) (by simp; omega) ?_)
        intro A2 c2 w4 hown4 hb4 hfar
        have HL4 := Lib.hid (HL2.out.grow HF3.out HO3.out Fx.out hpc x1 (Nat.le_trans x2 (by omega)) hown4 hb4 hfar)
        clear hown4 hb4 hfar
        go_wp2_with fail
        exact ⟨⟨k + 1, A2, c2, ms ++ [x.at_ pA pc], by omega, by simp; omega, by go_num, by simp, HL4.out⟩, by simp [intOf]; omega⟩
      · go_wp2_with fail
        exact ⟨⟨k + 1, LA, lc, ms, by omega, by omega, by go_num, rfl, HL2.out⟩, by simp [intOf]; omega⟩
    · go_wp2_with fail
      refine (HN.out wr 40 (by omega) HL1.out.feed).mono ?_
      rintro e w2 ⟨v2, rfl, a0, a1, _, hS, hO⟩
      have HL2 := Lib.hid (HL1.out.turn (HL1.out.feed.turn hS hO) hO)
      clear hS hO HL1
      by_cases hv : v2 = 0
      · subst hv
        go_wp2_with fail
        refine (HG.out w2 ⟨#[97, 110, 99, 104, 111, 114]⟩ (by decide) HL2.out.feed).mono ?_
        rintro e w3 ⟨x, pA, pc, rfl, x1, x2, ox, hF3, hO3⟩
        have hpc := ox.cap; have Fx := Lib.hid (ox.flat portC_len3); clear ox
        have HF3 := Lib.hid hF3; clear hF3
        have HO3 := Lib.hid hO3; clear hO3
        have s2 := HL2.out.old.size
        have s3 := HO3.out.size
        have HL3 := Lib.hid (HL2.out.turn HF3.out HO3.out)
        dsimp only [argV]
        go_wp2_with (at_builtin; refine wpList_append_far rfl _ _ _ rfl w.heap.size 37 (.agg #[.string ⟨#[]⟩, .int .i64 0, .slice none 0 0, .int .i64 0, .int .i64 0]) 5 64 Try.underlying34 infoPart rfl (by omega) (by omega) partC ms ⟨x.code, x.slot, pA, pc, x.ports, x.price, x.grams⟩ LA lc rfl (HL3.out.own.keep (balloc _ _)) w3.heap.size _ rfl rfl (five_cells (by go_simp) (by go_simp) (by go_simp) (by go_simp) (by go_simp)) (partC_one _) (by omega) (by simp; omega) ?_)
        intro A2 c2 w4 hown4 hb4 hfar
        have HL4 := Lib.hid (HL2.out.grow HF3.out HO3.out Fx.out hpc x1 (Nat.le_trans x2 (by omega)) hown4 hb4 hfar)
        clear hown4 hb4 hfar
        go_wp2_with fail
        go_ret
        have := HL4.out.drawn (by simp; omega)
        simpa using this
      · have hvb : (v2 == 0) = false := by simp [hv]
        by_cases hv1 : v2 = 1
        · subst hv1
          go_wp2_with fail
          go_loopw [3, 6] (fun out i wr => ∃ (k2 : Nat) (MA : Option Addr) (mc : Nat) (ns : List PartM), k2 ≤ ns.length ∧ ns.length ≤ 17 ∧ i = .int .i64 k2 ∧ out = .slice MA ns.length mc ∧ ListSt w wr b A c xs nt tb MA mc ns) (fun out _ _ => 17 - outLen out)
          case atStart => exact ⟨0, LA, lc, ms, Nat.zero_le _, by omega, rfl, rfl, HL2.out⟩
          case round =>
            obtain ⟨k2, MA, mc, ns, hk2, hnl, rfl, rfl, hM⟩ := hrel
            have HM1 := Lib.hid hM; clear hM
            go_wp2_with fail
            refine (HN.out _ 2 (by omega) HM1.out.feed).mono ?_
            rintro e w4 ⟨v4, rfl, c0, c1, _, hS, hO⟩
            have HM2 := Lib.hid (HM1.out.turn (HM1.out.feed.turn hS hO) hO)
            have c1 := c1 (by omega)
            clear hS hO HM1
            by_cases hlt2 : (ns.length : Int) < 16 + v4
            · have hk17 : k2 ≤ 16 := by omega
              have hnl2 : ns.length ≤ 16 := by omega
              go_wp2_with fail
              have hsz : ∀ t : ByteArray, (⟨#[120]⟩ ++ t.extract k2 (k2 + 1) : ByteArray).size ≤ 64 := fun t => by
                rw [ByteArray.size_append, ByteArray.size_extract]
                have : (⟨#[120]⟩ : ByteArray).size = 1 := rfl
                omega
              refine (HG.out w4 _ (hsz _) HM2.out.feed).mono ?_
              rintro e w5 ⟨x, pA, pc, rfl, x1, x2, ox, hF5, hO5⟩
              have hpc := ox.cap; have Fx := Lib.hid (ox.flat portC_len3); clear ox
              have HF5 := Lib.hid hF5; clear hF5
              have HO5 := Lib.hid hO5; clear hO5
              have s4 := HM2.out.old.size
              have s5 := HO5.out.size
              have HM3 := Lib.hid (HM2.out.turn HF5.out HO5.out)
              dsimp only [argV]
              go_wp2_with (at_builtin; refine wpList_append_far rfl _ _ _ rfl w.heap.size 37 (.agg #[.string ⟨#[]⟩, .int .i64 0, .slice none 0 0, .int .i64 0, .int .i64 0]) 5 64 Try.underlying34 infoPart rfl (by omega) (by omega) partC ns ⟨x.code, x.slot, pA, pc, x.ports, x.price, x.grams⟩ MA mc rfl (HM3.out.own.keep (balloc _ _)) w5.heap.size _ rfl rfl (five_cells (by go_simp) (by go_simp) (by go_simp) (by go_simp) (by go_simp)) (partC_one _) (by omega) (by simp; omega) ?_)
              intro A6 c6 w6 hown6 hb6 hfar6
              have HM4 := Lib.hid (HM2.out.grow HF5.out HO5.out Fx.out hpc x1 (Nat.le_trans x2 (by omega)) hown6 hb6 hfar6)
              clear hown6 hb6 hfar6
              go_wp2_with fail
              exact ⟨⟨k2 + 1, A6, c6, ns ++ [x.at_ pA pc], by simp; omega, by simp; omega, by go_num, by simp, HM4.out⟩, by simp [outLen]; omega⟩
            · go_wp2_with fail
              go_ret
              exact HM2.out.drawn (by omega)
        · have hvb1 : (v2 == 1) = false := by simp [hv1]
          clear hv hv1
          go_wp2_with fail
          go_ret
          exact HL2.out.drawn (by omega)

end Go.Proofs.Ytlhbjgbkpjlacaa

namespace Go.Proofs.Ytlhbjgbkpjlacaa
set_option maxRecDepth 100000
open Go.RowKit

def DrawnJoints : World → Nat → Option Addr → Nat → List Int → Ending → World → Prop := DrawnList 64 70 3 jointC (fun _ => True)
set_option maxHeartbeats 2000000 in
theorem l17DrawJoints_any (A : Option Addr) (c b : Nat) (xs : List Int) (w : World) (hF : Feed w b A c xs) :
    Calls Try.prog 111 #[.pointer (some ⟨b, 0, none⟩)] w (DrawnJoints w b A c xs) := by
  have HN : Hid (∀ (v : World) (n : Int), n < 20000 → Feed v b A c xs → Calls Try.prog 91 #[.pointer (some ⟨b, 0, none⟩), .int .i64 n] v (Drawn v b A c xs n)) := fun v n hn h => l01Next_any A c b xs n v h.src h.rd h.byte h.small (by omega)
  have HL : Hid (GrowSt w (w.alloc (.cells #[] 70)) b A c xs 70 3 jointC (some ⟨w.heap.size, 0, none⟩) 0 []) := GrowSt.made hF
  have hjl : ∀ j, (jointC j).length = 3 := fun j => rfl
  have hj1 : ∀ j, ∀ u ∈ jointC j, u.oneCell' = true := fun j u hu => by
    simp only [jointC, List.mem_cons, List.not_mem_nil, or_false] at hu
    rcases hu with rfl | rfl | rfl <;> rfl
  have HJL := Lib.hid hjl; clear hjl
  have HJ1 := Lib.hid hj1; clear hj1
  clear hF
  go_enter Try.func111, Try.ntmps111
  go_wp2_with fail
  generalize w.alloc (.cells #[] 70) = W at HL ⊢
  refine (HN.out W 4 (by omega) HL.out.feed).mono ?_
  rintro e w1 ⟨v, rfl, v0, v1, _, hS, hO⟩
  have HL1 := Lib.hid (HL.out.turn (HL.out.feed.turn hS hO) hO)
  have v1 := v1 (by omega)
  clear hS hO HL
  go_wp2_with fail
  go_loopw [3, 4] (fun out i wr => ∃ (q : Int) (LA : Option Addr) (lc : Nat) (ms : List (Int × Int × Int)), 0 ≤ q ∧ (ms.length : Int) + q ≤ 4 ∧ i = .int .i64 q ∧ out = .slice LA ms.length lc ∧ GrowSt w wr b A c xs 70 3 jointC LA lc ms) (fun _ i _ => (intOf i).toNat)
  case atStart => exact ⟨v, _, _, [], v0, by simp; omega, rfl, rfl, HL1.out⟩
  case round =>
    obtain ⟨q, LA, lc, ms, q0, q1, rfl, rfl, hL⟩ := hrel
    have HL1 := Lib.hid hL; clear hL
    by_cases hq : 0 < q
    · go_wp2_with fail
      refine (HN.out wr 2 (by omega) HL1.out.feed).mono ?_
      rintro e w2 ⟨a, rfl, a0, a1, _, hS, hO⟩
      have HL2 := Lib.hid (HL1.out.turn (HL1.out.feed.turn hS hO) hO)
      have a1 := a1 (by omega)
      clear hS hO HL1
      go_wp2_with fail
      refine (HN.out w2 (2 - a) (by omega) HL2.out.feed).mono ?_
      rintro e w3 ⟨d, rfl, d0, d1, d2, hS, hO⟩
      have HL3 := Lib.hid (HL2.out.turn (HL2.out.feed.turn hS hO) hO)
      have hd : d < 3 := by
        by_cases h : 1 < 2 - a
        · have := d1 h; omega
        · have := d2 (by omega); omega
      clear hS hO HL2 d1 d2
      go_wp2_with fail
      refine (HN.out w3 3 (by omega) HL3.out.feed).mono ?_
      rintro e w4 ⟨k, rfl, k0, k1, _, hS, hO⟩
      have HL4 := Lib.hid (HL3.out.turn (HL3.out.feed.turn hS hO) hO)
      have s4 := HL4.out.old.size
      clear hS hO HL3 k1
      go_wp2_with (at_builtin; refine wpList_append_far rfl _ _ _ rfl w.heap.size 70 (.agg #[.int .i64 0, .int .i64 0, .int .i64 0]) 3 24 Try.underlying57 infoJoint rfl (by omega) (by omega) jointC ms (a, a + 1 + d, k) LA lc rfl (HL4.out.own.keep (balloc _ _)) w4.heap.size _ rfl rfl (three_cells (by go_simp) (by go_simp) (by go_simp)) (HJ1.out _) (by omega) (by simp; omega) ?_)
      intro A2 c2 w5 hown5 hb5 _
      have HL5 := Lib.hid (HL4.out.grow hown5 hb5)
      clear hown5 hb5
      go_wp2_with fail
      exact ⟨⟨q - 1, A2, c2, ms ++ [(a, a + 1 + d, k)], by omega, by simp; omega, by go_num, by simp, HL5.out⟩, by simp [intOf]; omega⟩
    · go_wp2_with fail
      refine (HN.out wr 40 (by omega) HL1.out.feed).mono ?_
      rintro e w2 ⟨v2, rfl, a0, a1, _, hS, hO⟩
      have HL2 := Lib.hid (HL1.out.turn (HL1.out.feed.turn hS hO) hO)
      clear hS hO HL1 a1
      by_cases hv : v2 = 0
      · subst hv
        go_wp2_with fail
        refine (HN.out w2 9 (by omega) HL2.out.feed).mono ?_
        rintro e w3 ⟨a, rfl, a0, a1, _, hS, hO⟩
        have HL3 := Lib.hid (HL2.out.turn (HL2.out.feed.turn hS hO) hO)
        have a1 := a1 (by omega)
        clear hS hO HL2
        go_wp2_with fail
        refine (HN.out w3 9 (by omega) HL3.out.feed).mono ?_
        rintro e w4 ⟨d, rfl, d0, d1, _, hS, hO⟩
        have HL4 := Lib.hid (HL3.out.turn (HL3.out.feed.turn hS hO) hO)
        clear hS hO HL3 d1
        go_wp2_with fail
        refine (HN.out w4 11 (by omega) HL4.out.feed).mono ?_
        rintro e w5 ⟨k, rfl, k0, k1, _, hS, hO⟩
        have HL5 := Lib.hid (HL4.out.turn (HL4.out.feed.turn hS hO) hO)
        have s5 := HL5.out.old.size
        clear hS hO HL4 k1
        go_wp2_with (at_builtin; refine wpList_append_far rfl _ _ _ rfl w.heap.size 70 (.agg #[.int .i64 0, .int .i64 0, .int .i64 0]) 3 24 Try.underlying57 infoJoint rfl (by omega) (by omega) jointC ms (a - 1, d, k) LA lc rfl (HL5.out.own.keep (balloc _ _)) w5.heap.size _ rfl rfl (three_cells (by go_simp) (by go_simp) (by go_simp)) (HJ1.out _) (by omega) (by simp; omega) ?_)
        intro A2 c2 w6 hown6 hb6 _
        have HL6 := Lib.hid (HL5.out.grow hown6 hb6)
        clear hown6 hb6
        go_wp2_with fail
        go_ret
        have := HL6.out.drawn (m := 64) (G := fun _ => True) HJL.out (by simp; omega) (fun _ _ => trivial)
        simp only [List.length_append, List.length_cons, List.length_nil, Nat.zero_add] at this
        exact this
      · have hvb : (v2 == 0) = false := by simp [hv]
        by_cases hv1 : v2 = 1
        · subst hv1
          go_wp2_with fail
          go_loopw [3] (fun out wr => ∃ (MA : Option Addr) (mc : Nat) (ns : List (Int × Int × Int)), ns.length ≤ 13 ∧ out = .slice MA ns.length mc ∧ GrowSt w wr b A c xs 70 3 jointC MA mc ns) (fun out _ => 13 - lenOf out)
          case atStart => exact ⟨LA, lc, ms, by omega, rfl, HL2.out⟩
          case round =>
            obtain ⟨MA, mc, ns, hnl, rfl, hM⟩ := hrel
            have HM1 := Lib.hid hM; clear hM
            go_wp2_with fail
            refine (HN.out _ 2 (by omega) HM1.out.feed).mono ?_
            rintro e w4 ⟨v4, rfl, c0, c1, _, hS, hO⟩
            have HM2 := Lib.hid (HM1.out.turn (HM1.out.feed.turn hS hO) hO)
            have c1 := c1 (by omega)
            have s4 := HM2.out.old.size
            clear hS hO HM1
            by_cases hlt2 : (ns.length : Int) < 12 + v4
            · have hnl2 : ns.length ≤ 12 := by omega
              go_wp2_with (at_builtin; refine wpList_append_far rfl _ _ _ rfl w.heap.size 70 (.agg #[.int .i64 0, .int .i64 0, .int .i64 0]) 3 24 Try.underlying57 infoJoint rfl (by omega) (by omega) jointC ns (0, 1, 0) MA mc rfl (HM2.out.own.keep (balloc _ _)) w4.heap.size _ rfl rfl (three_cells (by go_simp) (by go_simp) (by go_simp)) (HJ1.out _) (by omega) (by simp; omega) ?_)
              intro A6 c6 w6 hown6 hb6 _
              have HM4 := Lib.hid (HM2.out.grow hown6 hb6)
              clear hown6 hb6
              go_wp2_with fail
              exact ⟨⟨A6, c6, ns ++ [(0, 1, 0)], by simp; omega, by simp, HM4.out⟩, by simp [lenOf]; omega⟩
            · go_wp2_with fail
              go_ret
              exact HM2.out.drawn HJL.out (by omega) (fun _ _ => trivial)
        · have hvb1 : (v2 == 1) = false := by simp [hv1]
          clear hv hv1
          go_wp2_with fail
          go_ret
          exact HL2.out.drawn HJL.out (by omega) (fun _ _ => trivial)

/-- Parts and joints drawn. -/
def DrawnBoth (w : World) (b : Nat) (A : Option Addr) (c : Nat) (xs : List Int) (e : Ending) (w' : World) : Prop :=
  ∃ (LA JA : Option Addr) (lc jc : Nat) (vs : List PartT) (js : List (Int × Int × Int)), e = .returned (.tuple #[.slice LA vs.length lc, .slice JA js.length jc]) ∧ FlatR w' w.heap.size w'.heap.size LA vs ∧ vs.length ≤ 64 ∧ (∀ x ∈ vs, x.code.size ≤ 64 ∧ x.ports.length ≤ 64) ∧ Flat w' w.heap.size w'.heap.size 70 3 jointC JA js ∧ js.length ≤ 64 ∧ Feed w' b A c xs ∧ Only b (b + 1) w w'
theorem l18Draw_any (A : Option Addr) (c b : Nat) (xs : List Int) (w : World) (hF : Feed w b A c xs) :
    Calls Try.prog 138 #[.pointer (some ⟨b, 0, none⟩)] w (DrawnBoth w b A c xs) := by
  have HP := Lib.hid (l16List_any A c b xs w hF)
  have HJ : Hid (∀ v : World, Feed v b A c xs → Calls Try.prog 111 #[.pointer (some ⟨b, 0, none⟩)] v (DrawnJoints v b A c xs)) := fun v h => l17DrawJoints_any A c b xs v h
  have hlb := hF.src.lt
  clear hF
  go_enter Try.func138, Try.ntmps138
  go_wp2_with fail
  refine HP.out.mono ?_
  rintro e w1 ⟨LA, lc, vs, rfl, fv, _, hvl, hvs, hF1, hO1⟩
  have HF1 := Lib.hid hF1; clear hF1
  have HVS := Lib.hid hvs; clear hvs
  go_wp2_with fail
  refine (HJ.out w1 HF1.out).mono ?_
  rintro e w2 ⟨JA, jc, js, rfl, fj, _, hjl, _, hF2, hO2⟩
  have HF2 := Lib.hid hF2; clear hF2 HF1
  have HR := Lib.hid ((fv.only hO2 (Nat.le_refl _) (Or.inr (by omega))).mono (Nat.le_refl _) hO2.size)
  have HRj := Lib.hid (fj.mono hO1.size (Nat.le_refl _))
  clear fv fj
  go_wp2_with fail
  go_ret2
  exact ⟨LA, JA, lc, jc, vs, js, rfl, HR.out, hvl, HVS.out, HRj.out, hjl, HF2.out, hO1.trans hO2⟩

end Go.Proofs.Ytlhbjgbkpjlacaa

namespace Go.Proofs.Ytlhbjgbkpjlacaa
set_option maxRecDepth 100000
open Go.RowKit

/-- A source over the law's code. -/
theorem feed_made {w v : World} {b c : Nat} {A : Option Addr} {xs : List Int} (hr : Rd w w.heap.size 1 uC A xs) (hx : ∀ x ∈ xs, 0 ≤ x ∧ x < 256) (hm : xs.length ≤ 4096) (h1 : Src v b A c xs) (h2 : w.heap.size ≤ b) (h3 : Below w.heap.size w v) : Feed v b A c xs :=
  ⟨h1, (hr.below h3).more h2, hx, hm⟩
theorem smallV_of {vs : List PartT} (h1 : vs.length ≤ 64) (h2 : ∀ x ∈ vs, x.code.size ≤ 64 ∧ x.ports.length ≤ 64) : SmallV vs := ⟨by omega, fun x hx => by
  have := h2 x hx
  unfold maxLen
  omega⟩
/-- Parts and joints, and a number between 0 and M. -/
def GivenBoth (M : Int) (w : World) (e : Ending) (w' : World) : Prop := ∃ (LA JA : Option Addr) (lc jc : Nat) (vs : List PartT) (js : List (Int × Int × Int)) (m : Int), e = .returned (.tuple #[.slice LA vs.length lc, .slice JA js.length jc, .int .i64 m]) ∧ RdV w' w'.heap.size LA vs ∧ SmallV vs ∧ Rd w' w'.heap.size 3 jointC JA js ∧ js.length ≤ 64 ∧ 0 ≤ m ∧ m ≤ M ∧ Below w.heap.size w w'

set_option maxHeartbeats 1000000 in
theorem DrawLightest_any (A : Option Addr) (c : Nat) (xs : List Int) (w : World) (hr : Rd w w.heap.size 1 uC A xs) (hx : ∀ x ∈ xs, 0 ≤ x ∧ x < 256) (hm : xs.length ≤ 4096) :
    Calls Try.prog 75 #[.slice A xs.length c] w (GivenBoth 100000001 w) := by
  have HS := Lib.hid (l01From_any A c xs w hr hx hm)
  have HFd : Hid (∀ (v : World) (b : Nat), Src v b A c xs → w.heap.size ≤ b → Below w.heap.size w v → Feed v b A c xs) := fun v b h1 h2 h3 => feed_made hr hx hm h1 h2 h3
  have HB : Hid (∀ (v : World) (b : Nat), Feed v b A c xs → Calls Try.prog 138 #[.pointer (some ⟨b, 0, none⟩)] v (DrawnBoth v b A c xs)) := fun v b h => l18Draw_any A c b xs v h
  have HN : Hid (∀ (v : World) (b : Nat) (n : Int), n < 20000 → Feed v b A c xs → Calls Try.prog 91 #[.pointer (some ⟨b, 0, none⟩), .int .i64 n] v (Drawn v b A c xs n)) := fun v b n hn h => l01Next_any A c b xs n v h.src h.rd h.byte h.small (by omega)
  clear hr hx
  go_enter Try.func75, Try.ntmps75
  go_wp2_with fail
  refine HS.out.mono ?_
  rintro e w1 ⟨b, rfl, hS, hbl, hb1⟩
  have HF1 := Lib.hid (HFd.out w1 b hS hbl hb1)
  have hlt1 := hS.lt
  clear hS HS HFd
  go_wp2_with fail
  refine (HB.out w1 b HF1.out).mono ?_
  rintro e w2 ⟨LA, JA, lc, jc, vs, js, rfl, fv, hvl, hvs, fj, hjl, hF2, hO2⟩
  have HF2 := Lib.hid hF2; clear hF2 HF1
  have HSm := Lib.hid (smallV_of hvl hvs)
  have HV := Lib.hid fv; clear fv hvs hvl
  have HJ := Lib.hid fj; clear fj
  have HO2 := Lib.hid (Only.refl b (b + 1) w2)
  go_wp2_with fail
  refine (HN.out w2 b 16000 (by omega) HF2.out).mono ?_
  rintro e w3 ⟨v3, rfl, a0, a1, _, hS, hO⟩
  have HF3 := Lib.hid (HF2.out.turn hS hO)
  have HO3 := Lib.hid (HO2.out.trans hO)
  have v3lt := a1 (by omega)
  have v3ge := a0
  clear hS hO HF2 HO2 a1 a0
  have HPk := Lib.hid (pick_next A c b xs w3 2 [1000 + v3, 10000, 0, 100000000, 100000001] (by simp) (by simp) HF3.out)
  go_wp2_with fail
  refine HPk.out.mono ?_
  rintro e w4 ⟨m, hv, rfl, hF9, hO⟩
  have hmb : 0 ≤ m ∧ m ≤ 100000001 := by
    simp only [List.mem_cons, List.not_mem_nil, or_false] at hv
    omega
  have hO9 := HO3.out.trans hO
  have hR := ((HV.out.only hO9 (Nat.le_refl _) (Or.inr hlt1)).rd.more hO9.size)
  have hRJ := ((HJ.out.only hO9 (Nat.le_refl _) (Or.inr hlt1)).rd.more hO9.size)
  have hBl : Below w.heap.size w w4 := hb1.trans ((hO2.trans hO9).below hbl hb1.size)
  have HEnd : Hid (GivenBoth 100000001 w (.returned (.tuple #[.slice LA vs.length lc, .slice JA js.length jc, .int .i64 m])) w4) := ⟨LA, JA, lc, jc, vs, js, m, rfl, hR, HSm.out, hRJ, hjl, hmb.1, hmb.2, hBl⟩
  clear hR hRJ hBl HPk HF3 HO3 hO9 hF9 hO hv HV HJ HSm
  go_wp2_with fail
  go_ret3
  exact HEnd.out

/-- Parts and joints. -/
def GivenJust (w : World) (e : Ending) (w' : World) : Prop := ∃ (LA JA : Option Addr) (lc jc : Nat) (vs : List PartT) (js : List (Int × Int × Int)), e = .returned (.tuple #[.slice LA vs.length lc, .slice JA js.length jc]) ∧ RdV w' w'.heap.size LA vs ∧ SmallV vs ∧ Rd w' w'.heap.size 3 jointC JA js ∧ js.length ≤ 64 ∧ Below w.heap.size w w'
theorem DrawFrontier_any (A : Option Addr) (c : Nat) (xs : List Int) (w : World) (hr : Rd w w.heap.size 1 uC A xs) (hx : ∀ x ∈ xs, 0 ≤ x ∧ x < 256) (hm : xs.length ≤ 4096) :
    Calls Try.prog 64 #[.slice A xs.length c] w (GivenJust w) := by
  have HS := Lib.hid (l01From_any A c xs w hr hx hm)
  have HFd : Hid (∀ (v : World) (b : Nat), Src v b A c xs → w.heap.size ≤ b → Below w.heap.size w v → Feed v b A c xs) := fun v b h1 h2 h3 => feed_made hr hx hm h1 h2 h3
  have HB : Hid (∀ (v : World) (b : Nat), Feed v b A c xs → Calls Try.prog 138 #[.pointer (some ⟨b, 0, none⟩)] v (DrawnBoth v b A c xs)) := fun v b h => l18Draw_any A c b xs v h
  clear hr hx
  go_enter Try.func64, Try.ntmps64
  go_wp2_with fail
  refine HS.out.mono ?_
  rintro e w1 ⟨b, rfl, hS, hbl, hb1⟩
  have HF1 := Lib.hid (HFd.out w1 b hS hbl hb1)
  clear hS HS HFd
  go_wp2_with fail
  refine (HB.out w1 b HF1.out).mono ?_
  rintro e w2 ⟨LA, JA, lc, jc, vs, js, rfl, fv, hvl, hvs, fj, hjl, hF2, hO2⟩
  have HEnd : Hid (GivenJust w (.returned (.tuple #[.slice LA vs.length lc, .slice JA js.length jc])) w2) := ⟨LA, JA, lc, jc, vs, js, rfl, fv.rd, smallV_of hvl hvs, fj.rd, hjl, hb1.trans (hO2.below hbl hb1.size)⟩
  clear fv hvl hvs fj hF2 hO2 HF1
  go_wp2_with fail
  go_ret2
  exact HEnd.out

end Go.Proofs.Ytlhbjgbkpjlacaa

namespace Go.Proofs.Ytlhbjgbkpjlacaa
set_option maxRecDepth 100000
open Go.RowKit

def Blk (w : World) (r : Nat) (E : TypeId) (vs : List Value) : Prop := w.heap[r]? = some (.cells vs.toArray E (0, 0))
section
variable {w w' : World} {r : Nat} {E : TypeId} {vs : List Value}
theorem Blk.lt (h : Blk w r E vs) : r < w.heap.size := (Array.getElem?_eq_some_iff.1 h).1
theorem Blk.cell (h : Blk w r E vs) {j : Nat} {v : Value} (hj : vs[j]? = some v) : w.cell? ⟨r, j, none⟩ = some v := by
  rw [cell_of_row w r j _ E (0, 0) h]
  simpa using hj
theorem Blk.frozen (h : Blk w r E vs) (j : Nat) : w.frozen? ⟨r, j, none⟩ = false := by
  simp [World.frozen?, show w.heap[r]? = _ from h]
theorem Blk.kept (h : Blk w r E vs) (e : w'.heap[r]? = w.heap[r]?) : Blk w' r E vs := e.trans h
theorem Blk.next (h : Blk w r E vs) (hb : Below w.heap.size w w') : Blk w' r E vs := h.kept (hb.block r h.lt)
theorem Blk.only {lo hi : Nat} (h : Blk w r E vs) (ho : Only lo hi w w') (hn : ¬ (lo ≤ r ∧ r < hi)) : Blk w' r E vs := h.kept (ho.block r h.lt hn)
theorem Blk.far (h : Blk w r E vs) {p : Addr} (hp : p.block ≠ r) (u : Value) : Blk (w.setCell p u) r E vs := h.kept (Below.heap_setCell w p u r (fun e => hp e.symm))
theorem Blk.set (h : Blk w r E vs) (j : Nat) (u : Value) : Blk (w.setCell ⟨r, j, none⟩ u) r E (vs.set j u) := by
  have h2 : w.heap[r]? = some (.cells vs.toArray E (0, 0)) := h
  unfold Blk
  simp [World.setCell, Array.getElem?_modify, h2]
theorem Blk.made (w : World) (E : TypeId) (vs : List Value) : Blk (w.alloc (.cells vs.toArray E)) w.heap.size E vs := heap_alloc_new w _
theorem Blk.row (h : Blk w r E vs) : Row w r E vs.length := ⟨_, h, by simp⟩
theorem Blk.apart {r' : Nat} {E' : TypeId} {vs' : List Value} (h : Blk w r E vs) (h' : Blk w' r' E' vs') (hs : w.heap.size ≤ r') : r ≠ r' := by
  have := h.lt
  omega
end
theorem Only.setIn {lo hi : Nat} {w w' : World} (h : Only lo hi w w') {p : Addr} (hp : w.heap.size ≤ p.block) (u : Value) : Only lo hi w (w'.setCell p u) := h.setNew hp u
theorem Feed.setBlk {w : World} {b c r : Nat} {A : Option Addr} {xs : List Int} (h : Feed w b A c xs) (hb : b < r) (j : Nat) (u : Value) : Feed (w.setCell ⟨r, j, none⟩ u) b A c xs := h.setFar (p := ⟨r, j, none⟩) hb u

end Go.Proofs.Ytlhbjgbkpjlacaa

namespace Go.Proofs.Ytlhbjgbkpjlacaa
set_option maxRecDepth 100000
open Go.RowKit

def twoN : List ByteArray := [⟨#[110, 111, 110, 101]⟩, ⟨#[]⟩]
def GivenWith (w : World) (e : Ending) (w' : World) : Prop := ∃ (LA JA : Option Addr) (lc jc : Nat) (vs : List PartT) (js : List (Int × Int × Int)) (t : ByteArray), e = .returned (.tuple #[.slice LA vs.length lc, .slice JA js.length jc, .string t]) ∧ RdV w' w'.heap.size LA vs ∧ SmallV vs ∧ Rd w' w'.heap.size 3 jointC JA js ∧ js.length ≤ 64 ∧ t.size ≤ 64 ∧ Below w.heap.size w w'
set_option maxHeartbeats 4000000 in
theorem DrawCheapestWith_any (A : Option Addr) (c : Nat) (xs : List Int) (w : World) (hr : Rd w w.heap.size 1 uC A xs) (hx : ∀ x ∈ xs, 0 ≤ x ∧ x < 256) (hm : xs.length ≤ 4096) :
    Calls Try.prog 68 #[.slice A xs.length c] w (GivenWith w) := by
  have HS := Lib.hid (l01From_any A c xs w hr hx hm)
  have HFd : Hid (∀ (v : World) (b : Nat), Src v b A c xs → w.heap.size ≤ b → Below w.heap.size w v → Feed v b A c xs) := fun v b h1 h2 h3 => feed_made hr hx hm h1 h2 h3
  have HB : Hid (∀ (v : World) (b : Nat), Feed v b A c xs → Calls Try.prog 138 #[.pointer (some ⟨b, 0, none⟩)] v (DrawnBoth v b A c xs)) := fun v b h => l18Draw_any A c b xs v h
  have HN : Hid (∀ (v : World) (b : Nat) (n : Int), n < 20000 → Feed v b A c xs → Calls Try.prog 91 #[.pointer (some ⟨b, 0, none⟩), .int .i64 n] v (Drawn v b A c xs n)) := fun v b n hn h => l01Next_any A c b xs n v h.src h.rd h.byte h.small (by omega)
  clear hr hx
  go_enter Try.func68, Try.ntmps68
  go_wp2_with fail
  refine HS.out.mono ?_
  rintro e w1 ⟨b, rfl, hS, hbl, hb1⟩
  have HF1 := Lib.hid (HFd.out w1 b hS hbl hb1)
  have hlt1 := hS.lt
  clear hS HS HFd
  go_wp2_with fail
  refine (HB.out w1 b HF1.out).mono ?_
  rintro e w2 ⟨LA, JA, lc, jc, vs, js, rfl, fv, hvl, hvs, fj, hjl, hF2, hO2⟩
  have HF2 := Lib.hid hF2
  have HV := Lib.hid fv
  have HJ := Lib.hid fj
  have HVs := Lib.hid hvs
  have hb2 : Below w.heap.size w w2 := hb1.trans (hO2.below (by omega) (by omega))
  have z2 := hO2.size
  clear hF2 fv fj hvs HB HF1 hO2 hb1
  have HSm : Hid (SmallV vs) := smallV_of hvl HVs.out
  have HEnd : Hid (∀ (v : World) (t : ByteArray), Only b (b + 1) w2 v → t.size ≤ 64 → GivenWith w (.returned (.tuple #[.slice LA vs.length lc, .slice JA js.length jc, .string t])) v) := fun v t hO ht =>
    ⟨LA, JA, lc, jc, vs, js, t, rfl, ((HV.out.only hO (Nat.le_refl _) (Or.inr (by omega))).mono (Nat.le_refl _) hO.size).rd, HSm.out, ((HJ.out.only hO (Nat.le_refl _) (Or.inr (by omega))).mono (Nat.le_refl _) hO.size).rd, hjl, ht, hb2.trans (hO.below (by omega) (by omega))⟩
  have hltb : b < w2.heap.size := by omega
  by_cases hv : 0 < vs.length
  · have hvi : 0 < (vs.length : Int) := by omega
    go_wp2_with fail
    refine (HN.out w2 b 8 (by omega) HF2.out).mono ?_
    rintro e w3 ⟨q, rfl, q0, q1, _, hS, hO3⟩
    have HF3 := Lib.hid (HF2.out.turn hS hO3)
    have HO3 := Lib.hid hO3
    clear hS hO3 HF2 q1
    by_cases hq : 0 < q
    · obtain ⟨ub, uo, rfl⟩ := HV.out.rd.addr (by omega)
      have hlt3 : b < w3.heap.size := HF3.out.src.lt
      have HLt : Hid (∀ v : Int, (1 < (vs.length : Int) → v < (vs.length : Int)) → ((vs.length : Int) ≤ 1 → v = 0) → v < (vs.length : Int)) := fun v h1 h2 => by
        by_cases h : 1 < (vs.length : Int)
        · exact h1 h
        · have := h2 (by omega)
          omega
      go_upto_region 4 with (fail)
      go_region_law (first
        | (go_simp; go_at_call 91; refine (HN.out w3.drew b _ (by omega) (HF3.out.next (bdrew _))).mono ?_; rintro e w9 ⟨v3, rfl, b0, b1, b2, hS, hO⟩; have hvm : v3 < (vs.length : Int) := HLt.out v3 b1 b2; obtain ⟨m, rfl⟩ := Int.eq_ofNat_of_zero_le b0; have hml : m < vs.length := (by omega); have HO9 : Hid (Only b (b + 1) w2 w9) := (HO3.out.trans (Only.of_below (bdrew w3))).trans hO; obtain ⟨_, pA, pc, c0, _⟩ := ((HV.out.only HO9.out (Nat.le_refl _) (Or.inr (by omega))).mono (Nat.le_refl _) HO9.out.size).rd.cells (List.getElem?_eq_getElem hml); have HY : Hid (vs[m].code.size ≤ 64) := (HVs.out _ (List.getElem_mem hml)).1; generalize vs[m].code = y at c0 HY; clear hS hO b1 b2; go_wp2_with fail))
      all_goals
        go_wp2_with fail
        go_ret3
        exact HEnd.out _ y HO9.out HY.out
    · have HO3' := HO3
      skip
      have hltW : b < w3.heap.size := HF3.out.src.lt
      go_upto_region 5 with (fail)
      go_region_law (first
        | (go_simp; go_at_call 91; refine (HN.out w3.drew b 2 (by omega) (HF3.out.next (bdrew _))).mono ?_; rintro e w9 ⟨v3, rfl, b0, b1, _, hS, hO⟩; have b1 := b1 (by omega); obtain ⟨m, rfl⟩ := Int.eq_ofNat_of_zero_le b0; have hm2 : m < twoN.length := (by simp [twoN]; omega); have hm2i : (m : Int) < 2 := (by omega); have HO9 : Hid (Only b (b + 1) w2 w9) := (HO3.out.trans (Only.of_below (bdrew w3))).trans hO; have x0 : (w9.alloc (.cells #[.string ⟨#[110, 111, 110, 101]⟩, .string ⟨#[]⟩] 9)).cell? ⟨w9.heap.size, m, none⟩ = some (.string twoN[m]) := (Blk.made w9 9 (twoN.map Value.string)).cell (by rw [List.getElem?_map, List.getElem?_eq_getElem hm2]; rfl); have HY : Hid (twoN[m].size ≤ 64) := (show ∀ t ∈ twoN, t.size ≤ 64 by decide) _ (List.getElem_mem hm2); generalize twoN[m] = y at x0 HY; clear hS hO; go_wp2_with fail)
        | (go_simp; go_at_call 91; refine (HN.out (w3.alloc (.cells #[.string ⟨#[110, 111, 110, 101]⟩, .string ⟨#[]⟩] 9)).drew b 2 (by omega) (HF3.out.next (bthen (balloc w3 _) (bdrew _)))).mono ?_; rintro e w9 ⟨v3, rfl, b0, b1, _, hS, hO⟩; have b1 := b1 (by omega); obtain ⟨m, rfl⟩ := Int.eq_ofNat_of_zero_le b0; have hm2 : m < twoN.length := (by simp [twoN]; omega); have hm2i : (m : Int) < 2 := (by omega); have HO9 : Hid (Only b (b + 1) w2 w9) := (HO3.out.trans (Only.of_below (bthen (balloc w3 (.cells #[.string ⟨#[110, 111, 110, 101]⟩, .string ⟨#[]⟩] 9)) (bdrew _)))).trans hO; have x0 : w9.cell? ⟨w3.heap.size, m, none⟩ = some (.string twoN[m]) := ((((Blk.made w3 9 (twoN.map Value.string)).next (bdrew _)).only hO (by omega))).cell (by rw [List.getElem?_map, List.getElem?_eq_getElem hm2]; rfl); have HY : Hid (twoN[m].size ≤ 64) := (show ∀ t ∈ twoN, t.size ≤ 64 by decide) _ (List.getElem_mem hm2); generalize twoN[m] = y at x0 HY; clear hS hO; go_wp2_with fail))
      all_goals
        go_wp2_with fail
        go_ret3
        refine HEnd.out _ y ?_ HY.out
        first
          | exact HO9.out
          | exact HO9.out.trans (Only.alloc _)
          | exact HO9.out.trans (Only.of_below (bdrew _))
          | exact HO9.out.trans (Only.of_below (bthen (balloc _ _) (bdrew _)))
  · have hvi : ¬ 0 < (vs.length : Int) := by omega
    have HO2' : Hid (Only b (b + 1) w2 w2) := Only.refl _ _ _
    have hltW : b < w2.heap.size := HF2.out.src.lt
    go_upto_region 5 with (fail)
    go_region_law (first
      | (go_simp; go_at_call 91; refine (HN.out w2.drew b 2 (by omega) (HF2.out.next (bdrew _))).mono ?_; rintro e w9 ⟨v3, rfl, b0, b1, _, hS, hO⟩; have b1 := b1 (by omega); obtain ⟨m, rfl⟩ := Int.eq_ofNat_of_zero_le b0; have hm2 : m < twoN.length := (by simp [twoN]; omega); have hm2i : (m : Int) < 2 := (by omega); have HO9 : Hid (Only b (b + 1) w2 w9) := (HO2'.out.trans (Only.of_below (bdrew w2))).trans hO; have x0 : (w9.alloc (.cells #[.string ⟨#[110, 111, 110, 101]⟩, .string ⟨#[]⟩] 9)).cell? ⟨w9.heap.size, m, none⟩ = some (.string twoN[m]) := (Blk.made w9 9 (twoN.map Value.string)).cell (by rw [List.getElem?_map, List.getElem?_eq_getElem hm2]; rfl); have HY : Hid (twoN[m].size ≤ 64) := (show ∀ t ∈ twoN, t.size ≤ 64 by decide) _ (List.getElem_mem hm2); generalize twoN[m] = y at x0 HY; clear hS hO; go_wp2_with fail)
      | (go_simp; go_at_call 91; refine (HN.out (w2.alloc (.cells #[.string ⟨#[110, 111, 110, 101]⟩, .string ⟨#[]⟩] 9)).drew b 2 (by omega) (HF2.out.next (bthen (balloc w2 _) (bdrew _)))).mono ?_; rintro e w9 ⟨v3, rfl, b0, b1, _, hS, hO⟩; have b1 := b1 (by omega); obtain ⟨m, rfl⟩ := Int.eq_ofNat_of_zero_le b0; have hm2 : m < twoN.length := (by simp [twoN]; omega); have hm2i : (m : Int) < 2 := (by omega); have HO9 : Hid (Only b (b + 1) w2 w9) := (HO2'.out.trans (Only.of_below (bthen (balloc w2 (.cells #[.string ⟨#[110, 111, 110, 101]⟩, .string ⟨#[]⟩] 9)) (bdrew _)))).trans hO; have x0 : w9.cell? ⟨w2.heap.size, m, none⟩ = some (.string twoN[m]) := ((((Blk.made w2 9 (twoN.map Value.string)).next (bdrew _)).only hO (by omega))).cell (by rw [List.getElem?_map, List.getElem?_eq_getElem hm2]; rfl); have HY : Hid (twoN[m].size ≤ 64) := (show ∀ t ∈ twoN, t.size ≤ 64 by decide) _ (List.getElem_mem hm2); generalize twoN[m] = y at x0 HY; clear hS hO; go_wp2_with fail))
    all_goals
      go_wp2_with fail
      go_ret3
      refine HEnd.out _ y ?_ HY.out
      first
        | exact HO9.out
        | exact HO9.out.trans (Only.alloc _)
        | exact HO9.out.trans (Only.of_below (bdrew _))
        | exact HO9.out.trans (Only.of_below (bthen (balloc _ _) (bdrew _)))

end Go.Proofs.Ytlhbjgbkpjlacaa

namespace Go.Proofs.Ytlhbjgbkpjlacaa
set_option maxRecDepth 100000
open Go.RowKit

theorem idxTo_full {α : Type} (p : α → Bool) (xs : List α) : ∀ k, k ≤ xs.length → ((idxTo p xs k).length = k ↔ ∀ (j : Nat) (x : α), j < k → xs[j]? = some x → p x = true)
  | 0, _ => by simp [idxTo]
  | k + 1, h => by
    have ih := idxTo_full p xs k (by omega)
    have hle := idxTo_le p xs k
    have hx : xs[k]? = some (xs[k]'(by omega)) := List.getElem?_eq_getElem (by omega)
    cases hp : p (xs[k]'(by omega)) with
    | true =>
      rw [idxTo_yes hx hp]
      simp only [List.length_append, List.length_singleton]
      constructor
      · intro he j x hj hxj
        by_cases e : j = k
        · subst e
          rw [hx] at hxj
          rw [← Option.some.inj hxj]
          exact hp
        · exact ih.1 (by omega) j x (by omega) hxj
      · intro hall
        rw [ih.2 fun j x hj hxj => hall j x (by omega) hxj]
    | false =>
      rw [idxTo_no hx hp]
      constructor
      · intro he
        omega
      · intro hall
        have := hall k _ (by omega) hx
        rw [hp] at this
        cases this
def soundB (vs : List PartT) (js : List JointT) (bs : List ByteArray) : Bool := js.all (isState vs bs 2)
theorem soundB_len (vs : List PartT) (js : List JointT) (bs : List ByteArray) : soundB vs js bs = decide ((idxTo (isState vs bs 2) js js.length).length = js.length) := by
  rw [Bool.eq_iff_iff]
  unfold soundB
  rw [List.all_eq_true, decide_eq_true_eq, idxTo_full _ _ _ (Nat.le_refl _)]
  constructor
  · intro h j x _ hx
    exact h x (List.mem_of_getElem? hx)
  · intro h x hx
    obtain ⟨j, hj⟩ := List.mem_iff_getElem?.1 hx
    exact h j x (List.getElem?_eq_some_iff.1 hj).1 hj
theorem soundB_false {vs : List PartT} {js : List JointT} {bs : List ByteArray} {k : Nat} {t : JointT} (hx : js[k]? = some t) (h : isState vs bs 2 t = false) : soundB vs js bs = false := by
  unfold soundB
  rw [List.all_eq_false]
  exact ⟨t, List.mem_of_getElem? hx, by simp [h]⟩
theorem soundB_true {vs : List PartT} {js : List JointT} {bs : List ByteArray} (h : ∀ j t, j < js.length → js[j]? = some t → isState vs bs 2 t = true) : soundB vs js bs = true := by
  unfold soundB
  rw [List.all_eq_true]
  intro x hx
  obtain ⟨j, hj⟩ := List.mem_iff_getElem?.1 hx
  exact h j x (List.getElem?_eq_some_iff.1 hj).1 hj

set_option maxHeartbeats 1000000 in
theorem isSound_any (A A2 A' : Option Addr) (c c2 c' : Nat) (vs : List PartT) (js : List JointT) (bs : List ByteArray) (w : World) (hr : RdV w w.heap.size A vs) (hr2 : Rd w w.heap.size 3 jointC A2 js) (hr' : Rd w w.heap.size 1 tC A' bs) (hs : SmallV vs) (hm2 : js.length ≤ 1048576) (hC : Codes vs bs) (hj : ∀ j ∈ js, SlotsIn j) :
    Calls Try.prog 117 #[.slice A vs.length c, .slice A2 js.length c2, .slice A' bs.length c'] w fun e w' => e = .returned (.bool (soundB vs js bs)) ∧ Below w.heap.size w w' := by
  have HO : Hid (∀ (v : World) (t : JointT), Rd v v.heap.size 1 tC A' bs → SlotsIn t → Calls Try.prog 116 #[.slice A' bs.length c', .agg #[.int .i64 t.1, .int .i64 t.2.1, .int .i64 t.2.2]] v fun e w' => e = .returned (.bool (openB vs bs t)) ∧ Below v.heap.size v w') := fun v t h2 h3 => by have h4 := isOpen_any A' c' bs t v h2 hC.len h3; rwa [← openB_eq hC h3] at h4
  have HK : Hid (∀ (v : World) (t : JointT), RdV v v.heap.size A vs → Rd v v.heap.size 1 tC A' bs → SlotsIn t → Calls Try.prog 113 #[.slice A vs.length c, .slice A' bs.length c', .agg #[.int .i64 t.1, .int .i64 t.2.1, .int .i64 t.2.2]] v fun e w' => e = .returned (.bool (brokenB vs bs t)) ∧ Below v.heap.size v w') := fun v t h1 h2 h3 => isBroken_any A A' c c' vs bs t v h1 h2 hs hC h3
  have HJ := Lib.hid hj; clear hj hs hC
  go_enter Try.func117, Try.ntmps117
  go_wp2_with fail
  go_loopw [11] (fun i wr => ∃ k : Nat, k ≤ js.length ∧ i = .int .i64 k ∧ Below w.heap.size w wr ∧ ∀ j t, j < k → js[j]? = some t → isState vs bs 2 t = true) (fun i _ => js.length - (intOf i).toNat)
  case atStart => exact ⟨0, Nat.zero_le _, rfl, Below.refl _ _, fun j t hj => by omega⟩
  case round =>
    obtain ⟨k, hk, rfl, hb, hall⟩ := hrel
    have Ha := Lib.hid hall; clear hall
    by_cases hlt : k < js.length
    · have hx : js[k]? = some js[k] := List.getElem?_eq_getElem hlt
      obtain ⟨b2, o2, rfl, hB2, q0, q1, q2⟩ := (hr2.below hb).at3 hx rfl
      have hsl := HJ.out _ (List.mem_of_getElem? hx)
      generalize js[k] = t at q0 q1 q2 hx hsl
      have Hx := Lib.hid hx; clear hx
      have HOt : Hid (∀ v : World, Rd v v.heap.size 1 tC A' bs → Calls Try.prog 116 #[.slice A' bs.length c', .agg #[.int .i64 t.1, .int .i64 t.2.1, .int .i64 t.2.2]] v fun e w' => e = .returned (.bool (openB vs bs t)) ∧ Below v.heap.size v w') := fun v h2 => HO.out v t h2 hsl
      have HKt : Hid (∀ v : World, RdV v v.heap.size A vs → Rd v v.heap.size 1 tC A' bs → Calls Try.prog 113 #[.slice A vs.length c, .slice A' bs.length c', .agg #[.int .i64 t.1, .int .i64 t.2.1, .int .i64 t.2.2]] v fun e w' => e = .returned (.bool (brokenB vs bs t)) ∧ Below v.heap.size v w') := fun v h1 h2 => HK.out v t h1 h2 hsl
      have HB := Lib.hid (stateJ_bd vs bs t)
      have E0 : Hid (openB vs bs t = decide (stateJ vs bs t = 0)) := rfl
      have E1 : Hid (brokenB vs bs t = decide (stateJ vs bs t = 1)) := rfl
      have E2 : Hid (isState vs bs 2 t = decide (stateJ vs bs t = 2)) := rfl
      have HFs : Hid (isState vs bs 2 t = false → soundB vs js bs = false) := fun h => soundB_false Hx.out h
      have HNs : Hid (isState vs bs 2 t = true → ∀ j y, j < k + 1 → js[j]? = some y → isState vs bs 2 y = true) := fun h j y hj hy => by
        by_cases e : j = k
        · subst e
          have := Hx.out
          rw [hy] at this
          rw [Option.some.inj this]
          exact h
        · exact Ha.out j y (by omega) hy
      generalize stateJ vs bs t = sj at HB E0 E1 E2
      generalize isState vs bs 2 t = s2 at E2 HFs HNs
      generalize openB vs bs t = ob at HOt E0
      generalize brokenB vs bs t = bb at HKt E1
      go_wp2_with fail
      have f0 : (wr.alloc (.cells #[.int .i64 t.1, .int .i64 t.2.1, .int .i64 t.2.2] 70)).cell? ⟨wr.heap.size, 0, none⟩ = some (.int .i64 t.1) := by go_simp
      have f1 : (wr.alloc (.cells #[.int .i64 t.1, .int .i64 t.2.1, .int .i64 t.2.2] 70)).cell? ⟨wr.heap.size, 1, none⟩ = some (.int .i64 t.2.1) := by go_simp
      have f2 : (wr.alloc (.cells #[.int .i64 t.1, .int .i64 t.2.1, .int .i64 t.2.2] 70)).cell? ⟨wr.heap.size, 2, none⟩ = some (.int .i64 t.2.2) := by go_simp
      have hbV := hb.alloc hb.size (.cells #[.int .i64 t.1, .int .i64 t.2.1, .int .i64 t.2.2] 70)
      generalize wr.alloc (.cells #[.int .i64 t.1, .int .i64 t.2.1, .int .i64 t.2.2] 70) = U at f0 f1 f2 hbV ⊢
      generalize wr.heap.size = gx at f0 f1 f2 ⊢
      clear q0 q1 q2 hb
      refine (HOt.out _ (hr'.next hbV)).mono ?_
      rintro e w3 ⟨rfl, hb3⟩
      have hbb := bthen hbV hb3
      have e0 := (hb3.cell (p := ⟨gx, 0, none⟩) (World.block_lt_of_cell? U _ f0)).trans f0
      have e1 := (hb3.cell (p := ⟨gx, 1, none⟩) (World.block_lt_of_cell? U _ f1)).trans f1
      have e2 := (hb3.cell (p := ⟨gx, 2, none⟩) (World.block_lt_of_cell? U _ f2)).trans f2
      clear f0 f1 f2
      cases ob
      case true =>
        have HR : Hid (soundB vs js bs = false) := HFs.out (by
          rw [E2.out]
          have := of_decide_eq_true E0.out.symm
          exact decide_eq_false (by omega))
        go_wp2_with fail
        go_ret
        exact ⟨ret_bool HR.out.symm, hbb⟩
      case false =>
        go_wp2_with fail
        refine (HKt.out _ (hr.next hbb) (hr'.next hbb)).mono ?_
        rintro e w4 ⟨rfl, hb4⟩
        clear e0 e1 e2
        cases bb
        case true =>
          have HR : Hid (soundB vs js bs = false) := HFs.out (by
            rw [E2.out]
            have := of_decide_eq_true E1.out.symm
            exact decide_eq_false (by omega))
          go_wp2_with fail
          go_ret
          exact ⟨ret_bool HR.out.symm, bthen hbb hb4⟩
        case false =>
          have HR : Hid (∀ j y, j < k + 1 → js[j]? = some y → isState vs bs 2 y = true) := HNs.out (by
            rw [E2.out]
            have h0 := of_decide_eq_false E0.out.symm
            have h1 := of_decide_eq_false E1.out.symm
            have := HB.out
            exact decide_eq_true (by omega))
          go_wp2_with fail
          exact ⟨⟨k + 1, by omega, by go_num, bthen hbb hb4, HR.out⟩, by simp [intOf]; omega⟩
    · have HR : Hid (soundB vs js bs = true) := soundB_true fun j t hj hx => Ha.out j t (by omega) hx
      go_wp2_with fail
      go_ret
      exact ⟨ret_bool HR.out.symm, hb⟩

def soundR (vs : List PartT) (js : List JointT) (bs : List ByteArray) : Bool × Int := if jointsB js = true then (if buildB vs bs = true then (soundB vs js bs, 0) else (false, 1)) else (false, 1)
theorem IsSound_impl (A A2 A' : Option Addr) (c c2 c' : Nat) (vs : List PartT) (js : List JointT) (bs : List ByteArray) (w : World) (hr : RdV w w.heap.size A vs) (hr2 : Rd w w.heap.size 3 jointC A2 js) (hr' : Rd w w.heap.size 1 tC A' bs) (hs : SmallV vs) (hm2 : js.length ≤ 1048576) (hm' : bs.length ≤ 1048576) :
    Calls Try.prog 43 #[.slice A vs.length c, .slice A2 js.length c2, .slice A' bs.length c'] w fun e w' => e = .returned (.tuple #[.bool (soundR vs js bs).1, .int .i64 (soundR vs js bs).2]) ∧ Below w.heap.size w w' := by
  have hJ := areJoints_impl A2 c2 js w hr2 hm2
  have HB : Hid (∀ v : World, RdV v v.heap.size A vs → Rd v v.heap.size 1 tC A' bs → Calls Try.prog 112 #[.slice A vs.length c, .slice A' bs.length c'] v fun e w' => e = .returned (.bool (buildB vs bs)) ∧ Below v.heap.size v w') := fun v h1 h2 => isBuild_impl A A' c c' vs bs v h1 h2 hs hm'
  have HS : Hid (jointsB js = true → buildB vs bs = true → ∀ v : World, RdV v v.heap.size A vs → Rd v v.heap.size 3 jointC A2 js → Rd v v.heap.size 1 tC A' bs → Calls Try.prog 117 #[.slice A vs.length c, .slice A2 js.length c2, .slice A' bs.length c'] v fun e w' => e = .returned (.bool (soundB vs js bs)) ∧ Below v.heap.size v w') := fun h1 h2 v h3 h4 h5 => isSound_any A A2 A' c c2 c' vs js bs v h3 h4 h5 hs hm2 (buildB_codes h2).1 (jointsB_in h1).2
  have HR : Hid (soundR vs js bs = if jointsB js = true then (if buildB vs bs = true then (soundB vs js bs, 0) else (false, 1)) else (false, 1)) := rfl
  generalize soundR vs js bs = R at HR ⊢
  generalize jointsB js = bj at hJ HR HS
  generalize buildB vs bs = bb at HB HR HS
  generalize soundB vs js bs = sb at HR HS
  have HJ := Lib.hid hJ; clear hJ
  go_enter Try.func43, Try.ntmps43
  go_wp2_with fail
  refine HJ.out.mono ?_
  rintro e w1 ⟨rfl, hb1⟩
  cases bj
  case false =>
    go_wp2_with fail
    go_ret2
    exact ⟨by rw [HR.out]; rfl, hb1⟩
  case true =>
    go_wp2_with fail
    refine (HB.out w1 (hr.next hb1) (hr'.next hb1)).mono ?_
    rintro e w2 ⟨rfl, hb2⟩
    have hb12 := bthen hb1 hb2
    cases bb
    case false =>
      go_wp2_with fail
      go_ret2
      exact ⟨by rw [HR.out]; rfl, hb12⟩
    case true =>
      go_wp2_with fail
      refine (HS.out (by trivial) (by trivial) w2 (hr.next hb12) (hr2.next hb12) (hr'.next hb12)).mono ?_
      rintro e w3 ⟨rfl, hb3⟩
      go_wp2_with fail
      go_ret2
      exact ⟨by rw [HR.out]; rfl, bthen hb12 hb3⟩
theorem IsSound_spec (A A2 A' : Option Addr) (c c2 c' : Nat) (vs : List PartT) (js : List JointT) (bs : List ByteArray) (w : World) (hr : RdV w w.heap.size A vs) (hr2 : Rd w w.heap.size 3 jointC A2 js) (hr' : Rd w w.heap.size 1 tC A' bs) (hs : SmallV vs) (hm2 : js.length ≤ 1048576) (hm' : bs.length ≤ 1048576) :
    Calls Try.prog 44 #[.slice A vs.length c, .slice A2 js.length c2, .slice A' bs.length c'] w fun e w' => e = .returned (.tuple #[.bool (soundR vs js bs).1, .int .i64 (soundR vs js bs).2]) ∧ Below w.heap.size w w' := by
  have hJ := l17Code_any A A2 A' c c2 c' vs js bs 0 w hr hr2 hr' hs hm2 hm'
  have hz := codeL_zero vs js bs
  by_cases hg : jointsB js = true ∧ buildB vs bs = true
  · obtain ⟨hj, hB⟩ := hg
    have HF : Hid (soundR vs js bs = (soundB vs js bs, 0)) := by unfold Hid soundR; rw [if_pos hj, if_pos hB]
    have HL : Hid (∀ v : World, RdV v v.heap.size A vs → Rd v v.heap.size 3 jointC A2 js → Rd v v.heap.size 1 tC A' bs → Calls Try.prog 115 #[.slice A vs.length c, .slice A2 js.length c2, .slice A' bs.length c', .int .i64 2] v (GivesOwn v 2 1 nC (idxTo (isState vs bs 2) js js.length))) := fun v h1 h2 h3 => l17Joints_any A A2 A' c c2 c' vs js bs 2 v h1 h2 h3 hs hm2 (buildB_codes hB).1 (jointsB_in hj).2
    have HE : Hid (soundB vs js bs = decide ((idxTo (isState vs bs 2) js js.length).length = js.length)) := soundB_len vs js bs
    have hle := idxTo_le (isState vs bs 2) js js.length
    rw [hz, if_pos ⟨hj, hB⟩] at hJ
    have HJ := Lib.hid hJ; clear hJ hj hB hz hs
    generalize soundR vs js bs = R at HF ⊢
    generalize soundB vs js bs = sb at HF HE
    generalize idxTo (isState vs bs 2) js js.length = L at HL HE hle
    go_enter Try.func44, Try.ntmps44
    go_wp2_with fail
    refine HJ.out.mono ?_
    rintro e w1 ⟨rfl, hb1⟩
    go_wp2_with fail
    refine (HL.out w1 (hr.next hb1) (hr2.next hb1) (hr'.next hb1)).mono ?_
    rintro e w2 ⟨A3, c3, rfl, hf2, hc2, hb2⟩
    by_cases hq : L.length = js.length
    · have hq1 : ((L.length : Int) == (js.length : Int)) = true := by simp [hq]
      have HT : Hid (sb = true) := by unfold Hid; rw [HE.out]; exact decide_eq_true hq
      clear hq
      go_wp2_with fail
      go_ret2
      exact ⟨by rw [HF.out, HT.out]; rfl, bthen hb1 hb2⟩
    · have hq1 : ((L.length : Int) == (js.length : Int)) = false := by rw [beq_eq_false_iff_ne]; omega
      have HT : Hid (sb = false) := by unfold Hid; rw [HE.out]; exact decide_eq_false hq
      clear hq
      go_wp2_with fail
      go_ret2
      exact ⟨by rw [HF.out, HT.out]; rfl, bthen hb1 hb2⟩
  · have HF : Hid (soundR vs js bs = (false, 1)) := by
      unfold Hid soundR
      by_cases h1 : jointsB js = true
      · rw [if_pos h1, if_neg (fun h2 => hg ⟨h1, h2⟩)]
      · rw [if_neg h1]
    rw [hz, if_neg hg] at hJ
    have HJ := Lib.hid hJ; clear hJ hg hz hs
    generalize soundR vs js bs = R at HF ⊢
    go_enter Try.func44, Try.ntmps44
    go_wp2_with fail
    refine HJ.out.mono ?_
    rintro e w1 ⟨rfl, hb1⟩
    go_wp2_with fail
    go_ret2
    exact ⟨by rw [HF.out]; rfl, hb1⟩

end Go.Proofs.Ytlhbjgbkpjlacaa

namespace Go.Proofs.Ytlhbjgbkpjlacaa
set_option maxRecDepth 100000
open Go.RowKit

theorem textAt_set {b : List ByteArray} {s t : Int} {c : ByteArray} (hs : 0 ≤ s) (ht : 0 ≤ t) (hl : s.toNat < b.length) : textAt (setT b s c) t = if t = s then c else textAt b t := by
  unfold textAt setT
  by_cases e : t = s
  · subst e
    rw [if_pos rfl, List.getElem?_set_self hl]
  · rw [if_neg e, List.getElem?_set_ne (by omega)]
theorem founds_unbroken {vs : List PartT} {js : List JointT} : ∀ (ss : List Int) (b : List ByteArray), ss ≠ [] → ∀ r ∈ founds (traceS vs js ss b), anyBroken vs js r = false
  | [], _, h, _, _ => absurd rfl h
  | s :: ss, b, _, r, hr => by
    rw [traceS_cons] at hr
    simp only [founds, List.mem_filterMap, id, ways, List.mem_flatMap] at hr
    obtain ⟨_, ⟨o, ho, hr⟩, rfl⟩ := hr
    simp only [List.mem_cons, reduceCtorEq, false_or] at hr
    cases o with
    | none => simp at hr
    | some b' =>
      simp only at hr
      simp only [stepS, List.mem_map, List.mem_filter, decide_eq_true_eq] at ho
      obtain ⟨x, _, he⟩ := ho
      obtain ⟨_, hb⟩ := wayOf_some he
      have hr2 : r ∈ founds (traceS vs js ss b') := by
        simp only [founds, List.mem_filterMap, id, exists_eq_right]
        exact hr
      cases ss with
      | nil =>
        rw [traceS_nil] at hr2
        simp only [founds, List.filterMap_cons, id, List.filterMap_nil, List.mem_singleton] at hr2
        rw [hr2]
        exact hb
      | cons s2 ss2 => exact founds_unbroken (s2 :: ss2) b' (by simp) r hr2
theorem slotsTo_of {js : List JointT} {s : Nat} (h : touched js (s : Int) = true) : ∀ k, s < k → (s : Int) ∈ slotsTo js k
  | 0, hk => by omega
  | k + 1, hk => by
    unfold slotsTo
    by_cases e : s = k
    · subst e
      rw [if_pos h]
      simp
    · have := slotsTo_of h k (by omega)
      split
      · exact List.mem_append_left _ this
      · exact this
theorem slots_ends {js : List JointT} (hj : jointsB js = true) {j : JointT} (h : j ∈ js) : j.1 ∈ slotsOf js ∧ j.2.1 ∈ slotsOf js := by
  have h1 := (jointsB_in hj).2 j h
  unfold SlotsIn at h1
  have key : ∀ s : Int, 0 ≤ s → s ≤ 7 → (j.1 = s ∨ j.2.1 = s) → s ∈ slotsOf js := fun s h0 h7 hs => by
    have ht : touched js ((s.toNat : Nat) : Int) = true := by
      unfold touched touchJ
      rw [List.any_eq_true]
      refine ⟨j, h, ?_⟩
      rcases hs with hs | hs <;> simp [hs] <;> omega
    have := slotsTo_of ht 8 (by omega)
    rwa [Int.toNat_of_nonneg h0] at this
  exact ⟨key _ h1.1 h1.2.1 (Or.inl rfl), key _ h1.2.2.1 h1.2.2.2 (Or.inr rfl)⟩
/-- What every build on the way keeps. -/
def OnWay (vs : List PartT) (js : List JointT) (ss : List Int) (b : List ByteArray) : Prop :=
  b.length = 8 ∧ (∀ (i : Nat) (c : ByteArray), b[i]? = some c → c ≠ noText → ∃ (k : Nat) (x : PartT), findI vs c = (k : Int) ∧ vs[k]? = some x ∧ x.slot = (i : Int)) ∧
    (∀ s ∈ slotsOf js, s ∉ ss → textAt b s ≠ noText) ∧ (∀ s ∈ ss, 0 ≤ s ∧ s < 8)
theorem founds_way {vs : List PartT} {js : List JointT} (hp : partsB vs = true) {r : List ByteArray} (hr : r ∈ allB vs js) : OnWay vs js [] r := by
  refine founds_all (G := OnWay vs js) (fun s ss b x h hx hs => ?_) (slotsOf js) bare ⟨rfl, fun i c hc hn => ?_, fun s h1 h2 => absurd h1 h2, fun s h => by have := slotsTo_mem h; omega⟩ r hr
  · obtain ⟨h1, h2, h3, h4⟩ := h
    have hs0 := h4 s (by simp)
    refine ⟨by rw [setT_len]; exact h1, fun i c hc hn => ?_, fun s' h5 h6 => ?_, fun s' h5 => h4 s' (List.mem_cons_of_mem _ h5)⟩
    · unfold setT at hc
      by_cases e : s.toNat = i
      · subst e
        rw [List.getElem?_set_self (by omega)] at hc
        obtain ⟨k, hk⟩ := List.mem_iff_getElem?.1 hx
        refine ⟨k, x, ?_, hk, by omega⟩
        rw [← Option.some.inj hc]
        exact findI_at hp hk
      · rw [List.getElem?_set_ne e] at hc
        exact h2 i c hc hn
    · have h50 := slotsTo_mem h5
      rw [textAt_set hs0.1 h50.1 (by omega)]
      by_cases e : s' = s
      · rw [if_pos e]
        exact word_some (partsB_mem hp hx).word
      · rw [if_neg e]
        exact h3 s' h5 (by simp [e, h6])
  · exfalso
    refine hn ?_
    have := List.mem_of_getElem? hc
    exact List.eq_of_mem_replicate this
theorem founds_good {vs : List PartT} {js : List JointT} (h : bothB vs js = true) {r : List ByteArray} (hr : r ∈ allB vs js) : buildB vs r = true ∧ soundB vs js r = true := by
  have hpj : partsB vs = true ∧ jointsB js = true := by
    unfold bothB at h
    simpa using h
  obtain ⟨hp, hj⟩ := hpj
  obtain ⟨h1, h2, h3, _⟩ := founds_way hp hr
  refine ⟨buildB_mk hp h1 h2, ?_⟩
  have hC : Codes vs r := founds_codes hp hr
  unfold soundB
  rw [List.all_eq_true]
  intro j hjm
  have hin := (jointsB_in hj).2 j hjm
  obtain ⟨e1, e2⟩ := slots_ends hj hjm
  have ho : openB vs r j = false := by
    rw [openB_eq hC hin]
    unfold openT
    have a1 := h3 _ e1 (by simp)
    have a2 := h3 _ e2 (by simp)
    simp [a1, a2]
  have hb : brokenB vs r j = false := by
    have hne : slotsOf js ≠ [] := by
      intro e
      rw [e] at e1
      simp at e1
    have hany := founds_unbroken (slotsOf js) bare hne r hr
    unfold anyBroken at hany
    rw [List.any_eq_false] at hany
    have := hany j hjm
    simpa using this
  have hbd := stateJ_bd vs r j
  unfold openB at ho
  unfold brokenB at hb
  unfold isState
  simp only [decide_eq_false_iff_not] at ho hb
  simp only [decide_eq_true_eq]
  omega
theorem founds_sound {vs : List PartT} {js : List JointT} (h : bothB vs js = true) {r : List ByteArray} (hr : r ∈ allB vs js) : soundR vs js r = (true, 0) := by
  obtain ⟨h1, h2⟩ := founds_good h hr
  have hj : jointsB js = true := by
    unfold bothB at h
    simp only [Bool.and_eq_true] at h
    exact h.2
  unfold soundR
  rw [if_pos hj, if_pos h1, h2]

theorem ats_none {vs : List PartT} {js : List JointT} (h : (allB vs js)[0]? = none) : allB vs js = [] ∧ (atsOf 0 (tr vs js))[0]? = none := by
  have hl := atsOf_length 0 (tr vs js)
  have h0 : allB vs js = [] := by
    cases e : allB vs js with
    | nil => rfl
    | cons a l => rw [e] at h; simp at h
  have h1 : (founds (tr vs js)) = [] := h0
  rw [h1] at hl
  refine ⟨h0, ?_⟩
  rw [List.eq_nil_of_length_eq_zero hl]
  rfl
/-- What the first bicycle and the counts say of one another. -/
structure FirstLaw (vs : List PartT) (js : List JointT) (m : Int) (R : List ByteArray × Int × Int) (cn nd : Int) : Prop where
  notFound : R.2.2 = 4 → cn ≤ 0 ∧ nd ≤ m
  limit : R.2.2 = 3 → m < nd
  sound : R.2.2 = 0 → soundR vs js R.1 = (true, 0)
  some : R.2.2 = 0 → 1 ≤ cn ∧ R.2.1 ≤ nd ∧ R.2.1 ≤ m ∧ 0 ≤ R.2.1 ∧ R.2.1 ≤ 5000
  less : R.2.2 = 0 → R.2.1 ≠ 0 → (firstR vs js (R.2.1 - 1)).2.2 = 3
  len : R.1.length ≤ 8
theorem first_law (vs : List PartT) (js : List JointT) (m : Int) : FirstLaw vs js m (firstR vs js m) (countR vs js).1 (nodesR vs js).1 := by
  by_cases hb : bothB vs js = true
  · have ec : countR vs js = (((allB vs js).length : Int), 0) := by unfold countR; rw [if_pos hb]
    have en : nodesR vs js = (nodesOf (tr vs js), 0) := by unfold nodesR; rw [if_pos hb]
    rw [ec, en]
    by_cases hi : inB m 0 5000 = true
    · have hm := inB_true hi
      cases h0 : (allB vs js)[0]? with
      | none =>
        obtain ⟨e0, e1⟩ := ats_none h0
        have eR : firstR vs js m = if m < nodesOf (tr vs js) then ([], 0, 3) else ([], 0, 4) := by
          unfold firstR
          rw [if_pos hb, if_pos hi, h0]
        rw [eR, e0]
        by_cases hlt : m < nodesOf (tr vs js)
        · rw [if_pos hlt]
          exact ⟨fun h => by simp at h, fun _ => hlt, fun h => by simp at h, fun h => by simp at h, fun h => by simp at h, by simp⟩
        · rw [if_neg hlt]
          exact ⟨fun _ => ⟨by simp, by simp only; omega⟩, fun h => by simp at h, fun h => by simp at h, fun h => by simp at h, fun h => by simp at h, by simp⟩
      | some b =>
        have hmem := List.mem_of_getElem? h0
        have hlen := (founds_codes (r := b) (js := js) (by unfold bothB at hb; simp only [Bool.and_eq_true] at hb; exact hb.1) hmem).len
        cases h1 : (atsOf 0 (tr vs js))[0]? with
        | none =>
          exfalso
          have hl := atsOf_length 0 (tr vs js)
          have : (atsOf 0 (tr vs js)).length = 0 := by
            cases e : atsOf 0 (tr vs js) with
            | nil => rfl
            | cons a l => rw [e] at h1; simp at h1
          have h2 : (allB vs js).length = 0 := by rw [← this]; exact hl.symm
          have := (List.getElem?_eq_some_iff.1 h0).1
          omega
        | some k =>
          have hk := atsOf_bd 0 (tr vs js) k (List.mem_of_getElem? h1)
          have hpos := (List.getElem?_eq_some_iff.1 h0).1
          have key : ∀ q : Int, inB q 0 5000 = true → firstR vs js q = if k ≤ q then (b, k, 0) else ([], 0, 3) := fun q hq => by
            unfold firstR
            rw [if_pos hb, if_pos hq, h0, h1]
          rw [key m hi]
          by_cases hkm : k ≤ m
          · rw [if_pos hkm]
            refine ⟨fun h => by simp at h, fun h => by simp at h, fun _ => founds_sound hb hmem, fun _ => by simp only; omega, fun _ hne => ?_, by simp only; omega⟩
            simp only at hne ⊢
            rw [key (k - 1) (by unfold inB; simp; omega), if_neg (by omega)]
          · rw [if_neg hkm]
            exact ⟨fun h => by simp at h, fun _ => by simp only; omega, fun h => by simp at h, fun h => by simp at h, fun h => by simp at h, by simp⟩
    · have eR : firstR vs js m = ([], 0, 2) := by unfold firstR; rw [if_pos hb, if_neg hi]
      rw [eR]
      exact ⟨fun h => by simp at h, fun h => by simp at h, fun h => by simp at h, fun h => by simp at h, fun h => by simp at h, by simp⟩
  · have eR : firstR vs js m = ([], 0, 1) := by unfold firstR; rw [if_neg hb]
    rw [eR]
    exact ⟨fun h => by simp at h, fun h => by simp at h, fun h => by simp at h, fun h => by simp at h, fun h => by simp at h, by simp⟩

end Go.Proofs.Ytlhbjgbkpjlacaa

namespace Go.Proofs.Ytlhbjgbkpjlacaa
set_option maxRecDepth 100000
open Go.RowKit

section
variable {β : Type} {key : β → Int} {z : β}
theorem best_fold : ∀ (l : List β) (a : β × Int), 0 ≤ a.2 → a.2 = key a.1 → (∀ b ∈ l, 0 ≤ key b) →
    ((l.foldl (bestStep key) a).1 = a.1 ∨ (l.foldl (bestStep key) a).1 ∈ l) ∧ (l.foldl (bestStep key) a).2 = key (l.foldl (bestStep key) a).1 ∧ (l.foldl (bestStep key) a).2 ≤ a.2 ∧ ∀ b ∈ l, (l.foldl (bestStep key) a).2 ≤ key b
  | [], a, _, h1, _ => ⟨Or.inl rfl, h1, Int.le_refl _, fun b hb => absurd hb (by simp)⟩
  | b :: l, a, h0, h1, hk => by
    have hkb := hk b List.mem_cons_self
    have hkl : ∀ c ∈ l, 0 ≤ key c := fun c hc => hk c (List.mem_cons_of_mem _ hc)
    rw [List.foldl_cons]
    by_cases h : a.2 < 0 ∨ key b < a.2
    · rw [show bestStep key a b = (b, key b) from if_pos h]
      obtain ⟨i1, i2, i3, i4⟩ := best_fold l (b, key b) hkb rfl hkl
      refine ⟨?_, i2, by simp only at i3; omega, fun c hc => ?_⟩
      · rcases i1 with i1 | i1
        · exact Or.inr (by rw [i1]; exact List.mem_cons_self)
        · exact Or.inr (List.mem_cons_of_mem _ i1)
      · rcases List.mem_cons.1 hc with rfl | hc
        · exact i3
        · exact i4 c hc
    · rw [show bestStep key a b = a from if_neg h]
      obtain ⟨i1, i2, i3, i4⟩ := best_fold l a h0 h1 hkl
      refine ⟨?_, i2, i3, fun c hc => ?_⟩
      · rcases i1 with i1 | i1
        · exact Or.inl i1
        · exact Or.inr (List.mem_cons_of_mem _ i1)
      · rcases List.mem_cons.1 hc with rfl | hc
        · exact Int.le_trans i3 (by omega)
        · exact i4 c hc
theorem best_some {l : List β} (hk : ∀ b ∈ l, 0 ≤ key b) (hl : l ≠ []) : (bestOf key z l).1 ∈ l ∧ (bestOf key z l).2 = key (bestOf key z l).1 ∧ 0 ≤ (bestOf key z l).2 ∧ ∀ b ∈ l, (bestOf key z l).2 ≤ key b := by
  cases l with
  | nil => exact absurd rfl hl
  | cons b l =>
    have hkb := hk b List.mem_cons_self
    have hkl : ∀ c ∈ l, 0 ≤ key c := fun c hc => hk c (List.mem_cons_of_mem _ hc)
    have e : bestOf key z (b :: l) = l.foldl (bestStep key) (b, key b) := by
      unfold bestOf
      rw [List.foldl_cons, show bestStep key (z, -1) b = (b, key b) from if_pos (Or.inl (by simp only; omega))]
    rw [e]
    obtain ⟨i1, i2, i3, i4⟩ := best_fold l (b, key b) hkb rfl hkl
    have hmem : (l.foldl (bestStep key) (b, key b)).1 ∈ b :: l := by
      rcases i1 with i1 | i1
      · rw [i1]
        exact List.mem_cons_self
      · exact List.mem_cons_of_mem _ i1
    refine ⟨hmem, i2, ?_, fun c hc => ?_⟩
    · rw [i2]
      exact hk _ hmem
    · rcases List.mem_cons.1 hc with rfl | hc
      · exact i3
      · exact i4 c hc
theorem best_none : bestOf key z [] = (z, -1) := rfl
end
theorem fin_some {key : List ByteArray → Int} {l : List (List ByteArray)} (hk : ∀ b ∈ l, 0 ≤ key b) : (l = [] ∧ finR (bestOf key [] l) = ([], 0, 4)) ∨ (∃ b ∈ l, finR (bestOf key [] l) = (b, key b, 0) ∧ ∀ c ∈ l, key b ≤ key c) := by
  by_cases hl : l = []
  · subst hl
    exact Or.inl ⟨rfl, by unfold finR; rw [best_none, if_pos (by decide)]⟩
  · obtain ⟨i1, i2, i3, i4⟩ := best_some (key := key) (z := []) hk hl
    refine Or.inr ⟨_, i1, ?_, fun c hc => by rw [← i2]; exact i4 c hc⟩
    unfold finR
    rw [if_neg (by omega), i2]
theorem both_parts {vs : List PartT} {js : List JointT} (h : bothB vs js = true) : partsB vs = true := by
  unfold bothB at h
  simp only [Bool.and_eq_true] at h
  exact h.1
theorem sum_of {vs : List PartT} {js : List JointT} (h : bothB vs js = true) {r : List ByteArray} (hr : r ∈ allB vs js) (f : PartT → Int) : sumR vs f r = (sumTo vs f r r.length, 0) := by
  unfold sumR
  rw [if_pos (founds_good h hr).1]
structure LightLaw (vs : List PartT) (js : List JointT) (m : Int) (R : List ByteArray × Int × Int) : Prop where
  sound : R.2.2 = 0 → soundR vs js R.1 = (true, 0)
  price : R.2.2 = 0 → ∃ q, sumR vs PartT.price R.1 = (q, 0) ∧ q ≤ m
  grams : R.2.2 = 0 → sumR vs PartT.grams R.1 = (R.2.1, 0)
  len : R.1.length ≤ 8
theorem light_law (vs : List PartT) (js : List JointT) (m : Int) : LightLaw vs js m (lightR vs js m) := by
  by_cases hb : bothB vs js = true
  · by_cases hi : inB m 0 100000000 = true
    · have e : lightR vs js m = finR (bestOf (gramsB vs) [] ((allB vs js).filter fun b => decide (priceB vs b ≤ m))) := by unfold lightR; rw [if_pos hb, if_pos hi]
      rw [e]
      rcases fin_some (key := gramsB vs) (l := (allB vs js).filter fun b => decide (priceB vs b ≤ m)) (fun b h => (gramsB_bd (founds_codes (both_parts hb) (List.mem_filter.1 h).1)).1) with ⟨_, h⟩ | ⟨b, hbm, h, _⟩
      · rw [h]
        exact ⟨fun h => by simp at h, fun h => by simp at h, fun h => by simp at h, by simp⟩
      · rw [h]
        obtain ⟨h1, h2⟩ := List.mem_filter.1 hbm
        exact ⟨fun _ => founds_sound hb h1, fun _ => ⟨_, sum_of hb h1 _, of_decide_eq_true h2⟩, fun _ => sum_of hb h1 _, by have := (founds_codes (both_parts hb) h1).len; simp only; omega⟩
    · have e : lightR vs js m = ([], 0, 2) := by unfold lightR; rw [if_pos hb, if_neg hi]
      rw [e]
      exact ⟨fun h => by simp at h, fun h => by simp at h, fun h => by simp at h, by simp⟩
  · have e : lightR vs js m = ([], 0, 1) := by unfold lightR; rw [if_neg hb]
    rw [e]
    exact ⟨fun h => by simp at h, fun h => by simp at h, fun h => by simp at h, by simp⟩
theorem idx_in {α : Type} {p : α → Bool} {xs : List α} {j : Nat} {x : α} (hx : xs[j]? = some x) (hp : p x = true) : ∀ k, j < k → ((j : Nat) : Int) ∈ idxTo p xs k
  | 0, h => by omega
  | k + 1, h => by
    by_cases e : j = k
    · subst e
      rw [idxTo_yes hx hp]
      simp
    · have ih := idx_in hx hp k (by omega)
      unfold idxTo
      split
      · split
        · exact List.mem_append_left _ ih
        · exact ih
      · exact ih
theorem need_law (vs : List PartT) (js : List JointT) : (neededR vs js).2 = 0 → ∀ n ∈ (neededR vs js).1, n ∈ (usableR vs js).1 := by
  intro h0 n hn
  unfold neededR at h0 hn
  by_cases hb : bothB vs js = true
  · rw [if_pos hb] at h0 hn
    by_cases hl : (allB vs js).length = 0
    · rw [if_pos hl] at h0
      simp at h0
    · rw [if_neg hl] at hn
      obtain ⟨j, x, rfl, hj, hx, hp⟩ := idxTo_mem hn
      unfold usableR
      rw [if_pos hb]
      refine idx_in hx (decide_eq_true ?_) vs.length hj
      have := of_decide_eq_true hp
      rw [this]
      omega
  · rw [if_neg hb] at h0
    simp at h0
structure WithLaw (vs : List PartT) (js : List JointT) (code : ByteArray) (R C : List ByteArray × Int × Int) (U : List Int × Int) : Prop where
  cheap : R.2.2 = 0 → C.2.2 = 0 ∧ C.2.1 ≤ R.2.1
  find : R.2.2 = 0 → ∃ k : Int, findR vs code = (k, 0) ∧ k ∈ U.1
  has : R.2.2 = 0 → code ∈ R.1
  len : R.1.length ≤ 8
theorem textAt_mem {b : List ByteArray} {s : Int} {c : ByteArray} (h0 : 0 ≤ s) (h1 : s.toNat < b.length) (h : textAt b s = c) : c ∈ b := by
  unfold textAt at h
  rw [List.getElem?_eq_getElem h1] at h
  simp only at h
  rw [← h]
  exact List.getElem_mem h1
theorem with_law (vs : List PartT) (js : List JointT) (code : ByteArray) : WithLaw vs js code (withR vs js code) (cheapR vs js) (usableR vs js) := by
  by_cases hb : bothB vs js = true
  · have hp := both_parts hb
    by_cases hf : findI vs code < 0
    · have e : withR vs js code = ([], 0, 4) := by unfold withR; rw [if_pos hb, if_pos hf]
      rw [e]
      exact ⟨fun h => by simp at h, fun h => by simp at h, fun h => by simp at h, by simp⟩
    · have e : withR vs js code = finR (bestOf (priceB vs) [] ((allB vs js).filter (hasCode vs code))) := by unfold withR; rw [if_pos hb, if_neg hf]
      have ec : cheapR vs js = finR (bestOf (priceB vs) [] (allB vs js)) := by unfold cheapR; rw [if_pos hb]
      have hk : ∀ b ∈ allB vs js, 0 ≤ priceB vs b := fun b h => (priceB_bd (founds_codes hp h)).1
      rw [e, ec]
      rcases fin_some (key := priceB vs) (l := (allB vs js).filter (hasCode vs code)) (fun b h => hk b (List.mem_filter.1 h).1) with ⟨_, h⟩ | ⟨b, hbm, h, _⟩
      · rw [h]
        exact ⟨fun h => by simp at h, fun h => by simp at h, fun h => by simp at h, by simp⟩
      · rw [h]
        obtain ⟨h1, h2⟩ := List.mem_filter.1 hbm
        have hcodes := founds_codes hp h1
        obtain ⟨k, x, ek, hkl, hx, hxc, _⟩ := findI_word hp (by omega : 0 ≤ findI vs code)
        have h3 : textAt b (slotAt vs (findI vs code)) = code := of_decide_eq_true h2
        have hsl : slotAt vs (findI vs code) = x.slot := by rw [ek]; exact slotAt_eq hx
        rw [hsl] at h3
        have hin := partsB_mem hp (List.mem_of_getElem? hx)
        have hb8 := hcodes.len
        refine ⟨fun _ => ?_, fun _ => ⟨findI vs code, ?_, ?_⟩, fun _ => ?_, by simp only; omega⟩
        · rcases fin_some (key := priceB vs) (l := allB vs js) hk with ⟨h4, _⟩ | ⟨b2, _, h5, h6⟩
          · rw [h4] at h1
            simp at h1
          · rw [h5]
            exact ⟨rfl, h6 b h1⟩
        · unfold findR
          rw [if_pos hp, if_neg hf]
        · unfold usableR
          rw [if_pos hb, ek]
          refine idx_in hx (decide_eq_true ?_) vs.length hkl
          unfold timesOf
          have hu : b ∈ (allB vs js).filter (usesB x) := List.mem_filter.2 ⟨h1, by unfold usesB; rw [h3, hxc]; exact decide_eq_true rfl⟩
          have := List.length_pos_of_mem hu
          omega
        · show code ∈ b
          exact textAt_mem hin.slot0 (by have := hin.slot7; have := hin.slot0; omega) h3
  · have e : withR vs js code = ([], 0, 1) := by unfold withR; rw [if_neg hb]
    rw [e]
    exact ⟨fun h => by simp at h, fun h => by simp at h, fun h => by simp at h, by simp⟩

end Go.Proofs.Ytlhbjgbkpjlacaa

namespace Go.Proofs.Ytlhbjgbkpjlacaa
set_option maxRecDepth 100000
open Go.RowKit

set_option maxHeartbeats 1000000 in
theorem CheapestBicycle_impl (LA JA : Option Addr) (lc jc : Nat) (vs : List PartT) (js : List JointT) (w : World) (hr : RdV w w.heap.size LA vs) (hr2 : Rd w w.heap.size 3 jointC JA js) (hs : SmallV vs) (hm2 : js.length ≤ 1048576) :
    Calls Try.prog 66 #[.slice LA vs.length lc, .slice JA js.length jc] w (GivesRes2 w w.heap.size (cheapR vs js)) := by
  have hBo := areBoth_any LA JA lc jc vs js w hr hr2 hs hm2
  by_cases hb : bothB vs js = true
  · rw [hb] at hBo
    have HBo := Lib.hid hBo; clear hBo
    have HC : Hid (∀ v : World, RdV v v.heap.size LA vs → Rd v v.heap.size 3 jointC JA js → Calls Try.prog 139 #[.slice LA vs.length lc, .slice JA js.length jc, .string noText] v (GivesRes2 v v.heap.size (finR (bestOf (priceB vs) [] (allB vs js))))) := fun v h1 h2 => cheapest_any LA JA lc jc vs js v h1 h2 hs hb
    have HR : Hid (cheapR vs js = finR (bestOf (priceB vs) [] (allB vs js))) := by unfold Hid cheapR; rw [if_pos hb]
    generalize finR (bestOf (priceB vs) [] (allB vs js)) = R2 at HC HR
    generalize cheapR vs js = R at HR ⊢
    clear hs hb hm2
    go_enter Try.func66, Try.ntmps66
    go_wp2_with fail
    refine HBo.out.mono ?_
    rintro e w1 ⟨rfl, hb1⟩
    go_wp2_with fail
    refine (HC.out w1 (hr.next hb1) (hr2.next hb1)).mono ?_
    rintro e w2 ⟨A, c, rfl, hf, hc, hb2⟩
    have Hf := Lib.hid hf
    have Hc := Lib.hid hc
    clear hf hc
    go_wp2_with fail
    go_ret3
    have := HR.out
    subst this
    exact ⟨A, c, rfl, Hf.out.mono hb1.size (Nat.le_refl _), Hc.out, bthen hb1 hb2⟩
  · have HR : Hid (cheapR vs js = ([], 0, 1)) := by unfold Hid cheapR; rw [if_neg hb]
    have hb' : bothB vs js = false := by simpa using hb
    rw [hb'] at hBo
    have HBo := Lib.hid hBo; clear hBo hb hb' hs hm2
    generalize cheapR vs js = R at HR ⊢
    go_enter Try.func66, Try.ntmps66
    go_wp2_with fail
    refine HBo.out.mono ?_
    rintro e w1 ⟨rfl, hb1⟩
    go_wp2_with fail
    go_ret3
    exact ⟨none, 0, by rw [HR.out]; rfl, by rw [HR.out]; exact flat_nil, by rw [HR.out]; exact Nat.le_refl _, hb1⟩

set_option maxHeartbeats 1000000 in
theorem CheapestWith_impl (LA JA : Option Addr) (lc jc : Nat) (vs : List PartT) (js : List JointT) (w : World) (hr : RdV w w.heap.size LA vs) (hr2 : Rd w w.heap.size 3 jointC JA js) (hs : SmallV vs) (hm2 : js.length ≤ 1048576) (code : ByteArray) :
    Calls Try.prog 69 #[.slice LA vs.length lc, .slice JA js.length jc, .string code] w (GivesRes2 w w.heap.size (withR vs js code)) := by
  have hBo := areBoth_any LA JA lc jc vs js w hr hr2 hs hm2
  by_cases hb : bothB vs js = true
  · rw [hb] at hBo
    have HBo := Lib.hid hBo; clear hBo
    have hbd := findI_bd vs code hs.1
    have HF : Hid (∀ v : World, RdV v v.heap.size LA vs → Calls Try.prog 95 #[.slice LA vs.length lc, .string code] v fun e w' => e = .returned (.int .i64 (findI vs code)) ∧ Below v.heap.size v w') := fun v h1 => findPart_any LA lc vs code v h1 hs.1
    by_cases hn : findI vs code < 0
    · have HR : Hid (withR vs js code = ([], 0, 4)) := by unfold Hid withR; rw [if_pos hb, if_pos hn]
      generalize withR vs js code = R at HR ⊢
      clear hs hb hm2
      generalize findI vs code = n at hbd HF hn
      go_enter Try.func69, Try.ntmps69
      go_wp2_with fail
      refine HBo.out.mono ?_
      rintro e w1 ⟨rfl, hb1⟩
      go_wp2_with fail
      refine (HF.out w1 (hr.next hb1)).mono ?_
      rintro e w2 ⟨rfl, hb2⟩
      go_wp2_with fail
      go_ret3
      exact ⟨none, 0, by rw [HR.out]; rfl, by rw [HR.out]; exact flat_nil, by rw [HR.out]; exact Nat.le_refl _, (bthen hb1 hb2)⟩
    · have HC : Hid (∀ v : World, RdV v v.heap.size LA vs → Rd v v.heap.size 3 jointC JA js → Calls Try.prog 139 #[.slice LA vs.length lc, .slice JA js.length jc, .string code] v (GivesRes2 v v.heap.size (finR (bestOf (priceB vs) [] ((allB vs js).filter (hasCode vs code)))))) := fun v h1 h2 => cheapest_with LA JA lc jc vs js v h1 h2 hs hb code (by omega)
      have HR : Hid (withR vs js code = finR (bestOf (priceB vs) [] ((allB vs js).filter (hasCode vs code)))) := by unfold Hid withR; rw [if_pos hb, if_neg hn]
      generalize finR (bestOf (priceB vs) [] ((allB vs js).filter (hasCode vs code))) = R2 at HC HR
      generalize withR vs js code = R at HR ⊢
      clear hs hb hm2
      generalize findI vs code = n at hbd HF hn
      go_enter Try.func69, Try.ntmps69
      go_wp2_with fail
      refine HBo.out.mono ?_
      rintro e w1 ⟨rfl, hb1⟩
      go_wp2_with fail
      refine (HF.out w1 (hr.next hb1)).mono ?_
      rintro e w2 ⟨rfl, hb2⟩
      have hb12 := bthen hb1 hb2
      go_wp2_with fail
      refine (HC.out w2 (hr.next hb12) (hr2.next hb12)).mono ?_
      rintro e w3 ⟨A, c, rfl, hf, hc, hb3⟩
      have Hf := Lib.hid hf
      have Hc := Lib.hid hc
      clear hf hc
      go_wp2_with fail
      go_ret3
      have := HR.out
      subst this
      exact ⟨A, c, rfl, Hf.out.mono hb12.size (Nat.le_refl _), Hc.out, bthen hb12 hb3⟩
  · have HR : Hid (withR vs js code = ([], 0, 1)) := by unfold Hid withR; rw [if_neg hb]
    have hb' : bothB vs js = false := by simpa using hb
    rw [hb'] at hBo
    have HBo := Lib.hid hBo; clear hBo hb hb' hs hm2
    generalize withR vs js code = R at HR ⊢
    go_enter Try.func69, Try.ntmps69
    go_wp2_with fail
    refine HBo.out.mono ?_
    rintro e w1 ⟨rfl, hb1⟩
    go_wp2_with fail
    go_ret3
    exact ⟨none, 0, by rw [HR.out]; rfl, by rw [HR.out]; exact flat_nil, by rw [HR.out]; exact Nat.le_refl _, hb1⟩

set_option maxHeartbeats 2000000 in
theorem LightestBicycle_impl (LA JA : Option Addr) (lc jc : Nat) (vs : List PartT) (js : List JointT) (w : World) (hr : RdV w w.heap.size LA vs) (hr2 : Rd w w.heap.size 3 jointC JA js) (hs : SmallV vs) (hm2 : js.length ≤ 1048576) (m : Int) (hm : -9223372036854775808 ≤ m ∧ m ≤ 9223372036854775807) :
    Calls Try.prog 67 #[.slice LA vs.length lc, .slice JA js.length jc, .int .i64 m] w (GivesRes2 w w.heap.size (lightR vs js m)) := by
  have hBo := areBoth_any LA JA lc jc vs js w hr hr2 hs hm2
  have hI := within_any m 0 100000000
  by_cases hb : bothB vs js = true
  · rw [hb] at hBo
    have HBo := Lib.hid hBo; clear hBo
    by_cases hi : inB m 0 100000000 = true
    · rw [hi] at hI
      have HI := Lib.hid hI; clear hI
      have HSu : Hid (∀ (v : World) (r : RowM), RdV v v.heap.size LA vs → Rd v v.heap.size 1 tC r.A r.bs → Codes vs r.bs → Calls Try.prog 130 #[.slice LA vs.length lc, .slice r.A r.bs.length r.c] v fun e w' => e = .returned (.tuple #[.int .i64 (priceB vs r.bs), .int .i64 (gramsB vs r.bs)]) ∧ Below v.heap.size v w') := fun v r h1 h2 h3 => buildSums_any LA r.A lc r.c vs r.bs v h1 h2 hs h3
      have HB : Hid (∀ v : World, RdV v v.heap.size LA vs → Rd v v.heap.size 3 jointC JA js → Calls Try.prog 129 #[.slice LA vs.length lc, .slice JA js.length jc] v (GivesRowsN v (allB vs js) (nodesOf (tr vs js)))) := fun v h1 h2 => bicycles_any LA JA lc jc vs js v h1 h2 hs hb
      have HCo : Hid (∀ b ∈ allB vs js, Codes vs b) := fun b hbm => founds_codes (bothB_true hb).1 hbm
      have hal := allB_len js (bothB_true hb).1
      have HLR : Hid (lightR vs js m = finR (bestOf (gramsB vs) [] ((allB vs js).filter fun b => decide (priceB vs b ≤ m)))) := by unfold Hid lightR; rw [if_pos hb, if_pos hi]
      rw [HLR.out]
      clear hs hb hi hm2 HLR
      go_enter Try.func67, Try.ntmps67
      go_wp2_with fail
      refine HBo.out.mono ?_
      rintro e w1 ⟨rfl, hb1⟩
      go_wp2_with (go_at_call 106; refine (HI.out _).mono ?_; rintro e w' ⟨rfl, rfl⟩)
      refine (HB.out w1 (hr.next hb1) (hr2.next hb1)).mono ?_
      rintro e w2 ⟨A, c, ms, rfl, hms, fms, rms, hb2⟩
      have hb12 := bthen hb1 hb2
      have hs1 := hb1.size
      have HMS := Lib.hid hms
      have hml : ms.length ≤ 131071 := by
        rw [← List.length_map (f := RowM.bs), hms]
        exact hal
      have HBd : Hid (∀ i, -1 ≤ (bestFil (gramsB vs) [] (fun b => decide (priceB vs b ≤ m)) (allB vs js) i).2 ∧ (bestFil (gramsB vs) [] (fun b => decide (priceB vs b ≤ m)) (allB vs js) i).2 ≤ 80000000) := bestFil_bd (by omega) fun b hbm => gramsB_bd (HCo.out b hbm)
      have HZ : Hid ((bestFil (gramsB vs) [] (fun b => decide (priceB vs b ≤ m)) (allB vs js) 0) = ([], -1)) := bestFil_zero _ _
      have HY : Hid (∀ (i : Nat) (b : List ByteArray), (allB vs js)[i]? = some b → (fun b => decide (priceB vs b ≤ m)) b = true → (bestFil (gramsB vs) [] (fun b => decide (priceB vs b ≤ m)) (allB vs js) (i + 1)) = bestStep (gramsB vs) (bestFil (gramsB vs) [] (fun b => decide (priceB vs b ≤ m)) (allB vs js) i) b) := fun i b h1 h2 => bestFil_yes h1 h2
      have HN : Hid (∀ (i : Nat) (b : List ByteArray), (allB vs js)[i]? = some b → (fun b => decide (priceB vs b ≤ m)) b = false → (bestFil (gramsB vs) [] (fun b => decide (priceB vs b ≤ m)) (allB vs js) (i + 1)) = (bestFil (gramsB vs) [] (fun b => decide (priceB vs b ≤ m)) (allB vs js) i)) := fun i b h1 h2 => bestFil_no h1 h2
      have HE : Hid (∀ i, ms.length ≤ i → (bestFil (gramsB vs) [] (fun b => decide (priceB vs b ≤ m)) (allB vs js) i) = bestOf (gramsB vs) [] ((allB vs js).filter (fun b => decide (priceB vs b ≤ m)))) := fun i hi => bestFil_all (by rw [← hms, List.length_map]; exact hi)
      have HF := Lib.hid fms
      have HRs := Lib.hid rms
      clear hms fms rms hal
      generalize (bestFil (gramsB vs) [] (fun b => decide (priceB vs b ≤ m)) (allB vs js)) = Bf at HBd HZ HY HN HE
      go_wp2_with fail
      go_loopw [9, 10, 32] (fun o1 o2 i wr => ∃ (n : Nat) (r : RowM), n ≤ ms.length ∧ i = .int .i64 n ∧ o1 = .slice r.A r.bs.length r.c ∧ o2 = .int .i64 (Bf n).2 ∧ r.bs = (Bf n).1 ∧ RowOk w2 w.heap.size r ∧ Below w2.heap.size w2 wr) (fun _ _ i _ => ms.length - (intOf i).toNat)
      case atStart => exact ⟨0, ⟨none, 0, []⟩, Nat.zero_le _, rfl, rfl, by rw [HZ.out], by rw [HZ.out], RowOk.nil _ _, Below.refl _ _⟩
      case round =>
        obtain ⟨n, r, hn, rfl, rfl, rfl, hrb, hrk, hb⟩ := hrel
        have HRb := Lib.hid hrb; clear hrb
        obtain ⟨hz0, hz1⟩ := HBd.out n
        have HRk := Lib.hid hrk; clear hrk
        have hb1r := bthen hb12 hb
        by_cases hlt : n < ms.length
        · have hx : ms[n]? = some ms[n] := List.getElem?_eq_getElem hlt
          obtain ⟨g, rfl⟩ := HF.out.some (by omega)
          have q0 := (HF.out.below hb (Nat.le_refl _)).cell1 hx rfl
          have hrow := HRs.out ms[n] (List.mem_of_getElem? hx)
          have hxa : (allB vs js)[n]? = some (ms[n]).bs := by
            rw [← HMS.out, List.getElem?_map, hx]
            rfl
          generalize ms[n] = y at hx q0 hrow hxa
          have hcy := HCo.out y.bs (List.mem_of_getElem? hxa)
          obtain ⟨hp0, hp1⟩ := priceB_bd hcy
          obtain ⟨hg0, hg1⟩ := gramsB_bd hcy
          have HYx := Lib.hid (HY.out n y.bs hxa)
          have HNx := Lib.hid (HN.out n y.bs hxa)
          have HSy := Lib.hid (HSu.out wr y (hr.next hb1r) ((hrow.1.rd.below hb).more hb.size) hcy)
          have HCy := Lib.hid hcy
          have HRy : Hid (RowOk w2 w.heap.size y) := ⟨hrow.1.mono (by first | exact Nat.le_refl _ | omega) (Nat.le_refl _), hrow.2⟩
          clear hx hcy hxa
          by_cases hpm : priceB vs y.bs ≤ m
          · have hpy : decide (priceB vs y.bs ≤ m) = true := by simpa using hpm
            have Hpy := Lib.hid hpy; clear hpy
            by_cases hl0 : (Bf n).2 < 0
            · have HB1 : Hid (Bf (n + 1) = (y.bs, gramsB vs y.bs)) := by unfold Hid; rw [HYx.out Hpy.out, bestStep_yes (Or.inl hl0)]
              clear HYx HNx HSu HB
              go_wp2_with fail
              refine HSy.out.mono ?_
              rintro e w3 ⟨rfl, hb3⟩
              have hbn := bthen hb hb3
              go_wp2_with fail
              exact ⟨⟨n + 1, y, by omega, by go_num, rfl, by rw [HB1.out], by rw [HB1.out], HRy.out, hbn⟩, by simp [intOf]; omega⟩
            · by_cases hl1 : gramsB vs y.bs < (Bf n).2
              · have HB1 : Hid (Bf (n + 1) = (y.bs, gramsB vs y.bs)) := by unfold Hid; rw [HYx.out Hpy.out, bestStep_yes (Or.inr hl1)]
                clear HYx HNx HSu HB
                go_wp2_with fail
                refine HSy.out.mono ?_
                rintro e w3 ⟨rfl, hb3⟩
                have hbn := bthen hb hb3
                go_wp2_with fail
                exact ⟨⟨n + 1, y, by omega, by go_num, rfl, by rw [HB1.out], by rw [HB1.out], HRy.out, hbn⟩, by simp [intOf]; omega⟩
              · have HB1 : Hid (Bf (n + 1) = Bf n) := by unfold Hid; rw [HYx.out Hpy.out, bestStep_no (by omega)]
                clear HYx HNx HSu HB
                go_wp2_with fail
                refine HSy.out.mono ?_
                rintro e w3 ⟨rfl, hb3⟩
                have hbn := bthen hb hb3
                go_wp2_with fail
                exact ⟨⟨n + 1, r, by omega, by go_num, rfl, by rw [HB1.out], by rw [HB1.out]; exact HRb.out, HRk.out, hbn⟩, by simp [intOf]; omega⟩
          · have HB1 : Hid (Bf (n + 1) = Bf n) := HNx.out (by simpa using hpm)
            clear HYx HNx HSu HB
            go_wp2_with fail
            refine HSy.out.mono ?_
            rintro e w3 ⟨rfl, hb3⟩
            have hbn := bthen hb hb3
            go_wp2_with fail
            exact ⟨⟨n + 1, r, by omega, by go_num, rfl, by rw [HB1.out], by rw [HB1.out]; exact HRb.out, HRk.out, hbn⟩, by simp [intOf]; omega⟩
        · have HEn := Lib.hid (HE.out n (by omega))
          by_cases hl0 : (Bf n).2 < 0
          · have HR2 : Hid (finR (bestOf (gramsB vs) [] ((allB vs js).filter fun b => decide (priceB vs b ≤ m))) = ([], 0, 4)) := by unfold Hid finR; rw [← HEn.out, if_pos hl0]
            go_wp2_with fail
            go_ret3
            skip
            exact ⟨none, 0, by rw [HR2.out]; rfl, by rw [HR2.out]; exact flat_nil, by rw [HR2.out]; exact Nat.le_refl _, bthen hb12 hb⟩
          · have HR2 : Hid (finR (bestOf (gramsB vs) [] ((allB vs js).filter fun b => decide (priceB vs b ≤ m))) = ((Bf n).1, (Bf n).2, 0)) := by unfold Hid finR; rw [← HEn.out, if_neg hl0]
            go_wp2_with fail
            go_ret3
            skip
            refine ⟨r.A, r.c, by rw [HR2.out, ← HRb.out]; rfl, ?_, by rw [HR2.out, ← HRb.out]; exact HRk.out.2, bthen hb12 hb⟩
            rw [HR2.out, ← HRb.out]
            exact (HRk.out.1.below hb (Nat.le_refl _)).mono (Nat.le_refl _) hb.size
    · have HR : Hid (lightR vs js m = ([], 0, 2)) := by unfold Hid lightR; rw [if_pos hb, if_neg hi]
      rw [eq_false_of_ne_true hi] at hI
      have HI := Lib.hid hI; clear hI hi hb hs hm2
      generalize lightR vs js m = R at HR ⊢
      go_enter Try.func67, Try.ntmps67
      go_wp2_with fail
      refine HBo.out.mono ?_
      rintro e w1 ⟨rfl, hb1⟩
      go_wp2_with (go_at_call 106; refine (HI.out _).mono ?_; rintro e w' ⟨rfl, rfl⟩)
      go_ret3
      exact ⟨none, 0, by rw [HR.out]; rfl, by rw [HR.out]; exact flat_nil, by rw [HR.out]; exact Nat.le_refl _, hb1⟩
  · have HR : Hid (lightR vs js m = ([], 0, 1)) := by unfold Hid lightR; rw [if_neg hb]
    have hb' : bothB vs js = false := by simpa using hb
    rw [hb'] at hBo
    have HBo := Lib.hid hBo; clear hBo hb hb' hs hm2 hI
    generalize lightR vs js m = R at HR ⊢
    go_enter Try.func67, Try.ntmps67
    go_wp2_with fail
    refine HBo.out.mono ?_
    rintro e w1 ⟨rfl, hb1⟩
    go_wp2_with fail
    go_ret3
    exact ⟨none, 0, by rw [HR.out]; rfl, by rw [HR.out]; exact flat_nil, by rw [HR.out]; exact Nat.le_refl _, hb1⟩

end Go.Proofs.Ytlhbjgbkpjlacaa

namespace Go.Proofs.Ytlhbjgbkpjlacaa
set_option maxRecDepth 100000
open Go.RowKit

set_option maxHeartbeats 2000000 in
theorem l18Best_price (LA A : Option Addr) (lc c : Nat) (vs : List PartT) (ms : List RowM) (w : World) (hr : RdV w w.heap.size LA vs) (hs : SmallV vs) (hR : Rd w w.heap.size 1 rowC A ms) (hF : RowsF w 0 w.heap.size ms) (hC : ∀ m ∈ ms, Codes vs m.bs) (hml : ms.length ≤ 131071) :
    Calls Try.prog 140 #[.slice LA vs.length lc, .slice A ms.length c, .bool true] w (GivesRes2 w 0 (finR (bestOf (priceB vs) [] (ms.map RowM.bs)))) := by
  have HP : Hid (∀ (v : World) (r : RowM), RdV v v.heap.size LA vs → Rd v v.heap.size 1 tC r.A r.bs → Codes vs r.bs → Calls Try.prog 124 #[.slice LA vs.length lc, .slice r.A r.bs.length r.c] v fun e w' => e = .returned (.int .i64 (priceB vs r.bs)) ∧ Below v.heap.size v w') := fun v r h1 h2 h3 => l17Price_any LA r.A lc r.c vs r.bs v h1 h2 hs h3
  have HG : Hid (∀ (v : World) (r : RowM), RdV v v.heap.size LA vs → Rd v v.heap.size 1 tC r.A r.bs → Codes vs r.bs → Calls Try.prog 125 #[.slice LA vs.length lc, .slice r.A r.bs.length r.c] v fun e w' => e = .returned (.int .i64 (gramsB vs r.bs)) ∧ Below v.heap.size v w') := fun v r h1 h2 h3 => l17Grams_any LA r.A lc r.c vs r.bs v h1 h2 hs h3
  have HC := Lib.hid hC; clear hC
  have HF := Lib.hid hF; clear hF
  have HBd : Hid (∀ i, -1 ≤ (bestFil (priceB vs) [] (fun _ => true) (ms.map RowM.bs) i).2 ∧ (bestFil (priceB vs) [] (fun _ => true) (ms.map RowM.bs) i).2 ≤ 80000000) := bestFil_bd (by omega) fun b hbm => by
    obtain ⟨m, hm, rfl⟩ := List.mem_map.1 hbm
    exact priceB_bd (HC.out m hm)
  have HZ : Hid ((bestFil (priceB vs) [] (fun _ => true) (ms.map RowM.bs) 0) = ([], -1)) := bestFil_zero _ _
  have HY : Hid (∀ (i : Nat) (b : List ByteArray), (ms.map RowM.bs)[i]? = some b → (bestFil (priceB vs) [] (fun _ => true) (ms.map RowM.bs) (i + 1)) = bestStep (priceB vs) (bestFil (priceB vs) [] (fun _ => true) (ms.map RowM.bs) i) b) := fun i b h1 => bestFil_yes h1 rfl
  have HE : Hid (∀ i, ms.length ≤ i → (bestFil (priceB vs) [] (fun _ => true) (ms.map RowM.bs) i) = bestOf (priceB vs) [] (ms.map RowM.bs)) := fun i hi => by
    have := bestFil_all (key := priceB vs) (z := []) (p := fun _ => true) (l := ms.map RowM.bs) (i := i) (by rw [List.length_map]; exact hi)
    rwa [List.filter_eq_self.2 (fun _ _ => rfl)] at this
  clear hs
  generalize (bestFil (priceB vs) [] (fun _ => true) (ms.map RowM.bs)) = Bf at HBd HZ HY HE
  go_enter Try.func140, Try.ntmps140
  go_wp2_with fail
  have hbV0 := balloc w (.cells #[] 9)
  have hr0 : RowOk (w.alloc (.cells #[] 9)) 0 ⟨some ⟨w.heap.size, 0, none⟩, 0, []⟩ := ⟨flat_nil, Nat.le_refl _⟩
  have HR0 := Lib.hid hr0; clear hr0
  generalize w.alloc (.cells #[] 9) = V at hbV0 HR0 ⊢
  go_loopw [9, 10, 11] (fun o1 o2 i wr => ∃ (n : Nat) (r : RowM), n ≤ ms.length ∧ i = .int .i64 n ∧ o1 = .slice r.A r.bs.length r.c ∧ o2 = .int .i64 (Bf n).2 ∧ r.bs = (Bf n).1 ∧ RowOk V 0 r ∧ Below V.heap.size V wr) (fun _ _ i _ => ms.length - (intOf i).toNat)
  case atStart => exact ⟨0, ⟨some ⟨w.heap.size, 0, none⟩, 0, []⟩, Nat.zero_le _, rfl, rfl, by rw [HZ.out], by rw [HZ.out], HR0.out, Below.refl _ _⟩
  case round =>
    obtain ⟨n, r, hn, rfl, rfl, rfl, hrb, hrk, hb⟩ := hrel
    have HRb := Lib.hid hrb; clear hrb
    obtain ⟨hz0, hz1⟩ := HBd.out n
    have HRk := Lib.hid hrk; clear hrk
    have hbV := bthen hbV0 hb
    by_cases hlt : n < ms.length
    · have hx : ms[n]? = some ms[n] := List.getElem?_eq_getElem hlt
      obtain ⟨b, o, rfl, hB, r0⟩ := (hR.below hbV).at1 hx rfl
      rw [Nat.mul_one] at r0
      have hrow := HF.out ms[n] (List.mem_of_getElem? hx)
      have hcy := HC.out ms[n] (List.mem_of_getElem? hx)
      have hxa : (ms.map RowM.bs)[n]? = some (ms[n]).bs := by rw [List.getElem?_map, hx]; rfl
      generalize ms[n] = y at hx r0 hrow hcy hxa
      obtain ⟨hp0, hp1⟩ := priceB_bd hcy
      obtain ⟨hg0, hg1⟩ := gramsB_bd hcy
      have HYx := Lib.hid (HY.out n y.bs hxa)
      have HGy := Lib.hid (HG.out wr y (hr.next hbV) (hrow.1.rd.next hbV) hcy)
      have HPy : Hid (∀ v, Below w.heap.size w v → Calls Try.prog 124 #[.slice LA vs.length lc, .slice y.A y.bs.length y.c] v fun e w' => e = .returned (.int .i64 (priceB vs y.bs)) ∧ Below v.heap.size v w') := fun v hv => HP.out v y (hr.next hv) (hrow.1.rd.next hv) hcy
      have HRy : Hid (RowOk V 0 y) := ⟨(hrow.1.below hbV0 (Nat.le_refl _)).mono (Nat.le_refl _) hbV0.size, hrow.2⟩
      clear hx hcy hxa hrow
      have HNx : True := trivial
      have HSu : True := trivial
      have HB : True := trivial
      by_cases hl0 : (Bf n).2 < 0
      · have HB1 : Hid (Bf (n + 1) = (y.bs, priceB vs y.bs)) := by unfold Hid; rw [HYx.out, bestStep_yes (Or.inl hl0)]
        clear HYx HNx HSu HB
        go_wp2_with fail
        refine HGy.out.mono ?_
        rintro e w4 ⟨rfl, hb4⟩
        have hbV4 := bthen hbV hb4
        have r0' := (hb4.cell (p := ⟨b, o + n, none⟩) (World.block_lt_of_cell? wr _ r0)).trans r0
        go_wp2_with fail
        refine (HPy.out w4 hbV4).mono ?_
        rintro e w5 ⟨rfl, hb5⟩
        have hbn := bthen (bthen hb hb4) hb5
        have r0'' := (hb5.cell (p := ⟨b, o + n, none⟩) (World.block_lt_of_cell? w4 _ r0')).trans r0'
        clear r0 r0'
        go_wp2_with fail
        exact ⟨⟨n + 1, y, by omega, by go_num, rfl, by rw [HB1.out], by rw [HB1.out], HRy.out, hbn⟩, by simp [intOf]; omega⟩
      · by_cases hl1 : priceB vs y.bs < (Bf n).2
        · have HB1 : Hid (Bf (n + 1) = (y.bs, priceB vs y.bs)) := by unfold Hid; rw [HYx.out, bestStep_yes (Or.inr hl1)]
          clear HYx HNx HSu HB
          go_wp2_with fail
          refine HGy.out.mono ?_
          rintro e w4 ⟨rfl, hb4⟩
          have hbV4 := bthen hbV hb4
          have r0' := (hb4.cell (p := ⟨b, o + n, none⟩) (World.block_lt_of_cell? wr _ r0)).trans r0
          go_wp2_with fail
          refine (HPy.out w4 hbV4).mono ?_
          rintro e w5 ⟨rfl, hb5⟩
          have hbn := bthen (bthen hb hb4) hb5
          have r0'' := (hb5.cell (p := ⟨b, o + n, none⟩) (World.block_lt_of_cell? w4 _ r0')).trans r0'
          clear r0 r0'
          go_wp2_with fail
          exact ⟨⟨n + 1, y, by omega, by go_num, rfl, by rw [HB1.out], by rw [HB1.out], HRy.out, hbn⟩, by simp [intOf]; omega⟩
        · have HB1 : Hid (Bf (n + 1) = Bf n) := by unfold Hid; rw [HYx.out, bestStep_no (by omega)]
          clear HYx HNx HSu HB
          go_wp2_with fail
          refine HGy.out.mono ?_
          rintro e w4 ⟨rfl, hb4⟩
          have hbV4 := bthen hbV hb4
          have r0' := (hb4.cell (p := ⟨b, o + n, none⟩) (World.block_lt_of_cell? wr _ r0)).trans r0
          go_wp2_with fail
          refine (HPy.out w4 hbV4).mono ?_
          rintro e w5 ⟨rfl, hb5⟩
          have hbn := bthen (bthen hb hb4) hb5
          have r0'' := (hb5.cell (p := ⟨b, o + n, none⟩) (World.block_lt_of_cell? w4 _ r0')).trans r0'
          clear r0 r0'
          go_wp2_with fail
          exact ⟨⟨n + 1, r, by omega, by go_num, rfl, by rw [HB1.out], by rw [HB1.out]; exact HRb.out, HRk.out, hbn⟩, by simp [intOf]; omega⟩
    · have HEn := Lib.hid (HE.out n (by omega))
      by_cases hl0 : (Bf n).2 < 0
      · have HR2 : Hid (finR (bestOf (priceB vs) [] (ms.map RowM.bs)) = ([], 0, 4)) := by unfold Hid finR; rw [← HEn.out, if_pos hl0]
        go_wp2_with fail
        go_ret3
        exact ⟨none, 0, by rw [HR2.out]; rfl, by rw [HR2.out]; exact flat_nil, by rw [HR2.out]; exact Nat.le_refl _, hbV⟩
      · have HR2 : Hid (finR (bestOf (priceB vs) [] (ms.map RowM.bs)) = ((Bf n).1, (Bf n).2, 0)) := by unfold Hid finR; rw [← HEn.out, if_neg hl0]
        go_wp2_with fail
        go_ret3
        refine ⟨r.A, r.c, by rw [HR2.out, ← HRb.out]; rfl, ?_, by rw [HR2.out, ← HRb.out]; exact HRk.out.2, hbV⟩
        rw [HR2.out, ← HRb.out]
        exact (HRk.out.1.below hb (Nat.le_refl _)).mono (Nat.le_refl _) hb.size

set_option maxHeartbeats 2000000 in
theorem l18Best_grams (LA A : Option Addr) (lc c : Nat) (vs : List PartT) (ms : List RowM) (w : World) (hr : RdV w w.heap.size LA vs) (hs : SmallV vs) (hR : Rd w w.heap.size 1 rowC A ms) (hF : RowsF w 0 w.heap.size ms) (hC : ∀ m ∈ ms, Codes vs m.bs) (hml : ms.length ≤ 131071) :
    Calls Try.prog 140 #[.slice LA vs.length lc, .slice A ms.length c, .bool false] w (GivesRes2 w 0 (finR (bestOf (gramsB vs) [] (ms.map RowM.bs)))) := by
  have HP : Hid (∀ (v : World) (r : RowM), RdV v v.heap.size LA vs → Rd v v.heap.size 1 tC r.A r.bs → Codes vs r.bs → Calls Try.prog 124 #[.slice LA vs.length lc, .slice r.A r.bs.length r.c] v fun e w' => e = .returned (.int .i64 (priceB vs r.bs)) ∧ Below v.heap.size v w') := fun v r h1 h2 h3 => l17Price_any LA r.A lc r.c vs r.bs v h1 h2 hs h3
  have HG : Hid (∀ (v : World) (r : RowM), RdV v v.heap.size LA vs → Rd v v.heap.size 1 tC r.A r.bs → Codes vs r.bs → Calls Try.prog 125 #[.slice LA vs.length lc, .slice r.A r.bs.length r.c] v fun e w' => e = .returned (.int .i64 (gramsB vs r.bs)) ∧ Below v.heap.size v w') := fun v r h1 h2 h3 => l17Grams_any LA r.A lc r.c vs r.bs v h1 h2 hs h3
  have HC := Lib.hid hC; clear hC
  have HF := Lib.hid hF; clear hF
  have HBd : Hid (∀ i, -1 ≤ (bestFil (gramsB vs) [] (fun _ => true) (ms.map RowM.bs) i).2 ∧ (bestFil (gramsB vs) [] (fun _ => true) (ms.map RowM.bs) i).2 ≤ 80000000) := bestFil_bd (by omega) fun b hbm => by
    obtain ⟨m, hm, rfl⟩ := List.mem_map.1 hbm
    exact gramsB_bd (HC.out m hm)
  have HZ : Hid ((bestFil (gramsB vs) [] (fun _ => true) (ms.map RowM.bs) 0) = ([], -1)) := bestFil_zero _ _
  have HY : Hid (∀ (i : Nat) (b : List ByteArray), (ms.map RowM.bs)[i]? = some b → (bestFil (gramsB vs) [] (fun _ => true) (ms.map RowM.bs) (i + 1)) = bestStep (gramsB vs) (bestFil (gramsB vs) [] (fun _ => true) (ms.map RowM.bs) i) b) := fun i b h1 => bestFil_yes h1 rfl
  have HE : Hid (∀ i, ms.length ≤ i → (bestFil (gramsB vs) [] (fun _ => true) (ms.map RowM.bs) i) = bestOf (gramsB vs) [] (ms.map RowM.bs)) := fun i hi => by
    have := bestFil_all (key := gramsB vs) (z := []) (p := fun _ => true) (l := ms.map RowM.bs) (i := i) (by rw [List.length_map]; exact hi)
    rwa [List.filter_eq_self.2 (fun _ _ => rfl)] at this
  clear hs
  generalize (bestFil (gramsB vs) [] (fun _ => true) (ms.map RowM.bs)) = Bf at HBd HZ HY HE
  go_enter Try.func140, Try.ntmps140
  go_wp2_with fail
  have hbV0 := balloc w (.cells #[] 9)
  have hr0 : RowOk (w.alloc (.cells #[] 9)) 0 ⟨some ⟨w.heap.size, 0, none⟩, 0, []⟩ := ⟨flat_nil, Nat.le_refl _⟩
  have HR0 := Lib.hid hr0; clear hr0
  generalize w.alloc (.cells #[] 9) = V at hbV0 HR0 ⊢
  go_loopw [9, 10, 11] (fun o1 o2 i wr => ∃ (n : Nat) (r : RowM), n ≤ ms.length ∧ i = .int .i64 n ∧ o1 = .slice r.A r.bs.length r.c ∧ o2 = .int .i64 (Bf n).2 ∧ r.bs = (Bf n).1 ∧ RowOk V 0 r ∧ Below V.heap.size V wr) (fun _ _ i _ => ms.length - (intOf i).toNat)
  case atStart => exact ⟨0, ⟨some ⟨w.heap.size, 0, none⟩, 0, []⟩, Nat.zero_le _, rfl, rfl, by rw [HZ.out], by rw [HZ.out], HR0.out, Below.refl _ _⟩
  case round =>
    obtain ⟨n, r, hn, rfl, rfl, rfl, hrb, hrk, hb⟩ := hrel
    have HRb := Lib.hid hrb; clear hrb
    obtain ⟨hz0, hz1⟩ := HBd.out n
    have HRk := Lib.hid hrk; clear hrk
    have hbV := bthen hbV0 hb
    by_cases hlt : n < ms.length
    · have hx : ms[n]? = some ms[n] := List.getElem?_eq_getElem hlt
      obtain ⟨b, o, rfl, hB, r0⟩ := (hR.below hbV).at1 hx rfl
      rw [Nat.mul_one] at r0
      have hrow := HF.out ms[n] (List.mem_of_getElem? hx)
      have hcy := HC.out ms[n] (List.mem_of_getElem? hx)
      have hxa : (ms.map RowM.bs)[n]? = some (ms[n]).bs := by rw [List.getElem?_map, hx]; rfl
      generalize ms[n] = y at hx r0 hrow hcy hxa
      obtain ⟨hp0, hp1⟩ := priceB_bd hcy
      obtain ⟨hg0, hg1⟩ := gramsB_bd hcy
      have HYx := Lib.hid (HY.out n y.bs hxa)
      have HGy := Lib.hid (HG.out wr y (hr.next hbV) (hrow.1.rd.next hbV) hcy)
      have HPy : Hid (∀ v, Below w.heap.size w v → Calls Try.prog 124 #[.slice LA vs.length lc, .slice y.A y.bs.length y.c] v fun e w' => e = .returned (.int .i64 (priceB vs y.bs)) ∧ Below v.heap.size v w') := fun v hv => HP.out v y (hr.next hv) (hrow.1.rd.next hv) hcy
      have HRy : Hid (RowOk V 0 y) := ⟨(hrow.1.below hbV0 (Nat.le_refl _)).mono (Nat.le_refl _) hbV0.size, hrow.2⟩
      clear hx hcy hxa hrow
      have HNx : True := trivial
      have HSu : True := trivial
      have HB : True := trivial
      by_cases hl0 : (Bf n).2 < 0
      · have HB1 : Hid (Bf (n + 1) = (y.bs, gramsB vs y.bs)) := by unfold Hid; rw [HYx.out, bestStep_yes (Or.inl hl0)]
        clear HYx HNx HSu HB
        go_wp2_with fail
        refine HGy.out.mono ?_
        rintro e w4 ⟨rfl, hb4⟩
        have hbV4 := bthen hbV hb4
        have hbn := bthen hb hb4
        have r0' := (hb4.cell (p := ⟨b, o + n, none⟩) (World.block_lt_of_cell? wr _ r0)).trans r0
        clear r0
        go_wp2_with fail
        exact ⟨⟨n + 1, y, by omega, by go_num, rfl, by rw [HB1.out], by rw [HB1.out], HRy.out, hbn⟩, by simp [intOf]; omega⟩
      · by_cases hl1 : gramsB vs y.bs < (Bf n).2
        · have HB1 : Hid (Bf (n + 1) = (y.bs, gramsB vs y.bs)) := by unfold Hid; rw [HYx.out, bestStep_yes (Or.inr hl1)]
          clear HYx HNx HSu HB
          go_wp2_with fail
          refine HGy.out.mono ?_
          rintro e w4 ⟨rfl, hb4⟩
          have hbV4 := bthen hbV hb4
          have hbn := bthen hb hb4
          have r0' := (hb4.cell (p := ⟨b, o + n, none⟩) (World.block_lt_of_cell? wr _ r0)).trans r0
          clear r0
          go_wp2_with fail
          exact ⟨⟨n + 1, y, by omega, by go_num, rfl, by rw [HB1.out], by rw [HB1.out], HRy.out, hbn⟩, by simp [intOf]; omega⟩
        · have HB1 : Hid (Bf (n + 1) = Bf n) := by unfold Hid; rw [HYx.out, bestStep_no (by omega)]
          clear HYx HNx HSu HB
          go_wp2_with fail
          refine HGy.out.mono ?_
          rintro e w4 ⟨rfl, hb4⟩
          have hbV4 := bthen hbV hb4
          have hbn := bthen hb hb4
          have r0' := (hb4.cell (p := ⟨b, o + n, none⟩) (World.block_lt_of_cell? wr _ r0)).trans r0
          clear r0
          go_wp2_with fail
          exact ⟨⟨n + 1, r, by omega, by go_num, rfl, by rw [HB1.out], by rw [HB1.out]; exact HRb.out, HRk.out, hbn⟩, by simp [intOf]; omega⟩
    · have HEn := Lib.hid (HE.out n (by omega))
      by_cases hl0 : (Bf n).2 < 0
      · have HR2 : Hid (finR (bestOf (gramsB vs) [] (ms.map RowM.bs)) = ([], 0, 4)) := by unfold Hid finR; rw [← HEn.out, if_pos hl0]
        go_wp2_with fail
        go_ret3
        exact ⟨none, 0, by rw [HR2.out]; rfl, by rw [HR2.out]; exact flat_nil, by rw [HR2.out]; exact Nat.le_refl _, hbV⟩
      · have HR2 : Hid (finR (bestOf (gramsB vs) [] (ms.map RowM.bs)) = ((Bf n).1, (Bf n).2, 0)) := by unfold Hid finR; rw [← HEn.out, if_neg hl0]
        go_wp2_with fail
        go_ret3
        refine ⟨r.A, r.c, by rw [HR2.out, ← HRb.out]; rfl, ?_, by rw [HR2.out, ← HRb.out]; exact HRk.out.2, hbV⟩
        rw [HR2.out, ← HRb.out]
        exact (HRk.out.1.below hb (Nat.le_refl _)).mono (Nat.le_refl _) hb.size

end Go.Proofs.Ytlhbjgbkpjlacaa

namespace Go.Proofs.Ytlhbjgbkpjlacaa
set_option maxRecDepth 100000
open Go.RowKit

theorem filter_bs (p : List ByteArray → Bool) (ms : List RowM) : (ms.filter fun m => p m.bs).map RowM.bs = (ms.map RowM.bs).filter p := by
  rw [List.filter_map]
  rfl
theorem take_filter_yes {p : RowM → Bool} {ms : List RowM} {n : Nat} {y : RowM} (hx : ms[n]? = some y) (h : p y = true) : (ms.take (n + 1)).filter p = (ms.take n).filter p ++ [y] := by
  rw [List.take_add_one, hx, List.filter_append]
  simp [h]
theorem take_filter_no {p : RowM → Bool} {ms : List RowM} {n : Nat} {y : RowM} (hx : ms[n]? = some y) (h : p y = false) : (ms.take (n + 1)).filter p = (ms.take n).filter p := by
  rw [List.take_add_one, hx, List.filter_append]
  simp [h]

set_option maxHeartbeats 2000000 in
theorem LightestBicycle_spec (LA JA : Option Addr) (lc jc : Nat) (vs : List PartT) (js : List JointT) (w : World) (hr : RdV w w.heap.size LA vs) (hr2 : Rd w w.heap.size 3 jointC JA js) (hs : SmallV vs) (hm2 : js.length ≤ 1048576) (m : Int) (_ : -9223372036854775808 ≤ m ∧ m ≤ 9223372036854775807) :
    Calls Try.prog 76 #[.slice LA vs.length lc, .slice JA js.length jc, .int .i64 m] w (GivesRes2 w 0 (lightR vs js m)) := by
  have hCo := l18Code_any LA JA lc jc vs js w hr hr2 hs hm2
  have hI := l01In_any m 0 100000000
  by_cases hb : bothB vs js = true
  · rw [bothI_yes hb] at hCo
    have HCo := Lib.hid hCo; clear hCo
    by_cases hi : inB m 0 100000000 = true
    · rw [hi] at hI
      have HI := Lib.hid hI; clear hI
      have HA : Hid (∀ v : World, RdV v v.heap.size LA vs → Rd v v.heap.size 3 jointC JA js → Calls Try.prog 123 #[.slice LA vs.length lc, .slice JA js.length jc] v (GivesAllS v (allB vs js))) := fun v h1 h2 => l18All_any LA JA lc jc vs js v h1 h2 hs hb
      have HCd : Hid (∀ ms : List RowM, ms.map RowM.bs = allB vs js → (∀ m ∈ ms, Codes vs m.bs) ∧ ms.length ≤ 131071) := fun ms h => ⟨fun m hm => founds_codes (bothB_true hb).1 (by
          have : m.bs ∈ allB vs js := by rw [← h]; exact List.mem_map.2 ⟨m, hm, rfl⟩
          exact this), by
        have := allB_len js (bothB_true hb).1
        rwa [← h, List.length_map] at this⟩
      have HBs : Hid (∀ (v : World) (A : Option Addr) (c : Nat) (ms : List RowM), RdV v v.heap.size LA vs → Rd v v.heap.size 1 rowC A ms → RowsF v 0 v.heap.size ms → (∀ m ∈ ms, Codes vs m.bs) → ms.length ≤ 131071 → Calls Try.prog 140 #[.slice LA vs.length lc, .slice A ms.length c, .bool false] v (GivesRes2 v 0 (finR (bestOf (gramsB vs) [] (ms.map RowM.bs))))) := fun v A c ms h1 h2 h3 h4 h5 => l18Best_grams LA A lc c vs ms v h1 hs h2 h3 h4 h5
      have HPs : Hid (∀ (v : World) (r : RowM), RdV v v.heap.size LA vs → Rd v v.heap.size 1 tC r.A r.bs → Codes vs r.bs → Calls Try.prog 124 #[.slice LA vs.length lc, .slice r.A r.bs.length r.c] v fun e w' => e = .returned (.int .i64 (priceB vs r.bs)) ∧ Below v.heap.size v w') := fun v r h1 h2 h3 => l17Price_any LA r.A lc r.c vs r.bs v h1 h2 hs h3
      have HR : Hid (lightR vs js m = finR (bestOf (gramsB vs) [] ((allB vs js).filter (fun b => decide (priceB vs b ≤ m))))) := by unfold Hid lightR; rw [if_pos hb, if_pos hi]
      rw [HR.out]
      clear HR hs hb hi hm2
      go_enter Try.func76, Try.ntmps76
      go_wp2_with fail
      refine HCo.out.mono ?_
      rintro e w1 ⟨rfl, hb1⟩
      go_wp2_with (go_at_call 108; refine (HI.out _).mono ?_; rintro e w' ⟨rfl, rfl⟩)
      have HB1 := hb1
      have hbV := bthen HB1 (balloc w1 (.cells #[] 58))
      have hV : TwoSt w1 (w1.alloc (.cells #[] 58)) (some ⟨w1.heap.size, 0, none⟩) 0 [] none 0 [] [] [] [] := ⟨Own.made _ (Nat.le_refl _) rfl, Own.nil, balloc _ _, RowsF.nil, fun p hp => absurd hp (by simp), fun p hp => absurd hp (by simp)⟩
      refine (HA.out _ (hr.next hbV) (hr2.next hbV)).mono ?_
      rintro e w2 ⟨A, c, ms, rfl, hms, fms, rms, hb2⟩
      have hb12 := bthen hbV hb2
      obtain ⟨hcd, hml⟩ := HCd.out ms hms
      have HS0 := Lib.hid (hV.addR hb2 fms rms)
      have HMS := Lib.hid hms
      have HCm := Lib.hid hcd
      clear hcd hms fms rms hV HCd HA hb2 hbV
      go_wp2_with fail
      go_loopw [10, 12] (fun o i wr => ∃ (n : Nat) (oA : Option Addr) (oc : Nat) (ns : List RowM), n ≤ ms.length ∧ i = .int .i64 n ∧ o = .slice oA ns.length oc ∧ ns = (ms.take n).filter (fun r => (fun b => decide (priceB vs b ≤ m)) r.bs) ∧ TwoSt w1 wr oA oc ns none 0 [] [] [(A, ms)] ([] ++ ms)) (fun _ i _ => ms.length - (intOf i).toNat)
      case atStart => exact ⟨0, _, _, [], Nat.zero_le _, rfl, rfl, by simp, HS0.out⟩
      case round =>
        obtain ⟨n, oA, oc, ns, hn, rfl, rfl, hns, hst⟩ := hrel
        have HS := Lib.hid hst; clear hst
        have hnl : ns.length ≤ 131071 := by
          rw [hns]
          exact Nat.le_trans (List.length_filter_le _ _) (by rw [List.length_take]; omega)
        have HNs := Lib.hid hns; clear hns
        have hbr := bthen HB1 HS.out.low
        have hsr := HS.out.low.size
        by_cases hlt : n < ms.length
        · have hx : ms[n]? = some ms[n] := List.getElem?_eq_getElem hlt
          obtain ⟨g, rfl⟩ := (HS.out.rows _ (List.mem_cons_self ..)).1.some (by simpa using (by omega : 0 < ms.length))
          have q0 := (HS.out.rows _ (List.mem_cons_self ..)).1.cell1 hx rfl
          have hrow := HS.out.rowsf ms[n] (by simp)
          have hcy := HCm.out ms[n] (List.mem_of_getElem? hx)
          generalize ms[n] = y at hx q0 hrow hcy
          have Hx := Lib.hid hx; clear hx
          obtain ⟨hp0, hp1⟩ := priceB_bd hcy
          have HPr := Lib.hid (HPs.out wr y (hr.next hbr) hrow.1.rd hcy)
          clear hrow hcy
          by_cases hpm : priceB vs y.bs ≤ m
          · have HPy : Hid (decide (priceB vs y.bs ≤ m) = true) := by unfold Hid; simpa using hpm
            go_wp2_with fail
            refine HPr.out.mono ?_
            rintro e w4 ⟨rfl, hb4⟩
            have HS4 := Lib.hid (HS.out.next hb4)
            clear q0
            have HT := Lib.hid (take_filter_yes (p := fun r => (decide (priceB vs r.bs ≤ m))) Hx.out HPy.out)
            have r1 := (HS4.out.rows _ (List.mem_cons_self ..)).1.cell1 Hx.out rfl
            have hs4 := HS4.out.low.size
            go_wp2_with (at_builtin; refine wpList_append_far rfl _ _ _ rfl w1.heap.size 58 (.slice none 0 0) 1 24 Try.underlying139 infoRow rfl (by omega) (by omega) rowC ns y oA oc rfl (HS4.out.own1.keep (balloc _ _)) (w4.heap.size) _ rfl rfl (one_cell (by go_simp)) (rowC_one _) (by omega) (by simp; omega) ?_)
            intro A6 c6 w6 hown6 hb6 hfar6
            have HS6 := Lib.hid ((HS4.out.next (balloc w4 _)).pushRow hown6 hb6 (fun g hg ha => hfar6 g (by simpa using hg) ha))
            clear hown6 hb6 hfar6
            go_wp2_with fail
            exact ⟨⟨n + 1, A6, c6, ns ++ [y], by omega, by go_num, by simp, by rw [HT.out, ← HNs.out], HS6.out⟩, by simp [intOf]; omega⟩
          · have HPy : Hid (decide (priceB vs y.bs ≤ m) = false) := by unfold Hid; simpa using hpm
            go_wp2_with fail
            refine HPr.out.mono ?_
            rintro e w4 ⟨rfl, hb4⟩
            have HS4 := Lib.hid (HS.out.next hb4)
            have HT := Lib.hid (take_filter_no (p := fun r => (decide (priceB vs r.bs ≤ m))) Hx.out HPy.out)
            go_wp2_with fail
            exact ⟨⟨n + 1, oA, oc, ns, by omega, by go_num, rfl, by rw [HT.out, ← HNs.out], HS4.out⟩, by simp [intOf]; omega⟩
        · have HE : Hid (ns.map RowM.bs = (allB vs js).filter (fun b => decide (priceB vs b ≤ m))) := by
            unfold Hid
            rw [HNs.out, List.take_of_length_le (by omega), ← HMS.out]
            exact filter_bs (fun b => decide (priceB vs b ≤ m)) ms
          have HBx := Lib.hid (HBs.out wr oA oc ns (hr.next hbr) (HS.out.own1.flat rowC_len).rd (fun r hrm => HS.out.rowsf r (by
            rw [HNs.out] at hrm
            simpa using List.mem_of_mem_take (List.mem_filter.1 hrm).1)) (fun r hrm => HCm.out r (by
            rw [HNs.out] at hrm
            exact List.mem_of_mem_take (List.mem_filter.1 hrm).1)) hnl)
          rw [HE.out] at HBx
          clear HBs
          go_wp2_with fail
          refine HBx.out.mono ?_
          rintro e w3 ⟨A3, c3, rfl, hf3, hc3, hb3⟩
          have Hf := Lib.hid hf3
          have Hc := Lib.hid hc3
          clear hf3 hc3
          go_wp2_with fail
          go_ret3
          exact ⟨A3, c3, rfl, Hf.out, Hc.out, bthen hbr hb3⟩
    · have HR : Hid (lightR vs js m = ([], 0, 2)) := by unfold Hid lightR; rw [if_pos hb, if_neg hi]
      rw [eq_false_of_ne_true hi] at hI
      have HI := Lib.hid hI; clear hI hi hb hs hm2
      generalize lightR vs js m = R at HR ⊢
      go_enter Try.func76, Try.ntmps76
      go_wp2_with fail
      refine HCo.out.mono ?_
      rintro e w1 ⟨rfl, hb1⟩
      go_wp2_with (go_at_call 108; refine (HI.out _).mono ?_; rintro e w' ⟨rfl, rfl⟩)
      go_ret3
      exact ⟨none, 0, by rw [HR.out]; rfl, by rw [HR.out]; exact flat_nil, by rw [HR.out]; exact Nat.le_refl _, hb1⟩
  · rw [bothI_no hb] at hCo
    have HCo := Lib.hid hCo; clear hCo
    have HR : Hid (lightR vs js m = ([], 0, 1)) := by unfold Hid lightR; rw [if_neg hb]
    clear hb hs hm2 hI
    generalize lightR vs js m = R at HR ⊢
    go_enter Try.func76, Try.ntmps76
    go_wp2_with fail
    refine HCo.out.mono ?_
    rintro e w1 ⟨rfl, hb1⟩
    go_wp2_with fail
    go_ret3
    exact ⟨none, 0, by rw [HR.out]; rfl, by rw [HR.out]; exact flat_nil, by rw [HR.out]; exact Nat.le_refl _, hb1⟩

set_option maxHeartbeats 4000000 in
theorem CheapestWith_spec (LA JA : Option Addr) (lc jc : Nat) (vs : List PartT) (js : List JointT) (w : World) (hr : RdV w w.heap.size LA vs) (hr2 : Rd w w.heap.size 3 jointC JA js) (hs : SmallV vs) (hm2 : js.length ≤ 1048576) (code : ByteArray) :
    Calls Try.prog 70 #[.slice LA vs.length lc, .slice JA js.length jc, .string code] w (GivesRes2 w 0 (withR vs js code)) := by
  have hCo := l18Code_any LA JA lc jc vs js w hr hr2 hs hm2
  by_cases hb : bothB vs js = true
  · rw [bothI_yes hb] at hCo
    have HCo := Lib.hid hCo; clear hCo
    have HKC : Hid (∀ v : World, RdV v v.heap.size LA vs → Calls Try.prog 100 #[.slice LA vs.length lc, .string code] v fun e w' => e = .returned (.int .i64 (codeI vs code)) ∧ Below v.heap.size v w') := fun v h1 => l16Code_any LA lc vs code v h1 hs
    by_cases hn : findI vs code < 0
    · have HR : Hid (withR vs js code = ([], 0, 4)) := by unfold Hid withR; rw [if_pos hb, if_pos hn]
      have hk : codeI vs code = 4 := by unfold codeI; rw [if_pos (bothB_true hb).1, if_pos hn]
      rw [hk] at HKC
      generalize withR vs js code = R at HR ⊢
      clear hs hb hm2 hn hk
      go_enter Try.func70, Try.ntmps70
      go_wp2_with fail
      refine HCo.out.mono ?_
      rintro e w1 ⟨rfl, hb1⟩
      go_wp2_with fail
      refine (HKC.out w1 (hr.next hb1)).mono ?_
      rintro e w2 ⟨rfl, hb2⟩
      go_wp2_with fail
      go_ret3
      exact ⟨none, 0, by rw [HR.out]; rfl, by rw [HR.out]; exact flat_nil, by rw [HR.out]; exact Nat.le_refl _, (bthen hb1 hb2)⟩
    · obtain ⟨k, x, ek, hkl, hkx, hkc, hcn⟩ := findI_word (bothB_true hb).1 (by omega : 0 ≤ findI vs code)
      have hk : codeI vs code = 0 := by unfold codeI; rw [if_pos (bothB_true hb).1, if_neg hn]
      rw [hk] at HKC
      have hxo := partsB_at (bothB_true hb).1 hkx
      obtain ⟨s, hse⟩ := Int.eq_ofNat_of_zero_le hxo.slot0
      have hs7 := hxo.slot7
      rw [hse] at hs7
      have HK : Hid (slotAt vs (findI vs code) = (s : Int)) := by unfold Hid; rw [ek, slotAt_eq hkx, hse]
      have Hks := Lib.hid hse
      have HFi : Hid (∀ v : World, RdV v v.heap.size LA vs → Calls Try.prog 98 #[.slice LA vs.length lc, .string code] v fun e w' => e = .returned (.int .i64 (k : Int)) ∧ Below v.heap.size v w') := fun v h1 => by
        have := l16Find_any LA lc vs code v h1 hs.1
        rwa [ek] at this
      have HA : Hid (∀ v : World, RdV v v.heap.size LA vs → Rd v v.heap.size 3 jointC JA js → Calls Try.prog 123 #[.slice LA vs.length lc, .slice JA js.length jc] v (GivesAllS v (allB vs js))) := fun v h1 h2 => l18All_any LA JA lc jc vs js v h1 h2 hs hb
      have HCd : Hid (∀ ms : List RowM, ms.map RowM.bs = allB vs js → (∀ m ∈ ms, Codes vs m.bs) ∧ ms.length ≤ 131071) := fun ms h => ⟨fun m hm => founds_codes (bothB_true hb).1 (by
          have : m.bs ∈ allB vs js := by rw [← h]; exact List.mem_map.2 ⟨m, hm, rfl⟩
          exact this), by
        have := allB_len js (bothB_true hb).1
        rwa [← h, List.length_map] at this⟩
      have HBs : Hid (∀ (v : World) (A : Option Addr) (c : Nat) (ms : List RowM), RdV v v.heap.size LA vs → Rd v v.heap.size 1 rowC A ms → RowsF v 0 v.heap.size ms → (∀ m ∈ ms, Codes vs m.bs) → ms.length ≤ 131071 → Calls Try.prog 140 #[.slice LA vs.length lc, .slice A ms.length c, .bool true] v (GivesRes2 v 0 (finR (bestOf (priceB vs) [] (ms.map RowM.bs))))) := fun v A c ms h1 h2 h3 h4 h5 => l18Best_price LA A lc c vs ms v h1 hs h2 h3 h4 h5
      have hv16 := partsB_len (bothB_true hb).1
      have HR : Hid (withR vs js code = finR (bestOf (priceB vs) [] ((allB vs js).filter (hasCode vs code)))) := by unfold Hid withR; rw [if_pos hb, if_neg hn]
      rw [HR.out]
      obtain ⟨bl, ol, rfl⟩ := hr.addr (by omega)
      clear hs hb hxo hse hkc hcn ek hm2 hn hk HR
      go_enter Try.func70, Try.ntmps70
      go_wp2_with fail
      refine HCo.out.mono ?_
      rintro e w1 ⟨rfl, hb1⟩
      go_wp2_with fail
      refine (HKC.out w1 (hr.next hb1)).mono ?_
      rintro e wk ⟨rfl, hbk⟩
      have HB1 := bthen hb1 hbk
      clear HKC
      go_wp2_with fail
      have hbV := bthen HB1 (balloc wk (.cells #[] 58))
      have hV : TwoSt wk (wk.alloc (.cells #[] 58)) (some ⟨wk.heap.size, 0, none⟩) 0 [] none 0 [] [] [] [] := ⟨Own.made _ (Nat.le_refl _) rfl, Own.nil, balloc _ _, RowsF.nil, fun p hp => absurd hp (by simp), fun p hp => absurd hp (by simp)⟩
      refine (HA.out _ (hr.next hbV) (hr2.next hbV)).mono ?_
      rintro e w2 ⟨A, c, ms, rfl, hms, fms, rms, hb2⟩
      have hb12 := bthen hbV hb2
      obtain ⟨hcd, hml⟩ := HCd.out ms hms
      have HS0 := Lib.hid (hV.addR hb2 fms rms)
      have HMS := Lib.hid hms
      have HCm := Lib.hid hcd
      clear hcd hms fms rms hV HCd HA hb2 hbV
      go_wp2_with fail
      go_loopw [10, 12] (fun o i wr => ∃ (n : Nat) (oA : Option Addr) (oc : Nat) (ns : List RowM), n ≤ ms.length ∧ i = .int .i64 n ∧ o = .slice oA ns.length oc ∧ ns = (ms.take n).filter (fun r => (hasCode vs code) r.bs) ∧ TwoSt wk wr oA oc ns none 0 [] [] [(A, ms)] ([] ++ ms)) (fun _ i _ => ms.length - (intOf i).toNat)
      case atStart => exact ⟨0, _, _, [], Nat.zero_le _, rfl, rfl, by simp, HS0.out⟩
      case round =>
        obtain ⟨n, oA, oc, ns, hn, rfl, rfl, hns, hst⟩ := hrel
        have HS := Lib.hid hst; clear hst
        have hnl : ns.length ≤ 131071 := by
          rw [hns]
          exact Nat.le_trans (List.length_filter_le _ _) (by rw [List.length_take]; omega)
        have HNs := Lib.hid hns; clear hns
        have hbr := bthen HB1 HS.out.low
        have hsr := HS.out.low.size
        by_cases hlt : n < ms.length
        · have hx : ms[n]? = some ms[n] := List.getElem?_eq_getElem hlt
          obtain ⟨g, rfl⟩ := (HS.out.rows _ (List.mem_cons_self ..)).1.some (by simpa using (by omega : 0 < ms.length))
          have q0 := (HS.out.rows _ (List.mem_cons_self ..)).1.cell1 hx rfl
          have hrow := HS.out.rowsf ms[n] (by simp)
          have hcy := HCm.out ms[n] (List.mem_of_getElem? hx)
          generalize ms[n] = y at hx q0 hrow hcy
          have Hx := Lib.hid hx; clear hx
          have hy8 := hcy.len
          have hys : s < y.bs.length := by omega
          have hyt : y.bs[s]? = some y.bs[s] := List.getElem?_eq_getElem hys
          obtain ⟨gy, hgy⟩ := hrow.1.some (by omega)
          have hyA := hrow.1
          rw [hgy] at hyA
          have q1 := hyA.cell1 hyt rfl
          have HH : Hid (hasCode vs code y.bs = decide (y.bs[s] = code)) := by
            unfold Hid hasCode
            rw [HK.out, textAt_eq (n := (s : Int)) (c := y.bs[s]) (by rw [Int.toNat_natCast]; exact hyt)]
          have hy8' : 8 ≤ y.bs.length := by omega
          clear hy8 hyt hyA hrow hcy
          generalize y.bs[s] = ty at q1 HH
          obtain ⟨hB, pA, pc, p0, p1, p2, p3, p4, _, _⟩ := (hr.below hbr).cells hkx
          rw [Hks.out] at p1
          by_cases hty : ty = code
          · have hcc : (ty.toList == code.toList) = true := by simp [hty]
            have HPy : Hid (hasCode vs code y.bs = true) := by unfold Hid; rw [HH.out]; simp [hty]
            clear hty HH
            go_wp2_with fail
            have e0 : ∀ v : Later wr, v.w.cell? ⟨g, n, none⟩ = some (.slice y.A y.bs.length y.c) := Later.cell q0
            have e1 : ∀ v : Later wr, v.w.cell? ⟨bl, ol + k * 5 + 1, none⟩ = some (.int .i64 (s : Int)) := Later.cell p1
            have e2 : ∀ v : Later wr, v.w.cell? ⟨gy, s, none⟩ = some (.string ty) := Later.cell q1
            have HFl : Hid (∀ v : Later wr, Calls Try.prog 98 #[.slice (some ⟨bl, ol, none⟩) vs.length lc, .string code] v.w fun e w' => e = .returned (.int .i64 (k : Int)) ∧ Below v.w.heap.size v.w w') := fun v => HFi.out v.w (Later.rdv (hr.next hbr) v)
            rw [hgy] at e0
            clear q0 q1 p0 p1 p2 p3 p4 hgy
            refine wp_region_later (by kernel_rfl) (by kernel_rfl) ?_
            repeat (go_big_quiet_step ((go_at_call 98; exact Later.call (HFl.out _))))
            refine wpQuiet_nil ?_
            rintro w4 ⟨⟨_, hb4⟩, rfl⟩
            have HS4 := Lib.hid (HS.out.next hb4)
            clear e0 e1 e2
            have HT := Lib.hid (take_filter_yes (p := fun r => hasCode vs code r.bs) Hx.out HPy.out)
            have r1 := (HS4.out.rows _ (List.mem_cons_self ..)).1.cell1 Hx.out rfl
            have hs4 := HS4.out.low.size
            go_wp2_with (at_builtin; refine wpList_append_far rfl _ _ _ rfl wk.heap.size 58 (.slice none 0 0) 1 24 Try.underlying139 infoRow rfl (by omega) (by omega) rowC ns y oA oc rfl (HS4.out.own1.keep (balloc _ _)) (w4.heap.size) _ rfl rfl (one_cell (by go_simp)) (rowC_one _) (by omega) (by simp; omega) ?_)
            intro A6 c6 w6 hown6 hb6 hfar6
            have HS6 := Lib.hid ((HS4.out.next (balloc w4 _)).pushRow hown6 hb6 (fun g hg ha => hfar6 g (by simpa using hg) ha))
            clear hown6 hb6 hfar6
            go_wp2_with fail
            exact ⟨⟨n + 1, A6, c6, ns ++ [y], by omega, by go_num, by simp, by rw [HT.out, ← HNs.out], HS6.out⟩, by simp [intOf]; omega⟩
          · have hcc : (ty.toList == code.toList) = false := by simp; exact fun e => hty (str_eq.1 e)
            have HPy : Hid (hasCode vs code y.bs = false) := by unfold Hid; rw [HH.out]; simp [hty]
            clear hty HH
            go_wp2_with fail
            have e0 : ∀ v : Later wr, v.w.cell? ⟨g, n, none⟩ = some (.slice y.A y.bs.length y.c) := Later.cell q0
            have e1 : ∀ v : Later wr, v.w.cell? ⟨bl, ol + k * 5 + 1, none⟩ = some (.int .i64 (s : Int)) := Later.cell p1
            have e2 : ∀ v : Later wr, v.w.cell? ⟨gy, s, none⟩ = some (.string ty) := Later.cell q1
            have HFl : Hid (∀ v : Later wr, Calls Try.prog 98 #[.slice (some ⟨bl, ol, none⟩) vs.length lc, .string code] v.w fun e w' => e = .returned (.int .i64 (k : Int)) ∧ Below v.w.heap.size v.w w') := fun v => HFi.out v.w (Later.rdv (hr.next hbr) v)
            rw [hgy] at e0
            clear q0 q1 p0 p1 p2 p3 p4 hgy
            refine wp_region_later (by kernel_rfl) (by kernel_rfl) ?_
            repeat (go_big_quiet_step ((go_at_call 98; exact Later.call (HFl.out _))))
            refine wpQuiet_nil ?_
            rintro w4 ⟨⟨_, hb4⟩, rfl⟩
            have HS4 := Lib.hid (HS.out.next hb4)
            clear e0 e1 e2
            have HT := Lib.hid (take_filter_no (p := fun r => hasCode vs code r.bs) Hx.out HPy.out)
            go_wp2_with fail
            exact ⟨⟨n + 1, oA, oc, ns, by omega, by go_num, rfl, by rw [HT.out, ← HNs.out], HS4.out⟩, by simp [intOf]; omega⟩
        · have HE : Hid (ns.map RowM.bs = (allB vs js).filter (hasCode vs code)) := by
            unfold Hid
            rw [HNs.out, List.take_of_length_le (by omega), ← HMS.out]
            exact filter_bs (hasCode vs code) ms
          have HBx := Lib.hid (HBs.out wr oA oc ns (hr.next hbr) (HS.out.own1.flat rowC_len).rd (fun r hrm => HS.out.rowsf r (by
            rw [HNs.out] at hrm
            simpa using List.mem_of_mem_take (List.mem_filter.1 hrm).1)) (fun r hrm => HCm.out r (by
            rw [HNs.out] at hrm
            exact List.mem_of_mem_take (List.mem_filter.1 hrm).1)) hnl)
          rw [HE.out] at HBx
          clear HBs
          go_wp2_with fail
          refine HBx.out.mono ?_
          rintro e w3 ⟨A3, c3, rfl, hf3, hc3, hb3⟩
          have Hf := Lib.hid hf3
          have Hc := Lib.hid hc3
          clear hf3 hc3
          go_wp2_with fail
          go_ret3
          exact ⟨A3, c3, rfl, Hf.out, Hc.out, bthen hbr hb3⟩
  · rw [bothI_no hb] at hCo
    have HCo := Lib.hid hCo; clear hCo
    have HR : Hid (withR vs js code = ([], 0, 1)) := by unfold Hid withR; rw [if_neg hb]
    clear hb hs hm2
    generalize withR vs js code = R at HR ⊢
    go_enter Try.func70, Try.ntmps70
    go_wp2_with fail
    refine HCo.out.mono ?_
    rintro e w1 ⟨rfl, hb1⟩
    go_wp2_with fail
    go_ret3
    exact ⟨none, 0, by rw [HR.out]; rfl, by rw [HR.out]; exact flat_nil, by rw [HR.out]; exact Nat.le_refl _, hb1⟩

end Go.Proofs.Ytlhbjgbkpjlacaa

namespace Go.Proofs.Ytlhbjgbkpjlacaa
set_option maxRecDepth 100000
open Go.RowKit

def timesAt (vs : List PartT) (L : List (List ByteArray)) (n k : Nat) : Int := match vs[k]? with
  | some x => timesOf (L.take n) x
  | none => 0
theorem timesAt_zero (vs : List PartT) (L : List (List ByteArray)) (k : Nat) : timesAt vs L 0 k = 0 := by
  unfold timesAt
  cases vs[k]? <;> simp [timesOf]
theorem timesAt_yes {vs : List PartT} {L : List (List ByteArray)} {n k : Nat} {x : PartT} {b : List ByteArray} (hx : vs[k]? = some x) (hb : L[n]? = some b) (h : usesB x b = true) : timesAt vs L (n + 1) k = timesAt vs L n k + 1 := by
  unfold timesAt timesOf
  rw [hx, List.take_add_one, hb]
  simp [List.filter_append, h]
theorem timesAt_no {vs : List PartT} {L : List (List ByteArray)} {n k : Nat} {x : PartT} {b : List ByteArray} (hx : vs[k]? = some x) (hb : L[n]? = some b) (h : usesB x b = false) : timesAt vs L (n + 1) k = timesAt vs L n k := by
  unfold timesAt timesOf
  rw [hx, List.take_add_one, hb]
  simp [List.filter_append, h]
theorem timesAt_bd (vs : List PartT) (L : List (List ByteArray)) (n k : Nat) : 0 ≤ timesAt vs L n k ∧ timesAt vs L n k ≤ L.length := by
  unfold timesAt timesOf
  cases vs[k]? with
  | none => exact ⟨Int.le_refl _, Int.natCast_nonneg _⟩
  | some x =>
    have h1 := List.length_filter_le (usesB x) (L.take n)
    have h2 : (L.take n).length ≤ L.length := by rw [List.length_take]; omega
    simp only
    omega
theorem timesAt_all {vs : List PartT} {L : List (List ByteArray)} {n k : Nat} {x : PartT} (hx : vs[k]? = some x) (h : L.length ≤ n) : timesAt vs L n k = timesOf L x := by
  unfold timesAt
  rw [hx, List.take_of_length_le h]

/-- The counts, rows below n and of row n the first j parts. -/
def CntSt (w : World) (g : Nat) (E : TypeId) (vs : List PartT) (L : List (List ByteArray)) (n j : Nat) : Prop :=
  Row w g E vs.length ∧ ∀ k, k < vs.length → w.cell? ⟨g, k, none⟩ = some (.int .i64 (timesAt vs L (if k < j then n + 1 else n) k))
section
variable {w w' : World} {g : Nat} {E : TypeId} {vs : List PartT} {L : List (List ByteArray)} {n j : Nat}
theorem CntSt.keep (h : CntSt w g E vs L n j) (hb : w'.heap[g]? = w.heap[g]?) : CntSt w' g E vs L n j :=
  ⟨h.1.kept hb, fun k hk => (World.cell?_of_block (a := ⟨g, _, none⟩) hb).trans (h.2 k hk)⟩
theorem CntSt.next (h : CntSt w g E vs L n j) (hb : Below w.heap.size w w') : CntSt w' g E vs L n j := h.keep (hb.block g h.1.lt)
theorem CntSt.turn (h : CntSt w g E vs L n vs.length) : CntSt w g E vs L (n + 1) 0 :=
  ⟨h.1, fun k hk => by rw [h.2 k hk, if_pos hk, if_neg (by omega)]⟩
theorem CntSt.skip {x : PartT} {b : List ByteArray} (h : CntSt w g E vs L n j) (hx : vs[j]? = some x) (hb : L[n]? = some b) (hu : usesB x b = false) : CntSt w g E vs L n (j + 1) :=
  ⟨h.1, fun k hk => by
    rw [h.2 k hk]
    by_cases e : k = j
    · subst e
      rw [if_neg (by omega), if_pos (by omega), timesAt_no hx hb hu]
    · by_cases e2 : k < j
      · rw [if_pos e2, if_pos (by omega)]
      · rw [if_neg e2, if_neg (by omega)]⟩
theorem CntSt.here (h : CntSt w g E vs L n j) (hj : j < vs.length) : w.cell? ⟨g, j, none⟩ = some (.int .i64 (timesAt vs L n j)) := by
  rw [h.2 j hj, if_neg (by omega)]
theorem CntSt.put {x : PartT} {b : List ByteArray} (h : CntSt w g E vs L n j) (hx : vs[j]? = some x) (hb : L[n]? = some b) (hu : usesB x b = true) : CntSt (w.setCell ⟨g, j, none⟩ (.int .i64 (timesAt vs L n j + 1))) g E vs L n (j + 1) :=
  ⟨h.1.setCell _ _, fun k hk => by
    by_cases e : k = j
    · subst e
      rw [setCell_same (h.here hk), if_pos (by omega), timesAt_yes hx hb hu]
    · rw [setCell_other (by omega), h.2 k hk]
      by_cases e2 : k < j
      · rw [if_pos e2, if_pos (by omega)]
      · rw [if_neg e2, if_neg (by omega)]⟩
theorem made_cell (z : Value) {n k : Nat} (h : k < n) : (madeCells #[z] n)[k]? = some z := by
  simp [madeCells, h, Nat.mod_one]
theorem CntSt.start (W : World) (E : TypeId) (vs : List PartT) (L : List (List ByteArray)) : CntSt (W.alloc (.cells (madeCells #[.int .i64 0] vs.length) E)) W.heap.size E vs L 0 0 := by
  refine ⟨Row.made (w := W) (E := E) #[.int .i64 0] vs.length, fun k hk => ?_⟩
  rw [if_neg (by omega), timesAt_zero, cell_of_row _ _ k _ E (0, 0) (heap_alloc_new W _)]
  exact made_cell _ hk
theorem CntSt.flat {lo : Nat} (h : CntSt w g E vs L n 0) (hl : lo ≤ g) (hn : L.length ≤ n) : Flat w lo w.heap.size E 1 nC (some ⟨g, 0, none⟩) (vs.map (timesOf L)) := fun hx => by
  refine ⟨g, vs.length, rfl, hl, h.1.lt, h.1, by rw [List.length_map, Nat.mul_one]; exact Nat.le_refl _, fun k x hk i v hi => ?_⟩
  rw [List.getElem?_map, Option.map_eq_some_iff] at hk
  obtain ⟨y, hy, rfl⟩ := hk
  have hk := (List.getElem?_eq_some_iff.1 hy).1
  match i with
  | 0 =>
    obtain rfl : Value.int .i64 (timesOf L y) = v := by simpa [nC] using hi
    have := h.2 k hk
    rw [if_neg (by omega), timesAt_all hy hn] at this
    simpa using this
  | i + 1 => simp [nC] at hi
end

end Go.Proofs.Ytlhbjgbkpjlacaa

namespace Go.Proofs.Ytlhbjgbkpjlacaa
set_option maxRecDepth 100000
open Go.RowKit

theorem infoInt : (Try.prog.info? 3).map (fun i => (i.zero, i.size, i.bytes)) = some (some (.int .i64 0), 1, 8) := by kernel_rfl

set_option maxHeartbeats 2000000 in
theorem timesUsed_any (LA A : Option Addr) (lc c : Nat) (vs : List PartT) (ms : List RowM) (w : World) (hr : RdV w w.heap.size LA vs) (hv : vs.length ≤ 16) (hsl : ∀ x ∈ vs, 0 ≤ x.slot ∧ x.slot < 8) (hR : Rd w w.heap.size 1 rowC A ms) (hF : ∀ m ∈ ms, Rd w w.heap.size 1 tC m.A m.bs) (h8 : ∀ m ∈ ms, m.bs.length = 8) (hml : ms.length ≤ 131071) :
    Calls Try.prog 141 #[.slice LA vs.length lc, .slice A ms.length c] w (GivesOwn w 3 1 nC (vs.map (timesOf (ms.map RowM.bs)))) := by
  have hmk := made Try.underlying154 infoInt vs.length (by omega) (by omega)
  have HF := Lib.hid hF; clear hF
  have H8 := Lib.hid h8; clear h8
  have HSL := Lib.hid hsl; clear hsl
  have HST : Hid (CntSt (w.alloc (.cells (madeCells #[.int .i64 0] vs.length) 3)) w.heap.size 3 vs (ms.map RowM.bs) 0 0) := CntSt.start w _ vs _
  have HBD : Hid (∀ n k, 0 ≤ timesAt vs (ms.map RowM.bs) n k ∧ timesAt vs (ms.map RowM.bs) n k ≤ 131071) := fun n k => by
    have := timesAt_bd vs (ms.map RowM.bs) n k
    rw [List.length_map] at this
    omega
  have HFin : Hid (∀ v : World, Below w.heap.size w v → CntSt v w.heap.size 3 vs (ms.map RowM.bs) ms.length 0 → GivesOwn w 3 1 nC (vs.map (timesOf (ms.map RowM.bs))) (.returned (.slice (some ⟨w.heap.size, 0, none⟩) vs.length vs.length)) v) := fun v h1 h2 =>
    ⟨some ⟨w.heap.size, 0, none⟩, vs.length, by rw [List.length_map], h2.flat (Nat.le_refl _) (by rw [List.length_map]; exact Nat.le_refl _), by rw [List.length_map]; exact Nat.le_refl _, h1⟩
  have HLL : Hid (∀ (n : Nat) (y : RowM), ms[n]? = some y → (ms.map RowM.bs)[n]? = some y.bs) := fun n y h => by rw [List.getElem?_map, h]; rfl
  generalize ms.map RowM.bs = L at HST HBD HFin HLL ⊢
  go_enter Try.func141, Try.ntmps141
  go_wp2
  clear hmk
  have hb0 : Below w.heap.size w (w.alloc (.cells (madeCells #[.int .i64 0] vs.length) 3)) := balloc _ _
  go_loopw [15] (fun i wr => ∃ n : Nat, n ≤ ms.length ∧ i = .int .i64 n ∧ CntSt wr w.heap.size 3 vs L n 0 ∧ Below w.heap.size w wr) (fun i _ => ms.length - (intOf i).toNat)
  case atStart => exact ⟨0, Nat.zero_le _, rfl, by first | exact HST.out | simpa using HST.out, by first | exact hb0 | simpa using hb0⟩
  case round =>
    obtain ⟨n, hn, rfl, hst, hb⟩ := hrel
    have Hst := Lib.hid hst; clear hst HST hb0
    by_cases hlt : n < ms.length
    · have hx : ms[n]? = some ms[n] := List.getElem?_eq_getElem hlt
      obtain ⟨ba, oa, rfl, hBa, q00⟩ := hR.at1 hx rfl
      rw [Nat.mul_one] at q00
      have hm := List.mem_of_getElem? hx
      have hrow := HF.out _ hm
      have h8y := H8.out _ hm
      have HL := Lib.hid (HLL.out n _ hx)
      generalize ms[n] = y at hx q00 hm hrow h8y HL
      clear hx hm
      have hle8 : 8 ≤ y.bs.length := by omega
      have Hrow := Lib.hid hrow; clear hrow
      clear h8y
      obtain ⟨by_, oy, hyA⟩ : ∃ b o, y.A = some ⟨b, o, none⟩ := by
        obtain ⟨b, o, e, _⟩ := Hrow.out (by omega)
        exact ⟨b, o, e⟩
      rw [hyA] at Hrow q00
      clear hyA
      have q0 := (hb.cell (p := ⟨ba, oa + n, none⟩) hBa).trans q00
      go_wp2_with fail
      skip
      go_loopw [21] (fun i wi => ∃ j : Nat, j ≤ vs.length ∧ i = .int .i64 j ∧ CntSt wi w.heap.size 3 vs L n j ∧ Below w.heap.size w wi) (fun i _ => vs.length - (intOf i).toNat)
      case atStart => exact ⟨0, Nat.zero_le _, rfl, Hst.out, hb⟩
      case round =>
        obtain ⟨j, hj, rfl, hst, hbi⟩ := hrel
        have Hst2 := Lib.hid hst; clear hst
        by_cases hjl : j < vs.length
        · have hx : vs[j]? = some vs[j] := List.getElem?_eq_getElem hjl
          obtain ⟨bl, ol, rfl⟩ := hr.addr (by omega)
          obtain ⟨hB, pA, pc, p0, p1, p2, p3, p4, _, _⟩ := (hr.below hbi).cells hx
          have hsx := HSL.out _ (List.mem_of_getElem? hx)
          generalize vs[j] = x at p0 p1 p2 p3 p4 hx hsx
          obtain ⟨s, hs⟩ : ∃ s : Nat, x.slot = (s : Int) := ⟨x.slot.toNat, by omega⟩
          have hs8 : s < 8 := by omega
          have hyt : y.bs[s]? = some y.bs[s] := List.getElem?_eq_getElem (by omega)
          obtain ⟨b2, o2, e2, hB2, q1⟩ := (Hrow.out.below hbi).at1 hyt rfl
          simp only [Option.some.injEq, Addr.mk.injEq] at e2
          obtain ⟨rfl, rfl, _⟩ := e2
          rw [Nat.mul_one] at q1
          have HU : Hid (usesB x y.bs = decide (y.bs[s] = x.code)) := by
            unfold Hid usesB
            rw [hs, textAt_eq (n := (s : Int)) (c := y.bs[s]) (by rw [Int.toNat_natCast]; exact hyt)]
          generalize y.bs[s] = ty at q1 HU
          have Hx := Lib.hid hx; clear hx hyt hsx
          rw [hs] at p1
          clear hs
          have Hst3 := Lib.hid (Hst2.out.next (balloc _ (.cells #[.string x.code, .int .i64 (s : Int), .slice pA x.ports.length pc, .int .i64 x.price, .int .i64 x.grams] 37)))
          have hbV := hbi.alloc hbi.size (.cells #[.string x.code, .int .i64 (s : Int), .slice pA x.ports.length pc, .int .i64 x.price, .int .i64 x.grams] 37)
          go_wp2_with fail
          have y0 : (wr.alloc (.cells #[.string x.code, .int .i64 (s : Int), .slice pA x.ports.length pc, .int .i64 x.price, .int .i64 x.grams] 37)).cell? ⟨wr.heap.size, 0, none⟩ = some (.string x.code) := by go_simp
          have y1 : (wr.alloc (.cells #[.string x.code, .int .i64 (s : Int), .slice pA x.ports.length pc, .int .i64 x.price, .int .i64 x.grams] 37)).cell? ⟨wr.heap.size, 1, none⟩ = some (.int .i64 (s : Int)) := by go_simp
          have q2 := ((balloc wr (.cells #[.string x.code, .int .i64 (s : Int), .slice pA x.ports.length pc, .int .i64 x.price, .int .i64 x.grams] 37)).cell (p := ⟨by_, oy + s, none⟩) (World.block_lt_of_cell? wr _ q1)).trans q1
          clear p0 p1 p2 p3 p4 q1
          generalize wr.alloc (.cells #[.string x.code, .int .i64 (s : Int), .slice pA x.ports.length pc, .int .i64 x.price, .int .i64 x.grams] 37) = V at Hst3 hbV y0 y1 q2 ⊢
          generalize wr.heap.size = g0 at y0 y1 ⊢
          have z0 := Hst3.out.here hjl
          have zf := Hst3.out.1.frozen j
          have zl := Hst3.out.1.lt
          have hbd := HBD.out n j
          by_cases hty : ty = x.code
          · have hcc : (ty.toList == x.code.toList) = true := by simp [hty]
            have HP := Lib.hid (Hst3.out.put Hx.out HL.out (by rw [HU.out]; simp [hty]))
            clear hty HU
            generalize timesAt vs L n j = q at z0 hbd HP
            go_quiet (fail)
            go_wp2_with fail
            exact ⟨⟨j + 1, by omega, by go_num, HP.out.keep rfl, (hbV.setCell (p := ⟨w.heap.size, j, none⟩) (Nat.le_refl _) _).trans (by first | exact Below.refl _ _ | exact below_drewN (Below.refl _ _) _)⟩, by simp [intOf]; omega⟩
          · have hcc : (ty.toList == x.code.toList) = false := by simp; exact fun e => hty (str_eq.1 e)
            have HP := Lib.hid (Hst3.out.skip Hx.out HL.out (by rw [HU.out]; simp [hty]))
            clear hty HU
            go_quiet (fail)
            go_wp2_with fail
            exact ⟨⟨j + 1, by omega, by go_num, HP.out.keep rfl, below_drewN hbV _⟩, by simp [intOf]; omega⟩
        · obtain rfl : j = vs.length := by omega
          have HT := Lib.hid Hst2.out.turn
          go_wp2_with fail
          exact ⟨⟨n + 1, by omega, by go_num, HT.out, hbi⟩, by simp [intOf]; omega⟩
    · obtain rfl : n = ms.length := by omega
      have HG := Lib.hid (HFin.out _ hb Hst.out)
      go_wp2_with fail
      go_ret
      exact HG.out

set_option maxHeartbeats 2000000 in
theorem l18Times_any (LA A : Option Addr) (lc c : Nat) (vs : List PartT) (ms : List RowM) (w : World) (hr : RdV w w.heap.size LA vs) (hv : vs.length ≤ 16) (hsl : ∀ x ∈ vs, 0 ≤ x.slot ∧ x.slot < 8) (hR : Rd w w.heap.size 1 rowC A ms) (hF : ∀ m ∈ ms, Rd w w.heap.size 1 tC m.A m.bs) (h8 : ∀ m ∈ ms, m.bs.length = 8) (hml : ms.length ≤ 131071) :
    Calls Try.prog 142 #[.slice LA vs.length lc, .slice A ms.length c] w (GivesOwn w 2 1 nC (vs.map (timesOf (ms.map RowM.bs)))) := by
  have hmk := made Try.underlying49 infoInt64 vs.length (by omega) (by omega)
  have HF := Lib.hid hF; clear hF
  have H8 := Lib.hid h8; clear h8
  have HSL := Lib.hid hsl; clear hsl
  have HST : Hid (CntSt (w.alloc (.cells (madeCells #[.int .i64 0] vs.length) 2)) w.heap.size 2 vs (ms.map RowM.bs) 0 0) := CntSt.start w _ vs _
  have HBD : Hid (∀ n k, 0 ≤ timesAt vs (ms.map RowM.bs) n k ∧ timesAt vs (ms.map RowM.bs) n k ≤ 131071) := fun n k => by
    have := timesAt_bd vs (ms.map RowM.bs) n k
    rw [List.length_map] at this
    omega
  have HFin : Hid (∀ v : World, Below w.heap.size w v → CntSt v w.heap.size 2 vs (ms.map RowM.bs) ms.length 0 → GivesOwn w 2 1 nC (vs.map (timesOf (ms.map RowM.bs))) (.returned (.slice (some ⟨w.heap.size, 0, none⟩) vs.length vs.length)) v) := fun v h1 h2 =>
    ⟨some ⟨w.heap.size, 0, none⟩, vs.length, by rw [List.length_map], h2.flat (Nat.le_refl _) (by rw [List.length_map]; exact Nat.le_refl _), by rw [List.length_map]; exact Nat.le_refl _, h1⟩
  have HLL : Hid (∀ (n : Nat) (y : RowM), ms[n]? = some y → (ms.map RowM.bs)[n]? = some y.bs) := fun n y h => by rw [List.getElem?_map, h]; rfl
  generalize ms.map RowM.bs = L at HST HBD HFin HLL ⊢
  go_enter Try.func142, Try.ntmps142
  go_wp2
  clear hmk
  have hb0 : Below w.heap.size w (w.alloc (.cells (madeCells #[.int .i64 0] vs.length) 2)) := balloc _ _
  go_loopw [6] (fun i wr => ∃ n : Nat, n ≤ ms.length ∧ i = .int .i64 n ∧ CntSt wr w.heap.size 2 vs L n 0 ∧ Below w.heap.size w wr) (fun i _ => ms.length - (intOf i).toNat)
  case atStart => exact ⟨0, Nat.zero_le _, rfl, by first | exact HST.out | simpa using HST.out, by first | exact hb0 | simpa using hb0⟩
  case round =>
    obtain ⟨n, hn, rfl, hst, hb⟩ := hrel
    have Hst := Lib.hid hst; clear hst HST hb0
    by_cases hlt : n < ms.length
    · have hx : ms[n]? = some ms[n] := List.getElem?_eq_getElem hlt
      obtain ⟨ba, oa, rfl, hBa, q00⟩ := hR.at1 hx rfl
      rw [Nat.mul_one] at q00
      have hm := List.mem_of_getElem? hx
      have hrow := HF.out _ hm
      have h8y := H8.out _ hm
      have HL := Lib.hid (HLL.out n _ hx)
      generalize ms[n] = y at hx q00 hm hrow h8y HL
      clear hx hm
      have hle8 : 8 ≤ y.bs.length := by omega
      have Hrow := Lib.hid hrow; clear hrow
      clear h8y
      obtain ⟨by_, oy, hyA⟩ : ∃ b o, y.A = some ⟨b, o, none⟩ := by
        obtain ⟨b, o, e, _⟩ := Hrow.out (by omega)
        exact ⟨b, o, e⟩
      rw [hyA] at Hrow q00
      clear hyA
      have q0 := (hb.cell (p := ⟨ba, oa + n, none⟩) hBa).trans q00
      go_wp2_with fail
      skip
      go_loopw [7] (fun i wi => ∃ j : Nat, j ≤ vs.length ∧ i = .int .i64 j ∧ CntSt wi w.heap.size 2 vs L n j ∧ Below w.heap.size w wi) (fun i _ => vs.length - (intOf i).toNat)
      case atStart => exact ⟨0, Nat.zero_le _, rfl, Hst.out, hb⟩
      case round =>
        obtain ⟨j, hj, rfl, hst, hbi⟩ := hrel
        have Hst2 := Lib.hid hst; clear hst
        by_cases hjl : j < vs.length
        · have hx : vs[j]? = some vs[j] := List.getElem?_eq_getElem hjl
          obtain ⟨bl, ol, rfl⟩ := hr.addr (by omega)
          obtain ⟨hB, pA, pc, p0, p1, p2, p3, p4, _, _⟩ := (hr.below hbi).cells hx
          have hsx := HSL.out _ (List.mem_of_getElem? hx)
          generalize vs[j] = x at p0 p1 p2 p3 p4 hx hsx
          obtain ⟨s, hs⟩ : ∃ s : Nat, x.slot = (s : Int) := ⟨x.slot.toNat, by omega⟩
          have hs8 : s < 8 := by omega
          have hyt : y.bs[s]? = some y.bs[s] := List.getElem?_eq_getElem (by omega)
          obtain ⟨b2, o2, e2, hB2, q1⟩ := (Hrow.out.below hbi).at1 hyt rfl
          simp only [Option.some.injEq, Addr.mk.injEq] at e2
          obtain ⟨rfl, rfl, _⟩ := e2
          rw [Nat.mul_one] at q1
          have HU : Hid (usesB x y.bs = decide (y.bs[s] = x.code)) := by
            unfold Hid usesB
            rw [hs, textAt_eq (n := (s : Int)) (c := y.bs[s]) (by rw [Int.toNat_natCast]; exact hyt)]
          generalize y.bs[s] = ty at q1 HU
          have Hx := Lib.hid hx; clear hx hyt hsx
          rw [hs] at p1
          have q2 := (hbi.cell (p := ⟨ba, oa + n, none⟩) hBa).trans q00
          have Hst3 := Hst2
          have hbV := hbi
          clear hs
          go_wp2_with fail
          have z0 := Hst3.out.here hjl
          have zf := Hst3.out.1.frozen j
          have zl := Hst3.out.1.lt
          have hbd := HBD.out n j
          by_cases hty : ty = x.code
          · have hcc : (ty.toList == x.code.toList) = true := by simp [hty]
            have HP := Lib.hid (Hst3.out.put Hx.out HL.out (by rw [HU.out]; simp [hty]))
            clear hty HU
            generalize timesAt vs L n j = q at z0 hbd HP
            go_quiet (fail)
            go_wp2_with fail
            exact ⟨⟨j + 1, by omega, by go_num, HP.out.keep rfl, (hbV.setCell (p := ⟨w.heap.size, j, none⟩) (Nat.le_refl _) _).trans (by first | exact Below.refl _ _ | exact below_drewN (Below.refl _ _) _)⟩, by simp [intOf]; omega⟩
          · have hcc : (ty.toList == x.code.toList) = false := by simp; exact fun e => hty (str_eq.1 e)
            have HP := Lib.hid (Hst3.out.skip Hx.out HL.out (by rw [HU.out]; simp [hty]))
            clear hty HU
            go_quiet (fail)
            go_wp2_with fail
            exact ⟨⟨j + 1, by omega, by go_num, HP.out.keep rfl, below_drewN hbV _⟩, by simp [intOf]; omega⟩
        · obtain rfl : j = vs.length := by omega
          have HT := Lib.hid Hst2.out.turn
          go_wp2_with fail
          exact ⟨⟨n + 1, by omega, by go_num, HT.out, hbi⟩, by simp [intOf]; omega⟩
    · obtain rfl : n = ms.length := by omega
      have HG := Lib.hid (HFin.out _ hb Hst.out)
      go_wp2_with fail
      go_ret
      exact HG.out

end Go.Proofs.Ytlhbjgbkpjlacaa

namespace Go.Proofs.Ytlhbjgbkpjlacaa
set_option maxRecDepth 100000
open Go.RowKit

theorem idxTo_map {α β : Type} (p : β → Bool) (f : α → β) (xs : List α) : ∀ k, idxTo p (xs.map f) k = idxTo (fun x => p (f x)) xs k
  | 0 => rfl
  | k + 1 => by
    unfold idxTo
    rw [List.getElem?_map, idxTo_map p f xs k]
    cases xs[k]? <;> rfl
theorem bothB_slots {vs : List PartT} {js : List JointT} (h : bothB vs js = true) : ∀ x ∈ vs, 0 ≤ x.slot ∧ x.slot < 8 := fun x hx => by
  have := partsB_mem (bothB_true h).1 hx
  have h0 := this.slot0
  have h1 := this.slot7
  omega
theorem allB_eight {vs : List PartT} {js : List JointT} (h : bothB vs js = true) {ms : List RowM} (e : ms.map RowM.bs = allB vs js) : ∀ m ∈ ms, m.bs.length = 8 := fun m hm =>
  (founds_codes (bothB_true h).1 (show m.bs ∈ allB vs js by rw [← e]; exact List.mem_map.2 ⟨m, hm, rfl⟩)).len
theorem allB_few {vs : List PartT} {js : List JointT} (h : bothB vs js = true) {ms : List RowM} (e : ms.map RowM.bs = allB vs js) : ms.length ≤ 131071 := by
  rw [← List.length_map (f := RowM.bs), e]
  exact allB_len js (bothB_true h).1

set_option maxHeartbeats 2000000 in
theorem UsableParts_impl (LA JA : Option Addr) (lc jc : Nat) (vs : List PartT) (js : List JointT) (w : World) (hr : RdV w w.heap.size LA vs) (hr2 : Rd w w.heap.size 3 jointC JA js) (hs : SmallV vs) (hm2 : js.length ≤ 1048576) :
    Calls Try.prog 71 #[.slice LA vs.length lc, .slice JA js.length jc] w (GivesRes w 2 1 nC (usableR vs js)) := by
  have hBo := areBoth_any LA JA lc jc vs js w hr hr2 hs hm2
  by_cases hb : bothB vs js = true
  · have HB : Hid (∀ v : World, RdV v v.heap.size LA vs → Rd v v.heap.size 3 jointC JA js → Calls Try.prog 129 #[.slice LA vs.length lc, .slice JA js.length jc] v (GivesRowsN v (allB vs js) (nodesOf (tr vs js)))) := fun v h1 h2 => bicycles_any LA JA lc jc vs js v h1 h2 hs hb
    have HTU : Hid (∀ (v : World) (A : Option Addr) (c : Nat) (ms : List RowM), RdV v v.heap.size LA vs → Rd v v.heap.size 1 rowC A ms → (∀ m ∈ ms, Rd v v.heap.size 1 tC m.A m.bs) → ms.map RowM.bs = allB vs js → Calls Try.prog 141 #[.slice LA vs.length lc, .slice A ms.length c] v (GivesOwn v 3 1 nC (vs.map (timesOf (allB vs js))))) := fun v A c ms h1 h2 h3 e => by
      have := timesUsed_any LA A lc c vs ms v h1 (partsB_len (bothB_true hb).1) (bothB_slots hb) h2 h3 (allB_eight hb e) (allB_few hb e)
      rwa [e] at this
    have HML : Hid (∀ ms : List RowM, ms.map RowM.bs = allB vs js → ms.length ≤ 131071 ∧ ms.length = (allB vs js).length) := fun ms e => ⟨allB_few hb e, by rw [← e, List.length_map]⟩
    have HT16 : Hid ((vs.map (timesOf (allB vs js))).length ≤ 16) := by
      unfold Hid
      rw [List.length_map]
      exact partsB_len (bothB_true hb).1
    have HR : Hid (usableR vs js = (idxTo (fun t => decide (0 < t)) (vs.map (timesOf (allB vs js))) (vs.map (timesOf (allB vs js))).length, 0)) := by
      unfold Hid usableR
      rw [if_pos hb, idxTo_map, List.length_map]
    rw [hb] at hBo
    have HBo := Lib.hid hBo; clear hBo hb hs hm2
    generalize usableR vs js = R at HR ⊢
    generalize vs.map (timesOf (allB vs js)) = T at HTU HR HT16
    go_enter Try.func71, Try.ntmps71
    go_wp2_with fail
    refine HBo.out.mono ?_
    rintro e w1 ⟨rfl, hb1⟩
    go_wp2_with fail
    refine (HB.out w1 (hr.next hb1) (hr2.next hb1)).mono ?_
    rintro e w2 ⟨A, c, ms, rfl, hms, fms, rms, hb2⟩
    have hb12 := bthen hb1 hb2
    obtain ⟨hml, hmle⟩ := HML.out ms hms
    have HTC := Lib.hid (HTU.out w2 A c ms (hr.next hb12) fms.rd (fun m hm => (rms m hm).1.rd) hms)
    clear HTU HML HB hms fms rms
    have hT16 := HT16.out
    clear hmle
    go_wp2_with fail
    refine HTC.out.mono ?_
    rintro e w3 ⟨TA, tc, rfl, hfT, htc, hb3⟩
    have hb13 := bthen hb12 hb3
    have HFT := Lib.hid hfT; clear hfT HTC
    go_wp2_with fail
    go_loopw [8, 25] (fun out i wr => ∃ (k : Nat) (A' : Option Addr) (c' : Nat), k ≤ T.length ∧ i = .int .i64 k ∧ out = .slice A' (idxTo (fun t => decide (0 < t)) T k).length c' ∧ Own wr w3.heap.size 2 1 nC A' c' (idxTo (fun t => decide (0 < t)) T k) ∧ Below w3.heap.size w3 wr) (fun _ i _ => T.length - (intOf i).toNat)
    case atStart => exact ⟨0, none, 0, Nat.zero_le _, rfl, rfl, Own.nil, Below.refl _ _⟩
    case round =>
      obtain ⟨k, A', c', hk, rfl, rfl, hown, hb⟩ := hrel
      have Ho := Lib.hid hown; clear hown
      have hbase := hb.size
      by_cases hlt : k < T.length
      · have hx : T[k]? = some T[k] := List.getElem?_eq_getElem hlt
        obtain ⟨g, rfl⟩ := HFT.out.some (by omega)
        have q0 := (HFT.out.below hb (Nat.le_refl _)).cell1 hx rfl
        generalize T[k] = t at q0 hx
        have hle1 := idxTo_le (fun t => decide (0 < t)) T k
        by_cases hP : 0 < t
        · have HD := Lib.hid (idxTo_yes (p := fun t => decide (0 < t)) hx (by simpa using hP))
          have hPb : decide (t > 0) = true := by simpa using hP
          clear hP hx
          generalize idxTo (fun t => decide (0 < t)) T k = l1 at HD Ho hle1 ⊢
          go_wp2_with (at_builtin; refine wpList_append_el rfl _ _ _ rfl (w3.heap.size) 2 (.int .i64 0) 1 8 Try.underlying49 infoInt64 rfl (by omega) (by omega) nC l1 (k : Int) A' c' rfl (Ho.out.keep (balloc _ _)) (wr.heap.size) _ rfl rfl (one_cell (by go_simp)) (by simp [nC]; rfl) (by omega) (by simp; omega) ?_)
          intro A2 c2 w4 hown4 hgr hb4
          have Ho4 := Lib.hid hown4; clear hown4
          go_wp2_with fail
          exact ⟨⟨k + 1, A2, c2, by omega, by go_num, by rw [HD.out]; simp, by rw [HD.out]; exact Ho4.out, (hb.alloc hb.size _).trans hb4⟩, by simp [intOf]; omega⟩
        · have HD := Lib.hid (idxTo_no (p := fun t => decide (0 < t)) hx (by simpa using hP))
          have hPb : decide (t > 0) = false := by simpa using hP
          clear hP hx
          generalize idxTo (fun t => decide (0 < t)) T k = l1 at HD Ho hle1 ⊢
          go_wp2_with fail
          exact ⟨⟨k + 1, A', c', by omega, by go_num, by rw [HD.out], by rw [HD.out]; exact Ho.out, hb⟩, by simp [intOf]; omega⟩
      · obtain rfl : k = T.length := by omega
        go_wp2_with fail
        go_ret2
        exact ⟨A', c', by rw [HR.out]; rfl, by rw [HR.out]; exact (Ho.out.flat (fun _ => rfl)).mono hb13.size (Nat.le_refl _), by rw [HR.out]; exact Ho.out.cap, bthen hb13 hb⟩
  · have HR : Hid (usableR vs js = ([], 1)) := by unfold Hid usableR; rw [if_neg hb]
    have hb' : bothB vs js = false := by simpa using hb
    rw [hb'] at hBo
    have HBo := Lib.hid hBo; clear hBo hb hb' hs hm2
    generalize usableR vs js = R at HR ⊢
    go_enter Try.func71, Try.ntmps71
    go_wp2_with fail
    refine HBo.out.mono ?_
    rintro e w1 ⟨rfl, hb1⟩
    go_wp2_with fail
    go_ret2
    exact ⟨none, 0, by rw [HR.out]; rfl, by rw [HR.out]; exact flat_nil, by rw [HR.out]; exact Nat.le_refl _, hb1⟩

set_option maxHeartbeats 2000000 in
theorem NeededParts_impl (LA JA : Option Addr) (lc jc : Nat) (vs : List PartT) (js : List JointT) (w : World) (hr : RdV w w.heap.size LA vs) (hr2 : Rd w w.heap.size 3 jointC JA js) (hs : SmallV vs) (hm2 : js.length ≤ 1048576) :
    Calls Try.prog 73 #[.slice LA vs.length lc, .slice JA js.length jc] w (GivesRes w 2 1 nC (neededR vs js)) := by
  have hBo := areBoth_any LA JA lc jc vs js w hr hr2 hs hm2
  by_cases hb : bothB vs js = true
  · have HB : Hid (∀ v : World, RdV v v.heap.size LA vs → Rd v v.heap.size 3 jointC JA js → Calls Try.prog 129 #[.slice LA vs.length lc, .slice JA js.length jc] v (GivesRowsN v (allB vs js) (nodesOf (tr vs js)))) := fun v h1 h2 => bicycles_any LA JA lc jc vs js v h1 h2 hs hb
    have HTU : Hid (∀ (v : World) (A : Option Addr) (c : Nat) (ms : List RowM), RdV v v.heap.size LA vs → Rd v v.heap.size 1 rowC A ms → (∀ m ∈ ms, Rd v v.heap.size 1 tC m.A m.bs) → ms.map RowM.bs = allB vs js → Calls Try.prog 141 #[.slice LA vs.length lc, .slice A ms.length c] v (GivesOwn v 3 1 nC (vs.map (timesOf (allB vs js))))) := fun v A c ms h1 h2 h3 e => by
      have := timesUsed_any LA A lc c vs ms v h1 (partsB_len (bothB_true hb).1) (bothB_slots hb) h2 h3 (allB_eight hb e) (allB_few hb e)
      rwa [e] at this
    have HML : Hid (∀ ms : List RowM, ms.map RowM.bs = allB vs js → ms.length ≤ 131071 ∧ ms.length = (allB vs js).length) := fun ms e => ⟨allB_few hb e, by rw [← e, List.length_map]⟩
    have HT16 : Hid ((vs.map (timesOf (allB vs js))).length ≤ 16) := by
      unfold Hid
      rw [List.length_map]
      exact partsB_len (bothB_true hb).1
    have HR : Hid (neededR vs js = if (allB vs js).length = 0 then ([], 4) else (idxTo (fun t => decide (t = ((allB vs js).length : Int))) (vs.map (timesOf (allB vs js))) (vs.map (timesOf (allB vs js))).length, 0)) := by
      unfold Hid neededR
      rw [if_pos hb, idxTo_map, List.length_map]
    rw [hb] at hBo
    have HBo := Lib.hid hBo; clear hBo hb hs hm2
    generalize neededR vs js = R at HR ⊢
    generalize vs.map (timesOf (allB vs js)) = T at HTU HR HT16
    go_enter Try.func73, Try.ntmps73
    go_wp2_with fail
    refine HBo.out.mono ?_
    rintro e w1 ⟨rfl, hb1⟩
    go_wp2_with fail
    refine (HB.out w1 (hr.next hb1) (hr2.next hb1)).mono ?_
    rintro e w2 ⟨A, c, ms, rfl, hms, fms, rms, hb2⟩
    have hb12 := bthen hb1 hb2
    obtain ⟨hml, hmle⟩ := HML.out ms hms
    have HTC := Lib.hid (HTU.out w2 A c ms (hr.next hb12) fms.rd (fun m hm => (rms m hm).1.rd) hms)
    clear HTU HML HB hms fms rms
    have hT16 := HT16.out
    rw [← hmle] at HR
    clear hmle
    by_cases hz : ms.length = 0
    · have hzb : ((ms.length : Int) == 0) = true := by simp [hz]
      have HRz : Hid (R = ([], 4)) := by
        unfold Hid
        rw [HR.out, if_pos hz]
      have HR := HRz
      clear hz
      go_wp2_with fail
      go_ret2
      exact ⟨none, 0, by rw [HRz.out]; rfl, by rw [HRz.out]; exact flat_nil, by rw [HRz.out]; exact Nat.le_refl _, hb12⟩
    · have hzb : ((ms.length : Int) == 0) = false := beq_eq_false_iff_ne.2 (by omega)
      have HRz : Hid (R = (idxTo (fun t => decide (t = (ms.length : Int))) T T.length, 0)) := by
        unfold Hid
        rw [HR.out, if_neg hz]
      clear HR
      have HR := HRz
      clear HRz
      go_wp2_with fail
      refine HTC.out.mono ?_
      rintro e w3 ⟨TA, tc, rfl, hfT, htc, hb3⟩
      have hb13 := bthen hb12 hb3
      have HFT := Lib.hid hfT; clear hfT HTC
      go_wp2_with fail
      go_loopw [8, 28] (fun out i wr => ∃ (k : Nat) (A' : Option Addr) (c' : Nat), k ≤ T.length ∧ i = .int .i64 k ∧ out = .slice A' (idxTo (fun t => decide (t = (ms.length : Int))) T k).length c' ∧ Own wr w3.heap.size 2 1 nC A' c' (idxTo (fun t => decide (t = (ms.length : Int))) T k) ∧ Below w3.heap.size w3 wr) (fun _ i _ => T.length - (intOf i).toNat)
      case atStart => exact ⟨0, none, 0, Nat.zero_le _, rfl, rfl, Own.nil, Below.refl _ _⟩
      case round =>
        obtain ⟨k, A', c', hk, rfl, rfl, hown, hb⟩ := hrel
        have Ho := Lib.hid hown; clear hown
        have hbase := hb.size
        by_cases hlt : k < T.length
        · have hx : T[k]? = some T[k] := List.getElem?_eq_getElem hlt
          obtain ⟨g, rfl⟩ := HFT.out.some (by omega)
          have q0 := (HFT.out.below hb (Nat.le_refl _)).cell1 hx rfl
          generalize T[k] = t at q0 hx
          have hle1 := idxTo_le (fun t => decide (t = (ms.length : Int))) T k
          by_cases hP : t = (ms.length : Int)
          · have HD := Lib.hid (idxTo_yes (p := fun t => decide (t = (ms.length : Int))) hx (by simpa using hP))
            have hPb : (t == (ms.length : Int)) = true := by simpa using hP
            clear hP hx
            generalize idxTo (fun t => decide (t = (ms.length : Int))) T k = l1 at HD Ho hle1 ⊢
            go_wp2_with (at_builtin; refine wpList_append_el rfl _ _ _ rfl (w3.heap.size) 2 (.int .i64 0) 1 8 Try.underlying49 infoInt64 rfl (by omega) (by omega) nC l1 (k : Int) A' c' rfl (Ho.out.keep (balloc _ _)) (wr.heap.size) _ rfl rfl (one_cell (by go_simp)) (by simp [nC]; rfl) (by omega) (by simp; omega) ?_)
            intro A2 c2 w4 hown4 hgr hb4
            have Ho4 := Lib.hid hown4; clear hown4
            go_wp2_with fail
            exact ⟨⟨k + 1, A2, c2, by omega, by go_num, by rw [HD.out]; simp, by rw [HD.out]; exact Ho4.out, (hb.alloc hb.size _).trans hb4⟩, by simp [intOf]; omega⟩
          · have HD := Lib.hid (idxTo_no (p := fun t => decide (t = (ms.length : Int))) hx (by simpa using hP))
            have hPb : (t == (ms.length : Int)) = false := by simpa using hP
            clear hP hx
            generalize idxTo (fun t => decide (t = (ms.length : Int))) T k = l1 at HD Ho hle1 ⊢
            go_wp2_with fail
            exact ⟨⟨k + 1, A', c', by omega, by go_num, by rw [HD.out], by rw [HD.out]; exact Ho.out, hb⟩, by simp [intOf]; omega⟩
        · obtain rfl : k = T.length := by omega
          go_wp2_with fail
          go_ret2
          exact ⟨A', c', by rw [HR.out]; rfl, by rw [HR.out]; exact (Ho.out.flat (fun _ => rfl)).mono hb13.size (Nat.le_refl _), by rw [HR.out]; exact Ho.out.cap, bthen hb13 hb⟩
  · have HR : Hid (neededR vs js = ([], 1)) := by unfold Hid neededR; rw [if_neg hb]
    have hb' : bothB vs js = false := by simpa using hb
    rw [hb'] at hBo
    have HBo := Lib.hid hBo; clear hBo hb hb' hs hm2
    generalize neededR vs js = R at HR ⊢
    go_enter Try.func73, Try.ntmps73
    go_wp2_with fail
    refine HBo.out.mono ?_
    rintro e w1 ⟨rfl, hb1⟩
    go_wp2_with fail
    go_ret2
    exact ⟨none, 0, by rw [HR.out]; rfl, by rw [HR.out]; exact flat_nil, by rw [HR.out]; exact Nat.le_refl _, hb1⟩

set_option maxHeartbeats 2000000 in
theorem UsableParts_spec (LA JA : Option Addr) (lc jc : Nat) (vs : List PartT) (js : List JointT) (w : World) (hr : RdV w w.heap.size LA vs) (hr2 : Rd w w.heap.size 3 jointC JA js) (hs : SmallV vs) (hm2 : js.length ≤ 1048576) :
    Calls Try.prog 72 #[.slice LA vs.length lc, .slice JA js.length jc] w (GivesRes w 2 1 nC (usableR vs js)) := by
  have hCo := l18Code_any LA JA lc jc vs js w hr hr2 hs hm2
  by_cases hb : bothB vs js = true
  · rw [bothI_yes hb] at hCo
    have HCo := Lib.hid hCo; clear hCo
    have HB : Hid (∀ v : World, RdV v v.heap.size LA vs → Rd v v.heap.size 3 jointC JA js → Calls Try.prog 123 #[.slice LA vs.length lc, .slice JA js.length jc] v (GivesAllS v (allB vs js))) := fun v h1 h2 => l18All_any LA JA lc jc vs js v h1 h2 hs hb
    have HTU : Hid (∀ (v : World) (A : Option Addr) (c : Nat) (ms : List RowM), RdV v v.heap.size LA vs → Rd v v.heap.size 1 rowC A ms → (∀ m ∈ ms, Rd v v.heap.size 1 tC m.A m.bs) → ms.map RowM.bs = allB vs js → Calls Try.prog 142 #[.slice LA vs.length lc, .slice A ms.length c] v (GivesOwn v 2 1 nC (vs.map (timesOf (allB vs js))))) := fun v A c ms h1 h2 h3 e => by
      have := l18Times_any LA A lc c vs ms v h1 (partsB_len (bothB_true hb).1) (bothB_slots hb) h2 h3 (allB_eight hb e) (allB_few hb e)
      rwa [e] at this
    have HML : Hid (∀ ms : List RowM, ms.map RowM.bs = allB vs js → ms.length ≤ 131071 ∧ ms.length = (allB vs js).length) := fun ms e => ⟨allB_few hb e, by rw [← e, List.length_map]⟩
    have HT16 : Hid ((vs.map (timesOf (allB vs js))).length ≤ 16) := by
      unfold Hid
      rw [List.length_map]
      exact partsB_len (bothB_true hb).1
    have HR : Hid (usableR vs js = (idxTo (fun t => decide (0 < t)) (vs.map (timesOf (allB vs js))) (vs.map (timesOf (allB vs js))).length, 0)) := by
      unfold Hid usableR
      rw [if_pos hb, idxTo_map, List.length_map]
    clear hb hs hm2
    generalize usableR vs js = R at HR ⊢
    generalize vs.map (timesOf (allB vs js)) = T at HTU HR HT16
    have hT16 := HT16.out
    go_enter Try.func72, Try.ntmps72
    go_wp2_with fail
    refine HCo.out.mono ?_
    rintro e w1 ⟨rfl, hb1⟩
    go_wp2_with fail
    have hs1 := hb1.size
    have hbV := bthen hb1 (balloc w1 (.cells #[] 2))
    refine (HB.out _ (hr.next hbV) (hr2.next hbV)).mono ?_
    rintro e w2 ⟨A, c, ms, rfl, hms, fms, rms, hb2⟩
    have hb12 := bthen hbV hb2
    have HTC := Lib.hid (HTU.out w2 A c ms (hr.next hb12) fms.rd (fun m hm => (rms m hm).1.rd) hms)
    clear HTU HML HB hms fms rms
    go_wp2_with fail
    refine HTC.out.mono ?_
    rintro e w3 ⟨TA, tc, rfl, hfT, htc, hb3⟩
    have HBW : Hid (Below w.heap.size w w3) := bthen hb12 hb3
    have HO0 : Hid (Own w3 w.heap.size 2 1 nC (some ⟨w1.heap.size, 0, none⟩) 0 ([] : List Int)) := ((Own.made (w := w1) #[] hs1 rfl).keep hb2).keep hb3
    have HA0 : Hid (0 < T.length → ∀ g, TA = some ⟨g, 0, none⟩ → Apart (some ⟨w1.heap.size, 0, none⟩) g) := fun hL g e b o e2 => by
      obtain ⟨g', m, e', hgl, _⟩ := hfT hL
      rw [e'] at e
      simp only [Option.some.injEq, Addr.mk.injEq] at e e2
      have h1 : (w1.alloc (.cells #[] 2)).heap.size = w1.heap.size + 1 := by simp
      have h2 := hb2.size
      omega
    have HFT : Hid (Flat w3 w.heap.size w3.heap.size 2 1 nC TA T) := hfT.mono hb12.size (Nat.le_refl _)
    clear hfT HTC hb12 hbV hb2 hb3
    go_wp2_with fail
    generalize w1.heap.size = g1 at HO0 HA0 ⊢
    go_loopw [7, 9] (fun out i wr => ∃ (k : Nat) (A' : Option Addr) (c' : Nat), k ≤ T.length ∧ i = .int .i64 k ∧ out = .slice A' (idxTo (fun t => decide (0 < t)) T k).length c' ∧ Own wr w.heap.size 2 1 nC A' c' (idxTo (fun t => decide (0 < t)) T k) ∧ Below w.heap.size w wr ∧ Flat wr w.heap.size wr.heap.size 2 1 nC TA T ∧ (0 < T.length → ∀ g, TA = some ⟨g, 0, none⟩ → Apart A' g)) (fun _ i _ => T.length - (intOf i).toNat)
    case atStart => exact ⟨0, _, _, Nat.zero_le _, rfl, rfl, HO0.out, HBW.out, HFT.out, HA0.out⟩
    case round =>
      obtain ⟨k, A', c', hk, rfl, rfl, hown, hb, hfl, hap⟩ := hrel
      have Ho := Lib.hid hown; clear hown
      have hbase := hb.size
      have Hfl := Lib.hid hfl; clear hfl
      have Hap := Lib.hid hap; clear hap
      clear HO0 HA0 HFT
      by_cases hlt : k < T.length
      · have hx : T[k]? = some T[k] := List.getElem?_eq_getElem hlt
        obtain ⟨g, rfl⟩ := Hfl.out.some (by omega)
        have q0 := Hfl.out.cell1 hx rfl
        have Hap2 : Hid (Apart A' g) := Hap.out (by omega) g rfl
        have hgl : g < wr.heap.size := (Hfl.out.blk (by omega)).2
        generalize T[k] = t at q0 hx
        have hle1 := idxTo_le (fun t => decide (0 < t)) T k
        by_cases hP : 0 < t
        · have HD := Lib.hid (idxTo_yes (p := fun t => decide (0 < t)) hx (by simpa using hP))
          have hPb : decide (t > 0) = true := by simpa using hP
          clear hP hx
          generalize idxTo (fun t => decide (0 < t)) T k = l1 at HD Ho hle1 ⊢
          go_wp2_with (at_builtin; refine wpList_append_far rfl _ _ _ rfl (w.heap.size) 2 (.int .i64 0) 1 8 Try.underlying49 infoInt64 rfl (by omega) (by omega) nC l1 (k : Int) A' c' rfl (Ho.out.keep (balloc _ _)) (wr.heap.size) _ rfl rfl (one_cell (by go_simp)) (by simp [nC]; rfl) (by omega) (by simp; omega) ?_)
          intro A2 c2 w4 hown4 hb4 hfar
          have hq4 := hfar g (by first | omega | (simp; omega)) Hap2.out
          have HfX : Hid (Flat w4 w.heap.size w4.heap.size 2 1 nC (some ⟨g, 0, none⟩) T) := ((Hfl.out.below (balloc wr _) (Nat.le_refl _)).keepAt fun g2 e2 _ => by
            simp only [Option.some.injEq, Addr.mk.injEq] at e2
            obtain ⟨rfl, _, _⟩ := e2
            exact hq4.2).mono (Nat.le_refl _) (by have h5 := hb4.size; have h6 := (balloc wr (.cells #[.int .i64 (k : Int)] 2)).size; omega)
          have HA4 : Hid (0 < T.length → ∀ g', (some ⟨g, 0, none⟩ : Option Addr) = some ⟨g', 0, none⟩ → Apart A2 g') := fun _ g' e => by
            simp only [Option.some.injEq, Addr.mk.injEq] at e
            obtain ⟨rfl, _⟩ := e
            exact hq4.1
          have Ho4 := Lib.hid hown4
          clear hown4 hfar hq4
          go_wp2_with fail
          exact ⟨⟨k + 1, A2, c2, by omega, by go_num, by rw [HD.out]; simp, by rw [HD.out]; exact Ho4.out, (hb.alloc hb.size _).trans hb4, HfX.out, HA4.out⟩, by simp [intOf]; omega⟩
        · have HD := Lib.hid (idxTo_no (p := fun t => decide (0 < t)) hx (by simpa using hP))
          have hPb : decide (t > 0) = false := by simpa using hP
          clear hP hx
          generalize idxTo (fun t => decide (0 < t)) T k = l1 at HD Ho hle1 ⊢
          go_wp2_with fail
          exact ⟨⟨k + 1, A', c', by omega, by go_num, by rw [HD.out], by rw [HD.out]; exact Ho.out, hb, Hfl.out, Hap.out⟩, by simp [intOf]; omega⟩
      · obtain rfl : k = T.length := by omega
        go_wp2_with fail
        go_ret2
        exact ⟨A', c', by rw [HR.out]; rfl, by rw [HR.out]; exact (Ho.out.flat (fun _ => rfl)), by rw [HR.out]; exact Ho.out.cap, hb⟩
  · rw [bothI_no hb] at hCo
    have HCo := Lib.hid hCo; clear hCo
    have HR : Hid (usableR vs js = ([], 1)) := by unfold Hid usableR; rw [if_neg hb]
    clear hb hs hm2
    generalize usableR vs js = R at HR ⊢
    go_enter Try.func72, Try.ntmps72
    go_wp2_with fail
    refine HCo.out.mono ?_
    rintro e w1 ⟨rfl, hb1⟩
    go_wp2_with fail
    go_ret2
    exact ⟨none, 0, by rw [HR.out]; rfl, by rw [HR.out]; exact flat_nil, by rw [HR.out]; exact Nat.le_refl _, hb1⟩

set_option maxHeartbeats 2000000 in
theorem NeededParts_spec (LA JA : Option Addr) (lc jc : Nat) (vs : List PartT) (js : List JointT) (w : World) (hr : RdV w w.heap.size LA vs) (hr2 : Rd w w.heap.size 3 jointC JA js) (hs : SmallV vs) (hm2 : js.length ≤ 1048576) :
    Calls Try.prog 74 #[.slice LA vs.length lc, .slice JA js.length jc] w (GivesRes w 2 1 nC (neededR vs js)) := by
  have hCo := l18Code_any LA JA lc jc vs js w hr hr2 hs hm2
  by_cases hb : bothB vs js = true
  · rw [bothI_yes hb] at hCo
    have HCo := Lib.hid hCo; clear hCo
    have HB : Hid (∀ v : World, RdV v v.heap.size LA vs → Rd v v.heap.size 3 jointC JA js → Calls Try.prog 123 #[.slice LA vs.length lc, .slice JA js.length jc] v (GivesAllS v (allB vs js))) := fun v h1 h2 => l18All_any LA JA lc jc vs js v h1 h2 hs hb
    have HTU : Hid (∀ (v : World) (A : Option Addr) (c : Nat) (ms : List RowM), RdV v v.heap.size LA vs → Rd v v.heap.size 1 rowC A ms → (∀ m ∈ ms, Rd v v.heap.size 1 tC m.A m.bs) → ms.map RowM.bs = allB vs js → Calls Try.prog 142 #[.slice LA vs.length lc, .slice A ms.length c] v (GivesOwn v 2 1 nC (vs.map (timesOf (allB vs js))))) := fun v A c ms h1 h2 h3 e => by
      have := l18Times_any LA A lc c vs ms v h1 (partsB_len (bothB_true hb).1) (bothB_slots hb) h2 h3 (allB_eight hb e) (allB_few hb e)
      rwa [e] at this
    have HML : Hid (∀ ms : List RowM, ms.map RowM.bs = allB vs js → ms.length ≤ 131071 ∧ ms.length = (allB vs js).length) := fun ms e => ⟨allB_few hb e, by rw [← e, List.length_map]⟩
    have HT16 : Hid ((vs.map (timesOf (allB vs js))).length ≤ 16) := by
      unfold Hid
      rw [List.length_map]
      exact partsB_len (bothB_true hb).1
    have HR : Hid (neededR vs js = if (allB vs js).length = 0 then ([], 4) else (idxTo (fun t => decide (t = ((allB vs js).length : Int))) (vs.map (timesOf (allB vs js))) (vs.map (timesOf (allB vs js))).length, 0)) := by
      unfold Hid neededR
      rw [if_pos hb, idxTo_map, List.length_map]
    clear hb hs hm2
    generalize neededR vs js = R at HR ⊢
    generalize vs.map (timesOf (allB vs js)) = T at HTU HR HT16
    have hT16 := HT16.out
    go_enter Try.func74, Try.ntmps74
    go_wp2_with fail
    refine HCo.out.mono ?_
    rintro e w1 ⟨rfl, hb1⟩
    go_wp2_with fail
    refine (HB.out w1 (hr.next hb1) (hr2.next hb1)).mono ?_
    rintro e w2 ⟨A, c, ms, rfl, hms, fms, rms, hb2⟩
    have hb12 := bthen hb1 hb2
    obtain ⟨hml, hmle⟩ := HML.out ms hms
    have HTC : Hid (∀ v : World, Below w2.heap.size w2 v → Calls Try.prog 142 #[.slice LA vs.length lc, .slice A ms.length c] v (GivesOwn v 2 1 nC T)) := fun v hv => HTU.out v A c ms (hr.next (bthen hb12 hv)) (fms.rd.next hv) (fun m hm => (rms m hm).1.rd.next hv) hms
    clear HTU HML HB hms fms rms
    rw [← hmle] at HR
    clear hmle
    by_cases hz : ms.length = 0
    · have hzb : ((ms.length : Int) == 0) = true := by simp [hz]
      have HRz : Hid (R = ([], 4)) := by
        unfold Hid
        rw [HR.out, if_pos hz]
      clear hz
      go_wp2_with fail
      go_ret2
      exact ⟨none, 0, by rw [HRz.out]; rfl, by rw [HRz.out]; exact flat_nil, by rw [HRz.out]; exact Nat.le_refl _, hb12⟩
    · have hzb : ((ms.length : Int) == 0) = false := beq_eq_false_iff_ne.2 (by omega)
      have HRz : Hid (R = (idxTo (fun t => decide (t = (ms.length : Int))) T T.length, 0)) := by
        unfold Hid
        rw [HR.out, if_neg hz]
      clear HR
      have HR := HRz
      clear HRz
      have hs1 := hb12.size
      go_wp2_with fail
      refine (HTC.out _ (balloc w2 (.cells #[] 2))).mono ?_
      rintro e w3 ⟨TA, tc, rfl, hfT, htc, hb3⟩
      have HBW : Hid (Below w.heap.size w w3) := bthen (bthen hb12 (balloc w2 _)) hb3
      have HO0 : Hid (Own w3 w.heap.size 2 1 nC (some ⟨w2.heap.size, 0, none⟩) 0 ([] : List Int)) := (Own.made (w := w2) #[] hs1 rfl).keep hb3
      have HA0 : Hid (0 < T.length → ∀ g, TA = some ⟨g, 0, none⟩ → Apart (some ⟨w2.heap.size, 0, none⟩) g) := fun hL g e b o e2 => by
        obtain ⟨g', m, e', hgl, _⟩ := hfT hL
        rw [e'] at e
        simp only [Option.some.injEq, Addr.mk.injEq] at e e2
        have h1 : (w2.alloc (.cells #[] 2)).heap.size = w2.heap.size + 1 := by simp
        omega
      have hsz2 : (w2.alloc (.cells #[] 2)).heap.size = w2.heap.size + 1 := by simp
      have HFT : Hid (Flat w3 w.heap.size w3.heap.size 2 1 nC TA T) := hfT.mono (by omega) (Nat.le_refl _)
      clear hsz2
      clear hfT HTC hb3
      go_wp2_with fail
      generalize w2.heap.size = g1 at HO0 HA0 ⊢
      go_loopw [8, 10] (fun out i wr => ∃ (k : Nat) (A' : Option Addr) (c' : Nat), k ≤ T.length ∧ i = .int .i64 k ∧ out = .slice A' (idxTo (fun t => decide (t = (ms.length : Int))) T k).length c' ∧ Own wr w.heap.size 2 1 nC A' c' (idxTo (fun t => decide (t = (ms.length : Int))) T k) ∧ Below w.heap.size w wr ∧ Flat wr w.heap.size wr.heap.size 2 1 nC TA T ∧ (0 < T.length → ∀ g, TA = some ⟨g, 0, none⟩ → Apart A' g)) (fun _ i _ => T.length - (intOf i).toNat)
      case atStart => exact ⟨0, _, _, Nat.zero_le _, rfl, rfl, HO0.out, HBW.out, HFT.out, HA0.out⟩
      case round =>
        obtain ⟨k, A', c', hk, rfl, rfl, hown, hb, hfl, hap⟩ := hrel
        have Ho := Lib.hid hown; clear hown
        have hbase := hb.size
        have Hfl := Lib.hid hfl; clear hfl
        have Hap := Lib.hid hap; clear hap
        clear HO0 HA0 HFT
        by_cases hlt : k < T.length
        · have hx : T[k]? = some T[k] := List.getElem?_eq_getElem hlt
          obtain ⟨g, rfl⟩ := Hfl.out.some (by omega)
          have q0 := Hfl.out.cell1 hx rfl
          have Hap2 : Hid (Apart A' g) := Hap.out (by omega) g rfl
          have hgl : g < wr.heap.size := (Hfl.out.blk (by omega)).2
          generalize T[k] = t at q0 hx
          have hle1 := idxTo_le (fun t => decide (t = (ms.length : Int))) T k
          by_cases hP : t = (ms.length : Int)
          · have HD := Lib.hid (idxTo_yes (p := fun t => decide (t = (ms.length : Int))) hx (by simpa using hP))
            have hPb : (t == (ms.length : Int)) = true := by simpa using hP
            clear hP hx
            generalize idxTo (fun t => decide (t = (ms.length : Int))) T k = l1 at HD Ho hle1 ⊢
            go_wp2_with (at_builtin; refine wpList_append_far rfl _ _ _ rfl (w.heap.size) 2 (.int .i64 0) 1 8 Try.underlying49 infoInt64 rfl (by omega) (by omega) nC l1 (k : Int) A' c' rfl (Ho.out.keep (balloc _ _)) (wr.heap.size) _ rfl rfl (one_cell (by go_simp)) (by simp [nC]; rfl) (by omega) (by simp; omega) ?_)
            intro A2 c2 w4 hown4 hb4 hfar
            have hq4 := hfar g (by first | omega | (simp; omega)) Hap2.out
            have HfX : Hid (Flat w4 w.heap.size w4.heap.size 2 1 nC (some ⟨g, 0, none⟩) T) := ((Hfl.out.below (balloc wr _) (Nat.le_refl _)).keepAt fun g2 e2 _ => by
              simp only [Option.some.injEq, Addr.mk.injEq] at e2
              obtain ⟨rfl, _, _⟩ := e2
              exact hq4.2).mono (Nat.le_refl _) (by have h5 := hb4.size; have h6 := (balloc wr (.cells #[.int .i64 (k : Int)] 2)).size; omega)
            have HA4 : Hid (0 < T.length → ∀ g', (some ⟨g, 0, none⟩ : Option Addr) = some ⟨g', 0, none⟩ → Apart A2 g') := fun _ g' e => by
              simp only [Option.some.injEq, Addr.mk.injEq] at e
              obtain ⟨rfl, _⟩ := e
              exact hq4.1
            have Ho4 := Lib.hid hown4
            clear hown4 hfar hq4
            go_wp2_with fail
            exact ⟨⟨k + 1, A2, c2, by omega, by go_num, by rw [HD.out]; simp, by rw [HD.out]; exact Ho4.out, (hb.alloc hb.size _).trans hb4, HfX.out, HA4.out⟩, by simp [intOf]; omega⟩
          · have HD := Lib.hid (idxTo_no (p := fun t => decide (t = (ms.length : Int))) hx (by simpa using hP))
            have hPb : (t == (ms.length : Int)) = false := by simpa using hP
            clear hP hx
            generalize idxTo (fun t => decide (t = (ms.length : Int))) T k = l1 at HD Ho hle1 ⊢
            go_wp2_with fail
            exact ⟨⟨k + 1, A', c', by omega, by go_num, by rw [HD.out], by rw [HD.out]; exact Ho.out, hb, Hfl.out, Hap.out⟩, by simp [intOf]; omega⟩
        · obtain rfl : k = T.length := by omega
          go_wp2_with fail
          go_ret2
          exact ⟨A', c', by rw [HR.out]; rfl, by rw [HR.out]; exact (Ho.out.flat (fun _ => rfl)), by rw [HR.out]; exact Ho.out.cap, hb⟩
  · rw [bothI_no hb] at hCo
    have HCo := Lib.hid hCo; clear hCo
    have HR : Hid (neededR vs js = ([], 1)) := by unfold Hid neededR; rw [if_neg hb]
    clear hb hs hm2
    generalize neededR vs js = R at HR ⊢
    go_enter Try.func74, Try.ntmps74
    go_wp2_with fail
    refine HCo.out.mono ?_
    rintro e w1 ⟨rfl, hb1⟩
    go_wp2_with fail
    go_ret2
    exact ⟨none, 0, by rw [HR.out]; rfl, by rw [HR.out]; exact flat_nil, by rw [HR.out]; exact Nat.le_refl _, hb1⟩
theorem usableR_small (vs : List PartT) (js : List JointT) : (usableR vs js).1.length ≤ 1048576 := by
  unfold usableR
  split
  · rename_i hb
    have := idxTo_le (fun x => decide (0 < timesOf (allB vs js) x)) vs vs.length
    have := partsB_len (bothB_true hb).1
    simp only
    omega
  · simp
theorem neededR_small (vs : List PartT) (js : List JointT) : (neededR vs js).1.length ≤ 1048576 := by
  unfold neededR
  split
  · rename_i hb
    split
    · simp
    · have := idxTo_le (fun x => decide (timesOf (allB vs js) x = ((allB vs js).length : Int))) vs vs.length
      have := partsB_len (bothB_true hb).1
      simp only
      omega
  · simp

end Go.Proofs.Ytlhbjgbkpjlacaa

namespace Go.Proofs.Ytlhbjgbkpjlacaa
set_option maxRecDepth 100000
open Go.RowKit

set_option maxHeartbeats 400000 in
theorem likeTexts_any (A A' : Option Addr) (c c' : Nat) (xs ys : List ByteArray) (w : World) (hr : Rd w w.heap.size 1 tC A xs) (hr' : Rd w w.heap.size 1 tC A' ys) (hm : xs.length ≤ 1048576) :
    Calls Try.prog 77 #[.slice A xs.length c, .slice A' ys.length c'] w fun e w' => e = .returned (.bool (decide (xs = ys))) ∧ Below w.heap.size w w' := by
  by_cases hl : xs.length = ys.length
  · have hn : ((xs.length : Int) != (ys.length : Int)) = false := by simp [hl]
    have Hl := Lib.hid hl; clear hl
    go_enter Try.func77, Try.ntmps77
    go_wp2_with fail
    go_loopw [5] (fun i wr => ∃ k : Nat, k ≤ xs.length ∧ i = .int .i64 k ∧ Below w.heap.size w wr ∧ xs.take k = ys.take k) (fun i _ => xs.length - (intOf i).toNat)
    case atStart => exact ⟨0, Nat.zero_le _, rfl, Below.refl _ _, rfl⟩
    case round =>
      obtain ⟨k, hk, rfl, hb, hpre⟩ := hrel
      have Hp := Lib.hid hpre; clear hpre
      by_cases hlt : k < xs.length
      · have hlt' : k < ys.length := by have := Hl.out; omega
        have hx : xs[k]? = some xs[k] := List.getElem?_eq_getElem hlt
        have hy : ys[k]? = some ys[k] := List.getElem?_eq_getElem hlt'
        obtain ⟨b, o, rfl, hB, h0⟩ := (hr.below hb).at1 hx rfl
        obtain ⟨b', o', rfl, hB', h0'⟩ := (hr'.below hb).at1 hy rfl
        rw [Nat.mul_one] at h0 h0'
        generalize xs[k] = t at h0 hx
        generalize ys[k] = t' at h0' hy
        have Hx := Lib.hid hx; clear hx
        have Hy := Lib.hid hy; clear hy
        by_cases ht : t = t'
        · have htt : (t.toList == t'.toList) = true := by simp [ht]
          have Ht := Lib.hid ht; clear ht
          go_wp2_with fail
          go_quiet (fail)
          go_wp2_with fail
          exact ⟨⟨k + 1, by omega, by go_num, below_drewN hb _, take_next Hp.out Hx.out Hy.out Ht.out⟩, by simp [intOf]; omega⟩
        · have htt : (t.toList == t'.toList) = false := by simp; exact fun e => ht (str_eq.1 e)
          have hne : decide (xs = ys) = false := decide_eq_false (ne_next Hx.out Hy.out ht)
          have Ht := Lib.hid ht; clear ht
          have Hne := Lib.hid hne; clear hne
          go_wp2_with fail
          go_quiet (fail)
          go_wp2_with fail
          go_ret
          exact ⟨ret_bool Hne.out.symm, below_drewN hb _⟩
      · have e : decide (xs = ys) = true := decide_eq_true (take_all Hp.out Hl.out (by omega))
        have E := Lib.hid e; clear e
        go_wp2_with fail
        go_ret
        exact ⟨ret_bool E.out.symm, hb⟩
  · have hd : decide (xs = ys) = false := by simp; intro h; exact hl (by rw [h])
    have hn : ((xs.length : Int) != (ys.length : Int)) = true := by simp; omega
    rw [hd]
    go_enter Try.func77, Try.ntmps77
    go_wp2_with fail
    go_ret
    exact ⟨rfl, Below.refl _ _⟩

set_option maxHeartbeats 400000 in
theorem likeInts_any (A A' : Option Addr) (c c' : Nat) (xs ys : List Int) (w : World) (hr : Rd w w.heap.size 1 nC A xs) (hr' : Rd w w.heap.size 1 nC A' ys) (hm : xs.length ≤ 1048576) :
    Calls Try.prog 33 #[.slice A xs.length c, .slice A' ys.length c'] w fun e w' => e = .returned (.bool (decide (xs = ys))) ∧ Below w.heap.size w w' := by
  by_cases hl : xs.length = ys.length
  · have hn : ((xs.length : Int) != (ys.length : Int)) = false := by simp [hl]
    have Hl := Lib.hid hl; clear hl
    go_enter Try.func33, Try.ntmps33
    go_wp2_with fail
    go_loopw [5] (fun i wr => ∃ k : Nat, k ≤ xs.length ∧ i = .int .i64 k ∧ Below w.heap.size w wr ∧ xs.take k = ys.take k) (fun i _ => xs.length - (intOf i).toNat)
    case atStart => exact ⟨0, Nat.zero_le _, rfl, Below.refl _ _, rfl⟩
    case round =>
      obtain ⟨k, hk, rfl, hb, hpre⟩ := hrel
      have Hp := Lib.hid hpre; clear hpre
      by_cases hlt : k < xs.length
      · have hlt' : k < ys.length := by have := Hl.out; omega
        have hx : xs[k]? = some xs[k] := List.getElem?_eq_getElem hlt
        have hy : ys[k]? = some ys[k] := List.getElem?_eq_getElem hlt'
        obtain ⟨b, o, rfl, hB, h0⟩ := (hr.below hb).at1 hx rfl
        obtain ⟨b', o', rfl, hB', h0'⟩ := (hr'.below hb).at1 hy rfl
        rw [Nat.mul_one] at h0 h0'
        generalize xs[k] = t at h0 hx
        generalize ys[k] = t' at h0' hy
        have Hx := Lib.hid hx; clear hx
        have Hy := Lib.hid hy; clear hy
        by_cases ht : t = t'
        · have htt : (t != t') = false := by simp [ht]
          have Ht := Lib.hid ht; clear ht
          go_wp2_with fail
          go_quiet (fail)
          go_wp2_with fail
          exact ⟨⟨k + 1, by omega, by go_num, below_drewN hb _, take_next Hp.out Hx.out Hy.out Ht.out⟩, by simp [intOf]; omega⟩
        · have htt : (t != t') = true := by simp [ht]
          have hne : decide (xs = ys) = false := decide_eq_false (ne_next Hx.out Hy.out ht)
          have Ht := Lib.hid ht; clear ht
          have Hne := Lib.hid hne; clear hne
          go_wp2_with fail
          go_quiet (fail)
          go_wp2_with fail
          go_ret
          exact ⟨ret_bool Hne.out.symm, below_drewN hb _⟩
      · have e : decide (xs = ys) = true := decide_eq_true (take_all Hp.out Hl.out (by omega))
        have E := Lib.hid e; clear e
        go_wp2_with fail
        go_ret
        exact ⟨ret_bool E.out.symm, hb⟩
  · have hd : decide (xs = ys) = false := by simp; intro h; exact hl (by rw [h])
    have hn : ((xs.length : Int) != (ys.length : Int)) = true := by simp; omega
    rw [hd]
    go_enter Try.func33, Try.ntmps33
    go_wp2_with fail
    go_ret
    exact ⟨rfl, Below.refl _ _⟩

theorem likeTexts_k (A A' : Option Addr) (c c' : Nat) (xs : List ByteArray) (w : World) (hr : Rd w w.heap.size 1 tC A xs) (hr' : Rd w w.heap.size 1 tC A' xs) (hl : xs.length ≤ 1048576) :
    Calls Try.prog 77 #[.slice A xs.length c, .slice A' xs.length c'] w fun e w' => e = .returned (.bool true) ∧ Below w.heap.size w w' := by
  have := likeTexts_any A A' c c' xs xs w hr hr' hl
  rwa [decide_eq_true (rfl : xs = xs)] at this

theorem likeInts_k (A A' : Option Addr) (c c' : Nat) (xs : List Int) (w : World) (hr : Rd w w.heap.size 1 nC A xs) (hr' : Rd w w.heap.size 1 nC A' xs) (hl : xs.length ≤ 1048576) :
    Calls Try.prog 33 #[.slice A xs.length c, .slice A' xs.length c'] w fun e w' => e = .returned (.bool true) ∧ Below w.heap.size w w' := by
  have := likeInts_any A A' c c' xs xs w hr hr' hl
  rwa [decide_eq_true (rfl : xs = xs)] at this

theorem hasInt_any (A : Option Addr) (c : Nat) (xs : List Int) (n : Int) (w : World) (hr : Rd w w.heap.size 1 nC A xs) (hm : xs.length ≤ 1048576) :
    Calls Try.prog 50 #[.slice A xs.length c, .int .i64 n] w fun e w' => e = .returned (.bool (decide (n ∈ xs))) ∧ Below w.heap.size w w' := by
  have HR : Hid (decide (n ∈ xs) = decide (n ∈ xs)) := rfl
  have HY : Hid (∀ k : Nat, xs[k]? = some n → decide (n ∈ xs) = true) := fun k h => decide_eq_true (List.mem_of_getElem? h)
  have HN : Hid ((∀ k : Nat, k < xs.length → xs[k]? ≠ some n) → decide (n ∈ xs) = false) := fun h => decide_eq_false fun hm => by
    obtain ⟨k, hk⟩ := List.mem_iff_getElem?.1 hm
    exact h k (List.getElem?_eq_some_iff.1 hk).1 hk
  clear HR
  generalize decide (n ∈ xs) = R at HY HN ⊢
  go_enter Try.func50, Try.ntmps50
  go_wp2_with fail
  go_loopw [5] (fun i wr => ∃ k : Nat, k ≤ xs.length ∧ i = .int .i64 k ∧ Below w.heap.size w wr ∧ ∀ j : Nat, j < k → xs[j]? ≠ some n) (fun i _ => xs.length - (intOf i).toNat)
  case atStart => exact ⟨0, Nat.zero_le _, rfl, Below.refl _ _, fun j hj => by omega⟩
  case round =>
    obtain ⟨k, hk, rfl, hb, hall⟩ := hrel
    have Ha := Lib.hid hall; clear hall
    by_cases hlt : k < xs.length
    · have hx : xs[k]? = some xs[k] := List.getElem?_eq_getElem hlt
      obtain ⟨b, o, rfl, hB, q0⟩ := (hr.below hb).at1 hx rfl
      rw [Nat.mul_one] at q0
      generalize xs[k] = t at q0 hx
      have Hx := Lib.hid hx; clear hx
      by_cases ht : t = n
      · have HF : Hid (R = true) := HY.out k (by rw [Hx.out, ht])
        have hb1 : (t == n) = true := by simp [ht]
        clear ht
        go_wp2_with fail
        go_ret
        exact ⟨ret_bool HF.out.symm, hb⟩
      · have hb1 : (t == n) = false := by simp [ht]
        have Ht := Lib.hid ht; clear ht
        go_wp2_with fail
        exact ⟨⟨k + 1, by omega, by go_num, hb, fun j hj => by
          by_cases e : j = k
          · subst e
            rw [Hx.out]
            intro e
            exact Ht.out (Option.some.inj e)
          · exact Ha.out j (by omega)⟩, by simp [intOf]; omega⟩
    · have HF : Hid (R = false) := HN.out fun j hj => Ha.out j (by omega)
      go_wp2_with fail
      go_ret
      exact ⟨ret_bool HF.out.symm, hb⟩

theorem hasText_any (A : Option Addr) (c : Nat) (xs : List ByteArray) (n : ByteArray) (w : World) (hr : Rd w w.heap.size 1 tC A xs) (hm : xs.length ≤ 1048576) :
    Calls Try.prog 80 #[.slice A xs.length c, .string n] w fun e w' => e = .returned (.bool ((xs.any fun t => decide (t = n)))) ∧ Below w.heap.size w w' := by
  have HR : True := trivial
  have HY : Hid (∀ k : Nat, xs[k]? = some n → (xs.any fun t => decide (t = n)) = true) := fun k h => List.any_eq_true.2 ⟨n, List.mem_of_getElem? h, by simp⟩
  have HN : Hid ((∀ k : Nat, k < xs.length → xs[k]? ≠ some n) → (xs.any fun t => decide (t = n)) = false) := fun h => List.any_eq_false.2 fun t ht => by
    obtain ⟨k, hk⟩ := List.mem_iff_getElem?.1 ht
    simp only [decide_eq_true_eq]
    rintro rfl
    exact h k (List.getElem?_eq_some_iff.1 hk).1 hk
  clear HR
  generalize (xs.any fun t => decide (t = n)) = R at HY HN ⊢
  go_enter Try.func80, Try.ntmps80
  go_wp2_with fail
  go_loopw [5] (fun i wr => ∃ k : Nat, k ≤ xs.length ∧ i = .int .i64 k ∧ Below w.heap.size w wr ∧ ∀ j : Nat, j < k → xs[j]? ≠ some n) (fun i _ => xs.length - (intOf i).toNat)
  case atStart => exact ⟨0, Nat.zero_le _, rfl, Below.refl _ _, fun j hj => by omega⟩
  case round =>
    obtain ⟨k, hk, rfl, hb, hall⟩ := hrel
    have Ha := Lib.hid hall; clear hall
    by_cases hlt : k < xs.length
    · have hx : xs[k]? = some xs[k] := List.getElem?_eq_getElem hlt
      obtain ⟨b, o, rfl, hB, q0⟩ := (hr.below hb).at1 hx rfl
      rw [Nat.mul_one] at q0
      generalize xs[k] = t at q0 hx
      have Hx := Lib.hid hx; clear hx
      by_cases ht : t = n
      · have HF : Hid (R = true) := HY.out k (by rw [Hx.out, ht])
        have hb1 : (t.toList == n.toList) = true := by simp [ht]
        clear ht
        go_wp2_with fail
        go_ret
        exact ⟨ret_bool HF.out.symm, hb⟩
      · have hb1 : (t.toList == n.toList) = false := by simp; exact fun e => ht (str_eq.1 e)
        have Ht := Lib.hid ht; clear ht
        go_wp2_with fail
        exact ⟨⟨k + 1, by omega, by go_num, hb, fun j hj => by
          by_cases e : j = k
          · subst e
            rw [Hx.out]
            intro e
            exact Ht.out (Option.some.inj e)
          · exact Ha.out j (by omega)⟩, by simp [intOf]; omega⟩
    · have HF : Hid (R = false) := HN.out fun j hj => Ha.out j (by omega)
      go_wp2_with fail
      go_ret
      exact ⟨ret_bool HF.out.symm, hb⟩

end Go.Proofs.Ytlhbjgbkpjlacaa

namespace Go.Proofs.Ytlhbjgbkpjlacaa
set_option maxRecDepth 100000
open Go.RowKit Go.ChangeShapes Go.WideShapes Go.ChangeAt Go.Joins Go.Deep

theorem bd_u8 {n : Int} (h : (Lit.int .u8 n).wf = true) : 0 ≤ n ∧ n < 256 := by
  simp [Lit.wf, IntKind.min, IntKind.max, IntKind.signed, IntKind.bits] at h
  omega
theorem open_bytes {H : Type} {enc : TypeId × Value → H} {W : World} {spare : Nat → Bool} {r : Reach} {b0 : Nat} {v : Value} {d : DataW H} {p : List MemPlace}
    (hv : Value.okWide Try.prog W r b0 28 v) (h : DataW.Trod enc Try.prog W 0 spare true 28 v d p) :
    ∃ A c xs, v = .slice A (List.length xs) c ∧ List.length xs ≤ maxLen ∧ (∀ x ∈ xs, (fun n : Int => 0 ≤ n ∧ n < 256) x) ∧ Rd W W.heap.size 1 uC A xs :=
  open_flat (fun n : Int => 0 ≤ n ∧ n < 256) uC Try.underlying28 (show Try.prog.cellsOf 5 = 1 by kernel_rfl) (by omega) (fun n cs y hl h => by
    match cs, hl with
    | [c0], _ =>
      obtain ⟨x0, e0, -, wx0⟩ := DataW.trod_int Try.underlying5 h
      simp at e0
      subst e0
      exact ⟨x0, bd_u8 wx0, rfl⟩) hv h

theorem big_k (A : Option Addr) (c n : Nat) (w : World) : Calls Try.prog 13 #[.slice A n c] w fun e w' => e = .returned (.bool (decide ((4096 : Int) < n))) ∧ w = w' := by
  go_enter Try.func13, Try.ntmps13
  go_wp2_with fail
  go_ret
  exact ⟨rfl, rfl⟩

end Go.Proofs.Ytlhbjgbkpjlacaa

namespace Go.Proofs.Ytlhbjgbkpjlacaa
set_option maxRecDepth 100000
open Go.RowKit Go.ChangeShapes Go.WideShapes Go.ChangeAt Go.Joins Go.Deep

set_option maxHeartbeats 40000000 in
theorem law_FnBicycles (A : Option Addr) (c : Nat) (xs : List Int) (w : World) (hr : Rd w w.heap.size 1 uC A xs) (hx : ∀ x ∈ xs, 0 ≤ x ∧ x < 256) (hm : xs.length ≤ maxLen) :
    Calls Try.prog 9 #[.slice A xs.length c] w fun e w' => e = .returned (.bool true) ∧ Below w.heap.size w w' := by
  unfold maxLen at hm
  by_cases hbig : (4096 : Int) < xs.length
  · go_enter Try.func9, Try.ntmps9
    go_wp2_with (go_at_call 13; refine (big_k A c xs.length _).mono ?_; rintro e w' ⟨rfl, rfl⟩)
    go_ret
    exact ⟨rfl, Below.refl _ _⟩
  have HBig : Hid (∀ v : World, Calls Try.prog 13 #[.slice A xs.length c] v fun e w' => e = .returned (.bool false) ∧ v = w') := fun v => (big_k A c xs.length v).mono (by rintro e w' ⟨rfl, rfl⟩; exact ⟨by simp only [hbig, decide_false], rfl⟩)
  have HD := Lib.hid (DrawCheapestWith_any A c xs w hr hx (by omega))
  have HD2 : Hid (∀ v : World, Below w.heap.size w v → Calls Try.prog 75 #[.slice A xs.length c] v (GivenBoth 100000001 v)) := fun v hv => DrawLightest_any A c xs v (hr.next hv) hx (by omega)
  clear hr hx hbig
  go_enter Try.func9, Try.ntmps9
  go_wp2_with (go_at_call 13; refine (HBig.out _).mono ?_; rintro e w' ⟨rfl, rfl⟩)
  refine HD.out.mono ?_
  rintro e w1 ⟨LA, JA, lc, jc, vs, js, nm, rfl, hrv, hsv, hrj, hjl, hnm, hb1⟩
  have HWi : Hid (∀ (v : World), Below w1.heap.size w1 v → Calls Try.prog 69 #[.slice LA vs.length lc, .slice JA js.length jc, .string nm] v (GivesRes2 v v.heap.size (withR vs js nm))) := fun v hv => CheapestWith_impl LA JA lc jc vs js v (hrv.next hv) (hrj.next hv) hsv (by omega) nm
  have HWs : Hid (∀ (v : World), Below w1.heap.size w1 v → Calls Try.prog 70 #[.slice LA vs.length lc, .slice JA js.length jc, .string nm] v (GivesRes2 v 0 (withR vs js nm))) := fun v hv => CheapestWith_spec LA JA lc jc vs js v (hrv.next hv) (hrj.next hv) hsv (by omega) nm
  have HUi : Hid (∀ (v : World), Below w1.heap.size w1 v → Calls Try.prog 71 #[.slice LA vs.length lc, .slice JA js.length jc] v (GivesRes v 2 1 nC (usableR vs js))) := fun v hv => UsableParts_impl LA JA lc jc vs js v (hrv.next hv) (hrj.next hv) hsv (by omega)
  have HUs : Hid (∀ (v : World), Below w1.heap.size w1 v → Calls Try.prog 72 #[.slice LA vs.length lc, .slice JA js.length jc] v (GivesRes v 2 1 nC (usableR vs js))) := fun v hv => UsableParts_spec LA JA lc jc vs js v (hrv.next hv) (hrj.next hv) hsv (by omega)
  have HNi : Hid (∀ (v : World), Below w1.heap.size w1 v → Calls Try.prog 73 #[.slice LA vs.length lc, .slice JA js.length jc] v (GivesRes v 2 1 nC (neededR vs js))) := fun v hv => NeededParts_impl LA JA lc jc vs js v (hrv.next hv) (hrj.next hv) hsv (by omega)
  have HNs : Hid (∀ (v : World), Below w1.heap.size w1 v → Calls Try.prog 74 #[.slice LA vs.length lc, .slice JA js.length jc] v (GivesRes v 2 1 nC (neededR vs js))) := fun v hv => NeededParts_spec LA JA lc jc vs js v (hrv.next hv) (hrj.next hv) hsv (by omega)
  have HCi : Hid (∀ (v : World), Below w1.heap.size w1 v → Calls Try.prog 66 #[.slice LA vs.length lc, .slice JA js.length jc] v (GivesRes2 v v.heap.size (cheapR vs js))) := fun v hv => CheapestBicycle_impl LA JA lc jc vs js v (hrv.next hv) (hrj.next hv) hsv (by omega)
  have HFi : Hid (∀ (v : World), Below w1.heap.size w1 v → Calls Try.prog 25 #[.slice LA vs.length lc, .string nm] v (fun e w' => e = .returned (.tuple #[.int .i64 (findR vs nm).1, .int .i64 (findR vs nm).2]) ∧ Below v.heap.size v w')) := fun v hv => FindPart_impl LA lc vs nm v (hrv.next hv) hsv
  have HL1 := Lib.hid (with_law vs js nm)
  have HL2 := Lib.hid (need_law vs js)
  have hwl := (with_law vs js nm).len
  have hvl := hsv.1
  have hul : (usableR vs js).1.length ≤ 1048576 := by
    unfold usableR
    split
    · exact Nat.le_trans (idxTo_le _ _ _) hvl
    · simp
  have hnl : (neededR vs js).1.length ≤ 1048576 := by
    unfold neededR
    split
    · split
      · simp
      · exact Nat.le_trans (idxTo_le _ _ _) hvl
    · simp
  clear hrv hrj hsv HD
  generalize withR vs js nm = WR at HWi HWs HL1 hwl
  generalize usableR vs js = UR at HUi HUs HL1 HL2 hul
  generalize neededR vs js = NR at HNi HNs HL2 hnl
  generalize cheapR vs js = CR at HCi HL1
  obtain ⟨tw, pw, bad⟩ := WR
  obtain ⟨us, one⟩ := UR
  obtain ⟨ns, three⟩ := NR
  obtain ⟨ct, least, ten⟩ := CR
  try simp only at hwl hul hnl
  have hb1w1 := Below.refl w1.heap.size w1
  go_wp2_with fail
  refine (HWi.out w1 hb1w1).mono ?_
  rintro e w2 ⟨XA, Xc, rfl, fX, hXc, hbw2⟩
  try simp only at fX hXc
  have hb1w2 := bthen hb1w1 hbw2
  have HXw2 := Lib.hid fX.rd
  clear fX hXc hbw2
  go_wp2_with fail
  refine (HWs.out w2 hb1w2).mono ?_
  rintro e w3 ⟨YA, Yc, rfl, fY, hYc, hbw3⟩
  try simp only at fY hYc
  have hb1w3 := bthen hb1w2 hbw3
  have HXw3 := Lib.hid (HXw2.out.next hbw3)
  clear HXw2
  have HYw3 := Lib.hid fY.rd
  clear fY hYc hbw3
  go_wp2_with fail
  refine (HUi.out w3 hb1w3).mono ?_
  rintro e w4 ⟨UA, Uc, rfl, fU, hUc, hbw4⟩
  try simp only at fU hUc
  have hb1w4 := bthen hb1w3 hbw4
  have HXw4 := Lib.hid (HXw3.out.next hbw4)
  have HYw4 := Lib.hid (HYw3.out.next hbw4)
  clear HXw3 HYw3
  have HUw4 := Lib.hid fU.rd
  clear fU hUc hbw4
  go_wp2_with fail
  refine (HUs.out w4 hb1w4).mono ?_
  rintro e w5 ⟨VA, Vc, rfl, fV, hVc, hbw5⟩
  try simp only at fV hVc
  have hb1w5 := bthen hb1w4 hbw5
  have HXw5 := Lib.hid (HXw4.out.next hbw5)
  have HYw5 := Lib.hid (HYw4.out.next hbw5)
  have HUw5 := Lib.hid (HUw4.out.next hbw5)
  clear HXw4 HYw4 HUw4
  have HVw5 := Lib.hid fV.rd
  clear fV hVc hbw5
  go_wp2_with fail
  refine (HNi.out w5 hb1w5).mono ?_
  rintro e w6 ⟨NA, Nc, rfl, fN, hNc, hbw6⟩
  try simp only at fN hNc
  have hb1w6 := bthen hb1w5 hbw6
  have HXw6 := Lib.hid (HXw5.out.next hbw6)
  have HYw6 := Lib.hid (HYw5.out.next hbw6)
  have HUw6 := Lib.hid (HUw5.out.next hbw6)
  have HVw6 := Lib.hid (HVw5.out.next hbw6)
  clear HXw5 HYw5 HUw5 HVw5
  have HNw6 := Lib.hid fN.rd
  clear fN hNc hbw6
  go_wp2_with fail
  refine (HNs.out w6 hb1w6).mono ?_
  rintro e w7 ⟨MA, Mc, rfl, fM, hMc, hbw7⟩
  try simp only at fM hMc
  have hb1w7 := bthen hb1w6 hbw7
  have HXw7 := Lib.hid (HXw6.out.next hbw7)
  have HYw7 := Lib.hid (HYw6.out.next hbw7)
  have HUw7 := Lib.hid (HUw6.out.next hbw7)
  have HVw7 := Lib.hid (HVw6.out.next hbw7)
  have HNw7 := Lib.hid (HNw6.out.next hbw7)
  clear HXw6 HYw6 HUw6 HVw6 HNw6
  have HMw7 := Lib.hid fM.rd
  clear fM hMc hbw7
  go_wp2_with fail
  refine (HD2.out w7 (hb1.trans (hb1w7.mono hb1.size))).mono ?_
  rintro e w8 ⟨KA, MA2, kc, mc, us2, ms2, most, rfl, hrv2, hsv2, hrj2, hjl2, hm0, hm1, hbw8⟩
  have hb1w8 := bthen hb1w7 hbw8
  have HXw8 := Lib.hid (HXw7.out.next hbw8)
  have HYw8 := Lib.hid (HYw7.out.next hbw8)
  have HUw8 := Lib.hid (HUw7.out.next hbw8)
  have HVw8 := Lib.hid (HVw7.out.next hbw8)
  have HNw8 := Lib.hid (HNw7.out.next hbw8)
  have HMw8 := Lib.hid (HMw7.out.next hbw8)
  clear HXw7 HYw7 HUw7 HVw7 HNw7 HMw7
  clear HD2 hbw8
  have HLi : Hid (∀ (v : World), Below w8.heap.size w8 v → Calls Try.prog 67 #[.slice KA us2.length kc, .slice MA2 ms2.length mc, .int .i64 most] v (GivesRes2 v v.heap.size (lightR us2 ms2 most))) := fun v hv => LightestBicycle_impl KA MA2 kc mc us2 ms2 v (hrv2.next hv) (hrj2.next hv) hsv2 (by omega) most (by omega)
  have HLs : Hid (∀ (v : World), Below w8.heap.size w8 v → Calls Try.prog 76 #[.slice KA us2.length kc, .slice MA2 ms2.length mc, .int .i64 most] v (GivesRes2 v 0 (lightR us2 ms2 most))) := fun v hv => LightestBicycle_spec KA MA2 kc mc us2 ms2 v (hrv2.next hv) (hrj2.next hv) hsv2 (by omega) most (by omega)
  have HPi : Hid (∀ (v : World) (B : Option Addr) (d : Nat) (bs : List ByteArray), Below w8.heap.size w8 v → Rd v v.heap.size 1 tC B bs → bs.length ≤ 8 → Calls Try.prog 78 #[.slice KA us2.length kc, .slice B bs.length d] v (fun e w' => e = .returned (.tuple #[.int .i64 (sumR us2 PartT.price bs).1, .int .i64 (sumR us2 PartT.price bs).2]) ∧ Below v.heap.size v w')) := fun v B d bs hv hr hl => PriceOf_impl KA B kc d us2 bs v (hrv2.next hv) hr hsv2 (by omega)
  have HGi : Hid (∀ (v : World) (B : Option Addr) (d : Nat) (bs : List ByteArray), Below w8.heap.size w8 v → Rd v v.heap.size 1 tC B bs → bs.length ≤ 8 → Calls Try.prog 79 #[.slice KA us2.length kc, .slice B bs.length d] v (fun e w' => e = .returned (.tuple #[.int .i64 (sumR us2 PartT.grams bs).1, .int .i64 (sumR us2 PartT.grams bs).2]) ∧ Below v.heap.size v w')) := fun v B d bs hv hr hl => GramsOf_impl KA B kc d us2 bs v (hrv2.next hv) hr hsv2 (by omega)
  have HSi : Hid (∀ (v : World) (B : Option Addr) (d : Nat) (bs : List ByteArray), Below w8.heap.size w8 v → Rd v v.heap.size 1 tC B bs → bs.length ≤ 8 → Calls Try.prog 43 #[.slice KA us2.length kc, .slice MA2 ms2.length mc, .slice B bs.length d] v (fun e w' => e = .returned (.tuple #[.bool (soundR us2 ms2 bs).1, .int .i64 (soundR us2 ms2 bs).2]) ∧ Below v.heap.size v w')) := fun v B d bs hv hr hl => IsSound_impl KA MA2 B kc mc d us2 ms2 bs v (hrv2.next hv) (hrj2.next hv) hr hsv2 (by omega) (by omega)
  have HL3 := Lib.hid (light_law us2 ms2 most)
  have hll := (light_law us2 ms2 most).len
  clear hrv2 hrj2
  generalize lightR us2 ms2 most = LR at HLi HLs HL3 hll
  obtain ⟨l, g, five⟩ := LR
  try simp only at hll
  have hb8w8 := Below.refl w8.heap.size w8
  go_wp2_with fail
  refine (HLi.out w8 hb8w8).mono ?_
  rintro e w9 ⟨LA_, Lc, rfl, fL, hLc, hbw9⟩
  try simp only at fL hLc
  have hb1w9 := bthen hb1w8 hbw9
  have hb8w9 := bthen hb8w8 hbw9
  have HXw9 := Lib.hid (HXw8.out.next hbw9)
  have HYw9 := Lib.hid (HYw8.out.next hbw9)
  have HUw9 := Lib.hid (HUw8.out.next hbw9)
  have HVw9 := Lib.hid (HVw8.out.next hbw9)
  have HNw9 := Lib.hid (HNw8.out.next hbw9)
  have HMw9 := Lib.hid (HMw8.out.next hbw9)
  clear HXw8 HYw8 HUw8 HVw8 HNw8 HMw8
  have HLw9 := Lib.hid fL.rd
  clear fL hLc
  go_wp2_with fail
  refine (HLs.out w9 hb8w9).mono ?_
  rintro e w10 ⟨OA, Oc, rfl, fO, hOc, hbw10⟩
  try simp only at fO hOc
  have hb1w10 := bthen hb1w9 hbw10
  have hb8w10 := bthen hb8w9 hbw10
  have HXw10 := Lib.hid (HXw9.out.next hbw10)
  have HYw10 := Lib.hid (HYw9.out.next hbw10)
  have HUw10 := Lib.hid (HUw9.out.next hbw10)
  have HVw10 := Lib.hid (HVw9.out.next hbw10)
  have HNw10 := Lib.hid (HNw9.out.next hbw10)
  have HMw10 := Lib.hid (HMw9.out.next hbw10)
  have HLw10 := Lib.hid (HLw9.out.next hbw10)
  clear HXw9 HYw9 HUw9 HVw9 HNw9 HMw9 HLw9
  have HOw10 := Lib.hid fO.rd
  clear fO hOc
  have HK1 : Hid (∀ v : World, Below w10.heap.size w10 v → Calls Try.prog 77 #[.slice XA tw.length Xc, .slice YA tw.length Yc] v fun e w' => e = .returned (.bool true) ∧ Below v.heap.size v w') := fun v hv => likeTexts_k XA YA Xc Yc tw v (HXw10.out.next hv) (HYw10.out.next hv) (by omega)
  have HK2 : Hid (∀ v : World, Below w10.heap.size w10 v → Calls Try.prog 33 #[.slice UA us.length Uc, .slice VA us.length Vc] v fun e w' => e = .returned (.bool true) ∧ Below v.heap.size v w') := fun v hv => likeInts_k UA VA Uc Vc us v (HUw10.out.next hv) (HVw10.out.next hv) hul
  have HK3 : Hid (∀ v : World, Below w10.heap.size w10 v → Calls Try.prog 33 #[.slice NA ns.length Nc, .slice MA ns.length Mc] v fun e w' => e = .returned (.bool true) ∧ Below v.heap.size v w') := fun v hv => likeInts_k NA MA Nc Mc ns v (HNw10.out.next hv) (HMw10.out.next hv) hnl
  have HK4 : Hid (∀ v : World, Below w10.heap.size w10 v → Calls Try.prog 77 #[.slice LA_ l.length Lc, .slice OA l.length Oc] v fun e w' => e = .returned (.bool true) ∧ Below v.heap.size v w') := fun v hv => likeTexts_k LA_ OA Lc Oc l v (HLw10.out.next hv) (HOw10.out.next hv) (by omega)
  clear HYw10 HVw10 HMw10 HOw10 HWi HWs HUi HUs HNi HNs HLi HLs
  have hbA := Below.refl w10.heap.size w10
  go_wp2_with fail
  refine (HK1.out w10 hbA).mono ?_
  rintro e w11 ⟨rfl, hbN⟩
  replace hbA := bthen hbA hbN
  clear hbN
  go_wp2_with fail
  refine (HK2.out w11 hbA).mono ?_
  rintro e w12 ⟨rfl, hbN⟩
  replace hbA := bthen hbA hbN
  clear hbN
  go_wp2_with fail
  refine (HK3.out w12 hbA).mono ?_
  rintro e w13 ⟨rfl, hbN⟩
  replace hbA := bthen hbA hbN
  clear hbN
  go_wp2_with fail
  refine (HK4.out w13 hbA).mono ?_
  rintro e w14 ⟨rfl, hbN⟩
  replace hbA := bthen hbA hbN
  clear hbN
  have hb1w14 := bthen hb1w10 hbA
  have hb8w14 := bthen hb8w10 hbA
  have HX := Lib.hid (HXw10.out.next hbA)
  have HU := Lib.hid (HUw10.out.next hbA)
  have HNn := Lib.hid (HNw10.out.next hbA)
  have HLl := Lib.hid (HLw10.out.next hbA)
  clear HXw10 HUw10 HNw10 HLw10 HK1 HK2 HK3 HK4 hbA
  go_upto_if 164 with (fail)
  go_cut [2] (fun cx wx => Below w14.heap.size w14 wx)
  case first =>
    by_cases h5 : five = 0
    · obtain ⟨q, hpq, hqm⟩ := HL3.out.price h5
      have hg := HL3.out.grams h5
      have hso := HL3.out.sound h5
      try simp only at hpq hg hso
      have HP1 := Lib.hid (HPi.out w14 LA_ Lc l hb8w14 HLl.out hll)
      rw [hpq] at HP1
      have HG1 : Hid (∀ v : World, Below w14.heap.size w14 v → Calls Try.prog 79 #[.slice KA us2.length kc, .slice LA_ l.length Lc] v fun e w' => e = .returned (.tuple #[.int .i64 g, .int .i64 0]) ∧ Below v.heap.size v w') := fun v hv => by
        have := HGi.out v LA_ Lc l (bthen hb8w14 hv) (HLl.out.next hv) hll
        rwa [hg] at this
      have HS1 : Hid (∀ v : World, Below w14.heap.size w14 v → Calls Try.prog 43 #[.slice KA us2.length kc, .slice MA2 ms2.length mc, .slice LA_ l.length Lc] v fun e w' => e = .returned (.tuple #[.bool true, .int .i64 0]) ∧ Below v.heap.size v w') := fun v hv => by
        have := HSi.out v LA_ Lc l (bthen hb8w14 hv) (HLl.out.next hv) hll
        rwa [hso] at this
      subst h5
      clear HL1 HL2 HL3 hpq hg hso HPi HGi HSi
      go_wp2_with fail
      refine HP1.out.mono ?_
      rintro e w15 ⟨rfl, hb15⟩
      go_wp2_with fail
      refine (HG1.out w15 hb15).mono ?_
      rintro e w16 ⟨rfl, hb16⟩
      have hb146 := bthen hb15 hb16
      go_wp2_with fail
      refine (HS1.out w16 hb146).mono ?_
      rintro e w17 ⟨rfl, hb17⟩
      have hb147 := bthen hb146 hb17
      go_wp2_with fail
      go_meet
      exact hb147
    · have h5b : (five == 0) = false := by simp [h5]
      clear HL1 HL2 HL3 h5
      go_wp2_with fail
      go_meet
      exact Below.refl _ _
  case rest =>
    have hcb := hcut
    clear hcut
    have hb1c := bthen hb1w14 hcb
    have HXc := Lib.hid (HX.out.next hcb)
    have HUc := Lib.hid (HU.out.next hcb)
    have HNc := Lib.hid (HNn.out.next hcb)
    have HHi : Hid (∀ (v : World) (y : Int), Below wc.heap.size wc v → Calls Try.prog 50 #[.slice UA us.length Uc, .int .i64 y] v fun e w' => e = .returned (.bool (decide (y ∈ us))) ∧ Below v.heap.size v w') := fun v y hv => hasInt_any UA Uc us y v (HUc.out.next hv) hul
    have HHt : Hid (∀ (v : World), Below wc.heap.size wc v → Calls Try.prog 80 #[.slice XA tw.length Xc, .string nm] v fun e w' => e = .returned (.bool (tw.any fun t => decide (t = nm))) ∧ Below v.heap.size v w') := fun v hv => hasText_any XA Xc tw nm v (HXc.out.next hv) (by omega)
    clear HX HU HNn HLl HL3 HPi HGi HSi
    by_cases h3 : three = 0
    · have hne := HL2.out h3
      try simp only at hne
      have Hne := Lib.hid hne
      have h3b : (three == 0) = true := by simp [h3]
      clear HL2 hne h3
      go_wp2_with fail
      go_loopw [35] (fun x wr => ∃ k : Nat, k ≤ ns.length ∧ x = .int .i64 k ∧ Below wc.heap.size wc wr) (fun x _ => ns.length - (intOf x).toNat)
      case atStart => exact ⟨0, Nat.zero_le _, rfl, Below.refl _ _⟩
      case round =>
        obtain ⟨k, hk, rfl, hbk⟩ := hrel
        by_cases hlt : k < ns.length
        · have hxk : ns[k]? = some ns[k] := List.getElem?_eq_getElem hlt
          obtain ⟨nb, no, rfl, _, q0⟩ := (HNc.out.next hbk).at1 hxk rfl
          rw [Nat.mul_one] at q0
          have hmem := Hne.out ns[k] (List.getElem_mem hlt)
          have hHy := HHi.out wr ns[k] hbk
          rw [decide_eq_true hmem] at hHy
          have HHy := Lib.hid hHy
          generalize ns[k] = y at q0 HHy
          clear hxk hmem hHy
          go_wp2_with fail
          refine HHy.out.mono ?_
          rintro e w20 ⟨rfl, hb20⟩
          go_wp2_with fail
          exact ⟨⟨k + 1, by omega, by go_num, bthen hbk hb20⟩, by simp [intOf]; omega⟩
        · clear Hne HNc
          by_cases hbad : bad = 0
          · obtain ⟨hc1, hc2⟩ := HL1.out.cheap hbad
            obtain ⟨kf, hf1, hf2⟩ := HL1.out.find hbad
            have hh := HL1.out.has hbad
            try simp only at hc1 hc2 hf2 hh
            have hd1 : decide (kf ∈ us) = true := decide_eq_true hf2
            have hd2 : (tw.any fun t => decide (t = nm)) = true := List.any_eq_true.2 ⟨nm, hh, by simp⟩
            have HF1 : Hid (∀ v : World, Below w1.heap.size w1 v → Calls Try.prog 25 #[.slice LA vs.length lc, .string nm] v fun e w' => e = .returned (.tuple #[.int .i64 kf, .int .i64 0]) ∧ Below v.heap.size v w') := fun v hv => by
              have := HFi.out v hv
              rwa [hf1] at this
            have HH1 : Hid (∀ v : World, Below wc.heap.size wc v → Calls Try.prog 50 #[.slice UA us.length Uc, .int .i64 kf] v fun e w' => e = .returned (.bool true) ∧ Below v.heap.size v w') := fun v hv => by
              have := HHi.out v kf hv
              rwa [hd1] at this
            rw [hd2] at HHt
            subst hbad
            subst hc1
            clear HL1 hf1 hf2 hh hd1 hd2 HHi HFi
            go_wp2_with fail
            refine (HCi.out _ (bthen hb1c hbk)).mono ?_
            rintro e w21 ⟨CA, cc, rfl, _, _, hb21⟩
            have hbk1 := bthen hbk hb21
            go_wp2_with fail
            refine (HF1.out w21 (bthen hb1c hbk1)).mono ?_
            rintro e w22 ⟨rfl, hb22⟩
            have hbk2 := bthen hbk1 hb22
            go_wp2_with fail
            refine (HH1.out w22 hbk2).mono ?_
            rintro e w23 ⟨rfl, hb23⟩
            have hbk3 := bthen hbk2 hb23
            go_wp2_with fail
            refine (HHt.out w23 hbk3).mono ?_
            rintro e w24 ⟨rfl, hb24⟩
            have hbk4 := bthen hbk3 hb24
            go_wp2_with fail
            go_ret
            exact ⟨rfl, hb1.trans ((bthen hb1c hbk4).mono hb1.size)⟩
          · have hbb : (bad == 0) = false := by simp [hbad]
            have hbb2 : (bad != 0) = true := by simp [hbad]
            clear HL1 hbad
            go_wp2_with fail
            go_ret
            exact ⟨rfl, hb1.trans ((bthen hb1c hbk).mono hb1.size)⟩
    · have h3b : (three == 0) = false := by simp [h3]
      clear HL2 h3
      go_wp2_with fail
      go_loopw [35] (fun x wr => x = .int .i64 0 ∧ Below wc.heap.size wc wr) (fun _ _ => 0)
      case atStart => exact ⟨rfl, Below.refl _ _⟩
      case round =>
        obtain ⟨rfl, hbk⟩ := hrel
        by_cases hbad : bad = 0
        · obtain ⟨hc1, hc2⟩ := HL1.out.cheap hbad
          obtain ⟨kf, hf1, hf2⟩ := HL1.out.find hbad
          have hh := HL1.out.has hbad
          try simp only at hc1 hc2 hf2 hh
          have hd1 : decide (kf ∈ us) = true := decide_eq_true hf2
          have hd2 : (tw.any fun t => decide (t = nm)) = true := List.any_eq_true.2 ⟨nm, hh, by simp⟩
          have HF1 : Hid (∀ v : World, Below w1.heap.size w1 v → Calls Try.prog 25 #[.slice LA vs.length lc, .string nm] v fun e w' => e = .returned (.tuple #[.int .i64 kf, .int .i64 0]) ∧ Below v.heap.size v w') := fun v hv => by
            have := HFi.out v hv
            rwa [hf1] at this
          have HH1 : Hid (∀ v : World, Below wc.heap.size wc v → Calls Try.prog 50 #[.slice UA us.length Uc, .int .i64 kf] v fun e w' => e = .returned (.bool true) ∧ Below v.heap.size v w') := fun v hv => by
            have := HHi.out v kf hv
            rwa [hd1] at this
          rw [hd2] at HHt
          subst hbad
          subst hc1
          clear HL1 hf1 hf2 hh hd1 hd2 HHi HFi
          go_wp2_with fail
          refine (HCi.out _ (bthen hb1c hbk)).mono ?_
          rintro e w21 ⟨CA, cc, rfl, _, _, hb21⟩
          have hbk1 := bthen hbk hb21
          go_wp2_with fail
          refine (HF1.out w21 (bthen hb1c hbk1)).mono ?_
          rintro e w22 ⟨rfl, hb22⟩
          have hbk2 := bthen hbk1 hb22
          go_wp2_with fail
          refine (HH1.out w22 hbk2).mono ?_
          rintro e w23 ⟨rfl, hb23⟩
          have hbk3 := bthen hbk2 hb23
          go_wp2_with fail
          refine (HHt.out w23 hbk3).mono ?_
          rintro e w24 ⟨rfl, hb24⟩
          have hbk4 := bthen hbk3 hb24
          go_wp2_with fail
          go_ret
          exact ⟨rfl, hb1.trans ((bthen hb1c hbk4).mono hb1.size)⟩
        · have hbb : (bad == 0) = false := by simp [hbad]
          have hbb2 : (bad != 0) = true := by simp [hbad]
          clear HL1 hbad
          go_wp2_with fail
          go_ret
          exact ⟨rfl, hb1.trans ((bthen hb1c hbk).mono hb1.size)⟩

set_option maxRecDepth 100000 in
theorem fnBicycles_lifted (os : Os) (started : os.Started) (H : Type) (enc : TypeId × Value → H) :
    ReturnsInHanded {} Try.checked os 9 .any (Rows.fnBicyclesSpec.pre6 enc Try.prog Try.f9 Rows.fnBicyclesRow.domain false) (Rows.fnBicyclesSpec.post enc Try.prog Try.f9 false true false false) := by
  refine returnsInHanded_of_change (C := Try.checked) own started (by kernel_rfl) Try.func9
    (ChangeSpec.witness6 (enc := enc) (C := Try.checked) false ⟨#[], #[.slice none 0 0], []⟩ 8 (by kernel_rfl) (by kernel_rfl) (by kernel_rfl) (by kernel_rfl)) ?_
  intro W base args ds gs before hval0 hW hcnd _
  have hval : ∀ (j : Nat) t v, Try.f9.params[j]? = some t → args[j]? = some v → Value.okWide Try.prog W .any base t v := hval0
  have hlt : ∀ x ∈ before, x.block < W.heap.size := fun x hx => hW.lt x hx
  have hW' := hW
  obtain ⟨p, q, hA0, hV, rfl, hfz, hnd⟩ := hW
  have hA : DataW.TrodAll enc Try.prog W 0 (fun _ => true) true Try.f9.params.toList args.toList ds p := hA0
  rw [Try.params9] at hA hval
  obtain ⟨v0, d0, rfl, rfl, h0⟩ := trodAll_one hA
  obtain ⟨A, c, xs, rfl, hm, hx, hr⟩ := open_bytes (hval 0 28 v0 rfl rfl) h0
  refine (law_FnBicycles A c xs W hr hx hm).mono fun e W' ⟨he, hb⟩ => ?_
  subst he
  exact ⟨_, rfl, law_post (tb := 4) laidOut (by kernel_rfl) rfl rfl Try.underlying4 hW' rfl hb⟩
theorem fnBicycles_closed : joinedFacts Try.prog 9 Try.f9 Rows.fnBicyclesSpec Rows.fnBicyclesRow = true := by
  unfold joinedFacts; rw [mayEnter_yes, liftsFinal_no, make_cut]; kernel_rfl
theorem fnBicycles_holds : Rows.FnBicyclesSaid :=
  OpenClaim.holds_of_wide 9 Try.f9 rfl rfl rfl rfl rfl rfl rfl ⟨rfl, rfl, rfl, rfl, rfl⟩ rfl rfl rfl rfl rfl (by kernel_rfl) Try.func9 fnBicycles_closed
    (of_decide_eq_true (by kernel_rfl)) (by unfold Func.isWrapper; rw [if_neg (of_decide_eq_false (by kernel_rfl))]; exact ⟨rfl, rfl⟩)
    (fun os started H enc _ => fnBicycles_lifted os started H enc)
#print axioms fnBicycles_holds

end Go.Proofs.Ytlhbjgbkpjlacaa
