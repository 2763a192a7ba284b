/- DERIVED. Parts: carried over, compared, counted; an argument of this kind opened. -/
import Derived.Test.YtncjgebgghpigaaOpenIn
import Derived.Test.YtncjgebgghpigaaFlPort
namespace Go.Proofs.Ytncjgebgghpigaa
set_option maxRecDepth 100000
open Go.RowKit Go.ChangeShapes Go.WideShapes Go.ChangeAt Go.Joins Go.Deep

abbrev PortT := Int × Int × Bool
/-- A part as it lies in memory: its ports at pA, of capacity pc. -/
structure PartM where
  code : ByteArray
  slot : Int
  pA : Option Addr
  pc : Nat
  ports : List PortT
  price : Int
  grams : Int
/-- A part as a plain value. -/
structure PartT where
  code : ByteArray
  slot : Int
  ports : List PortT
  price : Int
  grams : Int
/-- What it says, wherever its ports lie. -/
def PartM.val (m : PartM) : PartT := ⟨m.code, m.slot, m.ports, m.price, m.grams⟩
def partC (m : PartM) : List Value := [.string m.code, .int .i64 m.slot, .slice m.pA m.ports.length m.pc, .int .i64 m.price, .int .i64 m.grams]
theorem partC_len (m : PartM) : (partC m).length = 5 := rfl
def partV (m : PartM) : Value := .agg #[.string m.code, .int .i64 m.slot, .slice m.pA m.ports.length m.pc, .int .i64 m.price, .int .i64 m.grams]
/-- Its ports can be read. -/
def PIn (w : World) (B : Nat) (m : PartM) : Prop := Rd w B 3 portC m.pA m.ports ∧ m.ports.length ≤ m.pc
theorem PIn.below {w w' : World} {B : Nat} {m : PartM} (h : PIn w B m) (hb : Below B w w') : PIn w' B m := ⟨h.1.below hb, h.2⟩
theorem PIn.more {w : World} {B B' : Nat} {m : PartM} (h : PIn w B m) (hB : B ≤ B') : PIn w B' m := ⟨h.1.more hB, h.2⟩
/-- A slice of parts reads as ms. -/
def RdP (w : World) (B : Nat) (A : Option Addr) (ms : List PartM) : Prop := Rd w B 5 partC A ms ∧ ∀ m ∈ ms, PIn w B m
theorem RdP.below {w w' : World} {B : Nat} {A : Option Addr} {ms : List PartM} (h : RdP w B A ms) (hb : Below B w w') : RdP w' B A ms := ⟨h.1.below hb, fun m hm => (h.2 m hm).below hb⟩
theorem RdP.more {w : World} {B B' : Nat} {A : Option Addr} {ms : List PartM} (h : RdP w B A ms) (hB : B ≤ B') : RdP w B' A ms := ⟨h.1.more hB, fun m hm => (h.2 m hm).more hB⟩

theorem Rd.at5 {α : Type} {w : World} {B sz : Nat} {f : α → List Value} {A : Option Addr} {xs : List α} {k : Nat} {x : α} {v0 v1 v2 v3 v4 : Value} (h : Rd w B sz f A xs) (hk : xs[k]? = some x) (hf : f x = [v0, v1, v2, v3, v4]) : ∃ b o, A = some ⟨b, o, none⟩ ∧ b < B ∧ w.cell? ⟨b, o + k * sz, none⟩ = some v0 ∧ w.cell? ⟨b, o + k * sz + 1, none⟩ = some v1 ∧ w.cell? ⟨b, o + k * sz + 2, none⟩ = some v2 ∧ w.cell? ⟨b, o + k * sz + 3, none⟩ = some v3 ∧ w.cell? ⟨b, o + k * sz + 4, none⟩ = some v4 := by
  obtain ⟨b, o, e, hB, hc⟩ := h (by have := (List.getElem?_eq_some_iff.1 hk).1; omega)
  refine ⟨b, o, e, hB, ?_, ?_, ?_, ?_, ?_⟩
  · exact hc k x hk 0 v0 (by rw [hf]; rfl)
  · exact hc k x hk 1 v1 (by rw [hf]; rfl)
  · exact hc k x hk 2 v2 (by rw [hf]; rfl)
  · exact hc k x hk 3 v3 (by rw [hf]; rfl)
  · exact hc k x hk 4 v4 (by rw [hf]; rfl)

end Go.Proofs.Ytncjgebgghpigaa
