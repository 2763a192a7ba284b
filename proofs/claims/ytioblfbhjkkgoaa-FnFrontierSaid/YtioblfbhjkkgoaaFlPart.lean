/- DERIVED. Parts: carried over, compared, counted; an argument of this kind opened. -/
import Derived.Test.YtioblfbhjkkgoaaOpenIn
import Derived.Test.YtioblfbhjkkgoaaFlPort
namespace Go.Proofs.Ytioblfbhjkkgoaa
set_option maxRecDepth 100000
open Go.RowKit Go.ChangeShapes Go.WideShapes Go.ChangeAt Go.Joins Go.Deep

abbrev PortT := Int × Int × Bool
/-- A part as it lies in memory: its ports at pA, of capacity pc. -/
structure PartM where
  code : ByteArray
  slot : Int
  pA : Option Addr
  pc : Nat
  ports : List PortT
  price : Int
  grams : Int
/-- A part as a plain value. -/
structure PartT where
  code : ByteArray
  slot : Int
  ports : List PortT
  price : Int
  grams : Int
/-- What it says, wherever its ports lie. -/
def PartM.val (m : PartM) : PartT := ⟨m.code, m.slot, m.ports, m.price, m.grams⟩
def partC (m : PartM) : List Value := [.string m.code, .int .i64 m.slot, .slice m.pA m.ports.length m.pc, .int .i64 m.price, .int .i64 m.grams]
theorem partC_len (m : PartM) : (partC m).length = 5 := rfl
def partV (m : PartM) : Value := .agg #[.string m.code, .int .i64 m.slot, .slice m.pA m.ports.length m.pc, .int .i64 m.price, .int .i64 m.grams]
/-- Its ports can be read. -/
def PIn (w : World) (B : Nat) (m : PartM) : Prop := Rd w B 3 portC m.pA m.ports ∧ m.ports.length ≤ m.pc
theorem PIn.below {w w' : World} {B : Nat} {m : PartM} (h : PIn w B m) (hb : Below B w w') : PIn w' B m := ⟨h.1.below hb, h.2⟩
theorem PIn.more {w : World} {B B' : Nat} {m : PartM} (h : PIn w B m) (hB : B ≤ B') : PIn w B' m := ⟨h.1.more hB, h.2⟩
/-- A slice of parts reads as ms. -/
def RdP (w : World) (B : Nat) (A : Option Addr) (ms : List PartM) : Prop := Rd w B 5 partC A ms ∧ ∀ m ∈ ms, PIn w B m
theorem RdP.below {w w' : World} {B : Nat} {A : Option Addr} {ms : List PartM} (h : RdP w B A ms) (hb : Below B w w') : RdP w' B A ms := ⟨h.1.below hb, fun m hm => (h.2 m hm).below hb⟩
theorem RdP.more {w : World} {B B' : Nat} {A : Option Addr} {ms : List PartM} (h : RdP w B A ms) (hB : B ≤ B') : RdP w B' A ms := ⟨h.1.more hB, fun m hm => (h.2 m hm).more hB⟩

theorem Rd.at5 {α : Type} {w : World} {B sz : Nat} {f : α → List Value} {A : Option Addr} {xs : List α} {k : Nat} {x : α} {v0 v1 v2 v3 v4 : Value} (h : Rd w B sz f A xs) (hk : xs[k]? = some x) (hf : f x = [v0, v1, v2, v3, v4]) : ∃ b o, A = some ⟨b, o, none⟩ ∧ b < B ∧ w.cell? ⟨b, o + k * sz, none⟩ = some v0 ∧ w.cell? ⟨b, o + k * sz + 1, none⟩ = some v1 ∧ w.cell? ⟨b, o + k * sz + 2, none⟩ = some v2 ∧ w.cell? ⟨b, o + k * sz + 3, none⟩ = some v3 ∧ w.cell? ⟨b, o + k * sz + 4, none⟩ = some v4 := by
  obtain ⟨b, o, e, hB, hc⟩ := h (by have := (List.getElem?_eq_some_iff.1 hk).1; omega)
  refine ⟨b, o, e, hB, ?_, ?_, ?_, ?_, ?_⟩
  · exact hc k x hk 0 v0 (by rw [hf]; rfl)
  · exact hc k x hk 1 v1 (by rw [hf]; rfl)
  · exact hc k x hk 2 v2 (by rw [hf]; rfl)
  · exact hc k x hk 3 v3 (by rw [hf]; rfl)
  · exact hc k x hk 4 v4 (by rw [hf]; rfl)

theorem open_parts {H : Type} {enc : TypeId × Value → H} {W : World} {spare : Nat → Bool} {r : Reach} {b0 : Nat} {v : Value} {d : DataW H} {p : List MemPlace}
    (hv : Value.okWide Try.prog W r b0 22 v) (h : DataW.Trod enc Try.prog W 0 spare true 22 v d p) :
    ∃ A c ms, v = .slice A (List.length ms) c ∧ List.length ms ≤ maxLen ∧ (∀ m ∈ ms, (fun m : PartM => m.code.size ≤ maxLen ∧ m.ports.length ≤ maxLen) m) ∧ RdP W W.heap.size A ms := by
  obtain ⟨A, c, ms, e, h1, h2, h3⟩ := open_flat (fun m => (m.code.size ≤ maxLen ∧ m.ports.length ≤ maxLen) ∧ PIn W W.heap.size m) partC Try.underlying22 (show Try.prog.cellsOf 52 = 5 by kernel_rfl) (by omega) (fun n cs y hl h => by
    obtain ⟨c0, c1, c2, c3, c4, y0, y1, y2, y3, y4, m, rfl, h0, h1, h2, h3, h4⟩ := el5 Try.underlying52 (by kernel_rfl) hl h
    obtain ⟨x0, e0, -, wx0⟩ := DataW.trod_string Try.underlying9 h0
    obtain ⟨x1, e1, -, -⟩ := DataW.trod_int Try.underlying2 h1
    obtain ⟨pA, pc, ps, e2, hpc, hpm, _, hrd⟩ := open_in (fun _ => True) portC Try.underlying50 (show Try.prog.cellsOf 107 = 3 by kernel_rfl) (by omega) (fun n cs y hl h => by
      obtain ⟨c0, c1, c2, y0, y1, y2, m, rfl, h0, h1, h2⟩ := el3 Try.underlying107 (by kernel_rfl) hl h
      obtain ⟨x0, e0, -, -⟩ := DataW.trod_int Try.underlying2 h0
      obtain ⟨x1, e1, -, -⟩ := DataW.trod_int Try.underlying2 h1
      obtain ⟨x2, e2, -⟩ := DataW.trod_bool Try.underlying4 h2
      simp at e0 e1 e2
      subst e0 e1 e2
      exact ⟨(x0, x1, x2), trivial, rfl⟩) h2
    obtain ⟨x3, e3, -, -⟩ := DataW.trod_int Try.underlying2 h3
    obtain ⟨x4, e4, -, -⟩ := DataW.trod_int Try.underlying2 h4
    simp at e0 e1 e2 e3 e4
    subst e0 e1 e2 e3 e4
    exact ⟨⟨x0, x1, pA, pc, ps, x3, x4⟩, ⟨⟨wx0, hpm⟩, hrd, hpc⟩, rfl⟩) hv h
  exact ⟨A, c, ms, e, h1, fun m hm => (h2 m hm).1, h3, fun m hm => (h2 m hm).2⟩

end Go.Proofs.Ytioblfbhjkkgoaa
