/- DERIVED. Reading of numbers. -/
import Derived.Test.YtfdnpobppelhaaaBallW
import Derived.Test.YtfdnpobppelhaaaIdx
namespace Go.Proofs.Ytfdnpobppelhaaa
set_option maxRecDepth 100000
open Go.RowKit
theorem Rd.at1' {w : World} {B b o k : Nat} {x : Int} {xs : List Int} (h : Rd w B 1 nC (some ⟨b, o, none⟩) xs) (hk : xs[k]? = some x) : w.cell? ⟨b, o + k, none⟩ = some (.int .i64 x) := by
  obtain ⟨b1, o1, e, _, h1⟩ := h.at1 hk rfl
  simp only [Option.some.injEq, Addr.mk.injEq] at e
  obtain ⟨rfl, rfl, _⟩ := e
  rw [Nat.mul_one] at h1
  exact h1
theorem flat_none {w : World} {lo hi : Nat} {E : TypeId} {r : List Int × Int} {k : Int} (h : r = ([], k)) : Flat w lo hi E 1 nC none r.1 := by
  rw [h]
  exact flat_nil
theorem rd_drop {w : World} {B b o : Nat} {xs : List Int} (h : Rd w B 1 nC (some ⟨b, o, none⟩) xs) (k : Nat) : Rd w B 1 nC (some ⟨b, o + k, none⟩) (xs.drop k) := fun hx => by
  rw [List.length_drop] at hx
  obtain ⟨b1, o1, e, hb, hc⟩ := h (by omega)
  simp only [Option.some.injEq, Addr.mk.injEq] at e
  obtain ⟨rfl, rfl, _⟩ := e
  refine ⟨b, o + k, rfl, hb, fun j x hj i v hi => ?_⟩
  rw [List.getElem?_drop] at hj
  have := hc (k + j) x hj i v hi
  rw [show o + k + j * 1 + i = o + (k + j) * 1 + i by omega]
  exact this
theorem Rd.take {w : World} {B : Nat} {A : Option Addr} {xs : List Int} (h : Rd w B 1 nC A xs) (k : Nat) : Rd w B 1 nC A (xs.take k) := fun hx => by
  rw [List.length_take] at hx
  obtain ⟨b, o, e, hb, hc⟩ := h (by omega)
  refine ⟨b, o, e, hb, fun j x hj i v hi => hc j x ?_ i v hi⟩
  rw [List.getElem?_take] at hj
  split at hj
  · exact hj
  · exact absurd hj (by simp)
end Go.Proofs.Ytfdnpobppelhaaa
