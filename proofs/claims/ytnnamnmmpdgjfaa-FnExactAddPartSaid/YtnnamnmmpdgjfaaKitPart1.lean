/- DERIVED. A single part in the laws: opened, carried over, compared, counted, marked. -/
import Derived.Test.YtnnamnmmpdgjfaaKitPart
import Derived.ChangeMaps5
namespace Go.Proofs.Ytnnamnmmpdgjfaa
set_option maxRecDepth 100000
open Go.RowKit Go.ChangeShapes Go.WideShapes Go.ChangeAt Go.Joins Go.Deep

theorem open_partV {H : Type} {enc : TypeId × Value → H} {W : World} {spare : Nat → Bool} {r : Reach} {b0 : Nat} {v : Value} {d : DataW H} {p : List MemPlace}
    (hv : Value.okWide Try.prog W r b0 24 v) (h : DataW.Trod enc Try.prog W 0 spare true 24 v d p) :
    ∃ x pA pc, v = argV x pA pc ∧ goodV x ∧ Rd W W.heap.size 3 portC pA x.ports ∧ x.ports.length ≤ pc := by
  obtain ⟨cs, rfl, hsz⟩ := okWide_struct Try.underlying24 hv
  obtain ⟨fuel, hf⟩ := h
  have hcl : cs.toList.length = 5 := by rw [Array.length_toList, hsz]; kernel_rfl
  obtain ⟨c0, c1, c2, c3, c4, y0, y1, y2, y3, y4, m, e, h0, h1, h2, h3, h4⟩ := el5 Try.underlying24 (by kernel_rfl) hcl hf
  obtain ⟨x0, e0, -, wx0⟩ := DataW.trod_string Try.underlying9 h0
  obtain ⟨x1, e1, -, -⟩ := DataW.trod_int Try.underlying2 h1
  obtain ⟨pA, pc, ps, e2, hpc, hpm, _, hrd⟩ := open_in (fun _ => True) portC Try.underlying22 (show Try.prog.cellsOf 108 = 3 by kernel_rfl) (by omega) (fun n cs y hl h => by
    obtain ⟨c0, c1, c2, y0, y1, y2, m, rfl, h0, h1, h2⟩ := el3 Try.underlying108 (by kernel_rfl) hl h
    obtain ⟨x0, e0, -, -⟩ := DataW.trod_int Try.underlying2 h0
    obtain ⟨x1, e1, -, -⟩ := DataW.trod_int Try.underlying2 h1
    obtain ⟨x2, e2, -⟩ := DataW.trod_bool Try.underlying4 h2
    simp at e0 e1 e2
    subst e0 e1 e2
    exact ⟨(x0, x1, x2), trivial, rfl⟩) h2
  obtain ⟨x3, e3, -, -⟩ := DataW.trod_int Try.underlying2 h3
  obtain ⟨x4, e4, -, -⟩ := DataW.trod_int Try.underlying2 h4
  simp at e0 e1 e2 e3 e4
  subst e0 e1 e2 e3 e4
  refine ⟨⟨x0, x1, ps, x3, x4⟩, pA, pc, ?_, ⟨wx0, hpm⟩, hrd, hpc⟩
  unfold argV
  congr 1
  exact Array.toList_inj.1 e
theorem szPart_k (x : PartT) (pA : Option Addr) (pc : Nat) (l : Int) (w : World) (hg : goodV x) (h2 : 0 ≤ l) (h3 : l ≤ 1048576) :
    Calls Try.prog 15 #[.agg #[.string x.code, .int .i64 x.slot, .slice pA x.ports.length pc, .int .i64 x.price, .int .i64 x.grams], .int .i64 l] w (SzPost w l (x.ports.length ≤ 1048576)) := by
  refine (szPart_any ⟨x.code, x.slot, pA, pc, x.ports, x.price, x.grams⟩ l hg.1 hg.2 h2 h3 w).mono ?_
  rintro e w' ⟨r, rfl, h4, hb⟩
  exact ⟨r, rfl, h4.imp id fun h => ⟨h.1, h.2.1, h.2.2.2⟩, hb⟩
theorem toPart_k (x : PartT) (pA : Option Addr) (pc : Nat) (w : World) (hr : Rd w w.heap.size 3 portC pA x.ports) (hm : x.ports.length ≤ 1048576) :
    Calls Try.prog 17 #[.agg #[.string x.code, .int .i64 x.slot, .slice pA x.ports.length pc, .int .i64 x.price, .int .i64 x.grams]] w fun e w' => ∃ A', e = .returned (.agg #[.string x.code, .int .i64 x.slot, .slice A' x.ports.length x.ports.length, .int .i64 x.price, .int .i64 x.grams]) ∧ Flat w' w.heap.size w'.heap.size 60 3 portC A' x.ports ∧ Below w.heap.size w w' :=
  toPart_any ⟨x.code, x.slot, pA, pc, x.ports, x.price, x.grams⟩ w hr hm
theorem eqPart_k (x : PartT) (pA pB : Option Addr) (pc pd : Nat) (w : World) (hr : Rd w w.heap.size 3 portC pA x.ports) (hr' : Rd w w.heap.size 3 portC pB x.ports) (hm : x.ports.length ≤ 1048576) :
    Calls Try.prog 19 #[.agg #[.string x.code, .int .i64 x.slot, .slice pA x.ports.length pc, .int .i64 x.price, .int .i64 x.grams], .agg #[.string x.code, .int .i64 x.slot, .slice pB x.ports.length pd, .int .i64 x.price, .int .i64 x.grams]] w fun e w' => e = .returned (.bool true) ∧ Below w.heap.size w w' :=
  eqPart_yes ⟨x.code, x.slot, pA, pc, x.ports, x.price, x.grams⟩ ⟨x.code, x.slot, pB, pd, x.ports, x.price, x.grams⟩ rfl w hr hr' hm
theorem markPart_k (x : PartT) (pA : Option Addr) (pc : Nat) (k : Int) (lo hi : Nat) (w : World) (hf : Flat w lo hi 60 3 portC pA x.ports) (hm : x.ports.length ≤ 1048576) (k0 : 0 < k) (k1 : k ≤ 900000000000000) :
    Calls Try.prog 30 #[.agg #[.string x.code, .int .i64 x.slot, .slice pA x.ports.length pc, .int .i64 x.price, .int .i64 x.grams], .int .i64 k] w (MarkedOnly w lo hi k) := by
  have hroom := hf.room
  clear hf
  go_enter Try.func30, Try.ntmps30
  go_wp2_with fail
  refine (markPortS_any pA pc x.ports.length k lo hi _ (hroom.keep fun _ _ h => h.alloc _) hm (by omega) (by omega)).mono ?_
  rintro e w3 ⟨⟨rfl, ho3, _⟩, hrk⟩
  go_wp2_with fail
  go_ret
  exact ⟨_, rfl, by omega, by omega, (Only.alloc _).trans ho3⟩
end Go.Proofs.Ytnnamnmmpdgjfaa
