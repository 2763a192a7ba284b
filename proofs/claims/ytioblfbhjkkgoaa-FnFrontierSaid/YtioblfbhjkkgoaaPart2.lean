/- DERIVED. Parts carried over, compared, counted. -/
import Derived.Test.YtioblfbhjkkgoaaFlPart
import Derived.Test.YtioblfbhjkkgoaaOwn
namespace Go.Proofs.Ytioblfbhjkkgoaa
set_option maxRecDepth 100000
open Go.RowKit Go.ChangeShapes Go.WideShapes Go.ChangeAt Go.Joins Go.Deep

/-- The ports lie in memory of the call's own. -/
def GivesPart (w : World) (m : PartM) (e : Ending) (w' : World) : Prop :=
  ∃ A', e = .returned (partV { m with pA := A', pc := m.ports.length }) ∧ Flat w' w.heap.size w'.heap.size 96 3 portC A' m.ports ∧ Below w.heap.size w w'

theorem cell_set {w : World} {g j g' j' : Nat} {u : Value} : (w.setCell ⟨g, j, none⟩ u).cell? ⟨g', j', none⟩ = if g' = g ∧ j' = j then (if (w.cell? ⟨g', j', none⟩).isSome then some u else none) else w.cell? ⟨g', j', none⟩ := by
  by_cases h : g' = g ∧ j' = j
  · obtain ⟨rfl, rfl⟩ := h
    rw [if_pos ⟨rfl, rfl⟩]
    cases hc : w.cell? ⟨g', j', none⟩ with
    | some v => simpa using setCell_same hc
    | none =>
      simp only [Option.isSome_none, Bool.false_eq_true, if_false]
      unfold World.cell? World.setCell at *
      simp only [Array.getElem?_modify, if_true] at *
      cases hh : w.heap[g']? with
      | none => simp
      | some o => cases o <;> simp_all
  · rw [if_neg h, setCell_other h]

set_option maxHeartbeats 400000 in
theorem toPart_any (m : PartM) (w : World) (hr : Rd w w.heap.size 3 portC m.pA m.ports) (hm : m.ports.length ≤ 1048576) :
    Calls Try.prog 28 #[partV m] w (GivesPart w m) := by
  obtain ⟨code, slot, pA, pc, ports, price, grams⟩ := m
  simp only at hr hm
  unfold partV
  simp only
  go_enter Try.func28, Try.ntmps28
  go_wp2_with fail
  refine (toPortS_any pA pc ports _ ?_ hm).mono ?_
  · exact (hr.below (bthen (bthen (balloc _ _) (balloc _ _)) (balloc _ _))).more (by simp; omega)
  rintro e w1 ⟨A1, rfl, hf1, hb1⟩
  obtain ⟨hc, hf⟩ := bcell hb1
  have hb01 := bthen (bthen (bthen (balloc w _) (balloc _ _)) (balloc _ _)) hb1
  have hF := Lib.hid (hf1.mono (by first | (simp; done) | (simp; omega) : w.heap.size + 3 ≤ _) (Nat.le_refl _)); clear hf1
  have hs1 := hb1.size
  simp at hs1
  clear hb1
  have HB := Lib.hid hb01; clear hb01
  have y0 : w1.cell? ⟨w.heap.size + 1, 0, none⟩ = some (.string ⟨#[]⟩) := by go_simp
  have y1 : w1.cell? ⟨w.heap.size + 1, 1, none⟩ = some (.int .i64 0) := by go_simp
  have y2 : w1.cell? ⟨w.heap.size + 1, 2, none⟩ = some (.slice none 0 0) := by go_simp
  have y3 : w1.cell? ⟨w.heap.size + 1, 3, none⟩ = some (.int .i64 0) := by go_simp
  have y4 : w1.cell? ⟨w.heap.size + 1, 4, none⟩ = some (.int .i64 0) := by go_simp
  go_wp2_with fail
  refine bodyPost_ret (v := .agg #[.string code, .int .i64 slot, .slice A1 ports.length ports.length, .int .i64 price, .int .i64 grams]) ?_ rfl ?_
  · simp [results, Try.results28, go_sem, cell_set, y0, y1, y2, y3, y4]
  · have ho := fun (u0 u1 u2 u3 u4 u5 u6 u7 : Value) => ((((((((Only.refl w.heap.size (w.heap.size + 3) w1).trans (Only.setCell (p := ⟨w.heap.size + 1 + 1, 2, none⟩) ⟨by first | (simp; done) | (simp; omega), by first | (simp; done) | (simp; omega)⟩ u0)).trans (Only.setCell (p := ⟨w.heap.size + 1 + 1, 3, none⟩) ⟨by first | (simp; done) | (simp; omega), by first | (simp; done) | (simp; omega)⟩ u1)).trans (Only.setCell (p := ⟨w.heap.size + 1 + 1, 4, none⟩) ⟨by first | (simp; done) | (simp; omega), by first | (simp; done) | (simp; omega)⟩ u2)).trans (Only.setCell (p := ⟨w.heap.size + 1, 0, none⟩) ⟨by first | (simp; done) | (simp; omega), by first | (simp; done) | (simp; omega)⟩ u3)).trans (Only.setCell (p := ⟨w.heap.size + 1, 1, none⟩) ⟨by first | (simp; done) | (simp; omega), by first | (simp; done) | (simp; omega)⟩ u4)).trans (Only.setCell (p := ⟨w.heap.size + 1, 2, none⟩) ⟨by first | (simp; done) | (simp; omega), by first | (simp; done) | (simp; omega)⟩ u5)).trans (Only.setCell (p := ⟨w.heap.size + 1, 3, none⟩) ⟨by first | (simp; done) | (simp; omega), by first | (simp; done) | (simp; omega)⟩ u6)).trans (Only.setCell (p := ⟨w.heap.size + 1, 4, none⟩) ⟨by first | (simp; done) | (simp; omega), by first | (simp; done) | (simp; omega)⟩ u7)
    have ho := ho (.slice A1 ports.length ports.length) (.int .i64 price) (.int .i64 grams) (.string code) (.int .i64 slot) (.slice A1 ports.length ports.length) (.int .i64 price) (.int .i64 grams)
    exact ⟨A1, rfl, (hF.out.only ho (Nat.le_refl _) (Or.inr (Nat.le_refl _))).mono (by omega) ho.size, HB.out.trans (ho.below (Nat.le_refl _) (by omega))⟩

/-- A slice of parts of the call's own: the row, and each part's ports in another block. -/
def FlatP (w : World) (lo hi : Nat) (A : Option Addr) (ms : List PartM) : Prop :=
  Flat w lo hi 59 5 partC A ms ∧ ∀ m ∈ ms, Flat w lo hi 96 3 portC m.pA m.ports ∧ m.ports.length ≤ m.pc ∧ (0 < m.ports.length → ∀ g o, A = some ⟨g, o, none⟩ → Apart m.pA g)
theorem FlatP.rd {w : World} {lo hi : Nat} {A : Option Addr} {ms : List PartM} (h : FlatP w lo hi A ms) : RdP w hi A ms := ⟨h.1.rd, fun m hm => ⟨(h.2 m hm).1.rd, (h.2 m hm).2.1⟩⟩
theorem FlatP.only {w w' : World} {lo hi a b : Nat} {A : Option Addr} {ms : List PartM} (h : FlatP w lo hi A ms) (hb : Only a b w w') (hs : hi ≤ w.heap.size) (hd : hi ≤ a ∨ b ≤ lo) : FlatP w' lo hi A ms :=
  ⟨h.1.only hb hs hd, fun m hm => ⟨(h.2 m hm).1.only hb hs hd, (h.2 m hm).2⟩⟩
theorem FlatP.below {w w' : World} {B lo hi : Nat} {A : Option Addr} {ms : List PartM} (h : FlatP w lo hi A ms) (hb : Below B w w') (hB : hi ≤ B) : FlatP w' lo hi A ms :=
  ⟨h.1.below hb hB, fun m hm => ⟨(h.2 m hm).1.below hb hB, (h.2 m hm).2⟩⟩
/-- What a function gives that makes a new slice of these parts. -/
def GivesParts (w : World) (ms : List PartM) (e : Ending) (w' : World) : Prop :=
  ∃ A' ms', e = .returned (.slice A' ms.length ms.length) ∧ ms'.map PartM.val = ms.map PartM.val ∧ FlatP w' w.heap.size w'.heap.size A' ms' ∧ Below w.heap.size w w'
theorem infoPart : (Try.prog.info? 59).map (fun i => (i.zero, i.size, i.bytes)) = some (some (.agg #[.string ⟨#[]⟩, .int .i64 0, .slice none 0 0, .int .i64 0, .int .i64 0]), 5, 64) := by kernel_rfl

set_option maxHeartbeats 1000000 in
theorem toPartS_any (A : Option Addr) (c : Nat) (ms : List PartM) (w : World) (hr : RdP w w.heap.size A ms) (hm : ms.length ≤ 1048576) (hp : ∀ m ∈ ms, m.ports.length ≤ 1048576) :
    Calls Try.prog 8 #[.slice A ms.length c] w (GivesParts w ms) := by
  have hmk := made Try.underlying29 infoPart ms.length hm (by omega)
  have Hr := Lib.hid hr; clear hr
  have Hp := Lib.hid hp; clear hp
  go_enter Try.func8, Try.ntmps8
  go_wp2_with fail
  clear hmk
  go_loopw [4] (fun i wr => ∃ ns : List PartM, ns.length ≤ ms.length ∧ i = .int .i64 ns.length ∧ ns.map PartM.val = (ms.take ns.length).map PartM.val ∧ Row wr w.heap.size 59 (ms.length * 5) ∧ Rd wr (w.heap.size + 1) 5 partC (some ⟨w.heap.size, 0, none⟩) ns ∧ (∀ m ∈ ns, Flat wr (w.heap.size + 1) wr.heap.size 96 3 portC m.pA m.ports ∧ m.ports.length ≤ m.pc) ∧ Below w.heap.size w wr) (fun i _ => ms.length - (intOf i).toNat)
  case atStart => exact ⟨[], Nat.zero_le _, rfl, rfl, Row.made _ _, Rd.nothing (ys := []), fun m hm => by simp at hm, balloc _ _⟩
  case round =>
    obtain ⟨ns, hk, rfl, hval, hrow, hout, hin, hb⟩ := hrel
    have Hv := Lib.hid hval; clear hval
    have Hi := Lib.hid hin; clear hin
    by_cases hlt : ns.length < ms.length
    · have hx : ms[ns.length]? = some ms[ns.length] := List.getElem?_eq_getElem hlt
      obtain ⟨b, o, rfl, hB, h0, h1, h2, h3, h4⟩ := (Hr.out.1.below hb).at5 hx rfl
      generalize ms[ns.length] = t at h0 h1 h2 h3 h4 hx
      have Hx := Lib.hid hx; clear hx
      have hpin := ((Hr.out.2 t (List.mem_of_getElem? Hx.out)).below hb).more hb.size
      have hpl := Hp.out t (List.mem_of_getElem? Hx.out)
      go_wp2_with fail
      refine (toPart_any t _ hpin.1 hpl).mono ?_
      rintro e w1 ⟨A1, rfl, hf1, hb1⟩
      clear h0 h1 h2 h3 h4
      have hrow1 := hrow.next hb1
      obtain ⟨z0, hz0⟩ := hrow1.cell (j := ns.length * 5) (by omega)
      have hf0' := hrow1.frozen (ns.length * 5)
      obtain ⟨z1, hz1⟩ := hrow1.cell (j := ns.length * 5 + 1) (by omega)
      have hf1' := hrow1.frozen (ns.length * 5 + 1)
      obtain ⟨z2, hz2⟩ := hrow1.cell (j := ns.length * 5 + 2) (by omega)
      have hf2' := hrow1.frozen (ns.length * 5 + 2)
      obtain ⟨z3, hz3⟩ := hrow1.cell (j := ns.length * 5 + 3) (by omega)
      have hf3' := hrow1.frozen (ns.length * 5 + 3)
      obtain ⟨z4, hz4⟩ := hrow1.cell (j := ns.length * 5 + 4) (by omega)
      have hf4' := hrow1.frozen (ns.length * 5 + 4)
      have hlt0 := hrow.lt
      have hs1 := hb1.size
      have hb1' := Lib.hid hb1; clear hb1
      have hf1' := Lib.hid hf1; clear hf1
      dsimp only [partV]
      go_wp2_with fail
      have hput := (Only.refl w.heap.size (w.heap.size + 1) w1).trans (putAll_only (g := w.heap.size) (by omega) (by omega) (partC { t with pA := A1, pc := t.ports.length }) w1 (ns.length * 5))
      refine ⟨⟨ns ++ [{ t with pA := A1, pc := t.ports.length }], by simp; omega, by simp, ?_, putAll_row (partC { t with pA := A1, pc := t.ports.length }) _ _ hrow1, ?_, ?_, (bthen hb hb1'.out).trans (putAll_below (Nat.le_refl _) (partC { t with pA := A1, pc := t.ports.length }) _ _)⟩, by simp [intOf]; omega⟩
      · rw [List.length_append, List.length_singleton, List.take_succ_eq_append_getElem hlt, List.map_append, List.map_append, Hv.out]
        have := Hx.out
        rw [List.getElem?_eq_getElem hlt] at this
        rw [Option.some.inj this]
        rfl
      · have h3 := Rd.put (k := ns.length) (m := ms.length * 5) (x := { t with pA := A1, pc := t.ports.length }) (ys := ns ++ [{ t with pA := A1, pc := t.ports.length }]) (by rw [List.take_left]; exact hout.below (hb1'.out.mono (by omega))) (by omega) hrow1 (by omega) partC_len (by simp)
        rw [List.take_of_length_le (by simp)] at h3
        exact h3
      · intro m hm'
        rcases List.mem_append.1 hm' with h | h
        · obtain ⟨h1, h2⟩ := Hi.out m h
          exact ⟨((h1.below hb1'.out (Nat.le_refl _)).only hput (by omega) (Or.inr (Nat.le_refl _))).mono (Nat.le_refl _) (Nat.le_trans hs1 hput.size), h2⟩
        · simp at h
          subst h
          exact ⟨(hf1'.out.only hput (Nat.le_refl _) (Or.inr (by omega))).mono (by omega) hput.size, Nat.le_refl _⟩
    · have e : ns.length = ms.length := by omega
      have hgs := hrow.lt
      have Hd : Hid (GivesParts w ms (.returned (.slice (some ⟨w.heap.size, 0, none⟩) ms.length ms.length)) wr) := ⟨_, ns, rfl, by rw [Hv.out, e, List.take_length], ⟨Flat.of_rd (hout.more hgs) (Nat.le_refl _) hgs hrow (by omega), fun m hm' => ⟨(Hi.out m hm').1.mono (by omega) (Nat.le_refl _), (Hi.out m hm').2, fun hpos g o eg => by
        obtain ⟨g', _, e', h1, _⟩ := (Hi.out m hm').1 hpos
        simp only [Option.some.injEq, Addr.mk.injEq] at eg
        obtain ⟨rfl, _, _⟩ := eg
        intro b o e2
        rw [e'] at e2
        simp only [Option.some.injEq, Addr.mk.injEq] at e2
        obtain ⟨rfl, _, _⟩ := e2
        omega⟩⟩, hb⟩
      clear hout hrow hb Hr Hi Hv
      go_wp2_with fail
      go_ret
      exact Hd.out

end Go.Proofs.Ytioblfbhjkkgoaa
