/- DERIVED. The search of the program: where all slots are filled. -/
import Derived.Test.YtioblfbhjkkgoaaRunSt
import Derived.Deep.RegionHeld3
import Derived.Deep.RegionLaw
namespace Go.Proofs.Ytioblfbhjkkgoaa
set_option maxRecDepth 100000
open Go.RowKit

def RunPost (W : World) (C : SrC) (bs : List ByteArray) (st : St (List ByteArray)) (e : Ending) (w' : World) : Prop := e = .returned (.tuple #[]) ∧ ∃ (FA : Option Addr) (fc : Nat) (ms : List RowM), RunSt W w' C bs st FA fc ms
/-- What is claimed of the search from the k-th slot on. -/
def RunOk (W : World) (C : SrC) (ss' : List Int) (k : Nat) : Prop := ∀ (w : World) (bs : List ByteArray) (st : St (List ByteArray)) (FA : Option Addr) (fc : Nat) (ms : List RowM), RunSt W w C bs st FA fc ms → Codes C.vs bs → (∀ s ∈ ss', bs[s.toNat]? = some noText) → stopped C.single st = false → 0 ≤ st.nodes → st.nodes + (traceS C.vs C.js ss' bs).length ≤ 131071 → ms.length + (traceS C.vs C.js ss' bs).length ≤ 131071 →
  Calls Try.prog 55 #[.pointer (some ⟨C.b, 0, none⟩), .int .i64 (k : Int)] w (RunPost W C bs (runs C.most C.single st (traceS C.vs C.js ss' bs)))
theorem tC_one1 (y : ByteArray) : ∀ u ∈ tC y, u.oneCell' = true := fun u hu => by
  simp only [tC, List.mem_singleton] at hu
  subst hu
  rfl

set_option maxHeartbeats 2000000 in
theorem run_nil (W : World) (C : SrC) (k : Nat) (hk : k = C.ss.length) (hv16 : C.ss.length ≤ 8) : RunOk W C [] k := by
  intro w bs st FA fc ms h hC _ hst hn0 hn1 hm1
  subst hk
  rw [traceS_nil] at hm1 ⊢
  have hev : runs C.most C.single st [some bs] = ⟨st.nodes, st.full, st.found ++ [bs]⟩ := by
    rw [runs_cons, runs_nil, evt_find hst]
  rw [hev]
  have hlen : 0 < bs.length := by have := hC.len; omega
  have hl8 : bs.length ≤ 8 := by have := hC.len; omega
  have hml : ms.length ≤ 131071 := by omega
  clear hC hst hn1 hm1 hev
  have HR := Lib.hid h
  have q2 := h.c2
  have q3 := h.c3
  have q8 := h.c8
  have hbl := h.row.lt
  have hWl := h.low.size
  have hb0 := h.bW
  have n4 : ¬ C.b = w.heap.size := by omega
  have n4' : ¬ w.heap.size = C.b := by omega
  clear h
  go_enter Try.func55, Try.ntmps55
  go_wp2_with fail
  go_region_law (first
    | (refine step_append_slice (by rfl) _ _ _ (by rfl) w.heap.size 9 (.string ⟨#[]⟩) 1 16 Try.underlying44 infoString rfl (by omega) (by omega) tC [] bs (some ⟨w.heap.size, 0, none⟩) 0 (by rfl) (Own.made (w := w.drew) _ (Nat.le_refl _) rfl) (some ⟨C.bb, 0, none⟩) C.bc _ (by rfl) (HR.out.next ((bdrew w).alloc (Nat.le_refl _) (.cells #[] 9))).build.rd tC_len1 tC_one1 (by simp; omega) (by simp <;> omega) ?_; intro A2 c2 w2 hown2 hb2 hfar2; have hB2 : Below w.heap.size w w2 := (((bdrew w).alloc (Nat.le_refl _) (.cells #[] 9)).trans hb2); have HR2 := Lib.hid (HR.out.next hB2); have z8 := HR2.out.c8; have z3 := HR2.out.c3; have HF2 := Lib.hid (hown2.flat tC_len1); have HC2 := Lib.hid hown2.cap; have s2 := hB2.size; have l6 := HR2.out.row.lt; have n6 : ¬ C.b = w2.heap.size := (by omega); have n6' : ¬ w2.heap.size = C.b := (by omega); clear hown2 hb2 hfar2)
    | (have HR3 := Lib.hid (HR2.out.next (balloc w2 (.cells #[.slice A2 bs.length c2] 44))); refine step_append_el (by rfl) _ _ _ (by rfl) W.heap.size 44 (.slice none 0 0) 1 24 Try.underlying54 infoRow rfl (by omega) (by omega) rowC ms ⟨A2, c2, bs⟩ FA fc (by rfl) HR3.out.found w2.heap.size _ (by first | rfl | (simp; rfl)) (by simp) rowC_len (one_cell (by go_simp)) rowC_one (by omega) (by simp; omega) ?_; intro A4 c4 w4 hown4 hb4 hfar4; have eb := HR3.out.row.farType HR3.out.found (by decide) hfar4; have y8 := (World.cell?_of_block (a := ⟨C.b, 8, none⟩) eb).trans HR3.out.c8; have f8 : w4.frozen? ⟨C.b, 8, none⟩ = false := (HR3.out.row.kept eb).frozen 8; have HG := Lib.hid (HR.out.grow hB2 HF2.out HC2.out hlen (balloc w2 (.cells #[.slice A2 bs.length c2] 44)) hown4 hb4 hfar4); clear hown4 hb4 hfar4 eb))
  all_goals
    go_wp2_with fail
    refine bodyPost_ret (v := .tuple #[]) (by simp [results, Try.results55, go_sem]) rfl ?_
    exact ⟨rfl, A4, c4, _, HG.out⟩

/-- What the states behind the first i parts are, as far as the walk asks. -/
structure GF (C : SrC) (bs : List ByteArray) (s : Nat) (rest : List Int) (st F : St (List ByteArray)) (G : Nat → St (List ByteArray)) : Prop where
  zero : G 0 = st
  no : ∀ (i : Nat) (x : PartT), C.vs[i]? = some x → x.slot ≠ (s : Int) → G (i + 1) = G i
  all : ∀ i, C.vs.length ≤ i → G i = F
  stop : ∀ (i : Nat) (x : PartT), C.vs[i]? = some x → x.slot = (s : Int) → stopped C.single (looked C.most (G i)) = true → F = looked C.most (G i)
  bad : ∀ (i : Nat) (x : PartT), C.vs[i]? = some x → x.slot = (s : Int) → stopped C.single (looked C.most (G i)) = false → anyBroken C.vs C.js (bs.set s x.code) = true → G (i + 1) = ⟨(G i).nodes + 1, false, (G i).found⟩
  good : ∀ (i : Nat) (x : PartT), C.vs[i]? = some x → x.slot = (s : Int) → stopped C.single (looked C.most (G i)) = false → anyBroken C.vs C.js (bs.set s x.code) = false → G (i + 1) = runs C.most C.single ⟨(G i).nodes + 1, false, (G i).found⟩ (traceS C.vs C.js rest (bs.set s x.code))
  bd : ∀ i, 0 ≤ (G i).nodes ∧ (G i).nodes ≤ 131071 ∧ (G i).found.length ≤ 131071
  room : ∀ (i : Nat) (x : PartT), C.vs[i]? = some x → x.slot = (s : Int) → anyBroken C.vs C.js (bs.set s x.code) = false → (G i).nodes + 1 + (traceS C.vs C.js rest (bs.set s x.code)).length ≤ 131071 ∧ (G i).found.length + (traceS C.vs C.js rest (bs.set s x.code)).length ≤ 131071
theorem gf (C : SrC) (bs : List ByteArray) (s : Nat) (rest : List Int) (st : St (List ByteArray)) (h0 : 0 ≤ st.nodes) (h1 : st.nodes + (ways (stepS C.vs C.js) rest (stepS C.vs C.js (s : Int) bs)).length ≤ 131071) (h2 : st.found.length + (ways (stepS C.vs C.js) rest (stepS C.vs C.js (s : Int) bs)).length ≤ 131071) :
    GF C bs s rest st (runs C.most C.single st (ways (stepS C.vs C.js) rest (stepS C.vs C.js (s : Int) bs))) (fun i => runs C.most C.single st (ways (stepS C.vs C.js) rest (stepTo C.vs C.js (s : Int) bs i))) := by
  have hle : ∀ i, (ways (stepS C.vs C.js) rest (stepTo C.vs C.js (s : Int) bs i)).length ≤ (ways (stepS C.vs C.js) rest (stepS C.vs C.js (s : Int) bs)).length := fun i => by
    have : stepTo C.vs C.js (s : Int) bs i <+: stepS C.vs C.js (s : Int) bs := ⟨((C.vs.drop i).filter fun x => decide (x.slot = (s : Int))).map (wayOf C.vs C.js (s : Int) bs), by
      unfold stepTo stepS
      generalize wayOf C.vs C.js (s : Int) bs = g
      rw [← List.map_append, ← List.filter_append, List.take_append_drop]⟩
    obtain ⟨l, hl⟩ := this
    rw [← hl, ways_append, List.length_append]
    omega
  have hyes : ∀ (i : Nat) (x : PartT), C.vs[i]? = some x → x.slot = (s : Int) → ways (stepS C.vs C.js) rest (stepTo C.vs C.js (s : Int) bs (i + 1)) = ways (stepS C.vs C.js) rest (stepTo C.vs C.js (s : Int) bs i) ++ ways (stepS C.vs C.js) rest [wayOf C.vs C.js (s : Int) bs x] := fun i x hx hs => by
    rw [stepTo_yes hx hs, ways_append]
  have hgood : ∀ (x : PartT), anyBroken C.vs C.js (bs.set s x.code) = false → ways (stepS C.vs C.js) rest [wayOf C.vs C.js (s : Int) bs x] = none :: traceS C.vs C.js rest (bs.set s x.code) := fun x hb => by
    have : wayOf C.vs C.js (s : Int) bs x = some (bs.set s x.code) := by
      unfold wayOf setT
      rw [if_neg (by rw [Int.toNat_natCast, hb]; simp)]
      rfl
    rw [this, ways_some]
    rfl
  have hbad : ∀ (x : PartT), anyBroken C.vs C.js (bs.set s x.code) = true → ways (stepS C.vs C.js) rest [wayOf C.vs C.js (s : Int) bs x] = [none] := fun x hb => by
    have : wayOf C.vs C.js (s : Int) bs x = none := by
      unfold wayOf setT
      rw [if_pos (by rw [Int.toNat_natCast, hb])]
    rw [this, ways_none]
  have hbd := fun i => runs_nodes_le C.most C.single (ways (stepS C.vs C.js) rest (stepTo C.vs C.js (s : Int) bs i)) st
  have hfd := fun i => runs_found_le C.most C.single (ways (stepS C.vs C.js) rest (stepTo C.vs C.js (s : Int) bs i)) st
  refine ⟨?_, fun i x hx hs => ?_, fun i hi => ?_, fun i x hx hs hst => ?_, fun i x hx hs hst hb => ?_, fun i x hx hs hst hb => ?_, fun i => ?_, fun i x hx hs hb => ?_⟩
  · simp only [stepTo_zero, ways_nil, runs_nil]
  · simp only [stepTo_no hx hs]
  · simp only [stepTo_all hi]
  · obtain ⟨os, ho⟩ := stepS_split (js := C.js) (bs := bs) hx hs
    try simp only
    rw [ho, ways_append, runs_append]
    obtain ⟨l, hl⟩ := ways_cons (stepS C.vs C.js) rest (wayOf C.vs C.js (s : Int) bs x) os
    rw [hl]
    exact runs_stop hst l
  · try simp only
    rw [hyes i x hx hs, hbad x hb, runs_append, runs_cons, runs_nil]
    exact evt_node hst
  · try simp only
    rw [hyes i x hx hs, hgood x hb, runs_append, runs_cons, evt_node hst]
  · have := hbd i
    have := hfd i
    have := hle i
    try simp only
    omega
  · have a1 := hbd i
    have a2 := hfd i
    have a3 := hle (i + 1)
    rw [hyes i x hx hs, hgood x hb, List.length_append, List.length_cons] at a3
    try simp only
    omega
theorem set_back {bs : List ByteArray} {s : Nat} {v : ByteArray} (h : bs[s]? = some noText) : (bs.set s v).set s noText = bs := by
  rw [List.set_set]
  obtain ⟨hl, e⟩ := List.getElem?_eq_some_iff.1 h
  rw [← e]
  exact List.set_getElem_self hl
end Go.Proofs.Ytioblfbhjkkgoaa
