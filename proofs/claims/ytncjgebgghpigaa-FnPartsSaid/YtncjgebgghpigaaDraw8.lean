/- DERIVED. Parts drawn: what is kept while their list grows. -/
import Derived.Test.YtncjgebgghpigaaDraw7
import Derived.Test.YtncjgebgghpigaaInner
import Derived.Test.YtncjgebgghpigaaDrop
namespace Go.Proofs.Ytncjgebgghpigaa
set_option maxRecDepth 100000
open Go.RowKit

theorem Inner.only {w w' : World} {lo hi hi' a b : Nat} {A : Option Addr} {ms : List PartM} (h : Inner w lo hi A ms) (hb : Only a b w w') (hs : hi ≤ w.heap.size) (hd : hi ≤ a ∨ b ≤ lo) (hh : hi ≤ hi') : Inner w' lo hi' A ms :=
  ⟨fun m hm => ((h.flat m hm).only hb hs hd).mono (Nat.le_refl _) hh, h.cap, h.far, h.apart⟩
/-- One part more: its ports are new, the row has grown; a block below the base may have turned. -/
theorem Inner.appendO {wr w2 w3 w4 : World} {base n c b : Nat} {A A2 : Option Addr} {ms : List PartM} {m : PartM} {o : Obj} (h : Inner wr base wr.heap.size A ms)
    (hA : ∀ k, (Value.slice A n c).ownBlock = some k → base ≤ k ∧ k < wr.heap.size) (hbase : base ≤ wr.heap.size) (hb2 : Only b (b + 1) wr w2) (hbb : b < base) (fm : Flat w2 wr.heap.size w2.heap.size 62 3 portC m.pA m.ports) (hpc : m.ports.length ≤ m.pc)
    (e3 : w3 = w2.alloc o) (hfar : ∀ g, g < w2.heap.size + 1 → Apart A g → Apart A2 g ∧ w4.heap[g]? = w3.heap[g]?) (hs4 : w3.heap.size ≤ w4.heap.size) : Inner w4 base w4.heap.size A2 (ms ++ [m]) := by
  have hs2 := hb2.size
  have hs3 : w3.heap.size = w2.heap.size + 1 := by rw [e3]; simp
  have h32 : ∀ g, g < w2.heap.size → w3.heap[g]? = w2.heap[g]? := fun g hg => by rw [e3]; exact (balloc w2 o).block g hg
  have hold : ∀ m' ∈ ms, ∀ g, m'.pA = some ⟨g, 0, none⟩ → 0 < m'.ports.length → base ≤ g ∧ g < wr.heap.size := fun m' hm' g e hp => by
    obtain ⟨g', _, e', h1, h2, _⟩ := h.flat m' hm' hp
    rw [e] at e'
    simp only [Option.some.injEq, Addr.mk.injEq] at e'
    omega
  have hnew : ∀ g, m.pA = some ⟨g, 0, none⟩ → 0 < m.ports.length → wr.heap.size ≤ g ∧ g < w2.heap.size := fun g e hp => by
    obtain ⟨g', _, e', h1, h2, _⟩ := fm hp
    rw [e] at e'
    simp only [Option.some.injEq, Addr.mk.injEq] at e'
    omega
  have hAn : ∀ g, wr.heap.size ≤ g → Apart A g := fun g hg b o' e => by
    subst e
    have := hA b rfl
    omega
  refine ⟨fun m' hm' => ?_, fun m' hm' => ?_, fun m' hm' hp g e => ?_, ?_⟩
  · rcases List.mem_append.1 hm' with h1 | h1
    · refine ((h.flat m' h1).keepAt fun g e hp => ?_).mono (Nat.le_refl _) (by omega)
      have hg := hold m' h1 g e hp
      rw [(hfar g (by omega) (h.far m' h1 hp g e)).2, h32 g (by omega), hb2.block g hg.2 (by omega)]
    · simp only [List.mem_singleton] at h1
      subst h1
      refine (fm.keepAt fun g e hp => ?_).mono hbase (by omega)
      have hg := hnew g e hp
      rw [(hfar g (by omega) (hAn g hg.1)).2, h32 g hg.2]
  · rcases List.mem_append.1 hm' with h1 | h1
    · exact h.cap m' h1
    · simp only [List.mem_singleton] at h1
      subst h1
      exact hpc
  · rcases List.mem_append.1 hm' with h1 | h1
    · have hg := hold m' h1 g e hp
      exact (hfar g (by omega) (h.far m' h1 hp g e)).1
    · simp only [List.mem_singleton] at h1
      subst h1
      have hg := hnew g e hp
      exact (hfar g (by omega) (hAn g hg.1)).1
  · rw [List.pairwise_append]
    refine ⟨h.apart, List.pairwise_singleton _ _, fun m1 h1 m2 h2 hp1 hp2 => ?_⟩
    simp only [List.mem_singleton] at h2
    subst h2
    obtain ⟨g1, _, e1, _⟩ := h.flat m1 h1 hp1
    obtain ⟨g2, _, e2, _⟩ := fm hp2
    have a1 := hold m1 h1 g1 e1 hp1
    have a2 := hnew g2 e2 hp2
    rw [e1, e2]
    intro e
    simp only [Option.some.injEq, Addr.mk.injEq] at e
    omega

def SmallM (m : PartM) : Prop := m.code.size ≤ 64 ∧ m.ports.length ≤ 64
def PartT.at_ (x : PartT) (pA : Option Addr) (pc : Nat) : PartM := ⟨x.code, x.slot, pA, pc, x.ports, x.price, x.grams⟩
/-- A list of parts that grows, a table of texts in block nt, a source in hand. -/
structure ListSt (V w : World) (b : Nat) (A : Option Addr) (c : Nat) (xs : List Int) (nt : Nat) (tb : Array Value) (LA : Option Addr) (lc : Nat) (ms : List PartM) : Prop where
  feed : Feed w b A c xs
  own : Own w V.heap.size 27 5 partC LA lc ms
  inner : Inner w V.heap.size w.heap.size LA ms
  old : Only b (b + 1) V w
  lt : b < V.heap.size
  small : ∀ m ∈ ms, SmallM m
  tab : w.heap[nt]? = some (.cells tb 9 (0, 0))
  ntV : V.heap.size ≤ nt
section
variable {V w w' : World} {b c lc nt : Nat} {A LA : Option Addr} {xs : List Int} {tb : Array Value} {ms : List PartM}
theorem ListSt.turn (h : ListSt V w b A c xs nt tb LA lc ms) (hF : Feed w' b A c xs) (hO : Only b (b + 1) w w') : ListSt V w' b A c xs nt tb LA lc ms := by
  have := h.lt
  have := h.ntV
  have hnt := (Array.getElem?_eq_some_iff.1 h.tab).1
  exact ⟨hF, h.own.only hO (by omega), h.inner.only hO (Nat.le_refl _) (Or.inr (by omega)) hO.size, h.old.trans hO, h.lt, h.small, (hO.block nt hnt (by omega)).trans h.tab, h.ntV⟩
theorem ListSt.next (h : ListSt V w b A c xs nt tb LA lc ms) (hb : Below w.heap.size w w') : ListSt V w' b A c xs nt tb LA lc ms := h.turn (h.feed.next hb) (Only.of_below hb)
theorem ListSt.cell (h : ListSt V w b A c xs nt tb LA lc ms) {k : Nat} {v : Value} (hv : tb[k]? = some v) : w.cell? ⟨nt, k, none⟩ = some v := by
  rw [cell_of_row w nt k tb 9 (0, 0) h.tab]
  exact hv
/-- A part more. -/
theorem ListSt.grow {w2 w4 : World} {x : PartT} {pA A2 : Option Addr} {pc c2 : Nat} {o : Obj} (h : ListSt V w b A c xs nt tb LA lc ms) (hF2 : Feed w2 b A c xs) (hO2 : Only b (b + 1) w w2) (fm : Flat w2 w.heap.size w2.heap.size 62 3 portC pA x.ports) (hpc : x.ports.length ≤ pc) (h1 : x.code.size ≤ 64) (h2 : x.ports.length ≤ 64)
    (hown : Own w4 V.heap.size 27 5 partC A2 c2 (ms ++ [x.at_ pA pc])) (hb4 : Below V.heap.size (w2.alloc o) w4) (hfar : ∀ g, g < w2.heap.size + 1 → Apart LA g → Apart A2 g ∧ w4.heap[g]? = (w2.alloc o).heap[g]?) :
    ListSt V w4 b A c xs nt tb A2 c2 (ms ++ [x.at_ pA pc]) := by
  have hlt := h.lt
  have hVs := h.old.size
  have hs2 := hO2.size
  have hb24 : Below V.heap.size w2 w4 := ((balloc w2 o).mono (by omega)).trans hb4
  have ht2 := h.turn hF2 hO2
  have hrowt : Row w2 nt 9 tb.size := ⟨tb, ht2.tab, rfl⟩
  have hap : Apart LA nt := ht2.own.apartType hrowt (by decide)
  have hnt2 := hrowt.lt
  have hsz : (w2.alloc o).heap.size = w2.heap.size + 1 := by simp
  refine ⟨hF2.under hb24 hlt, hown, h.inner.appendO (h.own.lt) hVs hO2 hlt fm hpc rfl hfar hb4.size, ?_, hlt, fun m hm => ?_, ?_, h.ntV⟩
  · have ho2 := ht2.old
    exact ⟨hb24.os.trans ho2.os, hb24.tape.trans ho2.tape, hb24.output.trans ho2.output, Nat.le_trans ho2.size hb24.size, fun k hk hn => (hb24.block k hk).trans (ho2.block k hk hn)⟩
  · rcases List.mem_append.1 hm with hm | hm
    · exact h.small m hm
    · simp only [List.mem_singleton] at hm
      subst hm
      exact ⟨h1, h2⟩
  · rw [(hfar nt (by omega) hap).2, (balloc w2 o).block nt hnt2]
    exact ht2.tab
end
/-- Parts that were drawn: any parts of small size. -/
def DrawnParts (w : World) (b : Nat) (A : Option Addr) (c : Nat) (xs : List Int) (e : Ending) (w' : World) : Prop := ∃ (LA : Option Addr) (lc : Nat) (vs : List PartT), e = .returned (.slice LA vs.length lc) ∧ FlatR w' w.heap.size w'.heap.size LA vs ∧ vs.length ≤ lc ∧ vs.length ≤ 64 ∧ (∀ x ∈ vs, x.code.size ≤ 64 ∧ x.ports.length ≤ 64) ∧ Feed w' b A c xs ∧ Only b (b + 1) w w'
theorem partC_len5 (m : PartM) : (partC m).length = 5 := rfl
theorem ListSt.drawn {V w : World} {b c lc nt : Nat} {A LA : Option Addr} {xs : List Int} {tb : Array Value} {ms : List PartM} (h : ListSt V w b A c xs nt tb LA lc ms) (hl : ms.length ≤ 64) : DrawnParts V b A c xs (.returned (.slice LA ms.length lc)) w :=
  ⟨LA, lc, ms.map PartM.val, by simp, ⟨ms, rfl, h.own.flat partC_len5, h.inner⟩, by simpa using h.own.cap, by simpa using hl, fun x hx => by
    obtain ⟨m, hm, rfl⟩ := List.mem_map.1 hx
    exact h.small m hm, h.feed, h.old⟩
end Go.Proofs.Ytncjgebgghpigaa
