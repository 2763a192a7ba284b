/- DERIVED. Slices of parts of the call's own: the row, and each part's ports in a block of its own. -/
import Derived.Test.YtncjgebgghpigaaOwn2
import Derived.Test.YtncjgebgghpigaaKitPart
namespace Go.Proofs.Ytncjgebgghpigaa
set_option maxRecDepth 100000
open Go.RowKit

structure Inner (w : World) (lo hi : Nat) (A : Option Addr) (ms : List PartM) : Prop where
  flat : ∀ m ∈ ms, Flat w lo hi 62 3 portC m.pA m.ports
  cap : ∀ m ∈ ms, m.ports.length ≤ m.pc
  far : ∀ m ∈ ms, 0 < m.ports.length → ∀ g, m.pA = some ⟨g, 0, none⟩ → Apart A g
  apart : ms.Pairwise fun m n => 0 < m.ports.length → 0 < n.ports.length → m.pA ≠ n.pA
theorem Inner.nil {w : World} {lo hi : Nat} {A : Option Addr} : Inner w lo hi A [] := ⟨fun _ hm => absurd hm (by simp), fun _ hm => absurd hm (by simp), fun _ hm => absurd hm (by simp), List.Pairwise.nil⟩
theorem Inner.below {w w' : World} {lo hi hi' B : Nat} {A : Option Addr} {ms : List PartM} (h : Inner w lo hi A ms) (hb : Below B w w') (hB : hi ≤ B) (hh : hi ≤ hi') : Inner w' lo hi' A ms :=
  ⟨fun m hm => ((h.flat m hm).below hb hB).mono (Nat.le_refl _) hh, h.cap, h.far, h.apart⟩
/-- One part more: its ports are new, the row has grown. -/
theorem Inner.append {wr w2 w3 w4 : World} {base n c : Nat} {A A2 : Option Addr} {ms : List PartM} {m : PartM} {o : Obj} (h : Inner wr base wr.heap.size A ms)
    (hA : ∀ k, (Value.slice A n c).ownBlock = some k → base ≤ k ∧ k < wr.heap.size) (hbase : base ≤ wr.heap.size) (hb2 : Below wr.heap.size wr w2) (fm : Flat w2 wr.heap.size w2.heap.size 62 3 portC m.pA m.ports) (hpc : m.ports.length ≤ m.pc)
    (e3 : w3 = w2.alloc o) (hfar : ∀ g, g < w2.heap.size + 1 → Apart A g → Apart A2 g ∧ w4.heap[g]? = w3.heap[g]?) (hs4 : w3.heap.size ≤ w4.heap.size) : Inner w4 base w4.heap.size A2 (ms ++ [m]) := by
  have hs2 := hb2.size
  have hs3 : w3.heap.size = w2.heap.size + 1 := by rw [e3]; simp
  have h32 : ∀ g, g < w2.heap.size → w3.heap[g]? = w2.heap[g]? := fun g hg => by rw [e3]; exact (balloc w2 o).block g hg
  -- the block of an older part
  have hold : ∀ m' ∈ ms, ∀ g, m'.pA = some ⟨g, 0, none⟩ → 0 < m'.ports.length → g < wr.heap.size := fun m' hm' g e hp => by
    obtain ⟨g', _, e', _, h2, _⟩ := h.flat m' hm' hp
    rw [e] at e'
    simp only [Option.some.injEq, Addr.mk.injEq] at e'
    omega
  have hnew : ∀ g, m.pA = some ⟨g, 0, none⟩ → 0 < m.ports.length → wr.heap.size ≤ g ∧ g < w2.heap.size := fun g e hp => by
    obtain ⟨g', _, e', h1, h2, _⟩ := fm hp
    rw [e] at e'
    simp only [Option.some.injEq, Addr.mk.injEq] at e'
    omega
  have hAn : ∀ g, wr.heap.size ≤ g → Apart A g := fun g hg b o' e => by
    subst e
    have := hA b rfl
    omega
  refine ⟨fun m' hm' => ?_, fun m' hm' => ?_, fun m' hm' hp g e => ?_, ?_⟩
  · rcases List.mem_append.1 hm' with h1 | h1
    · refine ((h.flat m' h1).keepAt fun g e hp => ?_).mono (Nat.le_refl _) (by omega)
      have hg := hold m' h1 g e hp
      rw [(hfar g (by omega) (h.far m' h1 hp g e)).2, h32 g (by omega), hb2.block g hg]
    · simp only [List.mem_singleton] at h1
      subst h1
      refine (fm.keepAt fun g e hp => ?_).mono hbase (by omega)
      have hg := hnew g e hp
      rw [(hfar g (by omega) (hAn g hg.1)).2, h32 g hg.2]
  · rcases List.mem_append.1 hm' with h1 | h1
    · exact h.cap m' h1
    · simp only [List.mem_singleton] at h1
      subst h1
      exact hpc
  · rcases List.mem_append.1 hm' with h1 | h1
    · have hg := hold m' h1 g e hp
      exact (hfar g (by omega) (h.far m' h1 hp g e)).1
    · simp only [List.mem_singleton] at h1
      subst h1
      have hg := hnew g e hp
      exact (hfar g (by omega) (hAn g hg.1)).1
  · rw [List.pairwise_append]
    refine ⟨h.apart, List.pairwise_singleton _ _, fun m1 h1 m2 h2 hp1 hp2 => ?_⟩
    simp only [List.mem_singleton] at h2
    subst h2
    obtain ⟨g1, _, e1, _⟩ := h.flat m1 h1 hp1
    obtain ⟨g2, _, e2, _⟩ := fm hp2
    have a1 := hold m1 h1 g1 e1 hp1
    have a2 := hnew g2 e2 hp2
    rw [e1, e2]
    intro e
    simp only [Option.some.injEq, Addr.mk.injEq] at e
    omega

/-- A row of parts between lo and hi, each part's ports apart. -/
def FlatQ (w : World) (lo hi : Nat) (A : Option Addr) (ms : List PartM) : Prop := Flat w lo hi 27 5 partC A ms ∧ Inner w lo hi A ms
/-- The same, by its values. -/
def FlatR (w : World) (lo hi : Nat) (A : Option Addr) (vs : List PartT) : Prop := ∃ ms : List PartM, ms.map PartM.val = vs ∧ FlatQ w lo hi A ms
section
variable {w w' : World} {lo hi lo' hi' : Nat} {A : Option Addr} {ms : List PartM} {vs : List PartT}
theorem FlatQ.only {a b : Nat} (h : FlatQ w lo hi A ms) (hb : Only a b w w') (hs : hi ≤ w.heap.size) (hd : hi ≤ a ∨ b ≤ lo) : FlatQ w' lo hi A ms :=
  ⟨h.1.only hb hs hd, fun m hm => (h.2.flat m hm).only hb hs hd, h.2.cap, h.2.far, h.2.apart⟩
theorem FlatQ.below {B : Nat} (h : FlatQ w lo hi A ms) (hb : Below B w w') (hB : hi ≤ B) : FlatQ w' lo hi A ms := ⟨h.1.below hb hB, h.2.below hb hB (Nat.le_refl _)⟩
theorem FlatQ.mono (h : FlatQ w lo hi A ms) (h1 : lo' ≤ lo) (h2 : hi ≤ hi') : FlatQ w lo' hi' A ms := ⟨h.1.mono h1 h2, fun m hm => (h.2.flat m hm).mono h1 h2, h.2.cap, h.2.far, h.2.apart⟩
theorem FlatQ.rd (h : FlatQ w lo hi A ms) : RdP w hi A ms := ⟨h.1.rd, fun m hm => ⟨(h.2.flat m hm).rd, h.2.cap m hm⟩⟩
theorem FlatR.only {a b : Nat} (h : FlatR w lo hi A vs) (hb : Only a b w w') (hs : hi ≤ w.heap.size) (hd : hi ≤ a ∨ b ≤ lo) : FlatR w' lo hi A vs := by
  obtain ⟨ms, e, h⟩ := h
  exact ⟨ms, e, h.only hb hs hd⟩
theorem FlatR.below {B : Nat} (h : FlatR w lo hi A vs) (hb : Below B w w') (hB : hi ≤ B) : FlatR w' lo hi A vs := by
  obtain ⟨ms, e, h⟩ := h
  exact ⟨ms, e, h.below hb hB⟩
theorem FlatR.mono (h : FlatR w lo hi A vs) (h1 : lo' ≤ lo) (h2 : hi ≤ hi') : FlatR w lo' hi' A vs := by
  obtain ⟨ms, e, h⟩ := h
  exact ⟨ms, e, h.mono h1 h2⟩
theorem FlatR.rd (h : FlatR w lo hi A vs) : RdV w hi A vs := by
  obtain ⟨ms, e, h⟩ := h
  exact ⟨ms, e, h.rd⟩
theorem FlatR.nil : FlatR w lo hi A [] := ⟨[], rfl, fun h => absurd h (by simp), Inner.nil⟩
end
/-- What a function gives that makes parts by append, with a code. -/
def GivesParts2 (w : World) (r : List PartT × Int) (e : Ending) (w' : World) : Prop :=
  ∃ A c, e = .returned (.tuple #[.slice A r.1.length c, .int .i64 r.2]) ∧ FlatR w' w.heap.size w'.heap.size A r.1 ∧ r.1.length ≤ c ∧ Below w.heap.size w w'
end Go.Proofs.Ytncjgebgghpigaa
