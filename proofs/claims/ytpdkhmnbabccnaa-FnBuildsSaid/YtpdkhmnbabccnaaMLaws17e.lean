/- DERIVED. The law on builds: what is put is found, what is taken can be put back, and prices and grams add up. By program (laws17e.py). -/
import Derived.Test.YtpdkhmnbabccnaaDraw4
import Derived.Test.YtpdkhmnbabccnaaOwn3
import Derived.Test.YtpdkhmnbabccnaaDraw7
import Derived.Test.YtpdkhmnbabccnaaInner
import Derived.Test.YtpdkhmnbabccnaaDrop
import Derived.Test.YtpdkhmnbabccnaaFlJoint
import Derived.Test.YtpdkhmnbabccnaaKitPart
import Derived.Test.YtpdkhmnbabccnaaPutO
import Derived.Test.YtpdkhmnbabccnaaRunA
import Derived.Test.YtpdkhmnbabccnaaPut
import Derived.Test.YtpdkhmnbabccnaaSums
import Derived.Test.YtpdkhmnbabccnaaSl
import Derived.Test.YtpdkhmnbabccnaaDraw
import Derived.Test.YtpdkhmnbabccnaaOpen
import Derived.Test.YtpdkhmnbabccnaaHead
import Derived.Test.YtpdkhmnbabccnaaFind
import Derived.Deep.RegionLaw
import Derived.Lib.SmallJoins
import Derived.Deep.Slices
import Derived.Deep.Fields
import Derived.ChangeMaps5
import Derived.Carry

namespace Go.Proofs.Ytpdkhmnbabccnaa
set_option maxRecDepth 100000
open Go.RowKit

theorem Own.setAt {α : Type} {w : World} {base sz c lo hi : Nat} {E : TypeId} {f : α → List Value} {A : Option Addr} {xs : List α} {w' : World} (h : Own w base E sz f A c xs) (ho : Only lo hi w w') (hh : hi ≤ base) : Own w' base E sz f A c xs := h.only ho hh
/-- A list that grows, a source in hand; below the base nothing but the source turns. -/
structure GrowSt {α : Type} (V w : World) (b : Nat) (A : Option Addr) (c : Nat) (xs : List Int) (E : TypeId) (sz : Nat) (f : α → List Value) (LA : Option Addr) (lc : Nat) (ms : List α) : Prop where
  feed : Feed w b A c xs
  own : Own w V.heap.size E sz f LA lc ms
  old : Only b (b + 1) V w
  lt : b < V.heap.size
section
variable {α : Type} {V w w' : World} {b c lc sz : Nat} {A LA : Option Addr} {xs : List Int} {E : TypeId} {f : α → List Value} {ms : List α}
theorem GrowSt.made (hF : Feed w b A c xs) : GrowSt w (w.alloc (.cells #[] E)) b A c xs E sz f (some ⟨w.heap.size, 0, none⟩) 0 ([] : List α) :=
  ⟨hF.next (balloc _ _), Own.made _ (Nat.le_refl _) rfl, Only.alloc _, hF.src.lt⟩
theorem GrowSt.turn (h : GrowSt V w b A c xs E sz f LA lc ms) (hF : Feed w' b A c xs) (hO : Only b (b + 1) w w') : GrowSt V w' b A c xs E sz f LA lc ms := by
  have := h.lt
  exact ⟨hF, h.own.only hO (by omega), h.old.trans hO, h.lt⟩
theorem GrowSt.next (h : GrowSt V w b A c xs E sz f LA lc ms) (hb : Below w.heap.size w w') : GrowSt V w' b A c xs E sz f LA lc ms := h.turn (h.feed.next hb) (Only.of_below hb)
/-- One more. -/
theorem GrowSt.grow {w4 : World} {m : α} {A2 : Option Addr} {c2 : Nat} {o : Obj} (h : GrowSt V w b A c xs E sz f LA lc ms) (hown : Own w4 V.heap.size E sz f A2 c2 (ms ++ [m])) (hb4 : Below V.heap.size (w.alloc o) w4) : GrowSt V w4 b A c xs E sz f A2 c2 (ms ++ [m]) := by
  have hlt := h.lt
  have hVs := h.old.size
  have hb24 : Below V.heap.size w w4 := ((balloc w o).mono hVs).trans hb4
  have ho2 := h.old
  exact ⟨h.feed.under hb24 hlt, hown, ⟨hb24.os.trans ho2.os, hb24.tape.trans ho2.tape, hb24.output.trans ho2.output, Nat.le_trans ho2.size hb24.size, fun k hk hn => (hb24.block k hk).trans (ho2.block k hk hn)⟩, hlt⟩
end
/-- A list drawn: any list of at most m elements. -/
def DrawnList {α : Type} (m : Nat) (E : TypeId) (sz : Nat) (f : α → List Value) (G : α → Prop) (w : World) (b : Nat) (A : Option Addr) (c : Nat) (xs : List Int) (e : Ending) (w' : World) : Prop :=
  ∃ (LA : Option Addr) (lc : Nat) (ms : List α), e = .returned (.slice LA ms.length lc) ∧ Flat w' w.heap.size w'.heap.size E sz f LA ms ∧ ms.length ≤ lc ∧ ms.length ≤ m ∧ (∀ x ∈ ms, G x) ∧ Feed w' b A c xs ∧ Only b (b + 1) w w'
theorem GrowSt.drawn {α : Type} {V w : World} {b c lc sz m : Nat} {A LA : Option Addr} {xs : List Int} {E : TypeId} {f : α → List Value} {G : α → Prop} {ms : List α} (h : GrowSt V w b A c xs E sz f LA lc ms) (hf : ∀ x, (f x).length = sz) (hm : ms.length ≤ m) (hG : ∀ x ∈ ms, G x) : DrawnList m E sz f G V b A c xs (.returned (.slice LA ms.length lc)) w :=
  ⟨LA, lc, ms, rfl, h.own.flat hf, h.own.cap, hm, hG, h.feed, h.old⟩
theorem mem_snoc {α : Type} {G : α → Prop} {ms : List α} {x : α} (h : ∀ y ∈ ms, G y) (hx : G x) : ∀ y ∈ ms ++ [x], G y := fun y hy => by
  rcases List.mem_append.1 hy with hy | hy
  · exact h y hy
  · simp only [List.mem_singleton] at hy
    subst hy
    exact hx
def lenOf : Value → Nat
  | .slice _ n _ => n
  | _ => 0

end Go.Proofs.Ytpdkhmnbabccnaa

namespace Go.Proofs.Ytpdkhmnbabccnaa
set_option maxRecDepth 100000
open Go.RowKit

theorem Inner.only {w w' : World} {lo hi hi' a b : Nat} {A : Option Addr} {ms : List PartM} (h : Inner w lo hi A ms) (hb : Only a b w w') (hs : hi ≤ w.heap.size) (hd : hi ≤ a ∨ b ≤ lo) (hh : hi ≤ hi') : Inner w' lo hi' A ms :=
  ⟨fun m hm => ((h.flat m hm).only hb hs hd).mono (Nat.le_refl _) hh, h.cap, h.far, h.apart⟩
/-- One part more: its ports are new, the row has grown; a block below the base may have turned. -/
theorem Inner.appendO {wr w2 w3 w4 : World} {base n c b : Nat} {A A2 : Option Addr} {ms : List PartM} {m : PartM} {o : Obj} (h : Inner wr base wr.heap.size A ms)
    (hA : ∀ k, (Value.slice A n c).ownBlock = some k → base ≤ k ∧ k < wr.heap.size) (hbase : base ≤ wr.heap.size) (hb2 : Only b (b + 1) wr w2) (hbb : b < base) (fm : Flat w2 wr.heap.size w2.heap.size 32 3 portC m.pA m.ports) (hpc : m.ports.length ≤ m.pc)
    (e3 : w3 = w2.alloc o) (hfar : ∀ g, g < w2.heap.size + 1 → Apart A g → Apart A2 g ∧ w4.heap[g]? = w3.heap[g]?) (hs4 : w3.heap.size ≤ w4.heap.size) : Inner w4 base w4.heap.size A2 (ms ++ [m]) := by
  have hs2 := hb2.size
  have hs3 : w3.heap.size = w2.heap.size + 1 := by rw [e3]; simp
  have h32 : ∀ g, g < w2.heap.size → w3.heap[g]? = w2.heap[g]? := fun g hg => by rw [e3]; exact (balloc w2 o).block g hg
  have hold : ∀ m' ∈ ms, ∀ g, m'.pA = some ⟨g, 0, none⟩ → 0 < m'.ports.length → base ≤ g ∧ g < wr.heap.size := fun m' hm' g e hp => by
    obtain ⟨g', _, e', h1, h2, _⟩ := h.flat m' hm' hp
    rw [e] at e'
    simp only [Option.some.injEq, Addr.mk.injEq] at e'
    omega
  have hnew : ∀ g, m.pA = some ⟨g, 0, none⟩ → 0 < m.ports.length → wr.heap.size ≤ g ∧ g < w2.heap.size := fun g e hp => by
    obtain ⟨g', _, e', h1, h2, _⟩ := fm hp
    rw [e] at e'
    simp only [Option.some.injEq, Addr.mk.injEq] at e'
    omega
  have hAn : ∀ g, wr.heap.size ≤ g → Apart A g := fun g hg b o' e => by
    subst e
    have := hA b rfl
    omega
  refine ⟨fun m' hm' => ?_, fun m' hm' => ?_, fun m' hm' hp g e => ?_, ?_⟩
  · rcases List.mem_append.1 hm' with h1 | h1
    · refine ((h.flat m' h1).keepAt fun g e hp => ?_).mono (Nat.le_refl _) (by omega)
      have hg := hold m' h1 g e hp
      rw [(hfar g (by omega) (h.far m' h1 hp g e)).2, h32 g (by omega), hb2.block g hg.2 (by omega)]
    · simp only [List.mem_singleton] at h1
      subst h1
      refine (fm.keepAt fun g e hp => ?_).mono hbase (by omega)
      have hg := hnew g e hp
      rw [(hfar g (by omega) (hAn g hg.1)).2, h32 g hg.2]
  · rcases List.mem_append.1 hm' with h1 | h1
    · exact h.cap m' h1
    · simp only [List.mem_singleton] at h1
      subst h1
      exact hpc
  · rcases List.mem_append.1 hm' with h1 | h1
    · have hg := hold m' h1 g e hp
      exact (hfar g (by omega) (h.far m' h1 hp g e)).1
    · simp only [List.mem_singleton] at h1
      subst h1
      have hg := hnew g e hp
      exact (hfar g (by omega) (hAn g hg.1)).1
  · rw [List.pairwise_append]
    refine ⟨h.apart, List.pairwise_singleton _ _, fun m1 h1 m2 h2 hp1 hp2 => ?_⟩
    simp only [List.mem_singleton] at h2
    subst h2
    obtain ⟨g1, _, e1, _⟩ := h.flat m1 h1 hp1
    obtain ⟨g2, _, e2, _⟩ := fm hp2
    have a1 := hold m1 h1 g1 e1 hp1
    have a2 := hnew g2 e2 hp2
    rw [e1, e2]
    intro e
    simp only [Option.some.injEq, Addr.mk.injEq] at e
    omega

def SmallM (m : PartM) : Prop := m.code.size ≤ 64 ∧ m.ports.length ≤ 64
def PartT.at_ (x : PartT) (pA : Option Addr) (pc : Nat) : PartM := ⟨x.code, x.slot, pA, pc, x.ports, x.price, x.grams⟩
/-- A list of parts that grows, a table of texts in block nt, a source in hand. -/
structure ListSt (V w : World) (b : Nat) (A : Option Addr) (c : Nat) (xs : List Int) (nt : Nat) (tb : Array Value) (LA : Option Addr) (lc : Nat) (ms : List PartM) : Prop where
  feed : Feed w b A c xs
  own : Own w V.heap.size 26 5 partC LA lc ms
  inner : Inner w V.heap.size w.heap.size LA ms
  old : Only b (b + 1) V w
  lt : b < V.heap.size
  small : ∀ m ∈ ms, SmallM m
  tab : w.heap[nt]? = some (.cells tb 9 (0, 0))
  ntV : V.heap.size ≤ nt
section
variable {V w w' : World} {b c lc nt : Nat} {A LA : Option Addr} {xs : List Int} {tb : Array Value} {ms : List PartM}
theorem ListSt.turn (h : ListSt V w b A c xs nt tb LA lc ms) (hF : Feed w' b A c xs) (hO : Only b (b + 1) w w') : ListSt V w' b A c xs nt tb LA lc ms := by
  have := h.lt
  have := h.ntV
  have hnt := (Array.getElem?_eq_some_iff.1 h.tab).1
  exact ⟨hF, h.own.only hO (by omega), h.inner.only hO (Nat.le_refl _) (Or.inr (by omega)) hO.size, h.old.trans hO, h.lt, h.small, (hO.block nt hnt (by omega)).trans h.tab, h.ntV⟩
theorem ListSt.next (h : ListSt V w b A c xs nt tb LA lc ms) (hb : Below w.heap.size w w') : ListSt V w' b A c xs nt tb LA lc ms := h.turn (h.feed.next hb) (Only.of_below hb)
theorem ListSt.cell (h : ListSt V w b A c xs nt tb LA lc ms) {k : Nat} {v : Value} (hv : tb[k]? = some v) : w.cell? ⟨nt, k, none⟩ = some v := by
  rw [cell_of_row w nt k tb 9 (0, 0) h.tab]
  exact hv
/-- A part more. -/
theorem ListSt.grow {w2 w4 : World} {x : PartT} {pA A2 : Option Addr} {pc c2 : Nat} {o : Obj} (h : ListSt V w b A c xs nt tb LA lc ms) (hF2 : Feed w2 b A c xs) (hO2 : Only b (b + 1) w w2) (fm : Flat w2 w.heap.size w2.heap.size 32 3 portC pA x.ports) (hpc : x.ports.length ≤ pc) (h1 : x.code.size ≤ 64) (h2 : x.ports.length ≤ 64)
    (hown : Own w4 V.heap.size 26 5 partC A2 c2 (ms ++ [x.at_ pA pc])) (hb4 : Below V.heap.size (w2.alloc o) w4) (hfar : ∀ g, g < w2.heap.size + 1 → Apart LA g → Apart A2 g ∧ w4.heap[g]? = (w2.alloc o).heap[g]?) :
    ListSt V w4 b A c xs nt tb A2 c2 (ms ++ [x.at_ pA pc]) := by
  have hlt := h.lt
  have hVs := h.old.size
  have hs2 := hO2.size
  have hb24 : Below V.heap.size w2 w4 := ((balloc w2 o).mono (by omega)).trans hb4
  have ht2 := h.turn hF2 hO2
  have hrowt : Row w2 nt 9 tb.size := ⟨tb, ht2.tab, rfl⟩
  have hap : Apart LA nt := ht2.own.apartType hrowt (by decide)
  have hnt2 := hrowt.lt
  have hsz : (w2.alloc o).heap.size = w2.heap.size + 1 := by simp
  refine ⟨hF2.under hb24 hlt, hown, h.inner.appendO (h.own.lt) hVs hO2 hlt fm hpc rfl hfar hb4.size, ?_, hlt, fun m hm => ?_, ?_, h.ntV⟩
  · have ho2 := ht2.old
    exact ⟨hb24.os.trans ho2.os, hb24.tape.trans ho2.tape, hb24.output.trans ho2.output, Nat.le_trans ho2.size hb24.size, fun k hk hn => (hb24.block k hk).trans (ho2.block k hk hn)⟩
  · rcases List.mem_append.1 hm with hm | hm
    · exact h.small m hm
    · simp only [List.mem_singleton] at hm
      subst hm
      exact ⟨h1, h2⟩
  · rw [(hfar nt (by omega) hap).2, (balloc w2 o).block nt hnt2]
    exact ht2.tab
end
/-- Parts that were drawn: any parts of small size. -/
def DrawnParts (w : World) (b : Nat) (A : Option Addr) (c : Nat) (xs : List Int) (e : Ending) (w' : World) : Prop := ∃ (LA : Option Addr) (lc : Nat) (vs : List PartT), e = .returned (.slice LA vs.length lc) ∧ FlatR w' w.heap.size w'.heap.size LA vs ∧ vs.length ≤ lc ∧ vs.length ≤ 64 ∧ (∀ x ∈ vs, x.code.size ≤ 64 ∧ x.ports.length ≤ 64) ∧ Feed w' b A c xs ∧ Only b (b + 1) w w'
theorem partC_len5 (m : PartM) : (partC m).length = 5 := rfl
theorem ListSt.drawn {V w : World} {b c lc nt : Nat} {A LA : Option Addr} {xs : List Int} {tb : Array Value} {ms : List PartM} (h : ListSt V w b A c xs nt tb LA lc ms) (hl : ms.length ≤ 64) : DrawnParts V b A c xs (.returned (.slice LA ms.length lc)) w :=
  ⟨LA, lc, ms.map PartM.val, by simp, ⟨ms, rfl, h.own.flat partC_len5, h.inner⟩, by simpa using h.own.cap, by simpa using hl, fun x hx => by
    obtain ⟨m, hm, rfl⟩ := List.mem_map.1 hx
    exact h.small m hm, h.feed, h.old⟩

end Go.Proofs.Ytpdkhmnbabccnaa

namespace Go.Proofs.Ytpdkhmnbabccnaa
set_option maxRecDepth 100000
open Go.RowKit

def outLen : Value → Nat
  | .slice _ n _ => n
  | _ => 0
set_option maxHeartbeats 2000000 in
theorem l16List_any (A : Option Addr) (c b : Nat) (xs : List Int) (w : World) (hF : Feed w b A c xs) :
    Calls Try.prog 126 #[.pointer (some ⟨b, 0, none⟩)] w (DrawnParts w b A c xs) := by
  have HN : Hid (∀ (v : World) (n : Int), n < 20000 → Feed v b A c xs → Calls Try.prog 111 #[.pointer (some ⟨b, 0, none⟩), .int .i64 n] v (Drawn v b A c xs n)) := fun v n hn h => l01Next_any A c b xs n v h.src h.rd h.byte h.small (by omega)
  have HG : Hid (∀ (v : World) (code : ByteArray), code.size ≤ 64 → Feed v b A c xs → Calls Try.prog 172 #[.pointer (some ⟨b, 0, none⟩), .string code] v (DrawnPart 3 v b A c xs)) := fun v code h1 h => l16Good_any A c b xs code h1 v h
  have hlb := hF.src.lt
  have hT : ∀ k, k < 8 → ∃ t : ByteArray, t.size ≤ 64 ∧ (names.map Value.string).toArray[k]? = some (.string t) := fun k hk => by
    have hk' : k < names.length := hk
    refine ⟨names[k], ?_, by simp [hk']⟩
    have : ∀ t ∈ names, t.size ≤ 64 := by decide
    exact this _ (List.getElem_mem _)
  have HT := Lib.hid hT; clear hT
  have HF := Lib.hid hF; clear hF
  go_enter Try.func126, Try.ntmps126
  go_wp2_with fail
  refine (l16Names_any _).mono ?_
  rintro e w1 ⟨rfl, rfl⟩
  have HL : Hid (ListSt w ((w.alloc (.cells #[] 26)).alloc (.cells (names.map Value.string).toArray 9)) b A c xs (w.heap.size + 1) (names.map Value.string).toArray (some ⟨w.heap.size, 0, none⟩) 0 []) := by
    have h1 := balloc w (.cells #[] 26)
    have h2 := balloc (w.alloc (.cells #[] 26)) (.cells (names.map Value.string).toArray 9)
    have e1 : (w.alloc (.cells #[] 26)).heap.size = w.heap.size + 1 := by simp
    refine ⟨(HF.out.next h1).next h2, (Own.made _ (Nat.le_refl _) rfl).keep h2, Inner.nil, Only.of_below (bthen h1 h2), hlb, fun m hm => absurd hm (by simp), ?_, by omega⟩
    rw [← e1]
    exact heap_alloc_new _ _
  have e1 : (w.alloc (.cells #[] 26)).heap.size = w.heap.size + 1 := by simp
  rw [e1]
  clear e1
  generalize (w.alloc (.cells #[] 26)).alloc (.cells (names.map Value.string).toArray 9) = W at HL ⊢
  generalize (names.map Value.string).toArray = tb at HT HL
  generalize hnt : w.heap.size + 1 = nt at HL ⊢
  go_wp2_with fail
  go_loopw [3, 5] (fun out i wr => ∃ (k : Nat) (LA : Option Addr) (lc : Nat) (ms : List PartM), k ≤ 8 ∧ ms.length ≤ k ∧ i = .int .i64 k ∧ out = .slice LA ms.length lc ∧ ListSt w wr b A c xs nt tb LA lc ms) (fun _ i _ => 8 - (intOf i).toNat)
  case atStart => exact ⟨0, _, _, [], by omega, Nat.zero_le _, rfl, rfl, HL.out⟩
  case round =>
    obtain ⟨k, LA, lc, ms, hk, hml, rfl, rfl, hL⟩ := hrel
    have HL1 := Lib.hid hL; clear hL
    by_cases hlt : k < 8
    · go_wp2_with fail
      refine (HN.out wr 3 (by omega) HL1.out.feed).mono ?_
      rintro e w2 ⟨v2, rfl, a0, a1, _, hS, hO⟩
      have HL2 := Lib.hid (HL1.out.turn (HL1.out.feed.turn hS hO) hO)
      clear hS hO HL1
      by_cases hv : 0 < v2
      · obtain ⟨t, ht, htb⟩ := HT.out k hlt
        have q := HL2.out.cell htb
        clear htb
        go_wp2_with fail
        refine (HG.out w2 t ht HL2.out.feed).mono ?_
        rintro e w3 ⟨x, pA, pc, rfl, x1, x2, ox, hF3, hO3⟩
        have hpc := ox.cap; have Fx := Lib.hid (ox.flat portC_len3); clear ox
        have HF3 := Lib.hid hF3; clear hF3
        have HO3 := Lib.hid hO3; clear hO3
        have s2 := HL2.out.old.size
        have s3 := HO3.out.size
        have HL3 := Lib.hid (HL2.out.turn HF3.out HO3.out)
        dsimp only [argV]
        go_wp2_with (at_builtin; refine wpList_append_far rfl _ _ _ rfl w.heap.size 26 (.agg #[.string ⟨#[]⟩, .int .i64 0, .slice none 0 0, .int .i64 0, .int .i64 0]) 5 64 Try.underlying41 infoPart rfl (by omega) (by omega) partC ms ⟨x.code, x.slot, pA, pc, x.ports, x.price, x.grams⟩ LA lc rfl (HL3.out.own.keep (balloc _ _)) w3.heap.size _ rfl rfl (five_cells (by go_simp) (by go_simp) (by go_simp) (by go_simp) (by go_simp)) (partC_one _) (by omega) (by simp; omega) ?_)
        intro A2 c2 w4 hown4 hb4 hfar
        have HL4 := Lib.hid (HL2.out.grow HF3.out HO3.out Fx.out hpc x1 (Nat.le_trans x2 (by omega)) hown4 hb4 hfar)
        clear hown4 hb4 hfar
        go_wp2_with fail
        exact ⟨⟨k + 1, A2, c2, ms ++ [x.at_ pA pc], by omega, by simp; omega, by go_num, by simp, HL4.out⟩, by simp [intOf]; omega⟩
      · go_wp2_with fail
        exact ⟨⟨k + 1, LA, lc, ms, by omega, by omega, by go_num, rfl, HL2.out⟩, by simp [intOf]; omega⟩
    · go_wp2_with fail
      refine (HN.out wr 40 (by omega) HL1.out.feed).mono ?_
      rintro e w2 ⟨v2, rfl, a0, a1, _, hS, hO⟩
      have HL2 := Lib.hid (HL1.out.turn (HL1.out.feed.turn hS hO) hO)
      clear hS hO HL1
      by_cases hv : v2 = 0
      · subst hv
        go_wp2_with fail
        refine (HG.out w2 ⟨#[97, 110, 99, 104, 111, 114]⟩ (by decide) HL2.out.feed).mono ?_
        rintro e w3 ⟨x, pA, pc, rfl, x1, x2, ox, hF3, hO3⟩
        have hpc := ox.cap; have Fx := Lib.hid (ox.flat portC_len3); clear ox
        have HF3 := Lib.hid hF3; clear hF3
        have HO3 := Lib.hid hO3; clear hO3
        have s2 := HL2.out.old.size
        have s3 := HO3.out.size
        have HL3 := Lib.hid (HL2.out.turn HF3.out HO3.out)
        dsimp only [argV]
        go_wp2_with (at_builtin; refine wpList_append_far rfl _ _ _ rfl w.heap.size 26 (.agg #[.string ⟨#[]⟩, .int .i64 0, .slice none 0 0, .int .i64 0, .int .i64 0]) 5 64 Try.underlying41 infoPart rfl (by omega) (by omega) partC ms ⟨x.code, x.slot, pA, pc, x.ports, x.price, x.grams⟩ LA lc rfl (HL3.out.own.keep (balloc _ _)) w3.heap.size _ rfl rfl (five_cells (by go_simp) (by go_simp) (by go_simp) (by go_simp) (by go_simp)) (partC_one _) (by omega) (by simp; omega) ?_)
        intro A2 c2 w4 hown4 hb4 hfar
        have HL4 := Lib.hid (HL2.out.grow HF3.out HO3.out Fx.out hpc x1 (Nat.le_trans x2 (by omega)) hown4 hb4 hfar)
        clear hown4 hb4 hfar
        go_wp2_with fail
        go_ret
        have := HL4.out.drawn (by simp; omega)
        simpa using this
      · have hvb : (v2 == 0) = false := by simp [hv]
        by_cases hv1 : v2 = 1
        · subst hv1
          go_wp2_with fail
          go_loopw [3, 6] (fun out i wr => ∃ (k2 : Nat) (MA : Option Addr) (mc : Nat) (ns : List PartM), k2 ≤ ns.length ∧ ns.length ≤ 17 ∧ i = .int .i64 k2 ∧ out = .slice MA ns.length mc ∧ ListSt w wr b A c xs nt tb MA mc ns) (fun out _ _ => 17 - outLen out)
          case atStart => exact ⟨0, LA, lc, ms, Nat.zero_le _, by omega, rfl, rfl, HL2.out⟩
          case round =>
            obtain ⟨k2, MA, mc, ns, hk2, hnl, rfl, rfl, hM⟩ := hrel
            have HM1 := Lib.hid hM; clear hM
            go_wp2_with fail
            refine (HN.out _ 2 (by omega) HM1.out.feed).mono ?_
            rintro e w4 ⟨v4, rfl, c0, c1, _, hS, hO⟩
            have HM2 := Lib.hid (HM1.out.turn (HM1.out.feed.turn hS hO) hO)
            have c1 := c1 (by omega)
            clear hS hO HM1
            by_cases hlt2 : (ns.length : Int) < 16 + v4
            · have hk17 : k2 ≤ 16 := by omega
              have hnl2 : ns.length ≤ 16 := by omega
              go_wp2_with fail
              have hsz : ∀ t : ByteArray, (⟨#[120]⟩ ++ t.extract k2 (k2 + 1) : ByteArray).size ≤ 64 := fun t => by
                rw [ByteArray.size_append, ByteArray.size_extract]
                have : (⟨#[120]⟩ : ByteArray).size = 1 := rfl
                omega
              refine (HG.out w4 _ (hsz _) HM2.out.feed).mono ?_
              rintro e w5 ⟨x, pA, pc, rfl, x1, x2, ox, hF5, hO5⟩
              have hpc := ox.cap; have Fx := Lib.hid (ox.flat portC_len3); clear ox
              have HF5 := Lib.hid hF5; clear hF5
              have HO5 := Lib.hid hO5; clear hO5
              have s4 := HM2.out.old.size
              have s5 := HO5.out.size
              have HM3 := Lib.hid (HM2.out.turn HF5.out HO5.out)
              dsimp only [argV]
              go_wp2_with (at_builtin; refine wpList_append_far rfl _ _ _ rfl w.heap.size 26 (.agg #[.string ⟨#[]⟩, .int .i64 0, .slice none 0 0, .int .i64 0, .int .i64 0]) 5 64 Try.underlying41 infoPart rfl (by omega) (by omega) partC ns ⟨x.code, x.slot, pA, pc, x.ports, x.price, x.grams⟩ MA mc rfl (HM3.out.own.keep (balloc _ _)) w5.heap.size _ rfl rfl (five_cells (by go_simp) (by go_simp) (by go_simp) (by go_simp) (by go_simp)) (partC_one _) (by omega) (by simp; omega) ?_)
              intro A6 c6 w6 hown6 hb6 hfar6
              have HM4 := Lib.hid (HM2.out.grow HF5.out HO5.out Fx.out hpc x1 (Nat.le_trans x2 (by omega)) hown6 hb6 hfar6)
              clear hown6 hb6 hfar6
              go_wp2_with fail
              exact ⟨⟨k2 + 1, A6, c6, ns ++ [x.at_ pA pc], by simp; omega, by simp; omega, by go_num, by simp, HM4.out⟩, by simp [outLen]; omega⟩
            · go_wp2_with fail
              go_ret
              exact HM2.out.drawn (by omega)
        · have hvb1 : (v2 == 1) = false := by simp [hv1]
          clear hv hv1
          go_wp2_with fail
          go_ret
          exact HL2.out.drawn (by omega)

end Go.Proofs.Ytpdkhmnbabccnaa

namespace Go.Proofs.Ytpdkhmnbabccnaa
set_option maxRecDepth 100000
open Go.RowKit

def DrawnJoints : World → Nat → Option Addr → Nat → List Int → Ending → World → Prop := DrawnList 64 83 3 jointC (fun _ => True)
set_option maxHeartbeats 2000000 in
theorem l17DrawJoints_any (A : Option Addr) (c b : Nat) (xs : List Int) (w : World) (hF : Feed w b A c xs) :
    Calls Try.prog 146 #[.pointer (some ⟨b, 0, none⟩)] w (DrawnJoints w b A c xs) := by
  have HN : Hid (∀ (v : World) (n : Int), n < 20000 → Feed v b A c xs → Calls Try.prog 111 #[.pointer (some ⟨b, 0, none⟩), .int .i64 n] v (Drawn v b A c xs n)) := fun v n hn h => l01Next_any A c b xs n v h.src h.rd h.byte h.small (by omega)
  have HL : Hid (GrowSt w (w.alloc (.cells #[] 83)) b A c xs 83 3 jointC (some ⟨w.heap.size, 0, none⟩) 0 []) := GrowSt.made hF
  have hjl : ∀ j, (jointC j).length = 3 := fun j => rfl
  have hj1 : ∀ j, ∀ u ∈ jointC j, u.oneCell' = true := fun j u hu => by
    simp only [jointC, List.mem_cons, List.not_mem_nil, or_false] at hu
    rcases hu with rfl | rfl | rfl <;> rfl
  have HJL := Lib.hid hjl; clear hjl
  have HJ1 := Lib.hid hj1; clear hj1
  clear hF
  go_enter Try.func146, Try.ntmps146
  go_wp2_with fail
  generalize w.alloc (.cells #[] 83) = W at HL ⊢
  refine (HN.out W 4 (by omega) HL.out.feed).mono ?_
  rintro e w1 ⟨v, rfl, v0, v1, _, hS, hO⟩
  have HL1 := Lib.hid (HL.out.turn (HL.out.feed.turn hS hO) hO)
  have v1 := v1 (by omega)
  clear hS hO HL
  go_wp2_with fail
  go_loopw [3, 4] (fun out i wr => ∃ (q : Int) (LA : Option Addr) (lc : Nat) (ms : List (Int × Int × Int)), 0 ≤ q ∧ (ms.length : Int) + q ≤ 4 ∧ i = .int .i64 q ∧ out = .slice LA ms.length lc ∧ GrowSt w wr b A c xs 83 3 jointC LA lc ms) (fun _ i _ => (intOf i).toNat)
  case atStart => exact ⟨v, _, _, [], v0, by simp; omega, rfl, rfl, HL1.out⟩
  case round =>
    obtain ⟨q, LA, lc, ms, q0, q1, rfl, rfl, hL⟩ := hrel
    have HL1 := Lib.hid hL; clear hL
    by_cases hq : 0 < q
    · go_wp2_with fail
      refine (HN.out wr 2 (by omega) HL1.out.feed).mono ?_
      rintro e w2 ⟨a, rfl, a0, a1, _, hS, hO⟩
      have HL2 := Lib.hid (HL1.out.turn (HL1.out.feed.turn hS hO) hO)
      have a1 := a1 (by omega)
      clear hS hO HL1
      go_wp2_with fail
      refine (HN.out w2 (2 - a) (by omega) HL2.out.feed).mono ?_
      rintro e w3 ⟨d, rfl, d0, d1, d2, hS, hO⟩
      have HL3 := Lib.hid (HL2.out.turn (HL2.out.feed.turn hS hO) hO)
      have hd : d < 3 := by
        by_cases h : 1 < 2 - a
        · have := d1 h; omega
        · have := d2 (by omega); omega
      clear hS hO HL2 d1 d2
      go_wp2_with fail
      refine (HN.out w3 3 (by omega) HL3.out.feed).mono ?_
      rintro e w4 ⟨k, rfl, k0, k1, _, hS, hO⟩
      have HL4 := Lib.hid (HL3.out.turn (HL3.out.feed.turn hS hO) hO)
      have s4 := HL4.out.old.size
      clear hS hO HL3 k1
      go_wp2_with (at_builtin; refine wpList_append_far rfl _ _ _ rfl w.heap.size 83 (.agg #[.int .i64 0, .int .i64 0, .int .i64 0]) 3 24 Try.underlying72 infoJoint rfl (by omega) (by omega) jointC ms (a, a + 1 + d, k) LA lc rfl (HL4.out.own.keep (balloc _ _)) w4.heap.size _ rfl rfl (three_cells (by go_simp) (by go_simp) (by go_simp)) (HJ1.out _) (by omega) (by simp; omega) ?_)
      intro A2 c2 w5 hown5 hb5 _
      have HL5 := Lib.hid (HL4.out.grow hown5 hb5)
      clear hown5 hb5
      go_wp2_with fail
      exact ⟨⟨q - 1, A2, c2, ms ++ [(a, a + 1 + d, k)], by omega, by simp; omega, by go_num, by simp, HL5.out⟩, by simp [intOf]; omega⟩
    · go_wp2_with fail
      refine (HN.out wr 40 (by omega) HL1.out.feed).mono ?_
      rintro e w2 ⟨v2, rfl, a0, a1, _, hS, hO⟩
      have HL2 := Lib.hid (HL1.out.turn (HL1.out.feed.turn hS hO) hO)
      clear hS hO HL1 a1
      by_cases hv : v2 = 0
      · subst hv
        go_wp2_with fail
        refine (HN.out w2 9 (by omega) HL2.out.feed).mono ?_
        rintro e w3 ⟨a, rfl, a0, a1, _, hS, hO⟩
        have HL3 := Lib.hid (HL2.out.turn (HL2.out.feed.turn hS hO) hO)
        have a1 := a1 (by omega)
        clear hS hO HL2
        go_wp2_with fail
        refine (HN.out w3 9 (by omega) HL3.out.feed).mono ?_
        rintro e w4 ⟨d, rfl, d0, d1, _, hS, hO⟩
        have HL4 := Lib.hid (HL3.out.turn (HL3.out.feed.turn hS hO) hO)
        clear hS hO HL3 d1
        go_wp2_with fail
        refine (HN.out w4 11 (by omega) HL4.out.feed).mono ?_
        rintro e w5 ⟨k, rfl, k0, k1, _, hS, hO⟩
        have HL5 := Lib.hid (HL4.out.turn (HL4.out.feed.turn hS hO) hO)
        have s5 := HL5.out.old.size
        clear hS hO HL4 k1
        go_wp2_with (at_builtin; refine wpList_append_far rfl _ _ _ rfl w.heap.size 83 (.agg #[.int .i64 0, .int .i64 0, .int .i64 0]) 3 24 Try.underlying72 infoJoint rfl (by omega) (by omega) jointC ms (a - 1, d, k) LA lc rfl (HL5.out.own.keep (balloc _ _)) w5.heap.size _ rfl rfl (three_cells (by go_simp) (by go_simp) (by go_simp)) (HJ1.out _) (by omega) (by simp; omega) ?_)
        intro A2 c2 w6 hown6 hb6 _
        have HL6 := Lib.hid (HL5.out.grow hown6 hb6)
        clear hown6 hb6
        go_wp2_with fail
        go_ret
        have := HL6.out.drawn (m := 64) (G := fun _ => True) HJL.out (by simp; omega) (fun _ _ => trivial)
        simp only [List.length_append, List.length_cons, List.length_nil, Nat.zero_add] at this
        exact this
      · have hvb : (v2 == 0) = false := by simp [hv]
        by_cases hv1 : v2 = 1
        · subst hv1
          go_wp2_with fail
          go_loopw [3] (fun out wr => ∃ (MA : Option Addr) (mc : Nat) (ns : List (Int × Int × Int)), ns.length ≤ 13 ∧ out = .slice MA ns.length mc ∧ GrowSt w wr b A c xs 83 3 jointC MA mc ns) (fun out _ => 13 - lenOf out)
          case atStart => exact ⟨LA, lc, ms, by omega, rfl, HL2.out⟩
          case round =>
            obtain ⟨MA, mc, ns, hnl, rfl, hM⟩ := hrel
            have HM1 := Lib.hid hM; clear hM
            go_wp2_with fail
            refine (HN.out _ 2 (by omega) HM1.out.feed).mono ?_
            rintro e w4 ⟨v4, rfl, c0, c1, _, hS, hO⟩
            have HM2 := Lib.hid (HM1.out.turn (HM1.out.feed.turn hS hO) hO)
            have c1 := c1 (by omega)
            have s4 := HM2.out.old.size
            clear hS hO HM1
            by_cases hlt2 : (ns.length : Int) < 12 + v4
            · have hnl2 : ns.length ≤ 12 := by omega
              go_wp2_with (at_builtin; refine wpList_append_far rfl _ _ _ rfl w.heap.size 83 (.agg #[.int .i64 0, .int .i64 0, .int .i64 0]) 3 24 Try.underlying72 infoJoint rfl (by omega) (by omega) jointC ns (0, 1, 0) MA mc rfl (HM2.out.own.keep (balloc _ _)) w4.heap.size _ rfl rfl (three_cells (by go_simp) (by go_simp) (by go_simp)) (HJ1.out _) (by omega) (by simp; omega) ?_)
              intro A6 c6 w6 hown6 hb6 _
              have HM4 := Lib.hid (HM2.out.grow hown6 hb6)
              clear hown6 hb6
              go_wp2_with fail
              exact ⟨⟨A6, c6, ns ++ [(0, 1, 0)], by simp; omega, by simp, HM4.out⟩, by simp [lenOf]; omega⟩
            · go_wp2_with fail
              go_ret
              exact HM2.out.drawn HJL.out (by omega) (fun _ _ => trivial)
        · have hvb1 : (v2 == 1) = false := by simp [hv1]
          clear hv hv1
          go_wp2_with fail
          go_ret
          exact HL2.out.drawn HJL.out (by omega) (fun _ _ => trivial)

/-- Parts and joints drawn. -/
def DrawnBoth (w : World) (b : Nat) (A : Option Addr) (c : Nat) (xs : List Int) (e : Ending) (w' : World) : Prop :=
  ∃ (LA JA : Option Addr) (lc jc : Nat) (vs : List PartT) (js : List (Int × Int × Int)), e = .returned (.tuple #[.slice LA vs.length lc, .slice JA js.length jc]) ∧ FlatR w' w.heap.size w'.heap.size LA vs ∧ vs.length ≤ 64 ∧ (∀ x ∈ vs, x.code.size ≤ 64 ∧ x.ports.length ≤ 64) ∧ Flat w' w.heap.size w'.heap.size 83 3 jointC JA js ∧ js.length ≤ 64 ∧ Feed w' b A c xs ∧ Only b (b + 1) w w'
theorem l18Draw_any (A : Option Addr) (c b : Nat) (xs : List Int) (w : World) (hF : Feed w b A c xs) :
    Calls Try.prog 165 #[.pointer (some ⟨b, 0, none⟩)] w (DrawnBoth w b A c xs) := by
  have HP := Lib.hid (l16List_any A c b xs w hF)
  have HJ : Hid (∀ v : World, Feed v b A c xs → Calls Try.prog 146 #[.pointer (some ⟨b, 0, none⟩)] v (DrawnJoints v b A c xs)) := fun v h => l17DrawJoints_any A c b xs v h
  have hlb := hF.src.lt
  clear hF
  go_enter Try.func165, Try.ntmps165
  go_wp2_with fail
  refine HP.out.mono ?_
  rintro e w1 ⟨LA, lc, vs, rfl, fv, _, hvl, hvs, hF1, hO1⟩
  have HF1 := Lib.hid hF1; clear hF1
  have HVS := Lib.hid hvs; clear hvs
  go_wp2_with fail
  refine (HJ.out w1 HF1.out).mono ?_
  rintro e w2 ⟨JA, jc, js, rfl, fj, _, hjl, _, hF2, hO2⟩
  have HF2 := Lib.hid hF2; clear hF2 HF1
  have HR := Lib.hid ((fv.only hO2 (Nat.le_refl _) (Or.inr (by omega))).mono (Nat.le_refl _) hO2.size)
  have HRj := Lib.hid (fj.mono hO1.size (Nat.le_refl _))
  clear fv fj
  go_wp2_with fail
  go_ret2
  exact ⟨LA, JA, lc, jc, vs, js, rfl, HR.out, hvl, HVS.out, HRj.out, hjl, HF2.out, hO1.trans hO2⟩

end Go.Proofs.Ytpdkhmnbabccnaa

namespace Go.Proofs.Ytpdkhmnbabccnaa
set_option maxRecDepth 100000
open Go.RowKit

/-- A source over the law's code. -/
theorem feed_made {w v : World} {b c : Nat} {A : Option Addr} {xs : List Int} (hr : Rd w w.heap.size 1 uC A xs) (hx : ∀ x ∈ xs, 0 ≤ x ∧ x < 256) (hm : xs.length ≤ 4096) (h1 : Src v b A c xs) (h2 : w.heap.size ≤ b) (h3 : Below w.heap.size w v) : Feed v b A c xs :=
  ⟨h1, (hr.below h3).more h2, hx, hm⟩
theorem smallV_of {vs : List PartT} (h1 : vs.length ≤ 64) (h2 : ∀ x ∈ vs, x.code.size ≤ 64 ∧ x.ports.length ≤ 64) : SmallV vs := ⟨by omega, fun x hx => by
  have := h2 x hx
  unfold maxLen
  omega⟩
/-- Parts and joints, and a number between 0 and M. -/
def GivenBoth (M : Int) (w : World) (e : Ending) (w' : World) : Prop := ∃ (LA JA : Option Addr) (lc jc : Nat) (vs : List PartT) (js : List (Int × Int × Int)) (m : Int), e = .returned (.tuple #[.slice LA vs.length lc, .slice JA js.length jc, .int .i64 m]) ∧ RdV w' w'.heap.size LA vs ∧ SmallV vs ∧ Rd w' w'.heap.size 3 jointC JA js ∧ js.length ≤ 64 ∧ 0 ≤ m ∧ m ≤ M ∧ Below w.heap.size w w'

set_option maxHeartbeats 1000000 in
theorem DrawFirst_any (A : Option Addr) (c : Nat) (xs : List Int) (w : World) (hr : Rd w w.heap.size 1 uC A xs) (hx : ∀ x ∈ xs, 0 ≤ x ∧ x < 256) (hm : xs.length ≤ 4096) :
    Calls Try.prog 99 #[.slice A xs.length c] w (GivenBoth 5001 w) := by
  have HS := Lib.hid (l01From_any A c xs w hr hx hm)
  have HFd : Hid (∀ (v : World) (b : Nat), Src v b A c xs → w.heap.size ≤ b → Below w.heap.size w v → Feed v b A c xs) := fun v b h1 h2 h3 => feed_made hr hx hm h1 h2 h3
  have HB : Hid (∀ (v : World) (b : Nat), Feed v b A c xs → Calls Try.prog 165 #[.pointer (some ⟨b, 0, none⟩)] v (DrawnBoth v b A c xs)) := fun v b h => l18Draw_any A c b xs v h
  have HN : Hid (∀ (v : World) (b : Nat) (n : Int), n < 20000 → Feed v b A c xs → Calls Try.prog 111 #[.pointer (some ⟨b, 0, none⟩), .int .i64 n] v (Drawn v b A c xs n)) := fun v b n hn h => l01Next_any A c b xs n v h.src h.rd h.byte h.small (by omega)
  clear hr hx
  go_enter Try.func99, Try.ntmps99
  go_wp2_with fail
  refine HS.out.mono ?_
  rintro e w1 ⟨b, rfl, hS, hbl, hb1⟩
  have HF1 := Lib.hid (HFd.out w1 b hS hbl hb1)
  have hlt1 := hS.lt
  clear hS HS HFd
  go_wp2_with fail
  refine (HB.out w1 b HF1.out).mono ?_
  rintro e w2 ⟨LA, JA, lc, jc, vs, js, rfl, fv, hvl, hvs, fj, hjl, hF2, hO2⟩
  have HF2 := Lib.hid hF2; clear hF2 HF1
  have HSm := Lib.hid (smallV_of hvl hvs)
  have HV := Lib.hid fv; clear fv hvs hvl
  have HJ := Lib.hid fj; clear fj
  have HO2 := Lib.hid (Only.refl b (b + 1) w2)
  go_wp2_with fail
  refine (HN.out w2 b 12 (by omega) HF2.out).mono ?_
  rintro e w3 ⟨v3, rfl, a0, a1, _, hS, hO⟩
  have HF3 := Lib.hid (HF2.out.turn hS hO)
  have HO3 := Lib.hid (HO2.out.trans hO)
  have v3lt := a1 (by omega)
  have v3ge := a0
  clear hS hO HF2 HO2 a1 a0
  go_wp2_with fail
  refine (HN.out w3 b 5 (by omega) HF3.out).mono ?_
  rintro e w4 ⟨v4, rfl, a0, a1, _, hS, hO⟩
  have HF4 := Lib.hid (HF3.out.turn hS hO)
  have HO4 := Lib.hid (HO3.out.trans hO)
  have v4lt := a1 (by omega)
  have v4ge := a0
  clear hS hO HF3 HO3 a1 a0
  have HPk := Lib.hid (pick_next A c b xs w4 2 [v3, v4, 100, 0, 5000, 5001] (by simp) (by simp) HF4.out)
  go_wp2_with fail
  refine HPk.out.mono ?_
  rintro e w5 ⟨m, hv, rfl, hF9, hO⟩
  have hmb : 0 ≤ m ∧ m ≤ 5001 := by
    simp only [List.mem_cons, List.not_mem_nil, or_false] at hv
    omega
  have hO9 := HO4.out.trans hO
  have hR := ((HV.out.only hO9 (Nat.le_refl _) (Or.inr hlt1)).rd.more hO9.size)
  have hRJ := ((HJ.out.only hO9 (Nat.le_refl _) (Or.inr hlt1)).rd.more hO9.size)
  have hBl : Below w.heap.size w w5 := hb1.trans ((hO2.trans hO9).below hbl hb1.size)
  have HEnd : Hid (GivenBoth 5001 w (.returned (.tuple #[.slice LA vs.length lc, .slice JA js.length jc, .int .i64 m])) w5) := ⟨LA, JA, lc, jc, vs, js, m, rfl, hR, HSm.out, hRJ, hjl, hmb.1, hmb.2, hBl⟩
  clear hR hRJ hBl HPk HF4 HO4 hO9 hF9 hO hv HV HJ HSm
  go_wp2_with fail
  go_ret3
  exact HEnd.out

set_option maxHeartbeats 1000000 in
theorem DrawLightest_any (A : Option Addr) (c : Nat) (xs : List Int) (w : World) (hr : Rd w w.heap.size 1 uC A xs) (hx : ∀ x ∈ xs, 0 ≤ x ∧ x < 256) (hm : xs.length ≤ 4096) :
    Calls Try.prog 94 #[.slice A xs.length c] w (GivenBoth 100000001 w) := by
  have HS := Lib.hid (l01From_any A c xs w hr hx hm)
  have HFd : Hid (∀ (v : World) (b : Nat), Src v b A c xs → w.heap.size ≤ b → Below w.heap.size w v → Feed v b A c xs) := fun v b h1 h2 h3 => feed_made hr hx hm h1 h2 h3
  have HB : Hid (∀ (v : World) (b : Nat), Feed v b A c xs → Calls Try.prog 165 #[.pointer (some ⟨b, 0, none⟩)] v (DrawnBoth v b A c xs)) := fun v b h => l18Draw_any A c b xs v h
  have HN : Hid (∀ (v : World) (b : Nat) (n : Int), n < 20000 → Feed v b A c xs → Calls Try.prog 111 #[.pointer (some ⟨b, 0, none⟩), .int .i64 n] v (Drawn v b A c xs n)) := fun v b n hn h => l01Next_any A c b xs n v h.src h.rd h.byte h.small (by omega)
  clear hr hx
  go_enter Try.func94, Try.ntmps94
  go_wp2_with fail
  refine HS.out.mono ?_
  rintro e w1 ⟨b, rfl, hS, hbl, hb1⟩
  have HF1 := Lib.hid (HFd.out w1 b hS hbl hb1)
  have hlt1 := hS.lt
  clear hS HS HFd
  go_wp2_with fail
  refine (HB.out w1 b HF1.out).mono ?_
  rintro e w2 ⟨LA, JA, lc, jc, vs, js, rfl, fv, hvl, hvs, fj, hjl, hF2, hO2⟩
  have HF2 := Lib.hid hF2; clear hF2 HF1
  have HSm := Lib.hid (smallV_of hvl hvs)
  have HV := Lib.hid fv; clear fv hvs hvl
  have HJ := Lib.hid fj; clear fj
  have HO2 := Lib.hid (Only.refl b (b + 1) w2)
  go_wp2_with fail
  refine (HN.out w2 b 16000 (by omega) HF2.out).mono ?_
  rintro e w3 ⟨v3, rfl, a0, a1, _, hS, hO⟩
  have HF3 := Lib.hid (HF2.out.turn hS hO)
  have HO3 := Lib.hid (HO2.out.trans hO)
  have v3lt := a1 (by omega)
  have v3ge := a0
  clear hS hO HF2 HO2 a1 a0
  have HPk := Lib.hid (pick_next A c b xs w3 2 [1000 + v3, 10000, 0, 100000000, 100000001] (by simp) (by simp) HF3.out)
  go_wp2_with fail
  refine HPk.out.mono ?_
  rintro e w4 ⟨m, hv, rfl, hF9, hO⟩
  have hmb : 0 ≤ m ∧ m ≤ 100000001 := by
    simp only [List.mem_cons, List.not_mem_nil, or_false] at hv
    omega
  have hO9 := HO3.out.trans hO
  have hR := ((HV.out.only hO9 (Nat.le_refl _) (Or.inr hlt1)).rd.more hO9.size)
  have hRJ := ((HJ.out.only hO9 (Nat.le_refl _) (Or.inr hlt1)).rd.more hO9.size)
  have hBl : Below w.heap.size w w4 := hb1.trans ((hO2.trans hO9).below hbl hb1.size)
  have HEnd : Hid (GivenBoth 100000001 w (.returned (.tuple #[.slice LA vs.length lc, .slice JA js.length jc, .int .i64 m])) w4) := ⟨LA, JA, lc, jc, vs, js, m, rfl, hR, HSm.out, hRJ, hjl, hmb.1, hmb.2, hBl⟩
  clear hR hRJ hBl HPk HF3 HO3 hO9 hF9 hO hv HV HJ HSm
  go_wp2_with fail
  go_ret3
  exact HEnd.out

/-- Parts and joints. -/
def GivenJust (w : World) (e : Ending) (w' : World) : Prop := ∃ (LA JA : Option Addr) (lc jc : Nat) (vs : List PartT) (js : List (Int × Int × Int)), e = .returned (.tuple #[.slice LA vs.length lc, .slice JA js.length jc]) ∧ RdV w' w'.heap.size LA vs ∧ SmallV vs ∧ Rd w' w'.heap.size 3 jointC JA js ∧ js.length ≤ 64 ∧ Below w.heap.size w w'
theorem DrawFrontier_any (A : Option Addr) (c : Nat) (xs : List Int) (w : World) (hr : Rd w w.heap.size 1 uC A xs) (hx : ∀ x ∈ xs, 0 ≤ x ∧ x < 256) (hm : xs.length ≤ 4096) :
    Calls Try.prog 106 #[.slice A xs.length c] w (GivenJust w) := by
  have HS := Lib.hid (l01From_any A c xs w hr hx hm)
  have HFd : Hid (∀ (v : World) (b : Nat), Src v b A c xs → w.heap.size ≤ b → Below w.heap.size w v → Feed v b A c xs) := fun v b h1 h2 h3 => feed_made hr hx hm h1 h2 h3
  have HB : Hid (∀ (v : World) (b : Nat), Feed v b A c xs → Calls Try.prog 165 #[.pointer (some ⟨b, 0, none⟩)] v (DrawnBoth v b A c xs)) := fun v b h => l18Draw_any A c b xs v h
  clear hr hx
  go_enter Try.func106, Try.ntmps106
  go_wp2_with fail
  refine HS.out.mono ?_
  rintro e w1 ⟨b, rfl, hS, hbl, hb1⟩
  have HF1 := Lib.hid (HFd.out w1 b hS hbl hb1)
  clear hS HS HFd
  go_wp2_with fail
  refine (HB.out w1 b HF1.out).mono ?_
  rintro e w2 ⟨LA, JA, lc, jc, vs, js, rfl, fv, hvl, hvs, fj, hjl, hF2, hO2⟩
  have HEnd : Hid (GivenJust w (.returned (.tuple #[.slice LA vs.length lc, .slice JA js.length jc])) w2) := ⟨LA, JA, lc, jc, vs, js, rfl, fv.rd, smallV_of hvl hvs, fj.rd, hjl, hb1.trans (hO2.below hbl hb1.size)⟩
  clear fv hvl hvs fj hF2 hO2 HF1
  go_wp2_with fail
  go_ret2
  exact HEnd.out

end Go.Proofs.Ytpdkhmnbabccnaa

namespace Go.Proofs.Ytpdkhmnbabccnaa
set_option maxRecDepth 100000
open Go.RowKit

/-- Parts, and a build that grows and turns, a source in hand. -/
structure BuildSt (V w : World) (b : Nat) (A : Option Addr) (c : Nat) (xs : List Int) (LA : Option Addr) (vs : List PartT) (BA : Option Addr) (bc : Nat) (bs : List ByteArray) : Prop where
  feed : Feed w b A c xs
  parts : RdV w w.heap.size LA vs
  own : Own w V.heap.size 9 1 tC BA bc bs
  old : Only b (b + 1) V w
  lt : b < V.heap.size
section
variable {V w w' : World} {b c bc : Nat} {A LA BA : Option Addr} {xs : List Int} {vs : List PartT} {bs : List ByteArray}
/-- Nothing has turned but the source. -/
theorem BuildSt.next (h : BuildSt V w b A c xs LA vs BA bc bs) (hb : Below w.heap.size w w') : BuildSt V w' b A c xs LA vs BA bc bs :=
  ⟨h.feed.next hb, h.parts.next hb, h.own.keep hb, h.old.trans (Only.of_below hb), h.lt⟩
end
/-- Parts and a build drawn. -/
def DrawnBuild (w : World) (b : Nat) (A : Option Addr) (c : Nat) (xs : List Int) (e : Ending) (w' : World) : Prop :=
  ∃ (LA BA : Option Addr) (lc bc : Nat) (vs : List PartT) (bs : List ByteArray), e = .returned (.tuple #[.slice LA vs.length lc, .slice BA bs.length bc]) ∧ FlatR w' w.heap.size w'.heap.size LA vs ∧ vs.length ≤ 64 ∧ (∀ x ∈ vs, x.code.size ≤ 64 ∧ x.ports.length ≤ 64) ∧ Flat w' w.heap.size w'.heap.size 9 1 tC BA bs ∧ bs.length ≤ bc ∧ bs.length ≤ 64 ∧ Feed w' b A c xs ∧ Only b (b + 1) w w'
theorem putR_len (vs : List PartT) (bs : List ByteArray) (code : ByteArray) (h : (putR vs bs code).2 = 0) : (putR vs bs code).1.length = bs.length := by
  unfold putR at h ⊢
  split at h
  · split at h
    · simp at h
    · split at h
      · rename_i h1 h2 h3
        rw [if_pos h1, if_neg h2, if_pos h3]
        simp [setT]
      · simp at h
  · simp at h
theorem FlatR.farOwn {α : Type} {w w4 : World} {lo hi sz c base : Nat} {E : TypeId} {f : α → List Value} {LA B A2 : Option Addr} {vs : List PartT} {ys : List α} (h : FlatR w lo hi LA vs) (ho : Own w base E sz f B c ys) (h1 : E ≠ 26) (h2 : E ≠ 32) (hhi : hi ≤ w.heap.size)
    (hfar : ∀ g, g < w.heap.size → Apart B g → Apart A2 g ∧ w4.heap[g]? = w.heap[g]?) : FlatR w4 lo hi LA vs := by
  obtain ⟨ms, e, hf, hi'⟩ := h
  exact ⟨ms, e, hf.farType ho h1 hhi hfar, fun m hm => (hi'.flat m hm).farType ho h2 hhi hfar, hi'.cap, hi'.far, hi'.apart⟩
theorem FlatR.setType {w : World} {lo hi m : Nat} {E : TypeId} {LA : Option Addr} {vs : List PartT} (h : FlatR w lo hi LA vs) {p : Addr} (hr : Row w p.block E m) (h1 : 26 ≠ E) (h2 : 32 ≠ E) (u : Value) : FlatR (w.setCell p u) lo hi LA vs := by
  obtain ⟨ms, e, hf, hi'⟩ := h
  exact ⟨ms, e, hf.setType hr h1 u, fun q hq => (hi'.flat q hq).setType hr h2 u, hi'.cap, hi'.far, hi'.apart⟩
theorem bare_own (w : World) : Own (w.alloc (.cells (madeCells (Value.string ⟨#[]⟩).cells 8) 9)) w.heap.size 9 1 tC (some ⟨w.heap.size, 0, none⟩) 8 bare := by
  have h := World.ownsRow_lit (base := w.heap.size) (e := 9) (size := 1) w (madeCells (Value.string ⟨#[]⟩).cells 8) 8 (Nat.le_refl _) (by unfold maxLen; omega) (by rw [size_madeCells])
  have e : (madeCells (Value.string ⟨#[]⟩).cells 8).toList = bare.flatMap tC := by
    rw [flat_map_tC]
    exact (toList_madeCells_one (.string ⟨#[]⟩) 8).trans rfl
  rw [e] at h
  exact h

set_option maxHeartbeats 4000000 in
theorem l17Draw_any (A : Option Addr) (c b : Nat) (xs : List Int) (w : World) (hF : Feed w b A c xs) :
    Calls Try.prog 140 #[.pointer (some ⟨b, 0, none⟩)] w (DrawnBuild w b A c xs) := by
  have HN : Hid (∀ (v : World) (n : Int), n < 20000 → Feed v b A c xs → Calls Try.prog 111 #[.pointer (some ⟨b, 0, none⟩), .int .i64 n] v (Drawn v b A c xs n)) := fun v n hn h => l01Next_any A c b xs n v h.src h.rd h.byte h.small (by omega)
  have HP := Lib.hid (l16List_any A c b xs w hF)
  have hlb := hF.src.lt
  clear hF
  have hmk : ∀ W : World, (Instr.makeSlice 61 (.int .i64 8) (.int .i64 8)).run Try.prog W = .ok (.slice (some ⟨W.heap.size, 0, none⟩) 8 8) (W.alloc (.cells (madeCells (Value.string ⟨#[]⟩).cells 8) 9)) := fun W => made Try.underlying61 infoString 8 (by omega) (by omega) W
  go_enter Try.func140, Try.ntmps140
  go_wp2_with fail
  refine HP.out.mono ?_
  rintro e w1 ⟨LA, lc, vs, rfl, fv, _, hvl, hvs, hF1, hO1⟩
  have s1 := hO1.size
  have HVS := Lib.hid hvs
  have HSm := Lib.hid (smallV_of hvl hvs)
  clear hvs HP
  go_wp2_with fail
  clear hmk
  have HV2 := Lib.hid ((fv.below (balloc w1 (.cells (madeCells (Value.string ⟨#[]⟩).cells 8) 9)) (Nat.le_refl _)).mono (Nat.le_refl _) (balloc w1 (.cells (madeCells (Value.string ⟨#[]⟩).cells 8) 9)).size)
  have HO2 : Hid (Own (w1.alloc (.cells (madeCells (Value.string ⟨#[]⟩).cells 8) 9)) w.heap.size 9 1 tC (some ⟨w1.heap.size, 0, none⟩) 8 bare) := (bare_own w1).base s1
  have HF2 := Lib.hid (hF1.next (balloc w1 (.cells (madeCells (Value.string ⟨#[]⟩).cells 8) 9)))
  have HC2 : Hid (Only b (b + 1) w (w1.alloc (.cells (madeCells (Value.string ⟨#[]⟩).cells 8) 9))) := hO1.trans (Only.alloc _)
  have e8 : (8 : Nat) = bare.length := rfl
  clear fv hF1 hO1
  change Calls _ _ _ (w1.alloc (.cells (madeCells (Value.string ⟨#[]⟩).cells 8) 9)) _
  generalize w1.alloc (.cells (madeCells (Value.string ⟨#[]⟩).cells 8) 9) = W at HV2 HO2 HF2 HC2 ⊢
  refine (HN.out W 6 (by omega) HF2.out).mono ?_
  rintro e w2 ⟨q0, rfl, a0, a1, _, hS, hO⟩
  have HF3 := Lib.hid (HF2.out.turn hS hO)
  have HV3 := Lib.hid ((HV2.out.only hO (Nat.le_refl _) (Or.inr (by omega))).mono (Nat.le_refl _) hO.size)
  have HO3 := Lib.hid (HO2.out.only hO (by omega))
  have HC3 := Lib.hid (HC2.out.trans hO)
  have a1 := a1 (by omega)
  clear hS hO HF2 HV2 HO2 HC2
  go_wp2_with fail
  go_loopw [5, 6] (fun bu i wr => ∃ (q : Int) (BA : Option Addr) (bc : Nat) (bs : List ByteArray), 0 ≤ q ∧ q ≤ 6 ∧ i = .int .i64 q ∧ bu = .slice BA bs.length bc ∧ bs.length = 8 ∧ Own wr w.heap.size 9 1 tC BA bc bs ∧ FlatR wr w.heap.size wr.heap.size LA vs ∧ Feed wr b A c xs ∧ Only b (b + 1) w wr) (fun _ i _ => (intOf i).toNat)
  case atStart => exact ⟨q0, _, 8, bare, a0, by omega, rfl, rfl, rfl, HO3.out, HV3.out, HF3.out, HC3.out⟩
  case round =>
    obtain ⟨q, BA, bc, bs, q0, q6, rfl, rfl, hl8, hown, hv, hF, hO⟩ := hrel
    have Ho := Lib.hid hown; clear hown
    have Hv := Lib.hid hv; clear hv
    have HF := Lib.hid hF; clear hF
    have HO := Lib.hid hO; clear hO
    have Hl8 := Lib.hid hl8; clear hl8
    clear HF3 HV3 HO3 HC3
    have sr := HO.out.size
    by_cases hq : 0 < q ∧ 0 < vs.length
    · obtain ⟨hq1, hq2⟩ := hq
      go_wp2_with fail
      refine (HN.out wr (vs.length : Int) (by omega) HF.out).mono ?_
      rintro e w3 ⟨v3, rfl, b0, b1, b2, hS, hO3⟩
      have HF3 := Lib.hid (HF.out.turn hS hO3)
      have HV3 := Lib.hid ((Hv.out.only hO3 (Nat.le_refl _) (Or.inr (by omega))).mono (Nat.le_refl _) hO3.size)
      have Ho3 := Lib.hid (Ho.out.only hO3 (by omega))
      have HC3 := Lib.hid (HO.out.trans hO3)
      obtain ⟨k, rfl⟩ := Int.eq_ofNat_of_zero_le b0
      have hk : k < vs.length := by
        by_cases h : (1 : Int) < vs.length
        · have := b1 h; omega
        · have := b2 (by omega); omega
      clear hS hO3 Ho Hv HF HO b1 b2
      have s3 := HC3.out.size
      have hx : vs[k]? = some vs[k] := List.getElem?_eq_getElem hk
      have hrv := HV3.out.rd
      obtain ⟨bl, ol, rfl⟩ := hrv.addr (by omega)
      obtain ⟨hB, pA, pc, p0, _⟩ := hrv.cells hx
      clear hx hrv
      generalize (vs[k]).code = cd at p0
      have HPu := Lib.hid (PutPart_specO (some ⟨bl, ol, none⟩) BA lc bc vs bs cd w3 HV3.out.rd ((Ho3.out.flat tC_len).rd) HSm.out (by have := Hl8.out; omega))
      have HPl := Lib.hid (putR_len vs bs cd)
      generalize putR vs bs cd = R at HPu HPl
      obtain ⟨nb, bad⟩ := R
      go_wp2_with fail
      refine HPu.out.mono ?_
      rintro e w4 ⟨CA, cc, rfl, hown4, hb4⟩
      try simp only at hown4
      have Ho4 := Lib.hid (hown4.base s3)
      have HoOld := Lib.hid (Ho3.out.keep hb4)
      have HF4 := Lib.hid (HF3.out.next hb4)
      have HV4 := Lib.hid ((HV3.out.below hb4 (Nat.le_refl _)).mono (Nat.le_refl _) hb4.size)
      have HC4 := Lib.hid (HC3.out.trans (Only.of_below hb4))
      clear hown4 hb4 Ho3 HF3 HV3 HC3 p0 HPu
      by_cases hbad : bad = 0
      · have hn8 : Hid (nb.length = 8) := by
          have := HPl.out hbad
          unfold Hid
          try simp only at this
          exact this.trans Hl8.out
        subst hbad
        go_wp2_with fail
        exact ⟨⟨q - 1, CA, cc, nb, by omega, by omega, by go_num, rfl, hn8.out, Ho4.out, HV4.out, HF4.out, HC4.out⟩, by simp [intOf]; omega⟩
      · have hbb : (bad == 0) = false := by simp [hbad]
        go_wp2_with fail
        exact ⟨⟨q - 1, BA, bc, bs, by omega, by omega, by go_num, rfl, Hl8.out, HoOld.out, HV4.out, HF4.out, HC4.out⟩, by simp [intOf]; omega⟩
    · have hend : (q > 0 ∧ ¬ 0 < vs.length) ∨ ¬ q > 0 := by omega
      rcases hend with ⟨hq1, hq2⟩ | hq1
      all_goals
        clear hq
        try (have hvl0 : ¬ ((vs.length : Int) > 0) := by omega)
        go_wp2_with fail
        refine (HN.out wr 40 (by omega) HF.out).mono ?_
        rintro e w3 ⟨v3, rfl, b0, b1, b2, hS, hO3⟩
        have HF3 := Lib.hid (HF.out.turn hS hO3)
        have HV3 := Lib.hid ((Hv.out.only hO3 (Nat.le_refl _) (Or.inr (by omega))).mono (Nat.le_refl _) hO3.size)
        have Ho3 := Lib.hid (Ho.out.only hO3 (by omega))
        have HC3 := Lib.hid (HO.out.trans hO3)
        have s3 := HC3.out.size
        have hbl : bs.length ≤ 8 := by have := Hl8.out; omega
        clear hS hO3 Ho Hv HF HO b1 b2
        by_cases hv0 : v3 = 0
        · subst hv0
          go_wp2_with (at_builtin; refine wpList_append_far rfl _ _ _ rfl w.heap.size 9 (.string ⟨#[]⟩) 1 16 Try.underlying61 infoString rfl (by omega) (by omega) tC bs ⟨#[]⟩ BA bc rfl (Ho3.out.keep (balloc _ _)) w3.heap.size _ rfl rfl (one_cell (by go_simp)) (by simp [tC]; rfl) (by omega) (by simp; omega) ?_)
          intro A2 c2 w5 hown5 hb5 hfar5
          have hA := balloc w3 (.cells #[.string ⟨#[]⟩] 9)
          have hvA := (HV3.out.below hA (Nat.le_refl _)).farOwn (Ho3.out.keep hA) (by decide) (by decide) hA.size (fun g hg => hfar5 g (by simpa using hg))
          have hsz5 : w3.heap.size ≤ w5.heap.size := Nat.le_trans hA.size hb5.size
          have HEnd : Hid (DrawnBuild w b A c xs (.returned (.tuple #[.slice LA vs.length lc, .slice A2 (bs.length + 1) c2])) w5) := by
            have hb35 : Below w.heap.size w3 w5 := (hA.mono s3).trans hb5
            have ho := HC3.out
            have hcap := hown5.cap
            have hlen : (bs ++ [(⟨#[]⟩ : ByteArray)]).length = bs.length + 1 := by simp
            refine ⟨LA, A2, lc, c2, vs, bs ++ [⟨#[]⟩], by rw [hlen], hvA.mono (Nat.le_refl _) hsz5, hvl, HVS.out, hown5.flat tC_len, hcap, by rw [hlen]; omega, HF3.out.under hb35 hlb, ?_⟩
            exact ⟨hb35.os.trans ho.os, hb35.tape.trans ho.tape, hb35.output.trans ho.output, Nat.le_trans ho.size hb35.size, fun k hk hn => (hb35.block k hk).trans (ho.block k hk hn)⟩
          clear hown5 hb5 hfar5 hvA
          go_wp2_with fail
          go_ret2
          exact HEnd.out
        · have hvb : (v3 == 0) = false := by simp [hv0]
          by_cases hv1 : v3 = 1
          · subst hv1
            go_wp2_with fail
            refine (HN.out w3 8 (by omega) HF3.out).mono ?_
            rintro e w4 ⟨v4, rfl, d0, d1, _, hS, hO4⟩
            have HF4 := Lib.hid (HF3.out.turn hS hO4)
            have HV4 := Lib.hid ((HV3.out.only hO4 (Nat.le_refl _) (Or.inr (by omega))).mono (Nat.le_refl _) hO4.size)
            have hown4 := Ho3.out.only hO4 (by omega)
            have HC4 := Lib.hid (HC3.out.trans hO4)
            have d1 := d1 (by omega)
            obtain ⟨s, rfl⟩ := Int.eq_ofNat_of_zero_le d0
            have hs8 : s < bs.length := by have := Hl8.out; omega
            obtain ⟨g, m, rfl, hg1, hg2, hrow, hml, _⟩ := hown4.flat tC_len (by omega)
            obtain ⟨z0, hz0⟩ := hrow.cell (j := s) (by omega)
            have hf0 := hrow.frozen s
            have hcap := hown4.cap
            have HEnd : Hid (DrawnBuild w b A c xs (.returned (.tuple #[.slice LA vs.length lc, .slice (some ⟨g, 0, none⟩) bs.length bc])) (w4.setCell ⟨g, s, none⟩ (.string ⟨#[110, 111, 110, 101]⟩))) := by
              have hsz : w4.heap.size ≤ (w4.setCell ⟨g, s, none⟩ (.string ⟨#[110, 111, 110, 101]⟩)).heap.size := by simp [World.setCell]
              exact ⟨LA, some ⟨g, 0, none⟩, lc, bc, vs, bs.set s ⟨#[110, 111, 110, 101]⟩, by rw [List.length_set], (HV4.out.setType (p := ⟨g, s, none⟩) hrow (by decide) (by decide) _).mono (Nat.le_refl _) hsz, hvl, HVS.out, (Own.set1 hown4 hs8 _).flat tC_len, by rw [List.length_set]; exact hcap, by rw [List.length_set]; omega, HF4.out.setFar (p := ⟨g, s, none⟩) (show b < g by omega) _, HC4.out.setNew (p := ⟨g, s, none⟩) hg1 _⟩
            clear hown4 hO4 hS HF4 HV4 HC4 Ho3 HF3 HV3 HC3 hrow
            go_wp2_with fail
            go_ret2
            exact HEnd.out
          · have hvb1 : (v3 == 1) = false := by simp [hv1]
            have HEnd : Hid (DrawnBuild w b A c xs (.returned (.tuple #[.slice LA vs.length lc, .slice BA bs.length bc])) w3) := ⟨LA, BA, lc, bc, vs, bs, rfl, HV3.out, hvl, HVS.out, Ho3.out.flat tC_len, Ho3.out.cap, by omega, HF3.out, HC3.out⟩
            clear hv0 hv1
            go_wp2_with fail
            go_ret2
            exact HEnd.out

end Go.Proofs.Ytpdkhmnbabccnaa

namespace Go.Proofs.Ytpdkhmnbabccnaa
set_option maxRecDepth 100000
open Go.RowKit

/-- Parts, a build and a number. -/
def GivenPBI (w : World) (e : Ending) (w' : World) : Prop := ∃ (LA BA : Option Addr) (lc bc : Nat) (vs : List PartT) (bs : List ByteArray) (n : Int), e = .returned (.tuple #[.slice LA vs.length lc, .slice BA bs.length bc, .int .i64 n]) ∧ RdV w' w'.heap.size LA vs ∧ SmallV vs ∧ Rd w' w'.heap.size 1 tC BA bs ∧ bs.length ≤ 64 ∧ -1 ≤ n ∧ n ≤ 8 ∧ Below w.heap.size w w'
/-- Parts, a build and a text. -/
def GivenPBS (w : World) (e : Ending) (w' : World) : Prop := ∃ (LA BA : Option Addr) (lc bc : Nat) (vs : List PartT) (bs : List ByteArray) (s : ByteArray), e = .returned (.tuple #[.slice LA vs.length lc, .slice BA bs.length bc, .string s]) ∧ RdV w' w'.heap.size LA vs ∧ SmallV vs ∧ Rd w' w'.heap.size 1 tC BA bs ∧ bs.length ≤ 64 ∧ s.size ≤ 64 ∧ Below w.heap.size w w'
/-- Parts, joints and a build. -/
def GivenPJB (w : World) (e : Ending) (w' : World) : Prop := ∃ (LA JA BA : Option Addr) (lc jc bc : Nat) (vs : List PartT) (js : List (Int × Int × Int)) (bs : List ByteArray), e = .returned (.tuple #[.slice LA vs.length lc, .slice JA js.length jc, .slice BA bs.length bc]) ∧ FlatR w' w.heap.size w'.heap.size LA vs ∧ SmallV vs ∧ Flat w' w.heap.size w'.heap.size 83 3 jointC JA js ∧ js.length ≤ 64 ∧ Flat w' w.heap.size w'.heap.size 9 1 tC BA bs ∧ bs.length ≤ bc ∧ bs.length ≤ 64 ∧ Below w.heap.size w w'
/-- Parts, joints, a build and a number. -/
def GivenPJBI (w : World) (e : Ending) (w' : World) : Prop := ∃ (LA JA BA : Option Addr) (lc jc bc : Nat) (vs : List PartT) (js : List (Int × Int × Int)) (bs : List ByteArray) (n : Int), e = .returned (.tuple #[.slice LA vs.length lc, .slice JA js.length jc, .slice BA bs.length bc, .int .i64 n]) ∧ RdV w' w'.heap.size LA vs ∧ SmallV vs ∧ Rd w' w'.heap.size 3 jointC JA js ∧ js.length ≤ 64 ∧ Rd w' w'.heap.size 1 tC BA bs ∧ bs.length ≤ bc ∧ bs.length ≤ 64 ∧ -1 ≤ n ∧ n ≤ 8 ∧ Below w.heap.size w w'

set_option maxHeartbeats 1000000 in
theorem DrawTakePart_any (A : Option Addr) (c : Nat) (xs : List Int) (w : World) (hr : Rd w w.heap.size 1 uC A xs) (hx : ∀ x ∈ xs, 0 ≤ x ∧ x < 256) (hm : xs.length ≤ 4096) :
    Calls Try.prog 49 #[.slice A xs.length c] w (GivenPBI w) := by
  have HS := Lib.hid (l01From_any A c xs w hr hx hm)
  have HFd : Hid (∀ (v : World) (b : Nat), Src v b A c xs → w.heap.size ≤ b → Below w.heap.size w v → Feed v b A c xs) := fun v b h1 h2 h3 => feed_made hr hx hm h1 h2 h3
  have HB : Hid (∀ (v : World) (b : Nat), Feed v b A c xs → Calls Try.prog 140 #[.pointer (some ⟨b, 0, none⟩)] v (DrawnBuild v b A c xs)) := fun v b h => l17Draw_any A c b xs v h
  have HJ : Hid (∀ (v : World) (b : Nat), Feed v b A c xs → Calls Try.prog 146 #[.pointer (some ⟨b, 0, none⟩)] v (DrawnJoints v b A c xs)) := fun v b h => l17DrawJoints_any A c b xs v h
  have HN : Hid (∀ (v : World) (b : Nat) (n : Int), n < 20000 → Feed v b A c xs → Calls Try.prog 111 #[.pointer (some ⟨b, 0, none⟩), .int .i64 n] v (Drawn v b A c xs n)) := fun v b n hn h => l01Next_any A c b xs n v h.src h.rd h.byte h.small (by omega)
  clear hr hx
  go_enter Try.func49, Try.ntmps49
  go_wp2_with fail
  refine HS.out.mono ?_
  rintro e w1 ⟨b, rfl, hS, hbl, hb1⟩
  have HF1 := Lib.hid (HFd.out w1 b hS hbl hb1)
  have hlt1 := hS.lt
  clear hS HS HFd
  go_wp2_with fail
  refine (HB.out w1 b HF1.out).mono ?_
  rintro e w2 ⟨LA, BA, lc, bc, vs, bs, rfl, fv, hvl, hvs, fb, hbc, hbl64, hF2, hO2⟩
  have HF2 := Lib.hid hF2; clear hF2 HF1
  have HSm := Lib.hid (smallV_of hvl hvs)
  have HV := Lib.hid fv; have HVS := Lib.hid hvs; clear fv hvs
  have HBu := Lib.hid fb; clear fb
  have HPk := Lib.hid (pick_next A c b xs w2 2 [0, 1, 2, 0, 1, 2, 7, 8, -1] (by simp) (by simp) HF2.out)
  go_wp2_with fail
  refine HPk.out.mono ?_
  rintro e w3 ⟨m, hv, rfl, hF9, hO⟩
  have hmb : -1 ≤ m ∧ m ≤ 8 := by
    simp only [List.mem_cons, List.not_mem_nil, or_false] at hv
    omega
  have HEnd : Hid (GivenPBI w (.returned (.tuple #[.slice LA vs.length lc, .slice BA bs.length bc, .int .i64 m])) w3) := ⟨LA, BA, lc, bc, vs, bs, m, rfl, ((HV.out.only hO (Nat.le_refl _) (Or.inr hlt1)).rd.more hO.size), HSm.out, ((HBu.out.only hO (Nat.le_refl _) (Or.inr hlt1)).rd.more hO.size), hbl64, hmb.1, hmb.2, hb1.trans ((hO2.trans hO).below hbl hb1.size)⟩
  clear hF9 hO hv HPk HF2 HV HBu
  go_wp2_with fail
  go_ret3
  exact HEnd.out

set_option maxHeartbeats 1000000 in
theorem DrawBrokenJoints_any (A : Option Addr) (c : Nat) (xs : List Int) (w : World) (hr : Rd w w.heap.size 1 uC A xs) (hx : ∀ x ∈ xs, 0 ≤ x ∧ x < 256) (hm : xs.length ≤ 4096) :
    Calls Try.prog 58 #[.slice A xs.length c] w (GivenPJB w) := by
  have HS := Lib.hid (l01From_any A c xs w hr hx hm)
  have HFd : Hid (∀ (v : World) (b : Nat), Src v b A c xs → w.heap.size ≤ b → Below w.heap.size w v → Feed v b A c xs) := fun v b h1 h2 h3 => feed_made hr hx hm h1 h2 h3
  have HB : Hid (∀ (v : World) (b : Nat), Feed v b A c xs → Calls Try.prog 140 #[.pointer (some ⟨b, 0, none⟩)] v (DrawnBuild v b A c xs)) := fun v b h => l17Draw_any A c b xs v h
  have HJ : Hid (∀ (v : World) (b : Nat), Feed v b A c xs → Calls Try.prog 146 #[.pointer (some ⟨b, 0, none⟩)] v (DrawnJoints v b A c xs)) := fun v b h => l17DrawJoints_any A c b xs v h
  have HN : Hid (∀ (v : World) (b : Nat) (n : Int), n < 20000 → Feed v b A c xs → Calls Try.prog 111 #[.pointer (some ⟨b, 0, none⟩), .int .i64 n] v (Drawn v b A c xs n)) := fun v b n hn h => l01Next_any A c b xs n v h.src h.rd h.byte h.small (by omega)
  clear hr hx
  go_enter Try.func58, Try.ntmps58
  go_wp2_with fail
  refine HS.out.mono ?_
  rintro e w1 ⟨b, rfl, hS, hbl, hb1⟩
  have HF1 := Lib.hid (HFd.out w1 b hS hbl hb1)
  have hlt1 := hS.lt
  clear hS HS HFd
  go_wp2_with fail
  refine (HB.out w1 b HF1.out).mono ?_
  rintro e w2 ⟨LA, BA, lc, bc, vs, bs, rfl, fv, hvl, hvs, fb, hbc, hbl64, hF2, hO2⟩
  have HF2 := Lib.hid hF2; clear hF2 HF1
  have HSm := Lib.hid (smallV_of hvl hvs)
  have HV := Lib.hid fv; have HVS := Lib.hid hvs; clear fv hvs
  have HBu := Lib.hid fb; clear fb
  go_wp2_with fail
  refine (HJ.out w2 b HF2.out).mono ?_
  rintro e w3 ⟨JA, jc, js, rfl, fj, _, hjl, _, hF3, hO⟩
  have HEnd : Hid (GivenPJB w (.returned (.tuple #[.slice LA vs.length lc, .slice JA js.length jc, .slice BA bs.length bc])) w3) := ⟨LA, JA, BA, lc, jc, bc, vs, js, bs, rfl, (HV.out.only hO (Nat.le_refl _) (Or.inr hlt1)).mono hb1.size hO.size, HSm.out, fj.mono (Nat.le_trans hb1.size hO2.size) (Nat.le_refl _), hjl, (HBu.out.only hO (Nat.le_refl _) (Or.inr hlt1)).mono hb1.size hO.size, hbc, hbl64, hb1.trans ((hO2.trans hO).below hbl hb1.size)⟩
  clear hF3 hO fj HF2 HV HBu
  go_wp2_with fail
  go_ret3
  exact HEnd.out

set_option maxHeartbeats 1000000 in
theorem DrawFittingParts_any (A : Option Addr) (c : Nat) (xs : List Int) (w : World) (hr : Rd w w.heap.size 1 uC A xs) (hx : ∀ x ∈ xs, 0 ≤ x ∧ x < 256) (hm : xs.length ≤ 4096) :
    Calls Try.prog 65 #[.slice A xs.length c] w (GivenPJBI w) := by
  have HS := Lib.hid (l01From_any A c xs w hr hx hm)
  have HFd : Hid (∀ (v : World) (b : Nat), Src v b A c xs → w.heap.size ≤ b → Below w.heap.size w v → Feed v b A c xs) := fun v b h1 h2 h3 => feed_made hr hx hm h1 h2 h3
  have HB : Hid (∀ v : World, Below w.heap.size w v → Calls Try.prog 58 #[.slice A xs.length c] v (GivenPJB v)) := fun v hv => DrawBrokenJoints_any A c xs v (hr.next hv) hx hm
  clear hr hx
  go_enter Try.func65, Try.ntmps65
  go_wp2_with fail
  refine HS.out.mono ?_
  rintro e w1 ⟨b, rfl, hS, hbl, hb1⟩
  have HF1 := Lib.hid (HFd.out w1 b hS hbl hb1)
  have HBr := Lib.hid (HB.out w1 hb1)
  have hlt1 := hS.lt
  clear hS HS HFd HB
  go_wp2_with fail
  refine HBr.out.mono ?_
  rintro e w2 ⟨LA, JA, BA, lc, jc, bc, vs, js, bs, rfl, rv, hsv, rj, hjl, rb, hbc, hbl64, hb2⟩
  have HPk := Lib.hid (pick_next A c b xs w2 2 [0, 1, 2, 0, 1, 2, 7, 8] (by simp) (by simp) (HF1.out.next hb2))
  have HV := Lib.hid rv; clear rv
  have HJ := Lib.hid rj; clear rj
  have HBu := Lib.hid rb; clear rb
  have HSm := Lib.hid hsv; clear hsv
  go_wp2_with fail
  refine HPk.out.mono ?_
  rintro e w3 ⟨m, hv, rfl, hF9, hO⟩
  have hmb : -1 ≤ m ∧ m ≤ 8 := by
    simp only [List.mem_cons, List.not_mem_nil, or_false] at hv
    omega
  have HEnd : Hid (GivenPJBI w (.returned (.tuple #[.slice LA vs.length lc, .slice JA js.length jc, .slice BA bs.length bc, .int .i64 m])) w3) := ⟨LA, JA, BA, lc, jc, bc, vs, js, bs, m, rfl, ((HV.out.only hO (Nat.le_refl _) (Or.inr hlt1)).rd.more hO.size), HSm.out, ((HJ.out.only hO (Nat.le_refl _) (Or.inr hlt1)).rd.more hO.size), hjl, ((HBu.out.only hO (Nat.le_refl _) (Or.inr hlt1)).rd.more hO.size), hbc, hbl64, hmb.1, hmb.2, hb1.trans ((hb2.mono hb1.size).trans (hO.below hbl (Nat.le_trans hb1.size hb2.size)))⟩
  clear hF9 hO hv HPk HF1 HV HBu HJ HSm
  go_wp2_with fail
  refine bodyPost_ret (v := .tuple #[.slice LA vs.length lc, .slice JA js.length jc, .slice BA bs.length bc, .int .i64 m]) (by simp [results, Try.results65, go_sem]) rfl ?_
  exact HEnd.out

def ptexts : List ByteArray := [⟨#[110, 111, 110, 101]⟩, ⟨#[]⟩, ⟨#[102, 114, 97, 109, 101]⟩]
set_option maxHeartbeats 2000000 in
theorem DrawPutPart_any (A : Option Addr) (c : Nat) (xs : List Int) (w : World) (hr : Rd w w.heap.size 1 uC A xs) (hx : ∀ x ∈ xs, 0 ≤ x ∧ x < 256) (hm : xs.length ≤ 4096) :
    Calls Try.prog 46 #[.slice A xs.length c] w (GivenPBS w) := by
  have HS := Lib.hid (l01From_any A c xs w hr hx hm)
  have HFd : Hid (∀ (v : World) (b : Nat), Src v b A c xs → w.heap.size ≤ b → Below w.heap.size w v → Feed v b A c xs) := fun v b h1 h2 h3 => feed_made hr hx hm h1 h2 h3
  have HB : Hid (∀ (v : World) (b : Nat), Feed v b A c xs → Calls Try.prog 140 #[.pointer (some ⟨b, 0, none⟩)] v (DrawnBuild v b A c xs)) := fun v b h => l17Draw_any A c b xs v h
  have HJ : Hid (∀ (v : World) (b : Nat), Feed v b A c xs → Calls Try.prog 146 #[.pointer (some ⟨b, 0, none⟩)] v (DrawnJoints v b A c xs)) := fun v b h => l17DrawJoints_any A c b xs v h
  have HN : Hid (∀ (v : World) (b : Nat) (n : Int), n < 20000 → Feed v b A c xs → Calls Try.prog 111 #[.pointer (some ⟨b, 0, none⟩), .int .i64 n] v (Drawn v b A c xs n)) := fun v b n hn h => l01Next_any A c b xs n v h.src h.rd h.byte h.small (by omega)
  clear hr hx
  go_enter Try.func46, Try.ntmps46
  go_wp2_with fail
  refine HS.out.mono ?_
  rintro e w1 ⟨b, rfl, hS, hbl, hb1⟩
  have HF1 := Lib.hid (HFd.out w1 b hS hbl hb1)
  have hlt1 := hS.lt
  clear hS HS HFd
  go_wp2_with fail
  refine (HB.out w1 b HF1.out).mono ?_
  rintro e w2 ⟨LA, BA, lc, bc, vs, bs, rfl, fv, hvl, hvs, fb, hbc, hbl64, hF2, hO2⟩
  have HF2 := Lib.hid hF2; clear hF2 HF1
  have HSm := Lib.hid (smallV_of hvl hvs)
  have HV := Lib.hid fv; have HVS := Lib.hid hvs; clear fv hvs
  have HBu := Lib.hid fb; clear fb
  have HT : Hid (∀ (v : World) (k : Nat), k < 3 → ∃ t : ByteArray, t.size ≤ 64 ∧ (v.alloc (.cells (ptexts.map Value.string).toArray 9)).cell? ⟨v.heap.size, k, none⟩ = some (.string t)) := fun v k hk => by
    have hk' : k < ptexts.length := hk
    refine ⟨ptexts[k], ?_, table_at v _ ptexts _ rfl hk'⟩
    have : ∀ t ∈ ptexts, t.size ≤ 64 := by decide
    exact this _ (List.getElem_mem _)
  have HEnd : Hid (∀ (v : World) (s : ByteArray), s.size ≤ 64 → Only b (b + 1) w2 v → GivenPBS w (.returned (.tuple #[.slice LA vs.length lc, .slice BA bs.length bc, .string s])) v) := fun v s hs hO => ⟨LA, BA, lc, bc, vs, bs, s, rfl, ((HV.out.only hO (Nat.le_refl _) (Or.inr hlt1)).rd.more hO.size), HSm.out, ((HBu.out.only hO (Nat.le_refl _) (Or.inr hlt1)).rd.more hO.size), hbl64, hs, hb1.trans ((hO2.trans hO).below hbl hb1.size)⟩
  have HEnd3 : Hid (∀ (v : World) (k : Nat) (hk : k < 3), Only b (b + 1) w2 v → GivenPBS w (.returned (.tuple #[.slice LA vs.length lc, .slice BA bs.length bc, (ptexts.map Value.string).toArray[k]'(by simpa [ptexts] using hk)])) v) := fun v k hk hO => by
    have hk' : k < ptexts.length := hk
    have e : (ptexts.map Value.string).toArray[k]'(by simpa [ptexts] using hk) = .string ptexts[k] := by simp
    rw [e]
    refine HEnd.out v _ ?_ hO
    have : ∀ t ∈ ptexts, t.size ≤ 64 := by decide
    exact this _ (List.getElem_mem _)
  have hb2l : b < w2.heap.size := by have := hO2.size; omega
  clear HJ HBu HB
  have HVx : Hid (∀ (v : World) (k : Nat), k < vs.length → Only b (b + 1) w2 v → ∃ (bl ol : Nat) (t : ByteArray), LA = some ⟨bl, ol, none⟩ ∧ t.size ≤ 64 ∧ v.cell? ⟨bl, ol + k * 5, none⟩ = some (.string t)) := fun v k hk hO => by
    have hx : vs[k]? = some vs[k] := List.getElem?_eq_getElem hk
    have hr := (HV.out.only hO (Nat.le_refl _) (Or.inr hlt1)).rd
    obtain ⟨bl, ol, rfl⟩ := hr.addr (by omega)
    obtain ⟨hB, pA, pc, p0, _⟩ := hr.cells hx
    exact ⟨bl, ol, _, rfl, (HVS.out _ (List.mem_of_getElem? hx)).1, p0⟩
  clear HV HSm
  have hd : (0 < vs.length) ∨ ¬ (0 < vs.length) := by omega
  rcases hd with hvp | hvp
  · go_wp2_with fail
    refine (HN.out w2 b 6 (by omega) HF2.out).mono ?_
    rintro e w3 ⟨v3, rfl, a0, a1, _, hS, hO⟩
    have HF3 := Lib.hid (HF2.out.turn hS hO)
    have HO3 := Lib.hid hO
    clear hS hO a1
    by_cases hv3 : 0 < v3
    · go_wp2_with fail
      go_region_law (first
        | (go_simp; go_at_call 111; (refine (HN.out w3.drew b (vs.length : Int) (by omega) (HF3.out.next (bdrew _))).mono ?_); rintro e w4 ⟨v4, rfl, b0, b1, b2, hS, hO⟩; have HO4 := Lib.hid ((HO3.out.trans (Only.of_below (bdrew w3))).trans hO); obtain ⟨k, rfl⟩ := Int.eq_ofNat_of_zero_le b0; have hk : k < vs.length := (by by_cases h : (1 : Int) < vs.length; (have := b1 h; omega); (have := b2 (by omega); omega)); obtain ⟨bl, ol, t, rfl, ht, q⟩ := HVx.out w4 k hk HO4.out; clear hS hO b1 b2; go_wp2_with fail))
      all_goals
        go_wp2_with fail
        go_ret3
        exact HEnd.out _ t ht HO4.out
    · go_wp2_with fail
      go_region_law (first
        | (go_simp; go_at_call 111; (first
            | ((with_reducible refine (HN.out w3.drew b 3 (by omega) (HF3.out.next (bdrew _))).mono ?_); rintro e w4 ⟨v4, rfl, b0, b1, _, hS, hO⟩; have HO4 := Lib.hid ((HO3.out.trans (Only.of_below (bdrew w3))).trans hO); have b1 := b1 (by omega); obtain ⟨k, rfl⟩ := Int.eq_ofNat_of_zero_le b0; have hk : k < 3 := (by omega); obtain ⟨t, ht, q⟩ := HT.out w4 k hk; have HO5 := Lib.hid (HO4.out.trans (Only.alloc (.cells (ptexts.map Value.string).toArray 9))); clear hS hO)
            | (change Calls _ _ _ (w3.drew.alloc (.cells (ptexts.map Value.string).toArray 9)) _; refine (HN.out (w3.drew.alloc (.cells (ptexts.map Value.string).toArray 9)) b 3 (by omega) ((HF3.out.next (bdrew _)).next (balloc _ _))).mono ?_; rintro e w4 ⟨v4, rfl, b0, b1, _, hS, hO⟩; have HO5 := Lib.hid (((HO3.out.trans (Only.of_below (bdrew w3))).trans (Only.alloc (.cells (ptexts.map Value.string).toArray 9))).trans hO); have b1 := b1 (by omega); obtain ⟨k, rfl⟩ := Int.eq_ofNat_of_zero_le b0; have hk : k < 3 := (by omega); obtain ⟨t, ht, q0⟩ := HT.out w3.drew k hk; have q : w4.cell? ⟨w3.heap.size, k, none⟩ = some (.string t) := (World.cell?_of_block (a := ⟨w3.heap.size, k, none⟩) (hO.block w3.heap.size (by simp) (by have := HO3.out.size; omega))).trans q0; clear hS hO q0)); go_wp2_with fail))
      all_goals
        go_wp2_with fail
        go_ret3
        first
          | exact HEnd.out _ t ht HO5.out
          | exact HEnd3.out _ k hk HO5.out
  · have hvp0 : ¬ ((vs.length : Int) > 0) := by omega
    obtain ⟨w3, hw3⟩ : ∃ w3, w3 = w2 := ⟨w2, rfl⟩
    have HF3 : Hid (Feed w3 b A c xs) := by rw [hw3]; exact HF2
    have HO3 : Hid (Only b (b + 1) w2 w3) := by rw [hw3]; exact Only.refl _ _ _
    rw [← hw3] at hb2l ⊢
    clear hw3
    go_wp2_with fail
    go_region_law (first
      | (go_simp; go_at_call 111; (first
          | ((with_reducible refine (HN.out w3.drew b 3 (by omega) (HF3.out.next (bdrew _))).mono ?_); rintro e w4 ⟨v4, rfl, b0, b1, _, hS, hO⟩; have HO4 := Lib.hid ((HO3.out.trans (Only.of_below (bdrew w3))).trans hO); have b1 := b1 (by omega); obtain ⟨k, rfl⟩ := Int.eq_ofNat_of_zero_le b0; have hk : k < 3 := (by omega); obtain ⟨t, ht, q⟩ := HT.out w4 k hk; have HO5 := Lib.hid (HO4.out.trans (Only.alloc (.cells (ptexts.map Value.string).toArray 9))); clear hS hO)
          | (change Calls _ _ _ (w3.drew.alloc (.cells (ptexts.map Value.string).toArray 9)) _; refine (HN.out (w3.drew.alloc (.cells (ptexts.map Value.string).toArray 9)) b 3 (by omega) ((HF3.out.next (bdrew _)).next (balloc _ _))).mono ?_; rintro e w4 ⟨v4, rfl, b0, b1, _, hS, hO⟩; have HO5 := Lib.hid (((HO3.out.trans (Only.of_below (bdrew w3))).trans (Only.alloc (.cells (ptexts.map Value.string).toArray 9))).trans hO); have b1 := b1 (by omega); obtain ⟨k, rfl⟩ := Int.eq_ofNat_of_zero_le b0; have hk : k < 3 := (by omega); obtain ⟨t, ht, q0⟩ := HT.out w3.drew k hk; have q : w4.cell? ⟨w3.heap.size, k, none⟩ = some (.string t) := (World.cell?_of_block (a := ⟨w3.heap.size, k, none⟩) (hO.block w3.heap.size (by simp) (by have := HO3.out.size; omega))).trans q0; clear hS hO q0)); go_wp2_with fail))
    all_goals
      go_wp2_with fail
      go_ret3
      first
        | exact HEnd.out _ t ht HO5.out
        | exact HEnd3.out _ k hk HO5.out

end Go.Proofs.Ytpdkhmnbabccnaa

namespace Go.Proofs.Ytpdkhmnbabccnaa
set_option maxRecDepth 100000
open Go.RowKit

theorem textAt_nat {bs : List ByteArray} {s : Nat} (h : s < bs.length) : bs[s]? = some (textAt bs (s : Int)) := by
  unfold textAt
  rw [Int.toNat_natCast, List.getElem?_eq_getElem h]
/-- A text put into a build: the sum. -/
theorem sum_set {vs : List PartT} {f : PartT → Int} {bs : List ByteArray} {s k0 : Nat} {x : PartT} {name : ByteArray} (hb : ∀ (i : Nat) (c : ByteArray), bs[i]? = some c → c ≠ noText → ∃ (k : Nat) (x : PartT), findI vs c = (k : Int) ∧ vs[k]? = some x)
    (hs : bs[s]? = some noText) (hn : name ≠ noText) (hf : findI vs name = (k0 : Int)) (hx : vs[k0]? = some x) :
    ∀ k : Nat, k ≤ bs.length → sumTo vs f (bs.set s name) k = sumTo vs f bs k + (if s < k then f x else 0)
  | 0, _ => by simp [sumTo]
  | k + 1, hk => by
    have ih := sum_set (f := f) hb hs hn hf hx k (by omega)
    have hkl : k < bs.length := by omega
    have hc := List.getElem?_eq_getElem hkl
    by_cases e : s = k
    · subst e
      rw [sumTo_some (k := s) (c := name) (by rw [List.getElem?_set_self hkl]) hn hf hx, sumTo_none hs rfl, ih, if_neg (by omega), if_pos (by omega)]
      omega
    · have hset : (bs.set s name)[k]? = some bs[k] := by rw [List.getElem?_set_ne e]; exact hc
      have hif : (if s < k + 1 then f x else 0) = (if s < k then f x else 0) := by
        by_cases h : s < k
        · rw [if_pos h, if_pos (by omega)]
        · rw [if_neg h, if_neg (by omega)]
      rw [hif]
      by_cases h0 : bs[k] = noText
      · rw [sumTo_none hset h0, sumTo_none hc h0, ih]
      · obtain ⟨j, y, hj, hy⟩ := hb k _ hc h0
        rw [sumTo_some hset h0 hj hy, sumTo_some hc h0 hj hy, ih]
        omega
/-- What putting a part says. -/
theorem put_law {vs : List PartT} {bs : List ByteArray} {name : ByteArray} (h : (putR vs bs name).2 = 0) :
    ∃ (k s : Nat) (x : PartT), findI vs name = (k : Int) ∧ k < vs.length ∧ vs[k]? = some x ∧ x.code = name ∧ x.slot = (s : Int) ∧ s < 8 ∧ (putR vs bs name).1 = bs.set s name ∧ bs.length = 8 ∧ buildB vs bs = true ∧ partsB vs = true ∧
      (∀ f : PartT → Int, (sumR vs f bs).2 = 0 ∧ sumR vs f (putR vs bs name).1 = ((sumR vs f bs).1 + f x, 0)) := by
  unfold putR at h ⊢
  by_cases hB : buildB vs bs = true
  · rw [if_pos hB] at h ⊢
    obtain ⟨hC, hcd⟩ := buildB_codes hB
    by_cases hn : findI vs name < 0
    · rw [if_pos hn] at h
      simp at h
    · rw [if_neg hn] at h ⊢
      obtain ⟨k, x, e, hk, hx, hxc, hnt⟩ := findI_word hC.parts (c := name) (by omega)
      have hxo := partsB_at hC.parts hx
      obtain ⟨s, hs⟩ := Int.eq_ofNat_of_zero_le hxo.slot0
      have hs7 := hxo.slot7
      have hsl : slotAt vs (findI vs name) = (s : Int) := by rw [e, slotAt_eq hx, hs]
      rw [hsl] at h ⊢
      by_cases ht : textAt bs (s : Int) = noText
      · rw [if_pos ht]
        have hlen := hC.len
        have hse : bs[s]? = some noText := by rw [textAt_nat (by omega), ht]
        have hset : (setT bs (s : Int) name) = bs.set s name := by unfold setT; rw [Int.toNat_natCast]
        rw [hset]
        refine ⟨k, s, x, e, hk, hx, hxc, hs, by omega, rfl, hlen, hB, hC.parts, fun f => ?_⟩
        have hB2 : buildB vs (bs.set s name) = true := buildB_mk hC.parts (by rw [List.length_set]; exact hlen) fun i c hc hcn => by
          by_cases ei : s = i
          · subst ei
            rw [List.getElem?_set_self (by omega)] at hc
            rw [← Option.some.inj hc]
            exact ⟨k, x, e, hx, hs⟩
          · rw [List.getElem?_set_ne ei] at hc
            obtain ⟨k', x', h1, h2, _, h4⟩ := hcd i c hc hcn
            exact ⟨k', x', h1, h2, h4⟩
        unfold sumR
        rw [if_pos hB, if_pos hB2, List.length_set]
        refine ⟨rfl, ?_⟩
        rw [sum_set (fun i c hc hcn => by obtain ⟨k', x', h1, h2, _⟩ := hcd i c hc hcn; exact ⟨k', x', h1, h2⟩) hse hnt e hx bs.length (Nat.le_refl _), if_pos (by omega)]
      · rw [if_neg ht] at h
        simp at h
  · rw [if_neg hB] at h
    simp at h
/-- What taking a part says. -/
theorem take_law {vs : List PartT} {bs : List ByteArray} {slot : Int} (h : (takeR vs bs slot).2 = 0) :
    ∃ s : Nat, slot = (s : Int) ∧ s < 8 ∧ bs.length = 8 ∧ (takeR vs bs slot).1.length = 8 ∧ putR vs (takeR vs bs slot).1 (textAt bs slot) = (bs, 0) := by
  unfold takeR at h ⊢
  by_cases hB : buildB vs bs = true
  · rw [if_pos hB] at h ⊢
    obtain ⟨hC, hcd⟩ := buildB_codes hB
    have hlen := hC.len
    by_cases hi : inB slot 0 7 = true
    · rw [if_pos hi] at h ⊢
      obtain ⟨i0, i7⟩ := inB_true hi
      obtain ⟨s, rfl⟩ := Int.eq_ofNat_of_zero_le i0
      by_cases ht : textAt bs (s : Int) = noText
      · rw [if_pos ht] at h
        simp at h
      · rw [if_neg ht]
        have hset : (setT bs (s : Int) noText) = bs.set s noText := by unfold setT; rw [Int.toNat_natCast]
        rw [hset]
        have hse := textAt_nat (bs := bs) (s := s) (by omega)
        obtain ⟨k, x, e, hx, hxc, hxs⟩ := hcd s _ hse ht
        refine ⟨s, rfl, by omega, hlen, by rw [List.length_set]; exact hlen, ?_⟩
        have hB2 : buildB vs (bs.set s noText) = true := buildB_mk hC.parts (by rw [List.length_set]; exact hlen) fun i c hc hcn => by
          by_cases ei : s = i
          · subst ei
            rw [List.getElem?_set_self (by omega)] at hc
            exact absurd (Option.some.inj hc).symm hcn
          · rw [List.getElem?_set_ne ei] at hc
            obtain ⟨k', x', h1, h2, _, h4⟩ := hcd i c hc hcn
            exact ⟨k', x', h1, h2, h4⟩
        have hsl : slotAt vs (findI vs (textAt bs (s : Int))) = (s : Int) := by rw [e, slotAt_eq hx, hxs]
        have ht2 : textAt (bs.set s noText) (s : Int) = noText := textAt_eq (by rw [Int.toNat_natCast, List.getElem?_set_self (by omega)])
        unfold putR
        rw [if_pos hB2, if_neg (by rw [e]; omega), hsl, if_pos ht2]
        congr 1
        unfold setT
        rw [Int.toNat_natCast, List.set_set]
        refine List.ext_getElem? fun i => ?_
        by_cases ei : s = i
        · subst ei
          rw [List.getElem?_set_self (by omega), hse]
        · rw [List.getElem?_set_ne ei]
    · rw [if_neg hi] at h
      simp at h
  · rw [if_neg hB] at h
    simp at h
theorem sumR_build (vs : List PartT) (f : PartT → Int) (bs : List ByteArray) : buildB vs bs = decide ((sumR vs f bs).2 = 0) := by
  unfold sumR
  by_cases hB : buildB vs bs = true
  · rw [if_pos hB, hB]; rfl
  · rw [if_neg hB]
    have : buildB vs bs = false := by simpa using hB
    rw [this]
    rfl

end Go.Proofs.Ytpdkhmnbabccnaa

namespace Go.Proofs.Ytpdkhmnbabccnaa
set_option maxRecDepth 100000
open Go.RowKit

set_option maxHeartbeats 400000 in
theorem likeTexts_any (A A' : Option Addr) (c c' : Nat) (xs ys : List ByteArray) (w : World) (hr : Rd w w.heap.size 1 tC A xs) (hr' : Rd w w.heap.size 1 tC A' ys) (hm : xs.length ≤ 1048576) :
    Calls Try.prog 56 #[.slice A xs.length c, .slice A' ys.length c'] w fun e w' => e = .returned (.bool (decide (xs = ys))) ∧ Below w.heap.size w w' := by
  by_cases hl : xs.length = ys.length
  · have hn : ((xs.length : Int) != (ys.length : Int)) = false := by simp [hl]
    have Hl := Lib.hid hl; clear hl
    go_enter Try.func56, Try.ntmps56
    go_wp2_with fail
    go_loopw [5] (fun i wr => ∃ k : Nat, k ≤ xs.length ∧ i = .int .i64 k ∧ Below w.heap.size w wr ∧ xs.take k = ys.take k) (fun i _ => xs.length - (intOf i).toNat)
    case atStart => exact ⟨0, Nat.zero_le _, rfl, Below.refl _ _, rfl⟩
    case round =>
      obtain ⟨k, hk, rfl, hb, hpre⟩ := hrel
      have Hp := Lib.hid hpre; clear hpre
      by_cases hlt : k < xs.length
      · have hlt' : k < ys.length := by have := Hl.out; omega
        have hx : xs[k]? = some xs[k] := List.getElem?_eq_getElem hlt
        have hy : ys[k]? = some ys[k] := List.getElem?_eq_getElem hlt'
        obtain ⟨b, o, rfl, hB, h0⟩ := (hr.below hb).at1 hx rfl
        obtain ⟨b', o', rfl, hB', h0'⟩ := (hr'.below hb).at1 hy rfl
        rw [Nat.mul_one] at h0 h0'
        generalize xs[k] = t at h0 hx
        generalize ys[k] = t' at h0' hy
        have Hx := Lib.hid hx; clear hx
        have Hy := Lib.hid hy; clear hy
        by_cases ht : t = t'
        · have htt : (t.toList == t'.toList) = true := by simp [ht]
          have Ht := Lib.hid ht; clear ht
          go_wp2_with fail
          go_quiet (fail)
          go_wp2_with fail
          exact ⟨⟨k + 1, by omega, by go_num, below_drewN hb _, take_next Hp.out Hx.out Hy.out Ht.out⟩, by simp [intOf]; omega⟩
        · have htt : (t.toList == t'.toList) = false := by simp; exact fun e => ht (str_eq.1 e)
          have hne : decide (xs = ys) = false := decide_eq_false (ne_next Hx.out Hy.out ht)
          have Ht := Lib.hid ht; clear ht
          have Hne := Lib.hid hne; clear hne
          go_wp2_with fail
          go_quiet (fail)
          go_wp2_with fail
          go_ret
          exact ⟨ret_bool Hne.out.symm, below_drewN hb _⟩
      · have e : decide (xs = ys) = true := decide_eq_true (take_all Hp.out Hl.out (by omega))
        have E := Lib.hid e; clear e
        go_wp2_with fail
        go_ret
        exact ⟨ret_bool E.out.symm, hb⟩
  · have hd : decide (xs = ys) = false := by simp; intro h; exact hl (by rw [h])
    have hn : ((xs.length : Int) != (ys.length : Int)) = true := by simp; omega
    rw [hd]
    go_enter Try.func56, Try.ntmps56
    go_wp2_with fail
    go_ret
    exact ⟨rfl, Below.refl _ _⟩

set_option maxHeartbeats 400000 in
theorem likeInts_any (A A' : Option Addr) (c c' : Nat) (xs ys : List Int) (w : World) (hr : Rd w w.heap.size 1 nC A xs) (hr' : Rd w w.heap.size 1 nC A' ys) (hm : xs.length ≤ 1048576) :
    Calls Try.prog 41 #[.slice A xs.length c, .slice A' ys.length c'] w fun e w' => e = .returned (.bool (decide (xs = ys))) ∧ Below w.heap.size w w' := by
  by_cases hl : xs.length = ys.length
  · have hn : ((xs.length : Int) != (ys.length : Int)) = false := by simp [hl]
    have Hl := Lib.hid hl; clear hl
    go_enter Try.func41, Try.ntmps41
    go_wp2_with fail
    go_loopw [5] (fun i wr => ∃ k : Nat, k ≤ xs.length ∧ i = .int .i64 k ∧ Below w.heap.size w wr ∧ xs.take k = ys.take k) (fun i _ => xs.length - (intOf i).toNat)
    case atStart => exact ⟨0, Nat.zero_le _, rfl, Below.refl _ _, rfl⟩
    case round =>
      obtain ⟨k, hk, rfl, hb, hpre⟩ := hrel
      have Hp := Lib.hid hpre; clear hpre
      by_cases hlt : k < xs.length
      · have hlt' : k < ys.length := by have := Hl.out; omega
        have hx : xs[k]? = some xs[k] := List.getElem?_eq_getElem hlt
        have hy : ys[k]? = some ys[k] := List.getElem?_eq_getElem hlt'
        obtain ⟨b, o, rfl, hB, h0⟩ := (hr.below hb).at1 hx rfl
        obtain ⟨b', o', rfl, hB', h0'⟩ := (hr'.below hb).at1 hy rfl
        rw [Nat.mul_one] at h0 h0'
        generalize xs[k] = t at h0 hx
        generalize ys[k] = t' at h0' hy
        have Hx := Lib.hid hx; clear hx
        have Hy := Lib.hid hy; clear hy
        by_cases ht : t = t'
        · have htt : (t != t') = false := by simp [ht]
          have Ht := Lib.hid ht; clear ht
          go_wp2_with fail
          go_quiet (fail)
          go_wp2_with fail
          exact ⟨⟨k + 1, by omega, by go_num, below_drewN hb _, take_next Hp.out Hx.out Hy.out Ht.out⟩, by simp [intOf]; omega⟩
        · have htt : (t != t') = true := by simp [ht]
          have hne : decide (xs = ys) = false := decide_eq_false (ne_next Hx.out Hy.out ht)
          have Ht := Lib.hid ht; clear ht
          have Hne := Lib.hid hne; clear hne
          go_wp2_with fail
          go_quiet (fail)
          go_wp2_with fail
          go_ret
          exact ⟨ret_bool Hne.out.symm, below_drewN hb _⟩
      · have e : decide (xs = ys) = true := decide_eq_true (take_all Hp.out Hl.out (by omega))
        have E := Lib.hid e; clear e
        go_wp2_with fail
        go_ret
        exact ⟨ret_bool E.out.symm, hb⟩
  · have hd : decide (xs = ys) = false := by simp; intro h; exact hl (by rw [h])
    have hn : ((xs.length : Int) != (ys.length : Int)) = true := by simp; omega
    rw [hd]
    go_enter Try.func41, Try.ntmps41
    go_wp2_with fail
    go_ret
    exact ⟨rfl, Below.refl _ _⟩

theorem likeTexts_k (A A' : Option Addr) (c c' : Nat) (xs : List ByteArray) (w : World) (hr : Rd w w.heap.size 1 tC A xs) (hr' : Rd w w.heap.size 1 tC A' xs) (hl : xs.length ≤ 1048576) :
    Calls Try.prog 56 #[.slice A xs.length c, .slice A' xs.length c'] w fun e w' => e = .returned (.bool true) ∧ Below w.heap.size w w' := by
  have := likeTexts_any A A' c c' xs xs w hr hr' hl
  rwa [decide_eq_true (rfl : xs = xs)] at this

theorem likeInts_k (A A' : Option Addr) (c c' : Nat) (xs : List Int) (w : World) (hr : Rd w w.heap.size 1 nC A xs) (hr' : Rd w w.heap.size 1 nC A' xs) (hl : xs.length ≤ 1048576) :
    Calls Try.prog 41 #[.slice A xs.length c, .slice A' xs.length c'] w fun e w' => e = .returned (.bool true) ∧ Below w.heap.size w w' := by
  have := likeInts_any A A' c c' xs xs w hr hr' hl
  rwa [decide_eq_true (rfl : xs = xs)] at this

theorem hasInt_any (A : Option Addr) (c : Nat) (xs : List Int) (n : Int) (w : World) (hr : Rd w w.heap.size 1 nC A xs) (hm : xs.length ≤ 1048576) :
    Calls Try.prog 70 #[.slice A xs.length c, .int .i64 n] w fun e w' => e = .returned (.bool (decide (n ∈ xs))) ∧ Below w.heap.size w w' := by
  have HR : Hid (decide (n ∈ xs) = decide (n ∈ xs)) := rfl
  have HY : Hid (∀ k : Nat, xs[k]? = some n → decide (n ∈ xs) = true) := fun k h => decide_eq_true (List.mem_of_getElem? h)
  have HN : Hid ((∀ k : Nat, k < xs.length → xs[k]? ≠ some n) → decide (n ∈ xs) = false) := fun h => decide_eq_false fun hm => by
    obtain ⟨k, hk⟩ := List.mem_iff_getElem?.1 hm
    exact h k (List.getElem?_eq_some_iff.1 hk).1 hk
  clear HR
  generalize decide (n ∈ xs) = R at HY HN ⊢
  go_enter Try.func70, Try.ntmps70
  go_wp2_with fail
  go_loopw [5] (fun i wr => ∃ k : Nat, k ≤ xs.length ∧ i = .int .i64 k ∧ Below w.heap.size w wr ∧ ∀ j : Nat, j < k → xs[j]? ≠ some n) (fun i _ => xs.length - (intOf i).toNat)
  case atStart => exact ⟨0, Nat.zero_le _, rfl, Below.refl _ _, fun j hj => by omega⟩
  case round =>
    obtain ⟨k, hk, rfl, hb, hall⟩ := hrel
    have Ha := Lib.hid hall; clear hall
    by_cases hlt : k < xs.length
    · have hx : xs[k]? = some xs[k] := List.getElem?_eq_getElem hlt
      obtain ⟨b, o, rfl, hB, q0⟩ := (hr.below hb).at1 hx rfl
      rw [Nat.mul_one] at q0
      generalize xs[k] = t at q0 hx
      have Hx := Lib.hid hx; clear hx
      by_cases ht : t = n
      · have HF : Hid (R = true) := HY.out k (by rw [Hx.out, ht])
        have hb1 : (t == n) = true := by simp [ht]
        clear ht
        go_wp2_with fail
        go_ret
        exact ⟨ret_bool HF.out.symm, hb⟩
      · have hb1 : (t == n) = false := by simp [ht]
        have Ht := Lib.hid ht; clear ht
        go_wp2_with fail
        exact ⟨⟨k + 1, by omega, by go_num, hb, fun j hj => by
          by_cases e : j = k
          · subst e
            rw [Hx.out]
            intro e
            exact Ht.out (Option.some.inj e)
          · exact Ha.out j (by omega)⟩, by simp [intOf]; omega⟩
    · have HF : Hid (R = false) := HN.out fun j hj => Ha.out j (by omega)
      go_wp2_with fail
      go_ret
      exact ⟨ret_bool HF.out.symm, hb⟩

theorem hasText_any (A : Option Addr) (c : Nat) (xs : List ByteArray) (n : ByteArray) (w : World) (hr : Rd w w.heap.size 1 tC A xs) (hm : xs.length ≤ 1048576) :
    Calls Try.prog 98 #[.slice A xs.length c, .string n] w fun e w' => e = .returned (.bool ((xs.any fun t => decide (t = n)))) ∧ Below w.heap.size w w' := by
  have HR : True := trivial
  have HY : Hid (∀ k : Nat, xs[k]? = some n → (xs.any fun t => decide (t = n)) = true) := fun k h => List.any_eq_true.2 ⟨n, List.mem_of_getElem? h, by simp⟩
  have HN : Hid ((∀ k : Nat, k < xs.length → xs[k]? ≠ some n) → (xs.any fun t => decide (t = n)) = false) := fun h => List.any_eq_false.2 fun t ht => by
    obtain ⟨k, hk⟩ := List.mem_iff_getElem?.1 ht
    simp only [decide_eq_true_eq]
    rintro rfl
    exact h k (List.getElem?_eq_some_iff.1 hk).1 hk
  clear HR
  generalize (xs.any fun t => decide (t = n)) = R at HY HN ⊢
  go_enter Try.func98, Try.ntmps98
  go_wp2_with fail
  go_loopw [5] (fun i wr => ∃ k : Nat, k ≤ xs.length ∧ i = .int .i64 k ∧ Below w.heap.size w wr ∧ ∀ j : Nat, j < k → xs[j]? ≠ some n) (fun i _ => xs.length - (intOf i).toNat)
  case atStart => exact ⟨0, Nat.zero_le _, rfl, Below.refl _ _, fun j hj => by omega⟩
  case round =>
    obtain ⟨k, hk, rfl, hb, hall⟩ := hrel
    have Ha := Lib.hid hall; clear hall
    by_cases hlt : k < xs.length
    · have hx : xs[k]? = some xs[k] := List.getElem?_eq_getElem hlt
      obtain ⟨b, o, rfl, hB, q0⟩ := (hr.below hb).at1 hx rfl
      rw [Nat.mul_one] at q0
      generalize xs[k] = t at q0 hx
      have Hx := Lib.hid hx; clear hx
      by_cases ht : t = n
      · have HF : Hid (R = true) := HY.out k (by rw [Hx.out, ht])
        have hb1 : (t.toList == n.toList) = true := by simp [ht]
        clear ht
        go_wp2_with fail
        go_ret
        exact ⟨ret_bool HF.out.symm, hb⟩
      · have hb1 : (t.toList == n.toList) = false := by simp; exact fun e => ht (str_eq.1 e)
        have Ht := Lib.hid ht; clear ht
        go_wp2_with fail
        exact ⟨⟨k + 1, by omega, by go_num, hb, fun j hj => by
          by_cases e : j = k
          · subst e
            rw [Hx.out]
            intro e
            exact Ht.out (Option.some.inj e)
          · exact Ha.out j (by omega)⟩, by simp [intOf]; omega⟩
    · have HF : Hid (R = false) := HN.out fun j hj => Ha.out j (by omega)
      go_wp2_with fail
      go_ret
      exact ⟨ret_bool HF.out.symm, hb⟩

end Go.Proofs.Ytpdkhmnbabccnaa

namespace Go.Proofs.Ytpdkhmnbabccnaa
set_option maxRecDepth 100000
open Go.RowKit Go.ChangeShapes Go.WideShapes Go.ChangeAt Go.Joins Go.Deep

theorem bd_u8 {n : Int} (h : (Lit.int .u8 n).wf = true) : 0 ≤ n ∧ n < 256 := by
  simp [Lit.wf, IntKind.min, IntKind.max, IntKind.signed, IntKind.bits] at h
  omega
theorem open_bytes {H : Type} {enc : TypeId × Value → H} {W : World} {spare : Nat → Bool} {r : Reach} {b0 : Nat} {v : Value} {d : DataW H} {p : List MemPlace}
    (hv : Value.okWide Try.prog W r b0 22 v) (h : DataW.Trod enc Try.prog W 0 spare true 22 v d p) :
    ∃ A c xs, v = .slice A (List.length xs) c ∧ List.length xs ≤ maxLen ∧ (∀ x ∈ xs, (fun n : Int => 0 ≤ n ∧ n < 256) x) ∧ Rd W W.heap.size 1 uC A xs :=
  open_flat (fun n : Int => 0 ≤ n ∧ n < 256) uC Try.underlying22 (show Try.prog.cellsOf 5 = 1 by kernel_rfl) (by omega) (fun n cs y hl h => by
    match cs, hl with
    | [c0], _ =>
      obtain ⟨x0, e0, -, wx0⟩ := DataW.trod_int Try.underlying5 h
      simp at e0
      subst e0
      exact ⟨x0, bd_u8 wx0, rfl⟩) hv h

theorem big_k (A : Option Addr) (c n : Nat) (w : World) : Calls Try.prog 15 #[.slice A n c] w fun e w' => e = .returned (.bool (decide ((4096 : Int) < n))) ∧ w = w' := by
  go_enter Try.func15, Try.ntmps15
  go_wp2_with fail
  go_ret
  exact ⟨rfl, rfl⟩

end Go.Proofs.Ytpdkhmnbabccnaa

namespace Go.Proofs.Ytpdkhmnbabccnaa
set_option maxRecDepth 100000
open Go.RowKit Go.ChangeShapes Go.WideShapes Go.ChangeAt Go.Joins Go.Deep

set_option maxHeartbeats 4000000 in
theorem law_FnBuilds (A : Option Addr) (c : Nat) (xs : List Int) (w : World) (hr : Rd w w.heap.size 1 uC A xs) (hx : ∀ x ∈ xs, 0 ≤ x ∧ x < 256) (hm : xs.length ≤ maxLen) :
    Calls Try.prog 7 #[.slice A xs.length c] w fun e w' => e = .returned (.bool true) ∧ Below w.heap.size w w' := by
  unfold maxLen at hm
  by_cases hbig : (4096 : Int) < xs.length
  · go_enter Try.func7, Try.ntmps7
    go_wp2_with (go_at_call 15; refine (big_k A c xs.length _).mono ?_; rintro e w' ⟨rfl, rfl⟩)
    go_ret
    exact ⟨rfl, Below.refl _ _⟩
  have HBig : Hid (∀ v : World, Calls Try.prog 15 #[.slice A xs.length c] v fun e w' => e = .returned (.bool false) ∧ v = w') := fun v => (big_k A c xs.length v).mono (by rintro e w' ⟨rfl, rfl⟩; exact ⟨by simp only [hbig, decide_false], rfl⟩)
  have HD := Lib.hid (DrawPutPart_any A c xs w hr hx (by omega))
  have HD2 : Hid (∀ v : World, Below w.heap.size w v → Calls Try.prog 49 #[.slice A xs.length c] v (GivenPBI v)) := fun v hv => DrawTakePart_any A c xs v (hr.next hv) hx (by omega)
  clear hr hx hbig
  go_enter Try.func7, Try.ntmps7
  go_wp2_with (go_at_call 15; refine (HBig.out _).mono ?_; rintro e w' ⟨rfl, rfl⟩)
  refine HD.out.mono ?_
  rintro e w1 ⟨LA, BA, lc, bc, vs, bs, name, rfl, hV, hsv, hB, hbl, hcs, hb1⟩
  have HPI : Hid (∀ (v : World), Below w1.heap.size w1 v → Calls Try.prog 47 #[.slice LA vs.length lc, .slice BA bs.length bc, .string name] v (GivesRes v 9 1 tC (putR vs bs name))) := fun v hv => PutPart_impl LA BA lc bc vs bs name v (hV.next hv) (hB.next hv) hsv (by omega)
  have HPS : Hid (∀ (v : World), Below w1.heap.size w1 v → Calls Try.prog 48 #[.slice LA vs.length lc, .slice BA bs.length bc, .string name] v (GivesRes v 9 1 tC (putR vs bs name))) := fun v hv => PutPart_spec LA BA lc bc vs bs name v (hV.next hv) (hB.next hv) hsv (by omega)
  have HPi : Hid (∀ (v : World), Below w1.heap.size w1 v → Calls Try.prog 52 #[.slice LA vs.length lc, .slice BA bs.length bc] v fun e w' => e = .returned (.tuple #[.int .i64 (sumR vs PartT.price bs).1, .int .i64 (sumR vs PartT.price bs).2]) ∧ Below v.heap.size v w') := fun v hv => PriceOf_impl LA BA lc bc vs bs v (hV.next hv) (hB.next hv) hsv (by omega)
  have HPs : Hid (∀ (v : World), Below w1.heap.size w1 v → Calls Try.prog 53 #[.slice LA vs.length lc, .slice BA bs.length bc] v fun e w' => e = .returned (.tuple #[.int .i64 (sumR vs PartT.price bs).1, .int .i64 (sumR vs PartT.price bs).2]) ∧ Below v.heap.size v w') := fun v hv => PriceOf_spec LA BA lc bc vs bs v (hV.next hv) (hB.next hv) hsv (by omega)
  have HPy : Hid (∀ (v : World) (B : Option Addr) (d : Nat) (ys : List ByteArray), Below w1.heap.size w1 v → Rd v v.heap.size 1 tC B ys → ys.length ≤ 64 → Calls Try.prog 52 #[.slice LA vs.length lc, .slice B ys.length d] v fun e w' => e = .returned (.tuple #[.int .i64 (sumR vs PartT.price ys).1, .int .i64 (sumR vs PartT.price ys).2]) ∧ Below v.heap.size v w') := fun v B d ys hv hr hl => PriceOf_impl LA B lc d vs ys v (hV.next hv) hr hsv (by omega)
  have HGi : Hid (∀ (v : World), Below w1.heap.size w1 v → Calls Try.prog 54 #[.slice LA vs.length lc, .slice BA bs.length bc] v fun e w' => e = .returned (.tuple #[.int .i64 (sumR vs PartT.grams bs).1, .int .i64 (sumR vs PartT.grams bs).2]) ∧ Below v.heap.size v w') := fun v hv => GramsOf_impl LA BA lc bc vs bs v (hV.next hv) (hB.next hv) hsv (by omega)
  have HGs : Hid (∀ (v : World), Below w1.heap.size w1 v → Calls Try.prog 55 #[.slice LA vs.length lc, .slice BA bs.length bc] v fun e w' => e = .returned (.tuple #[.int .i64 (sumR vs PartT.grams bs).1, .int .i64 (sumR vs PartT.grams bs).2]) ∧ Below v.heap.size v w') := fun v hv => GramsOf_spec LA BA lc bc vs bs v (hV.next hv) (hB.next hv) hsv (by omega)
  have HGy : Hid (∀ (v : World) (B : Option Addr) (d : Nat) (ys : List ByteArray), Below w1.heap.size w1 v → Rd v v.heap.size 1 tC B ys → ys.length ≤ 64 → Calls Try.prog 54 #[.slice LA vs.length lc, .slice B ys.length d] v fun e w' => e = .returned (.tuple #[.int .i64 (sumR vs PartT.grams ys).1, .int .i64 (sumR vs PartT.grams ys).2]) ∧ Below v.heap.size v w') := fun v B d ys hv hr hl => GramsOf_impl LA B lc d vs ys v (hV.next hv) hr hsv (by omega)
  have HFi : Hid (∀ (v : World), Below w1.heap.size w1 v → Calls Try.prog 33 #[.slice LA vs.length lc, .string name] v fun e w' => e = .returned (.tuple #[.int .i64 (findR vs name).1, .int .i64 (findR vs name).2]) ∧ Below v.heap.size v w') := fun v hv => FindPart_impl LA lc vs name v (hV.next hv) hsv
  have HFs : Hid (∀ (v : World), Below w1.heap.size w1 v → Calls Try.prog 34 #[.slice LA vs.length lc, .string name] v fun e w' => e = .returned (.tuple #[.int .i64 (findR vs name).1, .int .i64 (findR vs name).2]) ∧ Below v.heap.size v w') := fun v hv => FindPart_spec LA lc vs name v (hV.next hv) hsv
  have HBi : Hid (∀ (v : World), Below w1.heap.size w1 v → Calls Try.prog 57 #[.slice LA vs.length lc, .slice BA bs.length bc] v fun e w' => e = .returned (.bool ((sumR vs PartT.price bs).2 == 0)) ∧ Below v.heap.size v w') := fun v hv => by
    have h := isBuild_impl LA BA lc bc vs bs v (hV.next hv) (hB.next hv) hsv (by omega)
    have e1 : ((sumR vs PartT.price bs).2 == 0) = decide ((sumR vs PartT.price bs).2 = 0) := rfl
    rw [e1, ← sumR_build]
    exact h
  have HV1 := Lib.hid hV
  have HL := Lib.hid (@put_law vs bs name)
  have hpl : (putR vs bs name).1.length ≤ 1048576 := by
    by_cases h : (putR vs bs name).2 = 0
    · obtain ⟨k, s, x, -, -, -, -, -, -, h1, h2, -⟩ := put_law h
      rw [h1, List.length_set]
      omega
    · unfold putR at h ⊢
      repeat' split
      all_goals first
        | (unfold setT; rw [List.length_set]; omega)
        | (simp; done)
  clear hV hB HD hbl hcs
  obtain ⟨R, eR⟩ : ∃ R, R = putR vs bs name := ⟨_, rfl⟩
  rw [← eR] at HPI HPS HL hpl
  obtain ⟨P, eP⟩ : ∃ P, P = sumR vs PartT.price bs := ⟨_, rfl⟩
  rw [← eP] at HPi HPs HBi
  obtain ⟨G, eG⟩ : ∃ G, G = sumR vs PartT.grams bs := ⟨_, rfl⟩
  rw [← eG] at HGi HGs
  have ER := Lib.hid eR
  have EP := Lib.hid eP
  have EG := Lib.hid eG
  clear eR eP eG
  obtain ⟨y, bad⟩ := R
  obtain ⟨pr, four⟩ := P
  obtain ⟨gr, five⟩ := G
  go_wp2_with fail
  refine (HPI.out w1 (Below.refl _ _)).mono ?_
  rintro e w2 ⟨YA, yc, rfl, fy, hyc, hb2⟩
  simp only at fy hyc
  have Hy2 := Lib.hid fy.rd; clear fy
  go_wp2_with fail
  refine (HPS.out w2 hb2).mono ?_
  rintro e w3 ⟨ZA, zc, rfl, fz, hzc, hb3⟩
  simp only at fz hzc
  have Hy3 := Lib.hid (Hy2.out.next hb3)
  have Hz3 := Lib.hid fz.rd; clear fz Hy2
  have hb13 := bthen hb2 hb3
  go_wp2_with fail
  refine (HD2.out w3 (hb1.trans (hb13.mono hb1.size))).mono ?_
  rintro e w4 ⟨KA, DA, kc, dc, us, ds, n, rfl, hU, hsu, hD, hdl, hn0, hn1, hb4⟩
  have hb14 := bthen hb13 hb4
  have hb34 := hb4
  have HTI : Hid (∀ (v : World), Below w4.heap.size w4 v → Calls Try.prog 50 #[.slice KA us.length kc, .slice DA ds.length dc, .int .i64 n] v (GivesRes v 9 1 tC (takeR us ds n))) := fun v hv => TakePart_impl KA DA kc dc us ds n v (hU.next hv) (hD.next hv) hsu (by omega)
  have HTS : Hid (∀ (v : World), Below w4.heap.size w4 v → Calls Try.prog 51 #[.slice KA us.length kc, .slice DA ds.length dc, .int .i64 n] v (GivesRes v 9 1 tC (takeR us ds n))) := fun v hv => TakePart_spec KA DA kc dc us ds n v (hU.next hv) (hD.next hv) hsu (by omega)
  have HBk : Hid (∀ (v : World) (B : Option Addr) (d : Nat) (ys : List ByteArray) (t : ByteArray), Below w4.heap.size w4 v → Rd v v.heap.size 1 tC B ys → ys.length ≤ 64 → Calls Try.prog 47 #[.slice KA us.length kc, .slice B ys.length d, .string t] v (GivesRes v 9 1 tC (putR us ys t))) := fun v B d ys t hv hr hl => PutPart_impl KA B kc d us ys t v (hU.next hv) hr hsu (by omega)
  have HDs := Lib.hid hD
  have HL2 := Lib.hid (@take_law us ds n)
  have htl : (takeR us ds n).1.length ≤ 1048576 := by
    by_cases h : (takeR us ds n).2 = 0
    · obtain ⟨s, -, -, -, h1, -⟩ := take_law h
      omega
    · unfold takeR at h ⊢
      repeat' split
      all_goals first
        | (unfold setT; rw [List.length_set]; omega)
        | (simp; done)
  clear hU hD HD2
  generalize takeR us ds n = Q at HTI HTS HL2 htl
  obtain ⟨z, two⟩ := Q
  go_wp2_with fail
  refine (HTI.out w4 (Below.refl _ _)).mono ?_
  rintro e w5 ⟨TA, tc, rfl, ft, htc, hb5⟩
  simp only at ft htc
  have Ht5 := Lib.hid ft.rd; clear ft
  go_wp2_with fail
  refine (HTS.out w5 hb5).mono ?_
  rintro e w6 ⟨SA, sc, rfl, fs, hsc, hb6⟩
  simp only at fs hsc
  have Ht6 := Lib.hid (Ht5.out.next hb6)
  have Hs6 := Lib.hid fs.rd; clear fs Ht5
  have hb46 := bthen hb5 hb6
  have hb16 := bthen hb14 hb46
  go_wp2_with fail
  refine (HPi.out w6 hb16).mono ?_
  rintro e w7 ⟨rfl, hb7⟩
  have hb17 := bthen hb16 hb7
  go_wp2_with fail
  refine (HPs.out w7 hb17).mono ?_
  rintro e w8 ⟨rfl, hb8⟩
  have hb18 := bthen hb17 hb8
  go_wp2_with fail
  refine (HGi.out w8 hb18).mono ?_
  rintro e w9 ⟨rfl, hb9⟩
  have hb19 := bthen hb18 hb9
  go_wp2_with fail
  refine (HGs.out w9 hb19).mono ?_
  rintro e w10 ⟨rfl, hb10⟩
  have hb110 := bthen hb19 hb10
  have hb610 := bthen (bthen (bthen hb7 hb8) hb9) hb10
  have hb410 := bthen hb46 hb610
  have hb310 := bthen hb34 hb410
  have Hy10 := Lib.hid (Hy3.out.next hb310)
  have Ht10 := Lib.hid (Ht6.out.next hb610)
  try simp only at hpl htl
  have HLk := Lib.hid (likeTexts_k YA ZA yc zc y w10 (Hy3.out.next hb310) (Hz3.out.next hb310) hpl)
  have HLk2 := Lib.hid (fun (v : World) (hv : Below w10.heap.size w10 v) => likeTexts_k TA SA tc sc z v ((Ht6.out.next hb610).next hv) ((Hs6.out.next hb610).next hv) htl)
  clear Hy3 Hz3 Ht6 Hs6 hb2 hb3 hb4 hb5 hb6 hb7 hb8 hb9 hb10 hb13 hb14 hb34 hb46 hb16 hb17 hb18 hb19 hb610 hb310 HPi HPs HGi HGs HTI HTS HPI HPS
  go_wp2_with fail
  refine HLk.out.mono ?_
  rintro e w11 ⟨rfl, hb11⟩
  go_wp2_with fail
  refine (HLk2.out w11 hb11).mono ?_
  rintro e w12 ⟨rfl, hb12⟩
  have hb1012 := bthen hb11 hb12
  go_wp2_with fail
  refine (HBi.out w12 (bthen hb110 hb1012)).mono ?_
  rintro e w13 ⟨rfl, hb13⟩
  have hb1013 := bthen hb1012 hb13
  have hb113 := bthen hb110 hb1013
  have hb413 := bthen hb410 hb1013
  have Hy13 := Lib.hid (Hy10.out.next hb1013)
  have Ht13 := Lib.hid (Ht10.out.next hb1013)
  clear Hy10 Ht10 HLk HLk2 HBi hb1012 hb11 hb12 hb13 hb110 hb410 hb1013
  by_cases htwo : two = 0
  · subst htwo
    obtain ⟨s2, t1, t2, t3, t4, t5⟩ := HL2.out rfl
    try simp only at t4 t5
    subst t1
    have hd := textAt_nat (bs := ds) (s := s2) (by omega)
    obtain ⟨bd, od, rfl, _, qd0⟩ := (HDs.out).at1 hd rfl
    obtain ⟨bd2, od2, ed, _, qd⟩ := (HDs.out.next hb413).at1 hd rfl
    obtain ⟨rfl, rfl⟩ : bd = bd2 ∧ od = od2 := by simpa using ed
    clear qd0 ed
    rw [Nat.mul_one] at qd
    have HB2 := HBk.out w13 TA tc z (textAt ds (s2 : Int)) hb413 Ht13.out (by omega)
    rw [t5] at HB2
    have HB3 := Lib.hid HB2
    clear HB2 HBk t5 HL2 hd
    have t6 : s2 < ds.length := by omega
    have T3 := Lib.hid t3
    have T4 := Lib.hid t4
    clear t3 t4
    generalize textAt ds (s2 : Int) = td at qd HB3
    go_wp2_with fail
    refine HB3.out.mono ?_
    rintro e w14 ⟨UA, uc, rfl, fu, huc, hb14⟩
    simp only at fu huc
    have HLk := Lib.hid (likeTexts_k UA (some ⟨bd, od, none⟩) uc dc ds w14 fu.rd ((HDs.out.next hb413).next hb14) (by have := T3.out; omega))
    clear fu
    go_wp2_with fail
    refine HLk.out.mono ?_
    rintro e w15 ⟨rfl, hb15⟩
    have hb1315 := bthen hb14 hb15
    have hb115 := bthen hb113 hb1315
    clear HLk HB3 qd

    by_cases hbad : bad = 0
    · subst hbad
      obtain ⟨k, s, x, f1, f2, f3, f4, f5, f6, f7, f8, f9, f10, f11⟩ := HL.out rfl
      try simp only at f7
      have eF : findR vs name = ((k : Int), 0) := by
        unfold findR
        rw [if_pos f10, if_neg (by rw [f1]; omega), f1]
      rw [eF] at HFi HFs
      clear eF
      have g1 := (f11 PartT.price).2
      have g2 := (f11 PartT.grams).2
      try simp only at g1 g2
      rw [← EP.out] at g1
      rw [← EG.out] at g2
      simp only at g1 g2
      have hyl : y.length = 8 := by rw [f7, List.length_set, f8]
      have hys : y[s]? = some name := by rw [f7, List.getElem?_set_self (by omega)]
      have hxo := partsB_at f10 f3
      have p1 := hxo.price0
      have p2 := hxo.price1
      have p3 := hxo.grams0
      have p4 := hxo.grams1
      have HPY := Lib.hid (fun (v : World) (hv : Below w1.heap.size w1 v) (h : Rd v v.heap.size 1 tC YA y) => HPy.out v YA yc y hv h (by omega))
      have HGY := Lib.hid (fun (v : World) (hv : Below w1.heap.size w1 v) (h : Rd v v.heap.size 1 tC YA y) => HGy.out v YA yc y hv h (by omega))
      rw [g1] at HPY
      rw [g2] at HGY
      obtain ⟨bl, ol, rfl⟩ := HV1.out.addr (by omega)
      have sb1 : 0 ≤ pr ∧ pr ≤ 80000000 := by
        have h1 := sumTo_bd (vs := vs) (f := PartT.price) bs (M := 10000000) (by omega) (fun x hx => ⟨(partsB_mem f10 hx).price0, (partsB_mem f10 hx).price1⟩) bs.length
        have h2 := congrArg Prod.fst EP.out
        simp only [sumR, if_pos f9] at h2
        rw [f8] at h1 h2
        omega
      have sb2 : 0 ≤ gr ∧ gr ≤ 80000000 := by
        have h1 := sumTo_bd (vs := vs) (f := PartT.grams) bs (M := 100000) (by omega) (fun x hx => ⟨(partsB_mem f10 hx).grams0, (partsB_mem f10 hx).grams1⟩) bs.length
        have h2 := congrArg Prod.fst EG.out
        simp only [sumR, if_pos f9] at h2
        rw [f8] at h1 h2
        omega
      have hi1 := IntWalk.i64_in (n := pr + x.price) (by omega)
      have hi2 := IntWalk.i64_in (n := gr + x.grams) (by omega)
      have Hys := Lib.hid hys
      have Hf3 := Lib.hid f3
      clear hys
      have hsy : s < y.length := by omega
      have F5 := Lib.hid f5
      have F4 := Lib.hid f4
      clear HPy HGy g1 g2 f1 f3 f4 f5 f6 f7 f8 f9 f10 f11 hxo HL hyl p1 p2 p3 p4 sb1 sb2
      go_wp2_with fail
      refine (HFi.out w15 hb115).mono ?_
      rintro e v1 ⟨rfl, hc1⟩
      have hd1 := bthen hb115 hc1
      go_wp2_with fail
      refine (HFs.out v1 hd1).mono ?_
      rintro e v2 ⟨rfl, hc2⟩
      have hd2 := bthen hd1 hc2
      go_wp2_with fail
      have Hyv := Lib.hid (Hy13.out.next (bthen hb1315 (bthen hc1 hc2)))
      have hx1 : ∃ b' o', x.code = x.code ∧ Below v2.heap.size v2 v2 := ⟨0, 0, rfl, Below.refl _ _⟩
      clear hx1
      refine (HPY.out v2 hd2 (Hyv.out)).mono ?_
      rintro e v3 ⟨rfl, hc3⟩
      have hd3 := bthen hd2 hc3
      go_wp2_with fail
      refine (HGY.out v3 hd3 (Hyv.out.next hc3)).mono ?_
      rintro e v4 ⟨rfl, hc4⟩
      have hd4 := bthen hd3 hc4
      obtain ⟨_, pA, pc, c0, c1, c2, c3, c4, _⟩ := (HV1.out.next hd4).cells Hf3.out
      rw [F5.out] at c1
      obtain ⟨by', oy, e0, _, qy⟩ := (Hyv.out.next (bthen hc3 hc4)).at1 Hys.out rfl
      rw [Nat.mul_one] at qy
      subst e0
      go_wp2_with fail
      go_ret
      exact ⟨rfl, hb1.trans (hd4.mono hb1.size)⟩
    · have hbad' : (bad == 0) = false := by simp [hbad]
      have hbad2 : (bad != 0) = true := by simp [hbad]
      go_wp2_with fail
      go_ret
      exact ⟨rfl, hb1.trans (hb115.mono hb1.size)⟩
  · have htwo' : (two == 0) = false := by simp [htwo]
    have htwo2 : (two != 0) = true := by simp [htwo]

    by_cases hbad : bad = 0
    · subst hbad
      obtain ⟨k, s, x, f1, f2, f3, f4, f5, f6, f7, f8, f9, f10, f11⟩ := HL.out rfl
      try simp only at f7
      have eF : findR vs name = ((k : Int), 0) := by
        unfold findR
        rw [if_pos f10, if_neg (by rw [f1]; omega), f1]
      rw [eF] at HFi HFs
      clear eF
      have g1 := (f11 PartT.price).2
      have g2 := (f11 PartT.grams).2
      try simp only at g1 g2
      rw [← EP.out] at g1
      rw [← EG.out] at g2
      simp only at g1 g2
      have hyl : y.length = 8 := by rw [f7, List.length_set, f8]
      have hys : y[s]? = some name := by rw [f7, List.getElem?_set_self (by omega)]
      have hxo := partsB_at f10 f3
      have p1 := hxo.price0
      have p2 := hxo.price1
      have p3 := hxo.grams0
      have p4 := hxo.grams1
      have HPY := Lib.hid (fun (v : World) (hv : Below w1.heap.size w1 v) (h : Rd v v.heap.size 1 tC YA y) => HPy.out v YA yc y hv h (by omega))
      have HGY := Lib.hid (fun (v : World) (hv : Below w1.heap.size w1 v) (h : Rd v v.heap.size 1 tC YA y) => HGy.out v YA yc y hv h (by omega))
      rw [g1] at HPY
      rw [g2] at HGY
      obtain ⟨bl, ol, rfl⟩ := HV1.out.addr (by omega)
      have sb1 : 0 ≤ pr ∧ pr ≤ 80000000 := by
        have h1 := sumTo_bd (vs := vs) (f := PartT.price) bs (M := 10000000) (by omega) (fun x hx => ⟨(partsB_mem f10 hx).price0, (partsB_mem f10 hx).price1⟩) bs.length
        have h2 := congrArg Prod.fst EP.out
        simp only [sumR, if_pos f9] at h2
        rw [f8] at h1 h2
        omega
      have sb2 : 0 ≤ gr ∧ gr ≤ 80000000 := by
        have h1 := sumTo_bd (vs := vs) (f := PartT.grams) bs (M := 100000) (by omega) (fun x hx => ⟨(partsB_mem f10 hx).grams0, (partsB_mem f10 hx).grams1⟩) bs.length
        have h2 := congrArg Prod.fst EG.out
        simp only [sumR, if_pos f9] at h2
        rw [f8] at h1 h2
        omega
      have hi1 := IntWalk.i64_in (n := pr + x.price) (by omega)
      have hi2 := IntWalk.i64_in (n := gr + x.grams) (by omega)
      have Hys := Lib.hid hys
      have Hf3 := Lib.hid f3
      clear hys
      have hsy : s < y.length := by omega
      have F5 := Lib.hid f5
      have F4 := Lib.hid f4
      clear HPy HGy g1 g2 f1 f3 f4 f5 f6 f7 f8 f9 f10 f11 hxo HL hyl p1 p2 p3 p4 sb1 sb2
      go_wp2_with fail
      refine (HFi.out w13 hb113).mono ?_
      rintro e v1 ⟨rfl, hc1⟩
      have hd1 := bthen hb113 hc1
      go_wp2_with fail
      refine (HFs.out v1 hd1).mono ?_
      rintro e v2 ⟨rfl, hc2⟩
      have hd2 := bthen hd1 hc2
      go_wp2_with fail
      have Hyv := Lib.hid (Hy13.out.next (bthen hc1 hc2))
      have hx1 : ∃ b' o', x.code = x.code ∧ Below v2.heap.size v2 v2 := ⟨0, 0, rfl, Below.refl _ _⟩
      clear hx1
      refine (HPY.out v2 hd2 (Hyv.out)).mono ?_
      rintro e v3 ⟨rfl, hc3⟩
      have hd3 := bthen hd2 hc3
      go_wp2_with fail
      refine (HGY.out v3 hd3 (Hyv.out.next hc3)).mono ?_
      rintro e v4 ⟨rfl, hc4⟩
      have hd4 := bthen hd3 hc4
      obtain ⟨_, pA, pc, c0, c1, c2, c3, c4, _⟩ := (HV1.out.next hd4).cells Hf3.out
      rw [F5.out] at c1
      obtain ⟨by', oy, e0, _, qy⟩ := (Hyv.out.next (bthen hc3 hc4)).at1 Hys.out rfl
      rw [Nat.mul_one] at qy
      subst e0
      go_wp2_with fail
      go_ret
      exact ⟨rfl, hb1.trans (hd4.mono hb1.size)⟩
    · have hbad' : (bad == 0) = false := by simp [hbad]
      have hbad2 : (bad != 0) = true := by simp [hbad]
      go_wp2_with fail
      go_ret
      exact ⟨rfl, hb1.trans (hb113.mono hb1.size)⟩

set_option maxRecDepth 100000 in
theorem fnBuilds_lifted (os : Os) (started : os.Started) (H : Type) (enc : TypeId × Value → H) :
    ReturnsInHanded {} Try.checked os 7 .any (Rows.fnBuildsSpec.pre6 enc Try.prog Try.f7 Rows.fnBuildsRow.domain false) (Rows.fnBuildsSpec.post enc Try.prog Try.f7 false true false false) := by
  refine returnsInHanded_of_change (C := Try.checked) own started (by kernel_rfl) Try.func7
    (ChangeSpec.witness6 (enc := enc) (C := Try.checked) false ⟨#[], #[.slice none 0 0], []⟩ 8 (by kernel_rfl) (by kernel_rfl) (by kernel_rfl) (by kernel_rfl)) ?_
  intro W base args ds gs before hval0 hW hcnd _
  have hval : ∀ (j : Nat) t v, Try.f7.params[j]? = some t → args[j]? = some v → Value.okWide Try.prog W .any base t v := hval0
  have hlt : ∀ x ∈ before, x.block < W.heap.size := fun x hx => hW.lt x hx
  have hW' := hW
  obtain ⟨p, q, hA0, hV, rfl, hfz, hnd⟩ := hW
  have hA : DataW.TrodAll enc Try.prog W 0 (fun _ => true) true Try.f7.params.toList args.toList ds p := hA0
  rw [Try.params7] at hA hval
  obtain ⟨v0, d0, rfl, rfl, h0⟩ := trodAll_one hA
  obtain ⟨A, c, xs, rfl, hm, hx, hr⟩ := open_bytes (hval 0 22 v0 rfl rfl) h0
  refine (law_FnBuilds A c xs W hr hx hm).mono fun e W' ⟨he, hb⟩ => ?_
  subst he
  exact ⟨_, rfl, law_post (tb := 4) laidOut (by kernel_rfl) rfl rfl Try.underlying4 hW' rfl hb⟩
theorem fnBuilds_closed : joinedFacts Try.prog 7 Try.f7 Rows.fnBuildsSpec Rows.fnBuildsRow = true := by
  unfold joinedFacts; rw [mayEnter_yes, liftsFinal_no, make_cut]; kernel_rfl
theorem fnBuilds_holds : Rows.FnBuildsSaid :=
  OpenClaim.holds_of_wide 7 Try.f7 rfl rfl rfl rfl rfl rfl rfl ⟨rfl, rfl, rfl, rfl, rfl⟩ rfl rfl rfl rfl rfl (by kernel_rfl) Try.func7 fnBuilds_closed
    (of_decide_eq_true (by kernel_rfl)) (by unfold Func.isWrapper; rw [if_neg (of_decide_eq_false (by kernel_rfl))]; exact ⟨rfl, rfl⟩)
    (fun os started H enc _ => fnBuilds_lifted os started H enc)
#print axioms fnBuilds_holds

end Go.Proofs.Ytpdkhmnbabccnaa
