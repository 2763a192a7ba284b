/- DERIVED. The law on joints: a build is sound where no joint is open or broken, no joint is both, and a part that fits breaks none at its slot. By program (laws17f.py). -/
import Derived.Test.YtlhbjgbkpjlacaaPut
import Derived.Test.YtlhbjgbkpjlacaaOwn3
import Derived.Test.YtlhbjgbkpjlacaaDraw4
import Derived.Test.YtlhbjgbkpjlacaaInner
import Derived.Test.YtlhbjgbkpjlacaaFind
import Derived.Test.YtlhbjgbkpjlacaaIdx
import Derived.Test.YtlhbjgbkpjlacaaDraw7
import Derived.Test.YtlhbjgbkpjlacaaFlJoint
import Derived.Test.YtlhbjgbkpjlacaaKitPart
import Derived.Test.YtlhbjgbkpjlacaaRunA
import Derived.Test.YtlhbjgbkpjlacaaSums
import Derived.Test.YtlhbjgbkpjlacaaJList
import Derived.Test.YtlhbjgbkpjlacaaFit
import Derived.Test.YtlhbjgbkpjlacaaSl
import Derived.Test.YtlhbjgbkpjlacaaDraw
import Derived.Test.YtlhbjgbkpjlacaaOpen
import Derived.Test.YtlhbjgbkpjlacaaHead
import Derived.Deep.RegionHeld3
import Derived.Deep.RegionLaw
import Derived.Lib.SmallJoins
import Derived.Deep.Slices
import Derived.Deep.Fields
import Derived.ChangeMaps5
import Derived.Carry
import Derived.Deep.CutRange

namespace Go.Proofs.Ytlhbjgbkpjlacaa
set_option maxRecDepth 100000
open Go.RowKit

theorem flat_map_tC : ∀ l : List ByteArray, l.flatMap tC = l.map Value.string
  | [] => rfl
  | x :: l => by rw [List.flatMap_cons, flat_map_tC l]; rfl
theorem Own.set1 {w : World} {base g c i : Nat} {E : TypeId} {xs : List ByteArray} (h : Own w base E 1 tC (some ⟨g, 0, none⟩) c xs) (hi : i < xs.length) (v : ByteArray) : Own (w.setCell ⟨g, i, none⟩ (.string v)) base E 1 tC (some ⟨g, 0, none⟩) c (xs.set i v) := by
  refine ⟨by rw [flat_map_tC, List.length_map, List.length_set, Nat.mul_one], ?_⟩
  rcases h.2 with ⟨h2, _⟩ | ⟨g', cap, cur, e, hB, hg, h3, h4, h5, h6⟩
  · cases h2
  · simp only [Value.slice.injEq, Option.some.injEq, Addr.mk.injEq] at e
    obtain ⟨⟨rfl, _⟩, _, rfl⟩ := e
    refine Or.inr ⟨g, c, cur.setIfInBounds i (.string v), by rw [List.length_set], hB, by simp [World.setCell, Array.getElem?_modify, hg], by rw [List.length_set]; exact h3, h4, by simpa using h5, ?_⟩
    rw [flat_map_tC] at h6 ⊢
    rw [List.map_set, ← h6, List.length_set, Nat.mul_one, Array.toList_setIfInBounds, List.take_set]
def GivesOwnO {α : Type} (w : World) (E : TypeId) (sz : Nat) (f : α → List Value) (xs : List α) (e : Ending) (w' : World) : Prop :=
  ∃ A c, e = .returned (.slice A xs.length c) ∧ Own w' w.heap.size E sz f A c xs ∧ Below w.heap.size w w'
def GivesResO {α : Type} (w : World) (E : TypeId) (sz : Nat) (f : α → List Value) (r : List α × Int) (e : Ending) (w' : World) : Prop :=
  ∃ A c, e = .returned (.tuple #[.slice A r.1.length c, .int .i64 r.2]) ∧ Own w' w.heap.size E sz f A c r.1 ∧ Below w.heap.size w w'

set_option maxHeartbeats 400000 in
theorem l17With_own (A' : Option Addr) (c' : Nat) (bs : List ByteArray) (s : Nat) (code : ByteArray) (w : World) (hrd : Rd w w.heap.size 1 tC A' bs) (hm' : bs.length ≤ 1048576) (hs : s < bs.length) :
    Calls Try.prog 119 #[.slice A' bs.length c', .int .i64 (s : Int), .string code] w (GivesOwnO w 9 1 tC (bs.set s code)) := by
  have hrd := hrd.below (balloc w (.cells #[] 9))
  go_enter Try.func119, Try.ntmps119
  go_wp2_with (at_builtin; refine wpList_append_slice rfl _ _ _ rfl (w.heap.size) 9 (.string ⟨#[]⟩) 1 16 Try.underlying58 infoString rfl (by omega) (by omega) tC [] bs (some ⟨w.heap.size, 0, none⟩) 0 rfl (Own.made _ (by omega) rfl) A' c' _ rfl hrd tC_len tC_one (by simp; omega) (by simp <;> omega) ?_)
  intro A2 c2 w4 hown4 hb4 hfar
  obtain ⟨g, m, rfl, hg1, hg2, hrow, hml, _⟩ := hown4.flat tC_len (by omega)
  obtain ⟨z0, hz0⟩ := hrow.cell (j := s) (by omega)
  have hf0 := hrow.frozen s
  have HF := Lib.hid hown4
  have HB := Lib.hid hb4
  clear hown4 hfar hb4
  go_wp2_with fail
  go_ret
  exact ⟨some ⟨g, 0, none⟩, c2, by rw [List.length_set]; rfl, Own.set1 HF.out (by omega) code, ((balloc w _).trans HB.out).setCell (p := ⟨g, s, none⟩) hg1 _⟩

set_option maxHeartbeats 400000 in
theorem PutPart_specO (A A' : Option Addr) (c c' : Nat) (vs : List PartT) (bs : List ByteArray) (code : ByteArray) (w : World) (hr : RdV w w.heap.size A vs) (hr' : Rd w w.heap.size 1 tC A' bs) (hs : SmallV vs) (hm' : bs.length ≤ 1048576) :
    Calls Try.prog 149 #[.slice A vs.length c, .slice A' bs.length c', .string code] w (GivesResO w 9 1 tC (putR vs bs code)) := by
  have hJ := l17Code_any A none A' c 0 c' vs [] bs 0 w hr (fun h => absurd h (by simp)) hr' hs (by simp) hm'
  rw [codeL_nil] at hJ
  have HN : Hid (∀ v : World, RdV v v.heap.size A vs → Calls Try.prog 98 #[.slice A vs.length c, .string code] v fun e w' => e = .returned (.int .i64 (findI vs code)) ∧ Below v.heap.size v w') := fun v hv => l16Find_any A c vs code v hv hs.1
  have HK : Hid (∀ v : World, RdV v v.heap.size A vs → Calls Try.prog 100 #[.slice A vs.length c, .string code] v fun e w' => e = .returned (.int .i64 (codeI vs code)) ∧ Below v.heap.size v w') := fun v hv => l16Code_any A c vs code v hv hs
  have HKC := Lib.hid (codeI_cases vs code)
  have HW : Hid (∀ (v : World) (s : Nat), Rd v v.heap.size 1 tC A' bs → s < bs.length → Calls Try.prog 119 #[.slice A' bs.length c', .int .i64 (s : Int), .string code] v (GivesOwnO v 9 1 tC (bs.set s code))) := fun v s hv h => l17With_own A' c' bs s code v hv hm' h
  have hm := hs.1
  have hbd := findI_bd vs code hs.1
  clear hs
  by_cases hB : buildB vs bs = true
  · obtain ⟨⟨hP, hl8, _⟩, _⟩ := buildB_codes hB
    have hle8 : 8 ≤ bs.length := by omega
    have Hl8 := Lib.hid hl8; clear hl8
    have HR0 : Hid (putR vs bs code = if findI vs code < 0 then ([], 4) else (if textAt bs (slotAt vs (findI vs code)) = noText then (setT bs (slotAt vs (findI vs code)) code, 0) else ([], 5))) := by unfold Hid putR; rw [if_pos hB]
    rw [if_pos hB] at hJ
    have HJ := Lib.hid hJ; clear hJ hB
    have HP := Lib.hid hP; clear hP
    have HFC := Lib.hid (findI_cases vs code)
    generalize putR vs bs code = R at HR0 ⊢
    by_cases hn : findI vs code < 0
    · have HR : Hid (R = ([], 4)) := by unfold Hid; rw [HR0.out, if_pos hn]
      clear HR0 HFC
      have hk : codeI vs code = 4 := by
        rcases HKC.out with ⟨h, _⟩ | ⟨_, _, h⟩ | ⟨_, h, _⟩
        · rw [HP.out] at h; cases h
        · exact h
        · omega
      rw [hk] at HK
      clear hk HKC
      go_enter Try.func149, Try.ntmps149
      go_wp2_with fail
      refine HJ.out.mono ?_
      rintro e w1 ⟨rfl, hb1⟩
      go_wp2_with fail
      refine (HK.out w1 (hr.next hb1)).mono ?_
      rintro e w2 ⟨rfl, hb2⟩
      go_wp2_with fail
      go_ret2
      exact ⟨none, 0, by rw [HR.out]; rfl, by rw [HR.out]; exact Own.nil, bthen hb1 hb2⟩
    · have hex : ∃ (k : Nat) (x : PartT), findI vs code = (k : Int) ∧ k < vs.length ∧ vs[k]? = some x := by
        rcases HFC.out with ⟨e, _⟩ | ⟨k, x, e, hk, hx, _⟩
        · omega
        · exact ⟨k, x, e, hk, hx⟩
      obtain ⟨k, x, ek, hk, hxk⟩ := hex
      have hxo := partsB_at HP.out hxk
      obtain ⟨s, hse⟩ := Int.eq_ofNat_of_zero_le hxo.slot0
      have hs7 := hxo.slot7
      rw [hse] at hs7
      have hslt : s < bs.length := by omega
      rw [if_neg hn, ek, slotAt_eq hxk, hse] at HR0
      rw [ek] at HN
      have hk0 : codeI vs code = 0 := by
        rcases HKC.out with ⟨h, _⟩ | ⟨_, h, _⟩ | ⟨_, _, h⟩
        · rw [HP.out] at h; cases h
        · omega
        · exact h
      rw [hk0] at HK
      clear hk0 HKC
      have Hek := Lib.hid ek
      clear ek HFC hn hbd hxo
      have hxs : bs[s]? = some bs[s] := List.getElem?_eq_getElem hslt
      have ets : textAt bs (s : Int) = bs[s] := textAt_eq (by simp)
      rw [ets] at HR0
      obtain ⟨bl, ol, rfl⟩ := hr.addr (by omega)
      have hsx : Hid (∀ v : World, Below w.heap.size w v → v.cell? ⟨bl, ol + k * 5 + 1, none⟩ = some (.int .i64 (s : Int))) := fun v hv => by
        obtain ⟨_, _, _, _, h1, _⟩ := (hr.below hv).cells hxk
        rw [h1, hse]
      obtain ⟨b', o', rfl, hB', qs⟩ := hr'.at1 hxs rfl
      rw [Nat.mul_one] at qs
      have hbl : bl < w.heap.size := (hr.cells hxk).1
      clear hxs ets hse
      generalize bs[s] = t at qs HR0
      have HR1 : Hid (R = if t = noText then (bs.set s code, 0) else ([], 5)) := HR0.out
      clear HR0
      have hxk' := Lib.hid hxk; clear hxk
      by_cases ht : t = noText
      · have HR : Hid (R = (bs.set s code, 0)) := by unfold Hid; rw [HR1.out, if_pos ht]
        have htl : t.toList = [] := by rw [ht]; exact noText_list
        clear ht HR1
        go_enter Try.func149, Try.ntmps149
        go_wp2_with fail
        refine HJ.out.mono ?_
        rintro e w1 ⟨rfl, hb1⟩
        go_wp2_with fail
        refine (HK.out w1 (hr.next hb1)).mono ?_
        rintro e w2' ⟨rfl, hb2'⟩
        have hb12' := bthen hb1 hb2'
        go_wp2_with fail
        refine (HN.out w2' (hr.next hb12')).mono ?_
        rintro e w2 ⟨rfl, hb2⟩
        have hb12 := bthen hb12' hb2
        have hsl := hsx.out w2 hb12
        have qs2 := (hb12.cell (p := ⟨b', o' + s, none⟩) (World.block_lt_of_cell? w _ qs)).trans qs
        have hs12 := hb12.size
        go_wp2_with fail
        refine (HW.out w2 s (hr'.next hb12) hslt).mono ?_
        rintro e w3 ⟨A3, c3, rfl, hf3, hb3⟩
        go_wp2_with fail
        go_ret2
        exact ⟨A3, c3, by rw [HR.out]; simp only [List.length_set]; rfl, by rw [HR.out]; exact hf3.base hs12, bthen hb12 hb3⟩
      · have HR : Hid (R = ([], 5)) := by unfold Hid; rw [HR1.out, if_neg ht]
        have htl := text_not ht
        have htb : (t.toList == []) = false := by simp [htl]
        have hti : t.toList.isEmpty = false := by simp [htl]
        clear ht HR1
        go_enter Try.func149, Try.ntmps149
        go_wp2_with fail
        refine HJ.out.mono ?_
        rintro e w1 ⟨rfl, hb1⟩
        go_wp2_with fail
        refine (HK.out w1 (hr.next hb1)).mono ?_
        rintro e w2' ⟨rfl, hb2'⟩
        have hb12' := bthen hb1 hb2'
        go_wp2_with fail
        refine (HN.out w2' (hr.next hb12')).mono ?_
        rintro e w2 ⟨rfl, hb2⟩
        have hb12 := bthen hb12' hb2
        have hsl := hsx.out w2 hb12
        have qs2 := (hb12.cell (p := ⟨b', o' + s, none⟩) (World.block_lt_of_cell? w _ qs)).trans qs
        have hs12 := hb12.size
        go_wp2_with fail
        go_ret2
        exact ⟨none, 0, by rw [HR.out]; rfl, by rw [HR.out]; exact Own.nil, hb12⟩
  · have HR : Hid (putR vs bs code = ([], 1)) := by unfold Hid putR; rw [if_neg hB]
    rw [if_neg hB] at hJ
    have HJ := Lib.hid hJ; clear hJ hB
    generalize putR vs bs code = R at HR ⊢
    go_enter Try.func149, Try.ntmps149
    go_wp2_with fail
    refine HJ.out.mono ?_
    rintro e w1 ⟨rfl, hb1⟩
    go_wp2_with fail
    go_ret2
    exact ⟨none, 0, by rw [HR.out]; rfl, by rw [HR.out]; exact Own.nil, hb1⟩

end Go.Proofs.Ytlhbjgbkpjlacaa

namespace Go.Proofs.Ytlhbjgbkpjlacaa
set_option maxRecDepth 100000
open Go.RowKit

theorem Own.setAt {α : Type} {w : World} {base sz c lo hi : Nat} {E : TypeId} {f : α → List Value} {A : Option Addr} {xs : List α} {w' : World} (h : Own w base E sz f A c xs) (ho : Only lo hi w w') (hh : hi ≤ base) : Own w' base E sz f A c xs := h.only ho hh
/-- A list that grows, a source in hand; below the base nothing but the source turns. -/
structure GrowSt {α : Type} (V w : World) (b : Nat) (A : Option Addr) (c : Nat) (xs : List Int) (E : TypeId) (sz : Nat) (f : α → List Value) (LA : Option Addr) (lc : Nat) (ms : List α) : Prop where
  feed : Feed w b A c xs
  own : Own w V.heap.size E sz f LA lc ms
  old : Only b (b + 1) V w
  lt : b < V.heap.size
section
variable {α : Type} {V w w' : World} {b c lc sz : Nat} {A LA : Option Addr} {xs : List Int} {E : TypeId} {f : α → List Value} {ms : List α}
theorem GrowSt.made (hF : Feed w b A c xs) : GrowSt w (w.alloc (.cells #[] E)) b A c xs E sz f (some ⟨w.heap.size, 0, none⟩) 0 ([] : List α) :=
  ⟨hF.next (balloc _ _), Own.made _ (Nat.le_refl _) rfl, Only.alloc _, hF.src.lt⟩
theorem GrowSt.turn (h : GrowSt V w b A c xs E sz f LA lc ms) (hF : Feed w' b A c xs) (hO : Only b (b + 1) w w') : GrowSt V w' b A c xs E sz f LA lc ms := by
  have := h.lt
  exact ⟨hF, h.own.only hO (by omega), h.old.trans hO, h.lt⟩
theorem GrowSt.next (h : GrowSt V w b A c xs E sz f LA lc ms) (hb : Below w.heap.size w w') : GrowSt V w' b A c xs E sz f LA lc ms := h.turn (h.feed.next hb) (Only.of_below hb)
/-- One more. -/
theorem GrowSt.grow {w4 : World} {m : α} {A2 : Option Addr} {c2 : Nat} {o : Obj} (h : GrowSt V w b A c xs E sz f LA lc ms) (hown : Own w4 V.heap.size E sz f A2 c2 (ms ++ [m])) (hb4 : Below V.heap.size (w.alloc o) w4) : GrowSt V w4 b A c xs E sz f A2 c2 (ms ++ [m]) := by
  have hlt := h.lt
  have hVs := h.old.size
  have hb24 : Below V.heap.size w w4 := ((balloc w o).mono hVs).trans hb4
  have ho2 := h.old
  exact ⟨h.feed.under hb24 hlt, hown, ⟨hb24.os.trans ho2.os, hb24.tape.trans ho2.tape, hb24.output.trans ho2.output, Nat.le_trans ho2.size hb24.size, fun k hk hn => (hb24.block k hk).trans (ho2.block k hk hn)⟩, hlt⟩
end
/-- A list drawn: any list of at most m elements. -/
def DrawnList {α : Type} (m : Nat) (E : TypeId) (sz : Nat) (f : α → List Value) (G : α → Prop) (w : World) (b : Nat) (A : Option Addr) (c : Nat) (xs : List Int) (e : Ending) (w' : World) : Prop :=
  ∃ (LA : Option Addr) (lc : Nat) (ms : List α), e = .returned (.slice LA ms.length lc) ∧ Flat w' w.heap.size w'.heap.size E sz f LA ms ∧ ms.length ≤ lc ∧ ms.length ≤ m ∧ (∀ x ∈ ms, G x) ∧ Feed w' b A c xs ∧ Only b (b + 1) w w'
theorem GrowSt.drawn {α : Type} {V w : World} {b c lc sz m : Nat} {A LA : Option Addr} {xs : List Int} {E : TypeId} {f : α → List Value} {G : α → Prop} {ms : List α} (h : GrowSt V w b A c xs E sz f LA lc ms) (hf : ∀ x, (f x).length = sz) (hm : ms.length ≤ m) (hG : ∀ x ∈ ms, G x) : DrawnList m E sz f G V b A c xs (.returned (.slice LA ms.length lc)) w :=
  ⟨LA, lc, ms, rfl, h.own.flat hf, h.own.cap, hm, hG, h.feed, h.old⟩
theorem mem_snoc {α : Type} {G : α → Prop} {ms : List α} {x : α} (h : ∀ y ∈ ms, G y) (hx : G x) : ∀ y ∈ ms ++ [x], G y := fun y hy => by
  rcases List.mem_append.1 hy with hy | hy
  · exact h y hy
  · simp only [List.mem_singleton] at hy
    subst hy
    exact hx
def lenOf : Value → Nat
  | .slice _ n _ => n
  | _ => 0

end Go.Proofs.Ytlhbjgbkpjlacaa

namespace Go.Proofs.Ytlhbjgbkpjlacaa
set_option maxRecDepth 100000
open Go.RowKit

def GivesCopy (w : World) (x : PartT) (e : Ending) (w' : World) : Prop :=
  ∃ A' c', e = .returned (.agg #[.string x.code, .int .i64 x.slot, .slice A' x.ports.length c', .int .i64 x.price, .int .i64 x.grams]) ∧ Flat w' w.heap.size w'.heap.size 23 3 portC A' x.ports ∧ x.ports.length ≤ c' ∧ Below w.heap.size w w'
theorem set5_heap {w : World} {g1 g : Nat} (h : g ≠ g1) (u0 u1 u2 u3 u4 : Value) : (((((w.setCell ⟨g1, 0, none⟩ u0).setCell ⟨g1, 1, none⟩ u1).setCell ⟨g1, 2, none⟩ u2).setCell ⟨g1, 3, none⟩ u3).setCell ⟨g1, 4, none⟩ u4).heap[g]? = w.heap[g]? := by
  rw [Below.heap_setCell _ _ _ _ (by exact h), Below.heap_setCell _ _ _ _ (by exact h), Below.heap_setCell _ _ _ _ (by exact h), Below.heap_setCell _ _ _ _ (by exact h), Below.heap_setCell _ _ _ _ (by exact h)]
theorem portC_one : ∀ y, ∀ u ∈ portC y, u.oneCell' = true := fun y u hu => by
  simp only [portC, List.mem_cons, List.not_mem_nil, or_false] at hu
  rcases hu with rfl | rfl | rfl <;> rfl

set_option maxHeartbeats 1000000 in
theorem copyPart_any (x : PartT) (pA : Option Addr) (pc : Nat) (w : World) (hr : Rd w w.heap.size 3 portC pA x.ports) (hm : x.ports.length ≤ 1048576) :
    Calls Try.prog 96 #[.agg #[.string x.code, .int .i64 x.slot, .slice pA x.ports.length pc, .int .i64 x.price, .int .i64 x.grams]] w (GivesCopy w x) := by
  have hb3 : Below w.heap.size w (((w.alloc (.cells #[.string x.code, .int .i64 x.slot, .slice pA x.ports.length pc, .int .i64 x.price, .int .i64 x.grams] 37)).alloc (.cells #[.string ⟨#[]⟩, .int .i64 0, .slice none 0 0, .int .i64 0, .int .i64 0] 37)).alloc (.cells #[] 23)) := bthen (bthen (balloc w _) (balloc _ _)) (balloc _ _)
  have hown0 : Own (((w.alloc (.cells #[.string x.code, .int .i64 x.slot, .slice pA x.ports.length pc, .int .i64 x.price, .int .i64 x.grams] 37)).alloc (.cells #[.string ⟨#[]⟩, .int .i64 0, .slice none 0 0, .int .i64 0, .int .i64 0] 37)).alloc (.cells #[] 23)) w.heap.size 23 3 portC (some ⟨w.heap.size + 1 + 1, 0, none⟩) 0 [] := by
    have := Own.made (w := ((w.alloc (.cells #[.string x.code, .int .i64 x.slot, .slice pA x.ports.length pc, .int .i64 x.price, .int .i64 x.grams] 37)).alloc (.cells #[.string ⟨#[]⟩, .int .i64 0, .slice none 0 0, .int .i64 0, .int .i64 0] 37))) (base := w.heap.size) (E := 23) (sz := 3) (f := portC) #[] (by simp; omega) rfl
    simpa using this
  have hrW := hr.below hb3
  go_enter Try.func96, Try.ntmps96
  go_wp2_with (at_builtin; refine wpList_append_slice rfl _ _ _ rfl w.heap.size 23 (.agg #[.int .i64 0, .int .i64 0, .bool false]) 3 24 Try.underlying35 infoPort rfl (by omega) (by omega) portC [] x.ports (some ⟨w.heap.size + 1 + 1, 0, none⟩) 0 rfl hown0 pA pc w.heap.size rfl hrW portC_len portC_one (by simp; omega) (by simp; omega) ?_)
  intro A2 c2 w4 hown4 hb4 hfar
  have hapart : ∀ g, g < w.heap.size + 2 → Apart (some ⟨w.heap.size + 1 + 1, 0, none⟩) g := fun g hg b o e => by
    simp only [Option.some.injEq, Addr.mk.injEq] at e
    omega
  have h30 : (((w.alloc (.cells #[.string x.code, .int .i64 x.slot, .slice pA x.ports.length pc, .int .i64 x.price, .int .i64 x.grams] 37)).alloc (.cells #[.string ⟨#[]⟩, .int .i64 0, .slice none 0 0, .int .i64 0, .int .i64 0] 37)).alloc (.cells #[] 23)).heap.size = w.heap.size + 3 := by simp
  have q0 := hfar w.heap.size (by omega) (hapart _ (by omega))
  have q1 := hfar (w.heap.size + 1) (by omega) (hapart _ (by omega))
  have hs4 := hb4.size
  have y0 : w4.cell? ⟨w.heap.size, 0, none⟩ = some (.string x.code) := (World.cell?_of_block (a := ⟨w.heap.size, 0, none⟩) q0.2).trans (by go_simp)
  have y1 : w4.cell? ⟨w.heap.size, 1, none⟩ = some (.int .i64 x.slot) := (World.cell?_of_block (a := ⟨w.heap.size, 1, none⟩) q0.2).trans (by go_simp)
  have y2 : w4.cell? ⟨w.heap.size, 2, none⟩ = some (.slice pA x.ports.length pc) := (World.cell?_of_block (a := ⟨w.heap.size, 2, none⟩) q0.2).trans (by go_simp)
  have y3 : w4.cell? ⟨w.heap.size, 3, none⟩ = some (.int .i64 x.price) := (World.cell?_of_block (a := ⟨w.heap.size, 3, none⟩) q0.2).trans (by go_simp)
  have y4 : w4.cell? ⟨w.heap.size, 4, none⟩ = some (.int .i64 x.grams) := (World.cell?_of_block (a := ⟨w.heap.size, 4, none⟩) q0.2).trans (by go_simp)
  have z0 : w4.cell? ⟨w.heap.size + 1, 0, none⟩ = some (.string ⟨#[]⟩) := (World.cell?_of_block (a := ⟨w.heap.size + 1, 0, none⟩) q1.2).trans (by go_simp)
  have z1 : w4.cell? ⟨w.heap.size + 1, 1, none⟩ = some (.int .i64 0) := (World.cell?_of_block (a := ⟨w.heap.size + 1, 1, none⟩) q1.2).trans (by go_simp)
  have z2 : w4.cell? ⟨w.heap.size + 1, 2, none⟩ = some (.slice none 0 0) := (World.cell?_of_block (a := ⟨w.heap.size + 1, 2, none⟩) q1.2).trans (by go_simp)
  have z3 : w4.cell? ⟨w.heap.size + 1, 3, none⟩ = some (.int .i64 0) := (World.cell?_of_block (a := ⟨w.heap.size + 1, 3, none⟩) q1.2).trans (by go_simp)
  have z4 : w4.cell? ⟨w.heap.size + 1, 4, none⟩ = some (.int .i64 0) := (World.cell?_of_block (a := ⟨w.heap.size + 1, 4, none⟩) q1.2).trans (by go_simp)
  have f0 : ∀ j, w4.frozen? ⟨w.heap.size, j, none⟩ = false := fun j => (World.frozen?_of_block (a := ⟨w.heap.size, j, none⟩) q0.2).trans (by go_simp)
  have f1 : ∀ j, w4.frozen? ⟨w.heap.size + 1, j, none⟩ = false := fun j => (World.frozen?_of_block (a := ⟨w.heap.size + 1, j, none⟩) q1.2).trans (by go_simp)
  have hcap := hown4.cap
  have HF := Lib.hid ((hown4.flat portC_len)); clear hown4
  have Q0 := Lib.hid q0.1
  have Q1 := Lib.hid q1.1
  have HB := Lib.hid (hb3.trans hb4)
  clear hfar hb4 q0 q1 hapart hown0 hrW hb3
  go_wp2_with fail
  refine bodyPost_ret (v := .agg #[.string x.code, .int .i64 x.slot, .slice A2 x.ports.length c2, .int .i64 x.price, .int .i64 x.grams]) ?_ rfl ?_
  · simp [results, Try.results96, go_sem, cell_set, z0, z1, z2, z3, z4]
  · have hk : ∀ (u0 u1 u2 u3 u4 u5 : Value) g, g ≠ w.heap.size → g ≠ w.heap.size + 1 → ((((((w4.setCell ⟨w.heap.size, 2, none⟩ u0).setCell ⟨w.heap.size + 1, 0, none⟩ u1).setCell ⟨w.heap.size + 1, 1, none⟩ u2).setCell ⟨w.heap.size + 1, 2, none⟩ u3).setCell ⟨w.heap.size + 1, 3, none⟩ u4).setCell ⟨w.heap.size + 1, 4, none⟩ u5).heap[g]? = w4.heap[g]? := fun u0 u1 u2 u3 u4 u5 g h0 h1 => by
      rw [Below.heap_setCell _ _ _ _ (by exact h1), Below.heap_setCell _ _ _ _ (by exact h1), Below.heap_setCell _ _ _ _ (by exact h1), Below.heap_setCell _ _ _ _ (by exact h1), Below.heap_setCell _ _ _ _ (by exact h1), Below.heap_setCell _ _ _ _ (by exact h0)]
    have h0 : w.heap.size ≤ w.heap.size := Nat.le_refl _
    have h1 : w.heap.size ≤ w.heap.size + 1 := by omega
    refine ⟨A2, c2, rfl, (HF.out.keepAt fun g e _ => hk _ _ _ _ _ _ g (Q0.out g 0 e) (Q1.out g 0 e)).mono (Nat.le_refl _) (by simp [World.setCell]), hcap, ?_⟩
    exact (((((HB.out.setCell (p := ⟨w.heap.size, 2, none⟩) h0 _).setCell (p := ⟨w.heap.size + 1, 0, none⟩) h1 _).setCell (p := ⟨w.heap.size + 1, 1, none⟩) h1 _).setCell (p := ⟨w.heap.size + 1, 2, none⟩) h1 _).setCell (p := ⟨w.heap.size + 1, 3, none⟩) h1 _).setCell (p := ⟨w.heap.size + 1, 4, none⟩) h1 _

set_option maxHeartbeats 400000 in
theorem l16Copy_any (x : PartT) (pA : Option Addr) (pc : Nat) (w : World) (hr : Rd w w.heap.size 3 portC pA x.ports) (hm : x.ports.length ≤ 1048576) :
    Calls Try.prog 99 #[.agg #[.string x.code, .int .i64 x.slot, .slice pA x.ports.length pc, .int .i64 x.price, .int .i64 x.grams]] w (GivesCopy w x) := by
  have hb2 : Below w.heap.size w ((w.alloc (.cells #[.string x.code, .int .i64 x.slot, .slice pA x.ports.length pc, .int .i64 x.price, .int .i64 x.grams] 37)).alloc (.cells #[.string ⟨#[]⟩, .int .i64 0, .slice none 0 0, .int .i64 0, .int .i64 0] 37)) := bthen (balloc w _) (balloc _ _)
  have hrW := hr.below hb2
  go_enter Try.func99, Try.ntmps99
  go_wp2_with fail
  have y0 : ((w.alloc (.cells #[.string x.code, .int .i64 x.slot, .slice pA x.ports.length pc, .int .i64 x.price, .int .i64 x.grams] 37)).alloc (.cells #[.string ⟨#[]⟩, .int .i64 0, .slice none 0 0, .int .i64 0, .int .i64 0] 37)).cell? ⟨w.heap.size, 0, none⟩ = some (.string x.code) := by go_simp
  have y1 : ((w.alloc (.cells #[.string x.code, .int .i64 x.slot, .slice pA x.ports.length pc, .int .i64 x.price, .int .i64 x.grams] 37)).alloc (.cells #[.string ⟨#[]⟩, .int .i64 0, .slice none 0 0, .int .i64 0, .int .i64 0] 37)).cell? ⟨w.heap.size, 1, none⟩ = some (.int .i64 x.slot) := by go_simp
  have y2 : ((w.alloc (.cells #[.string x.code, .int .i64 x.slot, .slice pA x.ports.length pc, .int .i64 x.price, .int .i64 x.grams] 37)).alloc (.cells #[.string ⟨#[]⟩, .int .i64 0, .slice none 0 0, .int .i64 0, .int .i64 0] 37)).cell? ⟨w.heap.size, 2, none⟩ = some (.slice pA x.ports.length pc) := by go_simp
  have y3 : ((w.alloc (.cells #[.string x.code, .int .i64 x.slot, .slice pA x.ports.length pc, .int .i64 x.price, .int .i64 x.grams] 37)).alloc (.cells #[.string ⟨#[]⟩, .int .i64 0, .slice none 0 0, .int .i64 0, .int .i64 0] 37)).cell? ⟨w.heap.size, 3, none⟩ = some (.int .i64 x.price) := by go_simp
  have y4 : ((w.alloc (.cells #[.string x.code, .int .i64 x.slot, .slice pA x.ports.length pc, .int .i64 x.price, .int .i64 x.grams] 37)).alloc (.cells #[.string ⟨#[]⟩, .int .i64 0, .slice none 0 0, .int .i64 0, .int .i64 0] 37)).cell? ⟨w.heap.size, 4, none⟩ = some (.int .i64 x.grams) := by go_simp
  have z0 : ((w.alloc (.cells #[.string x.code, .int .i64 x.slot, .slice pA x.ports.length pc, .int .i64 x.price, .int .i64 x.grams] 37)).alloc (.cells #[.string ⟨#[]⟩, .int .i64 0, .slice none 0 0, .int .i64 0, .int .i64 0] 37)).cell? ⟨w.heap.size + 1, 0, none⟩ = some (.string ⟨#[]⟩) := by go_simp
  have z1 : ((w.alloc (.cells #[.string x.code, .int .i64 x.slot, .slice pA x.ports.length pc, .int .i64 x.price, .int .i64 x.grams] 37)).alloc (.cells #[.string ⟨#[]⟩, .int .i64 0, .slice none 0 0, .int .i64 0, .int .i64 0] 37)).cell? ⟨w.heap.size + 1, 1, none⟩ = some (.int .i64 0) := by go_simp
  have z2 : ((w.alloc (.cells #[.string x.code, .int .i64 x.slot, .slice pA x.ports.length pc, .int .i64 x.price, .int .i64 x.grams] 37)).alloc (.cells #[.string ⟨#[]⟩, .int .i64 0, .slice none 0 0, .int .i64 0, .int .i64 0] 37)).cell? ⟨w.heap.size + 1, 2, none⟩ = some (.slice none 0 0) := by go_simp
  have z3 : ((w.alloc (.cells #[.string x.code, .int .i64 x.slot, .slice pA x.ports.length pc, .int .i64 x.price, .int .i64 x.grams] 37)).alloc (.cells #[.string ⟨#[]⟩, .int .i64 0, .slice none 0 0, .int .i64 0, .int .i64 0] 37)).cell? ⟨w.heap.size + 1, 3, none⟩ = some (.int .i64 0) := by go_simp
  have z4 : ((w.alloc (.cells #[.string x.code, .int .i64 x.slot, .slice pA x.ports.length pc, .int .i64 x.price, .int .i64 x.grams] 37)).alloc (.cells #[.string ⟨#[]⟩, .int .i64 0, .slice none 0 0, .int .i64 0, .int .i64 0] 37)).cell? ⟨w.heap.size + 1, 4, none⟩ = some (.int .i64 0) := by go_simp
  have f1 : ∀ j, ((w.alloc (.cells #[.string x.code, .int .i64 x.slot, .slice pA x.ports.length pc, .int .i64 x.price, .int .i64 x.grams] 37)).alloc (.cells #[.string ⟨#[]⟩, .int .i64 0, .slice none 0 0, .int .i64 0, .int .i64 0] 37)).frozen? ⟨w.heap.size + 1, j, none⟩ = false := fun j => by go_simp
  have hs2 : ((w.alloc (.cells #[.string x.code, .int .i64 x.slot, .slice pA x.ports.length pc, .int .i64 x.price, .int .i64 x.grams] 37)).alloc (.cells #[.string ⟨#[]⟩, .int .i64 0, .slice none 0 0, .int .i64 0, .int .i64 0] 37)).heap.size ≤ w.heap.size + 2 := by simp
  have hs3 : w.heap.size + 2 ≤ ((w.alloc (.cells #[.string x.code, .int .i64 x.slot, .slice pA x.ports.length pc, .int .i64 x.price, .int .i64 x.grams] 37)).alloc (.cells #[.string ⟨#[]⟩, .int .i64 0, .slice none 0 0, .int .i64 0, .int .i64 0] 37)).heap.size := by simp
  generalize ((w.alloc (.cells #[.string x.code, .int .i64 x.slot, .slice pA x.ports.length pc, .int .i64 x.price, .int .i64 x.grams] 37)).alloc (.cells #[.string ⟨#[]⟩, .int .i64 0, .slice none 0 0, .int .i64 0, .int .i64 0] 37)) = W at y0 y1 y2 y3 y4 z0 z1 z2 z3 z4 f1 hs2 hs3 hb2 hrW ⊢
  generalize hg1 : w.heap.size + 1 = g1 at z0 z1 z2 z3 z4 f1 ⊢
  generalize hg0 : w.heap.size = g0 at y0 y1 y2 y3 y4 hb2 hrW hs2 hs3 ⊢
  have hownE : ∀ v : World, v.heap.size = W.heap.size → Own (v.alloc (.cells #[] 23)) g0 23 3 portC (some ⟨W.heap.size, 0, none⟩) 0 [] := fun v hv => by
    have := Own.made (w := v) (base := g0) (E := 23) (sz := 3) (f := portC) #[] (by omega) rfl
    rwa [hv] at this
  have HO := Lib.hid hownE; clear hownE
  have HR : Hid (∀ v : World, Below W.heap.size W v → Rd v g0 3 portC pA x.ports) := fun v hv => hrW.below (hv.mono (by omega))
  have HS : Hid (∀ v : World, v.heap[g0]? = W.heap[g0]? → v.cell? ⟨g0, 0, none⟩ = some (.string x.code) ∧ v.cell? ⟨g0, 1, none⟩ = some (.int .i64 x.slot) ∧ v.cell? ⟨g0, 2, none⟩ = some (.slice pA x.ports.length pc) ∧ v.cell? ⟨g0, 3, none⟩ = some (.int .i64 x.price) ∧ v.cell? ⟨g0, 4, none⟩ = some (.int .i64 x.grams)) := fun v hv => ⟨(World.cell?_of_block (a := ⟨g0, 0, none⟩) hv).trans y0, (World.cell?_of_block (a := ⟨g0, 1, none⟩) hv).trans y1, (World.cell?_of_block (a := ⟨g0, 2, none⟩) hv).trans y2, (World.cell?_of_block (a := ⟨g0, 3, none⟩) hv).trans y3, (World.cell?_of_block (a := ⟨g0, 4, none⟩) hv).trans y4⟩
  have hSA := Lib.hid (fun o : Obj => HS.out (W.alloc o) ((balloc W o).block g0 (by omega)))
  have hSB := Lib.hid (fun o : Obj => HS.out (W.alloc o).drew ((balloc W o).block g0 (by omega)))
  have hg01 : g0 ≠ g1 := by omega
  have hAp : ∀ g, g < W.heap.size → Apart (some ⟨W.heap.size, 0, none⟩) g := fun g hg b o e => by
    simp only [Option.some.injEq, Addr.mk.injEq] at e
    omega
  go_region_held3 (fun w' => w'.cell? ⟨g0, 0, none⟩ = some (.string x.code) ∧ w'.cell? ⟨g0, 1, none⟩ = some (.int .i64 x.slot) ∧ w'.cell? ⟨g0, 2, none⟩ = some (.slice pA x.ports.length pc) ∧ w'.cell? ⟨g0, 3, none⟩ = some (.int .i64 x.price) ∧ w'.cell? ⟨g0, 4, none⟩ = some (.int .i64 x.grams)) (first | (with_reducible exact hS5.out _ _ _ _ _) | (with_reducible exact hSS.out) | (with_reducible exact HS.out _ rfl) | (with_reducible exact hSA.out _) | (with_reducible exact hSB.out _) | go_keep)
    ((refine step_append_slice (by rfl) _ _ _ (by rfl) g0 23 (.agg #[.int .i64 0, .int .i64 0, .bool false]) 3 24 Try.underlying35 infoPort rfl (by omega) (by omega) portC [] x.ports (some ⟨W.heap.size, 0, none⟩) 0 (by rfl) (by first | exact HO.out _ rfl | exact (HO.out _ rfl).keep (bdrew _)) pA pc g0 (by rfl) (by first | exact HR.out _ (balloc _ _) | exact HR.out _ ((balloc _ _).drew)) portC_len portC_one (by simp; omega) (by simp; omega) ?_; intro A2 c2 w4 hown4 hb4 hfar; have hp0 := hfar g0 (by first | omega | (simp; omega)) (hAp g0 (by omega)); have hp1 := hfar g1 (by first | omega | (simp; omega)) (hAp g1 (by omega)); have hq0 : w4.heap[g0]? = W.heap[g0]? := hp0.2.trans ((balloc W _).block g0 (by omega)); have hq1 : w4.heap[g1]? = W.heap[g1]? := hp1.2.trans ((balloc W _).block g1 (by omega)); have f2 : ∀ j, w4.frozen? ⟨g1, j, none⟩ = false := (fun j => (World.frozen?_of_block (a := ⟨g1, j, none⟩) hq1).trans (f1 j)); have x0 := (World.cell?_of_block (a := ⟨g1, 0, none⟩) hq1).trans z0; have x1 := (World.cell?_of_block (a := ⟨g1, 1, none⟩) hq1).trans z1; have x2 := (World.cell?_of_block (a := ⟨g1, 2, none⟩) hq1).trans z2; have x3 := (World.cell?_of_block (a := ⟨g1, 3, none⟩) hq1).trans z3; have x4 := (World.cell?_of_block (a := ⟨g1, 4, none⟩) hq1).trans z4; have hSS := Lib.hid (HS.out _ hq0); have hS5 := Lib.hid (fun u0 u1 u2 u3 u4 : Value => HS.out _ ((set5_heap hg01 u0 u1 u2 u3 u4).trans hq0)); have Q0 := Lib.hid hp0.1; have Q1 := Lib.hid hp1.1; have HF := Lib.hid (hown4.flat portC_len); have HC := Lib.hid hown4.cap; have HB := Lib.hid hb4; clear hfar hp0 hp1 hq0 hq1 hown4 hb4))
  go_wp2_with fail
  refine bodyPost_ret (v := .agg #[.string x.code, .int .i64 x.slot, .slice A2 x.ports.length c2, .int .i64 x.price, .int .i64 x.grams]) ?_ rfl ?_
  · simp [results, Try.results99, go_sem, cell_set, x0, x1, x2, x3, x4]
  · subst hg0
    have h1 : w.heap.size ≤ g1 := by omega
    refine ⟨A2, c2, rfl, (HF.out.keepAt fun g e _ => set5_heap (Q1.out g 0 e) _ _ _ _ _).mono (Nat.le_refl _) (by simp [World.setCell]), HC.out, ?_⟩
    exact ((((((hb2.trans ((balloc W _).drew.mono (by omega))).trans HB.out).setCell (p := ⟨g1, 0, none⟩) h1 _).setCell (p := ⟨g1, 1, none⟩) h1 _).setCell (p := ⟨g1, 2, none⟩) h1 _).setCell (p := ⟨g1, 3, none⟩) h1 _).setCell (p := ⟨g1, 4, none⟩) h1 _

end Go.Proofs.Ytlhbjgbkpjlacaa

namespace Go.Proofs.Ytlhbjgbkpjlacaa
set_option maxRecDepth 100000
open Go.RowKit

def idP (x : PartT) : PartT := x
def notCode (code : ByteArray) (x : PartT) : Bool := decide (¬ x.code = code)
def dropR (vs : List PartT) (code : ByteArray) : List PartT × Int := if partsB vs = true then (if findI vs code < 0 then ([], 4) else (keepTo (notCode code) idP vs vs.length, 0)) else ([], 1)
theorem five_cells {w : World} {g : Nat} {v0 v1 v2 v3 v4 : Value} (h0 : w.cell? ⟨g, 0, none⟩ = some v0) (h1 : w.cell? ⟨g, 1, none⟩ = some v1) (h2 : w.cell? ⟨g, 2, none⟩ = some v2) (h3 : w.cell? ⟨g, 3, none⟩ = some v3) (h4 : w.cell? ⟨g, 4, none⟩ = some v4) :
    ∀ j u, [v0, v1, v2, v3, v4][j]? = some u → w.cell? ⟨g, j, none⟩ = some u
  | 0, u, hj => by simp at hj; rw [← hj]; exact h0
  | 1, u, hj => by simp at hj; rw [← hj]; exact h1
  | 2, u, hj => by simp at hj; rw [← hj]; exact h2
  | 3, u, hj => by simp at hj; rw [← hj]; exact h3
  | 4, u, hj => by simp at hj; rw [← hj]; exact h4
  | _ + 5, u, hj => by simp at hj
theorem partC_one (m : PartM) : ∀ u ∈ partC m, u.oneCell' = true := fun u hu => by
  simp only [partC, List.mem_cons, List.not_mem_nil, or_false] at hu
  rcases hu with rfl | rfl | rfl | rfl | rfl <;> rfl
/-- A slice of parts that grows. -/
def GrowP (base : Nat) (w : World) (A : Option Addr) (c : Nat) (ms : List PartM) : Prop := Own w base 37 5 partC A c ms ∧ Inner w base w.heap.size A ms
theorem GrowP.step {base : Nat} {w w' : World} {A : Option Addr} {c : Nat} {ms : List PartM} (h : GrowP base w A c ms) (hb : Below w.heap.size w w') : GrowP base w' A c ms := ⟨h.1.keep hb, h.2.below hb (Nat.le_refl _) hb.size⟩

set_option maxHeartbeats 2000000 in
theorem DropPart_impl (A : Option Addr) (c : Nat) (vs : List PartT) (code : ByteArray) (w : World) (hr : RdV w w.heap.size A vs) (hs : SmallV vs) :
    Calls Try.prog 22 #[.slice A vs.length c, .string code] w (GivesParts2 w (dropR vs code)) := by
  have hJ := areParts_impl A c vs w hr hs.1 hs.2
  have hm := hs.1
  have hs2 := Lib.hid hs.2
  have hbd := findI_bd vs code hs.1
  have HF0 : Hid (∀ v : World, RdV v v.heap.size A vs → Calls Try.prog 95 #[.slice A vs.length c, .string code] v fun e w' => e = .returned (.int .i64 (findI vs code)) ∧ Below v.heap.size v w') := fun v hv => findPart_any A c vs code v hv hs.1
  clear hs
  rcases codeI_cases vs code with ⟨hp, _⟩ | ⟨hp, hn, _⟩ | ⟨hp, hn, _⟩
  · have HF : Hid (dropR vs code = ([], 1)) := by unfold Hid dropR; rw [if_neg (by simp [hp])]
    generalize dropR vs code = R at HF ⊢
    rw [hp] at hJ
    have HJ := Lib.hid hJ; clear hJ hp
    go_enter Try.func22, Try.ntmps22
    go_wp2_with fail
    refine HJ.out.mono ?_
    rintro e w1 ⟨rfl, hb1⟩
    go_wp2_with fail
    go_ret2
    exact ⟨none, 0, by rw [HF.out]; rfl, by rw [HF.out]; exact FlatR.nil, by rw [HF.out]; exact Nat.le_refl _, hb1⟩
  · have HF : Hid (dropR vs code = ([], 4)) := by unfold Hid dropR; rw [if_pos hp, if_pos hn]
    generalize dropR vs code = R at HF ⊢
    rw [hp] at hJ
    have HJ := Lib.hid hJ; clear hJ hp
    generalize findI vs code = n at hbd hn HF0
    go_enter Try.func22, Try.ntmps22
    go_wp2_with fail
    refine HJ.out.mono ?_
    rintro e w1 ⟨rfl, hb1⟩
    go_wp2_with fail
    refine (HF0.out w1 (hr.next hb1)).mono ?_
    rintro e w2 ⟨rfl, hb2⟩
    go_wp2_with fail
    go_ret2
    exact ⟨none, 0, by rw [HF.out]; rfl, by rw [HF.out]; exact FlatR.nil, by rw [HF.out]; exact Nat.le_refl _, bthen hb1 hb2⟩
  · have HF : Hid (dropR vs code = (keepTo (notCode code) idP vs vs.length, 0)) := by unfold Hid dropR; rw [if_pos hp, if_neg (by omega)]
    generalize dropR vs code = R at HF ⊢
    have hlen := partsB_len hp
    rw [hp] at hJ
    have HJ := Lib.hid hJ; clear hJ hp
    generalize findI vs code = n at hbd hn HF0
    go_enter Try.func22, Try.ntmps22
    go_wp2_with fail
    refine HJ.out.mono ?_
    rintro e w1 ⟨rfl, hb1⟩
    go_wp2_with fail
    refine (HF0.out w1 (hr.next hb1)).mono ?_
    rintro e w2 ⟨rfl, hb2⟩
    have hb12 := bthen hb1 hb2
    clear hb1 hb2
    go_wp2_with fail
    go_loopw [6, 18] (fun out i wr => ∃ (k : Nat) (A' : Option Addr) (c' : Nat) (ms : List PartM), k ≤ vs.length ∧ i = .int .i64 k ∧ out = .slice A' ms.length c' ∧ ms.map PartM.val = keepTo (notCode code) idP vs k ∧ GrowP w.heap.size wr A' c' ms ∧ Below w.heap.size w wr) (fun _ i _ => vs.length - (intOf i).toNat)
    case atStart => exact ⟨0, _, _, [], Nat.zero_le _, rfl, rfl, rfl, ⟨Own.nil, Inner.nil⟩, hb12⟩
    case round =>
      obtain ⟨k, A', c', ms, hk, rfl, rfl, hval, hown, hb⟩ := hrel
      have Ho := Lib.hid hown; clear hown
      have Hv := Lib.hid hval; clear hval
      have hml : ms.length ≤ k := by
        have := congrArg List.length Hv.out
        rw [List.length_map] at this
        rw [this]
        exact keepTo_le _ _ _ _
      by_cases hlt : k < vs.length
      · have hx : vs[k]? = some vs[k] := List.getElem?_eq_getElem hlt
        obtain ⟨b, o, rfl⟩ := hr.addr (by omega)
        obtain ⟨hB, pA, pc, q0, q1, q2, q3, q4, hpr, _⟩ := (hr.below hb).cells hx
        generalize vs[k] = t at q0 q1 q2 q3 q4 hx hpr
        have hpl := (hs2.out t (List.mem_of_getElem? hx)).2
        have Hx := Lib.hid hx; clear hx
        by_cases hc : t.code = code
        · have HD := Lib.hid (keepTo_no (p := notCode code) (g := idP) Hx.out (by simp [notCode, hc]))
          have hcc : (t.code.toList == code.toList) = true := by simp [hc]
          clear hc
          go_wp2_with fail
          exact ⟨⟨k + 1, A', c', ms, by omega, by go_num, rfl, by rw [Hv.out, HD.out], Ho.out.step (balloc _ _), (hb.alloc hb.size (.cells #[.string t.code, .int .i64 t.slot, .slice pA t.ports.length pc, .int .i64 t.price, .int .i64 t.grams] 37))⟩, by simp [intOf]; omega⟩
        · have HD := Lib.hid (keepTo_yes (p := notCode code) (g := idP) Hx.out (by simp [notCode, hc]))
          have hcc : (t.code.toList == code.toList) = false := by simp; exact fun e => hc (str_eq.1 e)
          clear hc
          go_wp2_with fail
          have hprV : Rd (wr.alloc (.cells #[.string t.code, .int .i64 t.slot, .slice pA t.ports.length pc, .int .i64 t.price, .int .i64 t.grams] 37)) (wr.alloc (.cells #[.string t.code, .int .i64 t.slot, .slice pA t.ports.length pc, .int .i64 t.price, .int .i64 t.grams] 37)).heap.size 3 portC pA t.ports := (hpr.more hb.size).next (balloc wr _)
          have HoV := Lib.hid (Ho.out.step (balloc wr (.cells #[.string t.code, .int .i64 t.slot, .slice pA t.ports.length pc, .int .i64 t.price, .int .i64 t.grams] 37)))
          have hbV := hb.alloc hb.size (.cells #[.string t.code, .int .i64 t.slot, .slice pA t.ports.length pc, .int .i64 t.price, .int .i64 t.grams] 37)
          generalize (wr.alloc (.cells #[.string t.code, .int .i64 t.slot, .slice pA t.ports.length pc, .int .i64 t.price, .int .i64 t.grams] 37)) = V at hprV HoV hbV ⊢
          clear q0 q1 q2 q3 q4 hpr Ho hb
          refine (copyPart_any t pA pc V hprV hpl).mono ?_
          rintro e w2 ⟨A1, c1, rfl, f1, hc1, hb2⟩
          have hs2' := hb2.size
          have hbase := hbV.size
          have f1' := Lib.hid f1; clear f1
          have hb2' := Lib.hid hb2; clear hb2
          go_wp2_with (at_builtin; refine wpList_append_far rfl _ _ _ rfl w.heap.size 37 (.agg #[.string ⟨#[]⟩, .int .i64 0, .slice none 0 0, .int .i64 0, .int .i64 0]) 5 64 Try.underlying34 infoPart rfl (by omega) (by omega) partC ms ⟨t.code, t.slot, A1, c1, t.ports, t.price, t.grams⟩ A' c' rfl ((HoV.out.1.keep hb2'.out).keep (balloc _ _)) (w2.heap.size) _ rfl rfl (five_cells (by go_simp) (by go_simp) (by go_simp) (by go_simp) (by go_simp)) (partC_one _) (by omega) (by simp; omega) ?_)
          intro A2 c2 w4 hown4 hb4 hfar
          have hI := Lib.hid (HoV.out.2.append (m := ⟨t.code, t.slot, A1, c1, t.ports, t.price, t.grams⟩) HoV.out.1.lt hbase hb2'.out f1'.out hc1 rfl hfar hb4.size)
          have Ho4 := Lib.hid hown4; clear hown4 hfar
          have hb4' := Lib.hid hb4; clear hb4
          go_wp2_with fail
          exact ⟨⟨k + 1, A2, c2, ms ++ [⟨t.code, t.slot, A1, c1, t.ports, t.price, t.grams⟩], by omega, by go_num, by simp, by rw [HD.out, List.map_append, Hv.out]; rfl, ⟨Ho4.out, hI.out⟩, (bthen' (bthen' hbV hb2'.out) (balloc _ _)).trans hb4'.out⟩, by simp [intOf]; omega⟩
      · obtain rfl : k = vs.length := by omega
        go_wp2_with fail
        go_ret2
        exact ⟨A', c', by rw [HF.out, ← Hv.out]; simp only [List.length_map]; rfl, by rw [HF.out]; exact ⟨ms, Hv.out, Ho.out.1.flat partC_len, Ho.out.2⟩, by rw [HF.out, ← Hv.out]; simp only [List.length_map]; exact Ho.out.1.cap, hb⟩

set_option maxHeartbeats 2000000 in
theorem DropPart_spec (A : Option Addr) (c : Nat) (vs : List PartT) (code : ByteArray) (w : World) (hr : RdV w w.heap.size A vs) (hs : SmallV vs) :
    Calls Try.prog 23 #[.slice A vs.length c, .string code] w (GivesParts2 w (dropR vs code)) := by
  have hJ := l16Code_any A c vs code w hr hs
  have hm := hs.1
  have hs2 := Lib.hid hs.2
  clear hs
  rcases codeI_cases vs code with ⟨hp, e⟩ | ⟨hp, hn, e⟩ | ⟨hp, hn, e⟩
  · have HF : Hid (dropR vs code = ([], 1)) := by unfold Hid dropR; rw [if_neg (by simp [hp])]
    generalize dropR vs code = R at HF ⊢
    rw [e] at hJ
    have HJ := Lib.hid hJ; clear hJ hp e
    go_enter Try.func23, Try.ntmps23
    go_wp2_with fail
    refine HJ.out.mono ?_
    rintro e w1 ⟨rfl, hb1⟩
    go_wp2_with fail
    go_ret2
    exact ⟨none, 0, by rw [HF.out]; rfl, by rw [HF.out]; exact FlatR.nil, by rw [HF.out]; exact Nat.le_refl _, hb1⟩
  · have HF : Hid (dropR vs code = ([], 4)) := by unfold Hid dropR; rw [if_pos hp, if_pos hn]
    generalize dropR vs code = R at HF ⊢
    rw [e] at hJ
    have HJ := Lib.hid hJ; clear hJ hp e hn
    go_enter Try.func23, Try.ntmps23
    go_wp2_with fail
    refine HJ.out.mono ?_
    rintro e w1 ⟨rfl, hb1⟩
    go_wp2_with fail
    go_ret2
    exact ⟨none, 0, by rw [HF.out]; rfl, by rw [HF.out]; exact FlatR.nil, by rw [HF.out]; exact Nat.le_refl _, hb1⟩
  · have HF : Hid (dropR vs code = (keepTo (notCode code) idP vs vs.length, 0)) := by unfold Hid dropR; rw [if_pos hp, if_neg (by omega)]
    generalize dropR vs code = R at HF ⊢
    have hlen := partsB_len hp
    rw [e] at hJ
    have HJ := Lib.hid hJ; clear hJ hp e hn
    go_enter Try.func23, Try.ntmps23
    go_wp2_with fail
    refine HJ.out.mono ?_
    rintro e w1 ⟨rfl, hb12⟩
    go_wp2_with fail
    go_loopw [7, 8] (fun out i wr => ∃ (k : Nat) (A' : Option Addr) (c' : Nat) (ms : List PartM), k ≤ vs.length ∧ i = .int .i64 k ∧ out = .slice A' ms.length c' ∧ ms.map PartM.val = keepTo (notCode code) idP vs k ∧ GrowP w.heap.size wr A' c' ms ∧ Below w.heap.size w wr) (fun _ i _ => vs.length - (intOf i).toNat)
    case atStart => exact ⟨0, _, _, [], Nat.zero_le _, rfl, rfl, rfl, ⟨Own.made _ hb12.size rfl, Inner.nil⟩, bthen hb12 (balloc _ _)⟩
    case round =>
      obtain ⟨k, A', c', ms, hk, rfl, rfl, hval, hown, hb⟩ := hrel
      have Ho := Lib.hid hown; clear hown
      have Hv := Lib.hid hval; clear hval
      have hml : ms.length ≤ k := by
        have := congrArg List.length Hv.out
        rw [List.length_map] at this
        rw [this]
        exact keepTo_le _ _ _ _
      by_cases hlt : k < vs.length
      · have hx : vs[k]? = some vs[k] := List.getElem?_eq_getElem hlt
        obtain ⟨b, o, rfl⟩ := hr.addr (by omega)
        obtain ⟨hB, pA, pc, q0, q1, q2, q3, q4, hpr, _⟩ := (hr.below hb).cells hx
        generalize vs[k] = t at q0 q1 q2 q3 q4 hx hpr
        have hpl := (hs2.out t (List.mem_of_getElem? hx)).2
        have Hx := Lib.hid hx; clear hx
        by_cases hc : t.code = code
        · have HD := Lib.hid (keepTo_no (p := notCode code) (g := idP) Hx.out (by simp [notCode, hc]))
          have hcc : (t.code.toList == code.toList) = true := by simp [hc]
          clear hc
          go_wp2_with fail
          exact ⟨⟨k + 1, A', c', ms, by omega, by go_num, rfl, by rw [Hv.out, HD.out], Ho.out, hb⟩, by simp [intOf]; omega⟩
        · have HD := Lib.hid (keepTo_yes (p := notCode code) (g := idP) Hx.out (by simp [notCode, hc]))
          have hcc : (t.code.toList == code.toList) = false := by simp; exact fun e => hc (str_eq.1 e)
          clear hc
          go_wp2_with fail
          have hprV := hpr.more hb.size
          have HoV := Lib.hid Ho.out
          have hbV := hb
          clear q0 q1 q2 q3 q4 hpr Ho hb
          generalize wr = V at hprV HoV hbV ⊢
          refine (l16Copy_any t pA pc V hprV hpl).mono ?_
          rintro e w2 ⟨A1, c1, rfl, f1, hc1, hb2⟩
          have hs2' := hb2.size
          have hbase := hbV.size
          have f1' := Lib.hid f1; clear f1
          have hb2' := Lib.hid hb2; clear hb2
          go_wp2_with (at_builtin; refine wpList_append_far rfl _ _ _ rfl w.heap.size 37 (.agg #[.string ⟨#[]⟩, .int .i64 0, .slice none 0 0, .int .i64 0, .int .i64 0]) 5 64 Try.underlying34 infoPart rfl (by omega) (by omega) partC ms ⟨t.code, t.slot, A1, c1, t.ports, t.price, t.grams⟩ A' c' rfl ((HoV.out.1.keep hb2'.out).keep (balloc _ _)) (w2.heap.size) _ rfl rfl (five_cells (by go_simp) (by go_simp) (by go_simp) (by go_simp) (by go_simp)) (partC_one _) (by omega) (by simp; omega) ?_)
          intro A2 c2 w4 hown4 hb4 hfar
          have hI := Lib.hid (HoV.out.2.append (m := ⟨t.code, t.slot, A1, c1, t.ports, t.price, t.grams⟩) HoV.out.1.lt hbase hb2'.out f1'.out hc1 rfl hfar hb4.size)
          have Ho4 := Lib.hid hown4; clear hown4 hfar
          have hb4' := Lib.hid hb4; clear hb4
          go_wp2_with fail
          exact ⟨⟨k + 1, A2, c2, ms ++ [⟨t.code, t.slot, A1, c1, t.ports, t.price, t.grams⟩], by omega, by go_num, by simp, by rw [HD.out, List.map_append, Hv.out]; rfl, ⟨Ho4.out, hI.out⟩, (bthen' (bthen' hbV hb2'.out) (balloc _ _)).trans hb4'.out⟩, by simp [intOf]; omega⟩
      · obtain rfl : k = vs.length := by omega
        go_wp2_with fail
        go_ret2
        exact ⟨A', c', by rw [HF.out, ← Hv.out]; simp only [List.length_map]; rfl, by rw [HF.out]; exact ⟨ms, Hv.out, Ho.out.1.flat partC_len, Ho.out.2⟩, by rw [HF.out, ← Hv.out]; simp only [List.length_map]; exact Ho.out.1.cap, hb⟩

end Go.Proofs.Ytlhbjgbkpjlacaa

namespace Go.Proofs.Ytlhbjgbkpjlacaa
set_option maxRecDepth 100000
open Go.RowKit

theorem Inner.only {w w' : World} {lo hi hi' a b : Nat} {A : Option Addr} {ms : List PartM} (h : Inner w lo hi A ms) (hb : Only a b w w') (hs : hi ≤ w.heap.size) (hd : hi ≤ a ∨ b ≤ lo) (hh : hi ≤ hi') : Inner w' lo hi' A ms :=
  ⟨fun m hm => ((h.flat m hm).only hb hs hd).mono (Nat.le_refl _) hh, h.cap, h.far, h.apart⟩
/-- One part more: its ports are new, the row has grown; a block below the base may have turned. -/
theorem Inner.appendO {wr w2 w3 w4 : World} {base n c b : Nat} {A A2 : Option Addr} {ms : List PartM} {m : PartM} {o : Obj} (h : Inner wr base wr.heap.size A ms)
    (hA : ∀ k, (Value.slice A n c).ownBlock = some k → base ≤ k ∧ k < wr.heap.size) (hbase : base ≤ wr.heap.size) (hb2 : Only b (b + 1) wr w2) (hbb : b < base) (fm : Flat w2 wr.heap.size w2.heap.size 23 3 portC m.pA m.ports) (hpc : m.ports.length ≤ m.pc)
    (e3 : w3 = w2.alloc o) (hfar : ∀ g, g < w2.heap.size + 1 → Apart A g → Apart A2 g ∧ w4.heap[g]? = w3.heap[g]?) (hs4 : w3.heap.size ≤ w4.heap.size) : Inner w4 base w4.heap.size A2 (ms ++ [m]) := by
  have hs2 := hb2.size
  have hs3 : w3.heap.size = w2.heap.size + 1 := by rw [e3]; simp
  have h32 : ∀ g, g < w2.heap.size → w3.heap[g]? = w2.heap[g]? := fun g hg => by rw [e3]; exact (balloc w2 o).block g hg
  have hold : ∀ m' ∈ ms, ∀ g, m'.pA = some ⟨g, 0, none⟩ → 0 < m'.ports.length → base ≤ g ∧ g < wr.heap.size := fun m' hm' g e hp => by
    obtain ⟨g', _, e', h1, h2, _⟩ := h.flat m' hm' hp
    rw [e] at e'
    simp only [Option.some.injEq, Addr.mk.injEq] at e'
    omega
  have hnew : ∀ g, m.pA = some ⟨g, 0, none⟩ → 0 < m.ports.length → wr.heap.size ≤ g ∧ g < w2.heap.size := fun g e hp => by
    obtain ⟨g', _, e', h1, h2, _⟩ := fm hp
    rw [e] at e'
    simp only [Option.some.injEq, Addr.mk.injEq] at e'
    omega
  have hAn : ∀ g, wr.heap.size ≤ g → Apart A g := fun g hg b o' e => by
    subst e
    have := hA b rfl
    omega
  refine ⟨fun m' hm' => ?_, fun m' hm' => ?_, fun m' hm' hp g e => ?_, ?_⟩
  · rcases List.mem_append.1 hm' with h1 | h1
    · refine ((h.flat m' h1).keepAt fun g e hp => ?_).mono (Nat.le_refl _) (by omega)
      have hg := hold m' h1 g e hp
      rw [(hfar g (by omega) (h.far m' h1 hp g e)).2, h32 g (by omega), hb2.block g hg.2 (by omega)]
    · simp only [List.mem_singleton] at h1
      subst h1
      refine (fm.keepAt fun g e hp => ?_).mono hbase (by omega)
      have hg := hnew g e hp
      rw [(hfar g (by omega) (hAn g hg.1)).2, h32 g hg.2]
  · rcases List.mem_append.1 hm' with h1 | h1
    · exact h.cap m' h1
    · simp only [List.mem_singleton] at h1
      subst h1
      exact hpc
  · rcases List.mem_append.1 hm' with h1 | h1
    · have hg := hold m' h1 g e hp
      exact (hfar g (by omega) (h.far m' h1 hp g e)).1
    · simp only [List.mem_singleton] at h1
      subst h1
      have hg := hnew g e hp
      exact (hfar g (by omega) (hAn g hg.1)).1
  · rw [List.pairwise_append]
    refine ⟨h.apart, List.pairwise_singleton _ _, fun m1 h1 m2 h2 hp1 hp2 => ?_⟩
    simp only [List.mem_singleton] at h2
    subst h2
    obtain ⟨g1, _, e1, _⟩ := h.flat m1 h1 hp1
    obtain ⟨g2, _, e2, _⟩ := fm hp2
    have a1 := hold m1 h1 g1 e1 hp1
    have a2 := hnew g2 e2 hp2
    rw [e1, e2]
    intro e
    simp only [Option.some.injEq, Addr.mk.injEq] at e
    omega

def SmallM (m : PartM) : Prop := m.code.size ≤ 64 ∧ m.ports.length ≤ 64
def PartT.at_ (x : PartT) (pA : Option Addr) (pc : Nat) : PartM := ⟨x.code, x.slot, pA, pc, x.ports, x.price, x.grams⟩
/-- A list of parts that grows, a table of texts in block nt, a source in hand. -/
structure ListSt (V w : World) (b : Nat) (A : Option Addr) (c : Nat) (xs : List Int) (nt : Nat) (tb : Array Value) (LA : Option Addr) (lc : Nat) (ms : List PartM) : Prop where
  feed : Feed w b A c xs
  own : Own w V.heap.size 37 5 partC LA lc ms
  inner : Inner w V.heap.size w.heap.size LA ms
  old : Only b (b + 1) V w
  lt : b < V.heap.size
  small : ∀ m ∈ ms, SmallM m
  tab : w.heap[nt]? = some (.cells tb 9 (0, 0))
  ntV : V.heap.size ≤ nt
section
variable {V w w' : World} {b c lc nt : Nat} {A LA : Option Addr} {xs : List Int} {tb : Array Value} {ms : List PartM}
theorem ListSt.turn (h : ListSt V w b A c xs nt tb LA lc ms) (hF : Feed w' b A c xs) (hO : Only b (b + 1) w w') : ListSt V w' b A c xs nt tb LA lc ms := by
  have := h.lt
  have := h.ntV
  have hnt := (Array.getElem?_eq_some_iff.1 h.tab).1
  exact ⟨hF, h.own.only hO (by omega), h.inner.only hO (Nat.le_refl _) (Or.inr (by omega)) hO.size, h.old.trans hO, h.lt, h.small, (hO.block nt hnt (by omega)).trans h.tab, h.ntV⟩
theorem ListSt.next (h : ListSt V w b A c xs nt tb LA lc ms) (hb : Below w.heap.size w w') : ListSt V w' b A c xs nt tb LA lc ms := h.turn (h.feed.next hb) (Only.of_below hb)
theorem ListSt.cell (h : ListSt V w b A c xs nt tb LA lc ms) {k : Nat} {v : Value} (hv : tb[k]? = some v) : w.cell? ⟨nt, k, none⟩ = some v := by
  rw [cell_of_row w nt k tb 9 (0, 0) h.tab]
  exact hv
/-- A part more. -/
theorem ListSt.grow {w2 w4 : World} {x : PartT} {pA A2 : Option Addr} {pc c2 : Nat} {o : Obj} (h : ListSt V w b A c xs nt tb LA lc ms) (hF2 : Feed w2 b A c xs) (hO2 : Only b (b + 1) w w2) (fm : Flat w2 w.heap.size w2.heap.size 23 3 portC pA x.ports) (hpc : x.ports.length ≤ pc) (h1 : x.code.size ≤ 64) (h2 : x.ports.length ≤ 64)
    (hown : Own w4 V.heap.size 37 5 partC A2 c2 (ms ++ [x.at_ pA pc])) (hb4 : Below V.heap.size (w2.alloc o) w4) (hfar : ∀ g, g < w2.heap.size + 1 → Apart LA g → Apart A2 g ∧ w4.heap[g]? = (w2.alloc o).heap[g]?) :
    ListSt V w4 b A c xs nt tb A2 c2 (ms ++ [x.at_ pA pc]) := by
  have hlt := h.lt
  have hVs := h.old.size
  have hs2 := hO2.size
  have hb24 : Below V.heap.size w2 w4 := ((balloc w2 o).mono (by omega)).trans hb4
  have ht2 := h.turn hF2 hO2
  have hrowt : Row w2 nt 9 tb.size := ⟨tb, ht2.tab, rfl⟩
  have hap : Apart LA nt := ht2.own.apartType hrowt (by decide)
  have hnt2 := hrowt.lt
  have hsz : (w2.alloc o).heap.size = w2.heap.size + 1 := by simp
  refine ⟨hF2.under hb24 hlt, hown, h.inner.appendO (h.own.lt) hVs hO2 hlt fm hpc rfl hfar hb4.size, ?_, hlt, fun m hm => ?_, ?_, h.ntV⟩
  · have ho2 := ht2.old
    exact ⟨hb24.os.trans ho2.os, hb24.tape.trans ho2.tape, hb24.output.trans ho2.output, Nat.le_trans ho2.size hb24.size, fun k hk hn => (hb24.block k hk).trans (ho2.block k hk hn)⟩
  · rcases List.mem_append.1 hm with hm | hm
    · exact h.small m hm
    · simp only [List.mem_singleton] at hm
      subst hm
      exact ⟨h1, h2⟩
  · rw [(hfar nt (by omega) hap).2, (balloc w2 o).block nt hnt2]
    exact ht2.tab
end
/-- Parts that were drawn: any parts of small size. -/
def DrawnParts (w : World) (b : Nat) (A : Option Addr) (c : Nat) (xs : List Int) (e : Ending) (w' : World) : Prop := ∃ (LA : Option Addr) (lc : Nat) (vs : List PartT), e = .returned (.slice LA vs.length lc) ∧ FlatR w' w.heap.size w'.heap.size LA vs ∧ vs.length ≤ lc ∧ vs.length ≤ 64 ∧ (∀ x ∈ vs, x.code.size ≤ 64 ∧ x.ports.length ≤ 64) ∧ Feed w' b A c xs ∧ Only b (b + 1) w w'
theorem partC_len5 (m : PartM) : (partC m).length = 5 := rfl
theorem ListSt.drawn {V w : World} {b c lc nt : Nat} {A LA : Option Addr} {xs : List Int} {tb : Array Value} {ms : List PartM} (h : ListSt V w b A c xs nt tb LA lc ms) (hl : ms.length ≤ 64) : DrawnParts V b A c xs (.returned (.slice LA ms.length lc)) w :=
  ⟨LA, lc, ms.map PartM.val, by simp, ⟨ms, rfl, h.own.flat partC_len5, h.inner⟩, by simpa using h.own.cap, by simpa using hl, fun x hx => by
    obtain ⟨m, hm, rfl⟩ := List.mem_map.1 hx
    exact h.small m hm, h.feed, h.old⟩

end Go.Proofs.Ytlhbjgbkpjlacaa

namespace Go.Proofs.Ytlhbjgbkpjlacaa
set_option maxRecDepth 100000
open Go.RowKit

def outLen : Value → Nat
  | .slice _ n _ => n
  | _ => 0
set_option maxHeartbeats 2000000 in
theorem l16List_any (A : Option Addr) (c b : Nat) (xs : List Int) (w : World) (hF : Feed w b A c xs) :
    Calls Try.prog 93 #[.pointer (some ⟨b, 0, none⟩)] w (DrawnParts w b A c xs) := by
  have HN : Hid (∀ (v : World) (n : Int), n < 20000 → Feed v b A c xs → Calls Try.prog 91 #[.pointer (some ⟨b, 0, none⟩), .int .i64 n] v (Drawn v b A c xs n)) := fun v n hn h => l01Next_any A c b xs n v h.src h.rd h.byte h.small (by omega)
  have HG : Hid (∀ (v : World) (code : ByteArray), code.size ≤ 64 → Feed v b A c xs → Calls Try.prog 147 #[.pointer (some ⟨b, 0, none⟩), .string code] v (DrawnPart 3 v b A c xs)) := fun v code h1 h => l16Good_any A c b xs code h1 v h
  have hlb := hF.src.lt
  have hT : ∀ k, k < 8 → ∃ t : ByteArray, t.size ≤ 64 ∧ (names.map Value.string).toArray[k]? = some (.string t) := fun k hk => by
    have hk' : k < names.length := hk
    refine ⟨names[k], ?_, by simp [hk']⟩
    have : ∀ t ∈ names, t.size ≤ 64 := by decide
    exact this _ (List.getElem_mem _)
  have HT := Lib.hid hT; clear hT
  have HF := Lib.hid hF; clear hF
  go_enter Try.func93, Try.ntmps93
  go_wp2_with fail
  refine (l16Names_any _).mono ?_
  rintro e w1 ⟨rfl, rfl⟩
  have HL : Hid (ListSt w ((w.alloc (.cells #[] 37)).alloc (.cells (names.map Value.string).toArray 9)) b A c xs (w.heap.size + 1) (names.map Value.string).toArray (some ⟨w.heap.size, 0, none⟩) 0 []) := by
    have h1 := balloc w (.cells #[] 37)
    have h2 := balloc (w.alloc (.cells #[] 37)) (.cells (names.map Value.string).toArray 9)
    have e1 : (w.alloc (.cells #[] 37)).heap.size = w.heap.size + 1 := by simp
    refine ⟨(HF.out.next h1).next h2, (Own.made _ (Nat.le_refl _) rfl).keep h2, Inner.nil, Only.of_below (bthen h1 h2), hlb, fun m hm => absurd hm (by simp), ?_, by omega⟩
    rw [← e1]
    exact heap_alloc_new _ _
  have e1 : (w.alloc (.cells #[] 37)).heap.size = w.heap.size + 1 := by simp
  rw [e1]
  clear e1
  generalize (w.alloc (.cells #[] 37)).alloc (.cells (names.map Value.string).toArray 9) = W at HL ⊢
  generalize (names.map Value.string).toArray = tb at HT HL
  generalize hnt : w.heap.size + 1 = nt at HL ⊢
  go_wp2_with fail
  go_loopw [3, 5] (fun out i wr => ∃ (k : Nat) (LA : Option Addr) (lc : Nat) (ms : List PartM), k ≤ 8 ∧ ms.length ≤ k ∧ i = .int .i64 k ∧ out = .slice LA ms.length lc ∧ ListSt w wr b A c xs nt tb LA lc ms) (fun _ i _ => 8 - (intOf i).toNat)
  case atStart => exact ⟨0, _, _, [], by omega, Nat.zero_le _, rfl, rfl, HL.out⟩
  case round =>
    obtain ⟨k, LA, lc, ms, hk, hml, rfl, rfl, hL⟩ := hrel
    have HL1 := Lib.hid hL; clear hL
    by_cases hlt : k < 8
    · go_wp2_with fail
      refine (HN.out wr 3 (by omega) HL1.out.feed).mono ?_
      rintro e w2 ⟨v2, rfl, a0, a1, _, hS, hO⟩
      have HL2 := Lib.hid (HL1.out.turn (HL1.out.feed.turn hS hO) hO)
      clear hS hO HL1
      by_cases hv : 0 < v2
      · obtain ⟨t, ht, htb⟩ := HT.out k hlt
        have q := HL2.out.cell htb
        clear htb
        go_wp2_with fail
        refine (HG.out w2 t ht HL2.out.feed).mono ?_
        rintro e w3 ⟨x, pA, pc, rfl, x1, x2, ox, hF3, hO3⟩
        have hpc := ox.cap; have Fx := Lib.hid (ox.flat portC_len3); clear ox
        have HF3 := Lib.hid hF3; clear hF3
        have HO3 := Lib.hid hO3; clear hO3
        have s2 := HL2.out.old.size
        have s3 := HO3.out.size
        have HL3 := Lib.hid (HL2.out.turn HF3.out HO3.out)
        dsimp only [argV]
        go_wp2_with (at_builtin; refine wpList_append_far rfl _ _ _ rfl w.heap.size 37 (.agg #[.string ⟨#[]⟩, .int .i64 0, .slice none 0 0, .int .i64 0, .int .i64 0]) 5 64 Try.underlying34 infoPart rfl (by omega) (by omega) partC ms ⟨x.code, x.slot, pA, pc, x.ports, x.price, x.grams⟩ LA lc rfl (HL3.out.own.keep (balloc _ _)) w3.heap.size _ rfl rfl (five_cells (by go_simp) (by go_simp) (by go_simp) (by go_simp) (by go_simp)) (partC_one _) (by omega) (by simp; omega) ?_)
        intro A2 c2 w4 hown4 hb4 hfar
        have HL4 := Lib.hid (HL2.out.grow HF3.out HO3.out Fx.out hpc x1 (Nat.le_trans x2 (by omega)) hown4 hb4 hfar)
        clear hown4 hb4 hfar
        go_wp2_with fail
        exact ⟨⟨k + 1, A2, c2, ms ++ [x.at_ pA pc], by omega, by simp; omega, by go_num, by simp, HL4.out⟩, by simp [intOf]; omega⟩
      · go_wp2_with fail
        exact ⟨⟨k + 1, LA, lc, ms, by omega, by omega, by go_num, rfl, HL2.out⟩, by simp [intOf]; omega⟩
    · go_wp2_with fail
      refine (HN.out wr 40 (by omega) HL1.out.feed).mono ?_
      rintro e w2 ⟨v2, rfl, a0, a1, _, hS, hO⟩
      have HL2 := Lib.hid (HL1.out.turn (HL1.out.feed.turn hS hO) hO)
      clear hS hO HL1
      by_cases hv : v2 = 0
      · subst hv
        go_wp2_with fail
        refine (HG.out w2 ⟨#[97, 110, 99, 104, 111, 114]⟩ (by decide) HL2.out.feed).mono ?_
        rintro e w3 ⟨x, pA, pc, rfl, x1, x2, ox, hF3, hO3⟩
        have hpc := ox.cap; have Fx := Lib.hid (ox.flat portC_len3); clear ox
        have HF3 := Lib.hid hF3; clear hF3
        have HO3 := Lib.hid hO3; clear hO3
        have s2 := HL2.out.old.size
        have s3 := HO3.out.size
        have HL3 := Lib.hid (HL2.out.turn HF3.out HO3.out)
        dsimp only [argV]
        go_wp2_with (at_builtin; refine wpList_append_far rfl _ _ _ rfl w.heap.size 37 (.agg #[.string ⟨#[]⟩, .int .i64 0, .slice none 0 0, .int .i64 0, .int .i64 0]) 5 64 Try.underlying34 infoPart rfl (by omega) (by omega) partC ms ⟨x.code, x.slot, pA, pc, x.ports, x.price, x.grams⟩ LA lc rfl (HL3.out.own.keep (balloc _ _)) w3.heap.size _ rfl rfl (five_cells (by go_simp) (by go_simp) (by go_simp) (by go_simp) (by go_simp)) (partC_one _) (by omega) (by simp; omega) ?_)
        intro A2 c2 w4 hown4 hb4 hfar
        have HL4 := Lib.hid (HL2.out.grow HF3.out HO3.out Fx.out hpc x1 (Nat.le_trans x2 (by omega)) hown4 hb4 hfar)
        clear hown4 hb4 hfar
        go_wp2_with fail
        go_ret
        have := HL4.out.drawn (by simp; omega)
        simpa using this
      · have hvb : (v2 == 0) = false := by simp [hv]
        by_cases hv1 : v2 = 1
        · subst hv1
          go_wp2_with fail
          go_loopw [3, 6] (fun out i wr => ∃ (k2 : Nat) (MA : Option Addr) (mc : Nat) (ns : List PartM), k2 ≤ ns.length ∧ ns.length ≤ 17 ∧ i = .int .i64 k2 ∧ out = .slice MA ns.length mc ∧ ListSt w wr b A c xs nt tb MA mc ns) (fun out _ _ => 17 - outLen out)
          case atStart => exact ⟨0, LA, lc, ms, Nat.zero_le _, by omega, rfl, rfl, HL2.out⟩
          case round =>
            obtain ⟨k2, MA, mc, ns, hk2, hnl, rfl, rfl, hM⟩ := hrel
            have HM1 := Lib.hid hM; clear hM
            go_wp2_with fail
            refine (HN.out _ 2 (by omega) HM1.out.feed).mono ?_
            rintro e w4 ⟨v4, rfl, c0, c1, _, hS, hO⟩
            have HM2 := Lib.hid (HM1.out.turn (HM1.out.feed.turn hS hO) hO)
            have c1 := c1 (by omega)
            clear hS hO HM1
            by_cases hlt2 : (ns.length : Int) < 16 + v4
            · have hk17 : k2 ≤ 16 := by omega
              have hnl2 : ns.length ≤ 16 := by omega
              go_wp2_with fail
              have hsz : ∀ t : ByteArray, (⟨#[120]⟩ ++ t.extract k2 (k2 + 1) : ByteArray).size ≤ 64 := fun t => by
                rw [ByteArray.size_append, ByteArray.size_extract]
                have : (⟨#[120]⟩ : ByteArray).size = 1 := rfl
                omega
              refine (HG.out w4 _ (hsz _) HM2.out.feed).mono ?_
              rintro e w5 ⟨x, pA, pc, rfl, x1, x2, ox, hF5, hO5⟩
              have hpc := ox.cap; have Fx := Lib.hid (ox.flat portC_len3); clear ox
              have HF5 := Lib.hid hF5; clear hF5
              have HO5 := Lib.hid hO5; clear hO5
              have s4 := HM2.out.old.size
              have s5 := HO5.out.size
              have HM3 := Lib.hid (HM2.out.turn HF5.out HO5.out)
              dsimp only [argV]
              go_wp2_with (at_builtin; refine wpList_append_far rfl _ _ _ rfl w.heap.size 37 (.agg #[.string ⟨#[]⟩, .int .i64 0, .slice none 0 0, .int .i64 0, .int .i64 0]) 5 64 Try.underlying34 infoPart rfl (by omega) (by omega) partC ns ⟨x.code, x.slot, pA, pc, x.ports, x.price, x.grams⟩ MA mc rfl (HM3.out.own.keep (balloc _ _)) w5.heap.size _ rfl rfl (five_cells (by go_simp) (by go_simp) (by go_simp) (by go_simp) (by go_simp)) (partC_one _) (by omega) (by simp; omega) ?_)
              intro A6 c6 w6 hown6 hb6 hfar6
              have HM4 := Lib.hid (HM2.out.grow HF5.out HO5.out Fx.out hpc x1 (Nat.le_trans x2 (by omega)) hown6 hb6 hfar6)
              clear hown6 hb6 hfar6
              go_wp2_with fail
              exact ⟨⟨k2 + 1, A6, c6, ns ++ [x.at_ pA pc], by simp; omega, by simp; omega, by go_num, by simp, HM4.out⟩, by simp [outLen]; omega⟩
            · go_wp2_with fail
              go_ret
              exact HM2.out.drawn (by omega)
        · have hvb1 : (v2 == 1) = false := by simp [hv1]
          clear hv hv1
          go_wp2_with fail
          go_ret
          exact HL2.out.drawn (by omega)

end Go.Proofs.Ytlhbjgbkpjlacaa

namespace Go.Proofs.Ytlhbjgbkpjlacaa
set_option maxRecDepth 100000
open Go.RowKit

def DrawnJoints : World → Nat → Option Addr → Nat → List Int → Ending → World → Prop := DrawnList 64 70 3 jointC (fun _ => True)
set_option maxHeartbeats 2000000 in
theorem l17DrawJoints_any (A : Option Addr) (c b : Nat) (xs : List Int) (w : World) (hF : Feed w b A c xs) :
    Calls Try.prog 111 #[.pointer (some ⟨b, 0, none⟩)] w (DrawnJoints w b A c xs) := by
  have HN : Hid (∀ (v : World) (n : Int), n < 20000 → Feed v b A c xs → Calls Try.prog 91 #[.pointer (some ⟨b, 0, none⟩), .int .i64 n] v (Drawn v b A c xs n)) := fun v n hn h => l01Next_any A c b xs n v h.src h.rd h.byte h.small (by omega)
  have HL : Hid (GrowSt w (w.alloc (.cells #[] 70)) b A c xs 70 3 jointC (some ⟨w.heap.size, 0, none⟩) 0 []) := GrowSt.made hF
  have hjl : ∀ j, (jointC j).length = 3 := fun j => rfl
  have hj1 : ∀ j, ∀ u ∈ jointC j, u.oneCell' = true := fun j u hu => by
    simp only [jointC, List.mem_cons, List.not_mem_nil, or_false] at hu
    rcases hu with rfl | rfl | rfl <;> rfl
  have HJL := Lib.hid hjl; clear hjl
  have HJ1 := Lib.hid hj1; clear hj1
  clear hF
  go_enter Try.func111, Try.ntmps111
  go_wp2_with fail
  generalize w.alloc (.cells #[] 70) = W at HL ⊢
  refine (HN.out W 4 (by omega) HL.out.feed).mono ?_
  rintro e w1 ⟨v, rfl, v0, v1, _, hS, hO⟩
  have HL1 := Lib.hid (HL.out.turn (HL.out.feed.turn hS hO) hO)
  have v1 := v1 (by omega)
  clear hS hO HL
  go_wp2_with fail
  go_loopw [3, 4] (fun out i wr => ∃ (q : Int) (LA : Option Addr) (lc : Nat) (ms : List (Int × Int × Int)), 0 ≤ q ∧ (ms.length : Int) + q ≤ 4 ∧ i = .int .i64 q ∧ out = .slice LA ms.length lc ∧ GrowSt w wr b A c xs 70 3 jointC LA lc ms) (fun _ i _ => (intOf i).toNat)
  case atStart => exact ⟨v, _, _, [], v0, by simp; omega, rfl, rfl, HL1.out⟩
  case round =>
    obtain ⟨q, LA, lc, ms, q0, q1, rfl, rfl, hL⟩ := hrel
    have HL1 := Lib.hid hL; clear hL
    by_cases hq : 0 < q
    · go_wp2_with fail
      refine (HN.out wr 2 (by omega) HL1.out.feed).mono ?_
      rintro e w2 ⟨a, rfl, a0, a1, _, hS, hO⟩
      have HL2 := Lib.hid (HL1.out.turn (HL1.out.feed.turn hS hO) hO)
      have a1 := a1 (by omega)
      clear hS hO HL1
      go_wp2_with fail
      refine (HN.out w2 (2 - a) (by omega) HL2.out.feed).mono ?_
      rintro e w3 ⟨d, rfl, d0, d1, d2, hS, hO⟩
      have HL3 := Lib.hid (HL2.out.turn (HL2.out.feed.turn hS hO) hO)
      have hd : d < 3 := by
        by_cases h : 1 < 2 - a
        · have := d1 h; omega
        · have := d2 (by omega); omega
      clear hS hO HL2 d1 d2
      go_wp2_with fail
      refine (HN.out w3 3 (by omega) HL3.out.feed).mono ?_
      rintro e w4 ⟨k, rfl, k0, k1, _, hS, hO⟩
      have HL4 := Lib.hid (HL3.out.turn (HL3.out.feed.turn hS hO) hO)
      have s4 := HL4.out.old.size
      clear hS hO HL3 k1
      go_wp2_with (at_builtin; refine wpList_append_far rfl _ _ _ rfl w.heap.size 70 (.agg #[.int .i64 0, .int .i64 0, .int .i64 0]) 3 24 Try.underlying57 infoJoint rfl (by omega) (by omega) jointC ms (a, a + 1 + d, k) LA lc rfl (HL4.out.own.keep (balloc _ _)) w4.heap.size _ rfl rfl (three_cells (by go_simp) (by go_simp) (by go_simp)) (HJ1.out _) (by omega) (by simp; omega) ?_)
      intro A2 c2 w5 hown5 hb5 _
      have HL5 := Lib.hid (HL4.out.grow hown5 hb5)
      clear hown5 hb5
      go_wp2_with fail
      exact ⟨⟨q - 1, A2, c2, ms ++ [(a, a + 1 + d, k)], by omega, by simp; omega, by go_num, by simp, HL5.out⟩, by simp [intOf]; omega⟩
    · go_wp2_with fail
      refine (HN.out wr 40 (by omega) HL1.out.feed).mono ?_
      rintro e w2 ⟨v2, rfl, a0, a1, _, hS, hO⟩
      have HL2 := Lib.hid (HL1.out.turn (HL1.out.feed.turn hS hO) hO)
      clear hS hO HL1 a1
      by_cases hv : v2 = 0
      · subst hv
        go_wp2_with fail
        refine (HN.out w2 9 (by omega) HL2.out.feed).mono ?_
        rintro e w3 ⟨a, rfl, a0, a1, _, hS, hO⟩
        have HL3 := Lib.hid (HL2.out.turn (HL2.out.feed.turn hS hO) hO)
        have a1 := a1 (by omega)
        clear hS hO HL2
        go_wp2_with fail
        refine (HN.out w3 9 (by omega) HL3.out.feed).mono ?_
        rintro e w4 ⟨d, rfl, d0, d1, _, hS, hO⟩
        have HL4 := Lib.hid (HL3.out.turn (HL3.out.feed.turn hS hO) hO)
        clear hS hO HL3 d1
        go_wp2_with fail
        refine (HN.out w4 11 (by omega) HL4.out.feed).mono ?_
        rintro e w5 ⟨k, rfl, k0, k1, _, hS, hO⟩
        have HL5 := Lib.hid (HL4.out.turn (HL4.out.feed.turn hS hO) hO)
        have s5 := HL5.out.old.size
        clear hS hO HL4 k1
        go_wp2_with (at_builtin; refine wpList_append_far rfl _ _ _ rfl w.heap.size 70 (.agg #[.int .i64 0, .int .i64 0, .int .i64 0]) 3 24 Try.underlying57 infoJoint rfl (by omega) (by omega) jointC ms (a - 1, d, k) LA lc rfl (HL5.out.own.keep (balloc _ _)) w5.heap.size _ rfl rfl (three_cells (by go_simp) (by go_simp) (by go_simp)) (HJ1.out _) (by omega) (by simp; omega) ?_)
        intro A2 c2 w6 hown6 hb6 _
        have HL6 := Lib.hid (HL5.out.grow hown6 hb6)
        clear hown6 hb6
        go_wp2_with fail
        go_ret
        have := HL6.out.drawn (m := 64) (G := fun _ => True) HJL.out (by simp; omega) (fun _ _ => trivial)
        simp only [List.length_append, List.length_cons, List.length_nil, Nat.zero_add] at this
        exact this
      · have hvb : (v2 == 0) = false := by simp [hv]
        by_cases hv1 : v2 = 1
        · subst hv1
          go_wp2_with fail
          go_loopw [3] (fun out wr => ∃ (MA : Option Addr) (mc : Nat) (ns : List (Int × Int × Int)), ns.length ≤ 13 ∧ out = .slice MA ns.length mc ∧ GrowSt w wr b A c xs 70 3 jointC MA mc ns) (fun out _ => 13 - lenOf out)
          case atStart => exact ⟨LA, lc, ms, by omega, rfl, HL2.out⟩
          case round =>
            obtain ⟨MA, mc, ns, hnl, rfl, hM⟩ := hrel
            have HM1 := Lib.hid hM; clear hM
            go_wp2_with fail
            refine (HN.out _ 2 (by omega) HM1.out.feed).mono ?_
            rintro e w4 ⟨v4, rfl, c0, c1, _, hS, hO⟩
            have HM2 := Lib.hid (HM1.out.turn (HM1.out.feed.turn hS hO) hO)
            have c1 := c1 (by omega)
            have s4 := HM2.out.old.size
            clear hS hO HM1
            by_cases hlt2 : (ns.length : Int) < 12 + v4
            · have hnl2 : ns.length ≤ 12 := by omega
              go_wp2_with (at_builtin; refine wpList_append_far rfl _ _ _ rfl w.heap.size 70 (.agg #[.int .i64 0, .int .i64 0, .int .i64 0]) 3 24 Try.underlying57 infoJoint rfl (by omega) (by omega) jointC ns (0, 1, 0) MA mc rfl (HM2.out.own.keep (balloc _ _)) w4.heap.size _ rfl rfl (three_cells (by go_simp) (by go_simp) (by go_simp)) (HJ1.out _) (by omega) (by simp; omega) ?_)
              intro A6 c6 w6 hown6 hb6 _
              have HM4 := Lib.hid (HM2.out.grow hown6 hb6)
              clear hown6 hb6
              go_wp2_with fail
              exact ⟨⟨A6, c6, ns ++ [(0, 1, 0)], by simp; omega, by simp, HM4.out⟩, by simp [lenOf]; omega⟩
            · go_wp2_with fail
              go_ret
              exact HM2.out.drawn HJL.out (by omega) (fun _ _ => trivial)
        · have hvb1 : (v2 == 1) = false := by simp [hv1]
          clear hv hv1
          go_wp2_with fail
          go_ret
          exact HL2.out.drawn HJL.out (by omega) (fun _ _ => trivial)

/-- Parts and joints drawn. -/
def DrawnBoth (w : World) (b : Nat) (A : Option Addr) (c : Nat) (xs : List Int) (e : Ending) (w' : World) : Prop :=
  ∃ (LA JA : Option Addr) (lc jc : Nat) (vs : List PartT) (js : List (Int × Int × Int)), e = .returned (.tuple #[.slice LA vs.length lc, .slice JA js.length jc]) ∧ FlatR w' w.heap.size w'.heap.size LA vs ∧ vs.length ≤ 64 ∧ (∀ x ∈ vs, x.code.size ≤ 64 ∧ x.ports.length ≤ 64) ∧ Flat w' w.heap.size w'.heap.size 70 3 jointC JA js ∧ js.length ≤ 64 ∧ Feed w' b A c xs ∧ Only b (b + 1) w w'
theorem l18Draw_any (A : Option Addr) (c b : Nat) (xs : List Int) (w : World) (hF : Feed w b A c xs) :
    Calls Try.prog 138 #[.pointer (some ⟨b, 0, none⟩)] w (DrawnBoth w b A c xs) := by
  have HP := Lib.hid (l16List_any A c b xs w hF)
  have HJ : Hid (∀ v : World, Feed v b A c xs → Calls Try.prog 111 #[.pointer (some ⟨b, 0, none⟩)] v (DrawnJoints v b A c xs)) := fun v h => l17DrawJoints_any A c b xs v h
  have hlb := hF.src.lt
  clear hF
  go_enter Try.func138, Try.ntmps138
  go_wp2_with fail
  refine HP.out.mono ?_
  rintro e w1 ⟨LA, lc, vs, rfl, fv, _, hvl, hvs, hF1, hO1⟩
  have HF1 := Lib.hid hF1; clear hF1
  have HVS := Lib.hid hvs; clear hvs
  go_wp2_with fail
  refine (HJ.out w1 HF1.out).mono ?_
  rintro e w2 ⟨JA, jc, js, rfl, fj, _, hjl, _, hF2, hO2⟩
  have HF2 := Lib.hid hF2; clear hF2 HF1
  have HR := Lib.hid ((fv.only hO2 (Nat.le_refl _) (Or.inr (by omega))).mono (Nat.le_refl _) hO2.size)
  have HRj := Lib.hid (fj.mono hO1.size (Nat.le_refl _))
  clear fv fj
  go_wp2_with fail
  go_ret2
  exact ⟨LA, JA, lc, jc, vs, js, rfl, HR.out, hvl, HVS.out, HRj.out, hjl, HF2.out, hO1.trans hO2⟩

end Go.Proofs.Ytlhbjgbkpjlacaa

namespace Go.Proofs.Ytlhbjgbkpjlacaa
set_option maxRecDepth 100000
open Go.RowKit

/-- A source over the law's code. -/
theorem feed_made {w v : World} {b c : Nat} {A : Option Addr} {xs : List Int} (hr : Rd w w.heap.size 1 uC A xs) (hx : ∀ x ∈ xs, 0 ≤ x ∧ x < 256) (hm : xs.length ≤ 4096) (h1 : Src v b A c xs) (h2 : w.heap.size ≤ b) (h3 : Below w.heap.size w v) : Feed v b A c xs :=
  ⟨h1, (hr.below h3).more h2, hx, hm⟩
theorem smallV_of {vs : List PartT} (h1 : vs.length ≤ 64) (h2 : ∀ x ∈ vs, x.code.size ≤ 64 ∧ x.ports.length ≤ 64) : SmallV vs := ⟨by omega, fun x hx => by
  have := h2 x hx
  unfold maxLen
  omega⟩
/-- Parts and joints, and a number between 0 and M. -/
def GivenBoth (M : Int) (w : World) (e : Ending) (w' : World) : Prop := ∃ (LA JA : Option Addr) (lc jc : Nat) (vs : List PartT) (js : List (Int × Int × Int)) (m : Int), e = .returned (.tuple #[.slice LA vs.length lc, .slice JA js.length jc, .int .i64 m]) ∧ RdV w' w'.heap.size LA vs ∧ SmallV vs ∧ Rd w' w'.heap.size 3 jointC JA js ∧ js.length ≤ 64 ∧ 0 ≤ m ∧ m ≤ M ∧ Below w.heap.size w w'

set_option maxHeartbeats 1000000 in
theorem DrawLightest_any (A : Option Addr) (c : Nat) (xs : List Int) (w : World) (hr : Rd w w.heap.size 1 uC A xs) (hx : ∀ x ∈ xs, 0 ≤ x ∧ x < 256) (hm : xs.length ≤ 4096) :
    Calls Try.prog 75 #[.slice A xs.length c] w (GivenBoth 100000001 w) := by
  have HS := Lib.hid (l01From_any A c xs w hr hx hm)
  have HFd : Hid (∀ (v : World) (b : Nat), Src v b A c xs → w.heap.size ≤ b → Below w.heap.size w v → Feed v b A c xs) := fun v b h1 h2 h3 => feed_made hr hx hm h1 h2 h3
  have HB : Hid (∀ (v : World) (b : Nat), Feed v b A c xs → Calls Try.prog 138 #[.pointer (some ⟨b, 0, none⟩)] v (DrawnBoth v b A c xs)) := fun v b h => l18Draw_any A c b xs v h
  have HN : Hid (∀ (v : World) (b : Nat) (n : Int), n < 20000 → Feed v b A c xs → Calls Try.prog 91 #[.pointer (some ⟨b, 0, none⟩), .int .i64 n] v (Drawn v b A c xs n)) := fun v b n hn h => l01Next_any A c b xs n v h.src h.rd h.byte h.small (by omega)
  clear hr hx
  go_enter Try.func75, Try.ntmps75
  go_wp2_with fail
  refine HS.out.mono ?_
  rintro e w1 ⟨b, rfl, hS, hbl, hb1⟩
  have HF1 := Lib.hid (HFd.out w1 b hS hbl hb1)
  have hlt1 := hS.lt
  clear hS HS HFd
  go_wp2_with fail
  refine (HB.out w1 b HF1.out).mono ?_
  rintro e w2 ⟨LA, JA, lc, jc, vs, js, rfl, fv, hvl, hvs, fj, hjl, hF2, hO2⟩
  have HF2 := Lib.hid hF2; clear hF2 HF1
  have HSm := Lib.hid (smallV_of hvl hvs)
  have HV := Lib.hid fv; clear fv hvs hvl
  have HJ := Lib.hid fj; clear fj
  have HO2 := Lib.hid (Only.refl b (b + 1) w2)
  go_wp2_with fail
  refine (HN.out w2 b 16000 (by omega) HF2.out).mono ?_
  rintro e w3 ⟨v3, rfl, a0, a1, _, hS, hO⟩
  have HF3 := Lib.hid (HF2.out.turn hS hO)
  have HO3 := Lib.hid (HO2.out.trans hO)
  have v3lt := a1 (by omega)
  have v3ge := a0
  clear hS hO HF2 HO2 a1 a0
  have HPk := Lib.hid (pick_next A c b xs w3 2 [1000 + v3, 10000, 0, 100000000, 100000001] (by simp) (by simp) HF3.out)
  go_wp2_with fail
  refine HPk.out.mono ?_
  rintro e w4 ⟨m, hv, rfl, hF9, hO⟩
  have hmb : 0 ≤ m ∧ m ≤ 100000001 := by
    simp only [List.mem_cons, List.not_mem_nil, or_false] at hv
    omega
  have hO9 := HO3.out.trans hO
  have hR := ((HV.out.only hO9 (Nat.le_refl _) (Or.inr hlt1)).rd.more hO9.size)
  have hRJ := ((HJ.out.only hO9 (Nat.le_refl _) (Or.inr hlt1)).rd.more hO9.size)
  have hBl : Below w.heap.size w w4 := hb1.trans ((hO2.trans hO9).below hbl hb1.size)
  have HEnd : Hid (GivenBoth 100000001 w (.returned (.tuple #[.slice LA vs.length lc, .slice JA js.length jc, .int .i64 m])) w4) := ⟨LA, JA, lc, jc, vs, js, m, rfl, hR, HSm.out, hRJ, hjl, hmb.1, hmb.2, hBl⟩
  clear hR hRJ hBl HPk HF3 HO3 hO9 hF9 hO hv HV HJ HSm
  go_wp2_with fail
  go_ret3
  exact HEnd.out

/-- Parts and joints. -/
def GivenJust (w : World) (e : Ending) (w' : World) : Prop := ∃ (LA JA : Option Addr) (lc jc : Nat) (vs : List PartT) (js : List (Int × Int × Int)), e = .returned (.tuple #[.slice LA vs.length lc, .slice JA js.length jc]) ∧ RdV w' w'.heap.size LA vs ∧ SmallV vs ∧ Rd w' w'.heap.size 3 jointC JA js ∧ js.length ≤ 64 ∧ Below w.heap.size w w'
theorem DrawFrontier_any (A : Option Addr) (c : Nat) (xs : List Int) (w : World) (hr : Rd w w.heap.size 1 uC A xs) (hx : ∀ x ∈ xs, 0 ≤ x ∧ x < 256) (hm : xs.length ≤ 4096) :
    Calls Try.prog 64 #[.slice A xs.length c] w (GivenJust w) := by
  have HS := Lib.hid (l01From_any A c xs w hr hx hm)
  have HFd : Hid (∀ (v : World) (b : Nat), Src v b A c xs → w.heap.size ≤ b → Below w.heap.size w v → Feed v b A c xs) := fun v b h1 h2 h3 => feed_made hr hx hm h1 h2 h3
  have HB : Hid (∀ (v : World) (b : Nat), Feed v b A c xs → Calls Try.prog 138 #[.pointer (some ⟨b, 0, none⟩)] v (DrawnBoth v b A c xs)) := fun v b h => l18Draw_any A c b xs v h
  clear hr hx
  go_enter Try.func64, Try.ntmps64
  go_wp2_with fail
  refine HS.out.mono ?_
  rintro e w1 ⟨b, rfl, hS, hbl, hb1⟩
  have HF1 := Lib.hid (HFd.out w1 b hS hbl hb1)
  clear hS HS HFd
  go_wp2_with fail
  refine (HB.out w1 b HF1.out).mono ?_
  rintro e w2 ⟨LA, JA, lc, jc, vs, js, rfl, fv, hvl, hvs, fj, hjl, hF2, hO2⟩
  have HEnd : Hid (GivenJust w (.returned (.tuple #[.slice LA vs.length lc, .slice JA js.length jc])) w2) := ⟨LA, JA, lc, jc, vs, js, rfl, fv.rd, smallV_of hvl hvs, fj.rd, hjl, hb1.trans (hO2.below hbl hb1.size)⟩
  clear fv hvl hvs fj hF2 hO2 HF1
  go_wp2_with fail
  go_ret2
  exact HEnd.out

end Go.Proofs.Ytlhbjgbkpjlacaa

namespace Go.Proofs.Ytlhbjgbkpjlacaa
set_option maxRecDepth 100000
open Go.RowKit

/-- Parts, and a build that grows and turns, a source in hand. -/
structure BuildSt (V w : World) (b : Nat) (A : Option Addr) (c : Nat) (xs : List Int) (LA : Option Addr) (vs : List PartT) (BA : Option Addr) (bc : Nat) (bs : List ByteArray) : Prop where
  feed : Feed w b A c xs
  parts : RdV w w.heap.size LA vs
  own : Own w V.heap.size 9 1 tC BA bc bs
  old : Only b (b + 1) V w
  lt : b < V.heap.size
section
variable {V w w' : World} {b c bc : Nat} {A LA BA : Option Addr} {xs : List Int} {vs : List PartT} {bs : List ByteArray}
/-- Nothing has turned but the source. -/
theorem BuildSt.next (h : BuildSt V w b A c xs LA vs BA bc bs) (hb : Below w.heap.size w w') : BuildSt V w' b A c xs LA vs BA bc bs :=
  ⟨h.feed.next hb, h.parts.next hb, h.own.keep hb, h.old.trans (Only.of_below hb), h.lt⟩
end
/-- Parts and a build drawn. -/
def DrawnBuild (w : World) (b : Nat) (A : Option Addr) (c : Nat) (xs : List Int) (e : Ending) (w' : World) : Prop :=
  ∃ (LA BA : Option Addr) (lc bc : Nat) (vs : List PartT) (bs : List ByteArray), e = .returned (.tuple #[.slice LA vs.length lc, .slice BA bs.length bc]) ∧ FlatR w' w.heap.size w'.heap.size LA vs ∧ vs.length ≤ 64 ∧ (∀ x ∈ vs, x.code.size ≤ 64 ∧ x.ports.length ≤ 64) ∧ Flat w' w.heap.size w'.heap.size 9 1 tC BA bs ∧ bs.length ≤ bc ∧ bs.length ≤ 64 ∧ Feed w' b A c xs ∧ Only b (b + 1) w w'
theorem putR_len (vs : List PartT) (bs : List ByteArray) (code : ByteArray) (h : (putR vs bs code).2 = 0) : (putR vs bs code).1.length = bs.length := by
  unfold putR at h ⊢
  split at h
  · split at h
    · simp at h
    · split at h
      · rename_i h1 h2 h3
        rw [if_pos h1, if_neg h2, if_pos h3]
        simp [setT]
      · simp at h
  · simp at h
theorem FlatR.farOwn {α : Type} {w w4 : World} {lo hi sz c base : Nat} {E : TypeId} {f : α → List Value} {LA B A2 : Option Addr} {vs : List PartT} {ys : List α} (h : FlatR w lo hi LA vs) (ho : Own w base E sz f B c ys) (h1 : E ≠ 37) (h2 : E ≠ 23) (hhi : hi ≤ w.heap.size)
    (hfar : ∀ g, g < w.heap.size → Apart B g → Apart A2 g ∧ w4.heap[g]? = w.heap[g]?) : FlatR w4 lo hi LA vs := by
  obtain ⟨ms, e, hf, hi'⟩ := h
  exact ⟨ms, e, hf.farType ho h1 hhi hfar, fun m hm => (hi'.flat m hm).farType ho h2 hhi hfar, hi'.cap, hi'.far, hi'.apart⟩
theorem FlatR.setType {w : World} {lo hi m : Nat} {E : TypeId} {LA : Option Addr} {vs : List PartT} (h : FlatR w lo hi LA vs) {p : Addr} (hr : Row w p.block E m) (h1 : 37 ≠ E) (h2 : 23 ≠ E) (u : Value) : FlatR (w.setCell p u) lo hi LA vs := by
  obtain ⟨ms, e, hf, hi'⟩ := h
  exact ⟨ms, e, hf.setType hr h1 u, fun q hq => (hi'.flat q hq).setType hr h2 u, hi'.cap, hi'.far, hi'.apart⟩
theorem bare_own (w : World) : Own (w.alloc (.cells (madeCells (Value.string ⟨#[]⟩).cells 8) 9)) w.heap.size 9 1 tC (some ⟨w.heap.size, 0, none⟩) 8 bare := by
  have h := World.ownsRow_lit (base := w.heap.size) (e := 9) (size := 1) w (madeCells (Value.string ⟨#[]⟩).cells 8) 8 (Nat.le_refl _) (by unfold maxLen; omega) (by rw [size_madeCells])
  have e : (madeCells (Value.string ⟨#[]⟩).cells 8).toList = bare.flatMap tC := by
    rw [flat_map_tC]
    exact (toList_madeCells_one (.string ⟨#[]⟩) 8).trans rfl
  rw [e] at h
  exact h

set_option maxHeartbeats 4000000 in
theorem l17Draw_any (A : Option Addr) (c b : Nat) (xs : List Int) (w : World) (hF : Feed w b A c xs) :
    Calls Try.prog 110 #[.pointer (some ⟨b, 0, none⟩)] w (DrawnBuild w b A c xs) := by
  have HN : Hid (∀ (v : World) (n : Int), n < 20000 → Feed v b A c xs → Calls Try.prog 91 #[.pointer (some ⟨b, 0, none⟩), .int .i64 n] v (Drawn v b A c xs n)) := fun v n hn h => l01Next_any A c b xs n v h.src h.rd h.byte h.small (by omega)
  have HP := Lib.hid (l16List_any A c b xs w hF)
  have hlb := hF.src.lt
  clear hF
  have hmk : ∀ W : World, (Instr.makeSlice 58 (.int .i64 8) (.int .i64 8)).run Try.prog W = .ok (.slice (some ⟨W.heap.size, 0, none⟩) 8 8) (W.alloc (.cells (madeCells (Value.string ⟨#[]⟩).cells 8) 9)) := fun W => made Try.underlying58 infoString 8 (by omega) (by omega) W
  go_enter Try.func110, Try.ntmps110
  go_wp2_with fail
  refine HP.out.mono ?_
  rintro e w1 ⟨LA, lc, vs, rfl, fv, _, hvl, hvs, hF1, hO1⟩
  have s1 := hO1.size
  have HVS := Lib.hid hvs
  have HSm := Lib.hid (smallV_of hvl hvs)
  clear hvs HP
  go_wp2_with fail
  clear hmk
  have HV2 := Lib.hid ((fv.below (balloc w1 (.cells (madeCells (Value.string ⟨#[]⟩).cells 8) 9)) (Nat.le_refl _)).mono (Nat.le_refl _) (balloc w1 (.cells (madeCells (Value.string ⟨#[]⟩).cells 8) 9)).size)
  have HO2 : Hid (Own (w1.alloc (.cells (madeCells (Value.string ⟨#[]⟩).cells 8) 9)) w.heap.size 9 1 tC (some ⟨w1.heap.size, 0, none⟩) 8 bare) := (bare_own w1).base s1
  have HF2 := Lib.hid (hF1.next (balloc w1 (.cells (madeCells (Value.string ⟨#[]⟩).cells 8) 9)))
  have HC2 : Hid (Only b (b + 1) w (w1.alloc (.cells (madeCells (Value.string ⟨#[]⟩).cells 8) 9))) := hO1.trans (Only.alloc _)
  have e8 : (8 : Nat) = bare.length := rfl
  clear fv hF1 hO1
  change Calls _ _ _ (w1.alloc (.cells (madeCells (Value.string ⟨#[]⟩).cells 8) 9)) _
  generalize w1.alloc (.cells (madeCells (Value.string ⟨#[]⟩).cells 8) 9) = W at HV2 HO2 HF2 HC2 ⊢
  refine (HN.out W 6 (by omega) HF2.out).mono ?_
  rintro e w2 ⟨q0, rfl, a0, a1, _, hS, hO⟩
  have HF3 := Lib.hid (HF2.out.turn hS hO)
  have HV3 := Lib.hid ((HV2.out.only hO (Nat.le_refl _) (Or.inr (by omega))).mono (Nat.le_refl _) hO.size)
  have HO3 := Lib.hid (HO2.out.only hO (by omega))
  have HC3 := Lib.hid (HC2.out.trans hO)
  have a1 := a1 (by omega)
  clear hS hO HF2 HV2 HO2 HC2
  go_wp2_with fail
  go_loopw [5, 6] (fun bu i wr => ∃ (q : Int) (BA : Option Addr) (bc : Nat) (bs : List ByteArray), 0 ≤ q ∧ q ≤ 6 ∧ i = .int .i64 q ∧ bu = .slice BA bs.length bc ∧ bs.length = 8 ∧ Own wr w.heap.size 9 1 tC BA bc bs ∧ FlatR wr w.heap.size wr.heap.size LA vs ∧ Feed wr b A c xs ∧ Only b (b + 1) w wr) (fun _ i _ => (intOf i).toNat)
  case atStart => exact ⟨q0, _, 8, bare, a0, by omega, rfl, rfl, rfl, HO3.out, HV3.out, HF3.out, HC3.out⟩
  case round =>
    obtain ⟨q, BA, bc, bs, q0, q6, rfl, rfl, hl8, hown, hv, hF, hO⟩ := hrel
    have Ho := Lib.hid hown; clear hown
    have Hv := Lib.hid hv; clear hv
    have HF := Lib.hid hF; clear hF
    have HO := Lib.hid hO; clear hO
    have Hl8 := Lib.hid hl8; clear hl8
    clear HF3 HV3 HO3 HC3
    have sr := HO.out.size
    by_cases hq : 0 < q ∧ 0 < vs.length
    · obtain ⟨hq1, hq2⟩ := hq
      go_wp2_with fail
      refine (HN.out wr (vs.length : Int) (by omega) HF.out).mono ?_
      rintro e w3 ⟨v3, rfl, b0, b1, b2, hS, hO3⟩
      have HF3 := Lib.hid (HF.out.turn hS hO3)
      have HV3 := Lib.hid ((Hv.out.only hO3 (Nat.le_refl _) (Or.inr (by omega))).mono (Nat.le_refl _) hO3.size)
      have Ho3 := Lib.hid (Ho.out.only hO3 (by omega))
      have HC3 := Lib.hid (HO.out.trans hO3)
      obtain ⟨k, rfl⟩ := Int.eq_ofNat_of_zero_le b0
      have hk : k < vs.length := by
        by_cases h : (1 : Int) < vs.length
        · have := b1 h; omega
        · have := b2 (by omega); omega
      clear hS hO3 Ho Hv HF HO b1 b2
      have s3 := HC3.out.size
      have hx : vs[k]? = some vs[k] := List.getElem?_eq_getElem hk
      have hrv := HV3.out.rd
      obtain ⟨bl, ol, rfl⟩ := hrv.addr (by omega)
      obtain ⟨hB, pA, pc, p0, _⟩ := hrv.cells hx
      clear hx hrv
      generalize (vs[k]).code = cd at p0
      have HPu := Lib.hid (PutPart_specO (some ⟨bl, ol, none⟩) BA lc bc vs bs cd w3 HV3.out.rd ((Ho3.out.flat tC_len).rd) HSm.out (by have := Hl8.out; omega))
      have HPl := Lib.hid (putR_len vs bs cd)
      generalize putR vs bs cd = R at HPu HPl
      obtain ⟨nb, bad⟩ := R
      go_wp2_with fail
      refine HPu.out.mono ?_
      rintro e w4 ⟨CA, cc, rfl, hown4, hb4⟩
      try simp only at hown4
      have Ho4 := Lib.hid (hown4.base s3)
      have HoOld := Lib.hid (Ho3.out.keep hb4)
      have HF4 := Lib.hid (HF3.out.next hb4)
      have HV4 := Lib.hid ((HV3.out.below hb4 (Nat.le_refl _)).mono (Nat.le_refl _) hb4.size)
      have HC4 := Lib.hid (HC3.out.trans (Only.of_below hb4))
      clear hown4 hb4 Ho3 HF3 HV3 HC3 p0 HPu
      by_cases hbad : bad = 0
      · have hn8 : Hid (nb.length = 8) := by
          have := HPl.out hbad
          unfold Hid
          try simp only at this
          exact this.trans Hl8.out
        subst hbad
        go_wp2_with fail
        exact ⟨⟨q - 1, CA, cc, nb, by omega, by omega, by go_num, rfl, hn8.out, Ho4.out, HV4.out, HF4.out, HC4.out⟩, by simp [intOf]; omega⟩
      · have hbb : (bad == 0) = false := by simp [hbad]
        go_wp2_with fail
        exact ⟨⟨q - 1, BA, bc, bs, by omega, by omega, by go_num, rfl, Hl8.out, HoOld.out, HV4.out, HF4.out, HC4.out⟩, by simp [intOf]; omega⟩
    · have hend : (q > 0 ∧ ¬ 0 < vs.length) ∨ ¬ q > 0 := by omega
      rcases hend with ⟨hq1, hq2⟩ | hq1
      all_goals
        clear hq
        try (have hvl0 : ¬ ((vs.length : Int) > 0) := by omega)
        go_wp2_with fail
        refine (HN.out wr 40 (by omega) HF.out).mono ?_
        rintro e w3 ⟨v3, rfl, b0, b1, b2, hS, hO3⟩
        have HF3 := Lib.hid (HF.out.turn hS hO3)
        have HV3 := Lib.hid ((Hv.out.only hO3 (Nat.le_refl _) (Or.inr (by omega))).mono (Nat.le_refl _) hO3.size)
        have Ho3 := Lib.hid (Ho.out.only hO3 (by omega))
        have HC3 := Lib.hid (HO.out.trans hO3)
        have s3 := HC3.out.size
        have hbl : bs.length ≤ 8 := by have := Hl8.out; omega
        clear hS hO3 Ho Hv HF HO b1 b2
        by_cases hv0 : v3 = 0
        · subst hv0
          go_wp2_with (at_builtin; refine wpList_append_far rfl _ _ _ rfl w.heap.size 9 (.string ⟨#[]⟩) 1 16 Try.underlying58 infoString rfl (by omega) (by omega) tC bs ⟨#[]⟩ BA bc rfl (Ho3.out.keep (balloc _ _)) w3.heap.size _ rfl rfl (one_cell (by go_simp)) (by simp [tC]; rfl) (by omega) (by simp; omega) ?_)
          intro A2 c2 w5 hown5 hb5 hfar5
          have hA := balloc w3 (.cells #[.string ⟨#[]⟩] 9)
          have hvA := (HV3.out.below hA (Nat.le_refl _)).farOwn (Ho3.out.keep hA) (by decide) (by decide) hA.size (fun g hg => hfar5 g (by simpa using hg))
          have hsz5 : w3.heap.size ≤ w5.heap.size := Nat.le_trans hA.size hb5.size
          have HEnd : Hid (DrawnBuild w b A c xs (.returned (.tuple #[.slice LA vs.length lc, .slice A2 (bs.length + 1) c2])) w5) := by
            have hb35 : Below w.heap.size w3 w5 := (hA.mono s3).trans hb5
            have ho := HC3.out
            have hcap := hown5.cap
            have hlen : (bs ++ [(⟨#[]⟩ : ByteArray)]).length = bs.length + 1 := by simp
            refine ⟨LA, A2, lc, c2, vs, bs ++ [⟨#[]⟩], by rw [hlen], hvA.mono (Nat.le_refl _) hsz5, hvl, HVS.out, hown5.flat tC_len, hcap, by rw [hlen]; omega, HF3.out.under hb35 hlb, ?_⟩
            exact ⟨hb35.os.trans ho.os, hb35.tape.trans ho.tape, hb35.output.trans ho.output, Nat.le_trans ho.size hb35.size, fun k hk hn => (hb35.block k hk).trans (ho.block k hk hn)⟩
          clear hown5 hb5 hfar5 hvA
          go_wp2_with fail
          go_ret2
          exact HEnd.out
        · have hvb : (v3 == 0) = false := by simp [hv0]
          by_cases hv1 : v3 = 1
          · subst hv1
            go_wp2_with fail
            refine (HN.out w3 8 (by omega) HF3.out).mono ?_
            rintro e w4 ⟨v4, rfl, d0, d1, _, hS, hO4⟩
            have HF4 := Lib.hid (HF3.out.turn hS hO4)
            have HV4 := Lib.hid ((HV3.out.only hO4 (Nat.le_refl _) (Or.inr (by omega))).mono (Nat.le_refl _) hO4.size)
            have hown4 := Ho3.out.only hO4 (by omega)
            have HC4 := Lib.hid (HC3.out.trans hO4)
            have d1 := d1 (by omega)
            obtain ⟨s, rfl⟩ := Int.eq_ofNat_of_zero_le d0
            have hs8 : s < bs.length := by have := Hl8.out; omega
            obtain ⟨g, m, rfl, hg1, hg2, hrow, hml, _⟩ := hown4.flat tC_len (by omega)
            obtain ⟨z0, hz0⟩ := hrow.cell (j := s) (by omega)
            have hf0 := hrow.frozen s
            have hcap := hown4.cap
            have HEnd : Hid (DrawnBuild w b A c xs (.returned (.tuple #[.slice LA vs.length lc, .slice (some ⟨g, 0, none⟩) bs.length bc])) (w4.setCell ⟨g, s, none⟩ (.string ⟨#[110, 111, 110, 101]⟩))) := by
              have hsz : w4.heap.size ≤ (w4.setCell ⟨g, s, none⟩ (.string ⟨#[110, 111, 110, 101]⟩)).heap.size := by simp [World.setCell]
              exact ⟨LA, some ⟨g, 0, none⟩, lc, bc, vs, bs.set s ⟨#[110, 111, 110, 101]⟩, by rw [List.length_set], (HV4.out.setType (p := ⟨g, s, none⟩) hrow (by decide) (by decide) _).mono (Nat.le_refl _) hsz, hvl, HVS.out, (Own.set1 hown4 hs8 _).flat tC_len, by rw [List.length_set]; exact hcap, by rw [List.length_set]; omega, HF4.out.setFar (p := ⟨g, s, none⟩) (show b < g by omega) _, HC4.out.setNew (p := ⟨g, s, none⟩) hg1 _⟩
            clear hown4 hO4 hS HF4 HV4 HC4 Ho3 HF3 HV3 HC3 hrow
            go_wp2_with fail
            go_ret2
            exact HEnd.out
          · have hvb1 : (v3 == 1) = false := by simp [hv1]
            have HEnd : Hid (DrawnBuild w b A c xs (.returned (.tuple #[.slice LA vs.length lc, .slice BA bs.length bc])) w3) := ⟨LA, BA, lc, bc, vs, bs, rfl, HV3.out, hvl, HVS.out, Ho3.out.flat tC_len, Ho3.out.cap, by omega, HF3.out, HC3.out⟩
            clear hv0 hv1
            go_wp2_with fail
            go_ret2
            exact HEnd.out

end Go.Proofs.Ytlhbjgbkpjlacaa

namespace Go.Proofs.Ytlhbjgbkpjlacaa
set_option maxRecDepth 100000
open Go.RowKit

/-- Parts, a build and a number. -/
def GivenPBI (w : World) (e : Ending) (w' : World) : Prop := ∃ (LA BA : Option Addr) (lc bc : Nat) (vs : List PartT) (bs : List ByteArray) (n : Int), e = .returned (.tuple #[.slice LA vs.length lc, .slice BA bs.length bc, .int .i64 n]) ∧ RdV w' w'.heap.size LA vs ∧ SmallV vs ∧ Rd w' w'.heap.size 1 tC BA bs ∧ bs.length ≤ 64 ∧ -1 ≤ n ∧ n ≤ 8 ∧ Below w.heap.size w w'
/-- Parts, a build and a text. -/
def GivenPBS (w : World) (e : Ending) (w' : World) : Prop := ∃ (LA BA : Option Addr) (lc bc : Nat) (vs : List PartT) (bs : List ByteArray) (s : ByteArray), e = .returned (.tuple #[.slice LA vs.length lc, .slice BA bs.length bc, .string s]) ∧ RdV w' w'.heap.size LA vs ∧ SmallV vs ∧ Rd w' w'.heap.size 1 tC BA bs ∧ bs.length ≤ 64 ∧ s.size ≤ 64 ∧ Below w.heap.size w w'
/-- Parts, joints and a build. -/
def GivenPJB (w : World) (e : Ending) (w' : World) : Prop := ∃ (LA JA BA : Option Addr) (lc jc bc : Nat) (vs : List PartT) (js : List (Int × Int × Int)) (bs : List ByteArray), e = .returned (.tuple #[.slice LA vs.length lc, .slice JA js.length jc, .slice BA bs.length bc]) ∧ FlatR w' w.heap.size w'.heap.size LA vs ∧ SmallV vs ∧ Flat w' w.heap.size w'.heap.size 70 3 jointC JA js ∧ js.length ≤ 64 ∧ Flat w' w.heap.size w'.heap.size 9 1 tC BA bs ∧ bs.length ≤ bc ∧ bs.length ≤ 64 ∧ Below w.heap.size w w'
/-- Parts, joints, a build and a number. -/
def GivenPJBI (w : World) (e : Ending) (w' : World) : Prop := ∃ (LA JA BA : Option Addr) (lc jc bc : Nat) (vs : List PartT) (js : List (Int × Int × Int)) (bs : List ByteArray) (n : Int), e = .returned (.tuple #[.slice LA vs.length lc, .slice JA js.length jc, .slice BA bs.length bc, .int .i64 n]) ∧ RdV w' w'.heap.size LA vs ∧ SmallV vs ∧ Rd w' w'.heap.size 3 jointC JA js ∧ js.length ≤ 64 ∧ Rd w' w'.heap.size 1 tC BA bs ∧ bs.length ≤ bc ∧ bs.length ≤ 64 ∧ -1 ≤ n ∧ n ≤ 8 ∧ Below w.heap.size w w'

set_option maxHeartbeats 1000000 in
theorem DrawBrokenJoints_any (A : Option Addr) (c : Nat) (xs : List Int) (w : World) (hr : Rd w w.heap.size 1 uC A xs) (hx : ∀ x ∈ xs, 0 ≤ x ∧ x < 256) (hm : xs.length ≤ 4096) :
    Calls Try.prog 38 #[.slice A xs.length c] w (GivenPJB w) := by
  have HS := Lib.hid (l01From_any A c xs w hr hx hm)
  have HFd : Hid (∀ (v : World) (b : Nat), Src v b A c xs → w.heap.size ≤ b → Below w.heap.size w v → Feed v b A c xs) := fun v b h1 h2 h3 => feed_made hr hx hm h1 h2 h3
  have HB : Hid (∀ (v : World) (b : Nat), Feed v b A c xs → Calls Try.prog 110 #[.pointer (some ⟨b, 0, none⟩)] v (DrawnBuild v b A c xs)) := fun v b h => l17Draw_any A c b xs v h
  have HJ : Hid (∀ (v : World) (b : Nat), Feed v b A c xs → Calls Try.prog 111 #[.pointer (some ⟨b, 0, none⟩)] v (DrawnJoints v b A c xs)) := fun v b h => l17DrawJoints_any A c b xs v h
  have HN : Hid (∀ (v : World) (b : Nat) (n : Int), n < 20000 → Feed v b A c xs → Calls Try.prog 91 #[.pointer (some ⟨b, 0, none⟩), .int .i64 n] v (Drawn v b A c xs n)) := fun v b n hn h => l01Next_any A c b xs n v h.src h.rd h.byte h.small (by omega)
  clear hr hx
  go_enter Try.func38, Try.ntmps38
  go_wp2_with fail
  refine HS.out.mono ?_
  rintro e w1 ⟨b, rfl, hS, hbl, hb1⟩
  have HF1 := Lib.hid (HFd.out w1 b hS hbl hb1)
  have hlt1 := hS.lt
  clear hS HS HFd
  go_wp2_with fail
  refine (HB.out w1 b HF1.out).mono ?_
  rintro e w2 ⟨LA, BA, lc, bc, vs, bs, rfl, fv, hvl, hvs, fb, hbc, hbl64, hF2, hO2⟩
  have HF2 := Lib.hid hF2; clear hF2 HF1
  have HSm := Lib.hid (smallV_of hvl hvs)
  have HV := Lib.hid fv; have HVS := Lib.hid hvs; clear fv hvs
  have HBu := Lib.hid fb; clear fb
  go_wp2_with fail
  refine (HJ.out w2 b HF2.out).mono ?_
  rintro e w3 ⟨JA, jc, js, rfl, fj, _, hjl, _, hF3, hO⟩
  have HEnd : Hid (GivenPJB w (.returned (.tuple #[.slice LA vs.length lc, .slice JA js.length jc, .slice BA bs.length bc])) w3) := ⟨LA, JA, BA, lc, jc, bc, vs, js, bs, rfl, (HV.out.only hO (Nat.le_refl _) (Or.inr hlt1)).mono hb1.size hO.size, HSm.out, fj.mono (Nat.le_trans hb1.size hO2.size) (Nat.le_refl _), hjl, (HBu.out.only hO (Nat.le_refl _) (Or.inr hlt1)).mono hb1.size hO.size, hbc, hbl64, hb1.trans ((hO2.trans hO).below hbl hb1.size)⟩
  clear hF3 hO fj HF2 HV HBu
  go_wp2_with fail
  go_ret3
  exact HEnd.out

set_option maxHeartbeats 1000000 in
theorem DrawFittingParts_any (A : Option Addr) (c : Nat) (xs : List Int) (w : World) (hr : Rd w w.heap.size 1 uC A xs) (hx : ∀ x ∈ xs, 0 ≤ x ∧ x < 256) (hm : xs.length ≤ 4096) :
    Calls Try.prog 45 #[.slice A xs.length c] w (GivenPJBI w) := by
  have HS := Lib.hid (l01From_any A c xs w hr hx hm)
  have HFd : Hid (∀ (v : World) (b : Nat), Src v b A c xs → w.heap.size ≤ b → Below w.heap.size w v → Feed v b A c xs) := fun v b h1 h2 h3 => feed_made hr hx hm h1 h2 h3
  have HB : Hid (∀ v : World, Below w.heap.size w v → Calls Try.prog 38 #[.slice A xs.length c] v (GivenPJB v)) := fun v hv => DrawBrokenJoints_any A c xs v (hr.next hv) hx hm
  clear hr hx
  go_enter Try.func45, Try.ntmps45
  go_wp2_with fail
  refine HS.out.mono ?_
  rintro e w1 ⟨b, rfl, hS, hbl, hb1⟩
  have HF1 := Lib.hid (HFd.out w1 b hS hbl hb1)
  have HBr := Lib.hid (HB.out w1 hb1)
  have hlt1 := hS.lt
  clear hS HS HFd HB
  go_wp2_with fail
  refine HBr.out.mono ?_
  rintro e w2 ⟨LA, JA, BA, lc, jc, bc, vs, js, bs, rfl, rv, hsv, rj, hjl, rb, hbc, hbl64, hb2⟩
  have HPk := Lib.hid (pick_next A c b xs w2 2 [0, 1, 2, 0, 1, 2, 7, 8] (by simp) (by simp) (HF1.out.next hb2))
  have HV := Lib.hid rv; clear rv
  have HJ := Lib.hid rj; clear rj
  have HBu := Lib.hid rb; clear rb
  have HSm := Lib.hid hsv; clear hsv
  go_wp2_with fail
  refine HPk.out.mono ?_
  rintro e w3 ⟨m, hv, rfl, hF9, hO⟩
  have hmb : -1 ≤ m ∧ m ≤ 8 := by
    simp only [List.mem_cons, List.not_mem_nil, or_false] at hv
    omega
  have HEnd : Hid (GivenPJBI w (.returned (.tuple #[.slice LA vs.length lc, .slice JA js.length jc, .slice BA bs.length bc, .int .i64 m])) w3) := ⟨LA, JA, BA, lc, jc, bc, vs, js, bs, m, rfl, ((HV.out.only hO (Nat.le_refl _) (Or.inr hlt1)).rd.more hO.size), HSm.out, ((HJ.out.only hO (Nat.le_refl _) (Or.inr hlt1)).rd.more hO.size), hjl, ((HBu.out.only hO (Nat.le_refl _) (Or.inr hlt1)).rd.more hO.size), hbc, hbl64, hmb.1, hmb.2, hb1.trans ((hb2.mono hb1.size).trans (hO.below hbl (Nat.le_trans hb1.size hb2.size)))⟩
  clear hF9 hO hv HPk HF1 HV HBu HJ HSm
  go_wp2_with fail
  refine bodyPost_ret (v := .tuple #[.slice LA vs.length lc, .slice JA js.length jc, .slice BA bs.length bc, .int .i64 m]) (by simp [results, Try.results45, go_sem]) rfl ?_
  exact HEnd.out

end Go.Proofs.Ytlhbjgbkpjlacaa

namespace Go.Proofs.Ytlhbjgbkpjlacaa
set_option maxRecDepth 100000
open Go.RowKit

theorem textAt_nat {bs : List ByteArray} {s : Nat} (h : s < bs.length) : bs[s]? = some (textAt bs (s : Int)) := by
  unfold textAt
  rw [Int.toNat_natCast, List.getElem?_eq_getElem h]
/-- A text put into a build: the sum. -/
theorem sum_set {vs : List PartT} {f : PartT → Int} {bs : List ByteArray} {s k0 : Nat} {x : PartT} {name : ByteArray} (hb : ∀ (i : Nat) (c : ByteArray), bs[i]? = some c → c ≠ noText → ∃ (k : Nat) (x : PartT), findI vs c = (k : Int) ∧ vs[k]? = some x)
    (hs : bs[s]? = some noText) (hn : name ≠ noText) (hf : findI vs name = (k0 : Int)) (hx : vs[k0]? = some x) :
    ∀ k : Nat, k ≤ bs.length → sumTo vs f (bs.set s name) k = sumTo vs f bs k + (if s < k then f x else 0)
  | 0, _ => by simp [sumTo]
  | k + 1, hk => by
    have ih := sum_set (f := f) hb hs hn hf hx k (by omega)
    have hkl : k < bs.length := by omega
    have hc := List.getElem?_eq_getElem hkl
    by_cases e : s = k
    · subst e
      rw [sumTo_some (k := s) (c := name) (by rw [List.getElem?_set_self hkl]) hn hf hx, sumTo_none hs rfl, ih, if_neg (by omega), if_pos (by omega)]
      omega
    · have hset : (bs.set s name)[k]? = some bs[k] := by rw [List.getElem?_set_ne e]; exact hc
      have hif : (if s < k + 1 then f x else 0) = (if s < k then f x else 0) := by
        by_cases h : s < k
        · rw [if_pos h, if_pos (by omega)]
        · rw [if_neg h, if_neg (by omega)]
      rw [hif]
      by_cases h0 : bs[k] = noText
      · rw [sumTo_none hset h0, sumTo_none hc h0, ih]
      · obtain ⟨j, y, hj, hy⟩ := hb k _ hc h0
        rw [sumTo_some hset h0 hj hy, sumTo_some hc h0 hj hy, ih]
        omega
/-- What putting a part says. -/
theorem put_law {vs : List PartT} {bs : List ByteArray} {name : ByteArray} (h : (putR vs bs name).2 = 0) :
    ∃ (k s : Nat) (x : PartT), findI vs name = (k : Int) ∧ k < vs.length ∧ vs[k]? = some x ∧ x.code = name ∧ x.slot = (s : Int) ∧ s < 8 ∧ (putR vs bs name).1 = bs.set s name ∧ bs.length = 8 ∧ buildB vs bs = true ∧ partsB vs = true ∧
      (∀ f : PartT → Int, (sumR vs f bs).2 = 0 ∧ sumR vs f (putR vs bs name).1 = ((sumR vs f bs).1 + f x, 0)) := by
  unfold putR at h ⊢
  by_cases hB : buildB vs bs = true
  · rw [if_pos hB] at h ⊢
    obtain ⟨hC, hcd⟩ := buildB_codes hB
    by_cases hn : findI vs name < 0
    · rw [if_pos hn] at h
      simp at h
    · rw [if_neg hn] at h ⊢
      obtain ⟨k, x, e, hk, hx, hxc, hnt⟩ := findI_word hC.parts (c := name) (by omega)
      have hxo := partsB_at hC.parts hx
      obtain ⟨s, hs⟩ := Int.eq_ofNat_of_zero_le hxo.slot0
      have hs7 := hxo.slot7
      have hsl : slotAt vs (findI vs name) = (s : Int) := by rw [e, slotAt_eq hx, hs]
      rw [hsl] at h ⊢
      by_cases ht : textAt bs (s : Int) = noText
      · rw [if_pos ht]
        have hlen := hC.len
        have hse : bs[s]? = some noText := by rw [textAt_nat (by omega), ht]
        have hset : (setT bs (s : Int) name) = bs.set s name := by unfold setT; rw [Int.toNat_natCast]
        rw [hset]
        refine ⟨k, s, x, e, hk, hx, hxc, hs, by omega, rfl, hlen, hB, hC.parts, fun f => ?_⟩
        have hB2 : buildB vs (bs.set s name) = true := buildB_mk hC.parts (by rw [List.length_set]; exact hlen) fun i c hc hcn => by
          by_cases ei : s = i
          · subst ei
            rw [List.getElem?_set_self (by omega)] at hc
            rw [← Option.some.inj hc]
            exact ⟨k, x, e, hx, hs⟩
          · rw [List.getElem?_set_ne ei] at hc
            obtain ⟨k', x', h1, h2, _, h4⟩ := hcd i c hc hcn
            exact ⟨k', x', h1, h2, h4⟩
        unfold sumR
        rw [if_pos hB, if_pos hB2, List.length_set]
        refine ⟨rfl, ?_⟩
        rw [sum_set (fun i c hc hcn => by obtain ⟨k', x', h1, h2, _⟩ := hcd i c hc hcn; exact ⟨k', x', h1, h2⟩) hse hnt e hx bs.length (Nat.le_refl _), if_pos (by omega)]
      · rw [if_neg ht] at h
        simp at h
  · rw [if_neg hB] at h
    simp at h
/-- What taking a part says. -/
theorem take_law {vs : List PartT} {bs : List ByteArray} {slot : Int} (h : (takeR vs bs slot).2 = 0) :
    ∃ s : Nat, slot = (s : Int) ∧ s < 8 ∧ bs.length = 8 ∧ (takeR vs bs slot).1.length = 8 ∧ putR vs (takeR vs bs slot).1 (textAt bs slot) = (bs, 0) := by
  unfold takeR at h ⊢
  by_cases hB : buildB vs bs = true
  · rw [if_pos hB] at h ⊢
    obtain ⟨hC, hcd⟩ := buildB_codes hB
    have hlen := hC.len
    by_cases hi : inB slot 0 7 = true
    · rw [if_pos hi] at h ⊢
      obtain ⟨i0, i7⟩ := inB_true hi
      obtain ⟨s, rfl⟩ := Int.eq_ofNat_of_zero_le i0
      by_cases ht : textAt bs (s : Int) = noText
      · rw [if_pos ht] at h
        simp at h
      · rw [if_neg ht]
        have hset : (setT bs (s : Int) noText) = bs.set s noText := by unfold setT; rw [Int.toNat_natCast]
        rw [hset]
        have hse := textAt_nat (bs := bs) (s := s) (by omega)
        obtain ⟨k, x, e, hx, hxc, hxs⟩ := hcd s _ hse ht
        refine ⟨s, rfl, by omega, hlen, by rw [List.length_set]; exact hlen, ?_⟩
        have hB2 : buildB vs (bs.set s noText) = true := buildB_mk hC.parts (by rw [List.length_set]; exact hlen) fun i c hc hcn => by
          by_cases ei : s = i
          · subst ei
            rw [List.getElem?_set_self (by omega)] at hc
            exact absurd (Option.some.inj hc).symm hcn
          · rw [List.getElem?_set_ne ei] at hc
            obtain ⟨k', x', h1, h2, _, h4⟩ := hcd i c hc hcn
            exact ⟨k', x', h1, h2, h4⟩
        have hsl : slotAt vs (findI vs (textAt bs (s : Int))) = (s : Int) := by rw [e, slotAt_eq hx, hxs]
        have ht2 : textAt (bs.set s noText) (s : Int) = noText := textAt_eq (by rw [Int.toNat_natCast, List.getElem?_set_self (by omega)])
        unfold putR
        rw [if_pos hB2, if_neg (by rw [e]; omega), hsl, if_pos ht2]
        congr 1
        unfold setT
        rw [Int.toNat_natCast, List.set_set]
        refine List.ext_getElem? fun i => ?_
        by_cases ei : s = i
        · subst ei
          rw [List.getElem?_set_self (by omega), hse]
        · rw [List.getElem?_set_ne ei]
    · rw [if_neg hi] at h
      simp at h
  · rw [if_neg hB] at h
    simp at h
theorem sumR_build (vs : List PartT) (f : PartT → Int) (bs : List ByteArray) : buildB vs bs = decide ((sumR vs f bs).2 = 0) := by
  unfold sumR
  by_cases hB : buildB vs bs = true
  · rw [if_pos hB, hB]; rfl
  · rw [if_neg hB]
    have : buildB vs bs = false := by simpa using hB
    rw [this]
    rfl

end Go.Proofs.Ytlhbjgbkpjlacaa

namespace Go.Proofs.Ytlhbjgbkpjlacaa
set_option maxRecDepth 100000
open Go.RowKit

theorem idxTo_full {α : Type} (p : α → Bool) (xs : List α) : ∀ k, k ≤ xs.length → ((idxTo p xs k).length = k ↔ ∀ (j : Nat) (x : α), j < k → xs[j]? = some x → p x = true)
  | 0, _ => by simp [idxTo]
  | k + 1, h => by
    have ih := idxTo_full p xs k (by omega)
    have hle := idxTo_le p xs k
    have hx : xs[k]? = some (xs[k]'(by omega)) := List.getElem?_eq_getElem (by omega)
    cases hp : p (xs[k]'(by omega)) with
    | true =>
      rw [idxTo_yes hx hp]
      simp only [List.length_append, List.length_singleton]
      constructor
      · intro he j x hj hxj
        by_cases e : j = k
        · subst e
          rw [hx] at hxj
          rw [← Option.some.inj hxj]
          exact hp
        · exact ih.1 (by omega) j x (by omega) hxj
      · intro hall
        rw [ih.2 fun j x hj hxj => hall j x (by omega) hxj]
    | false =>
      rw [idxTo_no hx hp]
      constructor
      · intro he
        omega
      · intro hall
        have := hall k _ (by omega) hx
        rw [hp] at this
        cases this
def soundB (vs : List PartT) (js : List JointT) (bs : List ByteArray) : Bool := js.all (isState vs bs 2)
theorem soundB_len (vs : List PartT) (js : List JointT) (bs : List ByteArray) : soundB vs js bs = decide ((idxTo (isState vs bs 2) js js.length).length = js.length) := by
  rw [Bool.eq_iff_iff]
  unfold soundB
  rw [List.all_eq_true, decide_eq_true_eq, idxTo_full _ _ _ (Nat.le_refl _)]
  constructor
  · intro h j x _ hx
    exact h x (List.mem_of_getElem? hx)
  · intro h x hx
    obtain ⟨j, hj⟩ := List.mem_iff_getElem?.1 hx
    exact h j x (List.getElem?_eq_some_iff.1 hj).1 hj
theorem soundB_false {vs : List PartT} {js : List JointT} {bs : List ByteArray} {k : Nat} {t : JointT} (hx : js[k]? = some t) (h : isState vs bs 2 t = false) : soundB vs js bs = false := by
  unfold soundB
  rw [List.all_eq_false]
  exact ⟨t, List.mem_of_getElem? hx, by simp [h]⟩
theorem soundB_true {vs : List PartT} {js : List JointT} {bs : List ByteArray} (h : ∀ j t, j < js.length → js[j]? = some t → isState vs bs 2 t = true) : soundB vs js bs = true := by
  unfold soundB
  rw [List.all_eq_true]
  intro x hx
  obtain ⟨j, hj⟩ := List.mem_iff_getElem?.1 hx
  exact h j x (List.getElem?_eq_some_iff.1 hj).1 hj

set_option maxHeartbeats 1000000 in
theorem isSound_any (A A2 A' : Option Addr) (c c2 c' : Nat) (vs : List PartT) (js : List JointT) (bs : List ByteArray) (w : World) (hr : RdV w w.heap.size A vs) (hr2 : Rd w w.heap.size 3 jointC A2 js) (hr' : Rd w w.heap.size 1 tC A' bs) (hs : SmallV vs) (hm2 : js.length ≤ 1048576) (hC : Codes vs bs) (hj : ∀ j ∈ js, SlotsIn j) :
    Calls Try.prog 117 #[.slice A vs.length c, .slice A2 js.length c2, .slice A' bs.length c'] w fun e w' => e = .returned (.bool (soundB vs js bs)) ∧ Below w.heap.size w w' := by
  have HO : Hid (∀ (v : World) (t : JointT), Rd v v.heap.size 1 tC A' bs → SlotsIn t → Calls Try.prog 116 #[.slice A' bs.length c', .agg #[.int .i64 t.1, .int .i64 t.2.1, .int .i64 t.2.2]] v fun e w' => e = .returned (.bool (openB vs bs t)) ∧ Below v.heap.size v w') := fun v t h2 h3 => by have h4 := isOpen_any A' c' bs t v h2 hC.len h3; rwa [← openB_eq hC h3] at h4
  have HK : Hid (∀ (v : World) (t : JointT), RdV v v.heap.size A vs → Rd v v.heap.size 1 tC A' bs → SlotsIn t → Calls Try.prog 113 #[.slice A vs.length c, .slice A' bs.length c', .agg #[.int .i64 t.1, .int .i64 t.2.1, .int .i64 t.2.2]] v fun e w' => e = .returned (.bool (brokenB vs bs t)) ∧ Below v.heap.size v w') := fun v t h1 h2 h3 => isBroken_any A A' c c' vs bs t v h1 h2 hs hC h3
  have HJ := Lib.hid hj; clear hj hs hC
  go_enter Try.func117, Try.ntmps117
  go_wp2_with fail
  go_loopw [11] (fun i wr => ∃ k : Nat, k ≤ js.length ∧ i = .int .i64 k ∧ Below w.heap.size w wr ∧ ∀ j t, j < k → js[j]? = some t → isState vs bs 2 t = true) (fun i _ => js.length - (intOf i).toNat)
  case atStart => exact ⟨0, Nat.zero_le _, rfl, Below.refl _ _, fun j t hj => by omega⟩
  case round =>
    obtain ⟨k, hk, rfl, hb, hall⟩ := hrel
    have Ha := Lib.hid hall; clear hall
    by_cases hlt : k < js.length
    · have hx : js[k]? = some js[k] := List.getElem?_eq_getElem hlt
      obtain ⟨b2, o2, rfl, hB2, q0, q1, q2⟩ := (hr2.below hb).at3 hx rfl
      have hsl := HJ.out _ (List.mem_of_getElem? hx)
      generalize js[k] = t at q0 q1 q2 hx hsl
      have Hx := Lib.hid hx; clear hx
      have HOt : Hid (∀ v : World, Rd v v.heap.size 1 tC A' bs → Calls Try.prog 116 #[.slice A' bs.length c', .agg #[.int .i64 t.1, .int .i64 t.2.1, .int .i64 t.2.2]] v fun e w' => e = .returned (.bool (openB vs bs t)) ∧ Below v.heap.size v w') := fun v h2 => HO.out v t h2 hsl
      have HKt : Hid (∀ v : World, RdV v v.heap.size A vs → Rd v v.heap.size 1 tC A' bs → Calls Try.prog 113 #[.slice A vs.length c, .slice A' bs.length c', .agg #[.int .i64 t.1, .int .i64 t.2.1, .int .i64 t.2.2]] v fun e w' => e = .returned (.bool (brokenB vs bs t)) ∧ Below v.heap.size v w') := fun v h1 h2 => HK.out v t h1 h2 hsl
      have HB := Lib.hid (stateJ_bd vs bs t)
      have E0 : Hid (openB vs bs t = decide (stateJ vs bs t = 0)) := rfl
      have E1 : Hid (brokenB vs bs t = decide (stateJ vs bs t = 1)) := rfl
      have E2 : Hid (isState vs bs 2 t = decide (stateJ vs bs t = 2)) := rfl
      have HFs : Hid (isState vs bs 2 t = false → soundB vs js bs = false) := fun h => soundB_false Hx.out h
      have HNs : Hid (isState vs bs 2 t = true → ∀ j y, j < k + 1 → js[j]? = some y → isState vs bs 2 y = true) := fun h j y hj hy => by
        by_cases e : j = k
        · subst e
          have := Hx.out
          rw [hy] at this
          rw [Option.some.inj this]
          exact h
        · exact Ha.out j y (by omega) hy
      generalize stateJ vs bs t = sj at HB E0 E1 E2
      generalize isState vs bs 2 t = s2 at E2 HFs HNs
      generalize openB vs bs t = ob at HOt E0
      generalize brokenB vs bs t = bb at HKt E1
      go_wp2_with fail
      have f0 : (wr.alloc (.cells #[.int .i64 t.1, .int .i64 t.2.1, .int .i64 t.2.2] 70)).cell? ⟨wr.heap.size, 0, none⟩ = some (.int .i64 t.1) := by go_simp
      have f1 : (wr.alloc (.cells #[.int .i64 t.1, .int .i64 t.2.1, .int .i64 t.2.2] 70)).cell? ⟨wr.heap.size, 1, none⟩ = some (.int .i64 t.2.1) := by go_simp
      have f2 : (wr.alloc (.cells #[.int .i64 t.1, .int .i64 t.2.1, .int .i64 t.2.2] 70)).cell? ⟨wr.heap.size, 2, none⟩ = some (.int .i64 t.2.2) := by go_simp
      have hbV := hb.alloc hb.size (.cells #[.int .i64 t.1, .int .i64 t.2.1, .int .i64 t.2.2] 70)
      generalize wr.alloc (.cells #[.int .i64 t.1, .int .i64 t.2.1, .int .i64 t.2.2] 70) = U at f0 f1 f2 hbV ⊢
      generalize wr.heap.size = gx at f0 f1 f2 ⊢
      clear q0 q1 q2 hb
      refine (HOt.out _ (hr'.next hbV)).mono ?_
      rintro e w3 ⟨rfl, hb3⟩
      have hbb := bthen hbV hb3
      have e0 := (hb3.cell (p := ⟨gx, 0, none⟩) (World.block_lt_of_cell? U _ f0)).trans f0
      have e1 := (hb3.cell (p := ⟨gx, 1, none⟩) (World.block_lt_of_cell? U _ f1)).trans f1
      have e2 := (hb3.cell (p := ⟨gx, 2, none⟩) (World.block_lt_of_cell? U _ f2)).trans f2
      clear f0 f1 f2
      cases ob
      case true =>
        have HR : Hid (soundB vs js bs = false) := HFs.out (by
          rw [E2.out]
          have := of_decide_eq_true E0.out.symm
          exact decide_eq_false (by omega))
        go_wp2_with fail
        go_ret
        exact ⟨ret_bool HR.out.symm, hbb⟩
      case false =>
        go_wp2_with fail
        refine (HKt.out _ (hr.next hbb) (hr'.next hbb)).mono ?_
        rintro e w4 ⟨rfl, hb4⟩
        clear e0 e1 e2
        cases bb
        case true =>
          have HR : Hid (soundB vs js bs = false) := HFs.out (by
            rw [E2.out]
            have := of_decide_eq_true E1.out.symm
            exact decide_eq_false (by omega))
          go_wp2_with fail
          go_ret
          exact ⟨ret_bool HR.out.symm, bthen hbb hb4⟩
        case false =>
          have HR : Hid (∀ j y, j < k + 1 → js[j]? = some y → isState vs bs 2 y = true) := HNs.out (by
            rw [E2.out]
            have h0 := of_decide_eq_false E0.out.symm
            have h1 := of_decide_eq_false E1.out.symm
            have := HB.out
            exact decide_eq_true (by omega))
          go_wp2_with fail
          exact ⟨⟨k + 1, by omega, by go_num, bthen hbb hb4, HR.out⟩, by simp [intOf]; omega⟩
    · have HR : Hid (soundB vs js bs = true) := soundB_true fun j t hj hx => Ha.out j t (by omega) hx
      go_wp2_with fail
      go_ret
      exact ⟨ret_bool HR.out.symm, hb⟩

def soundR (vs : List PartT) (js : List JointT) (bs : List ByteArray) : Bool × Int := if jointsB js = true then (if buildB vs bs = true then (soundB vs js bs, 0) else (false, 1)) else (false, 1)
theorem IsSound_impl (A A2 A' : Option Addr) (c c2 c' : Nat) (vs : List PartT) (js : List JointT) (bs : List ByteArray) (w : World) (hr : RdV w w.heap.size A vs) (hr2 : Rd w w.heap.size 3 jointC A2 js) (hr' : Rd w w.heap.size 1 tC A' bs) (hs : SmallV vs) (hm2 : js.length ≤ 1048576) (hm' : bs.length ≤ 1048576) :
    Calls Try.prog 43 #[.slice A vs.length c, .slice A2 js.length c2, .slice A' bs.length c'] w fun e w' => e = .returned (.tuple #[.bool (soundR vs js bs).1, .int .i64 (soundR vs js bs).2]) ∧ Below w.heap.size w w' := by
  have hJ := areJoints_impl A2 c2 js w hr2 hm2
  have HB : Hid (∀ v : World, RdV v v.heap.size A vs → Rd v v.heap.size 1 tC A' bs → Calls Try.prog 112 #[.slice A vs.length c, .slice A' bs.length c'] v fun e w' => e = .returned (.bool (buildB vs bs)) ∧ Below v.heap.size v w') := fun v h1 h2 => isBuild_impl A A' c c' vs bs v h1 h2 hs hm'
  have HS : Hid (jointsB js = true → buildB vs bs = true → ∀ v : World, RdV v v.heap.size A vs → Rd v v.heap.size 3 jointC A2 js → Rd v v.heap.size 1 tC A' bs → Calls Try.prog 117 #[.slice A vs.length c, .slice A2 js.length c2, .slice A' bs.length c'] v fun e w' => e = .returned (.bool (soundB vs js bs)) ∧ Below v.heap.size v w') := fun h1 h2 v h3 h4 h5 => isSound_any A A2 A' c c2 c' vs js bs v h3 h4 h5 hs hm2 (buildB_codes h2).1 (jointsB_in h1).2
  have HR : Hid (soundR vs js bs = if jointsB js = true then (if buildB vs bs = true then (soundB vs js bs, 0) else (false, 1)) else (false, 1)) := rfl
  generalize soundR vs js bs = R at HR ⊢
  generalize jointsB js = bj at hJ HR HS
  generalize buildB vs bs = bb at HB HR HS
  generalize soundB vs js bs = sb at HR HS
  have HJ := Lib.hid hJ; clear hJ
  go_enter Try.func43, Try.ntmps43
  go_wp2_with fail
  refine HJ.out.mono ?_
  rintro e w1 ⟨rfl, hb1⟩
  cases bj
  case false =>
    go_wp2_with fail
    go_ret2
    exact ⟨by rw [HR.out]; rfl, hb1⟩
  case true =>
    go_wp2_with fail
    refine (HB.out w1 (hr.next hb1) (hr'.next hb1)).mono ?_
    rintro e w2 ⟨rfl, hb2⟩
    have hb12 := bthen hb1 hb2
    cases bb
    case false =>
      go_wp2_with fail
      go_ret2
      exact ⟨by rw [HR.out]; rfl, hb12⟩
    case true =>
      go_wp2_with fail
      refine (HS.out (by trivial) (by trivial) w2 (hr.next hb12) (hr2.next hb12) (hr'.next hb12)).mono ?_
      rintro e w3 ⟨rfl, hb3⟩
      go_wp2_with fail
      go_ret2
      exact ⟨by rw [HR.out]; rfl, bthen hb12 hb3⟩
theorem IsSound_spec (A A2 A' : Option Addr) (c c2 c' : Nat) (vs : List PartT) (js : List JointT) (bs : List ByteArray) (w : World) (hr : RdV w w.heap.size A vs) (hr2 : Rd w w.heap.size 3 jointC A2 js) (hr' : Rd w w.heap.size 1 tC A' bs) (hs : SmallV vs) (hm2 : js.length ≤ 1048576) (hm' : bs.length ≤ 1048576) :
    Calls Try.prog 44 #[.slice A vs.length c, .slice A2 js.length c2, .slice A' bs.length c'] w fun e w' => e = .returned (.tuple #[.bool (soundR vs js bs).1, .int .i64 (soundR vs js bs).2]) ∧ Below w.heap.size w w' := by
  have hJ := l17Code_any A A2 A' c c2 c' vs js bs 0 w hr hr2 hr' hs hm2 hm'
  have hz := codeL_zero vs js bs
  by_cases hg : jointsB js = true ∧ buildB vs bs = true
  · obtain ⟨hj, hB⟩ := hg
    have HF : Hid (soundR vs js bs = (soundB vs js bs, 0)) := by unfold Hid soundR; rw [if_pos hj, if_pos hB]
    have HL : Hid (∀ v : World, RdV v v.heap.size A vs → Rd v v.heap.size 3 jointC A2 js → Rd v v.heap.size 1 tC A' bs → Calls Try.prog 115 #[.slice A vs.length c, .slice A2 js.length c2, .slice A' bs.length c', .int .i64 2] v (GivesOwn v 2 1 nC (idxTo (isState vs bs 2) js js.length))) := fun v h1 h2 h3 => l17Joints_any A A2 A' c c2 c' vs js bs 2 v h1 h2 h3 hs hm2 (buildB_codes hB).1 (jointsB_in hj).2
    have HE : Hid (soundB vs js bs = decide ((idxTo (isState vs bs 2) js js.length).length = js.length)) := soundB_len vs js bs
    have hle := idxTo_le (isState vs bs 2) js js.length
    rw [hz, if_pos ⟨hj, hB⟩] at hJ
    have HJ := Lib.hid hJ; clear hJ hj hB hz hs
    generalize soundR vs js bs = R at HF ⊢
    generalize soundB vs js bs = sb at HF HE
    generalize idxTo (isState vs bs 2) js js.length = L at HL HE hle
    go_enter Try.func44, Try.ntmps44
    go_wp2_with fail
    refine HJ.out.mono ?_
    rintro e w1 ⟨rfl, hb1⟩
    go_wp2_with fail
    refine (HL.out w1 (hr.next hb1) (hr2.next hb1) (hr'.next hb1)).mono ?_
    rintro e w2 ⟨A3, c3, rfl, hf2, hc2, hb2⟩
    by_cases hq : L.length = js.length
    · have hq1 : ((L.length : Int) == (js.length : Int)) = true := by simp [hq]
      have HT : Hid (sb = true) := by unfold Hid; rw [HE.out]; exact decide_eq_true hq
      clear hq
      go_wp2_with fail
      go_ret2
      exact ⟨by rw [HF.out, HT.out]; rfl, bthen hb1 hb2⟩
    · have hq1 : ((L.length : Int) == (js.length : Int)) = false := by rw [beq_eq_false_iff_ne]; omega
      have HT : Hid (sb = false) := by unfold Hid; rw [HE.out]; exact decide_eq_false hq
      clear hq
      go_wp2_with fail
      go_ret2
      exact ⟨by rw [HF.out, HT.out]; rfl, bthen hb1 hb2⟩
  · have HF : Hid (soundR vs js bs = (false, 1)) := by
      unfold Hid soundR
      by_cases h1 : jointsB js = true
      · rw [if_pos h1, if_neg (fun h2 => hg ⟨h1, h2⟩)]
      · rw [if_neg h1]
    rw [hz, if_neg hg] at hJ
    have HJ := Lib.hid hJ; clear hJ hg hz hs
    generalize soundR vs js bs = R at HF ⊢
    go_enter Try.func44, Try.ntmps44
    go_wp2_with fail
    refine HJ.out.mono ?_
    rintro e w1 ⟨rfl, hb1⟩
    go_wp2_with fail
    go_ret2
    exact ⟨by rw [HF.out]; rfl, hb1⟩

end Go.Proofs.Ytlhbjgbkpjlacaa

namespace Go.Proofs.Ytlhbjgbkpjlacaa
set_option maxRecDepth 100000
open Go.RowKit

theorem idxTo_has {α : Type} {p : α → Bool} {xs : List α} {j : Nat} {x : α} (hx : xs[j]? = some x) (hp : p x = true) : ∀ k, j < k → ((j : Nat) : Int) ∈ idxTo p xs k
  | 0, h => by omega
  | k + 1, h => by
    by_cases e : j = k
    · subst e
      rw [idxTo_yes hx hp]
      simp
    · have ih := idxTo_has hx hp k (by omega)
      unfold idxTo
      split
      · split
        · exact List.mem_append_left _ ih
        · exact ih
      · exact ih
structure JointLaw (O B : List Int × Int) (S : Bool × Int) : Prop where
  co : O.2 = B.2
  cs : S.2 = B.2
  snd : B.2 = 0 → S.1 = (decide (B.1.length = 0) && decide (O.1.length = 0))
  dis : B.2 = 0 → ∀ n ∈ B.1, n ∉ O.1
theorem joint_law (vs : List PartT) (js : List JointT) (bs : List ByteArray) : JointLaw (listR vs js bs 0) (listR vs js bs 1) (soundR vs js bs) := by
  unfold listR soundR
  by_cases hj : jointsB js = true
  · by_cases hb : buildB vs bs = true
    · rw [if_pos hj, if_pos hb, if_pos hj, if_pos hb, if_pos hj, if_pos hb]
      refine ⟨rfl, rfl, fun _ => ?_, fun _ n hn ho => ?_⟩
      · simp only
        unfold soundB
        by_cases hall : js.all (isState vs bs 2) = true
        · have hno : ∀ st : Int, st ≠ 2 → idxTo (isState vs bs st) js js.length = [] := fun st hst => by
            refine List.eq_nil_iff_forall_not_mem.2 fun n hn => ?_
            obtain ⟨j, x, _, _, hx, hp⟩ := idxTo_mem hn
            have h2 := List.all_eq_true.1 hall x (List.mem_of_getElem? hx)
            unfold isState at hp h2
            have h3 := of_decide_eq_true hp
            have h4 := of_decide_eq_true h2
            exact hst (by omega)
          rw [hall, hno 1 (by omega), hno 0 (by omega)]
          rfl
        · have hf : js.all (isState vs bs 2) = false := by simpa using hall
          rw [hf]
          obtain ⟨x, hxm, hx⟩ := List.all_eq_false.1 hf
          obtain ⟨j, hjx⟩ := List.mem_iff_getElem?.1 hxm
          have hjl : j < js.length := (List.getElem?_eq_some_iff.1 hjx).1
          have hbd := stateJ_bd vs bs x
          have h2 : stateJ vs bs x ≠ 2 := fun e => hx (by unfold isState; exact decide_eq_true e)
          symm
          simp only [Bool.and_eq_false_iff, decide_eq_false_iff_not]
          by_cases h1 : stateJ vs bs x = 1
          · left
            have := idxTo_has hjx (p := isState vs bs 1) (by unfold isState; exact decide_eq_true h1) js.length hjl
            exact fun e => by rw [List.length_eq_zero_iff.1 e] at this; simp at this
          · right
            have := idxTo_has hjx (p := isState vs bs 0) (by unfold isState; exact decide_eq_true (by omega)) js.length hjl
            exact fun e => by rw [List.length_eq_zero_iff.1 e] at this; simp at this
      · obtain ⟨j, x, e1, _, hx, hp⟩ := idxTo_mem hn
        obtain ⟨j', x', e2, _, hx', hp'⟩ := idxTo_mem ho
        obtain rfl : j = j' := by omega
        obtain rfl : x = x' := by rw [hx] at hx'; exact Option.some.inj hx'
        unfold isState at hp hp'
        have h3 := of_decide_eq_true hp
        have h4 := of_decide_eq_true hp'
        omega
    · rw [if_pos hj, if_neg hb, if_pos hj, if_neg hb, if_pos hj, if_neg hb]
      exact ⟨rfl, rfl, fun h => by simp at h, fun h => by simp at h⟩
  · rw [if_neg hj, if_neg hj, if_neg hj]
    exact ⟨rfl, rfl, fun h => by simp at h, fun h => by simp at h⟩
/-- What a fitting part says. -/
theorem fit_law {vs : List PartT} {js : List JointT} {bs : List ByteArray} {slot : Int} (h : (fitR vs js bs slot).2 = 0) :
    ∃ s : Nat, slot = (s : Int) ∧ s < bs.length ∧ (∀ n ∈ (fitR vs js bs slot).1, ∃ (k : Nat) (x : PartT), n = (k : Int) ∧ k < vs.length ∧ vs[k]? = some x ∧ x.slot = slot ∧
      (listR vs js (bs.set s x.code) 1).2 = 0 ∧ ∀ m ∈ (listR vs js (bs.set s x.code) 1).1, ∃ (q : Nat) (t : JointT), m = (q : Int) ∧ q < js.length ∧ js[q]? = some t ∧ t.1 ≠ slot ∧ t.2.1 ≠ slot) := by
  unfold fitR at h ⊢
  by_cases hB : jointsB js = true ∧ buildB vs bs = true
  · rw [if_pos hB] at h ⊢
    obtain ⟨hC, hcd⟩ := buildB_codes hB.2
    have hlen := hC.len
    by_cases hi : inB slot 0 7 = true
    · rw [if_pos hi]
      obtain ⟨i0, i7⟩ := inB_true hi
      obtain ⟨s, rfl⟩ := Int.eq_ofNat_of_zero_le i0
      refine ⟨s, rfl, by omega, fun n hn => ?_⟩
      obtain ⟨k, x, e, hk, hx, hp⟩ := idxTo_mem hn
      unfold fitP at hp
      obtain ⟨hp1, hp2⟩ := Bool.and_eq_true_iff.1 hp
      have hxs : x.slot = (s : Int) := by unfold inSlot at hp1; simpa using hp1
      have hset : setT bs (s : Int) x.code = bs.set s x.code := by unfold setT; rw [Int.toNat_natCast]
      unfold fitsB at hp2
      rw [hset] at hp2
      have hB2 : buildB vs (bs.set s x.code) = true := buildB_mk hC.parts (by rw [List.length_set]; exact hlen) fun i c hc hcn => by
        by_cases ei : s = i
        · subst ei
          rw [List.getElem?_set_self (by omega)] at hc
          rw [← Option.some.inj hc]
          exact ⟨k, x, findI_at hC.parts hx, hx, hxs⟩
        · rw [List.getElem?_set_ne ei] at hc
          obtain ⟨k', x', h1, h2, _, h4⟩ := hcd i c hc hcn
          exact ⟨k', x', h1, h2, h4⟩
      refine ⟨k, x, e, hk, hx, hxs, ?_⟩
      unfold listR
      rw [if_pos hB.1, if_pos hB2]
      refine ⟨rfl, fun m hm => ?_⟩
      obtain ⟨q, t, e2, hq, ht, hs2⟩ := idxTo_mem hm
      refine ⟨q, t, e2, hq, ht, ?_⟩
      have h5 := List.all_eq_true.1 hp2 t (List.mem_of_getElem? ht)
      unfold notHurt at h5
      rw [← isState_broken, hs2] at h5
      simpa using h5
    · rw [if_neg hi] at h
      simp at h
  · rw [if_neg hB] at h
    simp at h

end Go.Proofs.Ytlhbjgbkpjlacaa

namespace Go.Proofs.Ytlhbjgbkpjlacaa
set_option maxRecDepth 100000
open Go.RowKit

set_option maxHeartbeats 400000 in
theorem likeTexts_any (A A' : Option Addr) (c c' : Nat) (xs ys : List ByteArray) (w : World) (hr : Rd w w.heap.size 1 tC A xs) (hr' : Rd w w.heap.size 1 tC A' ys) (hm : xs.length ≤ 1048576) :
    Calls Try.prog 77 #[.slice A xs.length c, .slice A' ys.length c'] w fun e w' => e = .returned (.bool (decide (xs = ys))) ∧ Below w.heap.size w w' := by
  by_cases hl : xs.length = ys.length
  · have hn : ((xs.length : Int) != (ys.length : Int)) = false := by simp [hl]
    have Hl := Lib.hid hl; clear hl
    go_enter Try.func77, Try.ntmps77
    go_wp2_with fail
    go_loopw [5] (fun i wr => ∃ k : Nat, k ≤ xs.length ∧ i = .int .i64 k ∧ Below w.heap.size w wr ∧ xs.take k = ys.take k) (fun i _ => xs.length - (intOf i).toNat)
    case atStart => exact ⟨0, Nat.zero_le _, rfl, Below.refl _ _, rfl⟩
    case round =>
      obtain ⟨k, hk, rfl, hb, hpre⟩ := hrel
      have Hp := Lib.hid hpre; clear hpre
      by_cases hlt : k < xs.length
      · have hlt' : k < ys.length := by have := Hl.out; omega
        have hx : xs[k]? = some xs[k] := List.getElem?_eq_getElem hlt
        have hy : ys[k]? = some ys[k] := List.getElem?_eq_getElem hlt'
        obtain ⟨b, o, rfl, hB, h0⟩ := (hr.below hb).at1 hx rfl
        obtain ⟨b', o', rfl, hB', h0'⟩ := (hr'.below hb).at1 hy rfl
        rw [Nat.mul_one] at h0 h0'
        generalize xs[k] = t at h0 hx
        generalize ys[k] = t' at h0' hy
        have Hx := Lib.hid hx; clear hx
        have Hy := Lib.hid hy; clear hy
        by_cases ht : t = t'
        · have htt : (t.toList == t'.toList) = true := by simp [ht]
          have Ht := Lib.hid ht; clear ht
          go_wp2_with fail
          go_quiet (fail)
          go_wp2_with fail
          exact ⟨⟨k + 1, by omega, by go_num, below_drewN hb _, take_next Hp.out Hx.out Hy.out Ht.out⟩, by simp [intOf]; omega⟩
        · have htt : (t.toList == t'.toList) = false := by simp; exact fun e => ht (str_eq.1 e)
          have hne : decide (xs = ys) = false := decide_eq_false (ne_next Hx.out Hy.out ht)
          have Ht := Lib.hid ht; clear ht
          have Hne := Lib.hid hne; clear hne
          go_wp2_with fail
          go_quiet (fail)
          go_wp2_with fail
          go_ret
          exact ⟨ret_bool Hne.out.symm, below_drewN hb _⟩
      · have e : decide (xs = ys) = true := decide_eq_true (take_all Hp.out Hl.out (by omega))
        have E := Lib.hid e; clear e
        go_wp2_with fail
        go_ret
        exact ⟨ret_bool E.out.symm, hb⟩
  · have hd : decide (xs = ys) = false := by simp; intro h; exact hl (by rw [h])
    have hn : ((xs.length : Int) != (ys.length : Int)) = true := by simp; omega
    rw [hd]
    go_enter Try.func77, Try.ntmps77
    go_wp2_with fail
    go_ret
    exact ⟨rfl, Below.refl _ _⟩

set_option maxHeartbeats 400000 in
theorem likeInts_any (A A' : Option Addr) (c c' : Nat) (xs ys : List Int) (w : World) (hr : Rd w w.heap.size 1 nC A xs) (hr' : Rd w w.heap.size 1 nC A' ys) (hm : xs.length ≤ 1048576) :
    Calls Try.prog 33 #[.slice A xs.length c, .slice A' ys.length c'] w fun e w' => e = .returned (.bool (decide (xs = ys))) ∧ Below w.heap.size w w' := by
  by_cases hl : xs.length = ys.length
  · have hn : ((xs.length : Int) != (ys.length : Int)) = false := by simp [hl]
    have Hl := Lib.hid hl; clear hl
    go_enter Try.func33, Try.ntmps33
    go_wp2_with fail
    go_loopw [5] (fun i wr => ∃ k : Nat, k ≤ xs.length ∧ i = .int .i64 k ∧ Below w.heap.size w wr ∧ xs.take k = ys.take k) (fun i _ => xs.length - (intOf i).toNat)
    case atStart => exact ⟨0, Nat.zero_le _, rfl, Below.refl _ _, rfl⟩
    case round =>
      obtain ⟨k, hk, rfl, hb, hpre⟩ := hrel
      have Hp := Lib.hid hpre; clear hpre
      by_cases hlt : k < xs.length
      · have hlt' : k < ys.length := by have := Hl.out; omega
        have hx : xs[k]? = some xs[k] := List.getElem?_eq_getElem hlt
        have hy : ys[k]? = some ys[k] := List.getElem?_eq_getElem hlt'
        obtain ⟨b, o, rfl, hB, h0⟩ := (hr.below hb).at1 hx rfl
        obtain ⟨b', o', rfl, hB', h0'⟩ := (hr'.below hb).at1 hy rfl
        rw [Nat.mul_one] at h0 h0'
        generalize xs[k] = t at h0 hx
        generalize ys[k] = t' at h0' hy
        have Hx := Lib.hid hx; clear hx
        have Hy := Lib.hid hy; clear hy
        by_cases ht : t = t'
        · have htt : (t != t') = false := by simp [ht]
          have Ht := Lib.hid ht; clear ht
          go_wp2_with fail
          go_quiet (fail)
          go_wp2_with fail
          exact ⟨⟨k + 1, by omega, by go_num, below_drewN hb _, take_next Hp.out Hx.out Hy.out Ht.out⟩, by simp [intOf]; omega⟩
        · have htt : (t != t') = true := by simp [ht]
          have hne : decide (xs = ys) = false := decide_eq_false (ne_next Hx.out Hy.out ht)
          have Ht := Lib.hid ht; clear ht
          have Hne := Lib.hid hne; clear hne
          go_wp2_with fail
          go_quiet (fail)
          go_wp2_with fail
          go_ret
          exact ⟨ret_bool Hne.out.symm, below_drewN hb _⟩
      · have e : decide (xs = ys) = true := decide_eq_true (take_all Hp.out Hl.out (by omega))
        have E := Lib.hid e; clear e
        go_wp2_with fail
        go_ret
        exact ⟨ret_bool E.out.symm, hb⟩
  · have hd : decide (xs = ys) = false := by simp; intro h; exact hl (by rw [h])
    have hn : ((xs.length : Int) != (ys.length : Int)) = true := by simp; omega
    rw [hd]
    go_enter Try.func33, Try.ntmps33
    go_wp2_with fail
    go_ret
    exact ⟨rfl, Below.refl _ _⟩

theorem likeTexts_k (A A' : Option Addr) (c c' : Nat) (xs : List ByteArray) (w : World) (hr : Rd w w.heap.size 1 tC A xs) (hr' : Rd w w.heap.size 1 tC A' xs) (hl : xs.length ≤ 1048576) :
    Calls Try.prog 77 #[.slice A xs.length c, .slice A' xs.length c'] w fun e w' => e = .returned (.bool true) ∧ Below w.heap.size w w' := by
  have := likeTexts_any A A' c c' xs xs w hr hr' hl
  rwa [decide_eq_true (rfl : xs = xs)] at this

theorem likeInts_k (A A' : Option Addr) (c c' : Nat) (xs : List Int) (w : World) (hr : Rd w w.heap.size 1 nC A xs) (hr' : Rd w w.heap.size 1 nC A' xs) (hl : xs.length ≤ 1048576) :
    Calls Try.prog 33 #[.slice A xs.length c, .slice A' xs.length c'] w fun e w' => e = .returned (.bool true) ∧ Below w.heap.size w w' := by
  have := likeInts_any A A' c c' xs xs w hr hr' hl
  rwa [decide_eq_true (rfl : xs = xs)] at this

theorem hasInt_any (A : Option Addr) (c : Nat) (xs : List Int) (n : Int) (w : World) (hr : Rd w w.heap.size 1 nC A xs) (hm : xs.length ≤ 1048576) :
    Calls Try.prog 50 #[.slice A xs.length c, .int .i64 n] w fun e w' => e = .returned (.bool (decide (n ∈ xs))) ∧ Below w.heap.size w w' := by
  have HR : Hid (decide (n ∈ xs) = decide (n ∈ xs)) := rfl
  have HY : Hid (∀ k : Nat, xs[k]? = some n → decide (n ∈ xs) = true) := fun k h => decide_eq_true (List.mem_of_getElem? h)
  have HN : Hid ((∀ k : Nat, k < xs.length → xs[k]? ≠ some n) → decide (n ∈ xs) = false) := fun h => decide_eq_false fun hm => by
    obtain ⟨k, hk⟩ := List.mem_iff_getElem?.1 hm
    exact h k (List.getElem?_eq_some_iff.1 hk).1 hk
  clear HR
  generalize decide (n ∈ xs) = R at HY HN ⊢
  go_enter Try.func50, Try.ntmps50
  go_wp2_with fail
  go_loopw [5] (fun i wr => ∃ k : Nat, k ≤ xs.length ∧ i = .int .i64 k ∧ Below w.heap.size w wr ∧ ∀ j : Nat, j < k → xs[j]? ≠ some n) (fun i _ => xs.length - (intOf i).toNat)
  case atStart => exact ⟨0, Nat.zero_le _, rfl, Below.refl _ _, fun j hj => by omega⟩
  case round =>
    obtain ⟨k, hk, rfl, hb, hall⟩ := hrel
    have Ha := Lib.hid hall; clear hall
    by_cases hlt : k < xs.length
    · have hx : xs[k]? = some xs[k] := List.getElem?_eq_getElem hlt
      obtain ⟨b, o, rfl, hB, q0⟩ := (hr.below hb).at1 hx rfl
      rw [Nat.mul_one] at q0
      generalize xs[k] = t at q0 hx
      have Hx := Lib.hid hx; clear hx
      by_cases ht : t = n
      · have HF : Hid (R = true) := HY.out k (by rw [Hx.out, ht])
        have hb1 : (t == n) = true := by simp [ht]
        clear ht
        go_wp2_with fail
        go_ret
        exact ⟨ret_bool HF.out.symm, hb⟩
      · have hb1 : (t == n) = false := by simp [ht]
        have Ht := Lib.hid ht; clear ht
        go_wp2_with fail
        exact ⟨⟨k + 1, by omega, by go_num, hb, fun j hj => by
          by_cases e : j = k
          · subst e
            rw [Hx.out]
            intro e
            exact Ht.out (Option.some.inj e)
          · exact Ha.out j (by omega)⟩, by simp [intOf]; omega⟩
    · have HF : Hid (R = false) := HN.out fun j hj => Ha.out j (by omega)
      go_wp2_with fail
      go_ret
      exact ⟨ret_bool HF.out.symm, hb⟩

theorem hasText_any (A : Option Addr) (c : Nat) (xs : List ByteArray) (n : ByteArray) (w : World) (hr : Rd w w.heap.size 1 tC A xs) (hm : xs.length ≤ 1048576) :
    Calls Try.prog 80 #[.slice A xs.length c, .string n] w fun e w' => e = .returned (.bool ((xs.any fun t => decide (t = n)))) ∧ Below w.heap.size w w' := by
  have HR : True := trivial
  have HY : Hid (∀ k : Nat, xs[k]? = some n → (xs.any fun t => decide (t = n)) = true) := fun k h => List.any_eq_true.2 ⟨n, List.mem_of_getElem? h, by simp⟩
  have HN : Hid ((∀ k : Nat, k < xs.length → xs[k]? ≠ some n) → (xs.any fun t => decide (t = n)) = false) := fun h => List.any_eq_false.2 fun t ht => by
    obtain ⟨k, hk⟩ := List.mem_iff_getElem?.1 ht
    simp only [decide_eq_true_eq]
    rintro rfl
    exact h k (List.getElem?_eq_some_iff.1 hk).1 hk
  clear HR
  generalize (xs.any fun t => decide (t = n)) = R at HY HN ⊢
  go_enter Try.func80, Try.ntmps80
  go_wp2_with fail
  go_loopw [5] (fun i wr => ∃ k : Nat, k ≤ xs.length ∧ i = .int .i64 k ∧ Below w.heap.size w wr ∧ ∀ j : Nat, j < k → xs[j]? ≠ some n) (fun i _ => xs.length - (intOf i).toNat)
  case atStart => exact ⟨0, Nat.zero_le _, rfl, Below.refl _ _, fun j hj => by omega⟩
  case round =>
    obtain ⟨k, hk, rfl, hb, hall⟩ := hrel
    have Ha := Lib.hid hall; clear hall
    by_cases hlt : k < xs.length
    · have hx : xs[k]? = some xs[k] := List.getElem?_eq_getElem hlt
      obtain ⟨b, o, rfl, hB, q0⟩ := (hr.below hb).at1 hx rfl
      rw [Nat.mul_one] at q0
      generalize xs[k] = t at q0 hx
      have Hx := Lib.hid hx; clear hx
      by_cases ht : t = n
      · have HF : Hid (R = true) := HY.out k (by rw [Hx.out, ht])
        have hb1 : (t.toList == n.toList) = true := by simp [ht]
        clear ht
        go_wp2_with fail
        go_ret
        exact ⟨ret_bool HF.out.symm, hb⟩
      · have hb1 : (t.toList == n.toList) = false := by simp; exact fun e => ht (str_eq.1 e)
        have Ht := Lib.hid ht; clear ht
        go_wp2_with fail
        exact ⟨⟨k + 1, by omega, by go_num, hb, fun j hj => by
          by_cases e : j = k
          · subst e
            rw [Hx.out]
            intro e
            exact Ht.out (Option.some.inj e)
          · exact Ha.out j (by omega)⟩, by simp [intOf]; omega⟩
    · have HF : Hid (R = false) := HN.out fun j hj => Ha.out j (by omega)
      go_wp2_with fail
      go_ret
      exact ⟨ret_bool HF.out.symm, hb⟩

end Go.Proofs.Ytlhbjgbkpjlacaa

namespace Go.Proofs.Ytlhbjgbkpjlacaa
set_option maxRecDepth 100000
open Go.RowKit Go.ChangeShapes Go.WideShapes Go.ChangeAt Go.Joins Go.Deep

theorem bd_u8 {n : Int} (h : (Lit.int .u8 n).wf = true) : 0 ≤ n ∧ n < 256 := by
  simp [Lit.wf, IntKind.min, IntKind.max, IntKind.signed, IntKind.bits] at h
  omega
theorem open_bytes {H : Type} {enc : TypeId × Value → H} {W : World} {spare : Nat → Bool} {r : Reach} {b0 : Nat} {v : Value} {d : DataW H} {p : List MemPlace}
    (hv : Value.okWide Try.prog W r b0 28 v) (h : DataW.Trod enc Try.prog W 0 spare true 28 v d p) :
    ∃ A c xs, v = .slice A (List.length xs) c ∧ List.length xs ≤ maxLen ∧ (∀ x ∈ xs, (fun n : Int => 0 ≤ n ∧ n < 256) x) ∧ Rd W W.heap.size 1 uC A xs :=
  open_flat (fun n : Int => 0 ≤ n ∧ n < 256) uC Try.underlying28 (show Try.prog.cellsOf 5 = 1 by kernel_rfl) (by omega) (fun n cs y hl h => by
    match cs, hl with
    | [c0], _ =>
      obtain ⟨x0, e0, -, wx0⟩ := DataW.trod_int Try.underlying5 h
      simp at e0
      subst e0
      exact ⟨x0, bd_u8 wx0, rfl⟩) hv h

theorem big_k (A : Option Addr) (c n : Nat) (w : World) : Calls Try.prog 13 #[.slice A n c] w fun e w' => e = .returned (.bool (decide ((4096 : Int) < n))) ∧ w = w' := by
  go_enter Try.func13, Try.ntmps13
  go_wp2_with fail
  go_ret
  exact ⟨rfl, rfl⟩

end Go.Proofs.Ytlhbjgbkpjlacaa

namespace Go.Proofs.Ytlhbjgbkpjlacaa
set_option maxRecDepth 100000
open Go.RowKit Go.ChangeShapes Go.WideShapes Go.ChangeAt Go.Joins Go.Deep

set_option maxHeartbeats 40000000 in
theorem law_FnJoints (A : Option Addr) (c : Nat) (xs : List Int) (w : World) (hr : Rd w w.heap.size 1 uC A xs) (hx : ∀ x ∈ xs, 0 ≤ x ∧ x < 256) (hm : xs.length ≤ maxLen) :
    Calls Try.prog 6 #[.slice A xs.length c] w fun e w' => e = .returned (.bool true) ∧ Below w.heap.size w w' := by
  unfold maxLen at hm
  by_cases hbig : (4096 : Int) < xs.length
  · go_enter Try.func6, Try.ntmps6
    go_wp2_with (go_at_call 13; refine (big_k A c xs.length _).mono ?_; rintro e w' ⟨rfl, rfl⟩)
    go_ret
    exact ⟨rfl, Below.refl _ _⟩
  have HBig : Hid (∀ v : World, Calls Try.prog 13 #[.slice A xs.length c] v fun e w' => e = .returned (.bool false) ∧ v = w') := fun v => (big_k A c xs.length v).mono (by rintro e w' ⟨rfl, rfl⟩; exact ⟨by simp only [hbig, decide_false], rfl⟩)
  have HD := Lib.hid (DrawBrokenJoints_any A c xs w hr hx (by omega))
  have HD2 : Hid (∀ v : World, Below w.heap.size w v → Calls Try.prog 45 #[.slice A xs.length c] v (GivenPJBI v)) := fun v hv => DrawFittingParts_any A c xs v (hr.next hv) hx (by omega)
  clear hr hx hbig
  go_enter Try.func6, Try.ntmps6
  go_wp2_with (go_at_call 13; refine (HBig.out _).mono ?_; rintro e w' ⟨rfl, rfl⟩)
  refine HD.out.mono ?_
  rintro e w1 ⟨LA, JA, BA, lc, jc, bc, vs, js, bs, rfl, fv, hsv, fj, hjl, fb, hbc, hbl, hb1⟩
  have hV := fv.rd
  have hJ := fj.rd
  have hB := fb.rd
  clear fv fj fb
  have HBi : Hid (∀ (v : World), Below w1.heap.size w1 v → Calls Try.prog 39 #[.slice LA vs.length lc, .slice JA js.length jc, .slice BA bs.length bc] v (GivesRes v 2 1 nC (listR vs js bs 1))) := fun v hv => BrokenJoints_impl LA JA BA lc jc bc vs js bs v (hV.next hv) (hJ.next hv) (hB.next hv) hsv (by omega) (by omega)
  have HOi : Hid (∀ (v : World), Below w1.heap.size w1 v → Calls Try.prog 41 #[.slice LA vs.length lc, .slice JA js.length jc, .slice BA bs.length bc] v (GivesRes v 2 1 nC (listR vs js bs 0))) := fun v hv => OpenJoints_impl LA JA BA lc jc bc vs js bs v (hV.next hv) (hJ.next hv) (hB.next hv) hsv (by omega) (by omega)
  have HSi : Hid (∀ (v : World), Below w1.heap.size w1 v → Calls Try.prog 43 #[.slice LA vs.length lc, .slice JA js.length jc, .slice BA bs.length bc] v (fun e w' => e = .returned (.tuple #[.bool (soundR vs js bs).1, .int .i64 (soundR vs js bs).2]) ∧ Below v.heap.size v w')) := fun v hv => IsSound_impl LA JA BA lc jc bc vs js bs v (hV.next hv) (hJ.next hv) (hB.next hv) hsv (by omega) (by omega)
  have HAi : Hid (∀ (v : World), Below w1.heap.size w1 v → Calls Try.prog 48 #[.slice JA js.length jc] v (fun e w' => e = .returned (.bool (jointsB js)) ∧ Below v.heap.size v w')) := fun v hv => areJoints_impl JA jc js v (hJ.next hv) (by omega)
  have HBs : Hid (∀ (v : World), Below w1.heap.size w1 v → Calls Try.prog 40 #[.slice LA vs.length lc, .slice JA js.length jc, .slice BA bs.length bc] v (GivesRes v 2 1 nC (listR vs js bs 1))) := fun v hv => BrokenJoints_spec LA JA BA lc jc bc vs js bs v (hV.next hv) (hJ.next hv) (hB.next hv) hsv (by omega) (by omega)
  have HOs : Hid (∀ (v : World), Below w1.heap.size w1 v → Calls Try.prog 42 #[.slice LA vs.length lc, .slice JA js.length jc, .slice BA bs.length bc] v (GivesRes v 2 1 nC (listR vs js bs 0))) := fun v hv => OpenJoints_spec LA JA BA lc jc bc vs js bs v (hV.next hv) (hJ.next hv) (hB.next hv) hsv (by omega) (by omega)
  have HSs : Hid (∀ (v : World), Below w1.heap.size w1 v → Calls Try.prog 44 #[.slice LA vs.length lc, .slice JA js.length jc, .slice BA bs.length bc] v (fun e w' => e = .returned (.tuple #[.bool (soundR vs js bs).1, .int .i64 (soundR vs js bs).2]) ∧ Below v.heap.size v w')) := fun v hv => IsSound_spec LA JA BA lc jc bc vs js bs v (hV.next hv) (hJ.next hv) (hB.next hv) hsv (by omega) (by omega)
  have HAs : Hid (∀ (v : World), Below w1.heap.size w1 v → Calls Try.prog 49 #[.slice JA js.length jc] v (fun e w' => e = .returned (.bool (jointsB js)) ∧ Below v.heap.size v w')) := fun v hv => areJoints_spec JA jc js v (hJ.next hv) (by omega)
  have HL := Lib.hid (joint_law vs js bs)
  have hbl' : (listR vs js bs 1).1.length ≤ 64 := by
    unfold listR
    repeat' split
    · exact Nat.le_trans (idxTo_le _ _ _) hjl
    · simp
    · simp
  have hol' : (listR vs js bs 0).1.length ≤ 64 := by
    unfold listR
    repeat' split
    · exact Nat.le_trans (idxTo_le _ _ _) hjl
    · simp
    · simp
  clear hV hJ hB HD hbl hbc hjl
  generalize listR vs js bs 1 = B at HBi HBs HL hbl'
  generalize listR vs js bs 0 = O at HOi HOs HL hol'
  generalize soundR vs js bs = S at HSi HSs HL
  generalize jointsB js = aj at HAi HAs
  obtain ⟨b, bad⟩ := B
  obtain ⟨o, oc⟩ := O
  obtain ⟨su, sc⟩ := S
  obtain rfl : oc = bad := HL.out.co
  obtain rfl : sc = oc := HL.out.cs
  have HSn := Lib.hid HL.out.snd
  have HDs := Lib.hid HL.out.dis
  clear HL
  try simp only at hbl' hol'
  have hb1w1 := Below.refl w1.heap.size w1
  go_wp2_with fail
  refine (HBi.out w1 hb1w1).mono ?_
  rintro e w2 ⟨XA, Xc, rfl, fX, hXc, hbw2⟩
  simp only at fX hXc
  have hb1w2 := bthen hb1w1 hbw2
  have HXw2 := Lib.hid fX.rd
  clear fX hbw2
  go_wp2_with fail
  refine (HBs.out w2 hb1w2).mono ?_
  rintro e w3 ⟨YA, Yc, rfl, fY, hYc, hbw3⟩
  simp only at fY hYc
  have hb1w3 := bthen hb1w2 hbw3
  have HXw3 := Lib.hid (HXw2.out.next hbw3)
  have HYw3 := Lib.hid fY.rd
  clear fY hbw3 HXw2
  go_wp2_with fail
  refine (HOi.out w3 hb1w3).mono ?_
  rintro e w4 ⟨PA, Pc, rfl, fP, hPc, hbw4⟩
  simp only at fP hPc
  have hb1w4 := bthen hb1w3 hbw4
  have HXw4 := Lib.hid (HXw3.out.next hbw4)
  have HYw4 := Lib.hid (HYw3.out.next hbw4)
  have HPw4 := Lib.hid fP.rd
  clear fP hbw4 HXw3 HYw3
  go_wp2_with fail
  refine (HOs.out w4 hb1w4).mono ?_
  rintro e w5 ⟨QA, Qc, rfl, fQ, hQc, hbw5⟩
  simp only at fQ hQc
  have hb1w5 := bthen hb1w4 hbw5
  have HXw5 := Lib.hid (HXw4.out.next hbw5)
  have HYw5 := Lib.hid (HYw4.out.next hbw5)
  have HPw5 := Lib.hid (HPw4.out.next hbw5)
  have HQw5 := Lib.hid fQ.rd
  clear fQ hbw5 HXw4 HYw4 HPw4
  go_wp2_with fail
  refine (HSi.out w5 hb1w5).mono ?_
  rintro e w6 ⟨rfl, hbw6⟩
  have hb1w6 := bthen hb1w5 hbw6
  have HXw6 := Lib.hid (HXw5.out.next hbw6)
  have HYw6 := Lib.hid (HYw5.out.next hbw6)
  have HPw6 := Lib.hid (HPw5.out.next hbw6)
  have HQw6 := Lib.hid (HQw5.out.next hbw6)
  clear hbw6 HXw5 HYw5 HPw5 HQw5
  go_wp2_with fail
  refine (HSs.out w6 hb1w6).mono ?_
  rintro e w7 ⟨rfl, hbw7⟩
  have hb1w7 := bthen hb1w6 hbw7
  have HXw7 := Lib.hid (HXw6.out.next hbw7)
  have HYw7 := Lib.hid (HYw6.out.next hbw7)
  have HPw7 := Lib.hid (HPw6.out.next hbw7)
  have HQw7 := Lib.hid (HQw6.out.next hbw7)
  clear hbw7 HXw6 HYw6 HPw6 HQw6
  go_wp2_with fail
  refine (HD2.out w7 (hb1.trans (hb1w7.mono hb1.size))).mono ?_
  rintro e w8 ⟨KA, MA, DA, kc, mc, dc, us, ms, ds, slot, rfl, hU, hsu, hM, hml, hDd, hdc, hdl, hn0, hn1, hbw8⟩
  have hb1w8 := bthen hb1w7 hbw8
  have HXw8 := Lib.hid (HXw7.out.next hbw8)
  have HYw8 := Lib.hid (HYw7.out.next hbw8)
  have HPw8 := Lib.hid (HPw7.out.next hbw8)
  have HQw8 := Lib.hid (HQw7.out.next hbw8)
  clear hbw8 HXw7 HYw7 HPw7 HQw7
  have HFi : Hid (∀ (v : World), Below w8.heap.size w8 v → Calls Try.prog 46 #[.slice KA us.length kc, .slice MA ms.length mc, .slice DA ds.length dc, .int .i64 slot] v (GivesRes v 2 1 nC (fitR us ms ds slot))) := fun v hv => FittingParts_impl KA MA DA kc mc dc us ms ds slot v (hU.next hv) (hM.next hv) (hDd.next hv) hsu (by omega) (by omega)
  have HFs : Hid (∀ (v : World), Below w8.heap.size w8 v → Calls Try.prog 47 #[.slice KA us.length kc, .slice MA ms.length mc, .slice DA ds.length dc, .int .i64 slot] v (GivesRes v 2 1 nC (fitR us ms ds slot))) := fun v hv => FittingParts_spec KA MA DA kc mc dc us ms ds slot v (hU.next hv) (hM.next hv) (hDd.next hv) hsu (by omega) (by omega)
  have HWi : Hid (∀ (v : World) (W : Option Addr) (d : Nat) (ws : List ByteArray), Below w8.heap.size w8 v → Rd v v.heap.size 1 tC W ws → ws.length ≤ 64 → Calls Try.prog 39 #[.slice KA us.length kc, .slice MA ms.length mc, .slice W ws.length d] v (GivesRes v 2 1 nC (listR us ms ws 1))) := fun v W d ws hv hr hl => BrokenJoints_impl KA MA W kc mc d us ms ws v (hU.next hv) (hM.next hv) hr hsu (by omega) (by omega)
  have HWs : Hid (∀ (v : World) (W : Option Addr) (d : Nat) (ws : List ByteArray), Below w8.heap.size w8 v → Rd v v.heap.size 1 tC W ws → ws.length ≤ 64 → Calls Try.prog 40 #[.slice KA us.length kc, .slice MA ms.length mc, .slice W ws.length d] v (GivesRes v 2 1 nC (listR us ms ws 1))) := fun v W d ws hv hr hl => BrokenJoints_spec KA MA W kc mc d us ms ws v (hU.next hv) (hM.next hv) hr hsu (by omega) (by omega)
  have HU := Lib.hid hU
  have HM := Lib.hid hM
  have HDd := Lib.hid hDd
  have HFL := Lib.hid (@fit_law us ms ds slot)
  have hfl : (fitR us ms ds slot).1.length ≤ 1048576 := by
    have := hsu.1
    unfold fitR
    repeat' split
    · exact Nat.le_trans (idxTo_le _ _ _) this
    · simp
    · simp
  clear hU hM hDd HD2
  generalize fitR us ms ds slot = F at HFi HFs HFL hfl
  obtain ⟨f, five⟩ := F
  try simp only at hfl
  have hb8w8 := Below.refl w8.heap.size w8
  go_wp2_with fail
  refine (HFi.out w8 hb8w8).mono ?_
  rintro e w9 ⟨FA, Fc, rfl, fF, hFc, hbw9⟩
  simp only at fF hFc
  have hb1w9 := bthen hb1w8 hbw9
  have hb8w9 := bthen hb8w8 hbw9
  have HXw9 := Lib.hid (HXw8.out.next hbw9)
  have HYw9 := Lib.hid (HYw8.out.next hbw9)
  have HPw9 := Lib.hid (HPw8.out.next hbw9)
  have HQw9 := Lib.hid (HQw8.out.next hbw9)
  have HFw9 := Lib.hid fF.rd
  clear fF hbw9 HXw8 HYw8 HPw8 HQw8
  go_wp2_with fail
  refine (HFs.out w9 hb8w9).mono ?_
  rintro e w10 ⟨GA, Gc, rfl, fG, hGc, hbw10⟩
  simp only at fG hGc
  have hb1w10 := bthen hb1w9 hbw10
  have hb8w10 := bthen hb8w9 hbw10
  have HXw10 := Lib.hid (HXw9.out.next hbw10)
  have HYw10 := Lib.hid (HYw9.out.next hbw10)
  have HPw10 := Lib.hid (HPw9.out.next hbw10)
  have HQw10 := Lib.hid (HQw9.out.next hbw10)
  have HFw10 := Lib.hid (HFw9.out.next hbw10)
  have HGw10 := Lib.hid fG.rd
  clear fG hbw10 HXw9 HYw9 HPw9 HQw9 HFw9
  have HK1 := Lib.hid (likeInts_k XA YA Xc Yc b w10 HXw10.out HYw10.out (by omega))
  have HK2 := Lib.hid (fun (v : World) (hv : Below w10.heap.size w10 v) => likeInts_k PA QA Pc Qc o v (HPw10.out.next hv) (HQw10.out.next hv) (by omega))
  have HK3 := Lib.hid (fun (v : World) (hv : Below w10.heap.size w10 v) => likeInts_k FA GA Fc Gc f v (HFw10.out.next hv) (HGw10.out.next hv) hfl)
  clear HYw10 HQw10 HGw10 HBi HBs HOi HOs HSi HSs HFi HFs hXc hYc hPc hQc hFc hGc
  go_wp2_with fail
  refine HK1.out.mono ?_
  rintro e w11 ⟨rfl, hbA⟩
  go_wp2_with fail
  refine (HK2.out w11 hbA).mono ?_
  rintro e w12 ⟨rfl, hbB⟩
  replace hbA := bthen hbA hbB
  go_wp2_with fail
  refine (HK3.out w12 hbA).mono ?_
  rintro e w13 ⟨rfl, hbC⟩
  replace hbA := bthen hbA hbC
  go_wp2_with fail
  refine (HAi.out w13 (bthen hb1w10 hbA)).mono ?_
  rintro e w14 ⟨rfl, hbD⟩
  replace hbA := bthen hbA hbD
  go_wp2_with fail
  refine (HAs.out w14 (bthen hb1w10 hbA)).mono ?_
  rintro e w15 ⟨rfl, hbE⟩
  replace hbA := bthen hbA hbE
  have hb1w15 := bthen hb1w10 hbA
  have hb8w15 := bthen hb8w10 hbA
  have HX := Lib.hid (HXw10.out.next hbA)
  have HP := Lib.hid (HPw10.out.next hbA)
  have HF := Lib.hid (HFw10.out.next hbA)
  clear hbA hbB hbC hbD hbE HXw10 HPw10 HFw10 HK1 HK2 HK3 HAi HAs
  go_upto_region 15 with (fail)
  go_cut [178] from 165 to 178 (fun c wx => c = .bool false ∧ w15 = wx)
  case first =>
    by_cases hz : sc = 0
    · have hS : su = (decide (b.length = 0) && decide (o.length = 0)) := HSn.out hz
      clear HSn HDs
      subst hz
      by_cases hp : b.length = 0
      · have hpb : ((b.length : Int) == 0) = true := by simp [hp]
        by_cases hq : o.length = 0
        · have hqb : ((o.length : Int) == 0) = true := by simp [hq]
          have hsu : su = true := by rw [hS]; simp [hp, hq]
          subst hsu
          clear hS hp hq
          go_wp2_with fail
          go_meet
          exact ⟨rfl, rfl⟩
        · have hqb : ((o.length : Int) == 0) = false := by simp [hq]
          have hsu : su = false := by rw [hS]; simp [hq]
          subst hsu
          clear hS hp hq
          go_wp2_with fail
          go_meet
          exact ⟨rfl, rfl⟩
      · have hpb : ((b.length : Int) == 0) = false := by simp [hp]
        have hsu : su = false := by rw [hS]; simp [hp]
        subst hsu
        clear hS hp
        go_wp2_with fail
        go_meet
        exact ⟨rfl, rfl⟩
    · have hzb : (sc == 0) = false := by simp [hz]
      clear HSn HDs HX HP
      go_wp2_with fail
      go_meet
      exact ⟨rfl, rfl⟩
  case rest =>
    obtain ⟨rfl, rfl⟩ := hcut
    by_cases hz : sc = 0
    · have HDi : Hid (∀ n ∈ b, n ∉ o) := HDs.out hz
      clear HSn HDs
      have hzb : (sc == 0) = true := by simp [hz]
      clear hz
      go_wp2_with fail
      go_loopw [26] (fun i wr => ∃ k : Nat, k ≤ b.length ∧ i = .int .i64 k ∧ Below w15.heap.size w15 wr) (fun i _ => b.length - (intOf i).toNat)
      case atStart => exact ⟨0, Nat.zero_le _, rfl, Below.refl _ _⟩
      case round =>
        obtain ⟨k, hk, rfl, hbk⟩ := hrel
        by_cases hlt : k < b.length
        · have hx : b[k]? = some b[k] := List.getElem?_eq_getElem hlt
          obtain ⟨bb, bo, rfl, _, q0⟩ := (HX.out.next hbk).at1 hx rfl
          rw [Nat.mul_one] at q0
          have hmem := HDi.out b[k] (List.getElem_mem hlt)
          generalize b[k] = t at q0 hmem hx
          have hI := hasInt_any PA Pc o t wr (HP.out.next hbk) (by omega)
          rw [decide_eq_false hmem] at hI
          have HI := Lib.hid hI; clear hI hmem hx
          go_wp2_with fail
          refine HI.out.mono ?_
          rintro e wk ⟨rfl, hbn⟩
          go_wp2_with fail
          exact ⟨⟨k + 1, by omega, by go_num, bthen hbk hbn⟩, by simp [intOf]; omega⟩
        · clear HDi HX HP
          go_wp2_with fail
          by_cases hfive : five = 0
          · subst hfive
            obtain ⟨s, hsl, hs, hall⟩ := HFL.out rfl
            try simp only at hall
            subst hsl
            have Hall := Lib.hid hall
            clear hall HFL
            go_loopw [27] (fun i wr2 => ∃ k : Nat, k ≤ f.length ∧ i = .int .i64 k ∧ Below wr.heap.size wr wr2) (fun i _ => f.length - (intOf i).toNat)
            case atStart => exact ⟨0, Nat.zero_le _, rfl, Below.refl _ _⟩
            case round =>
              obtain ⟨k, hk, rfl, hbk2⟩ := hrel
              have hbw := bthen hbk hbk2
              have hb8 := bthen hb8w15 hbw
              by_cases hlt : k < f.length
              · have hx : f[k]? = some f[k] := List.getElem?_eq_getElem hlt
                obtain ⟨fb, fo, rfl, _, q0⟩ := (HF.out.next hbw).at1 hx rfl
                rw [Nat.mul_one] at q0
                obtain ⟨kk, x, e, hkk, hxk, hxs, hl0, hlm⟩ := Hall.out f[k] (List.getElem_mem hlt)
                rw [e] at q0
                obtain ⟨ub, uo, rfl⟩ := HU.out.addr (by omega)
                have HC : Hid (∀ v : World, Below w8.heap.size w8 v → v.cell? ⟨ub, uo + kk * 5, none⟩ = some (.string x.code) ∧ v.cell? ⟨ub, uo + kk * 5 + 1, none⟩ = some (.int .i64 (s : Int))) := fun v hv => by
                  obtain ⟨_, pA, pc, c0, c1, _⟩ := (HU.out.next hv).cells hxk
                  rw [hxs] at c1
                  exact ⟨c0, c1⟩
                obtain ⟨c0, c1⟩ := HC.out wr hb8
                have Hx := Lib.hid hx
                have He := Lib.hid e
                clear hx e hxk hxs
                go_wp2_with (at_builtin; refine wpList_append_slice rfl _ _ _ rfl (wr.heap.size) 9 (.string ⟨#[]⟩) 1 16 Try.underlying58 infoString rfl (by omega) (by omega) tC [] ds (some ⟨wr.heap.size, 0, none⟩) 0 rfl (Own.made _ (by omega) rfl) DA dc _ rfl ((HDd.out.next hb8).next (balloc wr (.cells #[] 9))) tC_len tC_one (by simp; omega) (by simp <;> omega) ?_)
                intro A2 c2 w20 hown4 hb4 hfar
                obtain ⟨g, m, rfl, hg1, hg2, hrow, hml, _⟩ := hown4.flat tC_len (by omega)
                obtain ⟨z0, hz0⟩ := hrow.cell (j := s) (by omega)
                have hf0 := hrow.frozen s
                have HFl := Lib.hid (hown4.flat tC_len)
                have hbn : Below wr.heap.size wr w20 := (balloc wr (.cells #[] 9)).trans hb4
                clear hown4 hfar c0 c1 q0
                have hb8n := bthen hb8 hbn
                obtain ⟨c0, c1⟩ := HC.out w20 hb8n
                obtain ⟨fb', fo', e', _, q0⟩ := (HF.out.next (bthen hbw hbn)).at1 Hx.out rfl
                rw [Nat.mul_one, He.out] at q0
                simp only [Option.some.injEq, Addr.mk.injEq] at e'
                obtain ⟨rfl, rfl, _⟩ := e'
                have hb20 : Below wr.heap.size wr (w20.setCell ⟨g, s, none⟩ (.string x.code)) := hbn.setCell (p := ⟨g, s, none⟩) (by omega) _
                have HRs : Hid (Rd (w20.setCell ⟨g, s, none⟩ (.string x.code)) (w20.setCell ⟨g, s, none⟩ (.string x.code)).heap.size 1 tC (some ⟨g, 0, none⟩) (ds.set s x.code)) := ((HFl.out.set1 (i := s) (v := x.code) (by omega)).rd).more (by simp [World.setCell])
                have hb820 := bthen hb8 hb20
                have hll : (ds.set s x.code).length ≤ 64 := by rw [List.length_set]; omega
                have HBi := Lib.hid (HWi.out (w20.setCell ⟨g, s, none⟩ (.string x.code)) (some ⟨g, 0, none⟩) c2 (ds.set s x.code) hb820 HRs.out hll)
                have HBs : Hid (∀ v : World, Below (w20.setCell ⟨g, s, none⟩ (.string x.code)).heap.size (w20.setCell ⟨g, s, none⟩ (.string x.code)) v → Calls Try.prog 40 #[.slice (some ⟨ub, uo, none⟩) us.length kc, .slice MA ms.length mc, .slice (some ⟨g, 0, none⟩) (ds.set s x.code).length c2] v (GivesRes v 2 1 nC (listR us ms (ds.set s x.code) 1))) := fun v hv => HWs.out v (some ⟨g, 0, none⟩) c2 (ds.set s x.code) (bthen hb820 hv) (HRs.out.next hv) hll
                have hwl : (listR us ms (ds.set s x.code) 1).1.length ≤ 1048576 := by
                  unfold listR
                  repeat' split
                  · exact Nat.le_trans (idxTo_le _ _ _) (by omega)
                  · simp
                  · simp
                rw [List.length_set] at HBi HBs
                have Hlm := Lib.hid hlm
                clear hlm hll HRs
                generalize listR us ms (ds.set s x.code) 1 = R at HBi HBs hwl Hlm hl0
                obtain ⟨wo, seven⟩ := R
                try simp only at hl0 hwl Hlm
                subst hl0
                go_wp2_with fail
                generalize w20.setCell ⟨g, s, none⟩ (.string x.code) = u at hb20 hb820 HBi HBs ⊢
                refine HBi.out.mono ?_
                rintro e w21 ⟨RA, Rc, rfl, fR, hRc, hb21⟩
                try simp only at fR
                have HR1 := Lib.hid fR.rd
                clear fR hRc HBi c0 c1 q0 hz0 hf0 HFl
                go_wp2_with fail
                refine (HBs.out w21 hb21).mono ?_
                rintro e w22 ⟨RB, Rd2, rfl, fQ, hQc, hb22⟩
                try simp only at fQ
                have HR2 := Lib.hid (HR1.out.next hb22)
                have HKl := Lib.hid (likeInts_k RA RB Rc Rd2 wo w22 HR2.out fQ.rd (by omega))
                clear fQ hQc HBs HR1
                go_wp2_with fail
                refine HKl.out.mono ?_
                rintro e w23 ⟨rfl, hb23⟩
                have HR3 := Lib.hid (HR2.out.next hb23)
                have hb8c := bthen (bthen (bthen hb820 hb21) hb22) hb23
                have hbr := bthen (bthen (bthen hb20 hb21) hb22) hb23
                have hbk3 := bthen hbk2 hbr
                clear HKl HR2 hb20 hb21 hb22 hb23 hb820 hbr
                go_wp2_with fail
                go_loopw [33] (fun y wr3 => ∃ q : Nat, q ≤ wo.length ∧ y = .int .i64 q ∧ Below w23.heap.size w23 wr3) (fun y _ => wo.length - (intOf y).toNat)
                case atStart => exact ⟨0, Nat.zero_le _, rfl, Below.refl _ _⟩
                case round =>
                  obtain ⟨q, hq, rfl, hb4q⟩ := hrel
                  by_cases hqt : q < wo.length
                  · have hxq : wo[q]? = some wo[q] := List.getElem?_eq_getElem hqt
                    obtain ⟨rb, ro, rfl, _, r0⟩ := (HR3.out.next hb4q).at1 hxq rfl
                    rw [Nat.mul_one] at r0
                    obtain ⟨q2, t, eq2, hq2, htq, hn1, hn2⟩ := Hlm.out wo[q] (List.getElem_mem hqt)
                    rw [eq2] at r0
                    obtain ⟨mb, mo, rfl, _, m0, m1, m2⟩ := (HM.out.next (bthen hb8c hb4q)).at3 htq rfl
                    have hn1b : (t.1 == (s : Int)) = false := by simp [hn1]
                    have hn2b : (t.2.1 == (s : Int)) = false := by simp [hn2]
                    clear hxq htq hn1 hn2 eq2
                    go_wp2_with fail
                    exact ⟨⟨q + 1, by omega, by go_num, hb4q⟩, by simp [intOf]; omega⟩
                  · go_wp2_with fail
                    exact ⟨⟨k + 1, by omega, by go_num, bthen hbk3 hb4q⟩, by simp [intOf]; omega⟩
              · go_wp2_with fail
                go_ret
                exact ⟨rfl, hb1.trans ((bthen hb1w15 hbw).mono hb1.size)⟩
          · have hfb : (five == 0) = false := by simp [hfive]
            clear HFL
            go_loopw [27] (fun i wr2 => i = .int .i64 0 ∧ Below wr.heap.size wr wr2) (fun i _ => 0)
            case atStart => exact ⟨rfl, Below.refl _ _⟩
            case round =>
              obtain ⟨rfl, hbl2⟩ := hrel
              go_wp2_with fail
              go_ret
              exact ⟨rfl, hb1.trans ((bthen hb1w15 (bthen hbk hbl2)).mono hb1.size)⟩
    · have hzb : (sc == 0) = false := by simp [hz]
      clear HSn HDs HX HP hz
      go_wp2_with fail
      go_loopw [26] (fun i wr => i = .int .i64 0 ∧ Below w15.heap.size w15 wr) (fun i _ => 0)
      case atStart => exact ⟨rfl, Below.refl _ _⟩
      case round =>
        obtain ⟨rfl, hbk⟩ := hrel
        go_wp2_with fail
        by_cases hfive : five = 0
        · subst hfive
          obtain ⟨s, hsl, hs, hall⟩ := HFL.out rfl
          try simp only at hall
          subst hsl
          have Hall := Lib.hid hall
          clear hall HFL
          go_loopw [27] (fun i wr2 => ∃ k : Nat, k ≤ f.length ∧ i = .int .i64 k ∧ Below wr.heap.size wr wr2) (fun i _ => f.length - (intOf i).toNat)
          case atStart => exact ⟨0, Nat.zero_le _, rfl, Below.refl _ _⟩
          case round =>
            obtain ⟨k, hk, rfl, hbk2⟩ := hrel
            have hbw := bthen hbk hbk2
            have hb8 := bthen hb8w15 hbw
            by_cases hlt : k < f.length
            · have hx : f[k]? = some f[k] := List.getElem?_eq_getElem hlt
              obtain ⟨fb, fo, rfl, _, q0⟩ := (HF.out.next hbw).at1 hx rfl
              rw [Nat.mul_one] at q0
              obtain ⟨kk, x, e, hkk, hxk, hxs, hl0, hlm⟩ := Hall.out f[k] (List.getElem_mem hlt)
              rw [e] at q0
              obtain ⟨ub, uo, rfl⟩ := HU.out.addr (by omega)
              have HC : Hid (∀ v : World, Below w8.heap.size w8 v → v.cell? ⟨ub, uo + kk * 5, none⟩ = some (.string x.code) ∧ v.cell? ⟨ub, uo + kk * 5 + 1, none⟩ = some (.int .i64 (s : Int))) := fun v hv => by
                obtain ⟨_, pA, pc, c0, c1, _⟩ := (HU.out.next hv).cells hxk
                rw [hxs] at c1
                exact ⟨c0, c1⟩
              obtain ⟨c0, c1⟩ := HC.out wr hb8
              have Hx := Lib.hid hx
              have He := Lib.hid e
              clear hx e hxk hxs
              go_wp2_with (at_builtin; refine wpList_append_slice rfl _ _ _ rfl (wr.heap.size) 9 (.string ⟨#[]⟩) 1 16 Try.underlying58 infoString rfl (by omega) (by omega) tC [] ds (some ⟨wr.heap.size, 0, none⟩) 0 rfl (Own.made _ (by omega) rfl) DA dc _ rfl ((HDd.out.next hb8).next (balloc wr (.cells #[] 9))) tC_len tC_one (by simp; omega) (by simp <;> omega) ?_)
              intro A2 c2 w20 hown4 hb4 hfar
              obtain ⟨g, m, rfl, hg1, hg2, hrow, hml, _⟩ := hown4.flat tC_len (by omega)
              obtain ⟨z0, hz0⟩ := hrow.cell (j := s) (by omega)
              have hf0 := hrow.frozen s
              have HFl := Lib.hid (hown4.flat tC_len)
              have hbn : Below wr.heap.size wr w20 := (balloc wr (.cells #[] 9)).trans hb4
              clear hown4 hfar c0 c1 q0
              have hb8n := bthen hb8 hbn
              obtain ⟨c0, c1⟩ := HC.out w20 hb8n
              obtain ⟨fb', fo', e', _, q0⟩ := (HF.out.next (bthen hbw hbn)).at1 Hx.out rfl
              rw [Nat.mul_one, He.out] at q0
              simp only [Option.some.injEq, Addr.mk.injEq] at e'
              obtain ⟨rfl, rfl, _⟩ := e'
              have hb20 : Below wr.heap.size wr (w20.setCell ⟨g, s, none⟩ (.string x.code)) := hbn.setCell (p := ⟨g, s, none⟩) (by omega) _
              have HRs : Hid (Rd (w20.setCell ⟨g, s, none⟩ (.string x.code)) (w20.setCell ⟨g, s, none⟩ (.string x.code)).heap.size 1 tC (some ⟨g, 0, none⟩) (ds.set s x.code)) := ((HFl.out.set1 (i := s) (v := x.code) (by omega)).rd).more (by simp [World.setCell])
              have hb820 := bthen hb8 hb20
              have hll : (ds.set s x.code).length ≤ 64 := by rw [List.length_set]; omega
              have HBi := Lib.hid (HWi.out (w20.setCell ⟨g, s, none⟩ (.string x.code)) (some ⟨g, 0, none⟩) c2 (ds.set s x.code) hb820 HRs.out hll)
              have HBs : Hid (∀ v : World, Below (w20.setCell ⟨g, s, none⟩ (.string x.code)).heap.size (w20.setCell ⟨g, s, none⟩ (.string x.code)) v → Calls Try.prog 40 #[.slice (some ⟨ub, uo, none⟩) us.length kc, .slice MA ms.length mc, .slice (some ⟨g, 0, none⟩) (ds.set s x.code).length c2] v (GivesRes v 2 1 nC (listR us ms (ds.set s x.code) 1))) := fun v hv => HWs.out v (some ⟨g, 0, none⟩) c2 (ds.set s x.code) (bthen hb820 hv) (HRs.out.next hv) hll
              have hwl : (listR us ms (ds.set s x.code) 1).1.length ≤ 1048576 := by
                unfold listR
                repeat' split
                · exact Nat.le_trans (idxTo_le _ _ _) (by omega)
                · simp
                · simp
              rw [List.length_set] at HBi HBs
              have Hlm := Lib.hid hlm
              clear hlm hll HRs
              generalize listR us ms (ds.set s x.code) 1 = R at HBi HBs hwl Hlm hl0
              obtain ⟨wo, seven⟩ := R
              try simp only at hl0 hwl Hlm
              subst hl0
              go_wp2_with fail
              generalize w20.setCell ⟨g, s, none⟩ (.string x.code) = u at hb20 hb820 HBi HBs ⊢
              refine HBi.out.mono ?_
              rintro e w21 ⟨RA, Rc, rfl, fR, hRc, hb21⟩
              try simp only at fR
              have HR1 := Lib.hid fR.rd
              clear fR hRc HBi c0 c1 q0 hz0 hf0 HFl
              go_wp2_with fail
              refine (HBs.out w21 hb21).mono ?_
              rintro e w22 ⟨RB, Rd2, rfl, fQ, hQc, hb22⟩
              try simp only at fQ
              have HR2 := Lib.hid (HR1.out.next hb22)
              have HKl := Lib.hid (likeInts_k RA RB Rc Rd2 wo w22 HR2.out fQ.rd (by omega))
              clear fQ hQc HBs HR1
              go_wp2_with fail
              refine HKl.out.mono ?_
              rintro e w23 ⟨rfl, hb23⟩
              have HR3 := Lib.hid (HR2.out.next hb23)
              have hb8c := bthen (bthen (bthen hb820 hb21) hb22) hb23
              have hbr := bthen (bthen (bthen hb20 hb21) hb22) hb23
              have hbk3 := bthen hbk2 hbr
              clear HKl HR2 hb20 hb21 hb22 hb23 hb820 hbr
              go_wp2_with fail
              go_loopw [33] (fun y wr3 => ∃ q : Nat, q ≤ wo.length ∧ y = .int .i64 q ∧ Below w23.heap.size w23 wr3) (fun y _ => wo.length - (intOf y).toNat)
              case atStart => exact ⟨0, Nat.zero_le _, rfl, Below.refl _ _⟩
              case round =>
                obtain ⟨q, hq, rfl, hb4q⟩ := hrel
                by_cases hqt : q < wo.length
                · have hxq : wo[q]? = some wo[q] := List.getElem?_eq_getElem hqt
                  obtain ⟨rb, ro, rfl, _, r0⟩ := (HR3.out.next hb4q).at1 hxq rfl
                  rw [Nat.mul_one] at r0
                  obtain ⟨q2, t, eq2, hq2, htq, hn1, hn2⟩ := Hlm.out wo[q] (List.getElem_mem hqt)
                  rw [eq2] at r0
                  obtain ⟨mb, mo, rfl, _, m0, m1, m2⟩ := (HM.out.next (bthen hb8c hb4q)).at3 htq rfl
                  have hn1b : (t.1 == (s : Int)) = false := by simp [hn1]
                  have hn2b : (t.2.1 == (s : Int)) = false := by simp [hn2]
                  clear hxq htq hn1 hn2 eq2
                  go_wp2_with fail
                  exact ⟨⟨q + 1, by omega, by go_num, hb4q⟩, by simp [intOf]; omega⟩
                · go_wp2_with fail
                  exact ⟨⟨k + 1, by omega, by go_num, bthen hbk3 hb4q⟩, by simp [intOf]; omega⟩
            · go_wp2_with fail
              go_ret
              exact ⟨rfl, hb1.trans ((bthen hb1w15 hbw).mono hb1.size)⟩
        · have hfb : (five == 0) = false := by simp [hfive]
          clear HFL
          go_loopw [27] (fun i wr2 => i = .int .i64 0 ∧ Below wr.heap.size wr wr2) (fun i _ => 0)
          case atStart => exact ⟨rfl, Below.refl _ _⟩
          case round =>
            obtain ⟨rfl, hbl2⟩ := hrel
            go_wp2_with fail
            go_ret
            exact ⟨rfl, hb1.trans ((bthen hb1w15 (bthen hbk hbl2)).mono hb1.size)⟩

set_option maxRecDepth 100000 in
theorem fnJoints_lifted (os : Os) (started : os.Started) (H : Type) (enc : TypeId × Value → H) :
    ReturnsInHanded {} Try.checked os 6 .any (Rows.fnJointsSpec.pre6 enc Try.prog Try.f6 Rows.fnJointsRow.domain false) (Rows.fnJointsSpec.post enc Try.prog Try.f6 false true false false) := by
  refine returnsInHanded_of_change (C := Try.checked) own started (by kernel_rfl) Try.func6
    (ChangeSpec.witness6 (enc := enc) (C := Try.checked) false ⟨#[], #[.slice none 0 0], []⟩ 8 (by kernel_rfl) (by kernel_rfl) (by kernel_rfl) (by kernel_rfl)) ?_
  intro W base args ds gs before hval0 hW hcnd _
  have hval : ∀ (j : Nat) t v, Try.f6.params[j]? = some t → args[j]? = some v → Value.okWide Try.prog W .any base t v := hval0
  have hlt : ∀ x ∈ before, x.block < W.heap.size := fun x hx => hW.lt x hx
  have hW' := hW
  obtain ⟨p, q, hA0, hV, rfl, hfz, hnd⟩ := hW
  have hA : DataW.TrodAll enc Try.prog W 0 (fun _ => true) true Try.f6.params.toList args.toList ds p := hA0
  rw [Try.params6] at hA hval
  obtain ⟨v0, d0, rfl, rfl, h0⟩ := trodAll_one hA
  obtain ⟨A, c, xs, rfl, hm, hx, hr⟩ := open_bytes (hval 0 28 v0 rfl rfl) h0
  refine (law_FnJoints A c xs W hr hx hm).mono fun e W' ⟨he, hb⟩ => ?_
  subst he
  exact ⟨_, rfl, law_post (tb := 4) laidOut (by kernel_rfl) rfl rfl Try.underlying4 hW' rfl hb⟩
theorem fnJoints_closed : joinedFacts Try.prog 6 Try.f6 Rows.fnJointsSpec Rows.fnJointsRow = true := by
  unfold joinedFacts; rw [mayEnter_yes, liftsFinal_no, make_cut]; kernel_rfl
theorem fnJoints_holds : Rows.FnJointsSaid :=
  OpenClaim.holds_of_wide 6 Try.f6 rfl rfl rfl rfl rfl rfl rfl ⟨rfl, rfl, rfl, rfl, rfl⟩ rfl rfl rfl rfl rfl (by kernel_rfl) Try.func6 fnJoints_closed
    (of_decide_eq_true (by kernel_rfl)) (by unfold Func.isWrapper; rw [if_neg (of_decide_eq_false (by kernel_rfl))]; exact ⟨rfl, rfl⟩)
    (fun os started H enc _ => fnJoints_lifted os started H enc)
#print axioms fnJoints_holds

end Go.Proofs.Ytlhbjgbkpjlacaa
