/- DERIVED. Parts in the laws: opened, carried over, compared, counted, marked. -/
import Derived.Test.YtioblfbhjkkgoaaKitPort
import Derived.Test.YtioblfbhjkkgoaaPartV
namespace Go.Proofs.Ytioblfbhjkkgoaa
set_option maxRecDepth 100000
open Go.RowKit Go.ChangeShapes Go.WideShapes Go.ChangeAt Go.Joins Go.Deep

def SmallV (vs : List PartT) : Prop := vs.length ≤ 1048576 ∧ ∀ x ∈ vs, x.code.size ≤ maxLen ∧ x.ports.length ≤ 1048576
def goodV (x : PartT) : Prop := x.code.size ≤ maxLen ∧ x.ports.length ≤ maxLen

theorem open_partsV {H : Type} {enc : TypeId × Value → H} {W : World} {spare : Nat → Bool} {r : Reach} {b0 : Nat} {v : Value} {d : DataW H} {p : List MemPlace}
    (hv : Value.okWide Try.prog W r b0 22 v) (h : DataW.Trod enc Try.prog W 0 spare true 22 v d p) :
    ∃ A c vs, v = .slice A (List.length vs) c ∧ List.length vs ≤ maxLen ∧ (∀ x ∈ vs, goodV x) ∧ RdV W W.heap.size A vs := by
  obtain ⟨A, c, ms, rfl, h1, h2, h3⟩ := open_parts hv h
  refine ⟨A, c, ms.map PartM.val, by rw [List.length_map], by rw [List.length_map]; exact h1, fun x hx => ?_, ms, rfl, h3⟩
  obtain ⟨m, hm, rfl⟩ := List.mem_map.1 hx
  exact h2 m hm
/-- Parts in memory of the call's own. -/
def FlatV (w : World) (lo hi : Nat) (A : Option Addr) (vs : List PartT) : Prop := ∃ ms : List PartM, ms.map PartM.val = vs ∧ FlatP w lo hi A ms
section
variable {w w' : World} {lo hi lo' hi' : Nat} {A : Option Addr} {vs : List PartT}
theorem FlatV.rd (h : FlatV w lo hi A vs) : RdV w hi A vs := by
  obtain ⟨ms, e, h⟩ := h
  exact ⟨ms, e, h.rd⟩
theorem FlatV.only {a b : Nat} (h : FlatV w lo hi A vs) (hb : Only a b w w') (hs : hi ≤ w.heap.size) (hd : hi ≤ a ∨ b ≤ lo) : FlatV w' lo hi A vs := by
  obtain ⟨ms, e, h⟩ := h
  exact ⟨ms, e, h.only hb hs hd⟩
theorem FlatV.below {B : Nat} (h : FlatV w lo hi A vs) (hb : Below B w w') (hB : hi ≤ B) : FlatV w' lo hi A vs := by
  obtain ⟨ms, e, h⟩ := h
  exact ⟨ms, e, h.below hb hB⟩
end
def GivesV (w : World) (vs : List PartT) (e : Ending) (w' : World) : Prop :=
  ∃ A', e = .returned (.slice A' vs.length vs.length) ∧ FlatV w' w.heap.size w'.heap.size A' vs ∧ Below w.heap.size w w'
theorem szPartS_k (A : Option Addr) (c : Nat) (vs : List PartT) (l : Int) (w : World) (hr : RdV w w.heap.size A vs) (hm : vs.length ≤ maxLen) (hg : ∀ x ∈ vs, goodV x) (h2 : 0 ≤ l) (h3 : l ≤ 1048576) :
    Calls Try.prog 5 #[.slice A vs.length c, .int .i64 l] w (SzPost w l (SmallV vs)) := by
  obtain ⟨ms, rfl, h⟩ := hr
  rw [List.length_map] at hm ⊢
  refine (szPartS_any A c ms l w h hm (fun m hm' => hg m.val (List.mem_map.2 ⟨m, hm', rfl⟩)) h2 h3).mono ?_
  rintro e w' ⟨r, rfl, h4, hb⟩
  refine ⟨r, rfl, ?_, hb⟩
  rcases h4 with h4 | ⟨h4, h5, h6, h7⟩
  · exact Or.inl h4
  · refine Or.inr ⟨h4, h5, by rw [List.length_map]; exact h6, fun x hx => ?_⟩
    obtain ⟨m, hm', rfl⟩ := List.mem_map.1 hx
    exact ⟨(hg m.val (List.mem_map.2 ⟨m, hm', rfl⟩)).1, (h7 m hm').2⟩
theorem toPartS_k (A : Option Addr) (c : Nat) (vs : List PartT) (w : World) (hr : RdV w w.heap.size A vs) (hs : SmallV vs) :
    Calls Try.prog 8 #[.slice A vs.length c] w (GivesV w vs) := by
  obtain ⟨ms, rfl, h⟩ := hr
  obtain ⟨h1, h2⟩ := hs
  rw [List.length_map] at h1 ⊢
  refine (toPartS_any A c ms w h h1 (fun m hm => (h2 m.val (List.mem_map.2 ⟨m, hm, rfl⟩)).2)).mono ?_
  rintro e w' ⟨A', ms', rfl, h3, h4, h5⟩
  exact ⟨A', by rw [List.length_map], ⟨ms', h3, h4⟩, h5⟩
theorem eqPartS_k (A A' : Option Addr) (c c' : Nat) (vs : List PartT) (w : World) (hr : RdV w w.heap.size A vs) (hr' : RdV w w.heap.size A' vs) (hs : SmallV vs) :
    Calls Try.prog 12 #[.slice A vs.length c, .slice A' vs.length c'] w fun e w' => e = .returned (.bool true) ∧ Below w.heap.size w w' := by
  obtain ⟨ms, rfl, h⟩ := hr
  obtain ⟨ns, e, h'⟩ := hr'
  obtain ⟨h1, h2⟩ := hs
  have hl := congrArg List.length e
  rw [List.length_map, List.length_map] at hl
  rw [List.length_map] at h1 ⊢
  have := eqPartS_yes A A' c c' ms ns e.symm w h h' h1 (fun m hm => (h2 m.val (List.mem_map.2 ⟨m, hm, rfl⟩)).2)
  rwa [hl] at this

set_option maxHeartbeats 2000000 in
theorem markPartS_weak (A : Option Addr) (c : Nat) (ms : List PartM) (k : Int) (lo hi : Nat) (w : World) (hf : FlatP w lo hi A ms) (hm : ms.length ≤ 1048576) (hp : ∀ m ∈ ms, m.ports.length ≤ 1048576) (k0 : 0 < k) (k1 : k ≤ 900000000000000) :
    Calls Try.prog 14 #[.slice A ms.length c, .int .i64 k] w (MarkedOnly w lo hi k) := by
  have hroom := hf.1.room
  have Hc : Hid (∀ g, A = some ⟨g, 0, none⟩ → ∀ j m, ms[j]? = some m → w.cell? ⟨g, j * 5 + 2, none⟩ = some (.slice m.pA m.ports.length m.pc)) := by
    intro g e j m hj
    subst e
    obtain ⟨g', m', e', _, _, _, _, hcell⟩ := hf.1 (by have := (List.getElem?_eq_some_iff.1 hj).1; omega)
    simp only [Option.some.injEq, Addr.mk.injEq] at e'
    obtain ⟨rfl, _, _⟩ := e'
    exact hcell j m hj 2 _ rfl
  have Hi : Hid (∀ m ∈ ms, Room w lo hi 96 3 m.pA m.ports.length ∧ (0 < m.ports.length → ∀ g o, A = some ⟨g, o, none⟩ → Apart m.pA g)) := fun m hm => ⟨(hf.2 m hm).1.room, (hf.2 m hm).2.2⟩
  have Hp := Lib.hid hp
  clear hf hp
  go_enter Try.func14, Try.ntmps14
  go_wp2_with fail
  go_loopw [1, 5] (fun kk i wr => ∃ (j : Nat) (q : Int), j ≤ ms.length ∧ i = .int .i64 j ∧ kk = .int .i64 q ∧ k ≤ q ∧ q ≤ k + 4194304 * j ∧ Only lo hi w wr ∧ Room wr lo hi 59 5 A ms.length ∧ (∀ g, A = some ⟨g, 0, none⟩ → ∀ j m, ms[j]? = some m → wr.cell? ⟨g, j * 5 + 2, none⟩ = some (.slice m.pA m.ports.length m.pc)) ∧ (∀ m ∈ ms, Room wr lo hi 96 3 m.pA m.ports.length ∧ (0 < m.ports.length → ∀ g o, A = some ⟨g, o, none⟩ → Apart m.pA g))) (fun _ i _ => ms.length - (intOf i).toNat)
  case atStart => exact ⟨0, k, Nat.zero_le _, rfl, rfl, by omega, by omega, Only.refl _ _ _, hroom, Hc.out, Hi.out⟩
  case round =>
    obtain ⟨j, q, hj, rfl, rfl, q0, q1, ho, hrm, hcc, hin⟩ := hrel
    have Hcc := Lib.hid hcc; clear hcc
    have Hin := Lib.hid hin; clear hin
    have hsz := ho.size
    by_cases hlt : j < ms.length
    · obtain ⟨g, m, rfl, hl, hg, hrow, hm2⟩ := hrm (by omega)
      have hx : ms[j]? = some ms[j] := List.getElem?_eq_getElem hlt
      have hc2 := Hcc.out g rfl j _ hx
      have hmem := List.mem_of_getElem? hx
      generalize ms[j] = t at hc2 hmem hx
      clear hx
      obtain ⟨ht1, ht2⟩ := Hin.out t hmem
      have htl := Hp.out t hmem
      have HT2 := Lib.hid ht2; clear ht2
      have HT1 := Lib.hid ht1; clear ht1
      go_wp2_with fail
      refine (markText_any _ (by omega) (by omega) _).mono ?_
      rintro e w1 ⟨rfl, hb1⟩
      have hrow1 := hrow.next hb1
      obtain ⟨z0, hz0⟩ := hrow1.cell (j := j * 5) (by omega)
      have hf0 := hrow1.frozen (j * 5)
      obtain ⟨z1, hz1⟩ := hrow1.cell (j := j * 5 + 1) (by omega)
      have hf1 := hrow1.frozen (j * 5 + 1)
      have hc21 : w1.cell? ⟨g, j * 5 + 2, none⟩ = some (.slice t.pA t.ports.length t.pc) := (hb1.cell (p := ⟨g, j * 5 + 2, none⟩) hrow.lt).trans hc2
      have hs1 := hb1.size
      go_wp2_with fail
      obtain ⟨a, b, hab, hrt, hmono, _⟩ := HT1.out.tight (g := g) (fun hpos => HT2.out hpos g 0 rfl)
      refine (markPortS_any t.pA t.pc t.ports.length (q + 1 + 1) a b _ (hrt.keep fun _ _ h => ((h.next hb1).setCell _ _).setCell _ _) htl (by omega) (by omega)).mono ?_
      rintro e w3 ⟨⟨rfl, ho3, _⟩, hrk⟩
      have hrow2 := (hrow1.setCell ⟨g, j * 5, none⟩ (.string (mkT q))).setCell ⟨g, j * 5 + 1, none⟩ (.int .i64 (q + 1))
      have hrow3 := hrk _ _ _ hrow2
      obtain ⟨z3, hz3⟩ := hrow3.cell (j := j * 5 + 3) (by omega)
      have hf3 := hrow3.frozen (j * 5 + 3)
      obtain ⟨z4, hz4⟩ := hrow3.cell (j := j * 5 + 4) (by omega)
      have hf4 := hrow3.frozen (j * 5 + 4)
      have hk3 : Hid (∀ j' v, wr.cell? ⟨g, j' * 5 + 2, none⟩ = some v → w3.cell? ⟨g, j' * 5 + 2, none⟩ = some v) := fun j' v h =>
        ho3.cell hab (by rw [setCell_other (by omega), setCell_other (by omega)]; exact (hb1.cell (p := ⟨g, j' * 5 + 2, none⟩) hrow.lt).trans h)
      have hrk3 : Hid (∀ g' E m', Row wr g' E m' → Row w3 g' E m') := fun _ _ _ h => hrk _ _ _ (((h.next hb1).setCell _ _).setCell _ _)
      have ho13 : Only lo hi w w3 := (((ho.trans (Only.of_below hb1)).trans (Only.setCell (p := ⟨g, j * 5, none⟩) ⟨hl, hg⟩ _)).trans (Only.setCell (p := ⟨g, j * 5 + 1, none⟩) ⟨hl, hg⟩ _)).trans (hmono _ _ ho3)
      clear hrow1 hz0 hf0 hz1 hf1 hc21 hc2 hrow2 hrt
      go_wp2_with fail
      refine ⟨⟨j + 1, _, by omega, by go_num, rfl, by omega, by omega, (ho13.trans (Only.setCell (p := ⟨g, j * 5 + 3, none⟩) ⟨hl, hg⟩ _)).trans (Only.setCell (p := ⟨g, j * 5 + 4, none⟩) ⟨hl, hg⟩ _), fun _ => ⟨g, m, rfl, hl, hg, (hrow3.setCell _ _).setCell _ _, hm2⟩, ?_, fun m' hm' => ⟨(Hin.out m' hm').1.keep fun _ _ h => ((hrk3.out _ _ _ h).setCell _ _).setCell _ _, (Hin.out m' hm').2⟩⟩, by simp [intOf]; omega⟩
      intro g' e j' m' hj'
      simp only [Option.some.injEq, Addr.mk.injEq] at e
      obtain ⟨rfl, _, _⟩ := e
      rw [setCell_other (by omega), setCell_other (by omega)]
      exact hk3.out _ _ (Hcc.out g rfl j' m' hj')
    · obtain rfl : j = ms.length := by omega
      go_wp2_with fail
      go_ret
      exact ⟨q, rfl, by omega, by omega, ho⟩

theorem markPartS_k (A : Option Addr) (c : Nat) (vs : List PartT) (k : Int) (lo hi : Nat) (w : World) (hf : FlatV w lo hi A vs) (hs : SmallV vs) (k0 : 0 < k) (k1 : k ≤ 900000000000000) :
    Calls Try.prog 14 #[.slice A vs.length c, .int .i64 k] w (MarkedOnly w lo hi k) := by
  obtain ⟨ms, rfl, h⟩ := hf
  obtain ⟨h1, h2⟩ := hs
  rw [List.length_map] at h1 ⊢
  exact markPartS_weak A c ms k lo hi w h h1 (fun m hm => (h2 m.val (List.mem_map.2 ⟨m, hm, rfl⟩)).2) k0 k1
end Go.Proofs.Ytioblfbhjkkgoaa
