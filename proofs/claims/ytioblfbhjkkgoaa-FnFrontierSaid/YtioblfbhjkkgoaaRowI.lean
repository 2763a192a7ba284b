/- DERIVED. Slices of slices of numbers: how they read and lie; results of this kind compared, marked, held. -/
import Derived.Test.YtioblfbhjkkgoaaResInt
import Derived.Test.YtioblfbhjkkgoaaOwn3
import Derived.Test.YtioblfbhjkkgoaaIdx
import Derived.StillTailTactics
namespace Go.Proofs.Ytioblfbhjkkgoaa
set_option maxRecDepth 100000
open Go.RowKit

/-- A row: where its numbers lie. -/
structure RowI where
  A : Option Addr
  c : Nat
  ns : List Int
def rowI (m : RowI) : List Value := [.slice m.A m.ns.length m.c]
theorem rowI_len (m : RowI) : (rowI m).length = 1 := rfl
theorem rowI_one (m : RowI) : ∀ u ∈ rowI m, u.oneCell' = true := fun u hu => by
  simp only [rowI, List.mem_singleton] at hu
  subst hu
  rfl
theorem infoRowI : (Try.prog.info? 47).map (fun i => (i.zero, i.size, i.bytes)) = some (some (.slice none 0 0), 1, 24) := by kernel_rfl

structure InnerI (w : World) (lo hi : Nat) (ms : List RowI) : Prop where
  flat : ∀ m ∈ ms, Flat w lo hi 2 1 nC m.A m.ns
  apart : ms.Pairwise fun m n => 0 < m.ns.length → 0 < n.ns.length → m.A ≠ n.A
theorem InnerI.nil {w : World} {lo hi : Nat} : InnerI w lo hi [] := ⟨fun _ hm => absurd hm (by simp), List.Pairwise.nil⟩
/-- A row of rows of numbers between lo and hi, all apart. -/
def FlatJ (w : World) (lo hi : Nat) (A : Option Addr) (ms : List RowI) : Prop := Flat w lo hi 47 1 rowI A ms ∧ InnerI w lo hi ms
def FlatI (w : World) (lo hi : Nat) (A : Option Addr) (rs : List (List Int)) : Prop := ∃ ms : List RowI, ms.map RowI.ns = rs ∧ FlatJ w lo hi A ms
def RdJ (w : World) (B : Nat) (A : Option Addr) (ms : List RowI) : Prop := Rd w B 1 rowI A ms ∧ ∀ m ∈ ms, Rd w B 1 nC m.A m.ns
def RdI (w : World) (B : Nat) (A : Option Addr) (rs : List (List Int)) : Prop := ∃ ms : List RowI, ms.map RowI.ns = rs ∧ RdJ w B A ms
section
variable {w w' : World} {lo hi lo' hi' B B' : Nat} {A : Option Addr} {ms : List RowI} {rs : List (List Int)}
theorem InnerI.only {a b : Nat} (h : InnerI w lo hi ms) (hb : Only a b w w') (hs : hi ≤ w.heap.size) (hd : hi ≤ a ∨ b ≤ lo) : InnerI w' lo hi ms := ⟨fun m hm => (h.flat m hm).only hb hs hd, h.apart⟩
theorem InnerI.below (h : InnerI w lo hi ms) (hb : Below B w w') (hB : hi ≤ B) : InnerI w' lo hi ms := ⟨fun m hm => (h.flat m hm).below hb hB, h.apart⟩
theorem InnerI.mono (h : InnerI w lo hi ms) (h1 : lo' ≤ lo) (h2 : hi ≤ hi') : InnerI w lo' hi' ms := ⟨fun m hm => (h.flat m hm).mono h1 h2, h.apart⟩
theorem FlatJ.only {a b : Nat} (h : FlatJ w lo hi A ms) (hb : Only a b w w') (hs : hi ≤ w.heap.size) (hd : hi ≤ a ∨ b ≤ lo) : FlatJ w' lo hi A ms := ⟨h.1.only hb hs hd, h.2.only hb hs hd⟩
theorem FlatJ.below (h : FlatJ w lo hi A ms) (hb : Below B w w') (hB : hi ≤ B) : FlatJ w' lo hi A ms := ⟨h.1.below hb hB, h.2.below hb hB⟩
theorem FlatJ.mono (h : FlatJ w lo hi A ms) (h1 : lo' ≤ lo) (h2 : hi ≤ hi') : FlatJ w lo' hi' A ms := ⟨h.1.mono h1 h2, h.2.mono h1 h2⟩
theorem FlatJ.rd (h : FlatJ w lo hi A ms) : RdJ w hi A ms := ⟨h.1.rd, fun m hm => (h.2.flat m hm).rd⟩
theorem FlatI.only {a b : Nat} (h : FlatI w lo hi A rs) (hb : Only a b w w') (hs : hi ≤ w.heap.size) (hd : hi ≤ a ∨ b ≤ lo) : FlatI w' lo hi A rs := by
  obtain ⟨ms, e, h⟩ := h
  exact ⟨ms, e, h.only hb hs hd⟩
theorem FlatI.below (h : FlatI w lo hi A rs) (hb : Below B w w') (hB : hi ≤ B) : FlatI w' lo hi A rs := by
  obtain ⟨ms, e, h⟩ := h
  exact ⟨ms, e, h.below hb hB⟩
theorem FlatI.mono (h : FlatI w lo hi A rs) (h1 : lo' ≤ lo) (h2 : hi ≤ hi') : FlatI w lo' hi' A rs := by
  obtain ⟨ms, e, h⟩ := h
  exact ⟨ms, e, h.mono h1 h2⟩
theorem FlatI.rd (h : FlatI w lo hi A rs) : RdI w hi A rs := by
  obtain ⟨ms, e, h⟩ := h
  exact ⟨ms, e, h.rd⟩
theorem FlatI.nil : FlatI w lo hi A [] := ⟨[], rfl, flat_nil, InnerI.nil⟩
theorem RdJ.below (h : RdJ w B A ms) (hb : Below B w w') : RdJ w' B A ms := ⟨h.1.below hb, fun m hm => (h.2 m hm).below hb⟩
theorem RdJ.more (h : RdJ w B A ms) (hB : B ≤ B') : RdJ w B' A ms := ⟨h.1.more hB, fun m hm => (h.2 m hm).more hB⟩
theorem RdI.below (h : RdI w B A rs) (hb : Below B w w') : RdI w' B A rs := by
  obtain ⟨ms, e, h⟩ := h
  exact ⟨ms, e, h.below hb⟩
theorem RdI.more (h : RdI w B A rs) (hB : B ≤ B') : RdI w B' A rs := by
  obtain ⟨ms, e, h⟩ := h
  exact ⟨ms, e, h.more hB⟩
theorem RdI.next (h : RdI w w.heap.size A rs) (hb : Below w.heap.size w w') : RdI w' w'.heap.size A rs := (h.below hb).more hb.size
end
/-- Rows that are not too many, none too long. -/
def SmallI (rs : List (List Int)) : Prop := rs.length ≤ 1048576 ∧ ∀ r ∈ rs, r.length ≤ 1048576
/-- What a function gives that makes rows of numbers, with a code. -/
def GivesI (w : World) (r : List (List Int) × Int) (e : Ending) (w' : World) : Prop :=
  ∃ A c, e = .returned (.tuple #[.slice A r.1.length c, .int .i64 r.2]) ∧ FlatI w' w.heap.size w'.heap.size A r.1 ∧ r.1.length ≤ c ∧ Below w.heap.size w w'

/-- Marks over rows. -/
def kI (k : Int) : List (List Int) → Int
  | [] => k
  | r :: rs => kI (k + r.length) rs
def mkRows (k : Int) : List RowI → List RowI
  | [] => []
  | m :: ms => ⟨m.A, m.c, markN k m.ns.length⟩ :: mkRows (k + m.ns.length) ms
theorem mkRows_len : ∀ (ms : List RowI) (k : Int), (mkRows k ms).length = ms.length
  | [], _ => rfl
  | m :: ms, k => by simp [mkRows, mkRows_len ms]
theorem kI_snoc : ∀ (rs : List (List Int)) (k : Int) (r : List Int), kI k (rs ++ [r]) = kI k rs + r.length
  | [], _, _ => rfl
  | _ :: rs, _, r => kI_snoc rs _ r
theorem mkRows_at : ∀ (ms : List RowI) (k : Int) (j : Nat) (m : RowI), ms[j]? = some m → (mkRows k ms)[j]? = some ⟨m.A, m.c, markN (kI k ((ms.map RowI.ns).take j)) m.ns.length⟩
  | [], _, j, m, h => by simp at h
  | n :: ns, k, 0, m, h => by
    simp at h
    subst h
    simp [mkRows, kI]
  | n :: ns, k, j + 1, m, h => by
    simp at h
    simpa [mkRows, kI] using mkRows_at ns _ j m h
theorem kI_bd : ∀ (rs : List (List Int)) (k : Int), (∀ r ∈ rs, r.length ≤ 1048576) → k ≤ kI k rs ∧ kI k rs ≤ k + 1048576 * rs.length
  | [], k, _ => by simp [kI]
  | r :: rs, k, h => by
    have h1 := h r (List.mem_cons_self)
    have ih := kI_bd rs (k + r.length) fun y hy => h y (List.mem_cons_of_mem _ hy)
    simp only [kI, List.length_cons]
    omega
/-- Rows that read as their marks. -/
def MkI (w : World) (lo hi : Nat) (A : Option Addr) (rs : List (List Int)) : Prop := ∃ ms : List RowI, ms.map RowI.ns = rs ∧ FlatJ w lo hi A (mkRows 1 ms)
theorem MkI.only {w w' : World} {lo hi a b : Nat} {A : Option Addr} {rs : List (List Int)} (h : MkI w lo hi A rs) (hb : Only a b w w') (hs : hi ≤ w.heap.size) (hd : hi ≤ a ∨ b ≤ lo) : MkI w' lo hi A rs := by
  obtain ⟨ms, e, h⟩ := h
  exact ⟨ms, e, h.only hb hs hd⟩
theorem MkI.below {w w' : World} {lo hi B : Nat} {A : Option Addr} {rs : List (List Int)} (h : MkI w lo hi A rs) (hb : Below B w w') (hB : hi ≤ B) : MkI w' lo hi A rs := by
  obtain ⟨ms, e, h⟩ := h
  exact ⟨ms, e, h.below hb hB⟩
theorem Flat.like {α β : Type} {w : World} {lo hi sz : Nat} {E : TypeId} {f : α → List Value} {g : β → List Value} {A : Option Addr} {xs : List α} {ys : List β} (h : Flat w lo hi E sz f A xs) (hl : ys.length = xs.length) (hv : ∀ (k : Nat) (x : α) (y : β), xs[k]? = some x → ys[k]? = some y → f x = g y) : Flat w lo hi E sz g A ys := fun hy => by
  obtain ⟨g', m, e, h1, h2, h3, h4, hc⟩ := h (by omega)
  refine ⟨g', m, e, h1, h2, h3, by rw [hl]; exact h4, fun k y hk j v hj => ?_⟩
  have hk2 : k < xs.length := by
    have := (List.getElem?_eq_some_iff.1 hk).1
    omega
  refine hc k xs[k] (List.getElem?_eq_getElem hk2) j v ?_
  rw [hv k _ y (List.getElem?_eq_getElem hk2) hk]
  exact hj

set_option maxHeartbeats 2000000 in
theorem markInt64SS_strong (A : Option Addr) (c : Nat) (ms : List RowI) (lo hi : Nat) (w : World) (hf : FlatJ w lo hi A ms) (hm : ms.length ≤ 1048576) (hp : ∀ m ∈ ms, m.ns.length ≤ 1048576) :
    Calls Try.prog 16 #[.slice A ms.length c, .int .i64 1] w fun e w' => e = .returned (.int .i64 (kI 1 (ms.map RowI.ns))) ∧ Only lo hi w w' ∧ FlatJ w' lo hi A (mkRows 1 ms) := by
  have Hap : Hid (∀ (i j : Nat) (m n : RowI), i < j → ms[i]? = some m → ms[j]? = some n → 0 < m.ns.length → 0 < n.ns.length → m.A ≠ n.A) := fun i j m n hij h1 h2 => by
    obtain ⟨hi', e1⟩ := List.getElem?_eq_some_iff.1 h1
    obtain ⟨hj', e2⟩ := List.getElem?_eq_some_iff.1 h2
    have := List.pairwise_iff_getElem.1 hf.2.apart i j hi' hj' hij
    rw [e1, e2] at this
    exact this
  have HK : Hid (∀ j, j ≤ ms.length → 1 ≤ kI 1 ((ms.map RowI.ns).take j) ∧ kI 1 ((ms.map RowI.ns).take j) ≤ 1 + 1048576 * j) := fun j hj => by
    have := kI_bd ((ms.map RowI.ns).take j) 1 fun x hx => by
      obtain ⟨m, hm', rfl⟩ := List.mem_map.1 (List.mem_of_mem_take hx)
      exact hp m hm'
    rw [List.length_take, List.length_map] at this
    rw [show min j ms.length = j by omega] at this
    exact this
  have Hp := Lib.hid hp
  have HO := hf.1
  have HI : ∀ i m, 0 ≤ i → ms[i]? = some m → Flat w lo hi 2 1 nC m.A m.ns := fun i m _ h => hf.2.flat m (List.mem_of_getElem? h)
  clear hf hp
  go_enter Try.func16, Try.ntmps16
  go_wp2_with fail
  go_loopw [1, 5] (fun kk i wr => ∃ j : Nat, j ≤ ms.length ∧ i = .int .i64 j ∧ kk = .int .i64 (kI 1 ((ms.map RowI.ns).take j)) ∧ Only lo hi w wr ∧ Flat wr lo hi 47 1 rowI A ms ∧ (∀ i m, j ≤ i → ms[i]? = some m → Flat wr lo hi 2 1 nC m.A m.ns) ∧ (∀ i m, i < j → ms[i]? = some m → Flat wr lo hi 2 1 nC m.A (markN (kI 1 ((ms.map RowI.ns).take i)) m.ns.length))) (fun _ i _ => ms.length - (intOf i).toNat)
  case atStart => exact ⟨0, Nat.zero_le _, rfl, rfl, Only.refl _ _ _, HO, HI, fun i m h => by omega⟩
  case round =>
    obtain ⟨j, hj, rfl, rfl, ho, hout, hin, hmk⟩ := hrel
    have Hin := Lib.hid hin; clear hin
    have Hmk := Lib.hid hmk; clear hmk
    have Hout := Lib.hid hout; clear hout
    have hsz := ho.size
    have hkb := HK.out j hj
    by_cases hlt : j < ms.length
    · have hx : ms[j]? = some ms[j] := List.getElem?_eq_getElem hlt
      obtain ⟨g, m, rfl, hl, hg, hrow, hm2, hcc⟩ := Hout.out (by omega)
      have hc2 := hcc j _ hx 0 _ rfl
      rw [Nat.mul_one, Nat.add_zero] at hc2
      have hmem := List.mem_of_getElem? hx
      generalize ms[j] = t at hc2 hmem hx
      have HT := Lib.hid (Hin.out j t (Nat.le_refl _) hx)
      have htl := Hp.out t hmem
      have HE : Hid (kI 1 ((ms.map RowI.ns).take (j + 1)) = kI 1 ((ms.map RowI.ns).take j) + t.ns.length) := by
        unfold Hid
        rw [List.take_succ_eq_append_getElem (by rw [List.length_map]; omega), kI_snoc, List.getElem_map]
        have := List.getElem?_eq_some_iff.1 hx
        rw [this.2]
      have Hx := Lib.hid hx; clear hx hcc
      generalize hq : kI 1 ((ms.map RowI.ns).take j) = q at hkb HE ⊢
      have Hq := Lib.hid hq; clear hq
      -- the block of this row alone
      have htight : ∃ a b, Flat wr a b 2 1 nC t.A t.ns ∧ (∀ w1 w2, Only a b w1 w2 → Only lo hi w1 w2) ∧ (∀ g', ¬ (0 < t.ns.length ∧ t.A = some ⟨g', 0, none⟩) → ¬ (a ≤ g' ∧ g' < b)) ∧ (0 < t.ns.length → lo ≤ a ∧ b ≤ hi) := by
        by_cases hn : 0 < t.ns.length
        · obtain ⟨g', m', e', h1, h2, h3, h4, h5⟩ := HT.out hn
          refine ⟨g', g' + 1, fun _ => ⟨g', m', e', Nat.le_refl _, by omega, h3, h4, h5⟩, fun _ _ ho => ho.mono h1 (by omega), fun g2 h => ?_, fun _ => ⟨h1, by omega⟩⟩
          intro hc
          have : g2 = g' := by omega
          subst this
          exact h ⟨hn, e'⟩
        · exact ⟨0, 0, fun hp => absurd hp hn, fun _ _ ho => ⟨ho.os, ho.tape, ho.output, ho.size, fun i hi _ => ho.block i hi (by omega)⟩, fun _ _ h => by omega, fun h => absurd h hn⟩
      obtain ⟨a, b, hft, hmono, hother, hin2⟩ := htight
      go_wp2_with fail
      refine (markInt64S_any t.A t.c t.ns q a b _ hft htl (by omega) (by omega)).mono ?_
      rintro e w3 ⟨rfl, ho3, hfl⟩
      go_wp2_with fail
      have hstay : ∀ g', g' < wr.heap.size → ¬ (0 < t.ns.length ∧ t.A = some ⟨g', 0, none⟩) → w3.heap[g']? = wr.heap[g']? := fun g' hlt' hno => ho3.block g' hlt' (hother g' hno)
      refine ⟨⟨j + 1, by omega, by go_num, by rw [HE.out], ho.trans (hmono _ _ ho3), ?_, ?_, ?_⟩, by simp [intOf]; omega⟩
      · refine Hout.out.keepAt fun g' e hp' => ?_
        simp only [Option.some.injEq, Addr.mk.injEq] at e
        obtain ⟨rfl, _⟩ := e
        refine hstay g hrow.lt ?_
        rintro ⟨h1, h2⟩
        obtain ⟨g2, m2, e2, _, _, h3, _⟩ := HT.out h1
        rw [h2] at e2
        simp only [Option.some.injEq, Addr.mk.injEq] at e2
        obtain ⟨rfl, _⟩ := e2
        exact hrow.ne h3 (by decide) rfl
      · intro i m' hi' hm'
        refine (Hin.out i m' (by omega) hm').keepAt fun g' eg hpos => ?_
        obtain ⟨g2, _, e2, _, _, h3, _⟩ := Hin.out i m' (by omega) hm' hpos
        rw [eg] at e2
        simp only [Option.some.injEq, Addr.mk.injEq] at e2
        obtain ⟨rfl, _⟩ := e2
        refine hstay g' h3.lt ?_
        rintro ⟨h1, h2⟩
        exact Hap.out j i t m' (by omega) Hx.out hm' h1 hpos (h2.trans eg.symm)
      · intro i m' hi' hm'
        by_cases e : i = j
        · subst e
          obtain rfl : t = m' := by
            have := Hx.out
            rw [hm'] at this
            exact (Option.some.inj this).symm
          rw [Hq.out]
          intro hpos
          rw [markN_len] at hpos
          exact (hfl.mono (hin2 hpos).1 (hin2 hpos).2) (by rw [markN_len]; exact hpos)
        · have hold := Hmk.out i m' (by omega) hm'
          refine hold.keepAt fun g' eg hpos => ?_
          obtain ⟨g2, _, e2, _, _, h3, _⟩ := hold hpos
          rw [eg] at e2
          simp only [Option.some.injEq, Addr.mk.injEq] at e2
          obtain ⟨rfl, _⟩ := e2
          rw [markN_len] at hpos
          refine hstay g' h3.lt ?_
          rintro ⟨h1, h2⟩
          exact Hap.out i j m' t (by omega) hm' Hx.out hpos h1 (eg.trans h2.symm)
    · obtain rfl : j = ms.length := by omega
      have HT : Hid ((ms.map RowI.ns).take ms.length = ms.map RowI.ns) := List.take_of_length_le (by rw [List.length_map]; omega)
      rw [HT.out]
      go_wp2_with fail
      go_ret
      have hget : ∀ m' ∈ mkRows 1 ms, ∃ (i : Nat) (m : RowI), ms[i]? = some m ∧ m' = ⟨m.A, m.c, markN (kI 1 ((ms.map RowI.ns).take i)) m.ns.length⟩ := fun m' hm' => by
        obtain ⟨i, hi'⟩ := List.mem_iff_getElem?.1 hm'
        have hil := (List.getElem?_eq_some_iff.1 hi').1
        rw [mkRows_len] at hil
        have := mkRows_at ms 1 i _ (List.getElem?_eq_getElem hil)
        rw [hi'] at this
        exact ⟨i, _, List.getElem?_eq_getElem hil, Option.some.inj this⟩
      refine ⟨rfl, ho, Hout.out.like (mkRows_len _ _) fun k x y hx hy => ?_, fun m' hm' => ?_, ?_⟩
      · have := mkRows_at ms 1 k x hx
        rw [hy] at this
        rw [Option.some.inj this]
        simp [rowI, markN_len]
      · obtain ⟨i, m, h1, rfl⟩ := hget m' hm'
        exact Hmk.out i m (List.getElem?_eq_some_iff.1 h1).1 h1
      · rw [List.pairwise_iff_getElem]
        intro i j hi' hj' hij h1 h2
        rw [mkRows_len] at hi' hj'
        have e1 := mkRows_at ms 1 i _ (List.getElem?_eq_getElem hi')
        have e2 := mkRows_at ms 1 j _ (List.getElem?_eq_getElem hj')
        rw [List.getElem?_eq_getElem (by rw [mkRows_len]; exact hi')] at e1
        rw [List.getElem?_eq_getElem (by rw [mkRows_len]; exact hj')] at e2
        rw [Option.some.inj e1] at h1 ⊢
        rw [Option.some.inj e2] at h2 ⊢
        simp only [markN_len] at h1 h2
        exact Hap.out i j ms[i] ms[j] hij (List.getElem?_eq_getElem hi') (List.getElem?_eq_getElem hj') h1 h2

theorem markInt64SS_r (A : Option Addr) (c : Nat) (rs : List (List Int)) (lo hi : Nat) (w : World) (hf : FlatI w lo hi A rs) (hs : SmallI rs) :
    Calls Try.prog 16 #[.slice A rs.length c, .int .i64 1] w fun e w' => e = .returned (.int .i64 (kI 1 rs)) ∧ Only lo hi w w' ∧ MkI w' lo hi A rs := by
  obtain ⟨ms, rfl, h⟩ := hf
  obtain ⟨h1, h2⟩ := hs
  rw [List.length_map] at h1 ⊢
  refine (markInt64SS_strong A c ms lo hi w h h1 (fun m hm => h2 m.ns (List.mem_map.2 ⟨m, hm, rfl⟩))).mono ?_
  rintro e w' ⟨rfl, h3, h4⟩
  exact ⟨rfl, h3, ms, rfl, h4⟩

set_option maxHeartbeats 1000000 in
theorem eqInt64SS_k (A A' : Option Addr) (c c' : Nat) (ms ns : List RowI) (w : World) (hr : RdJ w w.heap.size A ms) (hr' : RdJ w w.heap.size A' ns) (he : ms.map RowI.ns = ns.map RowI.ns) (hm : ms.length ≤ 1048576) (hp : ∀ m ∈ ms, m.ns.length ≤ 1048576) :
    Calls Try.prog 11 #[.slice A ms.length c, .slice A' ns.length c'] w fun e w' => e = .returned (.bool true) ∧ Below w.heap.size w w' := by
  have hl : ms.length = ns.length := by
    have := congrArg List.length he
    rwa [List.length_map, List.length_map] at this
  have hn : ((ms.length : Int) != (ns.length : Int)) = false := by simp [hl]
  have Hl := Lib.hid hl; clear hl
  have He := Lib.hid he; clear he
  have Hr := Lib.hid hr; clear hr
  have Hr' := Lib.hid hr'; clear hr'
  have Hp := Lib.hid hp; clear hp
  go_enter Try.func11, Try.ntmps11
  go_wp2_with fail
  go_loopw [5] (fun i wr => ∃ k : Nat, k ≤ ms.length ∧ i = .int .i64 k ∧ Below w.heap.size w wr) (fun i _ => ms.length - (intOf i).toNat)
  case atStart => exact ⟨0, Nat.zero_le _, rfl, Below.refl _ _⟩
  case round =>
    obtain ⟨k, hk, rfl, hb⟩ := hrel
    by_cases hlt : k < ms.length
    · have hlt' : k < ns.length := by have := Hl.out; omega
      have hx : ms[k]? = some ms[k] := List.getElem?_eq_getElem hlt
      have hy : ns[k]? = some ns[k] := List.getElem?_eq_getElem hlt'
      have hev : (ns[k]).ns = (ms[k]).ns := by
        have h1 : (ms.map RowI.ns)[k]? = some (ms[k]).ns := by rw [List.getElem?_map, hx]; rfl
        have h2 : (ns.map RowI.ns)[k]? = some (ns[k]).ns := by rw [List.getElem?_map, hy]; rfl
        rw [He.out, h2] at h1
        exact Option.some.inj h1
      have hi1 := ((Hr.out.2 _ (List.mem_of_getElem? hx)).below hb).more hb.size
      have hi2 := ((Hr'.out.2 _ (List.mem_of_getElem? hy)).below hb).more hb.size
      have htl := Hp.out _ (List.mem_of_getElem? hx)
      obtain ⟨b, o, hA, hB, h0⟩ := (Hr.out.1.below hb).at1 hx rfl
      obtain ⟨b', o', hA', hB', h0'⟩ := (Hr'.out.1.below hb).at1 hy rfl
      rw [Nat.mul_one] at h0 h0'
      subst hA
      subst hA'
      generalize ms[k] = t at h0 hx hi1 htl hev
      generalize ns[k] = t' at h0' hy hi2 hev
      rw [hev] at hi2 h0'
      have HC : Hid (∀ (v : World), Below wr.heap.size wr v → Calls Try.prog 33 #[.slice t.A t.ns.length t.c, .slice t'.A t.ns.length t'.c] v fun e w' => e = .returned (.bool true) ∧ Below v.heap.size v w') := fun v hv => eqInt64S_r t.A t'.A t.c t'.c t.ns v (hi1.next hv) (hi2.next hv) htl
      clear hx hy hi1 hi2 hev
      go_wp2_with fail
      go_still_tail 8, (by kernel_rfl)
      change wpList _ _ _ _ _ wr.drew
      have hb2 := hb.drew
      have HC2 := Lib.hid (HC.out wr.drew (bdrew wr))
      clear HC
      generalize wr.drew = w2 at hb2 HC2 ⊢
      go_wp2_with (go_at_call 33; refine HC2.out.mono ?_; rintro e w3 ⟨rfl, hb3⟩)
      exact ⟨⟨k + 1, by omega, by go_num, bthen hb2 hb3⟩, by simp [intOf]; omega⟩
    · go_wp2_with fail
      go_ret
      exact ⟨rfl, hb⟩
theorem eqInt64SS_r (A A' : Option Addr) (c c' : Nat) (rs : List (List Int)) (w : World) (hr : RdI w w.heap.size A rs) (hr' : RdI w w.heap.size A' rs) (hs : SmallI rs) :
    Calls Try.prog 11 #[.slice A rs.length c, .slice A' rs.length c'] w fun e w' => e = .returned (.bool true) ∧ Below w.heap.size w w' := by
  obtain ⟨ms, e1, h1⟩ := hr
  obtain ⟨ns, e2, h2⟩ := hr'
  have l1 : rs.length = ms.length := by rw [← e1, List.length_map]
  have l2 : rs.length = ns.length := by rw [← e2, List.length_map]
  have := eqInt64SS_k A A' c c' ms ns w h1 h2 (e1.trans e2.symm) (by rw [← l1]; exact hs.1) (fun m hm => hs.2 m.ns (by rw [← e1]; exact List.mem_map.2 ⟨m, hm, rfl⟩))
  rw [← l1, ← l2] at this
  exact this

set_option maxHeartbeats 2000000 in
theorem heldInt64SS_any (A : Option Addr) (c : Nat) (ms : List RowI) (w : World) (hr : RdJ w w.heap.size A (mkRows 1 ms)) (hm : ms.length ≤ 1048576) (hp : ∀ m ∈ ms, m.ns.length ≤ 1048576) :
    Calls Try.prog 17 #[.slice A ms.length c, .int .i64 1] w fun e w' => e = .returned (.int .i64 (kI 1 (ms.map RowI.ns))) ∧ Below w.heap.size w w' := by
  have HK : Hid (∀ j, j ≤ ms.length → 1 ≤ kI 1 ((ms.map RowI.ns).take j) ∧ kI 1 ((ms.map RowI.ns).take j) ≤ 1 + 1048576 * j) := fun j hj => by
    have := kI_bd ((ms.map RowI.ns).take j) 1 fun x hx => by
      obtain ⟨m, hm', rfl⟩ := List.mem_map.1 (List.mem_of_mem_take hx)
      exact hp m hm'
    rw [List.length_take, List.length_map] at this
    rw [show min j ms.length = j by omega] at this
    exact this
  have Hp := Lib.hid hp; clear hp
  have Hr := Lib.hid hr; clear hr
  go_enter Try.func17, Try.ntmps17
  go_wp2_with fail
  go_loopw [1, 5] (fun kk i wr => ∃ j : Nat, j ≤ ms.length ∧ i = .int .i64 j ∧ kk = .int .i64 (kI 1 ((ms.map RowI.ns).take j)) ∧ Below w.heap.size w wr) (fun _ i _ => ms.length - (intOf i).toNat)
  case atStart => exact ⟨0, Nat.zero_le _, rfl, rfl, Below.refl _ _⟩
  case round =>
    obtain ⟨j, hj, rfl, rfl, hb⟩ := hrel
    have hkb := HK.out j hj
    by_cases hlt : j < ms.length
    · have hx : ms[j]? = some ms[j] := List.getElem?_eq_getElem hlt
      have hxm := mkRows_at ms 1 j _ hx
      obtain ⟨b, o, hA, hB, h0⟩ := (Hr.out.1.below hb).at1 hxm rfl
      subst hA
      rw [Nat.mul_one] at h0
      have hin := ((Hr.out.2 _ (List.mem_of_getElem? hxm)).below hb).more hb.size
      have hmem := List.mem_of_getElem? hx
      have HE : Hid (kI 1 ((ms.map RowI.ns).take (j + 1)) = kI 1 ((ms.map RowI.ns).take j) + (ms[j]).ns.length) := by
        unfold Hid
        rw [List.take_succ_eq_append_getElem (by rw [List.length_map]; omega), kI_snoc, List.getElem_map]
      generalize ms[j] = t at h0 hin hmem HE
      clear hx hxm
      have htl := Hp.out t hmem
      generalize kI 1 ((ms.map RowI.ns).take j) = q at hkb HE h0 hin ⊢
      have hip : Rd wr wr.heap.size 1 nC t.A (markN q t.ns.length) := hin
      simp only [markN_len] at h0
      clear hin
      go_wp2_with fail
      refine (heldInt64S_any t.A t.c t.ns.length q _ hip htl (by omega) (by omega)).mono ?_
      rintro e w3 ⟨rfl, hb3⟩
      go_wp2_with fail
      exact ⟨⟨j + 1, by omega, by go_num, by rw [HE.out], bthen hb hb3⟩, by simp [intOf]; omega⟩
    · obtain rfl : j = ms.length := by omega
      have HT : Hid ((ms.map RowI.ns).take ms.length = ms.map RowI.ns) := List.take_of_length_le (by rw [List.length_map]; omega)
      rw [HT.out]
      go_wp2_with fail
      go_ret
      exact ⟨rfl, hb⟩
theorem heldInt64SS_r (A : Option Addr) (c : Nat) (rs : List (List Int)) (lo hi : Nat) (w : World) (h : MkI w lo hi A rs) (hhi : hi ≤ w.heap.size) (hs : SmallI rs) :
    Calls Try.prog 17 #[.slice A rs.length c, .int .i64 1] w fun e w' => e = .returned (.int .i64 (kI 1 rs)) ∧ Below w.heap.size w w' := by
  obtain ⟨ms, rfl, h⟩ := h
  obtain ⟨h1, h2⟩ := hs
  rw [List.length_map] at h1 ⊢
  exact heldInt64SS_any A c ms w (h.rd.more hhi) h1 (fun m hm => h2 m.ns (List.mem_map.2 ⟨m, hm, rfl⟩))
end Go.Proofs.Ytioblfbhjkkgoaa
