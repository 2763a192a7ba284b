/- DERIVED. Results that are slices of parts: compared, marked, held. -/
import Derived.Test.YtnnamnmmpdgjfaaInner
namespace Go.Proofs.Ytnnamnmmpdgjfaa
set_option maxRecDepth 100000
open Go.RowKit

def mkPart (k : Int) (m : PartM) : PartM := ⟨mkT k, k + 1, m.pA, m.pc, marksOf portMk 3 (k + 1 + 1) m.ports.length, k + 1 + 1 + 3 * m.ports.length, k + 1 + 1 + 3 * m.ports.length + 1⟩
def kNext (k : Int) (x : PartT) : Int := k + 1 + 1 + 3 * x.ports.length + 1 + 1
def kV (k : Int) : List PartT → Int
  | [] => k
  | x :: xs => kV (kNext k x) xs
def mkParts (k : Int) : List PartM → List PartM
  | [] => []
  | m :: ms => mkPart k m :: mkParts (kNext k m.val) ms
theorem mkParts_len : ∀ (ms : List PartM) (k : Int), (mkParts k ms).length = ms.length
  | [], _ => rfl
  | m :: ms, k => by simp [mkParts, mkParts_len ms]
theorem kV_snoc : ∀ (xs : List PartT) (k : Int) (x : PartT), kV k (xs ++ [x]) = kNext (kV k xs) x
  | [], _, _ => rfl
  | _ :: ys, _, x => kV_snoc ys _ x
theorem mkParts_at : ∀ (ms : List PartM) (k : Int) (j : Nat) (m : PartM), ms[j]? = some m → (mkParts k ms)[j]? = some (mkPart (kV k ((ms.map PartM.val).take j)) m)
  | [], _, j, m, h => by simp at h
  | n :: ns, k, 0, m, h => by
    simp at h
    subst h
    simp [mkParts, kV]
  | n :: ns, k, j + 1, m, h => by
    simp at h
    simpa [mkParts, kV] using mkParts_at ns _ j m h
theorem kV_bd : ∀ (xs : List PartT) (k : Int), (∀ x ∈ xs, x.ports.length ≤ 1048576) → k ≤ kV k xs ∧ kV k xs ≤ k + 4194304 * xs.length
  | [], k, _ => by simp [kV]
  | x :: xs, k, h => by
    have h1 := h x (List.mem_cons_self)
    have ih := kV_bd xs (kNext k x) fun y hy => h y (List.mem_cons_of_mem _ hy)
    simp only [kV, List.length_cons]
    unfold kNext at ih ⊢
    omega
theorem mkPart_len (k : Int) (m : PartM) : (mkPart k m).ports.length = m.ports.length := marksOf_len _ _ _ _
/-- Parts that read as their marks. -/
def MkP (w : World) (lo hi : Nat) (A : Option Addr) (vs : List PartT) : Prop := ∃ ms : List PartM, ms.map PartM.val = vs ∧ FlatQ w lo hi A (mkParts 1 ms)
theorem MkP.only {w w' : World} {lo hi a b : Nat} {A : Option Addr} {vs : List PartT} (h : MkP w lo hi A vs) (hb : Only a b w w') (hs : hi ≤ w.heap.size) (hd : hi ≤ a ∨ b ≤ lo) : MkP w' lo hi A vs := by
  obtain ⟨ms, e, h⟩ := h
  exact ⟨ms, e, h.only hb hs hd⟩
theorem MkP.below {w w' : World} {lo hi B : Nat} {A : Option Addr} {vs : List PartT} (h : MkP w lo hi A vs) (hb : Below B w w') (hB : hi ≤ B) : MkP w' lo hi A vs := by
  obtain ⟨ms, e, h⟩ := h
  exact ⟨ms, e, h.below hb hB⟩
theorem Rd.firsts {α : Type} {w w' : World} {hi sz g j : Nat} {f : α → List Value} {ys : List α} (h : Rd w hi sz f (some ⟨g, 0, none⟩) (ys.take j)) (hl : ∀ x, (f x).length = sz) (hk : ∀ o, o < j * sz → w'.cell? ⟨g, o, none⟩ = w.cell? ⟨g, o, none⟩) : Rd w' hi sz f (some ⟨g, 0, none⟩) (ys.take j) := fun hx => by
  obtain ⟨b, o, e, hB, hc⟩ := h hx
  simp only [Option.some.injEq, Addr.mk.injEq] at e
  obtain ⟨rfl, rfl, _⟩ := e
  refine ⟨g, 0, rfl, hB, fun k x hk' i v hi' => ?_⟩
  have hkj : k < j := by
    have := (List.getElem?_eq_some_iff.1 hk').1
    rw [List.length_take] at this
    omega
  have hil : i < sz := by
    have := (List.getElem?_eq_some_iff.1 hi').1
    rw [hl] at this
    exact this
  have hmul : (k + 1) * sz ≤ j * sz := Nat.mul_le_mul_right sz hkj
  rw [Nat.add_mul, Nat.one_mul] at hmul
  rw [hk _ (by omega)]
  exact hc k x hk' i v hi'

set_option maxHeartbeats 2000000 in
theorem markPartS_strong (A : Option Addr) (c : Nat) (ms : List PartM) (lo hi : Nat) (w : World) (hf : FlatQ w lo hi A ms) (hm : ms.length ≤ 1048576) (hp : ∀ m ∈ ms, m.ports.length ≤ 1048576) :
    Calls Try.prog 29 #[.slice A ms.length c, .int .i64 1] w fun e w' => e = .returned (.int .i64 (kV 1 (ms.map PartM.val))) ∧ Only lo hi w w' ∧ FlatQ w' lo hi A (mkParts 1 ms) := by
  have hroom := hf.1.room
  have Hc : Hid (∀ g, A = some ⟨g, 0, none⟩ → ∀ j m, ms[j]? = some m → w.cell? ⟨g, j * 5 + 2, none⟩ = some (.slice m.pA m.ports.length m.pc)) := by
    intro g e j m hj
    subst e
    obtain ⟨g', m', e', _, _, _, _, hcell⟩ := hf.1 (by have := (List.getElem?_eq_some_iff.1 hj).1; omega)
    simp only [Option.some.injEq, Addr.mk.injEq] at e'
    obtain ⟨rfl, _, _⟩ := e'
    exact hcell j m hj 2 _ rfl
  have Hi : Hid (∀ m ∈ ms, Room w lo hi 60 3 m.pA m.ports.length) := fun m hm => (hf.2.flat m hm).room
  have Hfar := Lib.hid hf.2.far
  have Hcap := Lib.hid hf.2.cap
  have Hap : Hid (∀ (i j : Nat) (m n : PartM), i < j → ms[i]? = some m → ms[j]? = some n → 0 < m.ports.length → 0 < n.ports.length → m.pA ≠ n.pA) := fun i j m n hij h1 h2 => by
    obtain ⟨hi', e1⟩ := List.getElem?_eq_some_iff.1 h1
    obtain ⟨hj', e2⟩ := List.getElem?_eq_some_iff.1 h2
    have := List.pairwise_iff_getElem.1 hf.2.apart i j hi' hj' hij
    rw [e1, e2] at this
    exact this
  have HA := Lib.hid hf.2.apart
  have Hp := Lib.hid hp
  have HK : Hid (∀ j, j ≤ ms.length → 1 ≤ kV 1 ((ms.map PartM.val).take j) ∧ kV 1 ((ms.map PartM.val).take j) ≤ 1 + 4194304 * j) := fun j hj => by
    have := kV_bd ((ms.map PartM.val).take j) 1 fun x hx => by
      obtain ⟨m, hm', rfl⟩ := List.mem_map.1 (List.mem_of_mem_take hx)
      exact hp m hm'
    rw [List.length_take, List.length_map] at this
    rw [show min j ms.length = j by omega] at this
    exact this
  clear hf hp
  go_enter Try.func29, Try.ntmps29
  go_wp2_with fail
  go_loopw [1, 5] (fun kk i wr => ∃ j : Nat, j ≤ ms.length ∧ i = .int .i64 j ∧ kk = .int .i64 (kV 1 ((ms.map PartM.val).take j)) ∧ Only lo hi w wr ∧ Room wr lo hi 29 5 A ms.length ∧ (∀ g, A = some ⟨g, 0, none⟩ → ∀ j m, ms[j]? = some m → wr.cell? ⟨g, j * 5 + 2, none⟩ = some (.slice m.pA m.ports.length m.pc)) ∧ (∀ m ∈ ms, Room wr lo hi 60 3 m.pA m.ports.length) ∧ Rd wr hi 5 partC A ((mkParts 1 ms).take j) ∧ (∀ i m, i < j → ms[i]? = some m → Flat wr lo hi 60 3 portC m.pA (mkPart (kV 1 ((ms.map PartM.val).take i)) m).ports)) (fun _ i _ => ms.length - (intOf i).toNat)
  case atStart => exact ⟨0, Nat.zero_le _, rfl, rfl, Only.refl _ _ _, hroom, Hc.out, Hi.out, Rd.nothing, fun i m h => by omega⟩
  case round =>
    obtain ⟨j, hj, rfl, rfl, ho, hrm, hcc, hin, hrd, hmk⟩ := hrel
    have Hcc := Lib.hid hcc; clear hcc
    have Hin := Lib.hid hin; clear hin
    have Hrd := Lib.hid hrd; clear hrd
    have Hmk := Lib.hid hmk; clear hmk
    have hsz := ho.size
    have hkb := HK.out j hj
    by_cases hlt : j < ms.length
    · obtain ⟨g, m, rfl, hl, hg, hrow, hm2⟩ := hrm (by omega)
      have hx : ms[j]? = some ms[j] := List.getElem?_eq_getElem hlt
      have hc2 := Hcc.out g rfl j _ hx
      have hmem := List.mem_of_getElem? hx
      generalize ms[j] = t at hc2 hmem hx
      have ht1 := Hin.out t hmem
      have HT2 := Lib.hid (fun hp : 0 < t.ports.length => fun g' => Hfar.out t hmem hp g')
      have htl := Hp.out t hmem
      have HT1 := Lib.hid ht1; clear ht1
      have HE : Hid (kV 1 ((ms.map PartM.val).take (j + 1)) = kNext (kV 1 ((ms.map PartM.val).take j)) t.val) := by
        unfold Hid
        rw [List.take_succ_eq_append_getElem (by rw [List.length_map]; omega), kV_snoc]
        congr 1
        rw [List.getElem_map]
        have := List.getElem?_eq_some_iff.1 hx
        rw [this.2]
      have HAt := Lib.hid (mkParts_at ms 1 j t hx)
      have Hx := Lib.hid hx; clear hx
      generalize hq : kV 1 ((ms.map PartM.val).take j) = q at hkb HE HAt ⊢
      have Hq := Lib.hid hq; clear hq
      go_wp2_with fail
      refine (markText_any _ (by omega) (by omega) _).mono ?_
      rintro e w1 ⟨rfl, hb1⟩
      have hrow1 := hrow.next hb1
      obtain ⟨z0, hz0⟩ := hrow1.cell (j := j * 5) (by omega)
      have hf0 := hrow1.frozen (j * 5)
      obtain ⟨z1, hz1⟩ := hrow1.cell (j := j * 5 + 1) (by omega)
      have hf1 := hrow1.frozen (j * 5 + 1)
      have hc21 : w1.cell? ⟨g, j * 5 + 2, none⟩ = some (.slice t.pA t.ports.length t.pc) := (hb1.cell (p := ⟨g, j * 5 + 2, none⟩) hrow.lt).trans hc2
      have hs1 := hb1.size
      go_wp2_with fail
      have haptA : 0 < t.ports.length → Apart t.pA g := fun hpos => by
        obtain ⟨g', _, e', _⟩ := HT1.out hpos
        intro b o eb hbg
        have := HT2.out hpos g' e' g 0 rfl
        rw [e'] at eb
        simp only [Option.some.injEq, Addr.mk.injEq] at eb
        omega
      -- the block of the ports alone
      have htight : ∃ a b, ¬ (a ≤ g ∧ g < b) ∧ Room wr a b 60 3 t.pA t.ports.length ∧ (∀ w1 w2, Only a b w1 w2 → Only lo hi w1 w2) ∧ (∀ g', ¬ (0 < t.ports.length ∧ t.pA = some ⟨g', 0, none⟩) → ¬ (a ≤ g' ∧ g' < b)) ∧ (0 < t.ports.length → lo ≤ a ∧ b ≤ hi) := by
        by_cases hn : 0 < t.ports.length
        · obtain ⟨g', m', e', h1, h2, h3, h4⟩ := HT1.out hn
          have := haptA hn g' 0 e'
          refine ⟨g', g' + 1, by omega, fun _ => ⟨g', m', e', Nat.le_refl _, by omega, h3, h4⟩, fun _ _ ho => ho.mono h1 (by omega), fun g2 h => ?_, fun _ => ⟨h1, by omega⟩⟩
          intro hc
          have : g2 = g' := by omega
          subst this
          exact h ⟨hn, e'⟩
        · exact ⟨0, 0, by omega, fun hp => absurd hp hn, fun _ _ ho => ⟨ho.os, ho.tape, ho.output, ho.size, fun i hi _ => ho.block i hi (by omega)⟩, fun _ _ h => by omega, fun h => absurd h hn⟩
      obtain ⟨a, b, hab, hrt, hmono, hother, hin2⟩ := htight
      refine (markPortS_any t.pA t.pc t.ports.length (q + 1 + 1) a b _ (hrt.keep fun _ _ h => ((h.next hb1).setCell _ _).setCell _ _) htl (by omega) (by omega)).mono ?_
      rintro e w3 ⟨⟨rfl, ho3, hfl⟩, hrk⟩
      have hrow2 := (hrow1.setCell ⟨g, j * 5, none⟩ (.string (mkT q))).setCell ⟨g, j * 5 + 1, none⟩ (.int .i64 (q + 1))
      have hrow3 := hrk _ _ _ hrow2
      obtain ⟨z3, hz3⟩ := hrow3.cell (j := j * 5 + 3) (by omega)
      have hf3 := hrow3.frozen (j * 5 + 3)
      obtain ⟨z4, hz4⟩ := hrow3.cell (j := j * 5 + 4) (by omega)
      have hf4 := hrow3.frozen (j * 5 + 4)
      have hk3 : Hid (∀ o v, o ≠ j * 5 → o ≠ j * 5 + 1 → wr.cell? ⟨g, o, none⟩ = some v → w3.cell? ⟨g, o, none⟩ = some v) := fun o v h1 h2 h =>
        ho3.cell hab (by rw [setCell_other (by omega), setCell_other (by omega)]; exact (hb1.cell (p := ⟨g, o, none⟩) hrow.lt).trans h)
      have hc30 : Hid (w3.cell? ⟨g, j * 5, none⟩ = some (.string (mkT q))) := ho3.cell hab (by rw [setCell_other (by omega)]; exact setCell_same hz0)
      have hc31 : Hid (w3.cell? ⟨g, j * 5 + 1, none⟩ = some (.int .i64 (q + 1))) := ho3.cell hab (setCell_same (by rw [setCell_other (by omega)]; exact hz1))
      have hrk3 : Hid (∀ g' E m', Row wr g' E m' → Row w3 g' E m') := fun _ _ _ h => hrk _ _ _ (((h.next hb1).setCell _ _).setCell _ _)
      have ho13 : Only lo hi w w3 := (((ho.trans (Only.of_below hb1)).trans (Only.setCell (p := ⟨g, j * 5, none⟩) ⟨hl, hg⟩ _)).trans (Only.setCell (p := ⟨g, j * 5 + 1, none⟩) ⟨hl, hg⟩ _)).trans (hmono _ _ ho3)
      -- another block of this call's stays
      have hstay : Hid (∀ g', g' ≠ g → g' < wr.heap.size → ¬ (0 < t.ports.length ∧ t.pA = some ⟨g', 0, none⟩) → ∀ u3 u4, ((w3.setCell ⟨g, j * 5 + 3, none⟩ u3).setCell ⟨g, j * 5 + 4, none⟩ u4).heap[g']? = wr.heap[g']?) := fun g' hne hlt' hno u3 u4 => by
        rw [Below.heap_setCell _ _ _ _ (by exact hne), Below.heap_setCell _ _ _ _ (by exact hne), ho3.block g' (by simp [World.setCell]; omega) (hother g' hno), Below.heap_setCell _ _ _ _ (by exact hne), Below.heap_setCell _ _ _ _ (by exact hne)]
        exact hb1.block g' hlt'
      have hwlt := hrow.lt
      clear hrow1 hz0 hf0 hz1 hf1 hc21 hrow2 hrt hk3
      have hk3 : Hid (∀ o v, o ≠ j * 5 → o ≠ j * 5 + 1 → wr.cell? ⟨g, o, none⟩ = some v → w3.cell? ⟨g, o, none⟩ = some v) := fun o v h1 h2 h =>
        ho3.cell hab (by rw [setCell_other (by omega), setCell_other (by omega)]; exact (hb1.cell (p := ⟨g, o, none⟩) hrow.lt).trans h)
      have hc32 : Hid (w3.cell? ⟨g, j * 5 + 2, none⟩ = some (.slice t.pA t.ports.length t.pc)) := hk3.out _ _ (by omega) (by omega) hc2
      have Hfl := Lib.hid hfl; clear hfl hc2 hrk
      go_wp2_with fail
      refine ⟨⟨j + 1, by omega, by go_num, by rw [HE.out]; rfl, (ho13.trans (Only.setCell (p := ⟨g, j * 5 + 3, none⟩) ⟨hl, hg⟩ _)).trans (Only.setCell (p := ⟨g, j * 5 + 4, none⟩) ⟨hl, hg⟩ _), fun _ => ⟨g, m, rfl, hl, hg, (hrow3.setCell _ _).setCell _ _, hm2⟩, ?_, fun m' hm' => (Hin.out m' hm').keep fun _ _ h => ((hrk3.out _ _ _ h).setCell _ _).setCell _ _, ?_, ?_⟩, by simp [intOf]; omega⟩
      · intro g' e j' m' hj'
        simp only [Option.some.injEq, Addr.mk.injEq] at e
        obtain ⟨rfl, _, _⟩ := e
        rw [setCell_other (by omega), setCell_other (by omega)]
        exact hk3.out _ _ (by omega) (by omega) (Hcc.out g rfl j' m' hj')
      · refine Rd.snoc (x := mkPart q t) (Hrd.out.firsts partC_len fun o ho' => ?_) hg HAt.out fun i v hi' => ?_
        · rw [setCell_other (by omega), setCell_other (by omega)]
          obtain ⟨v, hv⟩ := hrow.cell (j := o) (by omega)
          rw [hv]
          exact hk3.out o v (by omega) (by omega) hv
        · match i with
          | 0 =>
            obtain rfl : Value.string (mkT q) = v := by simpa [partC, mkPart] using hi'
            rw [setCell_other (by omega), setCell_other (by omega)]
            exact hc30.out
          | 1 =>
            obtain rfl : Value.int .i64 (q + 1) = v := by simpa [partC, mkPart] using hi'
            rw [setCell_other (by omega), setCell_other (by omega)]
            exact hc31.out
          | 2 =>
            obtain rfl : Value.slice t.pA t.ports.length t.pc = v := by simpa [partC, mkPart, marksOf_len] using hi'
            rw [setCell_other (by omega), setCell_other (by omega)]
            exact hc32.out
          | 3 =>
            obtain rfl : Value.int .i64 (q + 1 + 1 + 3 * t.ports.length) = v := by simpa [partC, mkPart] using hi'
            rw [setCell_other (by omega)]
            exact setCell_same hz3
          | 4 =>
            obtain rfl : Value.int .i64 (q + 1 + 1 + 3 * t.ports.length + 1) = v := by simpa [partC, mkPart] using hi'
            exact setCell_same (by rw [setCell_other (by omega)]; exact hz4)
          | i + 5 => simp [partC] at hi'
      · intro i m' hi' hm'
        by_cases e : i = j
        · subst e
          obtain rfl : t = m' := by
            have := Hx.out
            rw [hm'] at this
            exact (Option.some.inj this).symm
          rw [Hq.out]
          refine Flat.keepAt (w := w3) (fun hpos => ?_) fun g' eg hpos => ?_
          · rw [mkPart_len] at hpos
            exact (Hfl.out.mono (hin2 hpos).1 (hin2 hpos).2) (by rw [marksOf_len]; exact hpos)
          · rw [mkPart_len] at hpos
            have := haptA hpos g' 0 eg
            rw [Below.heap_setCell _ _ _ _ (by exact this), Below.heap_setCell _ _ _ _ (by exact this)]
        · refine (Hmk.out i m' (by omega) hm').keepAt fun g' eg hpos => ?_
          rw [mkPart_len] at hpos
          obtain ⟨g2, _, e2, _, _, h3, _⟩ := Hin.out m' (List.mem_of_getElem? hm') hpos
          obtain rfl : g2 = g' := by
            rw [eg] at e2
            simp only [Option.some.injEq, Addr.mk.injEq] at e2
            exact e2.1.symm
          refine hstay.out g2 ?_ h3.lt ?_ _ _
          · intro h
            exact Hfar.out m' (List.mem_of_getElem? hm') hpos g2 e2 g 0 rfl h.symm
          · rintro ⟨h1, h2⟩
            exact Hap.out i j m' t (by omega) hm' Hx.out hpos h1 (e2.trans h2.symm)
    · obtain rfl : j = ms.length := by omega
      have HT : Hid ((ms.map PartM.val).take ms.length = ms.map PartM.val) := List.take_of_length_le (by rw [List.length_map]; omega)
      rw [HT.out]
      go_wp2_with fail
      go_ret
      refine ⟨rfl, ho, ?_, ?_⟩
      · have := Hrd.out
        rw [List.take_of_length_le (by rw [mkParts_len]; omega)] at this
        exact hrm.flat this (mkParts_len _ _)
      · have hget : ∀ m' ∈ mkParts 1 ms, ∃ (i : Nat) (m : PartM), ms[i]? = some m ∧ m' = mkPart (kV 1 ((ms.map PartM.val).take i)) m := fun m' hm' => by
          obtain ⟨i, hi'⟩ := List.mem_iff_getElem?.1 hm'
          have hil := (List.getElem?_eq_some_iff.1 hi').1
          rw [mkParts_len] at hil
          have := mkParts_at ms 1 i _ (List.getElem?_eq_getElem hil)
          rw [hi'] at this
          exact ⟨i, _, List.getElem?_eq_getElem hil, Option.some.inj this⟩
        refine ⟨fun m' hm' => ?_, fun m' hm' => ?_, fun m' hm' hp' g' eg => ?_, ?_⟩
        · obtain ⟨i, m, h1, rfl⟩ := hget m' hm'
          exact Hmk.out i m (List.getElem?_eq_some_iff.1 h1).1 h1
        · obtain ⟨i, m, h1, rfl⟩ := hget m' hm'
          rw [mkPart_len]
          exact Hcap.out m (List.mem_of_getElem? h1)
        · obtain ⟨i, m, h1, rfl⟩ := hget m' hm'
          rw [mkPart_len] at hp'
          exact Hfar.out m (List.mem_of_getElem? h1) hp' g' eg
        · rw [List.pairwise_iff_getElem]
          intro i j hi' hj' hij h1 h2
          rw [mkParts_len] at hi' hj'
          have e1 := mkParts_at ms 1 i _ (List.getElem?_eq_getElem hi')
          have e2 := mkParts_at ms 1 j _ (List.getElem?_eq_getElem hj')
          rw [List.getElem?_eq_getElem (by rw [mkParts_len]; exact hi')] at e1
          rw [List.getElem?_eq_getElem (by rw [mkParts_len]; exact hj')] at e2
          rw [Option.some.inj e1] at h1 ⊢
          rw [Option.some.inj e2] at h2 ⊢
          rw [mkPart_len] at h1 h2
          exact Hap.out i j ms[i] ms[j] hij (List.getElem?_eq_getElem hi') (List.getElem?_eq_getElem hj') h1 h2

theorem markPartS_r (A : Option Addr) (c : Nat) (vs : List PartT) (lo hi : Nat) (w : World) (hf : FlatR w lo hi A vs) (hs : SmallV vs) :
    Calls Try.prog 29 #[.slice A vs.length c, .int .i64 1] w fun e w' => e = .returned (.int .i64 (kV 1 vs)) ∧ Only lo hi w w' ∧ MkP w' lo hi A vs := by
  obtain ⟨ms, rfl, h⟩ := hf
  obtain ⟨h1, h2⟩ := hs
  rw [List.length_map] at h1 ⊢
  refine (markPartS_strong A c ms lo hi w h h1 (fun m hm => (h2 m.val (List.mem_map.2 ⟨m, hm, rfl⟩)).2)).mono ?_
  rintro e w' ⟨rfl, h3, h4⟩
  exact ⟨rfl, h3, ms, rfl, h4⟩
theorem eqPartS_r (A A' : Option Addr) (c c' : Nat) (vs : List PartT) (w : World) (hr : RdV w w.heap.size A vs) (hr' : RdV w w.heap.size A' vs) (hs : SmallV vs) :
    Calls Try.prog 24 #[.slice A vs.length c, .slice A' vs.length c'] w fun e w' => e = .returned (.bool true) ∧ Below w.heap.size w w' := eqPartS_k A A' c c' vs w hr hr' hs

set_option maxHeartbeats 2000000 in
theorem heldPartS_any (A : Option Addr) (c : Nat) (ms : List PartM) (w : World) (hr : RdP w w.heap.size A (mkParts 1 ms)) (hm : ms.length ≤ 1048576) (hp : ∀ m ∈ ms, m.ports.length ≤ 1048576) :
    Calls Try.prog 31 #[.slice A ms.length c, .int .i64 1] w fun e w' => e = .returned (.int .i64 (kV 1 (ms.map PartM.val))) ∧ Below w.heap.size w w' := by
  have HK : Hid (∀ j, j ≤ ms.length → 1 ≤ kV 1 ((ms.map PartM.val).take j) ∧ kV 1 ((ms.map PartM.val).take j) ≤ 1 + 4194304 * j) := fun j hj => by
    have := kV_bd ((ms.map PartM.val).take j) 1 fun x hx => by
      obtain ⟨m, hm', rfl⟩ := List.mem_map.1 (List.mem_of_mem_take hx)
      exact hp m hm'
    rw [List.length_take, List.length_map] at this
    rw [show min j ms.length = j by omega] at this
    exact this
  have Hp := Lib.hid hp; clear hp
  have Hr := Lib.hid hr; clear hr
  go_enter Try.func31, Try.ntmps31
  go_wp2_with fail
  go_loopw [1, 5] (fun kk i wr => ∃ j : Nat, j ≤ ms.length ∧ i = .int .i64 j ∧ kk = .int .i64 (kV 1 ((ms.map PartM.val).take j)) ∧ Below w.heap.size w wr) (fun _ i _ => ms.length - (intOf i).toNat)
  case atStart => exact ⟨0, Nat.zero_le _, rfl, rfl, Below.refl _ _⟩
  case round =>
    obtain ⟨j, hj, rfl, rfl, hb⟩ := hrel
    have hkb := HK.out j hj
    by_cases hlt : j < ms.length
    · have hx : ms[j]? = some ms[j] := List.getElem?_eq_getElem hlt
      have hxm := mkParts_at ms 1 j _ hx
      obtain ⟨b, o, rfl, hB, h0, h1, h2, h3, h4⟩ := (Hr.out.1.below hb).at5 hxm rfl
      have hin := ((Hr.out.2 _ (List.mem_of_getElem? hxm)).below hb).more hb.size
      have hmem := List.mem_of_getElem? hx
      have HE : Hid (kV 1 ((ms.map PartM.val).take (j + 1)) = kNext (kV 1 ((ms.map PartM.val).take j)) (ms[j]).val) := by
        unfold Hid
        rw [List.take_succ_eq_append_getElem (by rw [List.length_map]; omega), kV_snoc]
        congr 1
        rw [List.getElem_map]
      generalize ms[j] = t at h0 h1 h2 h3 h4 hin hmem HE
      clear hx hxm
      have htl := Hp.out t hmem
      generalize kV 1 ((ms.map PartM.val).take j) = q at hkb HE h0 h1 h2 h3 h4 hin ⊢
      have hip : Rd wr wr.heap.size 3 portC t.pA (marksOf portMk 3 (q + 1 + 1) t.ports.length) := hin.1
      simp only [mkPart, marksOf_len] at h0 h1 h2 h3 h4
      clear hin
      go_wp2_with fail
      have d0 : ∀ v : Later wr, v.w.cell? ⟨b, o + j * 5, none⟩ = some (.string (mkT q)) := Later.cell h0
      refine wp_region_later (by kernel_rfl) (by kernel_rfl) ?_
      repeat (go_big_quiet_step ((go_at_call 74; exact Later.call (markText_any _ (by omega) (by omega) _))))
      refine wpQuiet_nil ?_
      rintro _ ⟨⟨w2, hb2⟩, rfl⟩
      clear d0 h0
      have h1' := (hb2.cell (p := ⟨b, o + j * 5 + 1, none⟩) (World.block_lt_of_cell? wr _ h1)).trans h1
      have h2' := (hb2.cell (p := ⟨b, o + j * 5 + 2, none⟩) (World.block_lt_of_cell? wr _ h2)).trans h2
      have hip2 := hip.next hb2
      go_wp2_with fail
      refine (heldPortS_any t.pA t.pc t.ports.length (q + 1 + 1) _ hip2 htl (by omega) (by omega)).mono ?_
      rintro e w3 ⟨rfl, hb3⟩
      have hb23 := bthen hb2 hb3
      have h3' := (hb23.cell (p := ⟨b, o + j * 5 + 3, none⟩) (World.block_lt_of_cell? wr _ h3)).trans h3
      have h4' := (hb23.cell (p := ⟨b, o + j * 5 + 4, none⟩) (World.block_lt_of_cell? wr _ h4)).trans h4
      clear h1 h2 h3 h4 h1' h2'
      go_wp2_with fail
      exact ⟨⟨j + 1, by omega, by go_num, by rw [HE.out]; rfl, bthen hb hb23⟩, by simp [intOf]; omega⟩
    · obtain rfl : j = ms.length := by omega
      have HT : Hid ((ms.map PartM.val).take ms.length = ms.map PartM.val) := List.take_of_length_le (by rw [List.length_map]; omega)
      rw [HT.out]
      go_wp2_with fail
      go_ret
      exact ⟨rfl, hb⟩
theorem heldPartS_r (A : Option Addr) (c : Nat) (vs : List PartT) (lo hi : Nat) (w : World) (h : MkP w lo hi A vs) (hhi : hi ≤ w.heap.size) (hs : SmallV vs) :
    Calls Try.prog 31 #[.slice A vs.length c, .int .i64 1] w fun e w' => e = .returned (.int .i64 (kV 1 vs)) ∧ Below w.heap.size w w' := by
  obtain ⟨ms, rfl, h⟩ := h
  obtain ⟨h1, h2⟩ := hs
  rw [List.length_map] at h1 ⊢
  exact heldPartS_any A c ms w (h.rd.more hhi) h1 (fun m hm => (h2 m.val (List.mem_map.2 ⟨m, hm, rfl⟩)).2)
end Go.Proofs.Ytnnamnmmpdgjfaa
