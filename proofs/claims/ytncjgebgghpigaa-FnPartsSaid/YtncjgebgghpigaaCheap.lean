/- DERIVED. The cheapest part of a slot. By program (gcheap.py). -/
import Derived.Test.YtncjgebgghpigaaSlot
namespace Go.Proofs.Ytncjgebgghpigaa
set_option maxRecDepth 100000
open Go.RowKit

def priceAt (vs : List PartT) (n : Int) : Int := match vs[n.toNat]? with
  | some x => x.price
  | none => 0
theorem priceAt_eq {vs : List PartT} {j : Nat} {x : PartT} (h : vs[j]? = some x) : priceAt vs (j : Int) = x.price := by simp [priceAt, h]
def betterP (vs : List PartT) (b n : Int) : Int := if b < 0 ∨ priceAt vs n < priceAt vs b then n else b
/-- The first of the cheapest of these indices, or -1. -/
def bestOf (vs : List PartT) (L : List Int) : Int := L.foldl (betterP vs) (-1)
theorem bestOf_nil (vs : List PartT) : bestOf vs [] = -1 := rfl
theorem bestOf_snoc (vs : List PartT) (L : List Int) (n : Int) : bestOf vs (L ++ [n]) = betterP vs (bestOf vs L) n := by simp [bestOf]
theorem bestOf_cases (vs : List PartT) (slot : Int) : ∀ k, (idxTo (inSlot slot) vs k = [] ∧ bestOf vs (idxTo (inSlot slot) vs k) = -1) ∨ ∃ (j : Nat) (y : PartT), 0 < (idxTo (inSlot slot) vs k).length ∧ bestOf vs (idxTo (inSlot slot) vs k) = (j : Int) ∧ j < k ∧ vs[j]? = some y ∧ y.slot = slot
  | 0 => Or.inl ⟨rfl, rfl⟩
  | k + 1 => by
    have ih := bestOf_cases vs slot k
    unfold idxTo
    split
    · rename_i x hx
      split
      · rename_i hp
        have hp : x.slot = slot := by simpa [inSlot] using hp
        refine Or.inr ?_
        rw [bestOf_snoc]
        unfold betterP
        rcases ih with ⟨e1, e2⟩ | ⟨j, y, h0, h1, h2, h3, h4⟩
        · exact ⟨k, x, by simp, by rw [e2, if_pos (Or.inl (by omega))], by omega, hx, hp⟩
        · rw [h1]
          split
          · exact ⟨k, x, by simp, rfl, by omega, hx, hp⟩
          · exact ⟨j, y, by simp, rfl, by omega, h3, h4⟩
      · rcases ih with ih | ⟨j, y, h0, h1, h2, h3⟩
        · exact Or.inl ih
        · exact Or.inr ⟨j, y, h0, h1, by omega, h3⟩
    · rcases ih with ih | ⟨j, y, h0, h1, h2, h3⟩
      · exact Or.inl ih
      · exact Or.inr ⟨j, y, h0, h1, by omega, h3⟩
/-- The best of some first ones is one of them. -/
theorem bestOf_mem (vs : List PartT) {L : List Int} (hL : ∀ n ∈ L, 0 ≤ n) : ∀ k, 0 < k → k ≤ L.length → bestOf vs (L.take k) ∈ L
  | 0, h, _ => by omega
  | k + 1, _, h => by
    rw [List.take_succ_eq_append_getElem (by omega), bestOf_snoc]
    unfold betterP
    split
    · exact List.getElem_mem _
    · rename_i hn
      by_cases hk : k = 0
      · subst hk
        exact absurd (Or.inl (by simp [bestOf_nil])) hn
      · exact bestOf_mem vs hL k (by omega) (by omega)
def cheapR (vs : List PartT) (slot : Int) : Int × Int := if partsB vs = true then (if inB slot 0 7 = true then (if bestOf vs (idxTo (inSlot slot) vs vs.length) < 0 then (0, 4) else (bestOf vs (idxTo (inSlot slot) vs vs.length), 0)) else (0, 2)) else (0, 1)

set_option maxHeartbeats 1000000 in
theorem CheapestIn_impl (A : Option Addr) (c : Nat) (vs : List PartT) (slot : Int) (w : World) (hr : RdV w w.heap.size A vs) (hs : SmallV vs) :
    Calls Try.prog 15 #[.slice A vs.length c, .int .i64 slot] w fun e w' => e = .returned (.tuple #[.int .i64 (cheapR vs slot).1, .int .i64 (cheapR vs slot).2]) ∧ Below w.heap.size w w' := by
  have hJ := areParts_impl A c vs w hr hs.1 hs.2
  have hI := isSlot_any slot
  have hm := hs.1
  clear hs
  by_cases hp : partsB vs = true
  · rw [hp] at hJ
    have HJ := Lib.hid hJ; clear hJ
    by_cases hn : inB slot 0 7 = true
    · rw [hn] at hI
      have HI := Lib.hid hI; clear hI
      have HF : Hid (cheapR vs slot = if bestOf vs (idxTo (inSlot slot) vs vs.length) < 0 then (0, 4) else (bestOf vs (idxTo (inSlot slot) vs vs.length), 0)) := by unfold Hid cheapR; rw [if_pos hp, if_pos hn]
      clear hp hn
      generalize cheapR vs slot = R at HF ⊢
      go_enter Try.func15, Try.ntmps15
      go_wp2_with fail
      refine HJ.out.mono ?_
      rintro e w1 ⟨rfl, hb1⟩
      go_wp2_with (go_at_call 36; refine (HI.out _).mono ?_; rintro e w' ⟨rfl, rfl⟩)
      go_loopw [6, 17] (fun best i wr => ∃ k : Nat, k ≤ vs.length ∧ i = .int .i64 k ∧ best = .int .i64 (bestOf vs (idxTo (inSlot slot) vs k)) ∧ Below w.heap.size w wr) (fun _ i _ => vs.length - (intOf i).toNat)
      case atStart => exact ⟨0, Nat.zero_le _, rfl, rfl, hb1⟩
      case round =>
        obtain ⟨k, hk, rfl, rfl, hb⟩ := hrel
        have Hbc := Lib.hid (bestOf_cases vs slot k)
        by_cases hlt : k < vs.length
        · have hx : vs[k]? = some vs[k] := List.getElem?_eq_getElem hlt
          obtain ⟨b, o, rfl⟩ := hr.addr (by omega)
          obtain ⟨hB, pA, pc, q0, q1, q2, q3, q4, _, _⟩ := (hr.below hb).cells hx
          generalize vs[k] = t at q0 q1 q2 q3 q4 hx
          have Hx := Lib.hid hx; clear hx
          have hgb : wr.heap.size ≠ b := by have := hb.size; omega
          by_cases hsl : t.slot = slot
          · have HD : Hid (bestOf vs (idxTo (inSlot slot) vs (k + 1)) = betterP vs (bestOf vs (idxTo (inSlot slot) vs k)) (k : Int)) := by unfold Hid; rw [idxTo_yes Hx.out (by simp [inSlot, hsl]), bestOf_snoc]
            have hss : (t.slot == slot) = true := by simp [hsl]
            clear hsl
            rcases Hbc.out with ⟨_, e2⟩ | ⟨j, y, _, e2, hj, hy, _⟩
            · have HE : Hid (bestOf vs (idxTo (inSlot slot) vs (k + 1)) = (k : Int)) := by unfold Hid; rw [HD.out, e2]; unfold betterP; rw [if_pos (Or.inl (by omega))]
              rw [e2]
              clear e2 HD Hbc
              go_wp2_with fail
              go_quiet (fail)
              go_wp2_with fail
              exact ⟨⟨k + 1, by omega, by go_num, by rw [HE.out], below_drewN (hb.alloc hb.size _) _⟩, by simp [intOf]; omega⟩
            · obtain ⟨_, _, _, _, _, _, g3, _⟩ := (hr.below hb).cells hy
              have HP : Hid (priceAt vs (k : Int) = t.price ∧ priceAt vs (j : Int) = y.price) := ⟨priceAt_eq Hx.out, priceAt_eq hy⟩
              rw [e2]
              have HD2 : Hid (bestOf vs (idxTo (inSlot slot) vs (k + 1)) = if t.price < y.price then (k : Int) else (j : Int)) := by
                unfold Hid
                rw [HD.out, e2]
                unfold betterP
                rw [HP.out.1, HP.out.2]
                by_cases h : t.price < y.price
                · rw [if_pos (Or.inr h), if_pos h]
                · rw [if_neg (by omega), if_neg h]
              have hjl := (List.getElem?_eq_some_iff.1 hy).1
              clear e2 HD Hbc hy HP
              generalize y.price = yp at g3 HD2
              have hjn : decide ((j : Int) < 0) = false := by simp
              have g3' : (wr.alloc (.cells #[.string t.code, .int .i64 t.slot, .slice pA t.ports.length pc, .int .i64 t.price, .int .i64 t.grams] 27)).cell? ⟨b, o + j * 5 + 3, none⟩ = some (.int .i64 yp) := ((balloc wr (.cells #[.string t.code, .int .i64 t.slot, .slice pA t.ports.length pc, .int .i64 t.price, .int .i64 t.grams] 27)).cell (p := ⟨b, o + j * 5 + 3, none⟩) (by have := hb.size; show b < _; omega)).trans g3
              have q1' : (wr.alloc (.cells #[.string t.code, .int .i64 t.slot, .slice pA t.ports.length pc, .int .i64 t.price, .int .i64 t.grams] 27)).cell? ⟨wr.heap.size, 1, none⟩ = some (.int .i64 t.slot) := by go_simp
              have q3' : (wr.alloc (.cells #[.string t.code, .int .i64 t.slot, .slice pA t.ports.length pc, .int .i64 t.price, .int .i64 t.grams] 27)).cell? ⟨wr.heap.size, 3, none⟩ = some (.int .i64 t.price) := by go_simp
              have hbV := hb.alloc hb.size (.cells #[.string t.code, .int .i64 t.slot, .slice pA t.ports.length pc, .int .i64 t.price, .int .i64 t.grams] 27)
              by_cases hpr : t.price < yp
              · go_wp2_with fail
                generalize wr.alloc (.cells #[.string t.code, .int .i64 t.slot, .slice pA t.ports.length pc, .int .i64 t.price, .int .i64 t.grams] 27) = V at g3' q1' q3' hbV ⊢
                clear q0 q1 q2 q3 q4 g3
                go_quiet (fail)
                go_wp2_with fail
                exact ⟨⟨k + 1, by omega, by go_num, by rw [HD2.out, if_pos hpr], below_drewN hbV _⟩, by simp [intOf]; omega⟩
              · have hpr2 : decide (t.price < yp) = false := by simpa using hpr
                go_wp2_with fail
                generalize wr.alloc (.cells #[.string t.code, .int .i64 t.slot, .slice pA t.ports.length pc, .int .i64 t.price, .int .i64 t.grams] 27) = V at g3' q1' q3' hbV ⊢
                clear q0 q1 q2 q3 q4 g3
                go_quiet (fail)
                go_wp2_with fail
                exact ⟨⟨k + 1, by omega, by go_num, by rw [HD2.out, if_neg (by omega)], below_drewN hbV _⟩, by simp [intOf]; omega⟩
          · have HE : Hid (bestOf vs (idxTo (inSlot slot) vs (k + 1)) = bestOf vs (idxTo (inSlot slot) vs k)) := by unfold Hid; rw [idxTo_no Hx.out (by simp [inSlot, hsl])]
            have hss : (t.slot == slot) = false := by simp [hsl]
            clear hsl Hbc
            generalize bestOf vs (idxTo (inSlot slot) vs k) = bv at HE ⊢
            go_wp2_with fail
            go_quiet (fail)
            go_wp2_with fail
            exact ⟨⟨k + 1, by omega, by go_num, by rw [HE.out], below_drewN (hb.alloc hb.size _) _⟩, by simp [intOf]; omega⟩
        · obtain rfl : k = vs.length := by omega
          rcases Hbc.out with ⟨_, e2⟩ | ⟨j, y, _, e2, hj, hy, _⟩
          · rw [e2, if_pos (by omega)] at HF
            rw [e2]
            clear e2 Hbc
            go_wp2_with fail
            go_ret2
            exact ⟨by rw [HF.out]; rfl, hb⟩
          · rw [e2, if_neg (by omega)] at HF
            rw [e2]
            clear e2 Hbc hy
            go_wp2_with fail
            go_ret2
            exact ⟨by rw [HF.out]; rfl, hb⟩
    · have hn' : inB slot 0 7 = false := by simpa using hn
      rw [hn'] at hI
      have HI := Lib.hid hI; clear hI
      have HF : Hid (cheapR vs slot = (0, 2)) := by unfold Hid cheapR; rw [if_pos hp, if_neg hn]
      clear hp hn hn'
      generalize cheapR vs slot = R at HF ⊢
      go_enter Try.func15, Try.ntmps15
      go_wp2_with fail
      refine HJ.out.mono ?_
      rintro e w1 ⟨rfl, hb1⟩
      go_wp2_with (go_at_call 36; refine (HI.out _).mono ?_; rintro e w' ⟨rfl, rfl⟩)
      go_ret2
      exact ⟨by rw [HF.out]; rfl, hb1⟩
  · have hp' : partsB vs = false := by simpa using hp
    rw [hp'] at hJ
    have HJ := Lib.hid hJ; clear hJ
    have HF : Hid (cheapR vs slot = (0, 1)) := by unfold Hid cheapR; rw [if_neg hp]
    clear hp hp' hI
    generalize cheapR vs slot = R at HF ⊢
    go_enter Try.func15, Try.ntmps15
    go_wp2_with fail
    refine HJ.out.mono ?_
    rintro e w1 ⟨rfl, hb1⟩
    go_wp2_with fail
    go_ret2
    exact ⟨by rw [HF.out]; rfl, hb1⟩

set_option maxHeartbeats 1000000 in
theorem CheapestIn_spec (A : Option Addr) (c : Nat) (vs : List PartT) (slot : Int) (w : World) (hr : RdV w w.heap.size A vs) (hs : SmallV vs) :
    Calls Try.prog 16 #[.slice A vs.length c, .int .i64 slot] w fun e w' => e = .returned (.tuple #[.int .i64 (cheapR vs slot).1, .int .i64 (cheapR vs slot).2]) ∧ Below w.heap.size w w' := by
  have hJ := l16Slot_any A c vs slot w hr hs
  have hm := hs.1
  clear hs
  rcases slotI_cases vs slot with ⟨hp, ei, _⟩ | ⟨hp, hn, ei, _⟩ | ⟨hp, hn, ei, _⟩
  · rw [ei] at hJ
    have HF : Hid (cheapR vs slot = (0, 1)) := by unfold Hid cheapR; rw [if_neg (by simp [hp])]
    clear hp ei
    generalize cheapR vs slot = R at HF ⊢
    have HJ := Lib.hid hJ; clear hJ
    go_enter Try.func16, Try.ntmps16
    go_wp2_with fail
    refine HJ.out.mono ?_
    rintro e w1 ⟨rfl, hb1⟩
    go_wp2_with fail
    go_ret2
    exact ⟨by rw [HF.out]; rfl, hb1⟩
  · rw [ei] at hJ
    have HF : Hid (cheapR vs slot = (0, 2)) := by unfold Hid cheapR; rw [if_pos hp, if_neg (by simp [hn])]
    clear hp ei hn
    generalize cheapR vs slot = R at HF ⊢
    have HJ := Lib.hid hJ; clear hJ
    go_enter Try.func16, Try.ntmps16
    go_wp2_with fail
    refine HJ.out.mono ?_
    rintro e w1 ⟨rfl, hb1⟩
    go_wp2_with fail
    go_ret2
    exact ⟨by rw [HF.out]; rfl, hb1⟩
  · rw [ei] at hJ
    have HF : Hid (cheapR vs slot = if bestOf vs (idxTo (inSlot slot) vs vs.length) < 0 then (0, 4) else (bestOf vs (idxTo (inSlot slot) vs vs.length), 0)) := by unfold Hid cheapR; rw [if_pos hp, if_pos hn]
    clear hp ei hn
    generalize cheapR vs slot = R at HF ⊢
    have HJ := Lib.hid hJ; clear hJ
    have HI : Hid (∀ v : World, RdV v v.heap.size A vs → Calls Try.prog 38 #[.slice A vs.length c, .int .i64 slot] v (GivesOwn v 2 1 nC (idxTo (inSlot slot) vs vs.length))) := fun v hv => l16In_any A c vs slot v hv hm
    have HM : Hid (∀ n ∈ idxTo (inSlot slot) vs vs.length, ∃ (j : Nat) (x : PartT), n = (j : Int) ∧ vs[j]? = some x) := fun n hn => by
      obtain ⟨j, x, h1, _, h2, _⟩ := idxTo_mem hn
      exact ⟨j, x, h1, h2⟩
    have hle := idxTo_le (inSlot slot) vs vs.length
    generalize idxTo (inSlot slot) vs vs.length = L at HF HI HM hle
    have HL : Hid (∀ n ∈ L, 0 ≤ n) := fun n hn => by
      obtain ⟨j, _, rfl, _⟩ := HM.out n hn
      omega
    go_enter Try.func16, Try.ntmps16
    go_wp2_with fail
    refine HJ.out.mono ?_
    rintro e w1 ⟨rfl, hb1⟩
    go_wp2_with fail
    refine (HI.out w1 (hr.next hb1)).mono ?_
    rintro e w2 ⟨A2, c2, rfl, hf2, hc2, hb2⟩
    have hb12 := bthen hb1 hb2
    by_cases hL0 : L.length = 0
    · obtain rfl : L = [] := List.eq_nil_of_length_eq_zero hL0
      rw [bestOf_nil, if_pos (by omega)] at HF
      clear hL0
      go_wp2_with fail
      go_ret2
      exact ⟨by rw [HF.out]; rfl, hb12⟩
    · have hpos : 0 < L.length := by omega
      have hL1 : ((L.length : Int) == 0) = false := by rw [beq_eq_false_iff_ne]; omega
      have hx0 : L[0]? = some L[0] := List.getElem?_eq_getElem hpos
      obtain ⟨b2, o2, rfl, hB2, h20⟩ := hf2.rd.at1 hx0 rfl
      rw [Nat.mul_one, Nat.add_zero] at h20
      have HT0 : Hid (bestOf vs (L.take 1) = L[0]) := by unfold Hid; rw [List.take_succ_eq_append_getElem hpos, bestOf_snoc]; simp [betterP, bestOf_nil]
      have hmem0 := HM.out L[0] (List.getElem_mem _)
      generalize L[0] = n0 at h20 HT0 hmem0
      clear hx0 hL0
      obtain ⟨j0, y0, rfl, hy0⟩ := hmem0
      clear hy0
      have hr2 := hf2.rd
      clear hf2
      go_wp2_with fail
      clear h20
      go_loopw [8, 9] (fun best i wr => ∃ j : Nat, j ≤ L.length ∧ i = .int .i64 j ∧ best = .int .i64 (bestOf vs (L.take (max j 1))) ∧ Below w2.heap.size w2 wr) (fun _ i _ => L.length - (intOf i).toNat)
      case atStart => exact ⟨0, Nat.zero_le _, rfl, by rw [show max 0 1 = 1 from rfl, HT0.out], Below.refl _ _⟩
      case round =>
        obtain ⟨j, hj, rfl, rfl, hb⟩ := hrel
        have hbm := bestOf_mem vs HL.out (max j 1) (by omega) (by omega)
        obtain ⟨jb, yb, eb, hyb⟩ := HM.out _ hbm
        by_cases hlt : j < L.length
        · have hx : L[j]? = some L[j] := List.getElem?_eq_getElem hlt
          obtain ⟨b2', o2', e', _, h2j⟩ := (hr2.below hb).at1 hx rfl
          simp only [Option.some.injEq, Addr.mk.injEq] at e'
          obtain ⟨rfl, rfl, _⟩ := e'
          rw [Nat.mul_one] at h2j
          have hmj := HM.out L[j] (List.getElem_mem _)
          have HN : Hid (bestOf vs (L.take (max (j + 1) 1)) = betterP vs (bestOf vs (L.take (max j 1))) L[j]) := by
            unfold Hid
            by_cases e : j = 0
            · subst e
              rw [show max (0 + 1) 1 = 1 from rfl, show max 0 1 = 1 from rfl, List.take_succ_eq_append_getElem hpos, bestOf_snoc]
              simp [betterP, bestOf_nil]
            · rw [show max (j + 1) 1 = j + 1 by omega, show max j 1 = j by omega, List.take_succ_eq_append_getElem hlt, bestOf_snoc]
          generalize L[j] = nj at h2j hmj HN hx
          obtain ⟨jj, yj, rfl, hyj⟩ := hmj
          have HN2 : Hid (bestOf vs (L.take (max (j + 1) 1)) = if yj.price < yb.price then (jj : Int) else (jb : Int)) := by
            unfold Hid
            rw [HN.out, eb]
            unfold betterP
            rw [priceAt_eq hyj, priceAt_eq hyb]
            by_cases h : yj.price < yb.price
            · rw [if_pos (Or.inr h), if_pos h]
            · rw [if_neg (by omega), if_neg h]
          rw [eb]
          obtain ⟨b, o, rfl⟩ := hr.addr (by have := (List.getElem?_eq_some_iff.1 hyj).1; omega)
          have hrr := (hr.below (hb12.trans (hb.mono hb12.size)))
          obtain ⟨_, _, _, _, _, _, g3, _⟩ := hrr.cells hyj
          obtain ⟨_, _, _, _, _, _, g4, _⟩ := hrr.cells hyb
          have hjl := (List.getElem?_eq_some_iff.1 hyj).1
          have hbl := (List.getElem?_eq_some_iff.1 hyb).1
          clear hbm hx HN hyj hyb eb
          generalize yj.price = pj at g3 HN2
          generalize yb.price = pb at g4 HN2
          by_cases hpr : pj < pb
          · go_wp2_with fail
            go_quiet (fail)
            go_wp2_with fail
            try go_quiet (fail)
            try go_wp2_with fail
            exact ⟨⟨j + 1, by omega, by go_num, by rw [HN2.out, if_pos hpr], below_drewN hb _⟩, by simp [intOf]; omega⟩
          · have hpr2 : decide (pj < pb) = false := by simpa using hpr
            go_wp2_with fail
            go_quiet (fail)
            go_wp2_with fail
            exact ⟨⟨j + 1, by omega, by go_num, by rw [HN2.out, if_neg (by omega)], below_drewN hb _⟩, by simp [intOf]; omega⟩
        · obtain rfl : j = L.length := by omega
          have hmx : max L.length 1 = L.length := by omega
          rw [hmx] at eb ⊢
          rw [List.take_length] at eb ⊢
          rw [eb, if_neg (by omega)] at HF
          rw [eb]
          clear eb hmx hbm hyb
          go_wp2_with fail
          go_ret2
          exact ⟨by rw [HF.out]; rfl, bthen hb12 hb⟩

end Go.Proofs.Ytncjgebgghpigaa
