/- DERIVED. A part put, the build told as a slice of the call's own. By program (gputo.py). -/
import Derived.Test.YtpdkhmnbabccnaaPut
import Derived.Test.YtpdkhmnbabccnaaOwn3
namespace Go.Proofs.Ytpdkhmnbabccnaa
set_option maxRecDepth 100000
open Go.RowKit

theorem flat_map_tC : ∀ l : List ByteArray, l.flatMap tC = l.map Value.string
  | [] => rfl
  | x :: l => by rw [List.flatMap_cons, flat_map_tC l]; rfl
theorem Own.set1 {w : World} {base g c i : Nat} {E : TypeId} {xs : List ByteArray} (h : Own w base E 1 tC (some ⟨g, 0, none⟩) c xs) (hi : i < xs.length) (v : ByteArray) : Own (w.setCell ⟨g, i, none⟩ (.string v)) base E 1 tC (some ⟨g, 0, none⟩) c (xs.set i v) := by
  refine ⟨by rw [flat_map_tC, List.length_map, List.length_set, Nat.mul_one], ?_⟩
  rcases h.2 with ⟨h2, _⟩ | ⟨g', cap, cur, e, hB, hg, h3, h4, h5, h6⟩
  · cases h2
  · simp only [Value.slice.injEq, Option.some.injEq, Addr.mk.injEq] at e
    obtain ⟨⟨rfl, _⟩, _, rfl⟩ := e
    refine Or.inr ⟨g, c, cur.setIfInBounds i (.string v), by rw [List.length_set], hB, by simp [World.setCell, Array.getElem?_modify, hg], by rw [List.length_set]; exact h3, h4, by simpa using h5, ?_⟩
    rw [flat_map_tC] at h6 ⊢
    rw [List.map_set, ← h6, List.length_set, Nat.mul_one, Array.toList_setIfInBounds, List.take_set]
def GivesOwnO {α : Type} (w : World) (E : TypeId) (sz : Nat) (f : α → List Value) (xs : List α) (e : Ending) (w' : World) : Prop :=
  ∃ A c, e = .returned (.slice A xs.length c) ∧ Own w' w.heap.size E sz f A c xs ∧ Below w.heap.size w w'
def GivesResO {α : Type} (w : World) (E : TypeId) (sz : Nat) (f : α → List Value) (r : List α × Int) (e : Ending) (w' : World) : Prop :=
  ∃ A c, e = .returned (.tuple #[.slice A r.1.length c, .int .i64 r.2]) ∧ Own w' w.heap.size E sz f A c r.1 ∧ Below w.heap.size w w'

set_option maxHeartbeats 400000 in
theorem l17With_own (A' : Option Addr) (c' : Nat) (bs : List ByteArray) (s : Nat) (code : ByteArray) (w : World) (hrd : Rd w w.heap.size 1 tC A' bs) (hm' : bs.length ≤ 1048576) (hs : s < bs.length) :
    Calls Try.prog 142 #[.slice A' bs.length c', .int .i64 (s : Int), .string code] w (GivesOwnO w 9 1 tC (bs.set s code)) := by
  have hrd := hrd.below (balloc w (.cells #[] 9))
  go_enter Try.func142, Try.ntmps142
  go_wp2_with (at_builtin; refine wpList_append_slice rfl _ _ _ rfl (w.heap.size) 9 (.string ⟨#[]⟩) 1 16 Try.underlying61 infoString rfl (by omega) (by omega) tC [] bs (some ⟨w.heap.size, 0, none⟩) 0 rfl (Own.made _ (by omega) rfl) A' c' _ rfl hrd tC_len tC_one (by simp; omega) (by simp <;> omega) ?_)
  intro A2 c2 w4 hown4 hb4 hfar
  obtain ⟨g, m, rfl, hg1, hg2, hrow, hml, _⟩ := hown4.flat tC_len (by omega)
  obtain ⟨z0, hz0⟩ := hrow.cell (j := s) (by omega)
  have hf0 := hrow.frozen s
  have HF := Lib.hid hown4
  have HB := Lib.hid hb4
  clear hown4 hfar hb4
  go_wp2_with fail
  go_ret
  exact ⟨some ⟨g, 0, none⟩, c2, by rw [List.length_set]; rfl, Own.set1 HF.out (by omega) code, ((balloc w _).trans HB.out).setCell (p := ⟨g, s, none⟩) hg1 _⟩

set_option maxHeartbeats 400000 in
theorem PutPart_specO (A A' : Option Addr) (c c' : Nat) (vs : List PartT) (bs : List ByteArray) (code : ByteArray) (w : World) (hr : RdV w w.heap.size A vs) (hr' : Rd w w.heap.size 1 tC A' bs) (hs : SmallV vs) (hm' : bs.length ≤ 1048576) :
    Calls Try.prog 48 #[.slice A vs.length c, .slice A' bs.length c', .string code] w (GivesResO w 9 1 tC (putR vs bs code)) := by
  have hJ := l17Code_any A none A' c 0 c' vs [] bs 0 w hr (fun h => absurd h (by simp)) hr' hs (by simp) hm'
  rw [codeL_nil] at hJ
  have HN : Hid (∀ v : World, RdV v v.heap.size A vs → Calls Try.prog 130 #[.slice A vs.length c, .string code] v fun e w' => e = .returned (.int .i64 (findI vs code)) ∧ Below v.heap.size v w') := fun v hv => l16Find_any A c vs code v hv hs.1
  have HK : Hid (∀ v : World, RdV v v.heap.size A vs → Calls Try.prog 132 #[.slice A vs.length c, .string code] v fun e w' => e = .returned (.int .i64 (codeI vs code)) ∧ Below v.heap.size v w') := fun v hv => l16Code_any A c vs code v hv hs
  have HKC := Lib.hid (codeI_cases vs code)
  have HW : Hid (∀ (v : World) (s : Nat), Rd v v.heap.size 1 tC A' bs → s < bs.length → Calls Try.prog 142 #[.slice A' bs.length c', .int .i64 (s : Int), .string code] v (GivesOwnO v 9 1 tC (bs.set s code))) := fun v s hv h => l17With_own A' c' bs s code v hv hm' h
  have hm := hs.1
  have hbd := findI_bd vs code hs.1
  clear hs
  by_cases hB : buildB vs bs = true
  · obtain ⟨⟨hP, hl8, _⟩, _⟩ := buildB_codes hB
    have hle8 : 8 ≤ bs.length := by omega
    have Hl8 := Lib.hid hl8; clear hl8
    have HR0 : Hid (putR vs bs code = if findI vs code < 0 then ([], 4) else (if textAt bs (slotAt vs (findI vs code)) = noText then (setT bs (slotAt vs (findI vs code)) code, 0) else ([], 5))) := by unfold Hid putR; rw [if_pos hB]
    rw [if_pos hB] at hJ
    have HJ := Lib.hid hJ; clear hJ hB
    have HP := Lib.hid hP; clear hP
    have HFC := Lib.hid (findI_cases vs code)
    generalize putR vs bs code = R at HR0 ⊢
    by_cases hn : findI vs code < 0
    · have HR : Hid (R = ([], 4)) := by unfold Hid; rw [HR0.out, if_pos hn]
      clear HR0 HFC
      have hk : codeI vs code = 4 := by
        rcases HKC.out with ⟨h, _⟩ | ⟨_, _, h⟩ | ⟨_, h, _⟩
        · rw [HP.out] at h; cases h
        · exact h
        · omega
      rw [hk] at HK
      clear hk HKC
      go_enter Try.func48, Try.ntmps48
      go_wp2_with fail
      refine HJ.out.mono ?_
      rintro e w1 ⟨rfl, hb1⟩
      go_wp2_with fail
      refine (HK.out w1 (hr.next hb1)).mono ?_
      rintro e w2 ⟨rfl, hb2⟩
      go_wp2_with fail
      go_ret2
      exact ⟨none, 0, by rw [HR.out]; rfl, by rw [HR.out]; exact Own.nil, bthen hb1 hb2⟩
    · have hex : ∃ (k : Nat) (x : PartT), findI vs code = (k : Int) ∧ k < vs.length ∧ vs[k]? = some x := by
        rcases HFC.out with ⟨e, _⟩ | ⟨k, x, e, hk, hx, _⟩
        · omega
        · exact ⟨k, x, e, hk, hx⟩
      obtain ⟨k, x, ek, hk, hxk⟩ := hex
      have hxo := partsB_at HP.out hxk
      obtain ⟨s, hse⟩ := Int.eq_ofNat_of_zero_le hxo.slot0
      have hs7 := hxo.slot7
      rw [hse] at hs7
      have hslt : s < bs.length := by omega
      rw [if_neg hn, ek, slotAt_eq hxk, hse] at HR0
      rw [ek] at HN
      have hk0 : codeI vs code = 0 := by
        rcases HKC.out with ⟨h, _⟩ | ⟨_, h, _⟩ | ⟨_, _, h⟩
        · rw [HP.out] at h; cases h
        · omega
        · exact h
      rw [hk0] at HK
      clear hk0 HKC
      have Hek := Lib.hid ek
      clear ek HFC hn hbd hxo
      have hxs : bs[s]? = some bs[s] := List.getElem?_eq_getElem hslt
      have ets : textAt bs (s : Int) = bs[s] := textAt_eq (by simp)
      rw [ets] at HR0
      obtain ⟨bl, ol, rfl⟩ := hr.addr (by omega)
      have hsx : Hid (∀ v : World, Below w.heap.size w v → v.cell? ⟨bl, ol + k * 5 + 1, none⟩ = some (.int .i64 (s : Int))) := fun v hv => by
        obtain ⟨_, _, _, _, h1, _⟩ := (hr.below hv).cells hxk
        rw [h1, hse]
      obtain ⟨b', o', rfl, hB', qs⟩ := hr'.at1 hxs rfl
      rw [Nat.mul_one] at qs
      have hbl : bl < w.heap.size := (hr.cells hxk).1
      clear hxs ets hse
      generalize bs[s] = t at qs HR0
      have HR1 : Hid (R = if t = noText then (bs.set s code, 0) else ([], 5)) := HR0.out
      clear HR0
      have hxk' := Lib.hid hxk; clear hxk
      by_cases ht : t = noText
      · have HR : Hid (R = (bs.set s code, 0)) := by unfold Hid; rw [HR1.out, if_pos ht]
        have htl : t.toList = [] := by rw [ht]; exact noText_list
        clear ht HR1
        go_enter Try.func48, Try.ntmps48
        go_wp2_with fail
        refine HJ.out.mono ?_
        rintro e w1 ⟨rfl, hb1⟩
        go_wp2_with fail
        refine (HK.out w1 (hr.next hb1)).mono ?_
        rintro e w2' ⟨rfl, hb2'⟩
        have hb12' := bthen hb1 hb2'
        go_wp2_with fail
        refine (HN.out w2' (hr.next hb12')).mono ?_
        rintro e w2 ⟨rfl, hb2⟩
        have hb12 := bthen hb12' hb2
        have hsl := hsx.out w2 hb12
        have qs2 := (hb12.cell (p := ⟨b', o' + s, none⟩) (World.block_lt_of_cell? w _ qs)).trans qs
        have hs12 := hb12.size
        go_wp2_with fail
        refine (HW.out w2 s (hr'.next hb12) hslt).mono ?_
        rintro e w3 ⟨A3, c3, rfl, hf3, hb3⟩
        go_wp2_with fail
        go_ret2
        exact ⟨A3, c3, by rw [HR.out]; simp only [List.length_set]; rfl, by rw [HR.out]; exact hf3.base hs12, bthen hb12 hb3⟩
      · have HR : Hid (R = ([], 5)) := by unfold Hid; rw [HR1.out, if_neg ht]
        have htl := text_not ht
        have htb : (t.toList == []) = false := by simp [htl]
        have hti : t.toList.isEmpty = false := by simp [htl]
        clear ht HR1
        go_enter Try.func48, Try.ntmps48
        go_wp2_with fail
        refine HJ.out.mono ?_
        rintro e w1 ⟨rfl, hb1⟩
        go_wp2_with fail
        refine (HK.out w1 (hr.next hb1)).mono ?_
        rintro e w2' ⟨rfl, hb2'⟩
        have hb12' := bthen hb1 hb2'
        go_wp2_with fail
        refine (HN.out w2' (hr.next hb12')).mono ?_
        rintro e w2 ⟨rfl, hb2⟩
        have hb12 := bthen hb12' hb2
        have hsl := hsx.out w2 hb12
        have qs2 := (hb12.cell (p := ⟨b', o' + s, none⟩) (World.block_lt_of_cell? w _ qs)).trans qs
        have hs12 := hb12.size
        go_wp2_with fail
        go_ret2
        exact ⟨none, 0, by rw [HR.out]; rfl, by rw [HR.out]; exact Own.nil, hb12⟩
  · have HR : Hid (putR vs bs code = ([], 1)) := by unfold Hid putR; rw [if_neg hB]
    rw [if_neg hB] at hJ
    have HJ := Lib.hid hJ; clear hJ hB
    generalize putR vs bs code = R at HR ⊢
    go_enter Try.func48, Try.ntmps48
    go_wp2_with fail
    refine HJ.out.mono ?_
    rintro e w1 ⟨rfl, hb1⟩
    go_wp2_with fail
    go_ret2
    exact ⟨none, 0, by rw [HR.out]; rfl, by rw [HR.out]; exact Own.nil, hb1⟩

end Go.Proofs.Ytpdkhmnbabccnaa
