/- DERIVED. A part put into a build, and taken out. By program (gput.py). -/
import Derived.Test.YtlhbjgbkpjlacaaSums
import Derived.Test.YtlhbjgbkpjlacaaOwn2
namespace Go.Proofs.Ytlhbjgbkpjlacaa
set_option maxRecDepth 100000
open Go.RowKit

theorem Flat.set1 {w : World} {lo hi g i : Nat} {E : TypeId} {xs : List ByteArray} {v : ByteArray} (h : Flat w lo hi E 1 tC (some ⟨g, 0, none⟩) xs) (hi' : i < xs.length) : Flat (w.setCell ⟨g, i, none⟩ (.string v)) lo hi E 1 tC (some ⟨g, 0, none⟩) (xs.set i v) := fun _ => by
  obtain ⟨g', m, e, h1, h2, h3, h4, h5⟩ := h (by omega)
  simp only [Option.some.injEq, Addr.mk.injEq] at e
  obtain ⟨rfl, _, _⟩ := e
  refine ⟨g, m, rfl, h1, h2, h3.setCell _ _, by rw [List.length_set]; exact h4, fun k x hk j u hj => ?_⟩
  rw [List.getElem?_set] at hk
  match j with
  | 0 =>
    have hj' : Value.string x = u := by simpa [tC] using hj
    subst hj'
    split at hk
    · rename_i e
      subst e
      try rw [if_pos hi'] at hk
      obtain rfl := Option.some.inj hk
      obtain ⟨z, hz⟩ := h3.cell (j := i) (by omega)
      simpa using setCell_same (u := .string v) hz
    · rename_i e
      rw [setCell_other (by omega)]
      exact h5 k x hk 0 _ rfl
  | j + 1 => simp [tC] at hj

set_option maxHeartbeats 400000 in
theorem l17With_any (A' : Option Addr) (c' : Nat) (bs : List ByteArray) (s : Nat) (code : ByteArray) (w : World) (hrd : Rd w w.heap.size 1 tC A' bs) (hm' : bs.length ≤ 1048576) (hs : s < bs.length) :
    Calls Try.prog 119 #[.slice A' bs.length c', .int .i64 (s : Int), .string code] w (GivesOwn w 9 1 tC (bs.set s code)) := by
  have hrd := hrd.below (balloc w (.cells #[] 9))
  go_enter Try.func119, Try.ntmps119
  go_wp2_with (at_builtin; refine wpList_append_slice rfl _ _ _ rfl (w.heap.size) 9 (.string ⟨#[]⟩) 1 16 Try.underlying58 infoString rfl (by omega) (by omega) tC [] bs (some ⟨w.heap.size, 0, none⟩) 0 rfl (Own.made _ (by omega) rfl) A' c' _ rfl hrd tC_len tC_one (by simp; omega) (by simp <;> omega) ?_)
  intro A2 c2 w4 hown4 hb4 hfar
  obtain ⟨g, m, rfl, hg1, hg2, hrow, hml, _⟩ := hown4.flat tC_len (by omega)
  obtain ⟨z0, hz0⟩ := hrow.cell (j := s) (by omega)
  have hf0 := hrow.frozen s
  have hcap := hown4.cap
  have HF := Lib.hid (hown4.flat tC_len)
  have HB := Lib.hid hb4
  clear hown4 hfar hb4
  go_wp2_with fail
  go_ret
  exact ⟨some ⟨g, 0, none⟩, c2, by rw [List.length_set]; rfl, (HF.out.set1 (i := s) (v := code) (by omega)).mono (Nat.le_refl _) (by simp [World.setCell]), by rw [List.length_set]; exact hcap, ((balloc w _).trans HB.out).setCell (p := ⟨g, s, none⟩) hg1 _⟩

def setT (bs : List ByteArray) (n : Int) (code : ByteArray) : List ByteArray := bs.set n.toNat code
def putR (vs : List PartT) (bs : List ByteArray) (code : ByteArray) : List ByteArray × Int :=
  if buildB vs bs = true then (if findI vs code < 0 then ([], 4) else (if textAt bs (slotAt vs (findI vs code)) = noText then (setT bs (slotAt vs (findI vs code)) code, 0) else ([], 5))) else ([], 1)
def takeR (vs : List PartT) (bs : List ByteArray) (slot : Int) : List ByteArray × Int :=
  if buildB vs bs = true then (if inB slot 0 7 = true then (if textAt bs slot = noText then ([], 5) else (setT bs slot noText, 0)) else ([], 2)) else ([], 1)

set_option maxHeartbeats 400000 in
theorem PutPart_spec (A A' : Option Addr) (c c' : Nat) (vs : List PartT) (bs : List ByteArray) (code : ByteArray) (w : World) (hr : RdV w w.heap.size A vs) (hr' : Rd w w.heap.size 1 tC A' bs) (hs : SmallV vs) (hm' : bs.length ≤ 1048576) :
    Calls Try.prog 149 #[.slice A vs.length c, .slice A' bs.length c', .string code] w (GivesRes w 9 1 tC (putR vs bs code)) := by
  have hJ := l17Code_any A none A' c 0 c' vs [] bs 0 w hr (fun h => absurd h (by simp)) hr' hs (by simp) hm'
  rw [codeL_nil] at hJ
  have HN : Hid (∀ v : World, RdV v v.heap.size A vs → Calls Try.prog 98 #[.slice A vs.length c, .string code] v fun e w' => e = .returned (.int .i64 (findI vs code)) ∧ Below v.heap.size v w') := fun v hv => l16Find_any A c vs code v hv hs.1
  have HK : Hid (∀ v : World, RdV v v.heap.size A vs → Calls Try.prog 100 #[.slice A vs.length c, .string code] v fun e w' => e = .returned (.int .i64 (codeI vs code)) ∧ Below v.heap.size v w') := fun v hv => l16Code_any A c vs code v hv hs
  have HKC := Lib.hid (codeI_cases vs code)
  have HW : Hid (∀ (v : World) (s : Nat), Rd v v.heap.size 1 tC A' bs → s < bs.length → Calls Try.prog 119 #[.slice A' bs.length c', .int .i64 (s : Int), .string code] v (GivesOwn v 9 1 tC (bs.set s code))) := fun v s hv h => l17With_any A' c' bs s code v hv hm' h
  have hm := hs.1
  have hbd := findI_bd vs code hs.1
  clear hs
  by_cases hB : buildB vs bs = true
  · obtain ⟨⟨hP, hl8, _⟩, _⟩ := buildB_codes hB
    have hle8 : 8 ≤ bs.length := by omega
    have Hl8 := Lib.hid hl8; clear hl8
    have HR0 : Hid (putR vs bs code = if findI vs code < 0 then ([], 4) else (if textAt bs (slotAt vs (findI vs code)) = noText then (setT bs (slotAt vs (findI vs code)) code, 0) else ([], 5))) := by unfold Hid putR; rw [if_pos hB]
    rw [if_pos hB] at hJ
    have HJ := Lib.hid hJ; clear hJ hB
    have HP := Lib.hid hP; clear hP
    have HFC := Lib.hid (findI_cases vs code)
    generalize putR vs bs code = R at HR0 ⊢
    by_cases hn : findI vs code < 0
    · have HR : Hid (R = ([], 4)) := by unfold Hid; rw [HR0.out, if_pos hn]
      clear HR0 HFC
      have hk : codeI vs code = 4 := by
        rcases HKC.out with ⟨h, _⟩ | ⟨_, _, h⟩ | ⟨_, h, _⟩
        · rw [HP.out] at h; cases h
        · exact h
        · omega
      rw [hk] at HK
      clear hk HKC
      go_enter Try.func149, Try.ntmps149
      go_wp2_with fail
      refine HJ.out.mono ?_
      rintro e w1 ⟨rfl, hb1⟩
      go_wp2_with fail
      refine (HK.out w1 (hr.next hb1)).mono ?_
      rintro e w2 ⟨rfl, hb2⟩
      go_wp2_with fail
      go_ret2
      exact ⟨none, 0, by rw [HR.out]; rfl, by rw [HR.out]; exact flat_nil, by rw [HR.out]; exact Nat.le_refl _, bthen hb1 hb2⟩
    · have hex : ∃ (k : Nat) (x : PartT), findI vs code = (k : Int) ∧ k < vs.length ∧ vs[k]? = some x := by
        rcases HFC.out with ⟨e, _⟩ | ⟨k, x, e, hk, hx, _⟩
        · omega
        · exact ⟨k, x, e, hk, hx⟩
      obtain ⟨k, x, ek, hk, hxk⟩ := hex
      have hxo := partsB_at HP.out hxk
      obtain ⟨s, hse⟩ := Int.eq_ofNat_of_zero_le hxo.slot0
      have hs7 := hxo.slot7
      rw [hse] at hs7
      have hslt : s < bs.length := by omega
      rw [if_neg hn, ek, slotAt_eq hxk, hse] at HR0
      rw [ek] at HN
      have hk0 : codeI vs code = 0 := by
        rcases HKC.out with ⟨h, _⟩ | ⟨_, h, _⟩ | ⟨_, _, h⟩
        · rw [HP.out] at h; cases h
        · omega
        · exact h
      rw [hk0] at HK
      clear hk0 HKC
      have Hek := Lib.hid ek
      clear ek HFC hn hbd hxo
      have hxs : bs[s]? = some bs[s] := List.getElem?_eq_getElem hslt
      have ets : textAt bs (s : Int) = bs[s] := textAt_eq (by simp)
      rw [ets] at HR0
      obtain ⟨bl, ol, rfl⟩ := hr.addr (by omega)
      have hsx : Hid (∀ v : World, Below w.heap.size w v → v.cell? ⟨bl, ol + k * 5 + 1, none⟩ = some (.int .i64 (s : Int))) := fun v hv => by
        obtain ⟨_, _, _, _, h1, _⟩ := (hr.below hv).cells hxk
        rw [h1, hse]
      obtain ⟨b', o', rfl, hB', qs⟩ := hr'.at1 hxs rfl
      rw [Nat.mul_one] at qs
      have hbl : bl < w.heap.size := (hr.cells hxk).1
      clear hxs ets hse
      generalize bs[s] = t at qs HR0
      have HR1 : Hid (R = if t = noText then (bs.set s code, 0) else ([], 5)) := HR0.out
      clear HR0
      have hxk' := Lib.hid hxk; clear hxk
      by_cases ht : t = noText
      · have HR : Hid (R = (bs.set s code, 0)) := by unfold Hid; rw [HR1.out, if_pos ht]
        have htl : t.toList = [] := by rw [ht]; exact noText_list
        clear ht HR1
        go_enter Try.func149, Try.ntmps149
        go_wp2_with fail
        refine HJ.out.mono ?_
        rintro e w1 ⟨rfl, hb1⟩
        go_wp2_with fail
        refine (HK.out w1 (hr.next hb1)).mono ?_
        rintro e w2' ⟨rfl, hb2'⟩
        have hb12' := bthen hb1 hb2'
        go_wp2_with fail
        refine (HN.out w2' (hr.next hb12')).mono ?_
        rintro e w2 ⟨rfl, hb2⟩
        have hb12 := bthen hb12' hb2
        have hsl := hsx.out w2 hb12
        have qs2 := (hb12.cell (p := ⟨b', o' + s, none⟩) (World.block_lt_of_cell? w _ qs)).trans qs
        have hs12 := hb12.size
        go_wp2_with fail
        refine (HW.out w2 s (hr'.next hb12) hslt).mono ?_
        rintro e w3 ⟨A3, c3, rfl, hf3, hc3, hb3⟩
        go_wp2_with fail
        go_ret2
        exact ⟨A3, c3, by rw [HR.out]; simp only [List.length_set]; rfl, by rw [HR.out]; exact hf3.mono hs12 (Nat.le_refl _), by rw [HR.out]; exact hc3, bthen hb12 hb3⟩
      · have HR : Hid (R = ([], 5)) := by unfold Hid; rw [HR1.out, if_neg ht]
        have htl := text_not ht
        have htb : (t.toList == []) = false := by simp [htl]
        have hti : t.toList.isEmpty = false := by simp [htl]
        clear ht HR1
        go_enter Try.func149, Try.ntmps149
        go_wp2_with fail
        refine HJ.out.mono ?_
        rintro e w1 ⟨rfl, hb1⟩
        go_wp2_with fail
        refine (HK.out w1 (hr.next hb1)).mono ?_
        rintro e w2' ⟨rfl, hb2'⟩
        have hb12' := bthen hb1 hb2'
        go_wp2_with fail
        refine (HN.out w2' (hr.next hb12')).mono ?_
        rintro e w2 ⟨rfl, hb2⟩
        have hb12 := bthen hb12' hb2
        have hsl := hsx.out w2 hb12
        have qs2 := (hb12.cell (p := ⟨b', o' + s, none⟩) (World.block_lt_of_cell? w _ qs)).trans qs
        have hs12 := hb12.size
        go_wp2_with fail
        go_ret2
        exact ⟨none, 0, by rw [HR.out]; rfl, by rw [HR.out]; exact flat_nil, by rw [HR.out]; exact Nat.le_refl _, hb12⟩
  · have HR : Hid (putR vs bs code = ([], 1)) := by unfold Hid putR; rw [if_neg hB]
    rw [if_neg hB] at hJ
    have HJ := Lib.hid hJ; clear hJ hB
    generalize putR vs bs code = R at HR ⊢
    go_enter Try.func149, Try.ntmps149
    go_wp2_with fail
    refine HJ.out.mono ?_
    rintro e w1 ⟨rfl, hb1⟩
    go_wp2_with fail
    go_ret2
    exact ⟨none, 0, by rw [HR.out]; rfl, by rw [HR.out]; exact flat_nil, by rw [HR.out]; exact Nat.le_refl _, hb1⟩

end Go.Proofs.Ytlhbjgbkpjlacaa
