/- DERIVED. A part put into a build, and taken out. By program (gput.py). -/
import Derived.Test.YtioblfbhjkkgoaaSums
import Derived.Test.YtioblfbhjkkgoaaOwn2
namespace Go.Proofs.Ytioblfbhjkkgoaa
set_option maxRecDepth 100000
open Go.RowKit

theorem Flat.set1 {w : World} {lo hi g i : Nat} {E : TypeId} {xs : List ByteArray} {v : ByteArray} (h : Flat w lo hi E 1 tC (some ⟨g, 0, none⟩) xs) (hi' : i < xs.length) : Flat (w.setCell ⟨g, i, none⟩ (.string v)) lo hi E 1 tC (some ⟨g, 0, none⟩) (xs.set i v) := fun _ => by
  obtain ⟨g', m, e, h1, h2, h3, h4, h5⟩ := h (by omega)
  simp only [Option.some.injEq, Addr.mk.injEq] at e
  obtain ⟨rfl, _, _⟩ := e
  refine ⟨g, m, rfl, h1, h2, h3.setCell _ _, by rw [List.length_set]; exact h4, fun k x hk j u hj => ?_⟩
  rw [List.getElem?_set] at hk
  match j with
  | 0 =>
    have hj' : Value.string x = u := by simpa [tC] using hj
    subst hj'
    split at hk
    · rename_i e
      subst e
      try rw [if_pos hi'] at hk
      obtain rfl := Option.some.inj hk
      obtain ⟨z, hz⟩ := h3.cell (j := i) (by omega)
      simpa using setCell_same (u := .string v) hz
    · rename_i e
      rw [setCell_other (by omega)]
      exact h5 k x hk 0 _ rfl
  | j + 1 => simp [tC] at hj

set_option maxHeartbeats 400000 in
theorem l17With_any (A' : Option Addr) (c' : Nat) (bs : List ByteArray) (s : Nat) (code : ByteArray) (w : World) (hrd : Rd w w.heap.size 1 tC A' bs) (hm' : bs.length ≤ 1048576) (hs : s < bs.length) :
    Calls Try.prog 63 #[.slice A' bs.length c', .int .i64 (s : Int), .string code] w (GivesOwn w 9 1 tC (bs.set s code)) := by
  have hrd := hrd.below (balloc w (.cells #[] 9))
  go_enter Try.func63, Try.ntmps63
  go_wp2_with (at_builtin; refine wpList_append_slice rfl _ _ _ rfl (w.heap.size) 9 (.string ⟨#[]⟩) 1 16 Try.underlying44 infoString rfl (by omega) (by omega) tC [] bs (some ⟨w.heap.size, 0, none⟩) 0 rfl (Own.made _ (by omega) rfl) A' c' _ rfl hrd tC_len tC_one (by simp; omega) (by simp <;> omega) ?_)
  intro A2 c2 w4 hown4 hb4 hfar
  obtain ⟨g, m, rfl, hg1, hg2, hrow, hml, _⟩ := hown4.flat tC_len (by omega)
  obtain ⟨z0, hz0⟩ := hrow.cell (j := s) (by omega)
  have hf0 := hrow.frozen s
  have hcap := hown4.cap
  have HF := Lib.hid (hown4.flat tC_len)
  have HB := Lib.hid hb4
  clear hown4 hfar hb4
  go_wp2_with fail
  go_ret
  exact ⟨some ⟨g, 0, none⟩, c2, by rw [List.length_set]; rfl, (HF.out.set1 (i := s) (v := code) (by omega)).mono (Nat.le_refl _) (by simp [World.setCell]), by rw [List.length_set]; exact hcap, ((balloc w _).trans HB.out).setCell (p := ⟨g, s, none⟩) hg1 _⟩

def setT (bs : List ByteArray) (n : Int) (code : ByteArray) : List ByteArray := bs.set n.toNat code
def putR (vs : List PartT) (bs : List ByteArray) (code : ByteArray) : List ByteArray × Int :=
  if buildB vs bs = true then (if findI vs code < 0 then ([], 4) else (if textAt bs (slotAt vs (findI vs code)) = noText then (setT bs (slotAt vs (findI vs code)) code, 0) else ([], 5))) else ([], 1)
def takeR (vs : List PartT) (bs : List ByteArray) (slot : Int) : List ByteArray × Int :=
  if buildB vs bs = true then (if inB slot 0 7 = true then (if textAt bs slot = noText then ([], 5) else (setT bs slot noText, 0)) else ([], 2)) else ([], 1)

end Go.Proofs.Ytioblfbhjkkgoaa
