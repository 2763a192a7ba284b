/- DERIVED. Words and ports drawn. -/
import Derived.Test.YtncjgebgghpigaaDraw2
namespace Go.Proofs.Ytncjgebgghpigaa
set_option maxRecDepth 100000
open Go.RowKit

/-- A place in a table of texts has been drawn. -/
def Hit (w : World) (b : Nat) (A : Option Addr) (c : Nat) (xs : List Int) (n : Nat) (e : Ending) (w' : World) : Prop := ∃ (k : Nat) (t : ByteArray), e = .returned (.int .i64 (k : Int)) ∧ k < n ∧ t.size ≤ 64 ∧ w'.cell? ⟨w.heap.size, k, none⟩ = some (.string t) ∧ Feed w' b A c xs ∧ Only b (b + 1) w w'
theorem table_next (A : Option Addr) (c b : Nat) (xs : List Int) (w : World) (E : TypeId) (l : List ByteArray) (hl : ∀ t ∈ l, t.size ≤ 64) (h1 : 1 < l.length) (h2 : l.length < 1000) (hF : Feed w b A c xs) :
    Calls Try.prog 34 #[.pointer (some ⟨b, 0, none⟩), .int .i64 (l.length : Int)] (w.alloc (.cells (l.map Value.string).toArray E)) (Hit w b A c xs l.length) := by
  have hlb := hF.src.lt
  have hV := hF.next (balloc w (.cells (l.map Value.string).toArray E))
  have hgV : w.heap.size < (w.alloc (.cells (l.map Value.string).toArray E)).heap.size := by simp
  have hOV : Only b (b + 1) w (w.alloc (.cells (l.map Value.string).toArray E)) := Only.alloc _
  have hT := fun (k : Nat) (hk : k < l.length) => table_at w E l _ rfl hk
  generalize w.alloc (.cells (l.map Value.string).toArray E) = V at hV hgV hOV hT ⊢
  refine (l01Next_any A c b xs (l.length : Int) V hV.src hV.rd hV.byte hV.small (by omega)).mono ?_
  rintro e w1 ⟨v, rfl, v0, v1, v2, hS, hO⟩
  obtain ⟨k, rfl⟩ := Int.eq_ofNat_of_zero_le v0
  have hk : k < l.length := by omega
  exact ⟨k, l[k], rfl, hk, hl _ (List.getElem_mem _), (World.cell?_of_block (a := ⟨w.heap.size, k, none⟩) (hO.block w.heap.size hgV (fun h => by omega))).trans (hT k hk), hV.turn hS hO, hOV.trans hO⟩
def words : List ByteArray := [⟨#[]⟩, ⟨#[65, 100, 97]⟩, ⟨#[97, 49]⟩, ⟨#[97, 98, 99, 100, 101, 102, 103, 104, 105, 106, 107, 108, 109, 110, 111, 112]⟩, ⟨#[97, 98, 99, 100, 101, 102, 103, 104, 105, 106, 107, 108, 109, 110, 111, 112, 113]⟩, ⟨#[97, 32, 98]⟩]

set_option maxHeartbeats 1000000 in
theorem l01DrawWord_any (A : Option Addr) (c b : Nat) (xs : List Int) (w : World) (hF : Feed w b A c xs) :
    Calls Try.prog 49 #[.pointer (some ⟨b, 0, none⟩)] w (DrawnText w b A c xs) := by
  have HN : Hid (Calls Try.prog 34 #[.pointer (some ⟨b, 0, none⟩), .int .i64 24] w (Drawn w b A c xs 24)) := l01Next_any A c b xs 24 w hF.src hF.rd hF.byte hF.small (by omega)
  have HG : Hid (∀ v : World, Feed v b A c xs → Calls Try.prog 50 #[.pointer (some ⟨b, 0, none⟩)] v (DrawnText v b A c xs)) := fun v h => l01Good_any A c b xs v h
  have HT : Hid (∀ v : World, Feed v b A c xs → Calls Try.prog 34 #[.pointer (some ⟨b, 0, none⟩), .int .i64 6] (v.alloc (.cells (words.map Value.string).toArray 9)) (Hit v b A c xs 6)) := fun v h => table_next A c b xs v _ words (by decide) (by decide) (by decide) h
  have HF := Lib.hid hF; clear hF
  go_enter Try.func49, Try.ntmps49
  go_wp2_with fail
  refine HN.out.mono ?_
  rintro e w1 ⟨v, rfl, v0, v1, v2, hS, hO⟩
  have HF1 := Lib.hid (HF.out.turn hS hO)
  have HO1 := Lib.hid hO
  clear hS hO v1 v2
  by_cases hv : v = 0
  · subst hv
    go_wp2_with fail
    change Calls Try.prog 34 _ (w1.alloc (.cells (words.map Value.string).toArray 9)) _
    refine (HT.out w1 HF1.out).mono ?_
    rintro e w2 ⟨k, t, rfl, hk, ht, q, hF2, hO2⟩
    have HF2 := Lib.hid hF2; clear hF2
    go_wp2_with fail
    go_ret
    exact ⟨t, rfl, ht, HF2.out, HO1.out.trans hO2⟩
  · have hvb : (v == 0) = false := by simp [hv]
    clear hv
    go_wp2_with fail
    refine (HG.out w1 HF1.out).mono ?_
    rintro e w2 ⟨t, rfl, ht, hF2, hO2⟩
    have HF2 := Lib.hid hF2; clear hF2
    go_wp2_with fail
    go_ret
    exact ⟨t, rfl, ht, HF2.out, HO1.out.trans hO2⟩
end Go.Proofs.Ytncjgebgghpigaa
