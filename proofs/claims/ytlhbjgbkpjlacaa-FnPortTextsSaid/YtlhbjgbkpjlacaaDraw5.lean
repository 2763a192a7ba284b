/- DERIVED. Draws of chapter 16, made of the ones before. -/
import Derived.Test.YtlhbjgbkpjlacaaDraw4
namespace Go.Proofs.Ytlhbjgbkpjlacaa
set_option maxRecDepth 100000
open Go.RowKit

def names : List ByteArray := [⟨#[97, 110, 99, 104, 111, 114]⟩, ⟨#[98, 111, 108, 116]⟩, ⟨#[99, 114, 97, 110, 107]⟩, ⟨#[102, 111, 114, 107]⟩, ⟨#[102, 114, 97, 109, 101]⟩, ⟨#[104, 101, 97, 100, 115, 101, 116]⟩, ⟨#[112, 111, 115, 116]⟩, ⟨#[115, 97, 100, 100, 108, 101]⟩]
theorem l16Names_any (w : World) : Calls Try.prog 146 #[] w fun e w' => e = .returned (.slice (some ⟨w.heap.size, 0, none⟩) 8 8) ∧ w' = w.alloc (.cells (names.map Value.string).toArray 9) := by
  go_enter Try.func146, Try.ntmps146
  go_wp2_with fail
  go_ret
  exact ⟨rfl, rfl⟩

/-- The port that a law is asked about. -/
def GivenPort (w : World) (e : Ending) (w' : World) : Prop := ∃ (k s : Int) (p : Bool), e = .returned (.agg #[.int .i64 k, .int .i64 s, .bool p]) ∧ 0 ≤ k ∧ k ≤ 20 ∧ 0 ≤ s ∧ s ≤ 10001 ∧ Below w.heap.size w w'
theorem DrawPortText_any (A : Option Addr) (c : Nat) (xs : List Int) (w : World) (hr : Rd w w.heap.size 1 uC A xs) (hx : ∀ x ∈ xs, 0 ≤ x ∧ x < 256) (hm : xs.length ≤ 4096) :
    Calls Try.prog 14 #[.slice A xs.length c] w (GivenPort w) := by
  have hlV : w.heap.size < (w.alloc (.cells #[.int .i64 0, .int .i64 0, .bool false] 23)).heap.size := by simp
  have hbV : Below w.heap.size w (w.alloc (.cells #[.int .i64 0, .int .i64 0, .bool false] 23)) := balloc _ _
  have hrV : Rd (w.alloc (.cells #[.int .i64 0, .int .i64 0, .bool false] 23)) w.heap.size 1 uC A xs := hr.below hbV
  have HS := Lib.hid (l01From_any A c xs (w.alloc (.cells #[.int .i64 0, .int .i64 0, .bool false] 23)) (hrV.more (Nat.le_of_lt hlV)) hx hm)
  have HP : Hid (∀ (v : World) (b : Nat), Feed v b A c xs → Calls Try.prog 89 #[.pointer (some ⟨b, 0, none⟩)] v (DrawnPort v b A c xs)) := fun v b h => l16DrawPort_any A c b xs v h
  have HX := Lib.hid hx; clear hx
  have HK : Hid (∀ v : World, Below (w.alloc (.cells #[.int .i64 0, .int .i64 0, .bool false] 23)).heap.size (w.alloc (.cells #[.int .i64 0, .int .i64 0, .bool false] 23)) v → v.cell? ⟨w.heap.size, 0, none⟩ = some (.int .i64 0) ∧ v.cell? ⟨w.heap.size, 1, none⟩ = some (.int .i64 0) ∧ v.cell? ⟨w.heap.size, 2, none⟩ = some (.bool false) ∧ (∀ j, v.frozen? ⟨w.heap.size, j, none⟩ = false)) := fun v hv => by
    have e := hv.block w.heap.size hlV
    refine ⟨(World.cell?_of_block (a := ⟨w.heap.size, 0, none⟩) e).trans (by go_simp), (World.cell?_of_block (a := ⟨w.heap.size, 1, none⟩) e).trans (by go_simp), (World.cell?_of_block (a := ⟨w.heap.size, 2, none⟩) e).trans (by go_simp), fun j => ?_⟩
    exact ((Row.new w #[.int .i64 0, .int .i64 0, .bool false] 23).kept e).frozen j
  go_enter Try.func14, Try.ntmps14
  go_wp2_with fail
  generalize (w.alloc (.cells #[.int .i64 0, .int .i64 0, .bool false] 23)) = V at hlV hbV hrV HS HK ⊢
  generalize hr0 : w.heap.size = r at HK hlV hrV ⊢
  refine HS.out.mono ?_
  rintro e w1 ⟨b, rfl, hS, hbl, hb1⟩
  have HF : Hid (Feed w1 b A c xs) := ⟨hS, (hrV.below (B := r) ⟨hb1.os, hb1.tape, hb1.output, hb1.size, fun k hk => hb1.block k (by omega)⟩).more (by omega), HX.out, hm⟩
  clear hS HS hr
  go_wp2_with fail
  refine (HP.out w1 b HF.out).mono ?_
  rintro e w2 ⟨k, s, p, rfl, k0, k1, s0, s1, _, hO⟩
  have hb2 : Below V.heap.size V w2 := hb1.trans (hO.below hbl hb1.size)
  obtain ⟨z0, z1, z2, zf⟩ := HK.out w2 hb2
  have zf0 := zf 0
  have zf1 := zf 1
  have zf2 := zf 2
  clear zf HK hO HF
  go_wp2_with fail
  have u0 : (((w2.setCell ⟨r, 0, none⟩ (.int .i64 k)).setCell ⟨r, 1, none⟩ (.int .i64 s)).setCell ⟨r, 2, none⟩ (.bool p)).cell? ⟨r, 0, none⟩ = some (.int .i64 k) := by rw [setCell_other (by omega), setCell_other (by omega)]; exact setCell_same z0
  have u1 : (((w2.setCell ⟨r, 0, none⟩ (.int .i64 k)).setCell ⟨r, 1, none⟩ (.int .i64 s)).setCell ⟨r, 2, none⟩ (.bool p)).cell? ⟨r, 1, none⟩ = some (.int .i64 s) := by rw [setCell_other (by omega)]; exact setCell_same (v := .int .i64 0) (by rw [setCell_other (by omega)]; exact z1)
  have u2 : (((w2.setCell ⟨r, 0, none⟩ (.int .i64 k)).setCell ⟨r, 1, none⟩ (.int .i64 s)).setCell ⟨r, 2, none⟩ (.bool p)).cell? ⟨r, 2, none⟩ = some (.bool p) := setCell_same (v := .bool false) (by rw [setCell_other (by omega), setCell_other (by omega)]; exact z2)
  have hrw : w.heap.size ≤ r := by omega
  have hb02 : Below w.heap.size w w2 := hbV.trans ⟨hb2.os, hb2.tape, hb2.output, hb2.size, fun k hk => hb2.block k (by omega)⟩
  have hBU := ((hb02.setCell (p := ⟨r, 0, none⟩) hrw (.int .i64 k)).setCell (p := ⟨r, 1, none⟩) hrw (.int .i64 s)).setCell (p := ⟨r, 2, none⟩) hrw (.bool p)
  generalize ((w2.setCell ⟨r, 0, none⟩ (.int .i64 k)).setCell ⟨r, 1, none⟩ (.int .i64 s)).setCell ⟨r, 2, none⟩ (.bool p) = X at u0 u1 u2 hBU ⊢
  refine bodyPost_ret (v := .agg #[.int .i64 k, .int .i64 s, .bool p]) (by simp [results, Try.results14, go_sem, u0, u1, u2]) rfl ?_
  exact ⟨k, s, p, rfl, k0, k1, s0, s1, hBU⟩
end Go.Proofs.Ytlhbjgbkpjlacaa
