/- DERIVED. Ports drawn. -/
import Derived.Test.YtlhbjgbkpjlacaaDraw3
namespace Go.Proofs.Ytlhbjgbkpjlacaa
set_option maxRecDepth 100000
open Go.RowKit

theorem Feed.under {w w' : World} {b c B : Nat} {A : Option Addr} {xs : List Int} (h : Feed w b A c xs) (hb : Below B w w') (hB : b < B) : Feed w' b A c xs := by
  refine ⟨?_, h.rd.below ⟨hb.os, hb.tape, hb.output, hb.size, fun k hk => hb.block k (by omega)⟩, h.byte, h.small⟩
  obtain ⟨k, sd, q0, q1, q2, hk, h0, h2, hf, hl⟩ := h.src
  have e := hb.block b hB
  refine ⟨k, sd, (World.cell?_of_block (a := ⟨b, 0, none⟩) e).trans q0, (World.cell?_of_block (a := ⟨b, 1, none⟩) e).trans q1, (World.cell?_of_block (a := ⟨b, 2, none⟩) e).trans q2, hk, h0, h2, fun j => ?_, Nat.lt_of_lt_of_le hl hb.size⟩
  have := hf j
  unfold World.frozen? at this ⊢
  simp only [e] at this ⊢
  exact this
theorem Feed.setFar {w : World} {b c : Nat} {A : Option Addr} {xs : List Int} (h : Feed w b A c xs) {p : Addr} (hp : b < p.block) (u : Value) : Feed (w.setCell p u) b A c xs :=
  h.under (B := p.block) ⟨rfl, rfl, rfl, by simp [World.setCell], fun k hk => Below.heap_setCell _ _ _ _ (by omega)⟩ hp
theorem Only.setNew {lo hi : Nat} {w w' : World} (h : Only lo hi w w') {p : Addr} (hp : w.heap.size ≤ p.block) (u : Value) : Only lo hi w (w'.setCell p u) :=
  ⟨h.os, h.tape, h.output, by have := h.size; simpa [World.setCell] using this, fun k hk hn => (Below.heap_setCell _ _ _ _ (by omega)).trans (h.block k hk hn)⟩
/-- A number of a list has been picked. -/
def PickHit (w : World) (b : Nat) (A : Option Addr) (c : Nat) (xs ys : List Int) (e : Ending) (w' : World) : Prop := ∃ v ∈ ys, e = .returned (.int .i64 v) ∧ Feed w' b A c xs ∧ Only b (b + 1) w w'
theorem pick_next (A : Option Addr) (c b : Nat) (xs : List Int) (w : World) (E : TypeId) (ys : List Int) (h0 : 0 < ys.length) (h1 : ys.length ≤ 1000) (hF : Feed w b A c xs) :
    Calls Try.prog 118 #[.pointer (some ⟨b, 0, none⟩), .slice (some ⟨w.heap.size, 0, none⟩) ys.length ys.length] (w.alloc (.cells (ys.map (Value.int .i64)).toArray E)) (PickHit w b A c xs ys) := by
  have hlb := hF.src.lt
  have hV := hF.next (balloc w (.cells (ys.map (Value.int .i64)).toArray E))
  have hOV : Only b (b + 1) w (w.alloc (.cells (ys.map (Value.int .i64)).toArray E)) := Only.alloc _
  refine (l01Pick_any A c b w.heap.size ys.length xs ys _ hV.src hV.rd hV.byte hV.small (by omega) (by simp) (fun k y hy => ?_) h0 h1).mono ?_
  · rw [cell_of_row _ _ _ _ E (0, 0) (heap_alloc_new w _)]
    simp [hy]
  · rintro e w1 ⟨v, hv, rfl, hS, hO⟩
    exact ⟨v, hv, rfl, hV.turn hS hO, hOV.trans hO⟩
/-- A port drawn. -/
def DrawnPort (w : World) (b : Nat) (A : Option Addr) (c : Nat) (xs : List Int) (e : Ending) (w' : World) : Prop := ∃ (k s : Int) (p : Bool), e = .returned (.agg #[.int .i64 k, .int .i64 s, .bool p]) ∧ 0 ≤ k ∧ k ≤ 20 ∧ 0 ≤ s ∧ s ≤ 10001 ∧ Feed w' b A c xs ∧ Only b (b + 1) w w'

set_option maxHeartbeats 1000000 in
theorem l16DrawPort_any (A : Option Addr) (c b : Nat) (xs : List Int) (w : World) (hF : Feed w b A c xs) :
    Calls Try.prog 89 #[.pointer (some ⟨b, 0, none⟩)] w (DrawnPort w b A c xs) := by
  have HN : Hid (∀ (v : World) (n : Int), n < 20000 → Feed v b A c xs → Calls Try.prog 91 #[.pointer (some ⟨b, 0, none⟩), .int .i64 n] v (Drawn v b A c xs n)) := fun v n hn h => l01Next_any A c b xs n v h.src h.rd h.byte h.small (by omega)
  have hlb := hF.src.lt
  have HF := Lib.hid hF; clear hF
  have hV := HF.out.next (balloc w (.cells #[.int .i64 0, .int .i64 0, .bool false] 23))
  have hOV : Only b (b + 1) w (w.alloc (.cells #[.int .i64 0, .int .i64 0, .bool false] 23)) := Only.alloc _
  have HK : Hid (∀ v : World, Only b (b + 1) (w.alloc (.cells #[.int .i64 0, .int .i64 0, .bool false] 23)) v → v.cell? ⟨w.heap.size, 0, none⟩ = some (.int .i64 0) ∧ v.cell? ⟨w.heap.size, 1, none⟩ = some (.int .i64 0) ∧ v.cell? ⟨w.heap.size, 2, none⟩ = some (.bool false) ∧ (∀ j, v.frozen? ⟨w.heap.size, j, none⟩ = false) ∧ w.heap.size < v.heap.size) := fun v hv => by
    have hl : w.heap.size < (w.alloc (.cells #[.int .i64 0, .int .i64 0, .bool false] 23)).heap.size := by simp
    have e := hv.block w.heap.size hl (fun h => by omega)
    refine ⟨(World.cell?_of_block (a := ⟨w.heap.size, 0, none⟩) e).trans (by go_simp), (World.cell?_of_block (a := ⟨w.heap.size, 1, none⟩) e).trans (by go_simp), (World.cell?_of_block (a := ⟨w.heap.size, 2, none⟩) e).trans (by go_simp), fun j => ?_, Nat.lt_of_lt_of_le hl hv.size⟩
    exact ((Row.new w #[.int .i64 0, .int .i64 0, .bool false] 23).kept e).frozen j
  have hnr : ¬ w.heap.size = b := by omega
  go_enter Try.func89, Try.ntmps89
  go_wp2_with fail
  generalize w.alloc (.cells #[.int .i64 0, .int .i64 0, .bool false] 23) = V at hV hOV HK ⊢
  generalize hr : w.heap.size = r at HK hnr ⊢
  refine (HN.out V 10 (by omega) hV).mono ?_
  rintro e w1 ⟨v4, rfl, a0, a1, _, hS, hO⟩
  have hF1 := hV.turn hS hO
  have hO1 := hO
  clear hS hO hV HF
  have HF1 := Lib.hid hF1; clear hF1
  go_wp2_with fail
  refine (HN.out w1 24 (by omega) HF1.out).mono ?_
  rintro e w2 ⟨v6, rfl, b0, b1, _, hS, hO⟩
  have HF2 := Lib.hid (HF1.out.turn hS hO)
  have hO2 := hO1.trans hO
  clear hS hO HF1 hO1
  have a1 := a1 (by omega)
  have b1 := b1 (by omega)
  have k0 : 0 ≤ v6 / 23 * 5 := by omega
  have k1 : v6 / 23 * 5 ≤ 5 := by omega
  go_wp2_with fail
  refine (HN.out w2 400 (by omega) HF2.out).mono ?_
  rintro e w3 ⟨v12, rfl, c0, c1, _, hS, hO⟩
  have HF3 := Lib.hid (HF2.out.turn hS hO)
  have hO3 := hO2.trans hO
  clear hS hO HF2 hO2
  go_wp2_with fail
  refine (HN.out w3 10001 (by omega) HF3.out).mono ?_
  rintro e w4 ⟨v14, rfl, d0, d1, _, hS, hO⟩
  have HF4 := Lib.hid (HF3.out.turn hS hO)
  have hO4 := hO3.trans hO
  clear hS hO HF3 hO3
  have c1 := c1 (by omega)
  have d1 := d1 (by omega)
  have HPk := Lib.hid (pick_next A c b xs w4 2 [v12, 0, 10000, v14, 10001] (by simp) (by simp) HF4.out)
  go_wp2_with fail
  refine HPk.out.mono ?_
  rintro e w5 ⟨v16, hv, rfl, hF5, hO⟩
  have s0 : 0 ≤ v16 ∧ v16 ≤ 10001 := by
    simp only [List.mem_cons, List.not_mem_nil, or_false] at hv
    omega
  obtain ⟨s0, s1⟩ := s0
  have HF5 := Lib.hid hF5
  have hO5 := hO4.trans hO
  clear hv hO hF5 HF4 hO4 HPk
  go_wp2_with fail
  refine (HN.out w5 2 (by omega) HF5.out).mono ?_
  rintro e w6 ⟨v18, rfl, e0, e1, _, hS, hO⟩
  have HF6 := Lib.hid (HF5.out.turn hS hO)
  have hO6 := hO5.trans hO
  clear hS hO HF5 hO5
  obtain ⟨z0, z1, z2, zf, zl⟩ := HK.out w6 hO6
  have zf0 := zf 0
  have zf1 := zf 1
  have zf2 := zf 2
  clear zf HK
  go_wp2_with fail
  have u0 : (((w6.setCell ⟨r, 0, none⟩ (.int .i64 (v4 + v6 / 23 * 5))).setCell ⟨r, 1, none⟩ (.int .i64 v16)).setCell ⟨r, 2, none⟩ (.bool (v18 == 0))).cell? ⟨r, 0, none⟩ = some (.int .i64 (v4 + v6 / 23 * 5)) := by rw [setCell_other (by omega), setCell_other (by omega)]; exact setCell_same z0
  have u1 : (((w6.setCell ⟨r, 0, none⟩ (.int .i64 (v4 + v6 / 23 * 5))).setCell ⟨r, 1, none⟩ (.int .i64 v16)).setCell ⟨r, 2, none⟩ (.bool (v18 == 0))).cell? ⟨r, 1, none⟩ = some (.int .i64 v16) := by rw [setCell_other (by omega)]; exact setCell_same (v := .int .i64 0) (by rw [setCell_other (by omega)]; exact z1)
  have u2 : (((w6.setCell ⟨r, 0, none⟩ (.int .i64 (v4 + v6 / 23 * 5))).setCell ⟨r, 1, none⟩ (.int .i64 v16)).setCell ⟨r, 2, none⟩ (.bool (v18 == 0))).cell? ⟨r, 2, none⟩ = some (.bool (v18 == 0)) := setCell_same (v := .bool false) (by rw [setCell_other (by omega), setCell_other (by omega)]; exact z2)
  have hbr : b < r := by omega
  have hrw : w.heap.size ≤ r := by omega
  have hFU := ((HF6.out.setFar (p := ⟨r, 0, none⟩) hbr (.int .i64 (v4 + v6 / 23 * 5))).setFar (p := ⟨r, 1, none⟩) hbr (.int .i64 v16)).setFar (p := ⟨r, 2, none⟩) hbr (.bool (v18 == 0))
  have hOU := (((hOV.trans hO6).setNew (p := ⟨r, 0, none⟩) hrw (.int .i64 (v4 + v6 / 23 * 5))).setNew (p := ⟨r, 1, none⟩) hrw (.int .i64 v16)).setNew (p := ⟨r, 2, none⟩) hrw (.bool (v18 == 0))
  generalize ((w6.setCell ⟨r, 0, none⟩ (.int .i64 (v4 + v6 / 23 * 5))).setCell ⟨r, 1, none⟩ (.int .i64 v16)).setCell ⟨r, 2, none⟩ (.bool (v18 == 0)) = X at u0 u1 u2 hFU hOU ⊢
  refine bodyPost_ret (v := .agg #[.int .i64 (v4 + v6 / 23 * 5), .int .i64 v16, .bool (v18 == 0)]) (by simp [results, Try.results89, go_sem, u0, u1, u2]) rfl ?_
  exact ⟨_, _, _, rfl, by omega, by omega, s0, s1, hFU, hOU⟩
end Go.Proofs.Ytlhbjgbkpjlacaa
