/- DERIVED. A part drawn. -/
import Derived.Test.YtncjgebgghpigaaDraw6
import Derived.Deep.RegionHeld3
import Derived.Deep.RegionLaw
namespace Go.Proofs.Ytncjgebgghpigaa
set_option maxRecDepth 100000
open Go.RowKit

set_option maxHeartbeats 1000000 in
theorem l16Good_any (A : Option Addr) (c b : Nat) (xs : List Int) (code : ByteArray) (hcode : code.size ≤ 64) (w : World) (hF : Feed w b A c xs) :
    Calls Try.prog 47 #[.pointer (some ⟨b, 0, none⟩), .string code] w (DrawnPart 3 w b A c xs) := by
  have HN : Hid (∀ (v : World) (n : Int), n < 20000 → Feed v b A c xs → Calls Try.prog 34 #[.pointer (some ⟨b, 0, none⟩), .int .i64 n] v (Drawn v b A c xs n)) := fun v n hn h => l01Next_any A c b xs n v h.src h.rd h.byte h.small (by omega)
  have hlb := hF.src.lt
  have HF := Lib.hid hF; clear hF
  go_enter Try.func47, Try.ntmps47
  go_wp2_with fail
  have HF0 := Lib.hid (HF.out.next (balloc w (.cells #[.string ⟨#[]⟩, .int .i64 0, .slice none 0 0, .int .i64 0, .int .i64 0] 27)))
  refine (HN.out _ 3 (by omega) HF0.out).mono ?_
  rintro e w1 ⟨v1, rfl, a0, a1, _, hS, hO⟩
  have HF1 := Lib.hid (HF0.out.turn hS hO)
  clear hS
  go_wp2_with fail
  have HF1' := Lib.hid (HF1.out.next (balloc w1 (.cells #[] 62)))
  refine (HN.out _ 60 (by omega) HF1'.out).mono ?_
  rintro e w2 ⟨v2, rfl, b0, b1, _, hS, hO2⟩
  have HF2 := Lib.hid (HF1'.out.turn hS hO2)
  clear hS
  have b1 := b1 (by omega)
  go_wp2_with fail
  refine (HN.out _ 900 (by omega) HF2.out).mono ?_
  rintro e w3 ⟨v3, rfl, c0, c1, _, hS, hO3⟩
  have HF3 := Lib.hid (HF2.out.turn hS hO3)
  clear hS
  have c1 := c1 (by omega)
  go_wp2_with fail
  have hO0 : Only b (b + 1) w (w.alloc (.cells #[.string ⟨#[]⟩, .int .i64 0, .slice none 0 0, .int .i64 0, .int .i64 0] 27)) := Only.alloc _
  have hO1a : Only b (b + 1) w1 (w1.alloc (.cells #[] 62)) := Only.alloc _
  have hOW : Only b (b + 1) w3 (w3.alloc (.cells #[.string code, .int .i64 v1, .slice (some ⟨w1.heap.size, 0, none⟩) 0 0, .int .i64 (100 * (1 + v2)), .int .i64 (50 + v3)] 27)) := Only.alloc _
  have s0 := hO0.size
  have s1 := hO.size
  have s1a := hO1a.size
  have s2 := hO2.size
  have s3 := hO3.size
  have z0 : (w.alloc (.cells #[.string ⟨#[]⟩, .int .i64 0, .slice none 0 0, .int .i64 0, .int .i64 0] 27)).heap.size = w.heap.size + 1 := by simp
  have z1 : (w1.alloc (.cells #[] 62)).heap.size = w1.heap.size + 1 := by simp
  have hG : Hid (GoodSt w (w3.alloc (.cells #[.string code, .int .i64 v1, .slice (some ⟨w1.heap.size, 0, none⟩) 0 0, .int .i64 (100 * (1 + v2)), .int .i64 (50 + v3)] 27)) w3.heap.size w.heap.size b A c xs ⟨code, v1, [], 100 * (1 + v2), 50 + v3⟩ (some ⟨w1.heap.size, 0, none⟩) 0) := by
    have hO3' := (((hO0.trans hO).trans hO1a).trans hO2).trans hO3
    have hrow4 : Row w3 w.heap.size 27 5 := (Row.new w #[.string ⟨#[]⟩, .int .i64 0, .slice none 0 0, .int .i64 0, .int .i64 0] 27).kept ((((hO.trans hO1a).trans hO2).trans hO3).block w.heap.size (by omega) (by omega))
    have hownp : Own (w1.alloc (.cells #[] 62)) w.heap.size 62 3 portC (some ⟨w1.heap.size, 0, none⟩) 0 [] := Own.made _ (by omega) rfl
    exact ⟨HF3.out.next (balloc _ _), Row.new w3 _ _, hrow4.alloc _, by go_simp, by go_simp, by go_simp, by go_simp, by go_simp, (((hownp.only hO2 (by omega)).only hO3 (by omega)).keep (balloc _ _)), hO3'.trans hOW, hlb, by omega, Nat.le_refl _⟩
  clear hO0 hO hO1a hO2 hO3 hOW s0 s1 s1a s2 z0 z1 HF HF0 HF1 HF1' HF2 HF3
  generalize w3.alloc (.cells #[.string code, .int .i64 v1, .slice (some ⟨w1.heap.size, 0, none⟩) 0 0, .int .i64 (100 * (1 + v2)), .int .i64 (50 + v3)] 27) = W at hG ⊢
  generalize w3.heap.size = r at hG s3 ⊢
  generalize hr4 : w.heap.size = r4 at hG hlb ⊢
  go_loopw [6] (fun i wr => ∃ (k : Nat) (x : PartT) (PA : Option Addr) (pc : Nat), k ≤ 3 ∧ i = .int .i64 k ∧ x.code = code ∧ x.ports.length ≤ k ∧ GoodSt w wr r r4 b A c xs x PA pc) (fun i _ => 3 - (intOf i).toNat)
  case atStart => exact ⟨0, _, _, _, Nat.zero_le _, rfl, rfl, Nat.le_refl _, hG.out⟩
  case round =>
    obtain ⟨k, x, PA, pc, hk, rfl, hxc, hxl, hg⟩ := hrel
    have HG := Lib.hid hg; clear hg
    by_cases hlt : k < 3
    · go_wp2_with fail
      refine (HN.out wr 4 (by omega) HG.out.feed).mono ?_
      rintro e w4 ⟨v4, rfl, d0, d1, _, hS, hO⟩
      have HG4 := Lib.hid (HG.out.turn (HG.out.feed.turn hS hO) hO)
      clear hS hO HG
      by_cases hv : 0 < v4
      · have z4 := HG4.out.c2
        have l4 := HG4.out.row.lt
        have n4 : ¬ r = w4.heap.size := by omega
        have n4' : ¬ w4.heap.size = r := by omega
        go_wp2_with fail
        go_region_law (first
          | (go_simp; go_at_call 48; change Calls _ _ _ (w4.drew.alloc (.cells (([286, 318] : List Int).map (Value.int .i64)).toArray 2)) _; refine (pick_next A c b xs w4.drew 2 [286, 318] (by simp) (by simp) (HG4.out.feed.next (bdrew _))).mono ?_; rintro e w5 ⟨v5, hv5, rfl, hF5, hO5⟩; have HG5 := Lib.hid ((HG4.out.next (bdrew _)).turn hF5 hO5); have z5 := HG5.out.c2; clear hF5 hO5 hv5; go_wp2_with fail)
          | (go_simp; go_at_call 34; refine (HN.out w5 2 (by omega) HG5.out.feed).mono ?_; rintro e w6 ⟨v6, rfl, e0, e1, _, hS6, hO6⟩; have HG6 := Lib.hid (HG5.out.turn (HG5.out.feed.turn hS6 hO6) hO6); have z6 := HG6.out.c2; have l6 := HG6.out.row.lt; have n6 : ¬ r = w6.heap.size := (by omega); have n6' : ¬ w6.heap.size = r := (by omega); have s6 := HG6.out.old.size; clear hS6 hO6; go_wp2_with fail)
          | (have HG6a := Lib.hid (HG6.out.next (balloc w6 (.cells #[.int .i64 (k : Int), .int .i64 v5, .bool (v6 == 0)] 62))); refine step_append_el (by rfl) _ _ _ (by rfl) w.heap.size 62 (.agg #[.int .i64 0, .int .i64 0, .bool false]) 3 24 Try.underlying25 infoPort rfl (by omega) (by omega) portC x.ports ((k : Int), v5, v6 == 0) PA pc (by rfl) HG6a.out.own w6.heap.size _ (by rfl) (by simp) portC_len3 (three_cells (by go_simp) (by go_simp) (by go_simp)) portC_one3 (by omega) (by simp; omega) ?_; intro A2 c2 w7 hown7 hb7 hfar7; have h7 := hfar7 r HG6a.out.row.lt (HG6a.out.own.apartType HG6a.out.row (by decide)); have z7 := (World.cell?_of_block (a := ⟨r, 2, none⟩) h7.2).trans HG6a.out.c2; have f7 : w7.frozen? ⟨r, 2, none⟩ = false := (HG6a.out.row.kept h7.2).frozen 2; have HG7 := Lib.hid (HG6a.out.grow hown7 hb7 hfar7); clear h7 hown7 hb7 hfar7))
        all_goals
          go_wp2_with fail
          exact ⟨⟨k + 1, { x with ports := x.ports ++ [((k : Int), v5, v6 == 0)] }, A2, c2, by omega, by go_num, hxc, by simp; omega, HG7.out⟩, by simp [intOf]; omega⟩
      · go_wp2_with fail
        exact ⟨⟨k + 1, x, PA, pc, by omega, by go_num, hxc, by omega, HG4.out⟩, by simp [intOf]; omega⟩
    · have c0 := HG.out.c0
      have c1 := HG.out.c1
      have c2 := HG.out.c2
      have c3 := HG.out.c3
      have c4 := HG.out.c4
      obtain ⟨y0, hy0⟩ := HG.out.row4.cell (j := 0) (by omega)
      obtain ⟨y1, hy1⟩ := HG.out.row4.cell (j := 1) (by omega)
      obtain ⟨y2, hy2⟩ := HG.out.row4.cell (j := 2) (by omega)
      obtain ⟨y3, hy3⟩ := HG.out.row4.cell (j := 3) (by omega)
      obtain ⟨y4, hy4⟩ := HG.out.row4.cell (j := 4) (by omega)
      have f0 := HG.out.row4.frozen 0
      have f1 := HG.out.row4.frozen 1
      have f2 := HG.out.row4.frozen 2
      have f3 := HG.out.row4.frozen 3
      have f4 := HG.out.row4.frozen 4
      go_wp2_with fail
      refine bodyPost_ret (v := argV x PA pc) (by simp [results, Try.results47, go_sem, cell_set, hy0, hy1, hy2, hy3, hy4, argV, hxc]) rfl ?_
      have hP := fun (u0 u1 u2 u3 u4 : Value) => ((((HG.out.out.set 0 u0).set 1 u1).set 2 u2).set 3 u3).set 4 u4
      have hp := hP (.string code) (.int .i64 x.slot) (.slice PA x.ports.length pc) (.int .i64 x.price) (.int .i64 x.grams)
      exact ⟨x, PA, pc, rfl, by rw [hxc]; exact hcode, by omega, hp.own, hp.feed, hp.old⟩
end Go.Proofs.Ytncjgebgghpigaa
