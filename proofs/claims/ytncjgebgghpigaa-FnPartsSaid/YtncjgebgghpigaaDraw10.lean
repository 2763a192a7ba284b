/- DERIVED. A part drawn, rarely something else. -/
import Derived.Test.YtncjgebgghpigaaDraw9
import Derived.Deep.RegionLaw
namespace Go.Proofs.Ytncjgebgghpigaa
set_option maxRecDepth 100000
open Go.RowKit

theorem pick_kept {v w' : World} {b : Nat} {E : TypeId} (ys : List Int) (hb : b < v.heap.size) (hO : Only b (b + 1) (v.alloc (.cells (ys.map (Value.int .i64)).toArray E)) w') : ∀ k y, ys[k]? = some y → w'.cell? ⟨v.heap.size, k, none⟩ = some (.int .i64 y) := fun k y hy => by
  rw [World.cell?_of_block (a := ⟨v.heap.size, k, none⟩) (hO.block v.heap.size (by simp) (fun h => by omega)), cell_of_row _ _ _ _ E (0, 0) (heap_alloc_new v _)]
  simp [hy]
set_option maxHeartbeats 2000000 in
theorem l16Draw_any (A : Option Addr) (c b : Nat) (xs : List Int) (w : World) (hF : Feed w b A c xs) :
    Calls Try.prog 27 #[.pointer (some ⟨b, 0, none⟩)] w (DrawnPart 64 w b A c xs) := by
  have HN : Hid (∀ (v : World) (n : Int), n < 20000 → Feed v b A c xs → Calls Try.prog 34 #[.pointer (some ⟨b, 0, none⟩), .int .i64 n] v (Drawn v b A c xs n)) := fun v n hn h => l01Next_any A c b xs n v h.src h.rd h.byte h.small (by omega)
  have HG0 : Hid (∀ (v : World) (code : ByteArray), code.size ≤ 64 → Feed v b A c xs → Calls Try.prog 47 #[.pointer (some ⟨b, 0, none⟩), .string code] v (DrawnPart 3 v b A c xs)) := fun v code h1 h => l16Good_any A c b xs code h1 v h
  have HW : Hid (∀ v : World, Feed v b A c xs → Calls Try.prog 49 #[.pointer (some ⟨b, 0, none⟩)] v (DrawnText v b A c xs)) := fun v h => l01DrawWord_any A c b xs v h
  have HP3 : Hid (∀ (v : World) (ys : List Int), 0 < ys.length → ys.length ≤ 1000 → Feed v b A c xs → Calls Try.prog 48 #[.pointer (some ⟨b, 0, none⟩), .slice (some ⟨v.heap.size, 0, none⟩) ys.length ys.length] (v.alloc (.cells (ys.map (Value.int .i64)).toArray 2)) (PickHit v b A c xs ys)) := fun v ys h0 h1 h => pick_next A c b xs v 2 ys h0 h1 h
  have hlb := hF.src.lt
  have hT : ∀ k, k < 8 → ∃ t : ByteArray, t.size ≤ 64 ∧ (names.map Value.string).toArray[k]? = some (.string t) := fun k hk => by
    have hk' : k < names.length := hk
    refine ⟨names[k], ?_, by simp [hk']⟩
    have : ∀ t ∈ names, t.size ≤ 64 := by decide
    exact this _ (List.getElem_mem _)
  have HT := Lib.hid hT; clear hT
  have HF := Lib.hid hF; clear hF
  go_enter Try.func27, Try.ntmps27
  go_wp2_with fail
  refine (l16Names_any _).mono ?_
  rintro e w1 ⟨rfl, rfl⟩
  have e1 : (w.alloc (.cells #[.string ⟨#[]⟩, .int .i64 0, .slice none 0 0, .int .i64 0, .int .i64 0] 27)).heap.size = w.heap.size + 1 := by simp
  have hO0 : Only b (b + 1) w (w.alloc (.cells #[.string ⟨#[]⟩, .int .i64 0, .slice none 0 0, .int .i64 0, .int .i64 0] 27)) := Only.alloc _
  have hF0 := HF.out.next (balloc w (.cells #[.string ⟨#[]⟩, .int .i64 0, .slice none 0 0, .int .i64 0, .int .i64 0] 27))
  have hr4 : Row (w.alloc (.cells #[.string ⟨#[]⟩, .int .i64 0, .slice none 0 0, .int .i64 0, .int .i64 0] 27)) w.heap.size 27 5 := Row.new w #[.string ⟨#[]⟩, .int .i64 0, .slice none 0 0, .int .i64 0, .int .i64 0] 27
  generalize w.alloc (.cells #[.string ⟨#[]⟩, .int .i64 0, .slice none 0 0, .int .i64 0, .int .i64 0] 27) = W0 at e1 hO0 hF0 hr4 ⊢
  have hc1 : ∀ k, k < 8 → ∃ t : ByteArray, t.size ≤ 64 ∧ (W0.alloc (.cells (names.map Value.string).toArray 9)).cell? ⟨W0.heap.size, k, none⟩ = some (.string t) := fun k hk => by
    obtain ⟨t, h1, h2⟩ := HT.out k hk
    refine ⟨t, h1, ?_⟩
    rw [cell_of_row _ _ _ _ 9 (0, 0) (heap_alloc_new W0 _)]
    exact h2
  have hO1 : Only b (b + 1) W0 (W0.alloc (.cells (names.map Value.string).toArray 9)) := Only.alloc _
  have hF1 := hF0.next (balloc W0 (.cells (names.map Value.string).toArray 9))
  have s1 : (W0.alloc (.cells (names.map Value.string).toArray 9)).heap.size = W0.heap.size + 1 := by simp
  generalize W0.alloc (.cells (names.map Value.string).toArray 9) = W1 at hc1 hO1 hF1 s1 ⊢
  have HC1 := Lib.hid hc1; clear hc1
  have HF1 := Lib.hid hF1; clear hF1
  go_wp2_with fail
  refine (HN.out _ 8 (by omega) HF1.out).mono ?_
  rintro e w2 ⟨v2, rfl, a0, a1, _, hS, hO2⟩
  have HF2 := Lib.hid (HF1.out.turn hS hO2)
  have a1 := a1 (by omega)
  obtain ⟨k, rfl⟩ := Int.eq_ofNat_of_zero_le a0
  have hk8 : k < 8 := by omega
  obtain ⟨t, ht, q⟩ := HC1.out k hk8
  have q2 := (World.cell?_of_block (a := ⟨W0.heap.size, k, none⟩) (hO2.block W0.heap.size (by omega) (by omega))).trans q
  have s2 := hO2.size
  rw [e1] at q2
  clear hS q
  go_wp2_with fail
  refine (HG0.out _ t ht HF2.out).mono ?_
  rintro e w3 ⟨x, PA, pc, rfl, x1, x2, ox, hF3, hO3⟩
  have HF3 := Lib.hid hF3; clear hF3
  dsimp only [argV]
  go_wp2_with fail
  have s3 := hO3.size
  have hG : Hid (GoodSt w (w3.alloc (.cells #[.string x.code, .int .i64 x.slot, .slice PA x.ports.length pc, .int .i64 x.price, .int .i64 x.grams] 27)) w3.heap.size w.heap.size b A c xs x PA pc) := by
    have hO13 := (hO1.trans hO2).trans hO3
    exact ⟨HF3.out.next (balloc _ _), Row.new w3 _ _, (hr4.kept (hO13.block w.heap.size (by omega) (by omega))).alloc _, by go_simp, by go_simp, by go_simp, by go_simp, by go_simp, (ox.base (by omega)).keep (balloc _ _), (hO0.trans hO13).trans (Only.alloc _), hlb, by omega, Nat.le_refl _⟩
  clear q2 hO0 hO1 hO2 hO3 hr4 ox HF HF1 HF2 HF3 HC1 HT hF0
  generalize w3.alloc (.cells #[.string x.code, .int .i64 x.slot, .slice PA x.ports.length pc, .int .i64 x.price, .int .i64 x.grams] 27) = W at hG ⊢
  have hne : ¬ w3.heap.size = w.heap.size := by omega
  have hne' : ¬ w.heap.size = w3.heap.size := by omega
  clear s1 s2 s3
  generalize w3.heap.size = r at hG hne hne' ⊢
  generalize hr4 : w.heap.size = r4 at hG hlb e1 hne hne' ⊢
  go_wp2_with fail
  refine (HN.out _ 30 (by omega) hG.out.feed).mono ?_
  rintro e w4 ⟨v4, rfl, d0, d1, _, hS, hO⟩
  have HG4 := Lib.hid (hG.out.turn (hG.out.feed.turn hS hO) hO)
  clear hS hO hG
  by_cases h0 : v4 = 0
  · subst h0
    go_wp2_with fail
    refine (HP3.out w4 [-1, 7, 8] (by simp) (by simp) HG4.out.feed).mono ?_
    rintro e w5 ⟨v5, hv5, rfl, hF5, hO5⟩
    have HG5 := Lib.hid (HG4.out.turn hF5 hO5)
    clear hF5 hO5 hv5
    have f5 := HG5.out.row.frozen 1
    have HG6 := Lib.hid (HG5.out.setSlot v5)
    have c0 := HG5.out.c0
    have c1 := HG5.out.c1
    have c2 := HG5.out.c2
    have c3 := HG5.out.c3
    have c4 := HG5.out.c4
    obtain ⟨y0, hy0⟩ := HG5.out.row4.cell (j := 0) (by omega)
    obtain ⟨y1, hy1⟩ := HG5.out.row4.cell (j := 1) (by omega)
    obtain ⟨y2, hy2⟩ := HG5.out.row4.cell (j := 2) (by omega)
    obtain ⟨y3, hy3⟩ := HG5.out.row4.cell (j := 3) (by omega)
    obtain ⟨y4, hy4⟩ := HG5.out.row4.cell (j := 4) (by omega)
    have f0 := HG5.out.row4.frozen 0
    have f1 := HG5.out.row4.frozen 1
    have f2 := HG5.out.row4.frozen 2
    have f3 := HG5.out.row4.frozen 3
    have f4 := HG5.out.row4.frozen 4
    go_wp2_with fail
    refine bodyPost_ret (v := argV { x with slot := v5 } PA pc) (by simp [results, Try.results27, go_sem, cell_set, hy0, hy1, hy2, hy3, hy4, argV, c0, c1, c2, c3, c4, hne, hne']) rfl ?_
    have hP := fun (u0 u1 u2 u3 u4 : Value) => ((((HG6.out.out.set 0 u0).set 1 u1).set 2 u2).set 3 u3).set 4 u4
    have hp := hP (.string ({ x with slot := v5 } : PartT).code) (.int .i64 ({ x with slot := v5 } : PartT).slot) (.slice PA ({ x with slot := v5 } : PartT).ports.length pc) (.int .i64 ({ x with slot := v5 } : PartT).price) (.int .i64 ({ x with slot := v5 } : PartT).grams)
    exact ⟨{ x with slot := v5 }, PA, pc, rfl, x1, Nat.le_trans x2 (by omega), hp.own, hp.feed, hp.old⟩
  · have hb0 : (v4 == 0) = false := by simp [h0]
    by_cases h1 : v4 = 1
    · subst h1
      have z4 := HG4.out.c2
      have l4 := HG4.out.row.lt
      have l4b := HG4.out.feed.src.lt
      have n4 : ¬ r = w4.heap.size := by omega
      have n4' : ¬ w4.heap.size = r := by omega
      go_wp2_with fail
      go_region_law (first
        | (go_simp; go_at_call 34; (first
            | ((with_reducible refine (HN.out w4.drew 11 (by omega) (HG4.out.feed.next (bdrew _))).mono ?_); rintro e w5 ⟨v5, rfl, e0, e1, _, hS5, hO5⟩; have HG5 := Lib.hid ((HG4.out.next (bdrew _)).turn ((HG4.out.feed.next (bdrew _)).turn hS5 hO5) hO5); have HT5 : True := trivial)
            | (change Calls _ _ _ (w4.drew.alloc (.cells (([0, 10000, 10001] : List Int).map (Value.int .i64)).toArray 2)) _; refine (HN.out (w4.drew.alloc (.cells (([0, 10000, 10001] : List Int).map (Value.int .i64)).toArray 2)) 11 (by omega) ((HG4.out.feed.next (bdrew _)).next (balloc _ _))).mono ?_; rintro e w5 ⟨v5, rfl, e0, e1, _, hS5, hO5⟩; have HG5 := Lib.hid (((HG4.out.next (bdrew _)).next (balloc _ _)).turn (((HG4.out.feed.next (bdrew _)).next (balloc _ _)).turn hS5 hO5) hO5); have HT5 := Lib.hid (pick_kept (v := w4.drew) [0, 10000, 10001] l4b hO5); have s45 : w4.heap.size < w5.heap.size := (Nat.lt_of_lt_of_le (by simp) hO5.size))); have z5 := HG5.out.c2; have l5 := HG5.out.row.lt; have n5 : ¬ r = w5.heap.size := (by omega); have n5' : ¬ w5.heap.size = r := (by omega); clear hS5 hO5; go_wp2_with fail)
        | (go_simp; go_at_call 48; (first
            | (refine (l01Pick_any A c b w4.heap.size 3 xs [0, 10000, 10001] w5 HG5.out.feed.src HG5.out.feed.rd HG5.out.feed.byte HG5.out.feed.small (by omega) s45 HT5.out (by simp) (by simp)).mono ?_; rintro e w6 ⟨v6, hv6, rfl, hS6, hO6⟩; have HG6 := Lib.hid (HG5.out.turn (HG5.out.feed.turn hS6 hO6) hO6); clear hS6)
            | (change Calls _ _ #[_, .slice (some ⟨w5.heap.size, 0, none⟩) _ _] (w5.alloc (.cells (([0, 10000, 10001] : List Int).map (Value.int .i64)).toArray 2)) _; refine (HP3.out w5 [0, 10000, 10001] (by simp) (by simp) HG5.out.feed).mono ?_; rintro e w6 ⟨v6, hv6, rfl, hF6, hO6⟩; have HG6 := Lib.hid (HG5.out.turn hF6 hO6); clear hF6)); have z6 := HG6.out.c2; have l6 := HG6.out.row.lt; have n6 : ¬ r = w6.heap.size := (by omega); have n6' : ¬ w6.heap.size = r := (by omega); have s6 := HG6.out.old.size; clear hO6 hv6; go_wp2_with fail)
        | (have HG6a := Lib.hid (HG6.out.next (balloc w6 (.cells #[.int .i64 v5, .int .i64 v6, .bool false] 62))); refine step_append_el (by rfl) _ _ _ (by rfl) w.heap.size 62 (.agg #[.int .i64 0, .int .i64 0, .bool false]) 3 24 Try.underlying25 infoPort rfl (by omega) (by omega) portC x.ports (v5, v6, false) PA pc (by rfl) HG6a.out.own w6.heap.size _ (by rfl) (by simp) portC_len3 (three_cells (by go_simp) (by go_simp) (by go_simp)) portC_one3 (by omega) (by simp; omega) ?_; intro A2 c2 w7 hown7 hb7 hfar7; have h7 := hfar7 r HG6a.out.row.lt (HG6a.out.own.apartType HG6a.out.row (by decide)); have h74 := hfar7 r4 HG6a.out.row4.lt (HG6a.out.own.apartType HG6a.out.row4 (by decide)); have z7 := (World.cell?_of_block (a := ⟨r, 2, none⟩) h7.2).trans HG6a.out.c2; have f7 : w7.frozen? ⟨r, 2, none⟩ = false := (HG6a.out.row.kept h7.2).frozen 2; have HG7 := Lib.hid (HG6a.out.grow hown7 hb7 hfar7); have HE7 := Lib.hid h7.2; have HE4 := Lib.hid h74.2; clear h7 h74 hown7 hb7 hfar7))
      all_goals
        have c0 := (World.cell?_of_block (a := ⟨r, 0, none⟩) HE7.out).trans HG6a.out.c0
        have c1 := (World.cell?_of_block (a := ⟨r, 1, none⟩) HE7.out).trans HG6a.out.c1
        have c3 := (World.cell?_of_block (a := ⟨r, 3, none⟩) HE7.out).trans HG6a.out.c3
        have c4 := (World.cell?_of_block (a := ⟨r, 4, none⟩) HE7.out).trans HG6a.out.c4
        have hrow4 := HG6a.out.row4.kept HE4.out
        obtain ⟨y0, hy0⟩ := hrow4.cell (j := 0) (by omega)
        obtain ⟨y1, hy1⟩ := hrow4.cell (j := 1) (by omega)
        obtain ⟨y2, hy2⟩ := hrow4.cell (j := 2) (by omega)
        obtain ⟨y3, hy3⟩ := hrow4.cell (j := 3) (by omega)
        obtain ⟨y4, hy4⟩ := hrow4.cell (j := 4) (by omega)
        have f0 := hrow4.frozen 0
        have f1 := hrow4.frozen 1
        have f2 := hrow4.frozen 2
        have f3 := hrow4.frozen 3
        have f4 := hrow4.frozen 4
        go_wp2_with fail
        refine bodyPost_ret (v := argV { x with ports := x.ports ++ [(v5, v6, false)] } A2 c2) (by simp [results, Try.results27, go_sem, cell_set, hy0, hy1, hy2, hy3, hy4, argV, c0, c1, z7, c3, c4, hne, hne']) rfl ?_
        have hP := fun (u0 u1 u2 u3 u4 : Value) => ((((HG7.out.out.set 0 u0).set 1 u1).set 2 u2).set 3 u3).set 4 u4
        have hp := hP (.string ({ x with ports := x.ports ++ [(v5, v6, false)] } : PartT).code) (.int .i64 ({ x with ports := x.ports ++ [(v5, v6, false)] } : PartT).slot) (.slice A2 (x.ports.length + 1) c2) (.int .i64 ({ x with ports := x.ports ++ [(v5, v6, false)] } : PartT).price) (.int .i64 ({ x with ports := x.ports ++ [(v5, v6, false)] } : PartT).grams)
        exact ⟨{ x with ports := x.ports ++ [(v5, v6, false)] }, A2, c2, rfl, x1, by simp; omega, hp.own, hp.feed, hp.old⟩
    · have hb1 : (v4 == 1) = false := by simp [h1]
      by_cases h2 : v4 = 2
      · subst h2
        go_wp2_with fail
        refine (HP3.out w4 [-1, 0, 10000000, 10000001] (by simp) (by simp) HG4.out.feed).mono ?_
        rintro e w5 ⟨v5, hv5, rfl, hF5, hO5⟩
        have HG5 := Lib.hid (HG4.out.turn hF5 hO5)
        clear hF5 hO5 hv5
        have f5 := HG5.out.row.frozen 3
        have HG6 := Lib.hid (HG5.out.setPrice v5)
        have c0 := HG5.out.c0
        have c1 := HG5.out.c1
        have c2 := HG5.out.c2
        have c3 := HG5.out.c3
        have c4 := HG5.out.c4
        obtain ⟨y0, hy0⟩ := HG5.out.row4.cell (j := 0) (by omega)
        obtain ⟨y1, hy1⟩ := HG5.out.row4.cell (j := 1) (by omega)
        obtain ⟨y2, hy2⟩ := HG5.out.row4.cell (j := 2) (by omega)
        obtain ⟨y3, hy3⟩ := HG5.out.row4.cell (j := 3) (by omega)
        obtain ⟨y4, hy4⟩ := HG5.out.row4.cell (j := 4) (by omega)
        have f0 := HG5.out.row4.frozen 0
        have f1 := HG5.out.row4.frozen 1
        have f2 := HG5.out.row4.frozen 2
        have f3 := HG5.out.row4.frozen 3
        have f4 := HG5.out.row4.frozen 4
        go_wp2_with fail
        refine bodyPost_ret (v := argV { x with price := v5 } PA pc) (by simp [results, Try.results27, go_sem, cell_set, hy0, hy1, hy2, hy3, hy4, argV, c0, c1, c2, c3, c4, hne, hne']) rfl ?_
        have hP := fun (u0 u1 u2 u3 u4 : Value) => ((((HG6.out.out.set 0 u0).set 1 u1).set 2 u2).set 3 u3).set 4 u4
        have hp := hP (.string ({ x with price := v5 } : PartT).code) (.int .i64 ({ x with price := v5 } : PartT).slot) (.slice PA ({ x with price := v5 } : PartT).ports.length pc) (.int .i64 ({ x with price := v5 } : PartT).price) (.int .i64 ({ x with price := v5 } : PartT).grams)
        exact ⟨{ x with price := v5 }, PA, pc, rfl, x1, Nat.le_trans x2 (by omega), hp.own, hp.feed, hp.old⟩
      · have hb2 : (v4 == 2) = false := by simp [h2]
        by_cases h3 : v4 = 3
        · subst h3
          go_wp2_with fail
          refine (HW.out w4 HG4.out.feed).mono ?_
          rintro e w5 ⟨tx, rfl, ht5, hF5, hO5⟩
          have HG5 := Lib.hid (HG4.out.turn hF5 hO5)
          clear hF5 hO5
          have f5 := HG5.out.row.frozen 0
          have HG6 := Lib.hid (HG5.out.setCode tx)
          have c0 := HG5.out.c0
          have c1 := HG5.out.c1
          have c2 := HG5.out.c2
          have c3 := HG5.out.c3
          have c4 := HG5.out.c4
          obtain ⟨y0, hy0⟩ := HG5.out.row4.cell (j := 0) (by omega)
          obtain ⟨y1, hy1⟩ := HG5.out.row4.cell (j := 1) (by omega)
          obtain ⟨y2, hy2⟩ := HG5.out.row4.cell (j := 2) (by omega)
          obtain ⟨y3, hy3⟩ := HG5.out.row4.cell (j := 3) (by omega)
          obtain ⟨y4, hy4⟩ := HG5.out.row4.cell (j := 4) (by omega)
          have f0 := HG5.out.row4.frozen 0
          have f1 := HG5.out.row4.frozen 1
          have f2 := HG5.out.row4.frozen 2
          have f3 := HG5.out.row4.frozen 3
          have f4 := HG5.out.row4.frozen 4
          go_wp2_with fail
          refine bodyPost_ret (v := argV { x with code := tx } PA pc) (by simp [results, Try.results27, go_sem, cell_set, hy0, hy1, hy2, hy3, hy4, argV, c0, c1, c2, c3, c4, hne, hne']) rfl ?_
          have hP := fun (u0 u1 u2 u3 u4 : Value) => ((((HG6.out.out.set 0 u0).set 1 u1).set 2 u2).set 3 u3).set 4 u4
          have hp := hP (.string ({ x with code := tx } : PartT).code) (.int .i64 ({ x with code := tx } : PartT).slot) (.slice PA ({ x with code := tx } : PartT).ports.length pc) (.int .i64 ({ x with code := tx } : PartT).price) (.int .i64 ({ x with code := tx } : PartT).grams)
          exact ⟨{ x with code := tx }, PA, pc, rfl, ht5, Nat.le_trans x2 (by omega), hp.own, hp.feed, hp.old⟩
        · have hb3 : (v4 == 3) = false := by simp [h3]
          clear h0 h1 h2 h3
          have c0 := HG4.out.c0
          have c1 := HG4.out.c1
          have c2 := HG4.out.c2
          have c3 := HG4.out.c3
          have c4 := HG4.out.c4
          obtain ⟨y0, hy0⟩ := HG4.out.row4.cell (j := 0) (by omega)
          obtain ⟨y1, hy1⟩ := HG4.out.row4.cell (j := 1) (by omega)
          obtain ⟨y2, hy2⟩ := HG4.out.row4.cell (j := 2) (by omega)
          obtain ⟨y3, hy3⟩ := HG4.out.row4.cell (j := 3) (by omega)
          obtain ⟨y4, hy4⟩ := HG4.out.row4.cell (j := 4) (by omega)
          have f0 := HG4.out.row4.frozen 0
          have f1 := HG4.out.row4.frozen 1
          have f2 := HG4.out.row4.frozen 2
          have f3 := HG4.out.row4.frozen 3
          have f4 := HG4.out.row4.frozen 4
          go_wp2_with fail
          refine bodyPost_ret (v := argV x PA pc) (by simp [results, Try.results27, go_sem, cell_set, hy0, hy1, hy2, hy3, hy4, argV, c0, c1, c2, c3, c4, hne, hne']) rfl ?_
          have hP := fun (u0 u1 u2 u3 u4 : Value) => ((((HG4.out.out.set 0 u0).set 1 u1).set 2 u2).set 3 u3).set 4 u4
          have hp := hP (.string (x : PartT).code) (.int .i64 (x : PartT).slot) (.slice PA (x : PartT).ports.length pc) (.int .i64 (x : PartT).price) (.int .i64 (x : PartT).grams)
          exact ⟨x, PA, pc, rfl, x1, Nat.le_trans x2 (by omega), hp.own, hp.feed, hp.old⟩
end Go.Proofs.Ytncjgebgghpigaa
