/- DERIVED. A rider and sizes drawn. By program (gdrawm.py). -/
import Derived.Test.YtfdnpobppelhaaaDrawL
import Derived.Test.YtfdnpobppelhaaaBlk
import Derived.Deep.RegionLaw
namespace Go.Proofs.Ytfdnpobppelhaaa
set_option maxRecDepth 100000
open Go.RowKit

def GivenRZ (w : World) (e : Ending) (w' : World) : Prop := ∃ (h i a : Int) (SA : Option Addr) (sc : Nat) (ss : List (ByteArray × Int × Int × Int)), e = .returned (.tuple #[.agg #[.int .i64 h, .int .i64 i, .int .i64 a], .slice SA ss.length sc]) ∧ Flat w' w.heap.size w'.heap.size 27 4 sizeC SA ss ∧ ss.length ≤ sc ∧ ss.length ≤ 64 ∧ (∀ x ∈ ss, x.1.size ≤ 64) ∧ Below w.heap.size w w'
set_option maxHeartbeats 4000000 in
theorem DrawSizesFor_any (A : Option Addr) (c : Nat) (xs : List Int) (w : World) (hr : Rd w w.heap.size 1 uC A xs) (hx : ∀ x ∈ xs, 0 ≤ x ∧ x < 256) (hm : xs.length ≤ 4096) :
    Calls Try.prog 95 #[.slice A xs.length c] w (GivenRZ w) := by
  have hbV : Below w.heap.size w (w.alloc (.cells #[.int .i64 0, .int .i64 0, .int .i64 0] 25)) := balloc w _
  have hB0 : Blk (w.alloc (.cells #[.int .i64 0, .int .i64 0, .int .i64 0] 25)) w.heap.size 25 [.int .i64 0, .int .i64 0, .int .i64 0] := Blk.made w _ _
  have sV : (w.alloc (.cells #[.int .i64 0, .int .i64 0, .int .i64 0] 25)).heap.size = w.heap.size + 1 := by simp
  have hlV : w.heap.size < (w.alloc (.cells #[.int .i64 0, .int .i64 0, .int .i64 0] 25)).heap.size := by simp
  have hrV : Rd (w.alloc (.cells #[.int .i64 0, .int .i64 0, .int .i64 0] 25)) (w.alloc (.cells #[.int .i64 0, .int .i64 0, .int .i64 0] 25)).heap.size 1 uC A xs := (hr.below hbV).more (Nat.le_of_lt hlV)
  have HFd : Hid (∀ (v : World) (b : Nat), Src v b A c xs → w.heap.size ≤ b → Below w.heap.size w v → Feed v b A c xs) := fun v b h1 h2 h3 => ⟨h1, (hr.below h3).more h2, hx, hm⟩
  have HS := Lib.hid (l01From_any A c xs (w.alloc (.cells #[.int .i64 0, .int .i64 0, .int .i64 0] 25)) hrV hx hm)
  have HRi : Hid (∀ (v : World) (b : Nat), Feed v b A c xs → Calls Try.prog 99 #[.pointer (some ⟨b, 0, none⟩)] v (DrawnRider v b A c xs)) := fun v b h => l19Rider_any A c b xs v h
  have HLi : Hid (∀ (v : World) (b : Nat), Feed v b A c xs → Calls Try.prog 113 #[.pointer (some ⟨b, 0, none⟩)] v (DrawnSizes v b A c xs)) := fun v b h => l19List_any A c b xs v h
  clear hr hx hrV
  go_enter Try.func95, Try.ntmps95
  go_wp2_with fail
  generalize (w.alloc (.cells #[.int .i64 0, .int .i64 0, .int .i64 0] 25)) = V at hlV hbV HS hB0 sV ⊢
  generalize hr0 : w.heap.size = r at hlV hB0 hbV HFd sV ⊢
  refine HS.out.mono ?_
  rintro e w1 ⟨b, rfl, hS, hbl, hb1⟩
  have hbw1 : Below r w w1 := hbV.trans (hb1.mono (by omega))
  have HF1 := Lib.hid (HFd.out w1 b hS (by omega) hbw1)
  have hB1 := hB0.next hb1
  have hlt1 := hS.lt
  clear hS HS HFd hb1 hbV hB0
  go_wp2_with fail
  refine (HRi.out w1 b HF1.out).mono ?_
  rintro e w2 ⟨h, i, a, rfl, _, _, hF2, hO2⟩
  have hB2 := hB1.only hO2 (by omega)
  have hbw2 : Below r w w2 := hbw1.trans (hO2.below (by omega) (by omega))
  have s2 := hO2.size
  have HF2 := Lib.hid hF2
  dsimp only [riderV]
  clear hB1 hO2 HF1 HRi hbw1 hF2
  go_wp2_with fail
  have hF3 := HF2.out.next (balloc w2 (.cells #[.int .i64 h, .int .i64 i, .int .i64 a] 25))
  have hB3 := hB2.next (balloc w2 (.cells #[.int .i64 h, .int .i64 i, .int .i64 a] 25))
  have hR3 : Blk (w2.alloc (.cells #[.int .i64 h, .int .i64 i, .int .i64 a] 25)) w2.heap.size 25 [.int .i64 h, .int .i64 i, .int .i64 a] := Blk.made w2 _ _
  have hbw3 : Below r w (w2.alloc (.cells #[.int .i64 h, .int .i64 i, .int .i64 a] 25)) := hbw2.alloc (by omega) _
  have s3 : (w2.alloc (.cells #[.int .i64 h, .int .i64 i, .int .i64 a] 25)).heap.size = w2.heap.size + 1 := by simp
  clear HF2 hB2 hbw2
  generalize w2.alloc (.cells #[.int .i64 h, .int .i64 i, .int .i64 a] 25) = W at hF3 hB3 hR3 hbw3 s3 ⊢
  have hne : ¬ w2.heap.size = r := by omega
  have hne' : ¬ r = w2.heap.size := by omega
  have hbr : b < w2.heap.size := by omega
  generalize w2.heap.size = r5 at hR3 hne hne' hbr s3 s2 ⊢
  have HF3 := Lib.hid hF3; clear hF3
  have HB3 := Lib.hid hB3; clear hB3
  have HR3 := Lib.hid hR3
  have HW3 := Lib.hid hbw3; clear hbw3
  have q0 := hR3.cell (j := 0) rfl
  have q1 := hR3.cell (j := 1) rfl
  have q2 := hR3.cell (j := 2) rfl
  have d0 := HB3.out.cell (j := 0) rfl
  have d1 := HB3.out.cell (j := 1) rfl
  have d2 := HB3.out.cell (j := 2) rfl
  have g0 := HB3.out.frozen 0
  have g1 := HB3.out.frozen 1
  have g2 := HB3.out.frozen 2
  clear hR3
  go_region_law (first
    | (go_simp; go_at_call 113; (refine (HLi.out W.drew b (HF3.out.next (bdrew _))).mono ?_); rintro e w3 ⟨SA, sc, ss, rfl, fs, hsc, hsl, hsz, hF4, hO⟩; have HW4 := Lib.hid ((HW3.out.trans ((bdrew W).mono (by omega))).trans (hO.below (by omega) (by have e : W.drew.heap.size = W.heap.size := rfl; omega))); have HB4 := Lib.hid ((HB3.out.next (bdrew _)).only hO (by omega)); have HR4 := Lib.hid ((HR3.out.next (bdrew _)).only hO (by omega)); have HS4 := Lib.hid fs; have HZ4 := Lib.hid hsz; have x0 := HR4.out.cell (j := 0) rfl; have x1 := HR4.out.cell (j := 1) rfl; have x2 := HR4.out.cell (j := 2) rfl; have y0 := HB4.out.cell (j := 0) rfl; have y1 := HB4.out.cell (j := 1) rfl; have y2 := HB4.out.cell (j := 2) rfl; have f0 := HB4.out.frozen 0; have f1 := HB4.out.frozen 1; have f2 := HB4.out.frozen 2; clear fs hsz hF4 hO; go_wp2_with fail))
  all_goals
    go_wp2_with fail
    have hX : Blk (((w3.setCell ⟨r, 0, none⟩ (.int .i64 h)).setCell ⟨r, 1, none⟩ (.int .i64 i)).setCell ⟨r, 2, none⟩ (.int .i64 a)) r 25 [.int .i64 h, .int .i64 i, .int .i64 a] := ((HB4.out.set 0 (.int .i64 h)).set 1 (.int .i64 i)).set 2 (.int .i64 a)
    have u0 := hX.cell (j := 0) rfl
    have u1 := hX.cell (j := 1) rfl
    have u2 := hX.cell (j := 2) rfl
    have hXB : Below r w (((w3.setCell ⟨r, 0, none⟩ (.int .i64 h)).setCell ⟨r, 1, none⟩ (.int .i64 i)).setCell ⟨r, 2, none⟩ (.int .i64 a)) := ((HW4.out.setCell (p := ⟨r, 0, none⟩) (Nat.le_refl _) _).setCell (p := ⟨r, 1, none⟩) (Nat.le_refl _) _).setCell (p := ⟨r, 2, none⟩) (Nat.le_refl _) _
    refine bodyPost_ret (v := .tuple #[.agg #[.int .i64 h, .int .i64 i, .int .i64 a], .slice SA ss.length sc]) (by simp [results, Try.results95, go_sem, u0, u1, u2]) rfl ?_
    have hSX := (HS4.out.keepAt (w' := (((w3.setCell ⟨r, 0, none⟩ (.int .i64 h)).setCell ⟨r, 1, none⟩ (.int .i64 i)).setCell ⟨r, 2, none⟩ (.int .i64 a))) (fun g e hp => by
      obtain ⟨g', m, e', h1, _⟩ := HS4.out hp
      rw [e] at e'
      simp only [Option.some.injEq, Addr.mk.injEq] at e'
      obtain ⟨rfl, _⟩ := e'
      have e9 : W.drew.heap.size = W.heap.size := rfl
      have hgr : ¬ g = r := by omega
      rw [Below.heap_setCell _ _ _ _ hgr, Below.heap_setCell _ _ _ _ hgr, Below.heap_setCell _ _ _ _ hgr])).mono (show w.heap.size ≤ W.drew.heap.size by have e9 : W.drew.heap.size = W.heap.size := rfl; omega) (show w3.heap.size ≤ (((w3.setCell ⟨r, 0, none⟩ (.int .i64 h)).setCell ⟨r, 1, none⟩ (.int .i64 i)).setCell ⟨r, 2, none⟩ (.int .i64 a)).heap.size by simp [World.setCell])
    exact ⟨h, i, a, SA, sc, ss, rfl, hSX, hsc, hsl, HZ4.out, by rw [hr0]; exact hXB⟩

set_option maxHeartbeats 4000000 in
theorem DrawBestSize_any (A : Option Addr) (c : Nat) (xs : List Int) (w : World) (hr : Rd w w.heap.size 1 uC A xs) (hx : ∀ x ∈ xs, 0 ≤ x ∧ x < 256) (hm : xs.length ≤ 4096) :
    Calls Try.prog 50 #[.slice A xs.length c] w (GivenRZ w) := by
  have hbV : Below w.heap.size w (w.alloc (.cells #[.int .i64 0, .int .i64 0, .int .i64 0] 25)) := balloc w _
  have hB0 : Blk (w.alloc (.cells #[.int .i64 0, .int .i64 0, .int .i64 0] 25)) w.heap.size 25 [.int .i64 0, .int .i64 0, .int .i64 0] := Blk.made w _ _
  have sV : (w.alloc (.cells #[.int .i64 0, .int .i64 0, .int .i64 0] 25)).heap.size = w.heap.size + 1 := by simp
  have HD := Lib.hid (DrawSizesFor_any A c xs (w.alloc (.cells #[.int .i64 0, .int .i64 0, .int .i64 0] 25)) (hr.next hbV) hx hm)
  clear hr hx
  go_enter Try.func50, Try.ntmps50
  go_wp2_with fail
  generalize (w.alloc (.cells #[.int .i64 0, .int .i64 0, .int .i64 0] 25)) = V at hbV HD hB0 sV ⊢
  generalize hr0 : w.heap.size = r at hB0 hbV sV ⊢
  refine HD.out.mono ?_
  rintro e w3 ⟨h, i, a, SA, sc, ss, rfl, fs, hsc, hsl, hsz, hb3⟩
  have HB4 := Lib.hid (hB0.next hb3)
  have HW4 : Hid (Below r w w3) := hbV.trans (hb3.mono (by omega))
  have HS4 := Lib.hid fs
  have HZ4 := Lib.hid hsz
  clear fs hsz hB0 hbV
  have y0 := HB4.out.cell (j := 0) rfl
  have y1 := HB4.out.cell (j := 1) rfl
  have y2 := HB4.out.cell (j := 2) rfl
  have f0 := HB4.out.frozen 0
  have f1 := HB4.out.frozen 1
  have f2 := HB4.out.frozen 2
  go_wp2_with fail
  have hX : Blk (((w3.setCell ⟨r, 0, none⟩ (.int .i64 h)).setCell ⟨r, 1, none⟩ (.int .i64 i)).setCell ⟨r, 2, none⟩ (.int .i64 a)) r 25 [.int .i64 h, .int .i64 i, .int .i64 a] := ((HB4.out.set 0 (.int .i64 h)).set 1 (.int .i64 i)).set 2 (.int .i64 a)
  have u0 := hX.cell (j := 0) rfl
  have u1 := hX.cell (j := 1) rfl
  have u2 := hX.cell (j := 2) rfl
  have hXB : Below r w (((w3.setCell ⟨r, 0, none⟩ (.int .i64 h)).setCell ⟨r, 1, none⟩ (.int .i64 i)).setCell ⟨r, 2, none⟩ (.int .i64 a)) := ((HW4.out.setCell (p := ⟨r, 0, none⟩) (Nat.le_refl _) _).setCell (p := ⟨r, 1, none⟩) (Nat.le_refl _) _).setCell (p := ⟨r, 2, none⟩) (Nat.le_refl _) _
  refine bodyPost_ret (v := .tuple #[.agg #[.int .i64 h, .int .i64 i, .int .i64 a], .slice SA ss.length sc]) (by simp [results, Try.results50, go_sem, u0, u1, u2]) rfl ?_
  have hSX := (HS4.out.keepAt (w' := (((w3.setCell ⟨r, 0, none⟩ (.int .i64 h)).setCell ⟨r, 1, none⟩ (.int .i64 i)).setCell ⟨r, 2, none⟩ (.int .i64 a))) (fun g e hp => by
    obtain ⟨g', m, e', h1, _⟩ := HS4.out hp
    rw [e] at e'
    simp only [Option.some.injEq, Addr.mk.injEq] at e'
    obtain ⟨rfl, _⟩ := e'
    have hgr : ¬ g = r := by omega
    rw [Below.heap_setCell _ _ _ _ hgr, Below.heap_setCell _ _ _ _ hgr, Below.heap_setCell _ _ _ _ hgr])).mono (show w.heap.size ≤ V.heap.size by omega) (show w3.heap.size ≤ (((w3.setCell ⟨r, 0, none⟩ (.int .i64 h)).setCell ⟨r, 1, none⟩ (.int .i64 i)).setCell ⟨r, 2, none⟩ (.int .i64 a)).heap.size by simp [World.setCell])
  exact ⟨h, i, a, SA, sc, ss, rfl, hSX, hsc, hsl, HZ4.out, by rw [hr0]; exact hXB⟩

end Go.Proofs.Ytfdnpobppelhaaa
