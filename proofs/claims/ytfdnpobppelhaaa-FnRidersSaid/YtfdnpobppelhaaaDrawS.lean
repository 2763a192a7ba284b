/- DERIVED. A rider and a size that a law is asked about. By program (gdraws.py). -/
import Derived.Test.YtfdnpobppelhaaaDrawR
namespace Go.Proofs.Ytfdnpobppelhaaa
set_option maxRecDepth 100000
open Go.RowKit

def GivenRS (w : World) (e : Ending) (w' : World) : Prop := ∃ (h i a x y z : Int), e = .returned (.tuple #[.agg #[.int .i64 h, .int .i64 i, .int .i64 a], .agg #[.string ⟨#[109]⟩, .int .i64 x, .int .i64 y, .int .i64 z]]) ∧ -100000 ≤ x ∧ x ≤ 100000 ∧ -100000 ≤ y ∧ y ≤ 100000 ∧ Below w.heap.size w w'

set_option maxHeartbeats 4000000 in
theorem DrawStemFor_any (A : Option Addr) (c : Nat) (xs : List Int) (w : World) (hr : Rd w w.heap.size 1 uC A xs) (hx : ∀ x ∈ xs, 0 ≤ x ∧ x < 256) (hm : xs.length ≤ 4096) :
    Calls Try.prog 59 #[.slice A xs.length c] w (GivenRS w) := by
  have s1 : (w.alloc (.cells #[.int .i64 0, .int .i64 0, .int .i64 0] 25)).heap.size = w.heap.size + 1 := by simp
  have s2 : ((w.alloc (.cells #[.int .i64 0, .int .i64 0, .int .i64 0] 25)).alloc (.cells #[.string ⟨#[]⟩, .int .i64 0, .int .i64 0, .int .i64 0] 27)).heap.size = w.heap.size + 2 := by simp
  have hbV : Below w.heap.size w ((w.alloc (.cells #[.int .i64 0, .int .i64 0, .int .i64 0] 25)).alloc (.cells #[.string ⟨#[]⟩, .int .i64 0, .int .i64 0, .int .i64 0] 27)) := bthen (balloc _ _) (balloc _ _)
  have hA0 : Blk ((w.alloc (.cells #[.int .i64 0, .int .i64 0, .int .i64 0] 25)).alloc (.cells #[.string ⟨#[]⟩, .int .i64 0, .int .i64 0, .int .i64 0] 27)) w.heap.size 25 [.int .i64 0, .int .i64 0, .int .i64 0] := (Blk.made w _ _).next (balloc _ _)
  have hB0 : Blk ((w.alloc (.cells #[.int .i64 0, .int .i64 0, .int .i64 0] 25)).alloc (.cells #[.string ⟨#[]⟩, .int .i64 0, .int .i64 0, .int .i64 0] 27)) (w.heap.size + 1) 27 [.string ⟨#[]⟩, .int .i64 0, .int .i64 0, .int .i64 0] := by
    have := Blk.made (w.alloc (.cells #[.int .i64 0, .int .i64 0, .int .i64 0] 25)) 27 [.string ⟨#[]⟩, .int .i64 0, .int .i64 0, .int .i64 0]
    rw [s1] at this
    exact this
  have hrV : Rd ((w.alloc (.cells #[.int .i64 0, .int .i64 0, .int .i64 0] 25)).alloc (.cells #[.string ⟨#[]⟩, .int .i64 0, .int .i64 0, .int .i64 0] 27)) ((w.alloc (.cells #[.int .i64 0, .int .i64 0, .int .i64 0] 25)).alloc (.cells #[.string ⟨#[]⟩, .int .i64 0, .int .i64 0, .int .i64 0] 27)).heap.size 1 uC A xs := (hr.below hbV).more (by omega)
  have HFd : Hid (∀ (v : World) (b : Nat), Src v b A c xs → w.heap.size ≤ b → Below w.heap.size w v → Feed v b A c xs) := fun v b h1 h2 h3 => ⟨h1, (hr.below h3).more h2, hx, hm⟩
  have HS := Lib.hid (l01From_any A c xs ((w.alloc (.cells #[.int .i64 0, .int .i64 0, .int .i64 0] 25)).alloc (.cells #[.string ⟨#[]⟩, .int .i64 0, .int .i64 0, .int .i64 0] 27)) hrV hx hm)
  have HRi : Hid (∀ (v : World) (b : Nat), Feed v b A c xs → Calls Try.prog 99 #[.pointer (some ⟨b, 0, none⟩)] v (DrawnRider v b A c xs)) := fun v b h => l19Rider_any A c b xs v h
  have HSi : Hid (∀ (v : World) (b : Nat), Feed v b A c xs → Calls Try.prog 100 #[.pointer (some ⟨b, 0, none⟩), .string ⟨#[109]⟩] v (DrawnSize ⟨#[109]⟩ v b A c xs)) := fun v b h => l19Good_any A c b xs _ v h
  have HN : Hid (∀ (v : World) (b : Nat) (n : Int), n < 20000 → Feed v b A c xs → Calls Try.prog 75 #[.pointer (some ⟨b, 0, none⟩), .int .i64 n] v (Drawn v b A c xs n)) := fun v b n hn h => l01Next_any A c b xs n v h.src h.rd h.byte h.small (by omega)
  have HP3 : Hid (∀ (v : World) (b : Nat) (ys : List Int), 0 < ys.length → ys.length ≤ 1000 → Feed v b A c xs → Calls Try.prog 74 #[.pointer (some ⟨b, 0, none⟩), .slice (some ⟨v.heap.size, 0, none⟩) ys.length ys.length] (v.alloc (.cells (ys.map (Value.int .i64)).toArray 2)) (PickHit v b A c xs ys)) := fun v b ys h0 h1 h => pick_next A c b xs v 2 ys h0 h1 h
  clear hr hx hrV s1
  go_enter Try.func59, Try.ntmps59
  go_wp2_with fail
  generalize (w.alloc (.cells #[.int .i64 0, .int .i64 0, .int .i64 0] 25)).alloc (.cells #[.string ⟨#[]⟩, .int .i64 0, .int .i64 0, .int .i64 0] 27) = V at hbV HS hA0 hB0 s2 ⊢
  generalize hr3 : w.heap.size + 1 = r3 at hB0 ⊢
  generalize hr2 : w.heap.size = r2 at hA0 hbV HFd s2 hr3 ⊢
  refine HS.out.mono ?_
  rintro e w1 ⟨b, rfl, hS, hbl, hb1⟩
  have hbw1 : Below r2 w w1 := hbV.trans (hb1.mono (by omega))
  have HF1 := Lib.hid (HFd.out w1 b hS (by omega) hbw1)
  have hA1 := hA0.next hb1
  have hB1 := hB0.next hb1
  have hlt1 := hS.lt
  clear hS HS HFd hb1 hbV hB0 hA0
  go_wp2_with fail
  refine (HRi.out w1 b HF1.out).mono ?_
  rintro e w2 ⟨h, i, a, rfl, hh0, hh1, hF2, hO2⟩
  have hA2 := hA1.only hO2 (by omega)
  have hB2 := hB1.only hO2 (by omega)
  have hbw2 : Below r2 w w2 := hbw1.trans (hO2.below (by omega) (by omega))
  have z2 := hO2.size
  have HF2 := Lib.hid hF2
  dsimp only [riderV]
  clear hA1 hB1 hO2 HF1 HRi hbw1 hF2
  go_wp2_with fail
  have hF3 := HF2.out.next (balloc w2 (.cells #[.int .i64 h, .int .i64 i, .int .i64 a] 25))
  have hA3 := hA2.next (balloc w2 (.cells #[.int .i64 h, .int .i64 i, .int .i64 a] 25))
  have hB3 := hB2.next (balloc w2 (.cells #[.int .i64 h, .int .i64 i, .int .i64 a] 25))
  have hR3 : Blk (w2.alloc (.cells #[.int .i64 h, .int .i64 i, .int .i64 a] 25)) w2.heap.size 25 [.int .i64 h, .int .i64 i, .int .i64 a] := Blk.made w2 _ _
  have hbw3 : Below r2 w (w2.alloc (.cells #[.int .i64 h, .int .i64 i, .int .i64 a] 25)) := hbw2.alloc (by omega) _
  have s3 : (w2.alloc (.cells #[.int .i64 h, .int .i64 i, .int .i64 a] 25)).heap.size = w2.heap.size + 1 := by simp
  clear HF2 hA2 hB2 hbw2
  generalize w2.alloc (.cells #[.int .i64 h, .int .i64 i, .int .i64 a] 25) = W3 at hF3 hA3 hB3 hR3 hbw3 s3 ⊢
  generalize hr5 : w2.heap.size = r5 at hR3 s3 z2 ⊢
  refine (HSi.out W3 b hF3).mono ?_
  rintro e w4 ⟨x, y, z, rfl, x0, x1, y0, y1, hF4, hO4⟩
  have hA4 := hA3.only hO4 (by omega)
  have hB4 := hB3.only hO4 (by omega)
  have hR4 := hR3.only hO4 (by omega)
  have hbw4 : Below r2 w w4 := hbw3.trans (hO4.below (by omega) (by omega))
  have z4 := hO4.size
  have HF4 := Lib.hid hF4
  clear hA3 hB3 hR3 hO4 hF3 HSi hbw3 hF4
  go_wp2_with fail
  have hF5 := HF4.out.next (balloc w4 (.cells #[.string ⟨#[109]⟩, .int .i64 x, .int .i64 y, .int .i64 z] 27))
  have hA5 := hA4.next (balloc w4 (.cells #[.string ⟨#[109]⟩, .int .i64 x, .int .i64 y, .int .i64 z] 27))
  have hB5 := hB4.next (balloc w4 (.cells #[.string ⟨#[109]⟩, .int .i64 x, .int .i64 y, .int .i64 z] 27))
  have hR5 := hR4.next (balloc w4 (.cells #[.string ⟨#[109]⟩, .int .i64 x, .int .i64 y, .int .i64 z] 27))
  have hS5 : Blk (w4.alloc (.cells #[.string ⟨#[109]⟩, .int .i64 x, .int .i64 y, .int .i64 z] 27)) w4.heap.size 27 [.string ⟨#[109]⟩, .int .i64 x, .int .i64 y, .int .i64 z] := Blk.made w4 _ _
  have hbw5 : Below r2 w (w4.alloc (.cells #[.string ⟨#[109]⟩, .int .i64 x, .int .i64 y, .int .i64 z] 27)) := hbw4.alloc (by omega) _
  have s5 : (w4.alloc (.cells #[.string ⟨#[109]⟩, .int .i64 x, .int .i64 y, .int .i64 z] 27)).heap.size = w4.heap.size + 1 := by simp
  clear HF4 hA4 hB4 hR4 hbw4
  generalize w4.alloc (.cells #[.string ⟨#[109]⟩, .int .i64 x, .int .i64 y, .int .i64 z] 27) = W5 at hF5 hA5 hB5 hR5 hS5 hbw5 s5 ⊢
  generalize hr6 : w4.heap.size = r6 at hS5 s5 z4 ⊢
  refine (HN.out W5 b 24 (by omega) hF5).mono ?_
  rintro e w6 ⟨v6, rfl, b0, b1, _, hS, hO⟩
  have HF6 := Lib.hid (hF5.turn hS hO)
  have HA6 := Lib.hid (hA5.only hO (by omega))
  have HB6 := Lib.hid (hB5.only hO (by omega))
  have HR6 := Lib.hid (hR5.only hO (by omega))
  have HS6 := Lib.hid (hS5.only hO (by omega))
  have HW6 := Lib.hid (hbw5.trans (hO.below (by omega) (by omega)))
  have z6 := hO.size
  clear hS hO hF5 hA5 hB5 hR5 hS5 hbw5 b1
  have n23 : ¬ r2 = r3 := by omega
  have n23' : ¬ r3 = r2 := by omega
  have n25 : ¬ r2 = r5 := by omega
  have n26 : ¬ r2 = r6 := by omega
  have n35 : ¬ r3 = r5 := by omega
  have n36 : ¬ r3 = r6 := by omega
  have n56 : ¬ r5 = r6 := by omega
  have n25' : ¬ r5 = r2 := by omega
  have n26' : ¬ r6 = r2 := by omega
  have n35' : ¬ r5 = r3 := by omega
  have n36' : ¬ r6 = r3 := by omega
  have n56' : ¬ r6 = r5 := by omega
  by_cases hv : v6 = 0
  · subst hv
    go_wp2_with fail
    refine (HP3.out w6 b [299, 300, 800, 801] (by simp) (by simp) HF6.out).mono ?_
    rintro e w7 ⟨v7, hv7, rfl, hF7, hO⟩
    have HA7 := Lib.hid (HA6.out.only hO (by omega))
    have HB7 := Lib.hid (HB6.out.only hO (by omega))
    have HR7 := Lib.hid (HR6.out.only hO (by omega))
    have HS7 := Lib.hid (HS6.out.only hO (by omega))
    have HW7 := Lib.hid (HW6.out.trans (hO.below (by omega) (by omega)))
    have d3p := HS7.out.cell (j := 3) rfl
    have d3f := HS7.out.frozen 3
    clear hF7 hO hv7
    go_wp2_with fail
    have HA8 := Lib.hid (HA7.out.far (p := ⟨r6, 3, none⟩) n26' (.int .i64 v7))
    have HB8 := Lib.hid (HB7.out.far (p := ⟨r6, 3, none⟩) n36' (.int .i64 v7))
    have HR8 := Lib.hid (HR7.out.far (p := ⟨r6, 3, none⟩) n56' (.int .i64 v7))
    have HS8 := Lib.hid (HS7.out.set 3 (.int .i64 v7))
    have HW8 := Lib.hid (HW7.out.setCell (p := ⟨r6, 3, none⟩) (show r2 ≤ r6 by omega) (.int .i64 v7))
    clear HA7 HB7 HR7 HS7 HW7 d3p d3f
    generalize w7.setCell ⟨r6, 3, none⟩ (.int .i64 v7) = w8 at HA8 HB8 HR8 HS8 HW8 ⊢
    simp only [List.set_cons_succ, List.set_cons_zero] at HS8
    have a0c := HA8.out.cell (j := 0) rfl
    have a0f := HA8.out.frozen 0
    have a1c := HA8.out.cell (j := 1) rfl
    have a1f := HA8.out.frozen 1
    have a2c := HA8.out.cell (j := 2) rfl
    have a2f := HA8.out.frozen 2
    have b0c := HB8.out.cell (j := 0) rfl
    have b0f := HB8.out.frozen 0
    have b1c := HB8.out.cell (j := 1) rfl
    have b1f := HB8.out.frozen 1
    have b2c := HB8.out.cell (j := 2) rfl
    have b2f := HB8.out.frozen 2
    have b3c := HB8.out.cell (j := 3) rfl
    have b3f := HB8.out.frozen 3
    have c0c := HR8.out.cell (j := 0) rfl
    have c1c := HR8.out.cell (j := 1) rfl
    have c2c := HR8.out.cell (j := 2) rfl
    have d0c := HS8.out.cell (j := 0) rfl
    have d1c := HS8.out.cell (j := 1) rfl
    have d2c := HS8.out.cell (j := 2) rfl
    have d3c := HS8.out.cell (j := 3) rfl
    have hX2 : Blk ((((((((w8.setCell ⟨r2, 0, none⟩ (.int .i64 h)).setCell ⟨r2, 1, none⟩ (.int .i64 i)).setCell ⟨r2, 2, none⟩ (.int .i64 a)).setCell ⟨r3, 0, none⟩ (.string ⟨#[109]⟩)).setCell ⟨r3, 1, none⟩ (.int .i64 x)).setCell ⟨r3, 2, none⟩ (.int .i64 y)).setCell ⟨r3, 3, none⟩ (.int .i64 v7)).drew) r2 25 [.int .i64 h, .int .i64 i, .int .i64 a] := (((((((HA8.out.set 0 (.int .i64 h)).set 1 (.int .i64 i)).set 2 (.int .i64 a)).far (p := ⟨r3, 0, none⟩) n23' (.string ⟨#[109]⟩)).far (p := ⟨r3, 1, none⟩) n23' (.int .i64 x)).far (p := ⟨r3, 2, none⟩) n23' (.int .i64 y)).far (p := ⟨r3, 3, none⟩) n23' (.int .i64 v7)).next (bdrew _)
    have hX3 : Blk ((((((((w8.setCell ⟨r2, 0, none⟩ (.int .i64 h)).setCell ⟨r2, 1, none⟩ (.int .i64 i)).setCell ⟨r2, 2, none⟩ (.int .i64 a)).setCell ⟨r3, 0, none⟩ (.string ⟨#[109]⟩)).setCell ⟨r3, 1, none⟩ (.int .i64 x)).setCell ⟨r3, 2, none⟩ (.int .i64 y)).setCell ⟨r3, 3, none⟩ (.int .i64 v7)).drew) r3 27 [.string ⟨#[109]⟩, .int .i64 x, .int .i64 y, .int .i64 v7] := (((((((HB8.out.far (p := ⟨r2, 0, none⟩) n23 (.int .i64 h)).far (p := ⟨r2, 1, none⟩) n23 (.int .i64 i)).far (p := ⟨r2, 2, none⟩) n23 (.int .i64 a)).set 0 (.string ⟨#[109]⟩)).set 1 (.int .i64 x)).set 2 (.int .i64 y)).set 3 (.int .i64 v7)).next (bdrew _)
    have hXW : Below r2 w ((((((((w8.setCell ⟨r2, 0, none⟩ (.int .i64 h)).setCell ⟨r2, 1, none⟩ (.int .i64 i)).setCell ⟨r2, 2, none⟩ (.int .i64 a)).setCell ⟨r3, 0, none⟩ (.string ⟨#[109]⟩)).setCell ⟨r3, 1, none⟩ (.int .i64 x)).setCell ⟨r3, 2, none⟩ (.int .i64 y)).setCell ⟨r3, 3, none⟩ (.int .i64 v7)).drew) := (((((((HW8.out.setCell (p := ⟨r2, 0, none⟩) (Nat.le_refl _) (.int .i64 h)).setCell (p := ⟨r2, 1, none⟩) (Nat.le_refl _) (.int .i64 i)).setCell (p := ⟨r2, 2, none⟩) (Nat.le_refl _) (.int .i64 a)).setCell (p := ⟨r3, 0, none⟩) (show r2 ≤ r3 by omega) (.string ⟨#[109]⟩)).setCell (p := ⟨r3, 1, none⟩) (show r2 ≤ r3 by omega) (.int .i64 x)).setCell (p := ⟨r3, 2, none⟩) (show r2 ≤ r3 by omega) (.int .i64 y)).setCell (p := ⟨r3, 3, none⟩) (show r2 ≤ r3 by omega) (.int .i64 v7)).drew
    have HX : Hid (∃ Y : World, Y = (((((((w8.setCell ⟨r2, 0, none⟩ (.int .i64 h)).setCell ⟨r2, 1, none⟩ (.int .i64 i)).setCell ⟨r2, 2, none⟩ (.int .i64 a)).setCell ⟨r3, 0, none⟩ (.string ⟨#[109]⟩)).setCell ⟨r3, 1, none⟩ (.int .i64 x)).setCell ⟨r3, 2, none⟩ (.int .i64 y)).setCell ⟨r3, 3, none⟩ (.int .i64 v7)).drew ∧ Blk Y r2 25 [.int .i64 h, .int .i64 i, .int .i64 a] ∧ Blk Y r3 27 [.string ⟨#[109]⟩, .int .i64 x, .int .i64 y, .int .i64 v7] ∧ Below r2 w Y) := ⟨_, rfl, hX2, hX3, hXW⟩
    clear hX2 hX3 hXW
    go_wp2_with fail
    go_region_law (fail)
    all_goals
      go_wp2_with fail
      obtain ⟨Y, eY, hX2, hX3, hXW⟩ := HX.out
      rw [← eY]
      clear eY
      have u0 := hX2.cell (j := 0) rfl
      have u1 := hX2.cell (j := 1) rfl
      have u2 := hX2.cell (j := 2) rfl
      have t0 := hX3.cell (j := 0) rfl
      have t1 := hX3.cell (j := 1) rfl
      have t2 := hX3.cell (j := 2) rfl
      have t3 := hX3.cell (j := 3) rfl
      refine bodyPost_ret (v := .tuple #[.agg #[.int .i64 h, .int .i64 i, .int .i64 a], .agg #[.string ⟨#[109]⟩, .int .i64 x, .int .i64 y, .int .i64 v7]]) (by simp [results, Try.results59, go_sem, u0, u1, u2, t0, t1, t2, t3]) rfl ?_
      exact ⟨h, i, a, x, y, v7, rfl, x0, x1, y0, y1, by rw [hr2]; exact hXW⟩
  · have hvb : (v6 == 0) = false := by simp [hv]
    clear hv
    have a0c := HA6.out.cell (j := 0) rfl
    have a0f := HA6.out.frozen 0
    have a1c := HA6.out.cell (j := 1) rfl
    have a1f := HA6.out.frozen 1
    have a2c := HA6.out.cell (j := 2) rfl
    have a2f := HA6.out.frozen 2
    have b0c := HB6.out.cell (j := 0) rfl
    have b0f := HB6.out.frozen 0
    have b1c := HB6.out.cell (j := 1) rfl
    have b1f := HB6.out.frozen 1
    have b2c := HB6.out.cell (j := 2) rfl
    have b2f := HB6.out.frozen 2
    have b3c := HB6.out.cell (j := 3) rfl
    have b3f := HB6.out.frozen 3
    have c0c := HR6.out.cell (j := 0) rfl
    have c1c := HR6.out.cell (j := 1) rfl
    have c2c := HR6.out.cell (j := 2) rfl
    have d0c := HS6.out.cell (j := 0) rfl
    have d1c := HS6.out.cell (j := 1) rfl
    have d2c := HS6.out.cell (j := 2) rfl
    have d3c := HS6.out.cell (j := 3) rfl
    have hX2 : Blk ((((((((w6.setCell ⟨r2, 0, none⟩ (.int .i64 h)).setCell ⟨r2, 1, none⟩ (.int .i64 i)).setCell ⟨r2, 2, none⟩ (.int .i64 a)).setCell ⟨r3, 0, none⟩ (.string ⟨#[109]⟩)).setCell ⟨r3, 1, none⟩ (.int .i64 x)).setCell ⟨r3, 2, none⟩ (.int .i64 y)).setCell ⟨r3, 3, none⟩ (.int .i64 z)).drew) r2 25 [.int .i64 h, .int .i64 i, .int .i64 a] := (((((((HA6.out.set 0 (.int .i64 h)).set 1 (.int .i64 i)).set 2 (.int .i64 a)).far (p := ⟨r3, 0, none⟩) n23' (.string ⟨#[109]⟩)).far (p := ⟨r3, 1, none⟩) n23' (.int .i64 x)).far (p := ⟨r3, 2, none⟩) n23' (.int .i64 y)).far (p := ⟨r3, 3, none⟩) n23' (.int .i64 z)).next (bdrew _)
    have hX3 : Blk ((((((((w6.setCell ⟨r2, 0, none⟩ (.int .i64 h)).setCell ⟨r2, 1, none⟩ (.int .i64 i)).setCell ⟨r2, 2, none⟩ (.int .i64 a)).setCell ⟨r3, 0, none⟩ (.string ⟨#[109]⟩)).setCell ⟨r3, 1, none⟩ (.int .i64 x)).setCell ⟨r3, 2, none⟩ (.int .i64 y)).setCell ⟨r3, 3, none⟩ (.int .i64 z)).drew) r3 27 [.string ⟨#[109]⟩, .int .i64 x, .int .i64 y, .int .i64 z] := (((((((HB6.out.far (p := ⟨r2, 0, none⟩) n23 (.int .i64 h)).far (p := ⟨r2, 1, none⟩) n23 (.int .i64 i)).far (p := ⟨r2, 2, none⟩) n23 (.int .i64 a)).set 0 (.string ⟨#[109]⟩)).set 1 (.int .i64 x)).set 2 (.int .i64 y)).set 3 (.int .i64 z)).next (bdrew _)
    have hXW : Below r2 w ((((((((w6.setCell ⟨r2, 0, none⟩ (.int .i64 h)).setCell ⟨r2, 1, none⟩ (.int .i64 i)).setCell ⟨r2, 2, none⟩ (.int .i64 a)).setCell ⟨r3, 0, none⟩ (.string ⟨#[109]⟩)).setCell ⟨r3, 1, none⟩ (.int .i64 x)).setCell ⟨r3, 2, none⟩ (.int .i64 y)).setCell ⟨r3, 3, none⟩ (.int .i64 z)).drew) := (((((((HW6.out.setCell (p := ⟨r2, 0, none⟩) (Nat.le_refl _) (.int .i64 h)).setCell (p := ⟨r2, 1, none⟩) (Nat.le_refl _) (.int .i64 i)).setCell (p := ⟨r2, 2, none⟩) (Nat.le_refl _) (.int .i64 a)).setCell (p := ⟨r3, 0, none⟩) (show r2 ≤ r3 by omega) (.string ⟨#[109]⟩)).setCell (p := ⟨r3, 1, none⟩) (show r2 ≤ r3 by omega) (.int .i64 x)).setCell (p := ⟨r3, 2, none⟩) (show r2 ≤ r3 by omega) (.int .i64 y)).setCell (p := ⟨r3, 3, none⟩) (show r2 ≤ r3 by omega) (.int .i64 z)).drew
    have HX : Hid (∃ Y : World, Y = (((((((w6.setCell ⟨r2, 0, none⟩ (.int .i64 h)).setCell ⟨r2, 1, none⟩ (.int .i64 i)).setCell ⟨r2, 2, none⟩ (.int .i64 a)).setCell ⟨r3, 0, none⟩ (.string ⟨#[109]⟩)).setCell ⟨r3, 1, none⟩ (.int .i64 x)).setCell ⟨r3, 2, none⟩ (.int .i64 y)).setCell ⟨r3, 3, none⟩ (.int .i64 z)).drew ∧ Blk Y r2 25 [.int .i64 h, .int .i64 i, .int .i64 a] ∧ Blk Y r3 27 [.string ⟨#[109]⟩, .int .i64 x, .int .i64 y, .int .i64 z] ∧ Below r2 w Y) := ⟨_, rfl, hX2, hX3, hXW⟩
    clear hX2 hX3 hXW
    go_wp2_with fail
    go_region_law (fail)
    all_goals
      go_wp2_with fail
      obtain ⟨Y, eY, hX2, hX3, hXW⟩ := HX.out
      rw [← eY]
      clear eY
      have u0 := hX2.cell (j := 0) rfl
      have u1 := hX2.cell (j := 1) rfl
      have u2 := hX2.cell (j := 2) rfl
      have t0 := hX3.cell (j := 0) rfl
      have t1 := hX3.cell (j := 1) rfl
      have t2 := hX3.cell (j := 2) rfl
      have t3 := hX3.cell (j := 3) rfl
      refine bodyPost_ret (v := .tuple #[.agg #[.int .i64 h, .int .i64 i, .int .i64 a], .agg #[.string ⟨#[109]⟩, .int .i64 x, .int .i64 y, .int .i64 z]]) (by simp [results, Try.results59, go_sem, u0, u1, u2, t0, t1, t2, t3]) rfl ?_
      exact ⟨h, i, a, x, y, z, rfl, x0, x1, y0, y1, by rw [hr2]; exact hXW⟩

set_option maxHeartbeats 4000000 in
theorem DrawDoesSuit_any (A : Option Addr) (c : Nat) (xs : List Int) (w : World) (hr : Rd w w.heap.size 1 uC A xs) (hx : ∀ x ∈ xs, 0 ≤ x ∧ x < 256) (hm : xs.length ≤ 4096) :
    Calls Try.prog 9 #[.slice A xs.length c] w (GivenRS w) := by
  have s1 : (w.alloc (.cells #[.int .i64 0, .int .i64 0, .int .i64 0] 25)).heap.size = w.heap.size + 1 := by simp
  have s2 : ((w.alloc (.cells #[.int .i64 0, .int .i64 0, .int .i64 0] 25)).alloc (.cells #[.string ⟨#[]⟩, .int .i64 0, .int .i64 0, .int .i64 0] 27)).heap.size = w.heap.size + 2 := by simp
  have hbV : Below w.heap.size w ((w.alloc (.cells #[.int .i64 0, .int .i64 0, .int .i64 0] 25)).alloc (.cells #[.string ⟨#[]⟩, .int .i64 0, .int .i64 0, .int .i64 0] 27)) := bthen (balloc _ _) (balloc _ _)
  have hA0 : Blk ((w.alloc (.cells #[.int .i64 0, .int .i64 0, .int .i64 0] 25)).alloc (.cells #[.string ⟨#[]⟩, .int .i64 0, .int .i64 0, .int .i64 0] 27)) w.heap.size 25 [.int .i64 0, .int .i64 0, .int .i64 0] := (Blk.made w _ _).next (balloc _ _)
  have hB0 : Blk ((w.alloc (.cells #[.int .i64 0, .int .i64 0, .int .i64 0] 25)).alloc (.cells #[.string ⟨#[]⟩, .int .i64 0, .int .i64 0, .int .i64 0] 27)) (w.heap.size + 1) 27 [.string ⟨#[]⟩, .int .i64 0, .int .i64 0, .int .i64 0] := by
    have := Blk.made (w.alloc (.cells #[.int .i64 0, .int .i64 0, .int .i64 0] 25)) 27 [.string ⟨#[]⟩, .int .i64 0, .int .i64 0, .int .i64 0]
    rw [s1] at this
    exact this
  have hrV : Rd ((w.alloc (.cells #[.int .i64 0, .int .i64 0, .int .i64 0] 25)).alloc (.cells #[.string ⟨#[]⟩, .int .i64 0, .int .i64 0, .int .i64 0] 27)) ((w.alloc (.cells #[.int .i64 0, .int .i64 0, .int .i64 0] 25)).alloc (.cells #[.string ⟨#[]⟩, .int .i64 0, .int .i64 0, .int .i64 0] 27)).heap.size 1 uC A xs := (hr.below hbV).more (by omega)
  have HD := Lib.hid (DrawStemFor_any A c xs ((w.alloc (.cells #[.int .i64 0, .int .i64 0, .int .i64 0] 25)).alloc (.cells #[.string ⟨#[]⟩, .int .i64 0, .int .i64 0, .int .i64 0] 27)) hrV hx hm)
  clear hr hx hrV s1
  go_enter Try.func9, Try.ntmps9
  go_wp2_with fail
  generalize (w.alloc (.cells #[.int .i64 0, .int .i64 0, .int .i64 0] 25)).alloc (.cells #[.string ⟨#[]⟩, .int .i64 0, .int .i64 0, .int .i64 0] 27) = V at hbV HD hA0 hB0 s2 ⊢
  generalize hr3 : w.heap.size + 1 = r3 at hB0 ⊢
  generalize hr2 : w.heap.size = r2 at hA0 hbV s2 hr3 ⊢
  have n23 : ¬ r2 = r3 := by omega
  have n23' : ¬ r3 = r2 := by omega
  refine HD.out.mono ?_
  rintro e w8 ⟨h, i, a, x, y, z, rfl, x0, x1, y0, y1, hb1⟩
  have HA8 := Lib.hid (hA0.next hb1)
  have HB8 := Lib.hid (hB0.next hb1)
  have HW8 : Hid (Below r2 w w8) := hbV.trans (hb1.mono (by omega))
  clear hA0 hB0 hb1 hbV
  have hX2 : Blk (((((((w8.setCell ⟨r2, 0, none⟩ (.int .i64 h)).setCell ⟨r2, 1, none⟩ (.int .i64 i)).setCell ⟨r2, 2, none⟩ (.int .i64 a)).setCell ⟨r3, 0, none⟩ (.string ⟨#[109]⟩)).setCell ⟨r3, 1, none⟩ (.int .i64 x)).setCell ⟨r3, 2, none⟩ (.int .i64 y)).setCell ⟨r3, 3, none⟩ (.int .i64 z)) r2 25 [.int .i64 h, .int .i64 i, .int .i64 a] := (((((((HA8.out.set 0 (.int .i64 h)).set 1 (.int .i64 i)).set 2 (.int .i64 a)).far (p := ⟨r3, 0, none⟩) n23' (.string ⟨#[109]⟩)).far (p := ⟨r3, 1, none⟩) n23' (.int .i64 x)).far (p := ⟨r3, 2, none⟩) n23' (.int .i64 y)).far (p := ⟨r3, 3, none⟩) n23' (.int .i64 z))
  have hX3 : Blk (((((((w8.setCell ⟨r2, 0, none⟩ (.int .i64 h)).setCell ⟨r2, 1, none⟩ (.int .i64 i)).setCell ⟨r2, 2, none⟩ (.int .i64 a)).setCell ⟨r3, 0, none⟩ (.string ⟨#[109]⟩)).setCell ⟨r3, 1, none⟩ (.int .i64 x)).setCell ⟨r3, 2, none⟩ (.int .i64 y)).setCell ⟨r3, 3, none⟩ (.int .i64 z)) r3 27 [.string ⟨#[109]⟩, .int .i64 x, .int .i64 y, .int .i64 z] := (((((((HB8.out.far (p := ⟨r2, 0, none⟩) n23 (.int .i64 h)).far (p := ⟨r2, 1, none⟩) n23 (.int .i64 i)).far (p := ⟨r2, 2, none⟩) n23 (.int .i64 a)).set 0 (.string ⟨#[109]⟩)).set 1 (.int .i64 x)).set 2 (.int .i64 y)).set 3 (.int .i64 z))
  have hXW : Below r2 w (((((((w8.setCell ⟨r2, 0, none⟩ (.int .i64 h)).setCell ⟨r2, 1, none⟩ (.int .i64 i)).setCell ⟨r2, 2, none⟩ (.int .i64 a)).setCell ⟨r3, 0, none⟩ (.string ⟨#[109]⟩)).setCell ⟨r3, 1, none⟩ (.int .i64 x)).setCell ⟨r3, 2, none⟩ (.int .i64 y)).setCell ⟨r3, 3, none⟩ (.int .i64 z)) := (((((((HW8.out.setCell (p := ⟨r2, 0, none⟩) (Nat.le_refl _) (.int .i64 h)).setCell (p := ⟨r2, 1, none⟩) (Nat.le_refl _) (.int .i64 i)).setCell (p := ⟨r2, 2, none⟩) (Nat.le_refl _) (.int .i64 a)).setCell (p := ⟨r3, 0, none⟩) (show r2 ≤ r3 by omega) (.string ⟨#[109]⟩)).setCell (p := ⟨r3, 1, none⟩) (show r2 ≤ r3 by omega) (.int .i64 x)).setCell (p := ⟨r3, 2, none⟩) (show r2 ≤ r3 by omega) (.int .i64 y)).setCell (p := ⟨r3, 3, none⟩) (show r2 ≤ r3 by omega) (.int .i64 z))
  have HX : Hid (∃ Y : World, Y = (((((((w8.setCell ⟨r2, 0, none⟩ (.int .i64 h)).setCell ⟨r2, 1, none⟩ (.int .i64 i)).setCell ⟨r2, 2, none⟩ (.int .i64 a)).setCell ⟨r3, 0, none⟩ (.string ⟨#[109]⟩)).setCell ⟨r3, 1, none⟩ (.int .i64 x)).setCell ⟨r3, 2, none⟩ (.int .i64 y)).setCell ⟨r3, 3, none⟩ (.int .i64 z)) ∧ Blk Y r2 25 [.int .i64 h, .int .i64 i, .int .i64 a] ∧ Blk Y r3 27 [.string ⟨#[109]⟩, .int .i64 x, .int .i64 y, .int .i64 z] ∧ Below r2 w Y) := ⟨_, rfl, hX2, hX3, hXW⟩
  clear hX2 hX3 hXW
  have a0c := HA8.out.cell (j := 0) rfl
  have a0f := HA8.out.frozen 0
  have a1c := HA8.out.cell (j := 1) rfl
  have a1f := HA8.out.frozen 1
  have a2c := HA8.out.cell (j := 2) rfl
  have a2f := HA8.out.frozen 2
  have b0c := HB8.out.cell (j := 0) rfl
  have b0f := HB8.out.frozen 0
  have b1c := HB8.out.cell (j := 1) rfl
  have b1f := HB8.out.frozen 1
  have b2c := HB8.out.cell (j := 2) rfl
  have b2f := HB8.out.frozen 2
  have b3c := HB8.out.cell (j := 3) rfl
  have b3f := HB8.out.frozen 3
  go_wp2_with fail
  obtain ⟨Y, eY, hX2, hX3, hXW⟩ := HX.out
  rw [← eY]
  clear eY
  have u0 := hX2.cell (j := 0) rfl
  have u1 := hX2.cell (j := 1) rfl
  have u2 := hX2.cell (j := 2) rfl
  have t0 := hX3.cell (j := 0) rfl
  have t1 := hX3.cell (j := 1) rfl
  have t2 := hX3.cell (j := 2) rfl
  have t3 := hX3.cell (j := 3) rfl
  refine bodyPost_ret (v := .tuple #[.agg #[.int .i64 h, .int .i64 i, .int .i64 a], .agg #[.string ⟨#[109]⟩, .int .i64 x, .int .i64 y, .int .i64 z]]) (by simp [results, Try.results9, go_sem, u0, u1, u2, t0, t1, t2, t3]) rfl ?_
  exact ⟨h, i, a, x, y, z, rfl, x0, x1, y0, y1, by rw [hr2]; exact hXW⟩

end Go.Proofs.Ytfdnpobppelhaaa
