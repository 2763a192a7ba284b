/- DERIVED. Lists of riders and of sizes drawn. By program (gdrawl.py). -/
import Derived.Test.YtfdnpobppelhaaaGrow
import Derived.Test.YtfdnpobppelhaaaDrawR
import Derived.Test.YtfdnpobppelhaaaRowsT
import Derived.Test.YtfdnpobppelhaaaDraw3
import Derived.Test.YtfdnpobppelhaaaFlRider
import Derived.Test.YtfdnpobppelhaaaFlSize
namespace Go.Proofs.Ytfdnpobppelhaaa
set_option maxRecDepth 100000
open Go.RowKit

theorem four_cells {w : World} {g : Nat} {v0 v1 v2 v3 : Value} (h0 : w.cell? ⟨g, 0, none⟩ = some v0) (h1 : w.cell? ⟨g, 1, none⟩ = some v1) (h2 : w.cell? ⟨g, 2, none⟩ = some v2) (h3 : w.cell? ⟨g, 3, none⟩ = some v3) :
    ∀ j u, [v0, v1, v2, v3][j]? = some u → w.cell? ⟨g, j, none⟩ = some u
  | 0, u, hj => by simp at hj; rw [← hj]; exact h0
  | 1, u, hj => by simp at hj; rw [← hj]; exact h1
  | 2, u, hj => by simp at hj; rw [← hj]; exact h2
  | 3, u, hj => by simp at hj; rw [← hj]; exact h3
  | _ + 4, u, hj => by simp at hj
theorem ridrC_one (j : Int × Int × Int) : ∀ u ∈ ridrC j, u.oneCell' = true := fun u hu => by
  simp only [ridrC, List.mem_cons, List.not_mem_nil, or_false] at hu
  rcases hu with rfl | rfl | rfl <;> rfl
theorem sizeC_one (j : ByteArray × Int × Int × Int) : ∀ u ∈ sizeC j, u.oneCell' = true := fun u hu => by
  simp only [sizeC, List.mem_cons, List.not_mem_nil, or_false] at hu
  rcases hu with rfl | rfl | rfl | rfl <;> rfl
def DrawnRiders : World → Nat → Option Addr → Nat → List Int → Ending → World → Prop := DrawnList 64 25 3 ridrC (fun _ => True)
set_option maxHeartbeats 2000000 in
theorem l19Riders_any (A : Option Addr) (c b : Nat) (xs : List Int) (w : World) (hF : Feed w b A c xs) :
    Calls Try.prog 112 #[.pointer (some ⟨b, 0, none⟩)] w (DrawnRiders w b A c xs) := by
  have HN : Hid (∀ (v : World) (n : Int), n < 20000 → Feed v b A c xs → Calls Try.prog 75 #[.pointer (some ⟨b, 0, none⟩), .int .i64 n] v (Drawn v b A c xs n)) := fun v n hn h => l01Next_any A c b xs n v h.src h.rd h.byte h.small (by omega)
  have HRi : Hid (∀ v : World, Feed v b A c xs → Calls Try.prog 99 #[.pointer (some ⟨b, 0, none⟩)] v (DrawnRider v b A c xs)) := fun v h => l19Rider_any A c b xs v h
  have HL : Hid (GrowSt w (w.alloc (.cells #[] 25)) b A c xs 25 3 ridrC (some ⟨w.heap.size, 0, none⟩) 0 []) := GrowSt.made hF
  have HJL := Lib.hid ridrC_len
  have HJ1 := Lib.hid ridrC_one
  have hlb := hF.src.lt
  clear hF
  go_enter Try.func112, Try.ntmps112
  go_wp2_with fail
  generalize w.alloc (.cells #[] 25) = W at HL ⊢
  refine (HN.out W 6 (by omega) HL.out.feed).mono ?_
  rintro e w1 ⟨v, rfl, v0, v1, _, hS, hO⟩
  have HL1 := Lib.hid (HL.out.turn (HL.out.feed.turn hS hO) hO)
  have v1 := v1 (by omega)
  clear hS hO HL
  go_wp2_with fail
  go_loopw [3, 4] (fun out i wr => ∃ (q : Int) (LA : Option Addr) (lc : Nat) (ms : List (Int × Int × Int)), 0 ≤ q ∧ (ms.length : Int) + q ≤ 6 ∧ i = .int .i64 q ∧ out = .slice LA ms.length lc ∧ GrowSt w wr b A c xs 25 3 ridrC LA lc ms) (fun _ i _ => (intOf i).toNat)
  case atStart => exact ⟨v, _, _, [], v0, by simp; omega, rfl, rfl, HL1.out⟩
  case round =>
    obtain ⟨q, LA, lc, ms, q0, q1, rfl, rfl, hL⟩ := hrel
    have HL1 := Lib.hid hL; clear hL
    by_cases hq : 0 < q
    · go_wp2_with fail
      refine (HRi.out wr HL1.out.feed).mono ?_
      rintro e w4 ⟨h, i, a, rfl, _, _, hF2, hO⟩
      have HL4 := Lib.hid (HL1.out.turn hF2 hO)
      have s4 := HL4.out.old.size
      dsimp only [riderV]
      clear hF2 hO HL1
      go_wp2_with (at_builtin; refine wpList_append_far rfl _ _ _ rfl w.heap.size 25 (.agg #[.int .i64 0, .int .i64 0, .int .i64 0]) 3 24 Try.underlying54 infoRider rfl (by omega) (by omega) ridrC ms (h, i, a) LA lc rfl (HL4.out.own.keep (balloc _ _)) w4.heap.size _ rfl rfl (three_cells (by go_simp) (by go_simp) (by go_simp)) (HJ1.out _) (by omega) (by simp; omega) ?_)
      intro A2 c2 w5 hown5 hb5 _
      have HL5 := Lib.hid (HL4.out.grow hown5 hb5)
      clear hown5 hb5
      go_wp2_with fail
      exact ⟨⟨q - 1, A2, c2, ms ++ [(h, i, a)], by omega, by simp; omega, by go_num, by simp, HL5.out⟩, by simp [intOf]; omega⟩
    · go_wp2_with fail
      refine (HN.out wr 40 (by omega) HL1.out.feed).mono ?_
      rintro e w2 ⟨v2, rfl, a0, a1, _, hS, hO⟩
      have HL2 := Lib.hid (HL1.out.turn (HL1.out.feed.turn hS hO) hO)
      clear hS hO HL1 a1
      by_cases hv : v2 = 0
      · subst hv
        have HL3 := Lib.hid (HL2.out.next (balloc w2 (.cells #[.int .i64 1800, .int .i64 840, .int .i64 600] 25)))
        have HBx : Hid (Blk (w2.alloc (.cells #[.int .i64 1800, .int .i64 840, .int .i64 600] 25)) w2.heap.size 25 [.int .i64 1800, .int .i64 840, .int .i64 600]) := Blk.made w2 _ _
        have HAp : Hid (Apart LA w2.heap.size) := HL2.out.own.apartNew (Nat.le_refl _)
        have hlt2 : b < w2.heap.size := HL2.out.feed.src.lt
        go_wp2_with fail
        generalize w2.alloc (.cells #[.int .i64 1800, .int .i64 840, .int .i64 600] 25) = W3 at HL3 HBx ⊢
        generalize w2.heap.size = g3 at HBx HAp hlt2 ⊢
        go_loopw [3] (fun out wr => ∃ (MA : Option Addr) (mc : Nat) (ns : List (Int × Int × Int)), ns.length ≤ 61 ∧ out = .slice MA ns.length mc ∧ GrowSt w wr b A c xs 25 3 ridrC MA mc ns ∧ Blk wr g3 25 [.int .i64 1800, .int .i64 840, .int .i64 600] ∧ Apart MA g3) (fun out _ => 61 - lenOf out)
        case atStart => exact ⟨LA, lc, ms, by omega, rfl, HL3.out, HBx.out, HAp.out⟩
        case round =>
          obtain ⟨MA, mc, ns, hnl, rfl, hM, hbx, hap⟩ := hrel
          have HM1 := Lib.hid hM; clear hM
          have HB1 := Lib.hid hbx; clear hbx
          have HA1 := Lib.hid hap; clear hap
          go_wp2_with fail
          refine (HN.out _ 2 (by omega) HM1.out.feed).mono ?_
          rintro e w4 ⟨v4, rfl, c0, c1, _, hS, hO⟩
          have HM2 := Lib.hid (HM1.out.turn (HM1.out.feed.turn hS hO) hO)
          have HB2 := Lib.hid (HB1.out.only hO (by omega))
          have c1 := c1 (by omega)
          have s4 := HM2.out.old.size
          clear hS hO HM1 HB1
          by_cases hlt3 : (ns.length : Int) < 60 + v4
          · have hnl2 : ns.length ≤ 60 := by omega
            have u0 := HB2.out.cell (j := 0) rfl
            have u1 := HB2.out.cell (j := 1) rfl
            have u2 := HB2.out.cell (j := 2) rfl
            have hg3 := HB2.out.lt
            go_wp2_with (at_builtin; refine wpList_append_far rfl _ _ _ rfl w.heap.size 25 (.agg #[.int .i64 0, .int .i64 0, .int .i64 0]) 3 24 Try.underlying54 infoRider rfl (by omega) (by omega) ridrC ns (1800, 840, 600) MA mc rfl (HM2.out.own.keep (balloc _ _)) w4.heap.size _ rfl rfl (three_cells (by go_simp) (by go_simp) (by go_simp)) (HJ1.out _) (by omega) (by simp; omega) ?_)
            intro A6 c6 w6 hown6 hb6 hfar
            have HM4 := Lib.hid (HM2.out.grow hown6 hb6)
            have hq := hfar g3 (by first | omega | (simp; omega)) HA1.out
            have HB4 : Hid (Blk w6 g3 25 [.int .i64 1800, .int .i64 840, .int .i64 600]) := (HB2.out.next (balloc w4 _)).kept hq.2
            have HA4 := Lib.hid hq.1
            clear hown6 hb6 hq hfar u0 u1 u2
            go_wp2_with fail
            exact ⟨⟨A6, c6, ns ++ [(1800, 840, 600)], by simp; omega, by simp, HM4.out, HB4.out, HA4.out⟩, by simp [lenOf]; omega⟩
          · go_wp2_with fail
            go_ret
            exact HM2.out.drawn HJL.out (by omega) (fun _ _ => trivial)
      · have hvb : (v2 == 0) = false := by simp [hv]
        clear hv
        go_wp2_with fail
        go_ret
        exact HL2.out.drawn HJL.out (by omega) (fun _ _ => trivial)

def DrawnSizes : World → Nat → Option Addr → Nat → List Int → Ending → World → Prop := DrawnList 64 27 4 sizeC (fun t => t.1.size ≤ 64)
def fiveN : List ByteArray := [⟨#[120, 115]⟩, ⟨#[115]⟩, ⟨#[109]⟩, ⟨#[108]⟩, ⟨#[120, 108]⟩]
def threeN : List ByteArray := [⟨#[109]⟩, ⟨#[77]⟩, ⟨#[104, 117, 103, 101]⟩]
set_option maxHeartbeats 4000000 in
theorem l19List_any (A : Option Addr) (c b : Nat) (xs : List Int) (w : World) (hF : Feed w b A c xs) :
    Calls Try.prog 113 #[.pointer (some ⟨b, 0, none⟩)] w (DrawnSizes w b A c xs) := by
  have HN : Hid (∀ (v : World) (n : Int), n < 20000 → Feed v b A c xs → Calls Try.prog 75 #[.pointer (some ⟨b, 0, none⟩), .int .i64 n] v (Drawn v b A c xs n)) := fun v n hn h => l01Next_any A c b xs n v h.src h.rd h.byte h.small (by omega)
  have HSi : Hid (∀ (v : World) (t : ByteArray), Feed v b A c xs → Calls Try.prog 100 #[.pointer (some ⟨b, 0, none⟩), .string t] v (DrawnSize t v b A c xs)) := fun v t h => l19Good_any A c b xs t v h
  have HT3 : Hid (∀ v : World, Feed v b A c xs → Calls Try.prog 75 #[.pointer (some ⟨b, 0, none⟩), .int .i64 3] (v.alloc (.cells (threeN.map Value.string).toArray 9)) (Hit v b A c xs 3)) := fun v h => table_next A c b xs v 9 threeN (by decide) (by decide) (by decide) h
  have HL : Hid (GrowSt w ((w.alloc (.cells #[] 27)).alloc (.cells #[.string ⟨#[120, 115]⟩, .string ⟨#[115]⟩, .string ⟨#[109]⟩, .string ⟨#[108]⟩, .string ⟨#[120, 108]⟩] 9)) b A c xs 27 4 sizeC (some ⟨w.heap.size, 0, none⟩) 0 []) := (GrowSt.made hF).next (balloc _ _)
  have s1 : (w.alloc (.cells #[] 27)).heap.size = w.heap.size + 1 := by simp
  have HBx : Hid (Blk ((w.alloc (.cells #[] 27)).alloc (.cells #[.string ⟨#[120, 115]⟩, .string ⟨#[115]⟩, .string ⟨#[109]⟩, .string ⟨#[108]⟩, .string ⟨#[120, 108]⟩] 9)) (w.heap.size + 1) 9 (fiveN.map Value.string)) := by
    have := Blk.made (w.alloc (.cells #[] 27)) 9 (fiveN.map Value.string)
    rw [s1] at this
    exact this
  have HJL := Lib.hid sizeC_len
  have HJ1 := Lib.hid sizeC_one
  have hlb := hF.src.lt
  clear hF s1
  go_enter Try.func113, Try.ntmps113
  go_wp2_with fail
  generalize (w.alloc (.cells #[] 27)).alloc (.cells #[.string ⟨#[120, 115]⟩, .string ⟨#[115]⟩, .string ⟨#[109]⟩, .string ⟨#[108]⟩, .string ⟨#[120, 108]⟩] 9) = W at HL HBx ⊢
  generalize hg3 : w.heap.size + 1 = g3 at HBx ⊢
  go_loopw [3, 5] (fun out i wr => ∃ (k : Nat) (LA : Option Addr) (lc : Nat) (ms : List (ByteArray × Int × Int × Int)), k ≤ 5 ∧ ms.length ≤ k ∧ i = .int .i64 k ∧ out = .slice LA ms.length lc ∧ Hid (∀ x ∈ ms, x.1.size ≤ 64) ∧ GrowSt w wr b A c xs 27 4 sizeC LA lc ms ∧ Blk wr g3 9 (fiveN.map Value.string)) (fun _ i _ => 5 - (intOf i).toNat)
  case atStart => exact ⟨0, _, _, [], by omega, Nat.zero_le _, rfl, rfl, (fun x h => absurd h (by simp)), HL.out, HBx.out⟩
  case round =>
    obtain ⟨k, LA, lc, ms, hk, hmk, rfl, rfl, Hms, hL, hbx⟩ := hrel
    have HL1 := Lib.hid hL; clear hL
    have HB1 := Lib.hid hbx; clear hbx
    by_cases hk5 : k < 5
    · go_wp2_with fail
      refine (HN.out wr 4 (by omega) HL1.out.feed).mono ?_
      rintro e w2 ⟨v2, rfl, a0, a1, _, hS, hO⟩
      have HL2 := Lib.hid (HL1.out.turn (HL1.out.feed.turn hS hO) hO)
      have HB2 := Lib.hid (HB1.out.only hO (by omega))
      clear hS hO HL1 HB1 a1
      by_cases hv : 0 < v2
      · have hkn : k < fiveN.length := by simp [fiveN]; omega
        have u0 : w2.cell? ⟨g3, k, none⟩ = some (.string fiveN[k]) := HB2.out.cell (by rw [List.getElem?_map, List.getElem?_eq_getElem hkn]; rfl)
        have HNm : Hid (fiveN[k].size ≤ 64) := (show ∀ t ∈ fiveN, t.size ≤ 64 by decide) _ (List.getElem_mem hkn)
        generalize fiveN[k] = t at u0 HNm
        clear hkn
        go_wp2_with fail
        refine (HSi.out w2 t HL2.out.feed).mono ?_
        rintro e w4 ⟨x, y, z, rfl, _, _, _, _, hF4, hO⟩
        have HL4 := Lib.hid (HL2.out.turn hF4 hO)
        have HB4 := Lib.hid (HB2.out.only hO (by omega))
        have s4 := HL4.out.old.size
        have hg4 := HB4.out.lt
        clear hF4 hO HL2 HB2 u0
        go_wp2_with (at_builtin; refine wpList_append_far rfl _ _ _ rfl w.heap.size 27 (.agg #[.string ⟨#[]⟩, .int .i64 0, .int .i64 0, .int .i64 0]) 4 40 Try.underlying37 infoSize rfl (by omega) (by omega) sizeC ms (t, x, y, z) LA lc rfl (HL4.out.own.keep (balloc _ _)) w4.heap.size _ rfl rfl (four_cells (by go_simp) (by go_simp) (by go_simp) (by go_simp)) (HJ1.out _) (by omega) (by simp; omega) ?_)
        intro A2 c2 w5 hown5 hb5 hfar
        have HL5 := Lib.hid (HL4.out.grow hown5 hb5)
        have hq := hfar g3 (by first | omega | (simp; omega)) ((HL4.out.own.keep (balloc w4 (.cells #[.string t, .int .i64 x, .int .i64 y, .int .i64 z] 27))).apartType (HB4.out.next (balloc w4 _)).row (by decide))
        have HB5 : Hid (Blk w5 g3 9 (fiveN.map Value.string)) := (HB4.out.next (balloc w4 _)).kept hq.2
        have HG5 : Hid (∀ q ∈ ms ++ [(t, x, y, z)], q.1.size ≤ 64) := mem_snoc Hms.out HNm.out
        clear hown5 hb5 hq hfar
        go_wp2_with fail
        exact ⟨⟨k + 1, A2, c2, ms ++ [(t, x, y, z)], by omega, by simp; omega, by go_num, by simp, HG5.out, HL5.out, HB5.out⟩, by simp [intOf]; omega⟩
      · go_wp2_with fail
        exact ⟨⟨k + 1, LA, lc, ms, by omega, by omega, by go_num, rfl, Hms.out, HL2.out, HB2.out⟩, by simp [intOf]; omega⟩
    · clear HBx HB1
      go_wp2_with fail
      refine (HN.out wr 40 (by omega) HL1.out.feed).mono ?_
      rintro e w2 ⟨v2, rfl, a0, a1, _, hS, hO⟩
      have HL2 := Lib.hid (HL1.out.turn (HL1.out.feed.turn hS hO) hO)
      clear hS hO HL1 a1
      by_cases hv : v2 = 0
      · subst hv
        go_wp2_with fail
        change Calls _ _ _ (w2.alloc (.cells (threeN.map Value.string).toArray 9)) _
        refine (HT3.out w2 HL2.out.feed).mono ?_
        rintro e w3 ⟨kt, t, rfl, hkt, htl, htc, hF3, hO⟩
        have HL3 := Lib.hid (HL2.out.turn hF3 hO)
        have HTl := Lib.hid htl
        have hg4 := World.block_lt_of_cell? w3 _ htc
        clear hF3 hO HL2 htl
        go_wp2_with fail
        refine (HSi.out w3 t HL3.out.feed).mono ?_
        rintro e w4 ⟨x, y, z, rfl, _, _, _, _, hF4, hO⟩
        have HL4 := Lib.hid (HL3.out.turn hF4 hO)
        have s4 := HL4.out.old.size
        clear hF4 hO HL3 htc
        go_wp2_with (at_builtin; refine wpList_append_far rfl _ _ _ rfl w.heap.size 27 (.agg #[.string ⟨#[]⟩, .int .i64 0, .int .i64 0, .int .i64 0]) 4 40 Try.underlying37 infoSize rfl (by omega) (by omega) sizeC ms (t, x, y, z) LA lc rfl (HL4.out.own.keep (balloc _ _)) w4.heap.size _ rfl rfl (four_cells (by go_simp) (by go_simp) (by go_simp) (by go_simp)) (HJ1.out _) (by omega) (by simp; omega) ?_)
        intro A2 c2 w5 hown5 hb5 hfar
        have HL5 := Lib.hid (HL4.out.grow hown5 hb5)
        have HG5 : Hid (∀ q ∈ ms ++ [(t, x, y, z)], q.1.size ≤ 64) := mem_snoc Hms.out HTl.out
        clear hown5 hb5 hfar
        go_wp2_with fail
        go_ret
        have := HL5.out.drawn (m := 64) (G := fun t => t.1.size ≤ 64) HJL.out (by simp; omega) HG5.out
        simp only [List.length_append, List.length_cons, List.length_nil, Nat.zero_add] at this
        exact this
      · have hvb : (v2 == 0) = false := by simp [hv]
        by_cases hv1 : v2 = 1
        · subst hv1
          go_wp2_with fail
          go_loopw [3, 6] (fun out i wr => ∃ (k : Nat) (MA : Option Addr) (mc : Nat) (ns : List (ByteArray × Int × Int × Int)), k ≤ ns.length ∧ ns.length ≤ 13 ∧ i = .int .i64 k ∧ out = .slice MA ns.length mc ∧ Hid (∀ x ∈ ns, x.1.size ≤ 64) ∧ GrowSt w wr b A c xs 27 4 sizeC MA mc ns) (fun out _ _ => 13 - lenOf out)
          case atStart => exact ⟨0, LA, lc, ms, Nat.zero_le _, by omega, rfl, rfl, Hms.out, HL2.out⟩
          case round =>
            obtain ⟨k, MA, mc, ns, hkn, hnl, rfl, rfl, Hns, hM⟩ := hrel
            have HM1 := Lib.hid hM; clear hM
            go_wp2_with fail
            refine (HN.out _ 2 (by omega) HM1.out.feed).mono ?_
            rintro e w4 ⟨v4, rfl, c0, c1, _, hS, hO⟩
            have HM2 := Lib.hid (HM1.out.turn (HM1.out.feed.turn hS hO) hO)
            have c1 := c1 (by omega)
            clear hS hO HM1
            by_cases hlt2 : (ns.length : Int) < 12 + v4
            · have hnl2 : ns.length ≤ 12 := by omega
              have hk12 : k ≤ 12 := by omega
              go_wp2_with fail
              have HZ : Hid (((⟨#[122]⟩ : ByteArray) ++ (⟨#[97, 98, 99, 100, 101, 102, 103, 104, 105, 106, 107, 108, 109]⟩ : ByteArray).extract k (k + 1)).size ≤ 64) := by
                unfold Hid
                rw [ByteArray.size_append, ByteArray.size_extract]
                have : (⟨#[122]⟩ : ByteArray).size = 1 := rfl
                have : (⟨#[97, 98, 99, 100, 101, 102, 103, 104, 105, 106, 107, 108, 109]⟩ : ByteArray).size = 13 := rfl
                omega
              generalize (⟨#[122]⟩ : ByteArray) ++ (⟨#[97, 98, 99, 100, 101, 102, 103, 104, 105, 106, 107, 108, 109]⟩ : ByteArray).extract k (k + 1) = t at HZ ⊢
              refine (HSi.out w4 t HM2.out.feed).mono ?_
              rintro e w5 ⟨x, y, z, rfl, _, _, _, _, hF4, hO⟩
              have HM3 := Lib.hid (HM2.out.turn hF4 hO)
              have s4 := HM3.out.old.size
              clear hF4 hO HM2
              go_wp2_with (at_builtin; refine wpList_append_far rfl _ _ _ rfl w.heap.size 27 (.agg #[.string ⟨#[]⟩, .int .i64 0, .int .i64 0, .int .i64 0]) 4 40 Try.underlying37 infoSize rfl (by omega) (by omega) sizeC ns (t, x, y, z) MA mc rfl (HM3.out.own.keep (balloc _ _)) w5.heap.size _ rfl rfl (four_cells (by go_simp) (by go_simp) (by go_simp) (by go_simp)) (HJ1.out _) (by omega) (by simp; omega) ?_)
              intro A6 c6 w6 hown6 hb6 hfar
              have HM4 := Lib.hid (HM3.out.grow hown6 hb6)
              have HG6 : Hid (∀ q ∈ ns ++ [(t, x, y, z)], q.1.size ≤ 64) := mem_snoc Hns.out HZ.out
              clear hown6 hb6 hfar
              go_wp2_with fail
              exact ⟨⟨k + 1, A6, c6, ns ++ [(t, x, y, z)], by simp; omega, by simp; omega, by go_num, by simp, HG6.out, HM4.out⟩, by simp [lenOf]; omega⟩
            · go_wp2_with fail
              go_ret
              exact HM2.out.drawn HJL.out (by omega) Hns.out
        · have hvb1 : (v2 == 1) = false := by simp [hv1]
          clear hv hv1
          go_wp2_with fail
          go_ret
          exact HL2.out.drawn HJL.out (by omega) Hms.out

theorem Flat.take {α : Type} {w : World} {lo hi sz : Nat} {E : TypeId} {f : α → List Value} {A : Option Addr} {xs : List α} (h : Flat w lo hi E sz f A xs) (k : Nat) : Flat w lo hi E sz f A (xs.take k) := fun hp => by
  rw [List.length_take] at hp
  obtain ⟨g, m, e, h1, h2, h3, h4, hc⟩ := h (by omega)
  refine ⟨g, m, e, h1, h2, h3, Nat.le_trans (Nat.mul_le_mul_right sz (by rw [List.length_take]; omega)) h4, fun i x hx j v hj => hc i x ?_ j v hj⟩
  rw [List.getElem?_take] at hx
  split at hx
  · exact hx
  · cases hx
/-- Riders and sizes. -/
def GivenRL (w : World) (e : Ending) (w' : World) : Prop := ∃ (RA SA : Option Addr) (rc sc : Nat) (rs : List (Int × Int × Int)) (ss : List (ByteArray × Int × Int × Int)), e = .returned (.tuple #[.slice RA rs.length rc, .slice SA ss.length sc]) ∧ Flat w' w.heap.size w'.heap.size 25 3 ridrC RA rs ∧ rs.length ≤ rc ∧ rs.length ≤ 64 ∧ Flat w' w.heap.size w'.heap.size 27 4 sizeC SA ss ∧ ss.length ≤ sc ∧ ss.length ≤ 64 ∧ (∀ x ∈ ss, x.1.size ≤ 64) ∧ Below w.heap.size w w'
set_option maxHeartbeats 2000000 in
theorem DrawSizesTable_any (A : Option Addr) (c : Nat) (xs : List Int) (w : World) (hr : Rd w w.heap.size 1 uC A xs) (hx : ∀ x ∈ xs, 0 ≤ x ∧ x < 256) (hm : xs.length ≤ 4096) :
    Calls Try.prog 94 #[.slice A xs.length c] w (GivenRL w) := by
  have HS := Lib.hid (l01From_any A c xs w hr hx hm)
  have HFd : Hid (∀ (v : World) (b : Nat), Src v b A c xs → w.heap.size ≤ b → Below w.heap.size w v → Feed v b A c xs) := fun v b h1 h2 h3 => ⟨h1, (hr.below h3).more h2, hx, hm⟩
  have HRi : Hid (∀ (v : World) (b : Nat), Feed v b A c xs → Calls Try.prog 112 #[.pointer (some ⟨b, 0, none⟩)] v (DrawnRiders v b A c xs)) := fun v b h => l19Riders_any A c b xs v h
  have HLi : Hid (∀ (v : World) (b : Nat), Feed v b A c xs → Calls Try.prog 113 #[.pointer (some ⟨b, 0, none⟩)] v (DrawnSizes v b A c xs)) := fun v b h => l19List_any A c b xs v h
  clear hr hx
  go_enter Try.func94, Try.ntmps94
  go_wp2_with fail
  refine HS.out.mono ?_
  rintro e w1 ⟨b, rfl, hS, hbl, hb1⟩
  have HF1 := Lib.hid (HFd.out w1 b hS hbl hb1)
  have hlt1 := hS.lt
  clear hS HS HFd
  go_wp2_with fail
  refine (HRi.out w1 b HF1.out).mono ?_
  rintro e w2 ⟨RA, rc, rs, rfl, fr, hrc, hrl, _, hF2, hO2⟩
  have HF2 := Lib.hid hF2
  have HR := Lib.hid fr
  have z2 := hO2.size
  have hb1s := hb1.size
  have hb2 : Below w.heap.size w w2 := hb1.trans (hO2.below (by omega) (by omega))
  clear hF2 fr HRi HF1 hO2 hb1
  go_wp2_with fail
  refine (HLi.out w2 b HF2.out).mono ?_
  rintro e w3 ⟨SA, sc, ss, rfl, fs, hsc, hsl, hsz, hF3, hO3⟩
  have hw1 := hb1s
  have HR3 := Lib.hid ((HR.out.only hO3 (Nat.le_refl _) (Or.inr (by omega))).mono hb1s hO3.size)
  have HS3 := Lib.hid (fs.mono (by omega : w.heap.size ≤ w2.heap.size) (Nat.le_refl _))
  have HZ := Lib.hid hsz
  have hb3 : Below w.heap.size w w3 := hb2.trans (hO3.below (by omega) (by omega))
  clear fs hF3 hsz HR HLi HF2 hO3
  go_wp2_with fail
  go_ret2
  exact ⟨RA, SA, rc, sc, rs, ss, rfl, HR3.out, hrc, hrl, HS3.out, hsc, hsl, HZ.out, hb3⟩
set_option maxHeartbeats 2000000 in
theorem DrawFewestSizes_any (A : Option Addr) (c : Nat) (xs : List Int) (w : World) (hr : Rd w w.heap.size 1 uC A xs) (hx : ∀ x ∈ xs, 0 ≤ x ∧ x < 256) (hm : xs.length ≤ 4096) :
    Calls Try.prog 49 #[.slice A xs.length c] w (GivenRL w) := by
  have HS := Lib.hid (l01From_any A c xs w hr hx hm)
  have HFd : Hid (∀ (v : World) (b : Nat), Src v b A c xs → w.heap.size ≤ b → Below w.heap.size w v → Feed v b A c xs) := fun v b h1 h2 h3 => ⟨h1, (hr.below h3).more h2, hx, hm⟩
  have HT : Hid (∀ v : World, Below w.heap.size w v → Calls Try.prog 94 #[.slice A xs.length c] v (GivenRL v)) := fun v hv => DrawSizesTable_any A c xs v (hr.next hv) hx hm
  have HN : Hid (∀ (v : World) (b : Nat) (n : Int), n < 20000 → Feed v b A c xs → Calls Try.prog 75 #[.pointer (some ⟨b, 0, none⟩), .int .i64 n] v (Drawn v b A c xs n)) := fun v b n hn h => l01Next_any A c b xs n v h.src h.rd h.byte h.small (by omega)
  clear hr hx
  go_enter Try.func49, Try.ntmps49
  go_wp2_with fail
  refine HS.out.mono ?_
  rintro e w1 ⟨b, rfl, hS, hbl, hb1⟩
  have HF1 := Lib.hid (HFd.out w1 b hS hbl hb1)
  have hlt1 := hS.lt
  clear hS HS HFd
  go_wp2_with fail
  refine (HT.out w1 hb1).mono ?_
  rintro e w2 ⟨RA, SA, rc, sc, rs, ss, rfl, hR, hrc, hrl, hSs, hsc, hsl, hsz, hb2⟩
  have HF2 := Lib.hid (HF1.out.next hb2)
  have HR := Lib.hid hR
  have HS2 := Lib.hid hSs
  have HZ := Lib.hid hsz
  have hb12 := bthen hb1 hb2
  have z2 := hb2.size
  have z1 := hb1.size
  clear hR hSs hsz HF1 HT hb1
  by_cases h2 : 2 < rs.length
  · go_wp2_with fail
    refine (HN.out w2 b 2 (by omega) HF2.out).mono ?_
    rintro e w3 ⟨v, rfl, v0, v1, _, hS3, hO3⟩
    have hb3 : Below w.heap.size w w3 := hb12.trans (hO3.below (by omega) (by omega))
    have HR3 := Lib.hid ((HR.out.only hO3 (Nat.le_refl _) (Or.inr (by omega))).mono z1 hO3.size)
    have HS3 := Lib.hid ((HS2.out.only hO3 (Nat.le_refl _) (Or.inr (by omega))).mono z1 hO3.size)
    clear HR HS2 hO3 hS3 v1
    by_cases hv : v = 0
    · subst hv
      have hr2 : 2 ≤ rc := by omega
      go_wp2_with fail
      go_ret2
      exact ⟨RA, SA, rc, sc, rs.take 2, ss, by rw [List.length_take, show min 2 rs.length = 2 by omega]; rfl, HR3.out.take 2, by rw [List.length_take]; omega, by rw [List.length_take]; omega, HS3.out, hsc, hsl, HZ.out, hb3⟩
    · have hvb : (v == 0) = false := by simp [hv]
      clear hv
      go_wp2_with fail
      go_ret2
      exact ⟨RA, SA, rc, sc, rs, ss, rfl, HR3.out, hrc, hrl, HS3.out, hsc, hsl, HZ.out, hb3⟩
  · go_wp2_with fail
    go_ret2
    exact ⟨RA, SA, rc, sc, rs, ss, rfl, HR.out.mono z1 (Nat.le_refl _), hrc, hrl, HS2.out.mono z1 (Nat.le_refl _), hsc, hsl, HZ.out, hb12⟩
end Go.Proofs.Ytfdnpobppelhaaa
