/- DERIVED. A port's text drawn, now and then damaged. -/
import Derived.Test.YtlhbjgbkpjlacaaDraw5
import Derived.Test.YtlhbjgbkpjlacaaDraw3
import Derived.Test.YtlhbjgbkpjlacaaBlk
import Derived.Test.YtlhbjgbkpjlacaaPortText
import Derived.Deep.RegionLaw
import Derived.Deep.CutRange
namespace Go.Proofs.Ytlhbjgbkpjlacaa
set_option maxRecDepth 100000
open Go.RowKit

def eightN : List ByteArray := [⟨#[48]⟩, ⟨#[35]⟩, ⟨#[46]⟩, ⟨#[47]⟩, ⟨#[32]⟩, ⟨#[97]⟩, ⟨#[45]⟩, ⟨#[10]⟩]
theorem portText_size (k s : Int) (p : Bool) (h : portB k s = true) : (S (portT k s p)).size ≤ 60 := by
  obtain ⟨r1, r2, r3, r4⟩ := portB_true h
  have l1 := decL_len_i64 k (by omega)
  have l2 := decL_len_i64 s (by omega)
  rw [S_size]
  unfold portT
  simp only [List.length_append, List.length_cons, List.length_nil]
  omega
set_option maxHeartbeats 4000000 in
theorem l01Damage_any (A : Option Addr) (c b : Nat) (xs : List Int) (t : ByteArray) (ht : t.size ≤ 60) (w : World) (hF : Feed w b A c xs) :
    Calls Try.prog 92 #[.pointer (some ⟨b, 0, none⟩), .string t] w (DrawnText w b A c xs) := by
  have HN : Hid (∀ (v : World) (n : Int), n < 20000 → Feed v b A c xs → Calls Try.prog 91 #[.pointer (some ⟨b, 0, none⟩), .int .i64 n] v (Drawn v b A c xs n)) := fun v n hn h => l01Next_any A c b xs n v h.src h.rd h.byte h.small (by omega)
  have HF := Lib.hid hF
  clear hF
  go_enter Try.func92, Try.ntmps92
  go_wp2_with fail
  refine (HN.out w _ (by omega) HF.out).mono ?_
  rintro e w1 ⟨k, rfl, k0, k1, k2, hS, hO1⟩
  have hk : k ≤ (t.size : Int) := by
    by_cases h : 1 < (t.size : Int) + 1
    · have := k1 h; omega
    · have := k2 (by omega); omega
  have HF1 := Lib.hid (HF.out.turn hS hO1)
  have HO1 := Lib.hid hO1
  clear k1 k2 hS HF hO1
  go_wp2_with fail
  refine (HN.out w1 8 (by omega) HF1.out).mono ?_
  rintro e w2 ⟨q, rfl, q0, q1, _, hS, hO2⟩
  have q1 := q1 (by omega)
  have HF2 := Lib.hid (HF1.out.turn hS hO2)
  have HO2 := Lib.hid (HO1.out.trans hO2)
  clear hS hO2 HF1 HO1
  obtain ⟨n, rfl⟩ := Int.eq_ofNat_of_zero_le k0
  have hn : n ≤ t.size := by omega
  have hT0 : Hid ((t.extract 0 n).size ≤ 64) := by
    unfold Hid
    rw [ByteArray.size_extract]
    omega
  by_cases e0 : q = 0
  · subst e0
    go_wp2_with fail
    go_ret
    exact ⟨_, rfl, hT0.out, HF2.out, HO2.out⟩
  have b0 : (q == 0) = false := by simp [e0]
  by_cases e1 : q = 1
  · subst e1
    have hlt2 : b < w2.heap.size := HF2.out.src.lt
    go_upto_region 6 with (fail)
    go_cut [4] from 20 to 32 (fun cc wx => ∃ x : ByteArray, cc = .string x ∧ x.size ≤ 64 ∧ Feed wx b A c xs ∧ Only b (b + 1) w wx)
    case first =>
      go_region_law (first
        | (go_simp; go_at_call 91; refine (HN.out w2.drew 8 (by omega) (HF2.out.next (bdrew _))).mono ?_; rintro e w3 ⟨v3, rfl, b0, b1, _, hS, hO⟩; have b1 := b1 (by omega); obtain ⟨m, rfl⟩ := Int.eq_ofNat_of_zero_le b0; have hm8 : m < eightN.length := (by simp [eightN]; omega); have hm8i : (m : Int) < 8 := (by omega); have HF3 := Lib.hid ((HF2.out.next (bdrew _)).turn hS hO); have HO3 : Hid (Only b (b + 1) w w3) := (HO2.out.trans (Only.of_below (bdrew w2))).trans hO; have x0 : (w3.alloc (.cells #[.string ⟨#[48]⟩, .string ⟨#[35]⟩, .string ⟨#[46]⟩, .string ⟨#[47]⟩, .string ⟨#[32]⟩, .string ⟨#[97]⟩, .string ⟨#[45]⟩, .string ⟨#[10]⟩] 9)).cell? ⟨w3.heap.size, m, none⟩ = some (.string eightN[m]) := (Blk.made w3 9 (eightN.map Value.string)).cell (by rw [List.getElem?_map, List.getElem?_eq_getElem hm8]; rfl); have HY : Hid (eightN[m].size ≤ 1) := (show ∀ t ∈ eightN, t.size ≤ 1 by decide) _ (List.getElem_mem hm8); generalize eightN[m] = y at x0 HY; have hy1 := HY.out; have hy2 : ¬ 9223372036854775807 < n + y.size := (by omega); have hy3 : ¬ 9223372036854775807 < n + y.size + (t.size - n) := (by omega); have hy6 : ¬ 9223372036854775807 < (t.extract 0 n).size + y.size := (by rw [ByteArray.size_extract]; omega); have hy7 : ¬ 9223372036854775807 < (t.extract 0 n ++ y).size + (t.extract n t.size).size := (by rw [ByteArray.size_append, ByteArray.size_extract, ByteArray.size_extract]; omega); clear hS hO; go_wp2_with fail)
        | (go_simp; go_at_call 91; refine (HN.out (w2.alloc (.cells #[.string ⟨#[48]⟩, .string ⟨#[35]⟩, .string ⟨#[46]⟩, .string ⟨#[47]⟩, .string ⟨#[32]⟩, .string ⟨#[97]⟩, .string ⟨#[45]⟩, .string ⟨#[10]⟩] 9)).drew 8 (by omega) (HF2.out.next (bthen (balloc w2 _) (bdrew _)))).mono ?_; rintro e w3 ⟨v3, rfl, b0, b1, _, hS, hO⟩; have b1 := b1 (by omega); obtain ⟨m, rfl⟩ := Int.eq_ofNat_of_zero_le b0; have hm8 : m < eightN.length := (by simp [eightN]; omega); have hm8i : (m : Int) < 8 := (by omega); have HF3 := Lib.hid ((HF2.out.next (bthen (balloc w2 (.cells #[.string ⟨#[48]⟩, .string ⟨#[35]⟩, .string ⟨#[46]⟩, .string ⟨#[47]⟩, .string ⟨#[32]⟩, .string ⟨#[97]⟩, .string ⟨#[45]⟩, .string ⟨#[10]⟩] 9)) (bdrew _))).turn hS hO); have HO3 : Hid (Only b (b + 1) w w3) := (HO2.out.trans (Only.of_below (bthen (balloc w2 (.cells #[.string ⟨#[48]⟩, .string ⟨#[35]⟩, .string ⟨#[46]⟩, .string ⟨#[47]⟩, .string ⟨#[32]⟩, .string ⟨#[97]⟩, .string ⟨#[45]⟩, .string ⟨#[10]⟩] 9)) (bdrew _)))).trans hO; have x0 : w3.cell? ⟨w2.heap.size, m, none⟩ = some (.string eightN[m]) := ((((Blk.made w2 9 (eightN.map Value.string)).next (bdrew _)).only hO (by omega))).cell (by rw [List.getElem?_map, List.getElem?_eq_getElem hm8]; rfl); have HY : Hid (eightN[m].size ≤ 1) := (show ∀ t ∈ eightN, t.size ≤ 1 by decide) _ (List.getElem_mem hm8); generalize eightN[m] = y at x0 HY; have hy1 := HY.out; have hy2 : ¬ 9223372036854775807 < n + y.size := (by omega); have hy3 : ¬ 9223372036854775807 < n + y.size + (t.size - n) := (by omega); have hy6 : ¬ 9223372036854775807 < (t.extract 0 n).size + y.size := (by rw [ByteArray.size_extract]; omega); have hy7 : ¬ 9223372036854775807 < (t.extract 0 n ++ y).size + (t.extract n t.size).size := (by rw [ByteArray.size_append, ByteArray.size_extract, ByteArray.size_extract]; omega); clear hS hO; go_wp2_with fail))
      all_goals
        go_wp2_with fail
        go_meet
        refine ⟨_, rfl, ?_, ?_, ?_⟩
        · rw [ByteArray.size_append, ByteArray.size_append, ByteArray.size_extract, ByteArray.size_extract]
          omega
        · first
            | exact HF3.out
            | exact HF3.out.next (balloc _ _)
            | exact HF3.out.next (bdrew _)
        · first
            | exact HO3.out
            | exact HO3.out.trans (Only.alloc _)
            | exact HO3.out.trans (Only.of_below (bdrew _))
    case rest =>
      obtain ⟨x, rfl, hx, hfx, hox⟩ := hcut
      have HF5 := Lib.hid hfx
      have HO5 := Lib.hid hox
      clear hfx hox
      go_wp2_with fail
      go_ret
      exact ⟨x, rfl, hx, HF5.out, HO5.out⟩
  have b1 : (q == 1) = false := by simp [e1]
  by_cases e2 : q = 2
  · subst e2
    by_cases hl : n < t.size
    · have hli : (n : Int) < (t.size : Int) := by omega
      go_upto_region 9 with (fail)
      go_quiet (fail)
      go_wp2_with fail
      go_ret
      refine ⟨_, rfl, ?_, HF2.out.next (below_drewN (Below.refl _ _) _), HO2.out.trans (Only.of_below (below_drewN (Below.refl _ _) _))⟩
      rw [ByteArray.size_append, ByteArray.size_extract, ByteArray.size_extract]
      omega
    · have hli : ¬ (n : Int) < (t.size : Int) := by omega
      go_wp2_with fail
      go_ret
      exact ⟨t, rfl, by omega, HF2.out, HO2.out⟩
  have b2 : (q == 2) = false := by simp [e2]
  clear e0 e1 e2
  go_wp2_with fail
  go_ret
  exact ⟨t, rfl, by omega, HF2.out, HO2.out⟩

def GivenText (w : World) (e : Ending) (w' : World) : Prop := ∃ t : ByteArray, e = .returned (.string t) ∧ t.size ≤ 64 ∧ Below w.heap.size w w'
set_option maxHeartbeats 2000000 in
theorem DrawReadPort_any (A : Option Addr) (c : Nat) (xs : List Int) (w : World) (hr : Rd w w.heap.size 1 uC A xs) (hx : ∀ x ∈ xs, 0 ≤ x ∧ x < 256) (hm : xs.length ≤ 4096) :
    Calls Try.prog 17 #[.slice A xs.length c] w (GivenText w) := by
  have HS := Lib.hid (l01From_any A c xs w hr hx hm)
  have HFd : Hid (∀ (v : World) (b : Nat), Src v b A c xs → w.heap.size ≤ b → Below w.heap.size w v → Feed v b A c xs) := fun v b h1 h2 h3 => ⟨h1, (hr.below h3).more h2, hx, hm⟩
  have HP : Hid (∀ (v : World) (b : Nat), Feed v b A c xs → Calls Try.prog 89 #[.pointer (some ⟨b, 0, none⟩)] v (DrawnPort v b A c xs)) := fun v b h => l16DrawPort_any A c b xs v h
  have HN : Hid (∀ (v : World) (b : Nat) (n : Int), n < 20000 → Feed v b A c xs → Calls Try.prog 91 #[.pointer (some ⟨b, 0, none⟩), .int .i64 n] v (Drawn v b A c xs n)) := fun v b n hn h => l01Next_any A c b xs n v h.src h.rd h.byte h.small (by omega)
  have HDm : Hid (∀ (v : World) (b : Nat) (t : ByteArray), t.size ≤ 60 → Feed v b A c xs → Calls Try.prog 92 #[.pointer (some ⟨b, 0, none⟩), .string t] v (DrawnText v b A c xs)) := fun v b t ht h => l01Damage_any A c b xs t ht v h
  clear hr hx
  go_enter Try.func17, Try.ntmps17
  go_wp2_with fail
  refine HS.out.mono ?_
  rintro e w1 ⟨b, rfl, hS, hbl, hb1⟩
  have HF1 := Lib.hid (HFd.out w1 b hS hbl hb1)
  have hlt1 := hS.lt
  clear hS HS HFd
  go_wp2_with fail
  refine (HP.out w1 b HF1.out).mono ?_
  rintro e w2 ⟨k, s, p, rfl, k0, k1, s0, s1, hF2, hO2⟩
  have hb2 : Below w.heap.size w w2 := hb1.trans (hO2.below (by omega) (by omega))
  have HF2 := Lib.hid hF2
  have HPT := Lib.hid (PortText_spec k s p w2)
  have hts : (portTextR k s p).1.size ≤ 60 := by
    unfold portTextR
    split
    · rename_i h
      exact portText_size k s p h
    · exact Nat.zero_le _
  clear hF2 hO2 HP HF1 hb1
  generalize portTextR k s p = R at HPT hts
  obtain ⟨t, code⟩ := R
  try simp only at hts
  go_wp2_with fail
  refine HPT.out.mono ?_
  rintro e w3 ⟨rfl, hb3⟩
  have HF3 := Lib.hid (HF2.out.next hb3)
  have hb03 := bthen hb2 hb3
  have hs3 := hb3.size
  clear HF2 HPT
  have HEnd : Hid (∀ (v w' : World), Below w.heap.size w v → Only b (b + 1) v w' → Below w.heap.size w w') := fun v w' h1 h2 => h1.trans (h2.below (by omega) h1.size)
  by_cases hc : code = 0
  · subst hc
    go_wp2_with fail
    refine (HN.out w3 b 3 (by omega) HF3.out).mono ?_
    rintro e w4 ⟨v, rfl, v0, v1, _, hS, hO4⟩
    have HF4 := Lib.hid (HF3.out.turn hS hO4)
    have hb4 := HEnd.out _ _ hb03 hO4
    clear hS hO4 HF3 v1
    by_cases hv : v = 0
    · subst hv
      go_wp2_with fail
      refine (HDm.out w4 b t hts HF4.out).mono ?_
      rintro e w5 ⟨t2, rfl, ht2, _, hO5⟩
      have hb5 := HEnd.out _ _ hb4 hO5
      go_wp2_with fail
      go_ret
      exact ⟨t2, rfl, ht2, hb5⟩
    · have hvb : (v == 0) = false := by simp [hv]
      clear hv
      go_wp2_with fail
      go_ret
      exact ⟨t, rfl, by omega, hb4⟩
  · have hcb : (code == 0) = false := by simp [hc]
    have hcb2 : (code != 0) = true := by simp [hc]
    clear hc
    go_wp2_with fail
    refine (HN.out w3 b 3 (by omega) HF3.out).mono ?_
    rintro e w4 ⟨v, rfl, v0, v1, _, hS, hO4⟩
    have HF4 := Lib.hid (HF3.out.turn hS hO4)
    have hb4 := HEnd.out _ _ hb03 hO4
    clear hS hO4 HF3 v1
    by_cases hv : v = 0
    · subst hv
      go_wp2_with fail
      refine (HDm.out w4 b ⟨#[51, 58, 50, 56, 54, 112]⟩ (by decide) HF4.out).mono ?_
      rintro e w5 ⟨t2, rfl, ht2, _, hO5⟩
      have hb5 := HEnd.out _ _ hb4 hO5
      go_wp2_with fail
      go_ret
      exact ⟨t2, rfl, ht2, hb5⟩
    · have hvb : (v == 0) = false := by simp [hv]
      clear hv
      go_wp2_with fail
      go_ret
      exact ⟨_, rfl, by decide, hb4⟩
end Go.Proofs.Ytlhbjgbkpjlacaa
