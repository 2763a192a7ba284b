/- DERIVED. Numbers read: the walks. By program (greadn.py). -/
import Derived.Test.YtlhbjgbkpjlacaaReadW
namespace Go.Proofs.Ytlhbjgbkpjlacaa
set_option maxRecDepth 100000
open Go.RowKit

def GivesNum (s : ByteArray) (w : World) (e : Ending) (w' : World) : Prop := ∃ (n : Int) (ok : Bool), e = .returned (.tuple #[.int .i64 n, .bool ok]) ∧ ReadNum s n ok ∧ w = w'
theorem ReadNum.any {s : ByteArray} {n : Int} {ok : Bool} (h0 : -1000000000000000000 < n) (h1 : n < 1000000000000000000) (h : ∀ m : Nat, m < 1000000 → s ≠ S (decL m)) : ReadNum s n ok := ⟨h0, h1, fun m hm e => absurd e (h m hm)⟩
theorem not_minus {s : ByteArray} (h0 : 0 < s.size) (h : s[0] = 45) : ∀ m : Nat, m < 1000000 → s ≠ S (decL m) := fun m _ e => by
  have h1 := byte_at (s := s) (k := 0) h0
  rw [h, e, S_data] at h1
  exact decL_first m _ h1 rfl
theorem not_zero {s : ByteArray} (h0 : 1 < s.size) (h : s[0] = 48) : ∀ m : Nat, m < 1000000 → s ≠ S (decL m) := fun m _ e => by
  have h1 := byte_at (s := s) (k := 0) (by omega)
  rw [h] at h1
  subst e
  rw [S_data] at h1
  have := decL_lead m h1
  rw [S_size] at h0
  omega
theorem not_digit {s : ByteArray} {k : Nat} (h0 : k < s.size) (h : digB s[k] = false) : ∀ m : Nat, m < 1000000 → s ≠ S (decL m) := fun m _ e => by
  have h1 := byte_at (s := s) (k := k) h0
  generalize s[k] = c at h h1
  subst e
  rw [S_data] at h1
  have := List.all_eq_true.1 (decL_dig m) c (List.mem_of_getElem? h1)
  rw [h] at this
  cases this
theorem dig_next {s : ByteArray} {k : Nat} (h : k < s.size) (ha : (s.data.toList.take k).all digB = true) (hb : digB s[k] = true) : (s.data.toList.take (k + 1)).all digB = true ∧ valL (s.data.toList.take (k + 1)) = 10 * valL (s.data.toList.take k) + ((s[k].toNat : Int) - 48) := by
  have h1 := byte_at h
  have e : s.data.toList.take (k + 1) = s.data.toList.take k ++ [s[k]] := by
    rw [List.take_add_one, h1]
    rfl
  rw [e]
  exact ⟨by rw [List.all_append, ha]; simp [hb], valL_snoc _ _⟩
theorem take_len {s : ByteArray} {k : Nat} (h : k ≤ s.size) : (s.data.toList.take k).length = k := by
  rw [List.length_take]
  have : s.data.toList.length = s.size := by simp
  omega
theorem take_whole (s : ByteArray) : s.data.toList.take s.size = s.data.toList := List.take_of_length_le (by simp)
theorem digB_no {c : UInt8} (h : digB c = false) : (c.toNat : Int) < 48 ∨ 57 < (c.toNat : Int) := by
  by_cases h1 : (c.toNat : Int) < 48
  · exact Or.inl h1
  · right
    unfold digB at h
    rw [decide_eq_true (show 48 ≤ (c.toNat : Int) by omega)] at h
    simpa using h
theorem valL_bd18 {l : List UInt8} (h : l.length ≤ 18) (hd : l.all digB = true) : 0 ≤ valL l ∧ valL l < 1000000000000000000 := by
  obtain ⟨h1, h2⟩ := valL_bd l.length l rfl hd
  have : (10 : Int) ^ l.length ≤ 10 ^ 18 := by
    have h3 : (10 : Nat) ^ l.length ≤ 10 ^ 18 := Nat.pow_le_pow_right (by omega) h
    have h4 : ((10 : Nat) ^ l.length : Int) ≤ ((10 ^ 18 : Nat) : Int) := by exact_mod_cast h3
    simpa using h4
  exact ⟨h1, by omega⟩

set_option maxHeartbeats 1000000 in
theorem readDecimal_any (s : ByteArray) (hs : s.size ≤ 1048576) (w : World) : Calls Try.prog 86 #[.string s] w (GivesNum s w) := by
  by_cases h0 : s.size = 0
  · skip
    go_enter Try.func86, Try.ntmps86
    go_wp2_with fail
    go_ret2
    exact ⟨0, false, rfl, ReadNum.bad fun m hm e => by have := (dec_size hm e).1; omega, rfl⟩
  · have hp : 0 < s.size := by omega
    by_cases hc : s[0] = 45
    · have hcc : ((s[0].toNat : Int) == 45) = true := by rw [hc]; rfl
      have HN := Lib.hid (not_minus hp hc)
      clear hc h0
      have Hds : Hid ((s.extract 1 s.size).size = s.size - 1) := by
        unfold Hid
        simp
      by_cases ha : s.size - 1 = 0
      · skip
        go_enter Try.func86, Try.ntmps86
        go_wp2_with fail
        all_goals (go_ret2; exact ⟨0, false, rfl, ReadNum.bad HN.out, rfl⟩)
      by_cases hb : 18 < ((s.size - 1 : Nat) : Int)
      · skip
        go_enter Try.func86, Try.ntmps86
        go_wp2_with fail
        all_goals (go_ret2; exact ⟨0, false, rfl, ReadNum.bad HN.out, rfl⟩)
      by_cases hz : (((s.extract 1 s.size)[0]'(by have := Hds.out; omega)).toNat : Int) = 48
      · have h2 : 1 < s.size := by omega
        go_enter Try.func86, Try.ntmps86
        go_wp2_with fail
        all_goals (go_ret2; exact ⟨0, false, rfl, ReadNum.bad HN.out, rfl⟩)
      have h2 : 0 < s.size - 1 := by omega
      have hz2 : ((((s.extract 1 s.size)[0]'(by have := Hds.out; omega)).toNat : Int) == 48) = false := by simpa using hz
      have hz3 : (((s.size - 1 : Nat) : Int) == 0) = false := by
        rw [beq_eq_false_iff_ne]
        omega
      have hd18 : (s.extract 1 s.size).size ≤ 18 := by
        have := Hds.out
        omega
      have hdl : (s.extract 1 s.size).size < s.size := by
        have := Hds.out
        omega
      go_enter Try.func86, Try.ntmps86
      go_wp2_with fail
      have HBad : Hid (∀ k (h : k < (s.extract 1 s.size).size), digB (s.extract 1 s.size)[k] = false → ReadNum s 0 false) := fun _ _ _ => ReadNum.bad HN.out
      clear hz hz2 ha hb
      generalize ((s.extract 1 s.size)[0]'(by have := Hds.out; omega)).toNat = v0
      clear Hds
      generalize s.extract 1 s.size = D at hd18 hdl HBad ⊢
      go_loopw [5, 6] (fun x i wr => ∃ k : Nat, k ≤ D.size ∧ i = .int .i64 k ∧ x = .int .i64 (valL (D.data.toList.take k)) ∧ (D.data.toList.take k).all digB = true ∧ w = wr) (fun _ i _ => D.size - (intOf i).toNat)
      case atStart => exact ⟨0, Nat.zero_le _, rfl, rfl, rfl, rfl⟩
      case round =>
        obtain ⟨k, hk, rfl, rfl, hall, rfl⟩ := hrel
        have Ha := Lib.hid hall; clear hall
        by_cases hlt : k < D.size
        · have hbd := valL_bd17 (l := D.data.toList.take k) (by rw [take_len hk]; omega) Ha.out
          cases hd : digB D[k] with
          | false =>
            have HB := Lib.hid (HBad.out k hlt hd)
            have h2 := digB_no hd
            clear hd
            rcases h2 with h2 | h2
            · go_wp2_with fail
              go_ret2
              exact ⟨0, false, rfl, HB.out, rfl⟩
            · have h3 : ¬ (D[k].toNat : Int) < 48 := by omega
              go_wp2_with fail
              go_ret2
              exact ⟨0, false, rfl, HB.out, rfl⟩
          | true =>
            have hdt := digB_true hd
            have HN := Lib.hid (dig_next hlt Ha.out hd)
            clear hd
            generalize valL (D.data.toList.take k) = q at hbd HN ⊢
            generalize hck : D[k] = c at hdt HN ⊢
            have h3 : ¬ (c.toNat : Int) < 48 := by omega
            have h4 : ¬ 57 < (c.toNat : Int) := by omega
            go_wp2_with fail
            exact ⟨⟨k + 1, by omega, by go_num, by rw [HN.out.2], HN.out.1, trivial⟩, by simp [intOf]; omega⟩
        · obtain rfl : k = D.size := by omega
          rw [take_whole] at Ha ⊢
          have hbd := valL_bd18 (l := D.data.toList) (by have := take_len (s := D) (Nat.le_refl _); rw [take_whole] at this; omega) Ha.out
          generalize valL D.data.toList = q at hbd ⊢
          go_wp2_with fail
          go_ret2
          exact ⟨-q, true, rfl, ReadNum.any (by omega) (by omega) HN.out, rfl⟩
    · have hcc : ((s[0].toNat : Int) == 45) = false := by
        rw [beq_eq_false_iff_ne]
        intro e
        refine hc (UInt8.toNat_inj.1 ?_)
        have : (45 : UInt8).toNat = 45 := rfl
        omega
      clear hc h0
      by_cases hb : 18 < (s.size : Int)
      · skip
        go_enter Try.func86, Try.ntmps86
        go_wp2_with fail
        all_goals (go_ret2; exact ⟨0, false, rfl, ReadNum.bad fun m hm e => by have := (dec_size hm e).2; omega, rfl⟩)
      have HDone : Hid (s.data.toList.all digB = true → ReadNum s (valL s.data.toList) true) := fun h => by
        have := valL_bd18 (l := s.data.toList) (by have := take_len (s := s) (Nat.le_refl _); rw [take_whole] at this; omega) h
        refine ⟨by omega, by omega, fun m hm e => ⟨?_, rfl⟩⟩
        rw [e, S_data, valL_dec]
      have HBad : Hid (∀ k (h : k < s.size), digB s[k] = false → ReadNum s 0 false) := fun k h e => ReadNum.bad (not_digit h e)
      have hse : ((s.size : Int) == 0) = false := by
        rw [beq_eq_false_iff_ne]
        omega
      by_cases hz : (s[0].toNat : Int) = 48
      · by_cases h1 : 1 < (s.size : Int)
        · have HN := Lib.hid (not_zero (s := s) (by omega) (UInt8.toNat_inj.1 (by
            have : ((48 : UInt8).toNat : Int) = 48 := by decide
            omega)))
          go_enter Try.func86, Try.ntmps86
          go_wp2_with fail
          all_goals (go_ret2; exact ⟨0, false, rfl, ReadNum.bad HN.out, rfl⟩)
        · have hz2 : ((s[0].toNat : Int) == 48) = true := by simp [hz]
          clear hz
          go_enter Try.func86, Try.ntmps86
          go_wp2_with fail
          go_loopw [5, 6] (fun x i wr => ∃ k : Nat, k ≤ s.size ∧ i = .int .i64 k ∧ x = .int .i64 (valL (s.data.toList.take k)) ∧ (s.data.toList.take k).all digB = true ∧ w = wr) (fun _ i _ => s.size - (intOf i).toNat)
          case atStart => exact ⟨0, Nat.zero_le _, rfl, rfl, rfl, rfl⟩
          case round =>
            obtain ⟨k, hk, rfl, rfl, hall, rfl⟩ := hrel
            have Ha := Lib.hid hall; clear hall
            by_cases hlt : k < s.size
            · have hbd := valL_bd17 (l := s.data.toList.take k) (by rw [take_len hk]; omega) Ha.out
              cases hd : digB s[k] with
              | false =>
                have HB := Lib.hid (HBad.out k hlt hd)
                have h2 := digB_no hd
                clear hd
                rcases h2 with h2 | h2
                · go_wp2_with fail
                  go_ret2
                  exact ⟨0, false, rfl, HB.out, rfl⟩
                · have h3 : ¬ (s[k].toNat : Int) < 48 := by omega
                  go_wp2_with fail
                  go_ret2
                  exact ⟨0, false, rfl, HB.out, rfl⟩
              | true =>
                have hdt := digB_true hd
                have HN := Lib.hid (dig_next hlt Ha.out hd)
                clear hd
                generalize valL (s.data.toList.take k) = q at hbd HN ⊢
                generalize hck : s[k] = c at hdt HN ⊢
                have h3 : ¬ (c.toNat : Int) < 48 := by omega
                have h4 : ¬ 57 < (c.toNat : Int) := by omega
                go_wp2_with fail
                exact ⟨⟨k + 1, by omega, by go_num, by rw [HN.out.2], HN.out.1, trivial⟩, by simp [intOf]; omega⟩
            · obtain rfl : k = s.size := by omega
              rw [take_whole] at Ha ⊢
              have hbd := valL_bd18 (l := s.data.toList) (by have := take_len (s := s) (Nat.le_refl _); rw [take_whole] at this; omega) Ha.out
              have HR := Lib.hid (HDone.out Ha.out)
              generalize valL s.data.toList = q at hbd HR ⊢
              go_wp2_with fail
              go_ret2
              exact ⟨q, true, rfl, HR.out, rfl⟩
      · have hz2 : ((s[0].toNat : Int) == 48) = false := by simp [hz]
        clear hz
        go_enter Try.func86, Try.ntmps86
        go_wp2_with fail
        go_loopw [5, 6] (fun x i wr => ∃ k : Nat, k ≤ s.size ∧ i = .int .i64 k ∧ x = .int .i64 (valL (s.data.toList.take k)) ∧ (s.data.toList.take k).all digB = true ∧ w = wr) (fun _ i _ => s.size - (intOf i).toNat)
        case atStart => exact ⟨0, Nat.zero_le _, rfl, rfl, rfl, rfl⟩
        case round =>
          obtain ⟨k, hk, rfl, rfl, hall, rfl⟩ := hrel
          have Ha := Lib.hid hall; clear hall
          by_cases hlt : k < s.size
          · have hbd := valL_bd17 (l := s.data.toList.take k) (by rw [take_len hk]; omega) Ha.out
            cases hd : digB s[k] with
            | false =>
              have HB := Lib.hid (HBad.out k hlt hd)
              have h2 := digB_no hd
              clear hd
              rcases h2 with h2 | h2
              · go_wp2_with fail
                go_ret2
                exact ⟨0, false, rfl, HB.out, rfl⟩
              · have h3 : ¬ (s[k].toNat : Int) < 48 := by omega
                go_wp2_with fail
                go_ret2
                exact ⟨0, false, rfl, HB.out, rfl⟩
            | true =>
              have hdt := digB_true hd
              have HN := Lib.hid (dig_next hlt Ha.out hd)
              clear hd
              generalize valL (s.data.toList.take k) = q at hbd HN ⊢
              generalize hck : s[k] = c at hdt HN ⊢
              have h3 : ¬ (c.toNat : Int) < 48 := by omega
              have h4 : ¬ 57 < (c.toNat : Int) := by omega
              go_wp2_with fail
              exact ⟨⟨k + 1, by omega, by go_num, by rw [HN.out.2], HN.out.1, trivial⟩, by simp [intOf]; omega⟩
          · obtain rfl : k = s.size := by omega
            rw [take_whole] at Ha ⊢
            have hbd := valL_bd18 (l := s.data.toList) (by have := take_len (s := s) (Nat.le_refl _); rw [take_whole] at this; omega) Ha.out
            have HR := Lib.hid (HDone.out Ha.out)
            generalize valL s.data.toList = q at hbd HR ⊢
            go_wp2_with fail
            go_ret2
            exact ⟨q, true, rfl, HR.out, rfl⟩
end Go.Proofs.Ytlhbjgbkpjlacaa
