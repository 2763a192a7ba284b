/- DERIVED. Decimal texts. -/
import Derived.Test.YtlhbjgbkpjlacaaNum
import Derived.Test.YtlhbjgbkpjlacaaMem
namespace Go.Proofs.Ytlhbjgbkpjlacaa
set_option maxRecDepth 100000
open Go.RowKit

/-- A text out of its bytes. -/
def S (l : List UInt8) : ByteArray := ⟨l.toArray⟩
/-- A number in decimal. -/
def decL (n : Nat) : List UInt8 := if n < 10 then [UInt8.ofNat (48 + n)] else decL (n / 10) ++ [UInt8.ofNat (48 + n % 10)]
termination_by n
decreasing_by omega
theorem decL_small {n : Nat} (h : n < 10) : decL n = [UInt8.ofNat (48 + n)] := by rw [decL, if_pos h]
theorem decL_big {n : Nat} (h : ¬ n < 10) : decL n = decL (n / 10) ++ [UInt8.ofNat (48 + n % 10)] := by rw [decL, if_neg h]

theorem decL_len (k : Nat) : ∀ n, n < 10 ^ (k + 1) → (decL n).length ≤ k + 1 := by
  induction k with
  | zero => intro n h; rw [decL_small (by simpa using h)]; simp
  | succ k ih =>
    intro n h
    by_cases hn : n < 10
    · rw [decL_small hn]; simp
    · rw [decL_big hn, List.length_append]
      have := ih (n / 10) (by rw [Nat.pow_succ] at h; omega)
      simp
      omega
theorem decL_len_i64 (n : Int) (h : n ≤ 9223372036854775807) : (decL n.toNat).length ≤ 19 := decL_len 18 _ (by rw [show (10 : Nat) ^ (18 + 1) = 10000000000000000000 from by decide]; omega)
theorem S_size (l : List UInt8) : (S l).size = l.length := by simp [S, ByteArray.size]
theorem S_one (u : UInt8) : (S [u]).size = 1 := rfl
theorem S_append (a b : List UInt8) : S a ++ S b = S (a ++ b) := by
  apply ByteArray.ext
  simp [S]
theorem ret_str {a b : ByteArray} (h : a = b) : Ending.returned (.string a) = .returned (.string b) := by rw [h]
theorem str_val {a b : ByteArray} (h : a = b) : Value.string a = .string b := by rw [h]

theorem convert_one {P : Program} {src e dst : TypeId} (hs : P.underlying src = some (.slice e)) (he : P.underlying e = some (.int .u8)) (hd : P.underlying dst = some .string) (n : Int) (W : World) :
    (convert src dst (.slice (some ⟨W.heap.size, 0, none⟩) 1 1)).run P (W.alloc (.cells #[.int .u8 n] e)) = .ok (.string (S [UInt8.ofNat n.toNat])) (W.alloc (.cells #[.int .u8 n] e)) := by
  have h := run_convert_bytes_arg (P := P) (W.alloc (.cells #[.int .u8 n] e)) src e hs he W.heap.size 0 1 1 [n] rfl (fun i hi => by
    obtain rfl : i = 0 := by omega
    rw [cell_of_row _ _ _ #[.int .u8 n] e (0, 0) (heap_alloc_new W _)]
    rfl) dst hd
  exact h

theorem convert_at {P : Program} {src e dst : TypeId} (hs : P.underlying src = some (.slice e)) (he : P.underlying e = some (.int .u8)) (hd : P.underlying dst = some .string) (n : Int) (W : World) (b : Nat)
    (hc : W.cell? ⟨b, 0, none⟩ = some (.int .u8 n)) : (convert src dst (.slice (some ⟨b, 0, none⟩) 1 1)).run P W = .ok (.string (S [UInt8.ofNat n.toNat])) W := by
  have h := run_convert_bytes_arg (P := P) W src e hs he b 0 1 1 [n] rfl (fun i hi => by
    obtain rfl : i = 0 := by omega
    exact hc) dst hd
  exact h

set_option maxHeartbeats 400000 in
theorem decimal_any (n : Int) (h0 : 0 ≤ n) (h1 : n ≤ 9223372036854775807) (w : World) :
    Calls Try.prog 145 #[.int .i64 n] w fun e w' => e = .returned (.string (S (decL n.toNat))) ∧ Below w.heap.size w w' := by
  have hcv := fun W m => convert_one (P := Try.prog) Try.underlying28 Try.underlying5 Try.underlying9 m W
  go_enter Try.func145, Try.ntmps145
  go_wp2_with fail
  go_loopw [0, 3] (fun m t wr => ∃ q : Int, 0 ≤ q ∧ q ≤ 9223372036854775807 ∧ m = .int .i64 q ∧ (∃ x, t = .string (S x) ∧ decL n.toNat = decL q.toNat ++ x) ∧ Below w.heap.size w wr) (fun m _ _ => (intOf m).toNat)
  case atStart => exact ⟨n, h0, h1, rfl, ⟨[], rfl, by simp⟩, Below.refl _ _⟩
  case round =>
    obtain ⟨q, q0, q1, rfl, ⟨x, rfl, hx⟩, hb⟩ := hrel
    have hl : (S x).size ≤ 19 := by
      have := decL_len_i64 n h1
      rw [hx, List.length_append] at this
      rw [S_size]
      omega
    have Hx := Lib.hid hx; clear hx
    have h1s : (S [UInt8.ofNat (48 + q % 10).toNat]).size = 1 := rfl
    by_cases hz : q < 10
    · have hq : (q / 10 == 0) = true := by simp; omega
      go_wp2_with fail
      go_ret
      refine ⟨ret_str ?_, hb.alloc hb.size _⟩
      show S [UInt8.ofNat (48 + q % 10).toNat] ++ S x = _
      rw [S_append, Hx.out, decL_small (by omega)]
      congr 4
      omega
    · have hq : (q / 10 == 0) = false := by simp; omega
      go_wp2_with fail
      refine ⟨⟨q / 10, by omega, by omega, rfl, ⟨_, str_val (S_append _ _), ?_⟩, hb.alloc hb.size _⟩, by simp [intOf]; omega⟩
      rw [Hx.out, decL_big (by omega), List.append_assoc]
      congr 2
      · congr 1
        omega
      · congr 3
        omega

set_option maxHeartbeats 400000 in
theorem l01Dec_any (k : Nat) : ∀ (n : Int) (_ : 0 ≤ n) (_ : n ≤ 9223372036854775807) (_ : n.toNat < 10 ^ (k + 1)) (w : World),
    Calls Try.prog 144 #[.int .i64 n] w fun e w' => e = .returned (.string (S (decL n.toNat))) ∧ Below w.heap.size w w' := by
  have small : ∀ (n : Int) (_ : 0 ≤ n) (_ : n < 10) (w : World), Calls Try.prog 144 #[.int .i64 n] w fun e w' => e = .returned (.string (S (decL n.toNat))) ∧ Below w.heap.size w w' := by
    intro n h0 h2 w
    have hcv := fun W m => convert_one (P := Try.prog) Try.underlying28 Try.underlying5 Try.underlying9 m W
    go_enter Try.func144, Try.ntmps144
    go_wp2_with fail
    go_ret
    refine ⟨ret_str ?_, balloc _ _⟩
    show S [UInt8.ofNat (48 + n).toNat] = _
    rw [decL_small (by omega)]
    congr 3
    omega
  induction k with
  | zero => exact fun n h0 _ h1 w => small n h0 (by omega) w
  | succ k ih =>
    intro n h0 h9 h1 w
    by_cases h2 : n < 10
    · exact small n h0 h2 w
    · clear small
      have hq : (n / 10).toNat < 10 ^ (k + 1) := by
        rw [Nat.pow_succ] at h1
        omega
      have ih' := fun w => ih (n / 10) (by omega) (by omega) hq w
      clear ih h1 hq
      have hl := decL_len_i64 (n / 10) (by omega)
      rw [← S_size] at hl
      have hone : ∀ u, (S [u]).size = 1 := S_one
      have hdec : S (decL n.toNat) = S (decL (n / 10).toNat) ++ S [UInt8.ofNat (48 + n % 10).toNat] := by
        rw [decL_big (n := n.toNat) (by omega), S_append]
        congr 2
        · congr 1
          omega
        · congr 2
          omega
      have Hd := Lib.hid hdec; clear hdec
      have HI := Lib.hid ih'; clear ih'
      have e0 : n.tdiv 10 = n / 10 := Int.tdiv_eq_ediv_of_nonneg h0
      have e1 : IntKind.i64.wrap (n.tdiv 10) = n / 10 := by rw [e0]; exact IntWalk.i64_in _ (by omega)
      have e2 : IntKind.u8.wrap (IntKind.i64.wrap (48 + n.tmod 10)) = 48 + n % 10 := by
        rw [Int.tmod_eq_emod_of_nonneg h0, IntWalk.i64_in _ (by omega)]
        exact IntWalk.u8_in _ (by omega)
      clear e0
      have hcv := fun W b => convert_at (P := Try.prog) Try.underlying28 Try.underlying5 Try.underlying9 (48 + n % 10) W b
      go_enter Try.func144, Try.ntmps144
      go_wp2_with fail
      go_region_with (go_at_call 144; refine (HI.out _).mono ?_; rintro e w1 ⟨rfl, hb1⟩; obtain ⟨hc, hf⟩ := bcell hb1)
      all_goals
        clear e1 e2
        go_wp2_with fail
        go_ret
        refine ⟨ret_str Hd.out.symm, ?_⟩
        first
          | exact bthen (bthen (bdrew _) hb1) (balloc _ _)
          | exact bthen (bthen (balloc _ _) (bdrew _)) hb1

end Go.Proofs.Ytlhbjgbkpjlacaa
