/- DERIVED. Decimal texts. -/
import Derived.Test.YtioblfbhjkkgoaaNum
import Derived.Test.YtioblfbhjkkgoaaMem
namespace Go.Proofs.Ytioblfbhjkkgoaa
set_option maxRecDepth 100000
open Go.RowKit

/-- A text out of its bytes. -/
def S (l : List UInt8) : ByteArray := ⟨l.toArray⟩
/-- A number in decimal. -/
def decL (n : Nat) : List UInt8 := if n < 10 then [UInt8.ofNat (48 + n)] else decL (n / 10) ++ [UInt8.ofNat (48 + n % 10)]
termination_by n
decreasing_by omega
theorem decL_small {n : Nat} (h : n < 10) : decL n = [UInt8.ofNat (48 + n)] := by rw [decL, if_pos h]
theorem decL_big {n : Nat} (h : ¬ n < 10) : decL n = decL (n / 10) ++ [UInt8.ofNat (48 + n % 10)] := by rw [decL, if_neg h]

theorem decL_len (k : Nat) : ∀ n, n < 10 ^ (k + 1) → (decL n).length ≤ k + 1 := by
  induction k with
  | zero => intro n h; rw [decL_small (by simpa using h)]; simp
  | succ k ih =>
    intro n h
    by_cases hn : n < 10
    · rw [decL_small hn]; simp
    · rw [decL_big hn, List.length_append]
      have := ih (n / 10) (by rw [Nat.pow_succ] at h; omega)
      simp
      omega
theorem decL_len_i64 (n : Int) (h : n ≤ 9223372036854775807) : (decL n.toNat).length ≤ 19 := decL_len 18 _ (by rw [show (10 : Nat) ^ (18 + 1) = 10000000000000000000 from by decide]; omega)
theorem S_size (l : List UInt8) : (S l).size = l.length := by simp [S, ByteArray.size]
theorem S_one (u : UInt8) : (S [u]).size = 1 := rfl
theorem S_append (a b : List UInt8) : S a ++ S b = S (a ++ b) := by
  apply ByteArray.ext
  simp [S]
theorem ret_str {a b : ByteArray} (h : a = b) : Ending.returned (.string a) = .returned (.string b) := by rw [h]
theorem str_val {a b : ByteArray} (h : a = b) : Value.string a = .string b := by rw [h]

theorem convert_one {P : Program} {src e dst : TypeId} (hs : P.underlying src = some (.slice e)) (he : P.underlying e = some (.int .u8)) (hd : P.underlying dst = some .string) (n : Int) (W : World) :
    (convert src dst (.slice (some ⟨W.heap.size, 0, none⟩) 1 1)).run P (W.alloc (.cells #[.int .u8 n] e)) = .ok (.string (S [UInt8.ofNat n.toNat])) (W.alloc (.cells #[.int .u8 n] e)) := by
  have h := run_convert_bytes_arg (P := P) (W.alloc (.cells #[.int .u8 n] e)) src e hs he W.heap.size 0 1 1 [n] rfl (fun i hi => by
    obtain rfl : i = 0 := by omega
    rw [cell_of_row _ _ _ #[.int .u8 n] e (0, 0) (heap_alloc_new W _)]
    rfl) dst hd
  exact h

theorem convert_at {P : Program} {src e dst : TypeId} (hs : P.underlying src = some (.slice e)) (he : P.underlying e = some (.int .u8)) (hd : P.underlying dst = some .string) (n : Int) (W : World) (b : Nat)
    (hc : W.cell? ⟨b, 0, none⟩ = some (.int .u8 n)) : (convert src dst (.slice (some ⟨b, 0, none⟩) 1 1)).run P W = .ok (.string (S [UInt8.ofNat n.toNat])) W := by
  have h := run_convert_bytes_arg (P := P) W src e hs he b 0 1 1 [n] rfl (fun i hi => by
    obtain rfl : i = 0 := by omega
    exact hc) dst hd
  exact h

end Go.Proofs.Ytioblfbhjkkgoaa
