/- DERIVED. The marks that the laws lay into memory: the texts, slices of texts and of numbers marked, and held to their marks. -/
import Derived.Test.YtioblfbhjkkgoaaDec
import Derived.Test.YtioblfbhjkkgoaaOwn
namespace Go.Proofs.Ytioblfbhjkkgoaa
set_option maxRecDepth 100000
open Go.RowKit

/-- The text of mark k. -/
def mkT (k : Int) : ByteArray := S (109 :: decL k.toNat)

set_option maxHeartbeats 400000 in
theorem markText_any (n : Int) (h0 : 0 < n) (h1 : n ≤ 9223372036854775807) (w : World) :
    Calls Try.prog 36 #[.int .i64 n] w fun e w' => e = .returned (.string (mkT n)) ∧ Below w.heap.size w w' := by
  have hcv := fun W m => convert_one (P := Try.prog) Try.underlying40 Try.underlying5 Try.underlying9 m W
  go_enter Try.func36, Try.ntmps36
  go_wp2_with fail
  go_loopw [0, 3] (fun m t wr => ∃ q : Int, 0 ≤ q ∧ q ≤ 9223372036854775807 ∧ m = .int .i64 q ∧ (∃ x, t = .string (S x) ∧ decL n.toNat = (if q = 0 then [] else decL q.toNat) ++ x) ∧ Below w.heap.size w wr) (fun m _ _ => (intOf m).toNat)
  case atStart => exact ⟨n, by omega, h1, rfl, ⟨[], rfl, by rw [if_neg (by omega)]; simp⟩, Below.refl _ _⟩
  case round =>
    obtain ⟨q, q0, q1, rfl, ⟨x, rfl, hx⟩, hb⟩ := hrel
    have hl : (S x).size ≤ 19 := by
      have := decL_len_i64 n h1
      rw [hx, List.length_append] at this
      rw [S_size]
      omega
    have Hx := Lib.hid hx; clear hx
    have h1s : (S [UInt8.ofNat (48 + q % 10).toNat]).size = 1 := rfl
    by_cases hz : q = 0
    · subst hz
      go_wp2_with fail
      go_ret
      refine ⟨ret_str ?_, hb⟩
      have := Hx.out
      rw [if_pos trivial, List.nil_append] at this
      show S [109] ++ S x = _
      rw [S_append, mkT, this]
      rfl
    · have hz2 : 0 < q := by omega
      go_wp2_with fail
      refine ⟨⟨q / 10, by omega, by omega, rfl, ⟨_, str_val (S_append _ _), ?_⟩, hb.alloc hb.size _⟩, by simp [intOf]; omega⟩
      rw [Hx.out, if_neg hz]
      by_cases hs : q < 10
      · rw [if_pos (by omega), decL_small (by omega), List.nil_append]
        show UInt8.ofNat _ :: x = UInt8.ofNat _ :: x
        congr 2
        omega
      · rw [if_neg (by omega), decL_big (by omega), List.append_assoc]
        congr 2
        · congr 1
          omega
        · congr 3
          omega

def tC (t : ByteArray) : List Value := [.string t]
/-- The marks from k on, n of them. -/
def marks (k : Int) : Nat → List ByteArray
  | 0 => []
  | n + 1 => marks k n ++ [mkT (k + n)]
def markN (k : Int) : Nat → List Int
  | 0 => []
  | n + 1 => markN k n ++ [k + n]
theorem marks_len (k : Int) : ∀ n, (marks k n).length = n
  | 0 => rfl
  | n + 1 => by simp [marks, marks_len k n]
theorem markN_len (k : Int) : ∀ n, (markN k n).length = n
  | 0 => rfl
  | n + 1 => by simp [markN, markN_len k n]
theorem marks_at (k : Int) : ∀ (n j : Nat), j < n → (marks k n)[j]? = some (mkT (k + j))
  | 0, j, h => by omega
  | n + 1, j, h => by
    by_cases e : j = n
    · subst e
      simp [marks, marks_len]
    · rw [marks, List.getElem?_append_left (by rw [marks_len]; omega)]
      exact marks_at k n j (by omega)
theorem markN_at (k : Int) : ∀ (n j : Nat), j < n → (markN k n)[j]? = some (k + j)
  | 0, j, h => by omega
  | n + 1, j, h => by
    by_cases e : j = n
    · subst e
      simp [markN, markN_len]
    · rw [markN, List.getElem?_append_left (by rw [markN_len]; omega)]
      exact markN_at k n j (by omega)

/-- What marking does: it writes into blocks from lo up to hi alone, gives the next mark, and the slice then reads as the marks. -/
def Marked {α : Type} (w : World) (lo hi : Nat) (E : TypeId) (sz : Nat) (f : α → List Value) (A : Option Addr) (xs : List α) (k : Int) (e : Ending) (w' : World) : Prop :=
  e = .returned (.int .i64 k) ∧ Only lo hi w w' ∧ Flat w' lo hi E sz f A xs

/-- The slice at A has a row of n elements between lo and hi. -/
def Room (w : World) (lo hi : Nat) (E : TypeId) (sz : Nat) (A : Option Addr) (n : Nat) : Prop := 0 < n → ∃ g m, A = some ⟨g, 0, none⟩ ∧ lo ≤ g ∧ g < hi ∧ Row w g E m ∧ n * sz ≤ m
theorem Flat.room {α : Type} {w : World} {lo hi sz : Nat} {E : TypeId} {f : α → List Value} {A : Option Addr} {xs : List α} (h : Flat w lo hi E sz f A xs) : Room w lo hi E sz A xs.length := fun hx => by
  obtain ⟨g, m, e, h1, h2, h3, h4, _⟩ := h hx
  exact ⟨g, m, e, h1, h2, h3, h4⟩
theorem Room.flat {α : Type} {w : World} {lo hi sz n : Nat} {E : TypeId} {f : α → List Value} {A : Option Addr} {ys : List α} (h : Room w lo hi E sz A n) (hr : Rd w hi sz f A ys) (hn : ys.length = n) : Flat w lo hi E sz f A ys := fun hx => by
  obtain ⟨g, m, rfl, h1, h2, h3, h4⟩ := h (by omega)
  exact Flat.of_rd hr h1 h2 h3 (by rw [hn]; exact h4) hx
theorem Room.keep {w w' : World} {lo hi sz n : Nat} {E : TypeId} {A : Option Addr} (h : Room w lo hi E sz A n) (hw : ∀ g m, Row w g E m → Row w' g E m) : Room w' lo hi E sz A n := fun hx => by
  obtain ⟨g, m, e, h1, h2, h3, h4⟩ := h hx
  exact ⟨g, m, e, h1, h2, hw g m h3, h4⟩

end Go.Proofs.Ytioblfbhjkkgoaa
