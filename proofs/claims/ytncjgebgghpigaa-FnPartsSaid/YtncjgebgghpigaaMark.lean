/- DERIVED. The marks that the laws lay into memory: the texts, slices of texts and of numbers marked, and held to their marks. -/
import Derived.Test.YtncjgebgghpigaaDec
import Derived.Test.YtncjgebgghpigaaOwn
namespace Go.Proofs.Ytncjgebgghpigaa
set_option maxRecDepth 100000
open Go.RowKit

/-- The text of mark k. -/
def mkT (k : Int) : ByteArray := S (109 :: decL k.toNat)

def tC (t : ByteArray) : List Value := [.string t]
/-- The marks from k on, n of them. -/
def marks (k : Int) : Nat → List ByteArray
  | 0 => []
  | n + 1 => marks k n ++ [mkT (k + n)]
def markN (k : Int) : Nat → List Int
  | 0 => []
  | n + 1 => markN k n ++ [k + n]
theorem marks_len (k : Int) : ∀ n, (marks k n).length = n
  | 0 => rfl
  | n + 1 => by simp [marks, marks_len k n]
theorem markN_len (k : Int) : ∀ n, (markN k n).length = n
  | 0 => rfl
  | n + 1 => by simp [markN, markN_len k n]
theorem marks_at (k : Int) : ∀ (n j : Nat), j < n → (marks k n)[j]? = some (mkT (k + j))
  | 0, j, h => by omega
  | n + 1, j, h => by
    by_cases e : j = n
    · subst e
      simp [marks, marks_len]
    · rw [marks, List.getElem?_append_left (by rw [marks_len]; omega)]
      exact marks_at k n j (by omega)
theorem markN_at (k : Int) : ∀ (n j : Nat), j < n → (markN k n)[j]? = some (k + j)
  | 0, j, h => by omega
  | n + 1, j, h => by
    by_cases e : j = n
    · subst e
      simp [markN, markN_len]
    · rw [markN, List.getElem?_append_left (by rw [markN_len]; omega)]
      exact markN_at k n j (by omega)

/-- What marking does: it writes into blocks from lo up to hi alone, gives the next mark, and the slice then reads as the marks. -/
def Marked {α : Type} (w : World) (lo hi : Nat) (E : TypeId) (sz : Nat) (f : α → List Value) (A : Option Addr) (xs : List α) (k : Int) (e : Ending) (w' : World) : Prop :=
  e = .returned (.int .i64 k) ∧ Only lo hi w w' ∧ Flat w' lo hi E sz f A xs

/-- The slice at A has a row of n elements between lo and hi. -/
def Room (w : World) (lo hi : Nat) (E : TypeId) (sz : Nat) (A : Option Addr) (n : Nat) : Prop := 0 < n → ∃ g m, A = some ⟨g, 0, none⟩ ∧ lo ≤ g ∧ g < hi ∧ Row w g E m ∧ n * sz ≤ m
theorem Flat.room {α : Type} {w : World} {lo hi sz : Nat} {E : TypeId} {f : α → List Value} {A : Option Addr} {xs : List α} (h : Flat w lo hi E sz f A xs) : Room w lo hi E sz A xs.length := fun hx => by
  obtain ⟨g, m, e, h1, h2, h3, h4, _⟩ := h hx
  exact ⟨g, m, e, h1, h2, h3, h4⟩
theorem Room.flat {α : Type} {w : World} {lo hi sz n : Nat} {E : TypeId} {f : α → List Value} {A : Option Addr} {ys : List α} (h : Room w lo hi E sz A n) (hr : Rd w hi sz f A ys) (hn : ys.length = n) : Flat w lo hi E sz f A ys := fun hx => by
  obtain ⟨g, m, rfl, h1, h2, h3, h4⟩ := h (by omega)
  exact Flat.of_rd hr h1 h2 h3 (by rw [hn]; exact h4) hx
theorem Room.keep {w w' : World} {lo hi sz n : Nat} {E : TypeId} {A : Option Addr} (h : Room w lo hi E sz A n) (hw : ∀ g m, Row w g E m → Row w' g E m) : Room w' lo hi E sz A n := fun hx => by
  obtain ⟨g, m, e, h1, h2, h3, h4⟩ := h hx
  exact ⟨g, m, e, h1, h2, hw g m h3, h4⟩

end Go.Proofs.Ytncjgebgghpigaa
