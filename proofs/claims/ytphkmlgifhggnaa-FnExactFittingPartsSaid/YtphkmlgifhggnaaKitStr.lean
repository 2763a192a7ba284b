/- DERIVED. Slices of texts in the laws: opened, carried over, compared, counted, marked; results of this kind. -/
import Derived.Test.YtphkmlgifhggnaaKit
import Derived.Test.YtphkmlgifhggnaaSl
import Derived.Test.YtphkmlgifhggnaaIdx
import Derived.Test.YtphkmlgifhggnaaOpen
namespace Go.Proofs.Ytphkmlgifhggnaa
set_option maxRecDepth 100000
open Go.RowKit Go.ChangeShapes Go.WideShapes Go.ChangeAt Go.Joins Go.Deep

def SmallStr (bs : List ByteArray) : Prop := bs.length ≤ 1048576 ∧ ∀ x ∈ bs, x.size ≤ maxLen
theorem tC_len (t : ByteArray) : (tC t).length = 1 := rfl
theorem tC_one (t : ByteArray) : ∀ u ∈ tC t, u.oneCell' = true := fun u hu => by
  simp only [tC, List.mem_cons, List.not_mem_nil, or_false] at hu
  subst hu
  rfl
theorem open_strings {H : Type} {enc : TypeId × Value → H} {W : World} {spare : Nat → Bool} {r : Reach} {b0 : Nat} {v : Value} {d : DataW H} {p : List MemPlace}
    (hv : Value.okWide Try.prog W r b0 23 v) (h : DataW.Trod enc Try.prog W 0 spare true 23 v d p) :
    ∃ A c xs, v = .slice A (List.length xs) c ∧ List.length xs ≤ maxLen ∧ (∀ x ∈ xs, (fun t : ByteArray => t.size ≤ maxLen) x) ∧ Rd W W.heap.size 1 tC A xs :=
  open_flat (fun t : ByteArray => t.size ≤ maxLen) tC Try.underlying23 (show Try.prog.cellsOf 9 = 1 by kernel_rfl) (by omega) (fun n cs y hl h => by
    match cs, hl with
    | [c0], _ =>
      obtain ⟨x0, e0, -, wx0⟩ := DataW.trod_string Try.underlying9 h
      simp at e0
      subst e0
      exact ⟨x0, wx0, rfl⟩) hv h

set_option maxHeartbeats 400000 in
theorem szStringS_k (A : Option Addr) (c : Nat) (xs : List ByteArray) (l : Int) (w : World) (hr : Rd w w.heap.size 1 tC A xs) (hm : xs.length ≤ maxLen) (hg : ∀ x ∈ xs, (fun t : ByteArray => t.size ≤ maxLen) x) (h2 : 0 ≤ l) (h3 : l ≤ 1048576) :
    Calls Try.prog 15 #[.slice A xs.length c, .int .i64 l] w (SzPost w l (SmallStr xs)) := by
  unfold maxLen at hm
  have Hg := Lib.hid hg; clear hg
  by_cases h : l - xs.length < 0
  · go_enter Try.func15, Try.ntmps15
    go_wp2_with fail
    go_ret
    exact ⟨_, rfl, Or.inl rfl, Below.refl _ _⟩
  · go_enter Try.func15, Try.ntmps15
    go_wp2_with fail
    go_loopw [1, 5] (fun left i wr => ∃ (k : Nat) (q : Int), k ≤ xs.length ∧ i = .int .i64 k ∧ left = .int .i64 q ∧ 0 ≤ q ∧ q ≤ l ∧ Below w.heap.size w wr) (fun _ i _ => xs.length - (intOf i).toNat)
    case atStart => exact ⟨0, _, Nat.zero_le _, rfl, rfl, by omega, by omega, Below.refl _ _⟩
    case round =>
      obtain ⟨k, q, hk, rfl, rfl, q0, q1, hb⟩ := hrel
      by_cases hlt : k < xs.length
      · have hx : xs[k]? = some xs[k] := List.getElem?_eq_getElem hlt
        obtain ⟨b, o, rfl, hB, g0⟩ := (hr.below hb).at1 hx rfl
        rw [Nat.mul_one] at g0
        have ht := Hg.out _ (List.mem_of_getElem? hx)
        clear hx
        generalize xs[k] = t at g0 ht
        unfold maxLen at ht
        by_cases hz : q - t.size < 0
        · go_wp2_with fail
          go_ret
          exact ⟨_, rfl, Or.inl rfl, hb⟩
        · go_wp2_with fail
          exact ⟨⟨k + 1, q - t.size, by omega, by go_num, rfl, by omega, by omega, hb⟩, by simp [intOf]; omega⟩
      · have Hf : Hid (SzPost w l (SmallStr xs) (.returned (.int .i64 q)) wr) := ⟨q, rfl, Or.inr ⟨q0, q1, by omega, Hg.out⟩, hb⟩
        go_wp2_with fail
        go_ret
        exact Hf.out

set_option maxHeartbeats 400000 in
theorem toStringS_k (A : Option Addr) (c : Nat) (xs : List ByteArray) (w : World) (hr : Rd w w.heap.size 1 tC A xs) (hs : SmallStr xs) :
    Calls Try.prog 18 #[.slice A xs.length c] w (GivesFlat w 9 1 tC xs) := by
  have hm := hs.1
  clear hs
  have hmk := made Try.underlying23 infoString xs.length hm (by omega)
  go_enter Try.func18, Try.ntmps18
  go_wp2
  clear hmk
  go_loopw [4] (fun i wr => ∃ k : Nat, k ≤ xs.length ∧ i = .int .i64 k ∧ Row wr w.heap.size 9 xs.length ∧ Rd wr (w.heap.size + 1) 1 tC (some ⟨w.heap.size, 0, none⟩) (xs.take k) ∧ Below w.heap.size w wr) (fun i _ => xs.length - (intOf i).toNat)
  case atStart => exact ⟨0, Nat.zero_le _, rfl, by simpa using Row.made (w := w) (E := 9) #[.string ⟨#[]⟩] xs.length, Rd.nothing, balloc _ _⟩
  case round =>
    obtain ⟨k, hk, rfl, hrow, hout, hb⟩ := hrel
    by_cases hlt : k < xs.length
    · have hx : xs[k]? = some xs[k] := List.getElem?_eq_getElem hlt
      obtain ⟨b, o, rfl, hB, h0⟩ := (hr.below hb).at1 hx rfl
      rw [Nat.mul_one] at h0
      generalize xs[k] = t at h0 hx
      have Hx := Lib.hid hx; clear hx
      obtain ⟨z0, hz0⟩ := hrow.cell (j := k) (by omega)
      have hf0 := hrow.frozen k
      have hrl := hrow.lt
      go_wp2_with fail
      try go_quiet (fail)
      try go_wp2_with fail
      refine ⟨⟨k + 1, by omega, by go_num, hrow.setCell _ _, ?_, hb.setCell (p := ⟨w.heap.size, k, none⟩) (Nat.le_refl _) _⟩, by simp [intOf]; omega⟩
      have := hout.put (x := t) (by omega) hrow (by omega) tC_len Hx.out
      simpa [putAll, tC] using this
    · have e : k = xs.length := by omega
      subst e
      rw [List.take_length] at hout
      have Hd : Hid (GivesFlat w 9 1 tC xs (.returned (.slice (some ⟨w.heap.size, 0, none⟩) xs.length xs.length)) wr) := ⟨_, rfl, Flat.of_rd (hout.more hrow.lt) (Nat.le_refl _) hrow.lt hrow (by omega), hb⟩
      clear hout hrow hb hr
      go_wp2_with fail
      go_ret
      exact Hd.out

theorem eqStringS_k (A A' : Option Addr) (c c' : Nat) (xs : List ByteArray) (w : World) (hr : Rd w w.heap.size 1 tC A xs) (hr' : Rd w w.heap.size 1 tC A' xs) (hs : SmallStr xs) :
    Calls Try.prog 21 #[.slice A xs.length c, .slice A' xs.length c'] w fun e w' => e = .returned (.bool true) ∧ Below w.heap.size w w' := by
  have := eqStringS_any A A' c c' xs xs w hr hr' hs.1
  rwa [decide_eq_true (rfl : xs = xs)] at this
theorem markStringS_k (A : Option Addr) (c : Nat) (xs : List ByteArray) (k : Int) (lo hi : Nat) (w : World) (hf : Flat w lo hi 9 1 tC A xs) (hs : SmallStr xs) (k0 : 0 < k) (k1 : k ≤ 900000000000000) :
    Calls Try.prog 25 #[.slice A xs.length c, .int .i64 k] w (MarkedOnly w lo hi k) := by
  have hm := hs.1
  refine (markStringS_any A c xs k lo hi w hf hm k0 (by omega)).mono ?_
  rintro e w' ⟨rfl, ho, _⟩
  exact ⟨_, rfl, by omega, by omega, ho⟩
theorem eqStringS_r (A A' : Option Addr) (c c' : Nat) (l : List ByteArray) (w : World) (hr : Rd w w.heap.size 1 tC A l) (hr' : Rd w w.heap.size 1 tC A' l) (hl : l.length ≤ 1048576) :
    Calls Try.prog 21 #[.slice A l.length c, .slice A' l.length c'] w fun e w' => e = .returned (.bool true) ∧ Below w.heap.size w w' := by
  have := eqStringS_any A A' c c' l l w hr hr' hl
  rwa [decide_eq_true (rfl : l = l)] at this
theorem markStringS_r (A : Option Addr) (c : Nat) (l : List ByteArray) (lo hi : Nat) (w : World) (hf : Flat w lo hi 9 1 tC A l) (hl : l.length ≤ 1048576) :
    Calls Try.prog 25 #[.slice A l.length c, .int .i64 1] w fun e w' => e = .returned (.int .i64 (1 + l.length)) ∧ Only lo hi w w' ∧ Flat w' lo hi 9 1 tC A (marks 1 l.length) :=
  markStringS_any A c l 1 lo hi w hf hl (by omega) (by omega)
theorem heldStringS_r (A : Option Addr) (c : Nat) (l : List ByteArray) (lo hi : Nat) (w : World) (h : Flat w lo hi 9 1 tC A (marks 1 l.length)) (hhi : hi ≤ w.heap.size) (hl : l.length ≤ 1048576) :
    Calls Try.prog 26 #[.slice A l.length c, .int .i64 1] w fun e w' => e = .returned (.int .i64 (1 + l.length)) ∧ Below w.heap.size w w' :=
  heldStringS_any A c l.length 1 w (h.rd.more hhi) hl (by omega) (by omega)
end Go.Proofs.Ytphkmlgifhggnaa
