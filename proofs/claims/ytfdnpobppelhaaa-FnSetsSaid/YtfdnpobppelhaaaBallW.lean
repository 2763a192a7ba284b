/- DERIVED. Measured balls, lists put in order: the walks of the program. -/
import Derived.Test.YtfdnpobppelhaaaSrt
import Derived.Test.YtfdnpobppelhaaaNum
import Derived.Test.YtfdnpobppelhaaaResInt
import Derived.Test.YtfdnpobppelhaaaIdx
import Derived.Test.YtfdnpobppelhaaaOwn2
import Derived.Test.YtfdnpobppelhaaaOwn3
import Derived.Deep.RegionLaw
import Derived.Deep.CutRange
namespace Go.Proofs.Ytfdnpobppelhaaa
set_option maxRecDepth 100000
open Go.RowKit

theorem nCl (n : Int) : (nC n).length = 1 := rfl
theorem nC1 (n : Int) : ∀ u ∈ nC n, u.oneCell' = true := fun u hu => by
  simp only [nC, List.mem_singleton] at hu
  subst hu
  rfl
theorem flat_map_nC : ∀ l : List Int, l.flatMap nC = l.map (Value.int .i64)
  | [] => rfl
  | x :: l => by rw [List.flatMap_cons, flat_map_nC l]; rfl
theorem Own.setN {w : World} {base g c i : Nat} {E : TypeId} {xs : List Int} (h : Own w base E 1 nC (some ⟨g, 0, none⟩) c xs) (_hi : i < xs.length) (v : Int) : Own (w.setCell ⟨g, i, none⟩ (.int .i64 v)) base E 1 nC (some ⟨g, 0, none⟩) c (xs.set i v) := by
  refine ⟨by rw [flat_map_nC, List.length_map, List.length_set, Nat.mul_one], ?_⟩
  rcases h.2 with ⟨h2, _⟩ | ⟨g', cap, cur, e, hB, hg, h3, h4, h5, h6⟩
  · cases h2
  · simp only [Value.slice.injEq, Option.some.injEq, Addr.mk.injEq] at e
    obtain ⟨⟨rfl, _⟩, _, rfl⟩ := e
    refine Or.inr ⟨g, c, cur.setIfInBounds i (.int .i64 v), by rw [List.length_set], hB, by simp [World.setCell, Array.getElem?_modify, hg], by rw [List.length_set]; exact h3, h4, by simpa using h5, ?_⟩
    rw [flat_map_nC] at h6 ⊢
    rw [List.map_set, ← h6, List.length_set, Nat.mul_one, Array.toList_setIfInBounds, List.take_set]
/-- The block of a slice of the call's own that holds something. -/
theorem Own.some' {w : World} {base c : Nat} {E : TypeId} {A : Option Addr} {xs : List Int} (h : Own w base E 1 nC A c xs) (hp : 0 < xs.length) : ∃ g, A = some ⟨g, 0, none⟩ ∧ base ≤ g ∧ g < w.heap.size ∧ (∀ k x, xs[k]? = some x → w.cell? ⟨g, k, none⟩ = some (.int .i64 x)) ∧ ∀ j, w.frozen? ⟨g, j, none⟩ = false := by
  obtain ⟨g, m, rfl, h1, h2, h3, h4, h5⟩ := h.flat nCl hp
  refine ⟨g, rfl, h1, h2, fun k x hx => ?_, fun j => h3.frozen j⟩
  have := h5 k x hx 0 _ rfl
  simpa using this

def ballsB (bs : List Int) : Bool := decide (bs.length ≤ 60) && bs.all fun n => inB n 1000 20000
set_option maxHeartbeats 1000000 in
theorem allWithin_any (A : Option Addr) (c : Nat) (xs : List Int) (lo hi : Int) (w : World) (hr : Rd w w.heap.size 1 nC A xs) (hm : xs.length ≤ 1048576) :
    Calls Try.prog 107 #[.slice A xs.length c, .int .i64 lo, .int .i64 hi] w fun e w' => e = .returned (.bool (xs.all fun n => inB n lo hi)) ∧ w = w' := by
  go_enter Try.func107, Try.ntmps107
  go_wp2_with fail
  go_loopw [11] (fun i wr => ∃ k : Nat, k ≤ xs.length ∧ i = .int .i64 k ∧ w = wr ∧ ((xs.take k).all fun n => inB n lo hi) = true) (fun i _ => xs.length - (intOf i).toNat)
  case atStart => exact ⟨0, Nat.zero_le _, rfl, rfl, rfl⟩
  case round =>
    obtain ⟨k, hk, rfl, rfl, hall⟩ := hrel
    have Ha := Lib.hid hall; clear hall
    by_cases hlt : k < xs.length
    · have hx : xs[k]? = some xs[k] := List.getElem?_eq_getElem hlt
      obtain ⟨b, o, rfl, hB, q0⟩ := hr.at1 hx rfl
      rw [Nat.mul_one] at q0
      have hx1 : Hid (inB xs[k] lo hi = false → (xs.all fun n => inB n lo hi) = false) := fun h => all_out hlt h
      have hy1 : Hid (inB xs[k] lo hi = true → ((xs.take (k + 1)).all fun n => inB n lo hi) = true) := fun h => by rw [all_snoc hlt, Ha.out, h]; rfl
      generalize xs[k] = t at q0 hx1 hy1
      have hI := Lib.hid (within_any t lo hi)
      clear hx
      generalize inB t lo hi = bt at hI hx1 hy1
      cases bt with
      | false =>
        have HF := Lib.hid (hx1.out rfl)
        go_wp2_with (go_at_call 71; refine (hI.out _).mono ?_; rintro e w' ⟨rfl, rfl⟩)
        go_ret
        exact ⟨ret_bool HF.out.symm, rfl⟩
      | true =>
        have HF := Lib.hid (hy1.out rfl)
        go_wp2_with (go_at_call 71; refine (hI.out _).mono ?_; rintro e w' ⟨rfl, rfl⟩)
        exact ⟨⟨k + 1, by omega, by go_num, trivial, HF.out⟩, by simp [intOf]; omega⟩
    · have hT := Ha.out
      rw [List.take_of_length_le (by omega)] at hT
      have HT := Lib.hid hT
      clear hT
      go_wp2_with fail
      go_ret
      exact ⟨ret_bool HT.out.symm, rfl⟩
theorem areBalls_any (A : Option Addr) (c : Nat) (xs : List Int) (w : World) (hr : Rd w w.heap.size 1 nC A xs) (hm : xs.length ≤ 1048576) :
    Calls Try.prog 76 #[.slice A xs.length c] w fun e w' => e = .returned (.bool (ballsB xs)) ∧ w = w' := by
  have HA := Lib.hid (allWithin_any A c xs 1000 20000 w hr hm)
  by_cases h : (xs.length : Int) ≤ 60
  · have HB : Hid (ballsB xs = (xs.all fun n => inB n 1000 20000)) := by
      unfold Hid ballsB
      rw [decide_eq_true (by omega)]
      rfl
    go_enter Try.func76, Try.ntmps76
    go_wp2_with fail
    refine HA.out.mono ?_
    rintro e w' ⟨rfl, rfl⟩
    go_wp2_with fail
    go_ret
    exact ⟨ret_bool HB.out.symm, rfl⟩
  · have HB : Hid (ballsB xs = false) := by
      unfold Hid ballsB
      rw [decide_eq_false (by omega)]
      rfl
    go_enter Try.func76, Try.ntmps76
    go_wp2_with fail
    go_ret
    exact ⟨ret_bool HB.out.symm, rfl⟩
theorem isBalls_any (n : Int) (w : World) : Calls Try.prog 77 #[.int .i64 n] w fun e w' => e = .returned (.bool (inB n 3 40)) ∧ w = w' := by
  have HI := Lib.hid (within_any n 3 40 w)
  go_enter Try.func77, Try.ntmps77
  go_wp2_with (go_at_call 71; refine HI.out.mono ?_; rintro e w' ⟨rfl, rfl⟩)
  go_ret
  exact ⟨rfl, rfl⟩
/-- What makes a slice of the call's own. -/
def GivesOwnN (w : World) (xs : List Int) (e : Ending) (w' : World) : Prop := ∃ A c, e = .returned (.slice A xs.length c) ∧ Own w' w.heap.size 2 1 nC A c xs ∧ Below w.heap.size w w'
set_option maxHeartbeats 1000000 in
theorem copyList_any (A : Option Addr) (c : Nat) (xs : List Int) (w : World) (hr : Rd w w.heap.size 1 nC A xs) (hm : xs.length ≤ 1048576) :
    Calls Try.prog 108 #[.slice A xs.length c] w (GivesOwnN w xs) := by
  have Hr := Lib.hid hr; clear hr
  go_enter Try.func108, Try.ntmps108
  go_wp2_with (at_builtin; refine wpList_append_slice rfl _ _ _ rfl (w.heap.size) 2 (.int .i64 0) 1 8 Try.underlying38 infoInt64 rfl (by omega) (by omega) nC [] xs (some ⟨w.heap.size, 0, none⟩) 0 rfl (Own.made _ (Nat.le_refl _) rfl) A c _ rfl (Hr.out.next (balloc w (.cells #[] 2))) nCl nC1 (by simp; omega) (by simp) ?_)
  intro A3 c3 w3 hown3 hb3 hfar3
  have HO := Lib.hid hown3; clear hown3 hfar3
  go_wp2_with fail
  go_ret
  exact ⟨A3, c3, by simp, HO.out, (balloc w _).trans hb3⟩

/-- The list while its i-th number moves down: it stands at place k. -/
def sinkL (xs : List Int) (i k : Nat) (x : Int) : List Int := (sizL (xs.take i)).take k ++ x :: ((sizL (xs.take i)).drop k ++ xs.drop (i + 1))
theorem sink_len {xs : List Int} {i k : Nat} {x : Int} (hi : i < xs.length) (hk : k ≤ i) : (sinkL xs i k x).length = xs.length := by
  have h1 : (sizL (xs.take i)).length = i := by rw [sizL_len, List.length_take]; omega
  unfold sinkL
  simp only [List.length_append, List.length_cons, List.length_take, List.length_drop, h1]
  omega
theorem sink_here {xs : List Int} {i k : Nat} {x : Int} (hi : i < xs.length) (hk : k ≤ i) : (sinkL xs i k x)[k]? = some x := by
  have h1 : (sizL (xs.take i)).length = i := by rw [sizL_len, List.length_take]; omega
  unfold sinkL
  rw [List.getElem?_append_right (by rw [List.length_take]; omega), List.length_take, show k - min k (sizL (xs.take i)).length = 0 by omega]
  rfl
theorem sink_prev {xs : List Int} {i k : Nat} {x : Int} (hi : i < xs.length) (hk : k ≤ i) (h0 : 0 < k) : (sinkL xs i k x)[k - 1]? = (sizL (xs.take i))[k - 1]? := by
  have h1 : (sizL (xs.take i)).length = i := by rw [sizL_len, List.length_take]; omega
  unfold sinkL
  rw [List.getElem?_append_left (by rw [List.length_take]; omega), List.getElem?_take_of_lt (by omega)]
theorem set_two {a b : List Int} {y x : Int} : ((a ++ y :: x :: b).set (a.length + 1) y).set a.length x = a ++ x :: y :: b := by
  induction a with
  | nil => rfl
  | cons z a ih => simp
theorem sink_step {xs : List Int} {i k : Nat} {x y : Int} (hi : i < xs.length) (hk : k ≤ i) (h0 : 0 < k) (hy : (sizL (xs.take i))[k - 1]? = some y) : ((sinkL xs i k x).set k y).set (k - 1) x = sinkL xs i (k - 1) x := by
  have h1 : (sizL (xs.take i)).length = i := by rw [sizL_len, List.length_take]; omega
  generalize hL : sizL (xs.take i) = L at hy h1
  obtain ⟨q, rfl⟩ : ∃ q, k = q + 1 := ⟨k - 1, by omega⟩
  rw [Nat.add_sub_cancel] at hy ⊢
  obtain ⟨hq, hqy⟩ := List.getElem?_eq_some_iff.1 hy
  have e1 : L.take (q + 1) = L.take q ++ [y] := by rw [List.take_succ_eq_append_getElem hq, hqy]
  have e2 : L.drop q = y :: L.drop (q + 1) := by rw [List.drop_eq_getElem_cons hq, hqy]
  have hl : (L.take q).length = q := by rw [List.length_take]; omega
  unfold sinkL
  rw [hL, e1, e2]
  have := set_two (a := L.take q) (b := L.drop (q + 1) ++ xs.drop (i + 1)) (y := y) (x := x)
  rw [hl] at this
  simpa using this
theorem sink_done {xs : List Int} {i k : Nat} {x : Int} (hx : xs[i]? = some x) (hk : k ≤ i) (h1 : ∀ y, 0 < k → (sizL (xs.take i))[k - 1]? = some y → y ≤ x) (h2 : ∀ y, (sizL (xs.take i))[k]? = some y → x < y) : sinkL xs i k x = sizL (xs.take (i + 1)) ++ xs.drop (i + 1) := by
  obtain ⟨hi, rfl⟩ := List.getElem?_eq_some_iff.1 hx
  have hl : (sizL (xs.take i)).length = i := by rw [sizL_len, List.length_take]; omega
  have e : sizL (xs.take (i + 1)) = (sizL (xs.take i)).take k ++ xs[i] :: (sizL (xs.take i)).drop k := by
    rw [List.take_succ_eq_append_getElem hi]
    unfold sizL
    rw [srt_snoc]
    exact insF_at (srt_asc _ _) (by show k ≤ (sizL (xs.take i)).length; omega) h1 h2
  rw [e]
  unfold sinkL
  simp
theorem sink_start {xs : List Int} {i : Nat} {x : Int} (hx : xs[i]? = some x) : sizL (xs.take i) ++ xs.drop i = sinkL xs i i x := by
  obtain ⟨hi, rfl⟩ := List.getElem?_eq_some_iff.1 hx
  have hl : (sizL (xs.take i)).length = i := by rw [sizL_len, List.length_take]; omega
  unfold sinkL
  generalize sizL (xs.take i) = L at hl ⊢
  rw [List.take_of_length_le (by omega), List.drop_of_length_le (l := L) (by omega), List.drop_eq_getElem_cons hi]
  rfl
end Go.Proofs.Ytfdnpobppelhaaa
