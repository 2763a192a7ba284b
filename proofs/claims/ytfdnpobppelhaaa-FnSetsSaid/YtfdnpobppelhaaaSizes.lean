/- DERIVED. What makes a size and sizes, in the program and in the reference; sizes counted. -/
import Derived.Test.YtfdnpobppelhaaaWord
import Derived.Test.YtfdnpobppelhaaaFlSize
namespace Go.Proofs.Ytfdnpobppelhaaa
set_option maxRecDepth 100000
open Go.RowKit

def okSize (x : ByteArray × Int × Int × Int) : Bool := wordB x.1 && inB x.2.1 300 700 && inB x.2.2.1 250 700 && inB x.2.2.2 300 800

theorem isSize_impl (n : ByteArray) (a b c : Int) (hn : n.size ≤ maxLen) (w : World) :
    Calls Try.prog 60 #[.agg #[.string n, .int .i64 a, .int .i64 b, .int .i64 c]] w fun e w' => e = .returned (.bool (okSize (n, a, b, c))) ∧ Below w.heap.size w w' := by
  go_enter Try.func60, Try.ntmps60
  go_wp2_with (first | (go_at_call 71; refine (within_any _ _ _ _).mono ?_; rintro e w' ⟨rfl, rfl⟩) | (go_at_call 101; refine (isWord_impl _ hn _).mono ?_; rintro e w' ⟨rfl, rfl⟩))
  all_goals
    go_ret
    refine ⟨ret_bool ?_, balloc _ _⟩
    simp [okSize, *]

theorem isSize_spec (n : ByteArray) (a b c : Int) (hn : n.size ≤ maxLen) (w : World) :
    Calls Try.prog 63 #[.agg #[.string n, .int .i64 a, .int .i64 b, .int .i64 c]] w fun e w' => e = .returned (.bool (okSize (n, a, b, c))) ∧ Below w.heap.size w w' := by
  go_enter Try.func63, Try.ntmps63
  go_wp2_with (first | (go_at_call 102; refine (l01In_any _ _ _ _).mono ?_; rintro e w' ⟨rfl, rfl⟩) | (go_at_call 103; refine (isWord_spec _ hn _).mono ?_; rintro e w' ⟨rfl, rfl⟩))
  all_goals
    go_ret
    refine ⟨ret_bool ?_, balloc _ _⟩
    simp [okSize, *]

/-- The i-th size is one, and no earlier one has its name. -/
def sizeAt (xs : List (ByteArray × Int × Int × Int)) (i : Nat) : Bool := match xs[i]? with | some x => okSize x && (xs.take i).all fun y => !decide (y.1 = x.1) | none => true
def sizesB (xs : List (ByteArray × Int × Int × Int)) : Bool := decide (xs.length ≤ 12) && (List.range xs.length).all (sizeAt xs)
theorem sizesB_false {xs : List (ByteArray × Int × Int × Int)} {i : Nat} (hi : i < xs.length) (h : sizeAt xs i = false) : sizesB xs = false := by
  have : (List.range xs.length).all (sizeAt xs) = false := by
    rw [List.all_eq_false]
    exact ⟨i, List.mem_range.2 hi, by simp [h]⟩
  simp [sizesB, this]
theorem sizesB_all {xs : List (ByteArray × Int × Int × Int)} (h : ∀ j, j < xs.length → sizeAt xs j = true) : sizesB xs = decide (xs.length ≤ 12) := by
  have : (List.range xs.length).all (sizeAt xs) = true := by
    rw [List.all_eq_true]
    exact fun i hi => h i (List.mem_range.1 hi)
  simp [sizesB, this]
theorem sizeAt_bad {xs : List (ByteArray × Int × Int × Int)} {i : Nat} {x : ByteArray × Int × Int × Int} (hx : xs[i]? = some x) (h : okSize x = false) : sizeAt xs i = false := by
  simp [sizeAt, hx, h]
theorem sizeAt_twice {xs : List (ByteArray × Int × Int × Int)} {i j : Nat} {x y : ByteArray × Int × Int × Int} (hx : xs[i]? = some x) (hy : xs[j]? = some y) (hji : j < i) (h : y.1 = x.1) : sizeAt xs i = false := by
  have hm : y ∈ xs.take i := List.mem_of_getElem? (i := j) (by rw [List.getElem?_take, if_pos hji]; exact hy)
  have : ((xs.take i).all fun y => !decide (y.1 = x.1)) = false := by
    rw [List.all_eq_false]
    exact ⟨y, hm, by simp [h]⟩
  simp [sizeAt, hx, this]
theorem sizeAt_good {xs : List (ByteArray × Int × Int × Int)} {i : Nat} {x : ByteArray × Int × Int × Int} (hx : xs[i]? = some x) (h : okSize x = true) (hd : ∀ j y, j < i → xs[j]? = some y → ¬ y.1 = x.1) : sizeAt xs i = true := by
  have : ((xs.take i).all fun y => !decide (y.1 = x.1)) = true := by
    rw [List.all_eq_true]
    intro y hy
    obtain ⟨j, hj⟩ := List.mem_iff_getElem?.1 hy
    rw [List.getElem?_take] at hj
    split at hj
    · simpa using hd j y (by assumption) hj
    · cases hj
  simp [sizeAt, hx, h, this]
theorem upto_next {p : Nat → Prop} {k : Nat} (h : ∀ j, j < k → p j) (hk : p k) : ∀ j, j < k + 1 → p j := fun j hj => by
  by_cases e : j = k
  · rw [e]; exact hk
  · exact h j (by omega)

set_option maxHeartbeats 1000000 in
theorem areSizes_impl (A : Option Addr) (c : Nat) (xs : List (ByteArray × Int × Int × Int)) (w : World) (hr : Rd w w.heap.size 4 sizeC A xs) (hm : xs.length ≤ 1048576) (hc : xs.length ≤ c) (hg : ∀ x ∈ xs, x.1.size ≤ maxLen) :
    Calls Try.prog 19 #[.slice A xs.length c] w fun e w' => e = .returned (.bool (sizesB xs)) ∧ Below w.heap.size w w' := by
  by_cases h8 : 12 < xs.length
  · have hB : sizesB xs = false := by simp [sizesB]; omega
    rw [hB]
    go_enter Try.func19, Try.ntmps19
    go_wp2_with fail
    go_ret
    exact ⟨rfl, Below.refl _ _⟩
  have Hg := Lib.hid hg; clear hg
  go_enter Try.func19, Try.ntmps19
  go_wp2_with fail
  go_loopw [12] (fun i wr => ∃ k : Nat, k ≤ xs.length ∧ i = .int .i64 k ∧ Below w.heap.size w wr ∧ ∀ j, j < k → sizeAt xs j = true) (fun i _ => xs.length - (intOf i).toNat)
  case atStart => exact ⟨0, Nat.zero_le _, rfl, Below.refl _ _, fun j hj => by omega⟩
  case round =>
    obtain ⟨k, hk, rfl, hb, hall⟩ := hrel
    have Ha := Lib.hid hall; clear hall
    by_cases hlt : k < xs.length
    · have hx : xs[k]? = some xs[k] := List.getElem?_eq_getElem hlt
      have hA : ∃ b o, A = some ⟨b, o, none⟩ ∧ b < w.heap.size := by
        obtain ⟨b, o, e, hB, _⟩ := hr (by omega)
        exact ⟨b, o, e, hB⟩
      obtain ⟨b, o, rfl, hB⟩ := hA
      obtain ⟨b', o', e', hB', h0, h1, h2, h3⟩ := (hr.below hb).at4 hx rfl
      simp only [Option.some.injEq, Addr.mk.injEq] at e'
      obtain ⟨rfl, rfl, _⟩ := e'
      generalize xs[k] = t at h0 h1 h2 h3 hx
      have ht := Hg.out t (List.mem_of_getElem? hx)
      have Hx := Lib.hid hx; clear hx
      by_cases hok : okSize t = true
      · have htt : okSize (t.1, t.2.1, t.2.2.1, t.2.2.2) = true := hok
        have Hk := Lib.hid hok; clear hok
        go_wp2_with fail
        refine (isSize_impl _ _ _ _ ht _).mono ?_
        rw [htt]
        rintro e w1 ⟨rfl, hb1⟩
        have hb2 := bthen (bthen hb (balloc _ _)) hb1
        obtain ⟨hcc, hff⟩ := bcell hb1
        go_wp2_with fail
        have hcx : w1.cell? ⟨wr.heap.size, 0, none⟩ = some (.string t.1) := by go_simp
        have hgs : wr.heap.size < w1.heap.size := by have := hb1.size; simp at this; omega
        have hgb : w.heap.size ≤ wr.heap.size := hb.size
        clear hcc hff hb1 h0 h1 h2 h3 hb
        generalize wr.heap.size = g at hcx hgs hgb ⊢
        clear wr
        go_loopw [24] (fun i wi => ∃ q : Nat, q ≤ k ∧ i = .int .i64 q ∧ Below w.heap.size w wi ∧ wi.cell? ⟨g, 0, none⟩ = some (.string t.1) ∧ g < wi.heap.size ∧ ∀ j y, j < q → xs[j]? = some y → ¬ y.1 = t.1) (fun i _ => k - (intOf i).toNat)
        case atStart => exact ⟨0, Nat.zero_le _, rfl, hb2, hcx, hgs, fun j y hj => by omega⟩
        case round =>
          obtain ⟨q, hq, rfl, hbi, hci, hgi, hd⟩ := hrel
          have Hd := Lib.hid hd; clear hd hb2 hcx hgs
          by_cases hqk : q < k
          · have hy : xs[q]? = some xs[q] := List.getElem?_eq_getElem (by omega)
            obtain ⟨b', o', e', hB', h0, h1, h2, h3⟩ := (hr.below hbi).at4 hy rfl
            simp only [Option.some.injEq, Addr.mk.injEq] at e'
            obtain ⟨rfl, rfl, _⟩ := e'
            generalize xs[q] = y at h0 h1 h2 h3 hy
            have Hy := Lib.hid hy; clear hy
            by_cases hn : y.1 = t.1
            · have HF := Lib.hid (sizesB_false hlt (sizeAt_twice Hx.out Hy.out hqk hn))
              have hn2 : (t.1.toList == y.1.toList) = true := by simp [hn]
              have Hn := Lib.hid hn; clear hn
              go_wp2_with fail
              go_ret
              exact ⟨ret_bool HF.out.symm, hbi.alloc hbi.size _⟩
            · have hn2 : (t.1.toList == y.1.toList) = false := by simp; exact fun e => hn (str_eq.1 e).symm
              have Hn := Lib.hid hn; clear hn
              go_wp2_with fail
              exact ⟨⟨q + 1, by omega, by go_num, hbi.alloc hbi.size _, by go_simp, by simp; omega, fun j z hj hz => by
                by_cases e : j = q
                · subst e
                  have := Hy.out
                  rw [hz] at this
                  rw [Option.some.inj this]
                  exact Hn.out
                · exact Hd.out j z (by omega) hz⟩, by simp [intOf]; omega⟩
          · obtain rfl : q = k := by omega
            have Hg2 := Lib.hid (sizeAt_good Hx.out Hk.out Hd.out)
            go_wp2_with fail
            exact ⟨⟨q + 1, by omega, by go_num, hbi, upto_next Ha.out Hg2.out⟩, by simp [intOf]; omega⟩
      · have HF := Lib.hid (sizesB_false hlt (sizeAt_bad Hx.out (by simpa using hok)))
        have htt : okSize (t.1, t.2.1, t.2.2.1, t.2.2.2) = false := by simpa using hok
        clear hok
        go_wp2_with fail
        refine (isSize_impl _ _ _ _ ht _).mono ?_
        rw [htt]
        rintro e w1 ⟨rfl, hb1⟩
        have hb2 := bthen (bthen hb (balloc _ _)) hb1
        go_wp2_with fail
        go_ret
        exact ⟨ret_bool HF.out.symm, hb2⟩
    · have HT := Lib.hid (sizesB_all (fun j hj => Ha.out j (by omega)))
      have h12 : decide (xs.length ≤ 12) = true := by simp; omega
      go_wp2_with fail
      go_ret
      exact ⟨ret_bool (by rw [HT.out, h12]), hb⟩

set_option maxHeartbeats 1000000 in
theorem areSizes_spec (A : Option Addr) (c : Nat) (xs : List (ByteArray × Int × Int × Int)) (w : World) (hr : Rd w w.heap.size 4 sizeC A xs) (hm : xs.length ≤ 1048576) (hg : ∀ x ∈ xs, x.1.size ≤ maxLen) :
    Calls Try.prog 20 #[.slice A xs.length c] w fun e w' => e = .returned (.bool (sizesB xs)) ∧ Below w.heap.size w w' := by
  have Hg := Lib.hid hg; clear hg
  go_enter Try.func20, Try.ntmps20
  go_wp2_with fail
  go_loopw [3] (fun i wr => ∃ k : Nat, k ≤ xs.length ∧ i = .int .i64 k ∧ Below w.heap.size w wr ∧ ∀ j, j < k → sizeAt xs j = true) (fun i _ => xs.length - (intOf i).toNat)
  case atStart => exact ⟨0, Nat.zero_le _, rfl, Below.refl _ _, fun j hj => by omega⟩
  case round =>
    obtain ⟨k, hk, rfl, hb, hall⟩ := hrel
    have Ha := Lib.hid hall; clear hall
    by_cases hlt : k < xs.length
    · have hx : xs[k]? = some xs[k] := List.getElem?_eq_getElem hlt
      have hA : ∃ b o, A = some ⟨b, o, none⟩ ∧ b < w.heap.size := by
        obtain ⟨b, o, e, hB, _⟩ := hr (by omega)
        exact ⟨b, o, e, hB⟩
      obtain ⟨b, o, rfl, hB⟩ := hA
      generalize hxk : xs[k] = t at hx
      clear hxk
      obtain ⟨b', o', e', hB', h0, h1, h2, h3⟩ := (hr.below hb).at4 hx rfl
      simp only [Option.some.injEq, Addr.mk.injEq] at e'
      obtain ⟨rfl, rfl, _⟩ := e'
      have ht := Hg.out t (List.mem_of_getElem? hx)
      have Hx := Lib.hid hx; clear hx
      by_cases hok : okSize t = true
      · have htt : okSize (t.1, t.2.1, t.2.2.1, t.2.2.2) = true := hok
        have Hk := Lib.hid hok; clear hok
        go_wp2_with fail
        refine (isSize_spec _ _ _ _ ht _).mono ?_
        rw [htt]
        rintro e w1 ⟨rfl, hb1⟩
        have hb2 := bthen hb hb1
        clear hb1 h0 h1 h2 h3 hb
        go_wp2_with fail
        clear wr
        go_loopw [4] (fun i wi => ∃ q : Nat, q ≤ k ∧ i = .int .i64 q ∧ Below w.heap.size w wi ∧ ∀ j y, j < q → xs[j]? = some y → ¬ y.1 = t.1) (fun i _ => k - (intOf i).toNat)
        case atStart => exact ⟨0, Nat.zero_le _, rfl, hb2, fun j y hj => by omega⟩
        case round =>
          obtain ⟨q, hq, rfl, hbi, hd⟩ := hrel
          have Hd := Lib.hid hd; clear hd hb2
          by_cases hqk : q < k
          · have hy : xs[q]? = some xs[q] := List.getElem?_eq_getElem (by omega)
            obtain ⟨b', o', e', hB', h0, h1, h2, h3⟩ := (hr.below hbi).at4 hy rfl
            simp only [Option.some.injEq, Addr.mk.injEq] at e'
            obtain ⟨rfl, rfl, _⟩ := e'
            obtain ⟨b', o', e', hB', g0, g1, g2, g3⟩ := (hr.below hbi).at4 Hx.out rfl
            simp only [Option.some.injEq, Addr.mk.injEq] at e'
            obtain ⟨rfl, rfl, _⟩ := e'
            generalize xs[q] = y at h0 h1 h2 h3 hy
            have Hy := Lib.hid hy; clear hy
            by_cases hn : y.1 = t.1
            · have HF := Lib.hid (sizesB_false hlt (sizeAt_twice Hx.out Hy.out hqk hn))
              have hn2 : (y.1.toList == t.1.toList) = true := by simp [hn]
              have Hn := Lib.hid hn; clear hn
              go_wp2_with fail
              go_quiet (fail)
              go_wp2_with fail
              go_ret
              exact ⟨ret_bool HF.out.symm, below_drewN hbi _⟩
            · have hn2 : (y.1.toList == t.1.toList) = false := by simp; exact fun e => hn (str_eq.1 e)
              have Hn := Lib.hid hn; clear hn
              go_wp2_with fail
              go_quiet (fail)
              go_wp2_with fail
              exact ⟨⟨q + 1, by omega, by go_num, below_drewN hbi _, fun j z hj hz => by
                by_cases e : j = q
                · subst e
                  have := Hy.out
                  rw [hz] at this
                  rw [Option.some.inj this]
                  exact Hn.out
                · exact Hd.out j z (by omega) hz⟩, by simp [intOf]; omega⟩
          · obtain rfl : q = k := by omega
            have Hg2 := Lib.hid (sizeAt_good Hx.out Hk.out Hd.out)
            go_wp2_with fail
            exact ⟨⟨q + 1, by omega, by go_num, hbi, upto_next Ha.out Hg2.out⟩, by simp [intOf]; omega⟩
      · have HF := Lib.hid (sizesB_false hlt (sizeAt_bad Hx.out (by simpa using hok)))
        have htt : okSize (t.1, t.2.1, t.2.2.1, t.2.2.2) = false := by simpa using hok
        clear hok
        go_wp2_with fail
        refine (isSize_spec _ _ _ _ ht _).mono ?_
        rw [htt]
        rintro e w1 ⟨rfl, hb1⟩
        have hb2 := bthen hb hb1
        go_wp2_with fail
        go_ret
        exact ⟨ret_bool HF.out.symm, hb2⟩
    · have HT := Lib.hid (sizesB_all (fun j hj => Ha.out j (by omega)))
      go_wp2_with fail
      go_ret
      exact ⟨ret_bool (by rw [HT.out]; exact decide_eq_decide.2 (by omega)), hb⟩

theorem szSize_any (n : ByteArray) (a b c l : Int) (hn : n.size ≤ maxLen) (h2 : 0 ≤ l) (h3 : l ≤ 1048576) (w : World) :
    Calls Try.prog 83 #[.agg #[.string n, .int .i64 a, .int .i64 b, .int .i64 c], .int .i64 l] w (SzPost w l (n.size ≤ 1048576)) := by
  unfold maxLen at hn
  by_cases h : l - n.size < 0
  · go_enter Try.func83, Try.ntmps83
    go_wp2_with fail
    go_ret
    exact ⟨_, rfl, Or.inl rfl, balloc _ _⟩
  · go_enter Try.func83, Try.ntmps83
    go_wp2_with fail
    go_ret
    exact ⟨_, rfl, Or.inr ⟨by omega, by omega, by omega⟩, balloc _ _⟩

set_option maxHeartbeats 400000 in
theorem szSizeS_any (A : Option Addr) (c : Nat) (xs : List (ByteArray × Int × Int × Int)) (l : Int) (w : World) (hr : Rd w w.heap.size 4 sizeC A xs) (hm : xs.length ≤ maxLen) (hg : ∀ x ∈ xs, x.1.size ≤ maxLen) (h2 : 0 ≤ l) (h3 : l ≤ 1048576) :
    Calls Try.prog 32 #[.slice A xs.length c, .int .i64 l] w (SzPost w l (xs.length ≤ 1048576 ∧ ∀ x ∈ xs, x.1.size ≤ 1048576)) := by
  unfold maxLen at hm
  have Hg := Lib.hid hg; clear hg
  by_cases h : l - xs.length < 0
  · go_enter Try.func32, Try.ntmps32
    go_wp2_with fail
    go_ret
    exact ⟨_, rfl, Or.inl rfl, Below.refl _ _⟩
  · go_enter Try.func32, Try.ntmps32
    go_wp2_with fail
    go_loopw [1, 5] (fun left i wr => ∃ (k : Nat) (q : Int), k ≤ xs.length ∧ i = .int .i64 k ∧ left = .int .i64 q ∧ 0 ≤ q ∧ q ≤ l ∧ Below w.heap.size w wr ∧ ∀ j x, j < k → xs[j]? = some x → x.1.size ≤ 1048576) (fun _ i _ => xs.length - (intOf i).toNat)
    case atStart => exact ⟨0, _, Nat.zero_le _, rfl, rfl, by omega, by omega, Below.refl _ _, fun j x hj => by omega⟩
    case round =>
      obtain ⟨k, q, hk, rfl, rfl, q0, q1, hb, hd⟩ := hrel
      have Hd := Lib.hid hd; clear hd
      by_cases hlt : k < xs.length
      · have hx : xs[k]? = some xs[k] := List.getElem?_eq_getElem hlt
        obtain ⟨b, o, rfl, hB, g0, g1, g2, g3⟩ := (hr.below hb).at4 hx rfl
        generalize xs[k] = t at g0 g1 g2 g3 hx
        have ht := Hg.out t (List.mem_of_getElem? hx)
        have Hx := Lib.hid hx; clear hx
        go_wp2_with fail
        refine (szSize_any _ _ _ _ _ ht q0 (by omega) _).mono ?_
        rintro e w1 ⟨r, rfl, hr1, hb1⟩
        rcases hr1 with rfl | ⟨r0, r1, r2⟩
        · go_wp2_with fail
          go_ret
          exact ⟨_, rfl, Or.inl rfl, bthen hb hb1⟩
        · go_wp2_with fail
          exact ⟨⟨k + 1, r, by omega, by go_num, rfl, r0, by omega, bthen hb hb1, fun j x hj hxj => by
            by_cases e : j = k
            · subst e
              have := Hx.out
              rw [hxj] at this
              rw [Option.some.inj this]
              exact r2
            · exact Hd.out j x (by omega) hxj⟩, by simp [intOf]; omega⟩
      · have Hf : Hid (SzPost w l (xs.length ≤ 1048576 ∧ ∀ x ∈ xs, x.1.size ≤ 1048576) (.returned (.int .i64 q)) wr) := ⟨q, rfl, Or.inr ⟨q0, q1, by omega, fun x hx => by
          obtain ⟨j, hj⟩ := List.mem_iff_getElem?.1 hx
          exact Hd.out j x (by have := (List.getElem?_eq_some_iff.1 hj).1; omega) hj⟩, hb⟩
        go_wp2_with fail
        go_ret
        exact Hf.out

end Go.Proofs.Ytfdnpobppelhaaa
