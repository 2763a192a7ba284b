/- DERIVED. Size: carried over, compared, counted; an argument of this kind opened. By program (flat.py). -/
import Derived.Test.YtfdnpobppelhaaaOpen
namespace Go.Proofs.Ytfdnpobppelhaaa
set_option maxRecDepth 100000
open Go.RowKit Go.ChangeShapes Go.WideShapes Go.ChangeAt Go.Joins Go.Deep

def sizeC (t : ByteArray × Int × Int × Int) : List Value := [.string t.1, .int .i64 t.2.1, .int .i64 t.2.2.1, .int .i64 t.2.2.2]
theorem sizeC_len (t : ByteArray × Int × Int × Int) : (sizeC t).length = 4 := rfl

theorem toSize_any (x0 : ByteArray) (x1 : Int) (x2 : Int) (x3 : Int) (w : World) :
    Calls Try.prog 86 #[.agg #[.string x0, .int .i64 x1, .int .i64 x2, .int .i64 x3]] w fun e w' => e = .returned (.agg #[.string x0, .int .i64 x1, .int .i64 x2, .int .i64 x3]) ∧ Below w.heap.size w w' := by
  go_enter Try.func86, Try.ntmps86
  go_wp2
  refine bodyPost_ret (v := .agg #[.string x0, .int .i64 x1, .int .i64 x2, .int .i64 x3]) (by simp [results, Try.results86, go_sem]) rfl ⟨rfl, ?_⟩
  exact bthen (bthen (balloc _ _) (balloc _ _)) (balloc _ _)

theorem infoSize : (Try.prog.info? 27).map (fun i => (i.zero, i.size, i.bytes)) = some (some (.agg #[.string ⟨#[]⟩, .int .i64 0, .int .i64 0, .int .i64 0]), 4, 40) := by kernel_rfl
set_option maxHeartbeats 400000 in
theorem toSizeS_any (A : Option Addr) (c : Nat) (xs : List (ByteArray × Int × Int × Int)) (w : World) (hr : Rd w w.heap.size 4 sizeC A xs) (hm : xs.length ≤ 1048576) :
    Calls Try.prog 35 #[.slice A xs.length c] w (GivesFlat w 27 4 sizeC xs) := by
  have hmk := made Try.underlying37 infoSize xs.length hm (by omega)
  go_enter Try.func35, Try.ntmps35
  go_wp2
  clear hmk
  go_loopw [4] (fun i wr => ∃ k : Nat, k ≤ xs.length ∧ i = .int .i64 k ∧ Row wr w.heap.size 27 (xs.length * 4) ∧ Rd wr (w.heap.size + 1) 4 sizeC (some ⟨w.heap.size, 0, none⟩) (xs.take k) ∧ Below w.heap.size w wr) (fun i _ => xs.length - (intOf i).toNat)
  case atStart => exact ⟨0, Nat.zero_le _, rfl, Row.made _ _, Rd.nothing, balloc _ _⟩
  case round =>
    obtain ⟨k, hk, rfl, hrow, hout, hb⟩ := hrel
    by_cases hlt : k < xs.length
    · have hx : xs[k]? = some xs[k] := List.getElem?_eq_getElem hlt
      obtain ⟨b, o, rfl, hB, h0, h1, h2, h3⟩ := (hr.below hb).at4 hx rfl
      generalize xs[k] = t at h0 h1 h2 h3 hx
      have Hx := Lib.hid hx; clear hx
      go_wp2_with fail
      refine (toSize_any _ _ _ _ _).mono ?_
      rintro e w1 ⟨rfl, hb1⟩
      have hrow1 := hrow.next hb1
      obtain ⟨z0, hz0⟩ := hrow1.cell (j := k * 4) (by omega)
      have hf0 := hrow1.frozen (k * 4)
      obtain ⟨z1, hz1⟩ := hrow1.cell (j := k * 4 + 1) (by omega)
      have hf1 := hrow1.frozen (k * 4 + 1)
      obtain ⟨z2, hz2⟩ := hrow1.cell (j := k * 4 + 2) (by omega)
      have hf2 := hrow1.frozen (k * 4 + 2)
      obtain ⟨z3, hz3⟩ := hrow1.cell (j := k * 4 + 3) (by omega)
      have hf3 := hrow1.frozen (k * 4 + 3)
      go_wp2_with fail
      exact ⟨⟨k + 1, by omega, by go_num, putAll_row (sizeC t) _ _ hrow1, (hout.below (hb1.mono (by have := hrow.lt; omega))).put (by omega) hrow1 (by omega) sizeC_len Hx.out, (bthen hb hb1).trans (putAll_below (Nat.le_refl _) (sizeC t) _ _)⟩, by simp [intOf]; omega⟩
    · have e : k = xs.length := by omega
      subst e
      rw [List.take_length] at hout
      have Hd : Hid (GivesFlat w 27 4 sizeC xs (.returned (.slice (some ⟨w.heap.size, 0, none⟩) xs.length xs.length)) wr) := ⟨_, rfl, Flat.of_rd (hout.more hrow.lt) (Nat.le_refl _) hrow.lt hrow (Nat.le_refl _), hb⟩
      clear hout hrow hb hr
      go_wp2_with fail
      go_ret
      exact Hd.out

theorem eqSize_any (x0 : ByteArray) (x1 : Int) (x2 : Int) (x3 : Int) (y0 : ByteArray) (y1 : Int) (y2 : Int) (y3 : Int) (w : World) :
    Calls Try.prog 89 #[.agg #[.string x0, .int .i64 x1, .int .i64 x2, .int .i64 x3], .agg #[.string y0, .int .i64 y1, .int .i64 y2, .int .i64 y3]] w fun e w' => e = .returned (.bool (decide ((x0, x1, x2, x3) = (y0, y1, y2, y3)))) ∧ Below w.heap.size w w' := by
  go_enter Try.func89, Try.ntmps89
  go_wp2
  all_goals
    go_ret
    refine ⟨ret_bool ?_, bthen (balloc _ _) (balloc _ _)⟩
    have hs := @str_eq x0 y0
    simp_all

set_option maxHeartbeats 400000 in
theorem eqSizeS_any (A A' : Option Addr) (c c' : Nat) (xs ys : List (ByteArray × Int × Int × Int)) (w : World) (hr : Rd w w.heap.size 4 sizeC A xs) (hr' : Rd w w.heap.size 4 sizeC A' ys) (hm : xs.length ≤ 1048576) :
    Calls Try.prog 39 #[.slice A xs.length c, .slice A' ys.length c'] w fun e w' => e = .returned (.bool (decide (xs = ys))) ∧ Below w.heap.size w w' := by
  by_cases hl : xs.length = ys.length
  · have hn : ((xs.length : Int) != (ys.length : Int)) = false := by simp [hl]
    have Hl := Lib.hid hl; clear hl
    go_enter Try.func39, Try.ntmps39
    go_wp2
    go_loopw [5] (fun i wr => ∃ k : Nat, k ≤ xs.length ∧ i = .int .i64 k ∧ Below w.heap.size w wr ∧ xs.take k = ys.take k) (fun i _ => xs.length - (intOf i).toNat)
    case atStart => exact ⟨0, Nat.zero_le _, rfl, Below.refl _ _, rfl⟩
    case round =>
      obtain ⟨k, hk, rfl, hb, hpre⟩ := hrel
      have Hp := Lib.hid hpre; clear hpre
      by_cases hlt : k < xs.length
      · have hlt' : k < ys.length := by have := Hl.out; omega
        have hx : xs[k]? = some xs[k] := List.getElem?_eq_getElem hlt
        have hy : ys[k]? = some ys[k] := List.getElem?_eq_getElem hlt'
        obtain ⟨b, o, rfl, hB, h0, h1, h2, h3⟩ := (hr.below hb).at4 hx rfl
        obtain ⟨b', o', rfl, hB', h0', h1', h2', h3'⟩ := (hr'.below hb).at4 hy rfl
        generalize xs[k] = t at h0 h1 h2 h3 hx
        generalize ys[k] = t' at h0' h1' h2' h3' hy
        have Hx := Lib.hid hx; clear hx
        have Hy := Lib.hid hy; clear hy
        go_wp2_with fail
        go_still_tail 8, (by kernel_rfl)
        change wpList _ _ _ _ _ wr.drew
        have hb2 := hb.drew
        generalize wr.drew = w2 at hb2 ⊢
        by_cases ht : (t.1, t.2.1, t.2.2.1, t.2.2.2) = (t'.1, t'.2.1, t'.2.2.1, t'.2.2.2)
        · have htt : decide ((t.1, t.2.1, t.2.2.1, t.2.2.2) = (t'.1, t'.2.1, t'.2.2.1, t'.2.2.2)) = true := decide_eq_true ht
          go_wp2_with (go_at_call 89; refine (eqSize_any _ _ _ _ _ _ _ _ _).mono ?_; rw [htt]; rintro e w3 ⟨rfl, hb3⟩)
          exact ⟨⟨k + 1, by omega, by go_num, bthen hb2 hb3, take_next Hp.out Hx.out Hy.out ht⟩, by simp [intOf]; omega⟩
        · have htt : decide ((t.1, t.2.1, t.2.2.1, t.2.2.2) = (t'.1, t'.2.1, t'.2.2.1, t'.2.2.2)) = false := decide_eq_false ht
          have hne : decide (xs = ys) = false := decide_eq_false (ne_next Hx.out Hy.out ht)
          go_wp2_with (go_at_call 89; refine (eqSize_any _ _ _ _ _ _ _ _ _).mono ?_; rw [htt]; rintro e w3 ⟨rfl, hb3⟩)
          go_ret
          exact ⟨ret_bool hne.symm, bthen hb2 hb3⟩
      · have e : decide (xs = ys) = true := decide_eq_true (take_all Hp.out Hl.out (by omega))
        go_wp2_with fail
        go_ret
        exact ⟨ret_bool e.symm, hb⟩
  · have hd : decide (xs = ys) = false := by simp; intro h; exact hl (by rw [h])
    have hn : ((xs.length : Int) != (ys.length : Int)) = true := by simp; omega
    rw [hd]
    go_enter Try.func39, Try.ntmps39
    go_wp2
    go_ret
    exact ⟨rfl, Below.refl _ _⟩

theorem open_sizes {H : Type} {enc : TypeId × Value → H} {W : World} {spare : Nat → Bool} {r : Reach} {b0 : Nat} {v : Value} {d : DataW H} {p : List MemPlace}
    (hv : Value.okWide Try.prog W r b0 48 v) (h : DataW.Trod enc Try.prog W 0 spare true 48 v d p) :
    ∃ A c xs, v = .slice A (List.length xs) c ∧ List.length xs ≤ maxLen ∧ (∀ x ∈ xs, (fun t => t.1.size ≤ maxLen) x) ∧ Rd W W.heap.size 4 sizeC A xs :=
  open_flat (fun t => t.1.size ≤ maxLen) sizeC Try.underlying48 (show Try.prog.cellsOf 94 = 4 by kernel_rfl) (by omega) (fun n cs y hl h => by
    obtain ⟨c0, c1, c2, c3, y0, y1, y2, y3, m, rfl, h0, h1, h2, h3⟩ := el4 Try.underlying94 (by kernel_rfl) hl h
    obtain ⟨x0, e0, -, wx0⟩ := DataW.trod_string Try.underlying9 h0
    obtain ⟨x1, e1, -, -⟩ := DataW.trod_int Try.underlying2 h1
    obtain ⟨x2, e2, -, -⟩ := DataW.trod_int Try.underlying2 h2
    obtain ⟨x3, e3, -, -⟩ := DataW.trod_int Try.underlying2 h3
    simp at e0 e1 e2 e3
    subst e0 e1 e2 e3
    exact ⟨(x0, x1, x2, x3), wx0, rfl⟩) hv h

end Go.Proofs.Ytfdnpobppelhaaa
