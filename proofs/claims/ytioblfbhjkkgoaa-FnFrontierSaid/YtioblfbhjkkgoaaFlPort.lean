/- DERIVED. Port: carried over, compared, counted; an argument of this kind opened. By program (flat.py). -/
import Derived.Test.YtioblfbhjkkgoaaOpen
namespace Go.Proofs.Ytioblfbhjkkgoaa
set_option maxRecDepth 100000
open Go.RowKit Go.ChangeShapes Go.WideShapes Go.ChangeAt Go.Joins Go.Deep

def portC (t : Int × Int × Bool) : List Value := [.int .i64 t.1, .int .i64 t.2.1, .bool t.2.2]
theorem portC_len (t : Int × Int × Bool) : (portC t).length = 3 := rfl

theorem toPort_any (x0 : Int) (x1 : Int) (x2 : Bool) (w : World) :
    Calls Try.prog 66 #[.agg #[.int .i64 x0, .int .i64 x1, .bool x2]] w fun e w' => e = .returned (.agg #[.int .i64 x0, .int .i64 x1, .bool x2]) ∧ Below w.heap.size w w' := by
  go_enter Try.func66, Try.ntmps66
  go_wp2
  refine bodyPost_ret (v := .agg #[.int .i64 x0, .int .i64 x1, .bool x2]) (by simp [results, Try.results66, go_sem]) rfl ⟨rfl, ?_⟩
  exact bthen (bthen (balloc _ _) (balloc _ _)) (balloc _ _)

theorem infoPort : (Try.prog.info? 96).map (fun i => (i.zero, i.size, i.bytes)) = some (some (.agg #[.int .i64 0, .int .i64 0, .bool false]), 3, 24) := by kernel_rfl

set_option maxHeartbeats 400000 in
theorem toPortS_any (A : Option Addr) (c : Nat) (xs : List (Int × Int × Bool)) (w : World) (hr : Rd w w.heap.size 3 portC A xs) (hm : xs.length ≤ 1048576) :
    Calls Try.prog 51 #[.slice A xs.length c] w (GivesFlat w 96 3 portC xs) := by
  have hmk := made Try.underlying57 infoPort xs.length hm (by omega)
  go_enter Try.func51, Try.ntmps51
  go_wp2
  clear hmk
  go_loopw [4] (fun i wr => ∃ k : Nat, k ≤ xs.length ∧ i = .int .i64 k ∧ Row wr w.heap.size 96 (xs.length * 3) ∧ Rd wr (w.heap.size + 1) 3 portC (some ⟨w.heap.size, 0, none⟩) (xs.take k) ∧ Below w.heap.size w wr) (fun i _ => xs.length - (intOf i).toNat)
  case atStart => exact ⟨0, Nat.zero_le _, rfl, Row.made _ _, Rd.nothing, balloc _ _⟩
  case round =>
    obtain ⟨k, hk, rfl, hrow, hout, hb⟩ := hrel
    by_cases hlt : k < xs.length
    · have hx : xs[k]? = some xs[k] := List.getElem?_eq_getElem hlt
      obtain ⟨b, o, rfl, hB, h0, h1, h2⟩ := (hr.below hb).at3 hx rfl
      generalize xs[k] = t at h0 h1 h2 hx
      have Hx := Lib.hid hx; clear hx
      go_wp2_with fail
      refine (toPort_any _ _ _ _).mono ?_
      rintro e w1 ⟨rfl, hb1⟩
      have hrow1 := hrow.next hb1
      obtain ⟨z0, hz0⟩ := hrow1.cell (j := k * 3) (by omega)
      have hf0 := hrow1.frozen (k * 3)
      obtain ⟨z1, hz1⟩ := hrow1.cell (j := k * 3 + 1) (by omega)
      have hf1 := hrow1.frozen (k * 3 + 1)
      obtain ⟨z2, hz2⟩ := hrow1.cell (j := k * 3 + 2) (by omega)
      have hf2 := hrow1.frozen (k * 3 + 2)
      go_wp2_with fail
      exact ⟨⟨k + 1, by omega, by go_num, putAll_row (portC t) _ _ hrow1, (hout.below (hb1.mono (by have := hrow.lt; omega))).put (by omega) hrow1 (by omega) portC_len Hx.out, (bthen hb hb1).trans (putAll_below (Nat.le_refl _) (portC t) _ _)⟩, by simp [intOf]; omega⟩
    · have e : k = xs.length := by omega
      subst e
      rw [List.take_length] at hout
      have Hd : Hid (GivesFlat w 96 3 portC xs (.returned (.slice (some ⟨w.heap.size, 0, none⟩) xs.length xs.length)) wr) := ⟨_, rfl, Flat.of_rd (hout.more hrow.lt) (Nat.le_refl _) hrow.lt hrow (Nat.le_refl _), hb⟩
      clear hout hrow hb hr
      go_wp2_with fail
      go_ret
      exact Hd.out

theorem eqPort_any (x0 : Int) (x1 : Int) (x2 : Bool) (y0 : Int) (y1 : Int) (y2 : Bool) (w : World) :
    Calls Try.prog 70 #[.agg #[.int .i64 x0, .int .i64 x1, .bool x2], .agg #[.int .i64 y0, .int .i64 y1, .bool y2]] w fun e w' => e = .returned (.bool (decide ((x0, x1, x2) = (y0, y1, y2)))) ∧ Below w.heap.size w w' := by
  go_enter Try.func70, Try.ntmps70
  go_wp2
  all_goals
    go_ret
    refine ⟨ret_bool ?_, bthen (balloc _ _) (balloc _ _)⟩
    simp_all

set_option maxHeartbeats 400000 in
theorem eqPortS_any (A A' : Option Addr) (c c' : Nat) (xs ys : List (Int × Int × Bool)) (w : World) (hr : Rd w w.heap.size 3 portC A xs) (hr' : Rd w w.heap.size 3 portC A' ys) (hm : xs.length ≤ 1048576) :
    Calls Try.prog 57 #[.slice A xs.length c, .slice A' ys.length c'] w fun e w' => e = .returned (.bool (decide (xs = ys))) ∧ Below w.heap.size w w' := by
  by_cases hl : xs.length = ys.length
  · have hn : ((xs.length : Int) != (ys.length : Int)) = false := by simp [hl]
    have Hl := Lib.hid hl; clear hl
    go_enter Try.func57, Try.ntmps57
    go_wp2
    go_loopw [5] (fun i wr => ∃ k : Nat, k ≤ xs.length ∧ i = .int .i64 k ∧ Below w.heap.size w wr ∧ xs.take k = ys.take k) (fun i _ => xs.length - (intOf i).toNat)
    case atStart => exact ⟨0, Nat.zero_le _, rfl, Below.refl _ _, rfl⟩
    case round =>
      obtain ⟨k, hk, rfl, hb, hpre⟩ := hrel
      have Hp := Lib.hid hpre; clear hpre
      by_cases hlt : k < xs.length
      · have hlt' : k < ys.length := by have := Hl.out; omega
        have hx : xs[k]? = some xs[k] := List.getElem?_eq_getElem hlt
        have hy : ys[k]? = some ys[k] := List.getElem?_eq_getElem hlt'
        obtain ⟨b, o, rfl, hB, h0, h1, h2⟩ := (hr.below hb).at3 hx rfl
        obtain ⟨b', o', rfl, hB', h0', h1', h2'⟩ := (hr'.below hb).at3 hy rfl
        generalize xs[k] = t at h0 h1 h2 hx
        generalize ys[k] = t' at h0' h1' h2' hy
        have Hx := Lib.hid hx; clear hx
        have Hy := Lib.hid hy; clear hy
        go_wp2_with fail
        go_still_tail 8, (by kernel_rfl)
        change wpList _ _ _ _ _ wr.drew
        have hb2 := hb.drew
        generalize wr.drew = w2 at hb2 ⊢
        by_cases ht : (t.1, t.2.1, t.2.2) = (t'.1, t'.2.1, t'.2.2)
        · have htt : decide ((t.1, t.2.1, t.2.2) = (t'.1, t'.2.1, t'.2.2)) = true := decide_eq_true ht
          go_wp2_with (go_at_call 70; refine (eqPort_any _ _ _ _ _ _ _).mono ?_; rw [htt]; rintro e w3 ⟨rfl, hb3⟩)
          exact ⟨⟨k + 1, by omega, by go_num, bthen hb2 hb3, take_next Hp.out Hx.out Hy.out ht⟩, by simp [intOf]; omega⟩
        · have htt : decide ((t.1, t.2.1, t.2.2) = (t'.1, t'.2.1, t'.2.2)) = false := decide_eq_false ht
          have hne : decide (xs = ys) = false := decide_eq_false (ne_next Hx.out Hy.out ht)
          go_wp2_with (go_at_call 70; refine (eqPort_any _ _ _ _ _ _ _).mono ?_; rw [htt]; rintro e w3 ⟨rfl, hb3⟩)
          go_ret
          exact ⟨ret_bool hne.symm, bthen hb2 hb3⟩
      · have e : decide (xs = ys) = true := decide_eq_true (take_all Hp.out Hl.out (by omega))
        go_wp2_with fail
        go_ret
        exact ⟨ret_bool e.symm, hb⟩
  · have hd : decide (xs = ys) = false := by simp; intro h; exact hl (by rw [h])
    have hn : ((xs.length : Int) != (ys.length : Int)) = true := by simp; omega
    rw [hd]
    go_enter Try.func57, Try.ntmps57
    go_wp2
    go_ret
    exact ⟨rfl, Below.refl _ _⟩

theorem szPortS_any (A : Option Addr) (n c : Nat) (l : Int) (h1 : n ≤ 9223372036854775807) (h2 : 0 ≤ l) (h3 : l ≤ 1048576) (w : World) :
    Calls Try.prog 45 #[.slice A n c, .int .i64 l] w fun e w' => e = .returned (.int .i64 (if l - n < 0 then -1 else l - n)) ∧ w = w' := by
  by_cases h : l - n < 0
  · rw [if_pos h]
    go_enter Try.func45, Try.ntmps45
    go_wp2
    go_ret
    exact ⟨rfl, rfl⟩
  · rw [if_neg h]
    go_enter Try.func45, Try.ntmps45
    go_wp2
    go_ret
    exact ⟨rfl, rfl⟩

theorem open_ports {H : Type} {enc : TypeId × Value → H} {W : World} {spare : Nat → Bool} {r : Reach} {b0 : Nat} {v : Value} {d : DataW H} {p : List MemPlace}
    (hv : Value.okWide Try.prog W r b0 50 v) (h : DataW.Trod enc Try.prog W 0 spare true 50 v d p) :
    ∃ A c xs, v = .slice A (List.length xs) c ∧ List.length xs ≤ maxLen ∧ (∀ x ∈ xs, (fun _ => True) x) ∧ Rd W W.heap.size 3 portC A xs :=
  open_flat (fun _ => True) portC Try.underlying50 (show Try.prog.cellsOf 107 = 3 by kernel_rfl) (by omega) (fun n cs y hl h => by
    obtain ⟨c0, c1, c2, y0, y1, y2, m, rfl, h0, h1, h2⟩ := el3 Try.underlying107 (by kernel_rfl) hl h
    obtain ⟨x0, e0, -, -⟩ := DataW.trod_int Try.underlying2 h0
    obtain ⟨x1, e1, -, -⟩ := DataW.trod_int Try.underlying2 h1
    obtain ⟨x2, e2, -⟩ := DataW.trod_bool Try.underlying4 h2
    simp at e0 e1 e2
    subst e0 e1 e2
    exact ⟨(x0, x1, x2), trivial, rfl⟩) hv h

end Go.Proofs.Ytioblfbhjkkgoaa
