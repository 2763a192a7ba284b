/- DERIVED. The draws of measured balls. By program (gdrawn.py). -/
import Derived.Test.YtfdnpobppelhaaaDrawL
import Derived.Test.YtfdnpobppelhaaaBallW
namespace Go.Proofs.Ytfdnpobppelhaaa
set_option maxRecDepth 100000
open Go.RowKit

set_option maxHeartbeats 2000000 in
theorem l15DrawBalls_any (A : Option Addr) (c b : Nat) (xs : List Int) (w : World) (hF : Feed w b A c xs) :
    Calls Try.prog 73 #[.pointer (some ⟨b, 0, none⟩)] w (DrawnList 64 2 1 nC (fun _ => True) w b A c xs) := by
  have HN : Hid (∀ (v : World) (n : Int), n < 20000 → Feed v b A c xs → Calls Try.prog 75 #[.pointer (some ⟨b, 0, none⟩), .int .i64 n] v (Drawn v b A c xs n)) := fun v n hn h => l01Next_any A c b xs n v h.src h.rd h.byte h.small (by omega)
  have HP3 : Hid (∀ (v : World) (ys : List Int), 0 < ys.length → ys.length ≤ 1000 → Feed v b A c xs → Calls Try.prog 74 #[.pointer (some ⟨b, 0, none⟩), .slice (some ⟨v.heap.size, 0, none⟩) ys.length ys.length] (v.alloc (.cells (ys.map (Value.int .i64)).toArray 2)) (PickHit v b A c xs ys)) := fun v ys h0 h1 h => pick_next A c b xs v 2 ys h0 h1 h
  have HL : Hid (GrowSt w (w.alloc (.cells #[] 2)) b A c xs 2 1 nC (some ⟨w.heap.size, 0, none⟩) 0 []) := GrowSt.made hF
  have HJL := Lib.hid nCl
  have hlb := hF.src.lt
  clear hF
  have HPw := Lib.hid (HP3.out (w.alloc (.cells #[] 2)) [4762, 6350, 3175] (by simp) (by simp) HL.out.feed)
  rw [show (w.alloc (.cells #[] 2)).heap.size = w.heap.size + 1 by simp] at HPw
  go_enter Try.func73, Try.ntmps73
  go_wp2_with fail
  refine HPw.out.mono ?_
  rintro e w1 ⟨sz, hsz, rfl, hF1, hO1⟩
  have HL1 := Lib.hid (HL.out.turn hF1 hO1)
  have hs : 3000 ≤ sz ∧ sz ≤ 7000 := by
    simp at hsz
    omega
  clear hF1 hO1 HL HPw hsz
  go_wp2_with fail
  refine (HN.out w1 16 (by omega) HL1.out.feed).mono ?_
  rintro e w2 ⟨v, rfl, v0, v1, _, hS, hO⟩
  have HL2 := Lib.hid (HL1.out.turn (HL1.out.feed.turn hS hO) hO)
  have v1 := v1 (by omega)
  clear hS hO HL1
  go_wp2_with fail
  go_loopw [3, 5] (fun out i wr => ∃ (q : Int) (LA : Option Addr) (lc : Nat) (ms : List Int), 0 ≤ q ∧ (ms.length : Int) + q ≤ 16 ∧ i = .int .i64 q ∧ out = .slice LA ms.length lc ∧ GrowSt w wr b A c xs 2 1 nC LA lc ms) (fun _ i _ => (intOf i).toNat)
  case atStart => exact ⟨v, _, _, [], v0, by simp; omega, rfl, rfl, HL2.out⟩
  case round =>
    obtain ⟨q, LA, lc, ms, q0, q1, rfl, rfl, hL⟩ := hrel
    have HL1 := Lib.hid hL; clear hL
    by_cases hq : 0 < q
    · go_wp2_with fail
      refine (HN.out wr 40 (by omega) HL1.out.feed).mono ?_
      rintro e w4 ⟨u, rfl, u0, u1, _, hS, hO⟩
      have HL4 := Lib.hid (HL1.out.turn (HL1.out.feed.turn hS hO) hO)
      have u1 := u1 (by omega)
      have s4 := HL4.out.old.size
      clear hS hO HL1
      go_wp2_with (at_builtin; refine wpList_append_el rfl _ _ _ rfl w.heap.size 2 (.int .i64 0) 1 8 Try.underlying38 infoInt64 rfl (by omega) (by omega) nC ms (sz + u - 20) LA lc rfl (HL4.out.own.keep (balloc _ _)) w4.heap.size _ rfl rfl (one_cell (by go_simp)) (by simp [nC]; rfl) (by omega) (by simp; omega) ?_)
      intro A2 c2 w5 hown5 _ hb5
      have HL5 := Lib.hid (HL4.out.grow hown5 hb5)
      clear hown5 hb5
      go_wp2_with fail
      exact ⟨⟨q - 1, A2, c2, ms ++ [sz + u - 20], by omega, by simp; omega, by go_num, by simp, HL5.out⟩, by simp [intOf]; omega⟩
    · go_wp2_with fail
      refine (HN.out wr 24 (by omega) HL1.out.feed).mono ?_
      rintro e w2 ⟨v2, rfl, a0, a1, _, hS, hO⟩
      have HL2 := Lib.hid (HL1.out.turn (HL1.out.feed.turn hS hO) hO)
      clear hS hO HL1 a1
      by_cases hv : v2 = 0
      · subst hv
        have HP4 := Lib.hid (HP3.out w2 [999, 1000, 20000, 20001] (by simp) (by simp) HL2.out.feed)
        go_wp2_with fail
        refine HP4.out.mono ?_
        rintro e w3 ⟨p, _, rfl, hF3, hO3⟩
        have HL3 := Lib.hid (HL2.out.turn hF3 hO3)
        have s3 := HL3.out.old.size
        clear hF3 hO3 HL2 HP4
        go_wp2_with (at_builtin; refine wpList_append_el rfl _ _ _ rfl w.heap.size 2 (.int .i64 0) 1 8 Try.underlying38 infoInt64 rfl (by omega) (by omega) nC ms (p) LA lc rfl (HL3.out.own.keep (balloc _ _)) w3.heap.size _ rfl rfl (one_cell (by go_simp)) (by simp [nC]; rfl) (by omega) (by simp; omega) ?_)
        intro A2 c2 w5 hown5 _ hb5
        have HL5 := Lib.hid (HL3.out.grow hown5 hb5)
        have hl5 : (ms ++ [p]).length = ms.length + 1 := by simp
        clear hown5 hb5
        generalize ms ++ [p] = ms2 at HL5 hl5
        rw [← hl5]
        go_wp2_with fail
        go_ret
        exact HL5.out.drawn HJL.out (by omega) (fun _ _ => trivial)
      · by_cases hv1 : v2 = 1
        · subst hv1
          go_wp2_with fail
          go_loopw [3] (fun out wr => ∃ (MA : Option Addr) (mc : Nat) (ns : List Int), ns.length ≤ 61 ∧ out = .slice MA ns.length mc ∧ GrowSt w wr b A c xs 2 1 nC MA mc ns) (fun out _ => 61 - lenOf out)
          case atStart => exact ⟨LA, lc, ms, by omega, rfl, HL2.out⟩
          case round =>
            obtain ⟨MA, mc, ns, hnl, rfl, hM⟩ := hrel
            have HM1 := Lib.hid hM; clear hM
            go_wp2_with fail
            refine (HN.out _ 2 (by omega) HM1.out.feed).mono ?_
            rintro e w4 ⟨v4, rfl, c0, c1, _, hS, hO⟩
            have HM2 := Lib.hid (HM1.out.turn (HM1.out.feed.turn hS hO) hO)
            have c1 := c1 (by omega)
            have s4 := HM2.out.old.size
            clear hS hO HM1
            by_cases hlt3 : (ns.length : Int) < 60 + v4
            · have hnl2 : ns.length ≤ 60 := by omega
              go_wp2_with (at_builtin; refine wpList_append_el rfl _ _ _ rfl w.heap.size 2 (.int .i64 0) 1 8 Try.underlying38 infoInt64 rfl (by omega) (by omega) nC ns (sz) MA mc rfl (HM2.out.own.keep (balloc _ _)) w4.heap.size _ rfl rfl (one_cell (by go_simp)) (by simp [nC]; rfl) (by omega) (by simp; omega) ?_)
              intro A6 c6 w6 hown6 _ hb6
              have HM4 := Lib.hid (HM2.out.grow hown6 hb6)
              clear hown6 hb6
              go_wp2_with fail
              exact ⟨⟨A6, c6, ns ++ [sz], by simp; omega, by simp, HM4.out⟩, by simp [lenOf]; omega⟩
            · go_wp2_with fail
              go_ret
              exact HM2.out.drawn HJL.out (by omega) (fun _ _ => trivial)
        · have hvb : (v2 == 0) = false := by simp [hv]
          have hvb1 : (v2 == 1) = false := by simp [hv1]
          clear hv hv1
          go_wp2_with fail
          go_ret
          exact HL2.out.drawn HJL.out (by omega) (fun _ _ => trivial)

def GivenBalls (w : World) (e : Ending) (w' : World) : Prop := ∃ (BA : Option Addr) (bc : Nat) (bs : List Int) (n tol : Int), e = .returned (.tuple #[.slice BA bs.length bc, .int .i64 n, .int .i64 tol]) ∧ Flat w' w.heap.size w'.heap.size 2 1 nC BA bs ∧ bs.length ≤ bc ∧ bs.length ≤ 64 ∧ Below w.heap.size w w'
set_option maxHeartbeats 2000000 in
theorem DrawPickSet_any (A : Option Addr) (c : Nat) (xs : List Int) (w : World) (hr : Rd w w.heap.size 1 uC A xs) (hx : ∀ x ∈ xs, 0 ≤ x ∧ x < 256) (hm : xs.length ≤ 4096) :
    Calls Try.prog 21 #[.slice A xs.length c] w (GivenBalls w) := by
  have HS := Lib.hid (l01From_any A c xs w hr hx hm)
  have HFd : Hid (∀ (v : World) (b : Nat), Src v b A c xs → w.heap.size ≤ b → Below w.heap.size w v → Feed v b A c xs) := fun v b h1 h2 h3 => ⟨h1, (hr.below h3).more h2, hx, hm⟩
  have HB : Hid (∀ (v : World) (b : Nat), Feed v b A c xs → Calls Try.prog 73 #[.pointer (some ⟨b, 0, none⟩)] v (DrawnList 64 2 1 nC (fun _ => True) v b A c xs)) := fun v b h => l15DrawBalls_any A c b xs v h
  have HN : Hid (∀ (v : World) (b : Nat) (n : Int), n < 20000 → Feed v b A c xs → Calls Try.prog 75 #[.pointer (some ⟨b, 0, none⟩), .int .i64 n] v (Drawn v b A c xs n)) := fun v b n hn h => l01Next_any A c b xs n v h.src h.rd h.byte h.small (by omega)
  have HP3 : Hid (∀ (v : World) (b : Nat) (ys : List Int), 0 < ys.length → ys.length ≤ 1000 → Feed v b A c xs → Calls Try.prog 74 #[.pointer (some ⟨b, 0, none⟩), .slice (some ⟨v.heap.size, 0, none⟩) ys.length ys.length] (v.alloc (.cells (ys.map (Value.int .i64)).toArray 2)) (PickHit v b A c xs ys)) := fun v b ys h0 h1 h => pick_next A c b xs v 2 ys h0 h1 h
  clear hr hx
  go_enter Try.func21, Try.ntmps21
  go_wp2_with fail
  refine HS.out.mono ?_
  rintro e w1 ⟨b, rfl, hS, hbl, hb1⟩
  have HF1 := Lib.hid (HFd.out w1 b hS hbl hb1)
  have hlt1 := hS.lt
  clear hS HS HFd
  go_wp2_with fail
  refine (HB.out w1 b HF1.out).mono ?_
  rintro e w2 ⟨BA, bc, bs, rfl, fb, hbc, hbs, _, hF2, hO2⟩
  have hb1s := hb1.size
  have HF2 := Lib.hid hF2
  have HR := Lib.hid fb
  have hb2 : Below w.heap.size w w2 := hb1.trans (hO2.below (by omega) (by omega))
  have z2 := hO2.size
  clear hF2 fb HB HF1 hO2 hb1
  have HP4 := Lib.hid (HP3.out w2 b [3, 4, 5, 9, 40, 2, 41] (by simp) (by simp) HF2.out)
  go_wp2_with fail
  refine HP4.out.mono ?_
  rintro e w3 ⟨n, _, rfl, hF3, hO3⟩
  have HF3 := Lib.hid hF3
  have HR3 := Lib.hid (HR.out.only hO3 (Nat.le_refl _) (Or.inr (by omega)))
  have hb3 : Below w.heap.size w w3 := hb2.trans (hO3.below (by omega) (by omega))
  have z3 := hO3.size
  clear hF3 hO3 HR HF2 HP4 hb2
  go_wp2_with fail
  refine (HN.out w3 b 20 (by omega) HF3.out).mono ?_
  rintro e w4 ⟨t, rfl, t0, t1, _, hS, hO⟩
  have HF4 := Lib.hid (HF3.out.turn hS hO)
  have HR4 := Lib.hid (HR3.out.only hO (by omega) (Or.inr (by omega)))
  have hb4 : Below w.heap.size w w4 := hb3.trans (hO.below (by omega) (by omega))
  have z4 := hO.size
  clear hS hO HR3 HF3 hb3
  have HP5 := Lib.hid (HP3.out w4 b [t, 5, 0, 1000, 1001] (by simp) (by simp) HF4.out)
  go_wp2_with fail
  refine HP5.out.mono ?_
  rintro e w5 ⟨tol, _, rfl, hF5, hO5⟩
  have HR5 := Lib.hid ((HR4.out.only hO5 (by omega) (Or.inr (by omega))).mono hb1s (show w2.heap.size ≤ w5.heap.size by have := hO5.size; omega))
  have hb5 : Below w.heap.size w w5 := hb4.trans (hO5.below (by omega) (by omega))
  clear hF5 hO5 HR4 HF4 HP5
  go_wp2_with fail
  refine bodyPost_ret (v := .tuple #[.slice BA bs.length bc, .int .i64 n, .int .i64 tol]) (by simp [results, Try.results21, go_sem]) rfl ?_
  exact ⟨BA, bc, bs, n, tol, rfl, HR5.out, hbc, hbs, hb5⟩
end Go.Proofs.Ytfdnpobppelhaaa
