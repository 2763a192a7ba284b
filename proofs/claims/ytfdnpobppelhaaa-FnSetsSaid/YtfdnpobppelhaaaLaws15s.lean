/- DERIVED. The law on sets of balls. By program (laws15s.py). -/
import Derived.Test.YtfdnpobppelhaaaDrawN
import Derived.Test.YtfdnpobppelhaaaPlainN
import Derived.Test.YtfdnpobppelhaaaSetI
import Derived.Test.YtfdnpobppelhaaaSetJ
import Derived.Test.YtfdnpobppelhaaaSetS
import Derived.Test.YtfdnpobppelhaaaSetT
import Derived.Test.YtfdnpobppelhaaaLike2
import Derived.Test.YtfdnpobppelhaaaDLaw
import Derived.Test.YtfdnpobppelhaaaHead
import Derived.Lib.SmallJoins
import Derived.Deep.Slices
import Derived.Deep.Fields
import Derived.ChangeMaps5
import Derived.Carry
namespace Go.Proofs.Ytfdnpobppelhaaa
set_option maxRecDepth 100000
open Go.RowKit Go.ChangeShapes Go.WideShapes Go.ChangeAt Go.Joins Go.Deep

set_option maxHeartbeats 40000000 in
theorem law_FnSets (A : Option Addr) (c : Nat) (xs : List Int) (w : World) (hr : Rd w w.heap.size 1 uC A xs) (hx : ∀ x ∈ xs, 0 ≤ x ∧ x < 256) (hm : xs.length ≤ maxLen) :
    Calls Try.prog 4 #[.slice A xs.length c] w fun e w' => e = .returned (.bool true) ∧ Below w.heap.size w w' := by
  unfold maxLen at hm
  by_cases hbig : (4096 : Int) < xs.length
  · go_enter Try.func4, Try.ntmps4
    go_wp2_with (go_at_call 8; refine (big_k A c xs.length _).mono ?_; rintro e w' ⟨rfl, rfl⟩)
    go_ret
    exact ⟨rfl, Below.refl _ _⟩
  have HBig : Hid (∀ v : World, Calls Try.prog 8 #[.slice A xs.length c] v fun e w' => e = .returned (.bool false) ∧ v = w') := fun v => (big_k A c xs.length v).mono (by rintro e w' ⟨rfl, rfl⟩; exact ⟨by simp only [hbig, decide_false], rfl⟩)
  have HD := Lib.hid (DrawPickSet_any A c xs w hr hx (by omega))
  clear hr hx hbig
  go_enter Try.func4, Try.ntmps4
  go_wp2_with (go_at_call 8; refine (HBig.out _).mono ?_; rintro e w' ⟨rfl, rfl⟩)
  refine HD.out.mono ?_
  rintro e w1 ⟨BA, bc, bs, n, tol, rfl, fb, hbc, hbl, hb1⟩
  have hrv := fb.rd
  have HRb := Lib.hid hrv
  clear HD HBig
  have HPi : Hid (∀ (v : World), Below w1.heap.size w1 v → Calls Try.prog 22 #[.slice BA bs.length bc, .int .i64 n, .int .i64 tol] v (GivesRes v 2 1 nC (pickR bs n tol))) := fun v hv => PickSet_impl BA bc bs n tol v (hrv.next hv) (by omega)
  have HPs : Hid (∀ (v : World), Below w1.heap.size w1 v → Calls Try.prog 23 #[.slice BA bs.length bc, .int .i64 n, .int .i64 tol] v (GivesRes v 2 1 nC (pickR bs n tol))) := fun v hv => PickSet_spec BA bc bs n tol v (hrv.next hv) (by omega)
  have HCi : Hid (∀ (v : World), Below w1.heap.size w1 v → Calls Try.prog 24 #[.slice BA bs.length bc, .int .i64 n, .int .i64 tol] v (fun e w' => e = .returned (.tuple #[.int .i64 (countR bs n tol).1, .int .i64 (countR bs n tol).2]) ∧ Below v.heap.size v w')) := fun v hv => CountSets_impl BA bc bs n tol v (hrv.next hv) (by omega)
  have HCs : Hid (∀ (v : World), Below w1.heap.size w1 v → Calls Try.prog 25 #[.slice BA bs.length bc, .int .i64 n, .int .i64 tol] v (fun e w' => e = .returned (.tuple #[.int .i64 (countR bs n tol).1, .int .i64 (countR bs n tol).2]) ∧ Below v.heap.size v w')) := fun v hv => CountSets_spec BA bc bs n tol v (hrv.next hv) (by omega)
  have HNi : Hid (∀ (v : World), Below w1.heap.size w1 v → Calls Try.prog 26 #[.slice BA bs.length bc, .int .i64 n] v (fun e w' => e = .returned (.tuple #[.int .i64 (needR bs n).1, .int .i64 (needR bs n).2]) ∧ Below v.heap.size v w')) := fun v hv => NeededTolerance_impl BA bc bs n v (hrv.next hv) (by omega)
  have HNs : Hid (∀ (v : World), Below w1.heap.size w1 v → Calls Try.prog 27 #[.slice BA bs.length bc, .int .i64 n] v (fun e w' => e = .returned (.tuple #[.int .i64 (needR bs n).1, .int .i64 (needR bs n).2]) ∧ Below v.heap.size v w')) := fun v hv => NeededTolerance_spec BA bc bs n v (hrv.next hv) (by omega)
  have HSi : Hid (∀ (v : World), Below w1.heap.size w1 v → Calls Try.prog 28 #[.slice BA bs.length bc] v (fun e w' => e = .returned (.tuple #[.int .i64 (spreadR bs).1, .int .i64 (spreadR bs).2]) ∧ Below v.heap.size v w')) := fun v hv => SpreadOfBalls_impl BA bc bs v (hrv.next hv) (by omega)
  have HSs : Hid (∀ (v : World), Below w1.heap.size w1 v → Calls Try.prog 29 #[.slice BA bs.length bc] v (fun e w' => e = .returned (.tuple #[.int .i64 (spreadR bs).1, .int .i64 (spreadR bs).2]) ∧ Below v.heap.size v w')) := fun v hv => SpreadOfBalls_spec BA bc bs v (hrv.next hv) (by omega)
  have HL1 := Lib.hid (count_law (bs := bs) (n := n) (tol := tol))
  have HL2 := Lib.hid (pick_law (bs := bs) (n := n) (tol := tol))
  have HL3 := Lib.hid (pick_one (bs := bs) (n := n) (tol := tol))
  have hpl : (pickR bs n tol).1.length ≤ 64 := Nat.le_trans (pick_len bs n tol) hbl
  clear hrv fb
  generalize pickR bs n tol = PR at HPi HPs HL1 HL2 HL3 hpl
  generalize countR bs n tol = CR at HCi HCs HL1 HL3
  generalize needR bs n = NR at HNi HNs HL1
  generalize spreadR bs = SR at HSi HSs HL2
  obtain ⟨P, bad⟩ := PR
  obtain ⟨cn, one⟩ := CR
  obtain ⟨t, three⟩ := NR
  obtain ⟨s, five⟩ := SR
  try simp only at hpl
  have hb1w1 := Below.refl w1.heap.size w1
  go_wp2_with fail
  refine (HPi.out w1 hb1w1).mono ?_
  rintro e w2 ⟨XA, Xc, rfl, fX, _, hbw2⟩
  try simp only at fX
  have hb1w2 := bthen hb1w1 hbw2
  have HX2 := Lib.hid fX.rd
  clear fX hbw2
  go_wp2_with fail
  refine (HPs.out w2 hb1w2).mono ?_
  rintro e w3 ⟨YA, Yc, rfl, fY, _, hbw3⟩
  try simp only at fY
  have hb1w3 := bthen hb1w2 hbw3
  have HX3 := Lib.hid (HX2.out.next hbw3)
  have HY3 := Lib.hid fY.rd
  clear fY HX2 HPi HPs
  have hb3 := Below.refl w3.heap.size w3
  clear hbw3
  go_wp2_with fail
  refine (HCi.out w3 (bthen hb1w3 hb3)).mono ?_
  rintro e w4 ⟨rfl, hbN⟩
  replace hb3 := bthen hb3 hbN
  clear hbN
  go_wp2_with fail
  refine (HCs.out w4 (bthen hb1w3 hb3)).mono ?_
  rintro e w5 ⟨rfl, hbN⟩
  replace hb3 := bthen hb3 hbN
  clear hbN
  go_wp2_with fail
  refine (HNi.out w5 (bthen hb1w3 hb3)).mono ?_
  rintro e w6 ⟨rfl, hbN⟩
  replace hb3 := bthen hb3 hbN
  clear hbN
  go_wp2_with fail
  refine (HNs.out w6 (bthen hb1w3 hb3)).mono ?_
  rintro e w7 ⟨rfl, hbN⟩
  replace hb3 := bthen hb3 hbN
  clear hbN
  go_wp2_with fail
  refine (HSi.out w7 (bthen hb1w3 hb3)).mono ?_
  rintro e w8 ⟨rfl, hbN⟩
  replace hb3 := bthen hb3 hbN
  clear hbN
  go_wp2_with fail
  refine (HSs.out w8 (bthen hb1w3 hb3)).mono ?_
  rintro e w9 ⟨rfl, hbN⟩
  replace hb3 := bthen hb3 hbN
  clear hbN
  clear HCi HCs HNi HNs HSi HSs
  have HX9 := Lib.hid (HX3.out.next hb3)
  have HY9 := Lib.hid (HY3.out.next hb3)
  have hb19 := bthen hb1w3 hb3
  have HK : Hid (Calls Try.prog 30 #[.slice XA P.length Xc, .slice YA P.length Yc] w9 fun e w' => e = .returned (.bool true) ∧ Below w9.heap.size w9 w') := likeInts_k XA YA Xc Yc P w9 HX9.out HY9.out (by omega)
  go_wp2_with fail
  refine HK.out.mono ?_
  rintro e w10 ⟨rfl, hb10⟩
  have hb110 := bthen hb19 hb10
  have HX := Lib.hid (HX9.out.next hb10)
  have HY := Lib.hid (HY9.out.next hb10)
  have HB := Lib.hid (HRb.out.next hb110)
  clear HX3 HY3 HX9 HY9 HK HRb hb19 hb10 hb3 hb1w2 hb1w1
  by_cases hbad : bad = 0
  · have hone := HL3.out hbad
    try simp only at hone
    subst hbad
    subst hone
    obtain ⟨e1, e2, e3, e4, e5⟩ := HL1.out rfl
    obtain ⟨hbB, p1, p2, ⟨lo, hi, p3, p4, p5⟩, p6⟩ := HL2.out rfl
    try simp only at e1 e2 e3 e5 p1 p4 p5 p6
    have hcn : 0 < cn := e1.2 (by trivial)
    obtain ⟨h3, htt⟩ := e5.1 (by trivial)
    try simp only at h3 htt
    subst h3
    have HP5 := Lib.hid p5
    have HP6 := Lib.hid p6
    clear HL1 HL2 HL3 e1 e5 p5 p6
    generalize hpr : cn * n = pr at e3
    have hp0 : 0 ≤ pr := by rw [← hpr]; exact Int.mul_nonneg e2 (by omega)
    have hw1 : IntKind.i64.wrap (cn * n) = pr := by rw [hpr]; exact IntWalk.i64_in _ (by omega)
    clear hpr
    have h0 : P[0]? = some P[0] := List.getElem?_eq_getElem (by omega)
    obtain ⟨j0, y0, f1, f2, f3, f4, f5, f6⟩ := HP5.out _ (List.mem_of_getElem? h0)
    obtain ⟨yb, yo, rfl, _, c1⟩ := HY.out.at1 h0 rfl
    obtain ⟨bb, bo, rfl, _, c2⟩ := HB.out.at1 f2 rfl
    have hj0 := (List.getElem?_eq_some_iff.1 f2).1
    rw [f1] at c1
    rw [Nat.zero_mul, Nat.add_zero] at c1
    rw [Nat.mul_one] at c2
    have hP0 : 0 < P.length := by omega
    clear h0 f1 f2
    go_wp2_with fail
    go_quiet (fail)
    have hbq : Below w10.heap.size w10 (w10.drewN nq) := below_drewN (Below.refl _ _) _
    generalize w10.drewN nq = wq at hbq ⊢
    go_wp2_with fail
    go_loopw [22, 23, 24] (fun lw hg x wr => ∃ (l h : Int) (i : Nat), i ≤ P.length ∧ x = .int .i64 i ∧ lw = .int .i64 l ∧ hg = .int .i64 h ∧ lo ≤ l ∧ h ≤ hi ∧ 1000 ≤ l ∧ l ≤ 20000 ∧ 1000 ≤ h ∧ h ≤ 20000 ∧ Below w10.heap.size w10 wr) (fun _ _ x _ => P.length - (intOf x).toNat)
    case atStart => exact ⟨y0, y0, 0, Nat.zero_le _, rfl, rfl, rfl, f3, f4, f5, f6, f5, f6, hbq⟩
    case round =>
      obtain ⟨l, h, i, hil, rfl, rfl, rfl, g1, g2, g3, g4, g5, g6, hbk⟩ := hrel
      by_cases hlt : i < P.length
      · have hxi : P[i]? = some P[i] := List.getElem?_eq_getElem hlt
        obtain ⟨j, y, k1, k2, k3, k4, k5, k6⟩ := HP5.out _ (List.mem_of_getElem? hxi)
        obtain ⟨xb, xo, rfl, _, d1⟩ := (HX.out.next hbk).at1 hxi rfl
        have d2 := (HB.out.next hbk).at1' k2
        have hj := (List.getElem?_eq_some_iff.1 k2).1
        rw [k1] at d1
        rw [Nat.mul_one] at d1
        by_cases hi0 : i = 0
        · subst hi0
          rw [Nat.add_zero] at d1
          clear hxi k1 k2
          rcases Int.lt_or_le y l with hm1 | hm1 <;> rcases Int.lt_or_le h y with hm2 | hm2
          all_goals
            go_wp2_with fail
            go_quiet (fail)
            go_wp2_with fail
            exact ⟨⟨_, _, 1, by omega, by go_num, rfl, rfl, by first | omega | (split <;> omega), by first | omega | (split <;> omega), by first | omega | (split <;> omega), by first | omega | (split <;> omega), by first | omega | (split <;> omega), by first | omega | (split <;> omega), below_drewN hbk _⟩, by simp [intOf]; omega⟩
        · obtain ⟨i, rfl⟩ : ∃ q, i = q + 1 := ⟨i - 1, by omega⟩
          have hxp : P[i]? = some P[i] := List.getElem?_eq_getElem (by omega)
          have hlt2 := HP6.out i _ _ hxp hxi
          have d3 := (HX.out.next hbk).at1' hxp
          rw [k1] at hlt2
          generalize P[i] = pv at hlt2 d3
          clear hxi hxp k1 k2
          have hw2 : IntKind.i64.wrap (((i + 1 : Nat) : Int) - 1) = (i : Int) := by rw [show ((i + 1 : Nat) : Int) - 1 = (i : Int) by omega]; exact IntWalk.i64_in _ (by omega)
          have hw3 : IntKind.i64.wrap ((i : Int) + 1 - 1) = (i : Int) := by rw [show (i : Int) + 1 - 1 = (i : Int) by omega]; exact IntWalk.i64_in _ (by omega)
          have hi4 : i < P.length := by omega
          have hi5 : (0 : Int) < (i : Int) + 1 := by omega
          have hcm : ¬ (j : Int) ≤ pv := by omega
          rcases Int.lt_or_le y l with hm1 | hm1 <;> rcases Int.lt_or_le h y with hm2 | hm2
          all_goals
            go_wp2_with fail
            go_quiet (fail)
            go_wp2_with fail
            exact ⟨⟨_, _, i + 2, by omega, by go_num, rfl, rfl, by first | omega | (split <;> omega), by first | omega | (split <;> omega), by first | omega | (split <;> omega), by first | omega | (split <;> omega), by first | omega | (split <;> omega), by first | omega | (split <;> omega), below_drewN hbk _⟩, by simp [intOf]; omega⟩
      · have hw4 : IntKind.i64.wrap (h - l) = h - l := IntWalk.i64_in _ (by omega)
        have hle1 : h - l ≤ tol := by omega
        have hle2 : h - l ≤ s := by omega
        have hpn : ((P.length : Int) == n) = true := by simp [p1]
        go_wp2_with fail
        go_ret
        exact ⟨ret_bool (by simp), hb1.trans ((bthen hb110 hbk).mono hb1.size)⟩
  · have hbb : (bad == 0) = false := by simp [hbad]
    by_cases h1 : one = 0
    · subst h1
      obtain ⟨e1, e2, e3, e4, e5⟩ := HL1.out rfl
      try simp only at e1 e2 e3 e5
      have hcn : ¬ 0 < cn := fun h => hbad (e1.1 h)
      obtain rfl : cn = 0 := by omega
      have hno : ¬ (three = 0 ∧ t ≤ tol) := fun h => hbad (e5.2 h)
      clear HL1 HL2 HL3 e1 e5 hbad hcn e2 e3
      by_cases h3 : three = 0
      · subst h3
        have htt : ¬ t ≤ tol := fun h => hno ⟨rfl, h⟩
        clear hno
        go_wp2_with fail
        go_ret
        exact ⟨rfl, hb1.trans (hb110.mono hb1.size)⟩
      · have h3b : (three == 0) = false := by simp [h3]
        clear hno h3
        go_wp2_with fail
        go_ret
        exact ⟨rfl, hb1.trans (hb110.mono hb1.size)⟩
    · have h1b : (one == 0) = false := by simp [h1]
      clear HL1 HL2 HL3 h1 hbad
      go_wp2_with fail
      go_ret
      exact ⟨rfl, hb1.trans (hb110.mono hb1.size)⟩

set_option maxRecDepth 100000 in
theorem fnSets_lifted (os : Os) (started : os.Started) (H : Type) (enc : TypeId × Value → H) :
    ReturnsInHanded {} Try.checked os 4 .any (Rows.fnSetsSpec.pre6 enc Try.prog Try.f4 Rows.fnSetsRow.domain false) (Rows.fnSetsSpec.post enc Try.prog Try.f4 false true false false) := by
  refine returnsInHanded_of_change (C := Try.checked) own started (by kernel_rfl) Try.func4
    (ChangeSpec.witness6 (enc := enc) (C := Try.checked) false ⟨#[], #[.slice none 0 0], []⟩ 8 (by kernel_rfl) (by kernel_rfl) (by kernel_rfl) (by kernel_rfl)) ?_
  intro W base args ds gs before hval0 hW hcnd _
  have hval : ∀ (j : Nat) t v, Try.f4.params[j]? = some t → args[j]? = some v → Value.okWide Try.prog W .any base t v := hval0
  have hlt : ∀ x ∈ before, x.block < W.heap.size := fun x hx => hW.lt x hx
  have hW' := hW
  obtain ⟨p, q, hA0, hV, rfl, hfz, hnd⟩ := hW
  have hA : DataW.TrodAll enc Try.prog W 0 (fun _ => true) true Try.f4.params.toList args.toList ds p := hA0
  rw [Try.params4] at hA hval
  obtain ⟨v0, d0, rfl, rfl, h0⟩ := trodAll_one hA
  obtain ⟨A, c, xs, rfl, hm, hx, hr⟩ := open_bytes (hval 0 22 v0 rfl rfl) h0
  refine (law_FnSets A c xs W hr hx hm).mono fun e W' ⟨he, hb⟩ => ?_
  subst he
  exact ⟨_, rfl, law_post (tb := 4) laidOut (by kernel_rfl) rfl rfl Try.underlying4 hW' rfl hb⟩
theorem fnSets_closed : joinedFacts Try.prog 4 Try.f4 Rows.fnSetsSpec Rows.fnSetsRow = true := by
  unfold joinedFacts; rw [mayEnter_yes, liftsFinal_no, make_cut]; kernel_rfl
theorem fnSets_holds : Rows.FnSetsSaid :=
  OpenClaim.holds_of_wide 4 Try.f4 rfl rfl rfl rfl rfl rfl rfl ⟨rfl, rfl, rfl, rfl, rfl⟩ rfl rfl rfl rfl rfl (by kernel_rfl) Try.func4 fnSets_closed
    (of_decide_eq_true (by kernel_rfl)) (by unfold Func.isWrapper; rw [if_neg (of_decide_eq_false (by kernel_rfl))]; exact ⟨rfl, rfl⟩)
    (fun os started H enc _ => fnSets_lifted os started H enc)
#print axioms fnSets_holds

end Go.Proofs.Ytfdnpobppelhaaa
