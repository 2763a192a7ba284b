/- DERIVED. The laws on the error of a frame and on closed frames. -/
import Derived.Test.YtenejfhbcpkfdaaFrames
namespace Go.Proofs.Ytenejfhbcpkfdaa
set_option maxRecDepth 100000
open Go.RowKit Go.ChangeShapes Go.WideShapes Go.ChangeAt Go.Joins Go.Deep

set_option maxHeartbeats 400000 in
theorem law_FnExactErrorOf (A : Option Addr) (c : Nat) (xs : List (Int × Int)) (w : World) (hr : xs.length ≤ maxLen ∧ (∀ x ∈ xs, (fun _ => True) x) ∧ Rd w w.heap.size 2 tubeC A xs) :
    Calls Try.prog 3 #[.slice A xs.length c] w fun e w' => e = .returned (.bool true) ∧ Below w.heap.size w w' := by
  obtain ⟨hm, _, hr⟩ := hr
  unfold maxLen at hm
  by_cases hs : xs.length ≤ 1048576
  · have hsz : (if (1048576 : Int) - xs.length < 0 then -1 else (1048576 : Int) - xs.length) = (1048576 : Int) - xs.length := if_neg (by omega)
    go_enter Try.func3, Try.ntmps3
    go_wp2_with fail
    refine (szTubeS_any A xs.length c 1048576 hm (by omega) (by omega) _).mono ?_
    rw [hsz]
    clear hsz
    rintro e w' ⟨rfl, rfl⟩
    go_wp2_with fail
    refine (toTubeS_any A c xs _ hr hs).mono ?_
    rintro e w1 ⟨A1, rfl, hf1, hb1⟩
    go_wp2_with fail
    refine (ErrorOf_spec A1 _ xs _ hf1.rd hs).mono ?_
    rintro e w2 ⟨rfl, hb2⟩
    have hb12 := bthen hb1 hb2
    go_wp2_with fail
    refine (toTubeS_any A c xs _ ((hr.below hb12).more hb12.size) hs).mono ?_
    rintro e w3 ⟨A3, rfl, hf3, hb3⟩
    have hb13 := bthen hb12 hb3
    go_wp2_with fail
    refine (ErrorOf_impl A3 _ xs _ hf3.rd hs).mono ?_
    rintro e w4 ⟨rfl, hb4⟩
    have hb14 := bthen hb13 hb4
    go_wp2_with fail
    refine (toTubeS_any A c xs _ ((hr.below hb14).more hb14.size) hs).mono ?_
    rintro e w5 ⟨A5, rfl, hf5, hb5⟩
    have hb15 := bthen hb14 hb5
    go_wp2_with fail
    refine (eqTubeS_any A3 A5 _ _ xs xs _ (((hf3.rd.below hb4).more hb4.size |>.below hb5).more hb5.size) hf5.rd hs).mono ?_
    rw [decide_eq_true (rfl : xs = xs)]
    rintro e w6 ⟨rfl, hb6⟩
    go_wp2_with fail
    go_ret
    exact ⟨rfl, bthen hb15 hb6⟩
  · have hsz : (if (1048576 : Int) - xs.length < 0 then -1 else (1048576 : Int) - xs.length) = -1 := if_pos (by omega)
    go_enter Try.func3, Try.ntmps3
    go_wp2_with fail
    refine (szTubeS_any A xs.length c 1048576 hm (by omega) (by omega) _).mono ?_
    rw [hsz]
    clear hsz
    rintro e w' ⟨rfl, rfl⟩
    go_wp2_with fail
    go_ret
    exact ⟨rfl, Below.refl _ _⟩

set_option maxRecDepth 100000 in
theorem fnExactErrorOf_lifted (os : Os) (started : os.Started) (H : Type) (enc : TypeId × Value → H) :
    ReturnsInHanded {} Try.checked os 3 .any (Rows.fnExactErrorOfSpec.pre6 enc Try.prog Try.f3 Rows.fnExactErrorOfRow.domain false) (Rows.fnExactErrorOfSpec.post enc Try.prog Try.f3 false true false false) := by
  refine returnsInHanded_of_change (C := Try.checked) own started (by kernel_rfl) Try.func3
    (ChangeSpec.witness6 (enc := enc) (C := Try.checked) false ⟨#[], #[.slice none 0 0], []⟩ 8 (by kernel_rfl) (by kernel_rfl) (by kernel_rfl) (by kernel_rfl)) ?_
  intro W base args ds gs before hval0 hW hcnd _
  have hval : ∀ (j : Nat) t v, Try.f3.params[j]? = some t → args[j]? = some v → Value.okWide Try.prog W .any base t v := hval0
  have hlt : ∀ x ∈ before, x.block < W.heap.size := fun x hx => hW.lt x hx
  have hW' := hW
  obtain ⟨p, q, hA0, hV, rfl, hfz, hnd⟩ := hW
  have hA : DataW.TrodAll enc Try.prog W 0 (fun _ => true) true Try.f3.params.toList args.toList ds p := hA0
  rw [Try.params3] at hA hval
  obtain ⟨v0, d0, rfl, rfl, h0⟩ := trodAll_one hA
  obtain ⟨A0, k0, xs0, rfl, hr0⟩ := open_tubes (hval 0 22 v0 rfl rfl) h0
  refine (law_FnExactErrorOf A0 k0 xs0 W hr0).mono fun e W' ⟨he, hb⟩ => ?_
  subst he
  exact ⟨_, rfl, law_post (tb := 4) laidOut (by kernel_rfl) rfl rfl Try.underlying4 hW' rfl hb⟩
theorem fnExactErrorOf_closed : joinedFacts Try.prog 3 Try.f3 Rows.fnExactErrorOfSpec Rows.fnExactErrorOfRow = true := by
  unfold joinedFacts; rw [mayEnter_yes, liftsFinal_no, make_cut]; kernel_rfl
theorem fnExactErrorOf_holds : Rows.FnExactErrorOfSaid :=
  OpenClaim.holds_of_wide 3 Try.f3 rfl rfl rfl rfl rfl rfl rfl ⟨rfl, rfl, rfl, rfl, rfl⟩ rfl rfl rfl rfl rfl (by kernel_rfl) Try.func3 fnExactErrorOf_closed
    (of_decide_eq_true (by kernel_rfl)) (by unfold Func.isWrapper; rw [if_neg (of_decide_eq_false (by kernel_rfl))]; exact ⟨rfl, rfl⟩)
    (fun os started H enc _ => fnExactErrorOf_lifted os started H enc)
#print axioms fnExactErrorOf_holds

set_option maxHeartbeats 400000 in
theorem law_FnExactIsClosed (A : Option Addr) (c : Nat) (xs : List (Int × Int)) (w : World) (hr : xs.length ≤ maxLen ∧ (∀ x ∈ xs, (fun _ => True) x) ∧ Rd w w.heap.size 2 tubeC A xs) :
    Calls Try.prog 4 #[.slice A xs.length c] w fun e w' => e = .returned (.bool true) ∧ Below w.heap.size w w' := by
  obtain ⟨hm, _, hr⟩ := hr
  unfold maxLen at hm
  by_cases hs : xs.length ≤ 1048576
  · have hsz : (if (1048576 : Int) - xs.length < 0 then -1 else (1048576 : Int) - xs.length) = (1048576 : Int) - xs.length := if_neg (by omega)
    go_enter Try.func4, Try.ntmps4
    go_wp2_with fail
    refine (szTubeS_any A xs.length c 1048576 hm (by omega) (by omega) _).mono ?_
    rw [hsz]
    clear hsz
    rintro e w' ⟨rfl, rfl⟩
    go_wp2_with fail
    refine (toTubeS_any A c xs _ hr hs).mono ?_
    rintro e w1 ⟨A1, rfl, hf1, hb1⟩
    go_wp2_with fail
    refine (IsClosed_spec A1 _ xs _ hf1.rd hs).mono ?_
    rintro e w2 ⟨rfl, hb2⟩
    have hb12 := bthen hb1 hb2
    go_wp2_with fail
    refine (toTubeS_any A c xs _ ((hr.below hb12).more hb12.size) hs).mono ?_
    rintro e w3 ⟨A3, rfl, hf3, hb3⟩
    have hb13 := bthen hb12 hb3
    go_wp2_with fail
    refine (IsClosed_impl A3 _ xs _ hf3.rd hs).mono ?_
    rintro e w4 ⟨rfl, hb4⟩
    have hb14 := bthen hb13 hb4
    go_wp2_with fail
    refine (toTubeS_any A c xs _ ((hr.below hb14).more hb14.size) hs).mono ?_
    rintro e w5 ⟨A5, rfl, hf5, hb5⟩
    have hb15 := bthen hb14 hb5
    go_wp2_with fail
    refine (eqTubeS_any A3 A5 _ _ xs xs _ (((hf3.rd.below hb4).more hb4.size |>.below hb5).more hb5.size) hf5.rd hs).mono ?_
    rw [decide_eq_true (rfl : xs = xs)]
    rintro e w6 ⟨rfl, hb6⟩
    go_wp2_with fail
    go_ret
    exact ⟨rfl, bthen hb15 hb6⟩
  · have hsz : (if (1048576 : Int) - xs.length < 0 then -1 else (1048576 : Int) - xs.length) = -1 := if_pos (by omega)
    go_enter Try.func4, Try.ntmps4
    go_wp2_with fail
    refine (szTubeS_any A xs.length c 1048576 hm (by omega) (by omega) _).mono ?_
    rw [hsz]
    clear hsz
    rintro e w' ⟨rfl, rfl⟩
    go_wp2_with fail
    go_ret
    exact ⟨rfl, Below.refl _ _⟩

set_option maxRecDepth 100000 in
theorem fnExactIsClosed_lifted (os : Os) (started : os.Started) (H : Type) (enc : TypeId × Value → H) :
    ReturnsInHanded {} Try.checked os 4 .any (Rows.fnExactIsClosedSpec.pre6 enc Try.prog Try.f4 Rows.fnExactIsClosedRow.domain false) (Rows.fnExactIsClosedSpec.post enc Try.prog Try.f4 false true false false) := by
  refine returnsInHanded_of_change (C := Try.checked) own started (by kernel_rfl) Try.func4
    (ChangeSpec.witness6 (enc := enc) (C := Try.checked) false ⟨#[], #[.slice none 0 0], []⟩ 8 (by kernel_rfl) (by kernel_rfl) (by kernel_rfl) (by kernel_rfl)) ?_
  intro W base args ds gs before hval0 hW hcnd _
  have hval : ∀ (j : Nat) t v, Try.f4.params[j]? = some t → args[j]? = some v → Value.okWide Try.prog W .any base t v := hval0
  have hlt : ∀ x ∈ before, x.block < W.heap.size := fun x hx => hW.lt x hx
  have hW' := hW
  obtain ⟨p, q, hA0, hV, rfl, hfz, hnd⟩ := hW
  have hA : DataW.TrodAll enc Try.prog W 0 (fun _ => true) true Try.f4.params.toList args.toList ds p := hA0
  rw [Try.params4] at hA hval
  obtain ⟨v0, d0, rfl, rfl, h0⟩ := trodAll_one hA
  obtain ⟨A0, k0, xs0, rfl, hr0⟩ := open_tubes (hval 0 22 v0 rfl rfl) h0
  refine (law_FnExactIsClosed A0 k0 xs0 W hr0).mono fun e W' ⟨he, hb⟩ => ?_
  subst he
  exact ⟨_, rfl, law_post (tb := 4) laidOut (by kernel_rfl) rfl rfl Try.underlying4 hW' rfl hb⟩
theorem fnExactIsClosed_closed : joinedFacts Try.prog 4 Try.f4 Rows.fnExactIsClosedSpec Rows.fnExactIsClosedRow = true := by
  unfold joinedFacts; rw [mayEnter_yes, liftsFinal_no, make_cut]; kernel_rfl
theorem fnExactIsClosed_holds : Rows.FnExactIsClosedSaid :=
  OpenClaim.holds_of_wide 4 Try.f4 rfl rfl rfl rfl rfl rfl rfl ⟨rfl, rfl, rfl, rfl, rfl⟩ rfl rfl rfl rfl rfl (by kernel_rfl) Try.func4 fnExactIsClosed_closed
    (of_decide_eq_true (by kernel_rfl)) (by unfold Func.isWrapper; rw [if_neg (of_decide_eq_false (by kernel_rfl))]; exact ⟨rfl, rfl⟩)
    (fun os started H enc _ => fnExactIsClosed_lifted os started H enc)
#print axioms fnExactIsClosed_holds

end Go.Proofs.Ytenejfhbcpkfdaa
