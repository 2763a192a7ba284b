/- DERIVED. The law on what makes tubes. -/
import Derived.Test.YtmeanlilmbfmkaaTubes
namespace Go.Proofs.Ytmeanlilmbfmkaa
open Go.RowKit Go.ChangeShapes Go.WideShapes Go.ChangeAt Go.Joins Go.Deep

set_option maxHeartbeats 400000 in
theorem law_FnExactAreTubes (A : Option Addr) (c : Nat) (xs : List (Int × Int)) (w : World) (hr : xs.length ≤ maxLen ∧ (∀ x ∈ xs, (fun _ => True) x) ∧ Rd w w.heap.size 2 tubeC A xs) :
    Calls Try.prog 7 #[.slice A xs.length c] w fun e w' => e = .returned (.bool true) ∧ Below w.heap.size w w' := by
  obtain ⟨hm, _, hr⟩ := hr
  unfold maxLen at hm
  by_cases hs : xs.length ≤ 1048576
  · have hsz : (if (1048576 : Int) - xs.length < 0 then -1 else (1048576 : Int) - xs.length) = (1048576 : Int) - xs.length := if_neg (by omega)
    go_enter Try.func7, Try.ntmps7
    go_wp2_with fail
    refine (szTubeS_any A xs.length c 1048576 hm (by omega) (by omega) _).mono ?_
    rw [hsz]
    clear hsz
    rintro e w' ⟨rfl, rfl⟩
    go_wp2_with fail
    refine (toTubeS_any A c xs _ hr hs).mono ?_
    rintro e w1 ⟨A1, rfl, hf1, hb1⟩
    go_wp2_with fail
    refine (areTubes_spec A1 _ xs _ hf1.rd hs).mono ?_
    rintro e w2 ⟨rfl, hb2⟩
    have hb12 := bthen hb1 hb2
    go_wp2_with fail
    refine (toTubeS_any A c xs _ ((hr.below hb12).more hb12.size) hs).mono ?_
    rintro e w3 ⟨A3, rfl, hf3, hb3⟩
    have hb13 := bthen hb12 hb3
    go_wp2_with fail
    refine (areTubes_impl A3 _ xs _ hf3.rd hs).mono ?_
    rintro e w4 ⟨rfl, hb4⟩
    have hb14 := bthen hb13 hb4
    go_wp2_with fail
    refine (toTubeS_any A c xs _ ((hr.below hb14).more hb14.size) hs).mono ?_
    rintro e w5 ⟨A5, rfl, hf5, hb5⟩
    have hb15 := bthen hb14 hb5
    go_wp2_with fail
    refine (eqTubeS_any A3 A5 _ _ xs xs _ (((hf3.rd.below hb4).more hb4.size |>.below hb5).more hb5.size) hf5.rd hs).mono ?_
    rw [decide_eq_true (rfl : xs = xs)]
    rintro e w6 ⟨rfl, hb6⟩
    go_wp2_with fail
    go_ret
    exact ⟨rfl, bthen hb15 hb6⟩
  · have hsz : (if (1048576 : Int) - xs.length < 0 then -1 else (1048576 : Int) - xs.length) = -1 := if_pos (by omega)
    go_enter Try.func7, Try.ntmps7
    go_wp2_with fail
    refine (szTubeS_any A xs.length c 1048576 hm (by omega) (by omega) _).mono ?_
    rw [hsz]
    clear hsz
    rintro e w' ⟨rfl, rfl⟩
    go_wp2_with fail
    go_ret
    exact ⟨rfl, Below.refl _ _⟩

set_option maxRecDepth 100000 in
theorem fnExactAreTubes_lifted (os : Os) (started : os.Started) (H : Type) (enc : TypeId × Value → H) :
    ReturnsInHanded {} Try.checked os 7 .any (Rows.fnExactAreTubesSpec.pre6 enc Try.prog Try.f7 Rows.fnExactAreTubesRow.domain false) (Rows.fnExactAreTubesSpec.post enc Try.prog Try.f7 false true false false) := by
  refine returnsInHanded_of_change (C := Try.checked) own started (by kernel_rfl) Try.func7
    (ChangeSpec.witness6 (enc := enc) (C := Try.checked) false ⟨#[], #[.slice none 0 0], []⟩ 8 (by kernel_rfl) (by kernel_rfl) (by kernel_rfl) (by kernel_rfl)) ?_
  intro W base args ds gs before hval0 hW hcnd _
  have hval : ∀ (j : Nat) t v, Try.f7.params[j]? = some t → args[j]? = some v → Value.okWide Try.prog W .any base t v := hval0
  have hlt : ∀ x ∈ before, x.block < W.heap.size := fun x hx => hW.lt x hx
  have hW' := hW
  obtain ⟨p, q, hA0, hV, rfl, hfz, hnd⟩ := hW
  have hA : DataW.TrodAll enc Try.prog W 0 (fun _ => true) true Try.f7.params.toList args.toList ds p := hA0
  rw [Try.params7] at hA hval
  obtain ⟨v0, d0, rfl, rfl, h0⟩ := trodAll_one hA
  obtain ⟨A0, k0, xs0, rfl, hr0⟩ := open_tubes (hval 0 37 v0 rfl rfl) h0
  refine (law_FnExactAreTubes A0 k0 xs0 W hr0).mono fun e W' ⟨he, hb⟩ => ?_
  subst he
  exact ⟨_, rfl, law_post (tb := 4) laidOut (by kernel_rfl) rfl rfl Try.underlying4 hW' rfl hb⟩
theorem fnExactAreTubes_closed : joinedFacts Try.prog 7 Try.f7 Rows.fnExactAreTubesSpec Rows.fnExactAreTubesRow = true := by
  unfold joinedFacts; rw [mayEnter_yes, liftsFinal_no, make_cut]; kernel_rfl
theorem fnExactAreTubes_holds : Rows.FnExactAreTubesSaid :=
  OpenClaim.holds_of_wide 7 Try.f7 rfl rfl rfl rfl rfl rfl rfl ⟨rfl, rfl, rfl, rfl, rfl⟩ rfl rfl rfl rfl rfl (by kernel_rfl) Try.func7 fnExactAreTubes_closed
    (of_decide_eq_true (by kernel_rfl)) (by unfold Func.isWrapper; rw [if_neg (of_decide_eq_false (by kernel_rfl))]; exact ⟨rfl, rfl⟩)
    (fun os started H enc _ => fnExactAreTubes_lifted os started H enc)
#print axioms fnExactAreTubes_holds

end Go.Proofs.Ytmeanlilmbfmkaa
