/- DERIVED. The law on parts without one. -/
import Derived.Test.YtnnamnmmpdgjfaaDrop
import Derived.Test.YtnnamnmmpdgjfaaResPart
import Derived.Test.YtnnamnmmpdgjfaaHead
import Derived.Lib.SmallJoins
import Derived.Deep.Slices
import Derived.Deep.Fields
import Derived.ChangeMaps5
import Derived.Carry
import Derived.Deep.RegionHeld3
namespace Go.Proofs.Ytnnamnmmpdgjfaa
set_option maxRecDepth 100000
open Go.RowKit Go.ChangeShapes Go.WideShapes Go.ChangeAt Go.Joins Go.Deep

theorem keepTo_mem {α β : Type} {p : α → Bool} {g : α → β} {xs : List α} : ∀ (k : Nat) (y : β), y ∈ keepTo p g xs k → ∃ x ∈ xs, y = g x
  | 0, y, h => by simp [keepTo] at h
  | k + 1, y, h => by
    unfold keepTo at h
    split at h
    · rename_i x hx
      split at h
      · rcases List.mem_append.1 h with h | h
        · exact keepTo_mem k y h
        · exact ⟨x, List.mem_of_getElem? hx, by simpa using h⟩
      · exact keepTo_mem k y h
    · exact keepTo_mem k y h
theorem dropR_small (vs : List PartT) (code : ByteArray) (h : SmallV vs) : SmallV (dropR vs code).1 := by
  have h0 : SmallV [] := ⟨by simp, fun _ h => absurd h (by simp)⟩
  unfold dropR
  split
  · split
    · exact h0
    · refine ⟨Nat.le_trans (keepTo_le _ _ _ _) h.1, fun x hx => ?_⟩
      obtain ⟨y, hy, rfl⟩ := keepTo_mem _ _ hx
      exact h.2 _ hy
  · exact h0
set_option maxHeartbeats 1000000 in
theorem law_FnExactDropPart (A0 : Option Addr) (c0 : Nat) (xs0 : List PartT) (s1 : ByteArray) (hs1 : s1.size ≤ maxLen) (w : World) (hr0 : xs0.length ≤ maxLen ∧ (∀ x ∈ xs0, goodV x) ∧ RdV w w.heap.size A0 xs0) :
    Calls Try.prog 7 #[.slice A0 xs0.length c0, .string s1] w fun e w' => e = .returned (.bool true) ∧ Below w.heap.size w w' := by
  obtain ⟨hm0, hg0, hr0⟩ := hr0
  have Hg0 := Lib.hid hg0; clear hg0
  by_cases hz1 : 1048576 < s1.size
  · unfold maxLen at hs1
    go_enter Try.func7, Try.ntmps7
    go_wp2_with fail
    go_ret
    exact ⟨rfl, Below.refl _ _⟩
  unfold maxLen at hs1
  go_enter Try.func7, Try.ntmps7
  go_wp2_with fail
  have hbW := Below.refl w.heap.size w
  have sz0 := Nat.le_refl w.heap.size
  refine (szPartS_k A0 c0 xs0 1048576 _ ((hr0.below hbW).more hbW.size) hm0 Hg0.out (by omega) (by omega)).mono ?_
  rintro e w1 ⟨r1, rfl, hq1, hb1⟩
  have sz1 := hb1.size
  replace hbW := bthen' hbW hb1
  rcases hq1 with rfl | ⟨hq1, hl1, hS0⟩
  · go_wp2_with fail
    go_ret
    exact ⟨rfl, hbW⟩
  have HS0 := Lib.hid hS0; clear hS0
  go_wp2_with fail
  have hSp := Lib.hid (fun A0' c0' v q0 => DropPart_spec A0' c0' xs0 s1 v q0 HS0.out)
  have hIm := Lib.hid (fun A0' c0' v q0 => DropPart_impl A0' c0' xs0 s1 v q0 HS0.out)
  have hSm := Lib.hid (dropR_small xs0 s1 HS0.out)
  generalize dropR xs0 s1 = res at hSp hIm hSm
  obtain ⟨y0, y1⟩ := res
  have hkv := (kV_bd y0 1 (fun x hx => (hSm.out.2 x hx).2)).1
  refine (toPartS_k A0 c0 xs0 _ ((hr0.below hbW).more hbW.size) HS0.out).mono ?_
  rintro e w2 ⟨aA0, rfl, af0, hb2⟩
  have sz2 := hb2.size
  replace hbW := bthen' hbW hb2
  go_wp2_with fail
  refine (hSp.out aA0 _ _ (af0.rd.more (by omega))).mono ?_
  rintro e w3 ⟨aG, ac, rfl, ag, -, hb3⟩
  have sz3 := hb3.size
  replace hbW := bthen' hbW hb3
  replace af0 := af0.below hb3 (by omega)
  simp only at ag
  go_wp2_with fail
  clear af0
  refine (toPartS_k A0 c0 xs0 _ ((hr0.below hbW).more hbW.size) HS0.out).mono ?_
  rintro e w4 ⟨bA0, rfl, bf0, hb4⟩
  have sz4 := hb4.size
  replace hbW := bthen' hbW hb4
  replace ag := ag.below hb4 (by omega)
  go_wp2_with fail
  refine (hIm.out bA0 _ _ (bf0.rd.more (by omega))).mono ?_
  rintro e w5 ⟨bG, bc, rfl, bg, -, hb5⟩
  have sz5 := hb5.size
  replace hbW := bthen' hbW hb5
  replace ag := ag.below hb5 (by omega)
  replace bf0 := bf0.below hb5 (by omega)
  simp only at bg
  go_wp2_with fail
  refine (eqPartS_r bG aG _ _ y0 _ (bg.rd.more (by omega)) (ag.rd.more (by omega)) hSm.out).mono ?_
  rintro e w6 ⟨rfl, hb6⟩
  have sz6 := hb6.size
  replace hbW := bthen' hbW hb6
  replace ag := ag.below hb6 (by omega)
  replace bf0 := bf0.below hb6 (by omega)
  replace bg := bg.below hb6 (by omega)
  go_wp2_with fail
  refine (toPartS_k A0 c0 xs0 _ ((hr0.below hbW).more hbW.size) HS0.out).mono ?_
  rintro e w7 ⟨dA0, rfl, df0, hb7⟩
  have sz7 := hb7.size
  replace hbW := bthen' hbW hb7
  replace ag := ag.below hb7 (by omega)
  replace bf0 := bf0.below hb7 (by omega)
  replace bg := bg.below hb7 (by omega)
  go_wp2_with fail
  refine (eqPartS_k bA0 dA0 _ _ xs0 _ (bf0.rd.more (by omega)) (df0.rd.more (by omega)) HS0.out).mono ?_
  rintro e w8 ⟨rfl, hb8⟩
  have sz8 := hb8.size
  replace hbW := bthen' hbW hb8
  replace ag := ag.below hb8 (by omega)
  replace bf0 := bf0.below hb8 (by omega)
  replace bg := bg.below hb8 (by omega)
  clear df0
  go_wp2_with fail
  refine (markPartS_k bA0 _ xs0 1 _ _ _ bf0 HS0.out (by omega) (by omega)).mono ?_
  rintro e w9 ⟨k9, rfl, kl9, ku9, ho9⟩
  have sz9 := ho9.size
  clear bf0
  replace hbW := hbW.trans (ho9.below (B := w.heap.size) (by omega) (by omega))
  replace ag := ag.only ho9 (by omega) (by omega)
  replace bg := bg.only ho9 (by omega) (by omega)
  go_wp2_with fail
  refine (eqPartS_r bG aG _ _ y0 _ (bg.rd.more (by omega)) (ag.rd.more (by omega)) hSm.out).mono ?_
  rintro e w10 ⟨rfl, hb10⟩
  have sz10 := hb10.size
  replace hbW := bthen' hbW hb10
  replace ag := ag.below hb10 (by omega)
  replace bg := bg.below hb10 (by omega)
  go_wp2_with fail
  refine (markPartS_r bG _ y0 _ _ _ bg hSm.out).mono ?_
  rintro e w11 ⟨rfl, ho11, mg⟩
  have sz11 := ho11.size
  clear bg
  replace hbW := hbW.trans (ho11.below (B := w.heap.size) (by omega) (by omega))
  replace ag := ag.only ho11 (by omega) (by omega)
  go_wp2_with fail
  refine (heldPartS_r bG _ y0 _ _ _ mg (by omega) hSm.out).mono ?_
  rintro e w12 ⟨rfl, hb12⟩
  have sz12 := hb12.size
  replace hbW := bthen' hbW hb12
  replace ag := ag.below hb12 (by omega)
  replace mg := mg.below hb12 (by omega)
  go_wp2_with fail
  refine (toPartS_k A0 c0 xs0 _ ((hr0.below hbW).more hbW.size) HS0.out).mono ?_
  rintro e w13 ⟨cA0, rfl, cf0, hb13⟩
  have sz13 := hb13.size
  replace hbW := bthen' hbW hb13
  replace ag := ag.below hb13 (by omega)
  replace mg := mg.below hb13 (by omega)
  go_wp2_with fail
  refine (hIm.out cA0 _ _ (cf0.rd.more (by omega))).mono ?_
  rintro e w14 ⟨cG, cc, rfl, cg, -, hb14⟩
  have sz14 := hb14.size
  replace hbW := bthen' hbW hb14
  replace ag := ag.below hb14 (by omega)
  replace mg := mg.below hb14 (by omega)
  replace cf0 := cf0.below hb14 (by omega)
  simp only at cg
  go_wp2_with fail
  refine (eqPartS_r cG aG _ _ y0 _ (cg.rd.more (by omega)) (ag.rd.more (by omega)) hSm.out).mono ?_
  rintro e w15 ⟨rfl, hb15⟩
  have sz15 := hb15.size
  replace hbW := bthen' hbW hb15
  replace ag := ag.below hb15 (by omega)
  replace mg := mg.below hb15 (by omega)
  replace cf0 := cf0.below hb15 (by omega)
  replace cg := cg.below hb15 (by omega)
  go_wp2_with fail
  refine (heldPartS_r bG _ y0 _ _ _ mg (by omega) hSm.out).mono ?_
  rintro e w16 ⟨rfl, hb16⟩
  have sz16 := hb16.size
  replace hbW := bthen' hbW hb16
  replace ag := ag.below hb16 (by omega)
  replace mg := mg.below hb16 (by omega)
  replace cf0 := cf0.below hb16 (by omega)
  replace cg := cg.below hb16 (by omega)
  go_wp2_with fail
  go_ret
  exact ⟨rfl, hbW⟩

set_option maxRecDepth 100000 in
theorem fnExactDropPart_lifted (os : Os) (started : os.Started) (H : Type) (enc : TypeId × Value → H) :
    ReturnsInHanded {} Try.checked os 7 .any (Rows.fnExactDropPartSpec.pre6 enc Try.prog Try.f7 Rows.fnExactDropPartRow.domain false) (Rows.fnExactDropPartSpec.post enc Try.prog Try.f7 false true false false) := by
  refine returnsInHanded_of_change (C := Try.checked) own started (by kernel_rfl) Try.func7
    (ChangeSpec.witness6 (enc := enc) (C := Try.checked) false ⟨#[], #[.slice none 0 0, .string ⟨#[]⟩], []⟩ 8 (by kernel_rfl) (by kernel_rfl) (by kernel_rfl) (by kernel_rfl)) ?_
  intro W base args ds gs before hval0 hW hcnd _
  have hval : ∀ (j : Nat) t v, Try.f7.params[j]? = some t → args[j]? = some v → Value.okWide Try.prog W .any base t v := hval0
  have hlt : ∀ x ∈ before, x.block < W.heap.size := fun x hx => hW.lt x hx
  have hW' := hW
  obtain ⟨p, q, hA0, hV, rfl, hfz, hnd⟩ := hW
  have hA : DataW.TrodAll enc Try.prog W 0 (fun _ => true) true Try.f7.params.toList args.toList ds p := hA0
  rw [Try.params7] at hA hval
  obtain ⟨v0, v1, d0, d1, p0, p1, rfl, rfl, rfl, h0, h1⟩ := trodAll_two hA
  obtain ⟨A0, k0, xs0, rfl, hr0⟩ := open_partsV (hval 0 33 v0 rfl rfl) h0
  obtain ⟨s1, rfl, -, -, ws1⟩ := Go.ChangeMaps.open_string Try.underlying9 (hval 1 9 v1 rfl rfl) h1
  refine (law_FnExactDropPart A0 k0 xs0 s1 ws1 W hr0).mono fun e W' ⟨he, hb⟩ => ?_
  subst he
  exact ⟨_, rfl, law_post (tb := 4) laidOut (by kernel_rfl) rfl rfl Try.underlying4 hW' rfl hb⟩
theorem fnExactDropPart_closed : joinedFacts Try.prog 7 Try.f7 Rows.fnExactDropPartSpec Rows.fnExactDropPartRow = true := by
  unfold joinedFacts; rw [mayEnter_yes, liftsFinal_no, make_cut]; kernel_rfl
theorem fnExactDropPart_holds : Rows.FnExactDropPartSaid :=
  OpenClaim.holds_of_wide 7 Try.f7 rfl rfl rfl rfl rfl rfl rfl ⟨rfl, rfl, rfl, rfl, rfl⟩ rfl rfl rfl rfl rfl (by kernel_rfl) Try.func7 fnExactDropPart_closed
    (of_decide_eq_true (by kernel_rfl)) (by unfold Func.isWrapper; rw [if_neg (of_decide_eq_false (by kernel_rfl))]; exact ⟨rfl, rfl⟩)
    (fun os started H enc _ => fnExactDropPart_lifted os started H enc)
#print axioms fnExactDropPart_holds

end Go.Proofs.Ytnnamnmmpdgjfaa
