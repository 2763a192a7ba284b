/- DERIVED. The law on a port read of its text. -/
import Derived.Test.YtlhbjgbkpjlacaaReadP2
import Derived.Test.YtlhbjgbkpjlacaaFlPort
import Derived.Test.YtlhbjgbkpjlacaaHead
import Derived.Lib.SmallJoins
import Derived.Deep.Slices
import Derived.Deep.Fields
import Derived.ChangeMaps5
import Derived.Carry
import Derived.Deep.RegionHeld3
namespace Go.Proofs.Ytlhbjgbkpjlacaa
set_option maxRecDepth 100000
open Go.RowKit Go.ChangeShapes Go.WideShapes Go.ChangeAt Go.Joins Go.Deep

set_option maxHeartbeats 2000000 in
theorem law_FnExactReadPort (s : ByteArray) (hs : s.size ≤ maxLen) (w : World) :
    Calls Try.prog 3 #[.string s] w fun e w' => e = .returned (.bool true) ∧ Below w.heap.size w w' := by
  unfold maxLen at hs
  by_cases hz : (1048576 : Int) < s.size
  · go_enter Try.func3, Try.ntmps3
    go_wp2_with fail
    go_ret
    exact ⟨rfl, Below.refl _ _⟩
  · have HI : Hid (∀ v : World, Calls Try.prog 11 #[.string s] v (GivesPort s v)) := fun v => ReadPort_impl s (by omega) v
    have HS := Lib.hid (ReadPort_spec s (by omega) w)
    go_enter Try.func3, Try.ntmps3
    go_wp2_with fail
    refine HS.out.mono ?_
    rintro e w1 ⟨k, z, pl, code, rfl, hR, hb1⟩
    have HR := Lib.hid hR; clear hR
    go_wp2_with fail
    refine (HI.out _).mono ?_
    rintro e w2 ⟨k', z', pl', code', rfl, hR2, hb2⟩
    obtain ⟨hcc, hff⟩ := bcell hb2
    obtain ⟨e1, e2⟩ := HR.out.unique hR2
    simp only [Prod.mk.injEq] at e1
    obtain ⟨rfl, rfl, rfl⟩ := e1
    subst e2
    clear hR2
    have HE : Hid (∀ v : World, Calls Try.prog 12 #[.agg #[.int .i64 k, .int .i64 z, .bool pl], .agg #[.int .i64 k, .int .i64 z, .bool pl]] v fun e w' => e = .returned (.bool true) ∧ Below v.heap.size v w') := fun v => by
      have := eqPort_any k z pl k z pl v
      rwa [decide_eq_true rfl] at this
    have q0 := hcc w1.heap.size 0 (by simp)
    have q1 := hcc w1.heap.size 1 (by simp)
    have q2 := hcc w1.heap.size 2 (by simp)
    have r0 : (w1.alloc (.cells #[.int .i64 k, .int .i64 z, .bool pl] 23)).cell? ⟨w1.heap.size, 0, none⟩ = some (.int .i64 k) := by go_simp
    have r1 : (w1.alloc (.cells #[.int .i64 k, .int .i64 z, .bool pl] 23)).cell? ⟨w1.heap.size, 1, none⟩ = some (.int .i64 z) := by go_simp
    have r2 : (w1.alloc (.cells #[.int .i64 k, .int .i64 z, .bool pl] 23)).cell? ⟨w1.heap.size, 2, none⟩ = some (.bool pl) := by go_simp
    rw [r0] at q0
    rw [r1] at q1
    rw [r2] at q2
    have hbb : Below w.heap.size w w2 := bthen (bthen hb1 (balloc w1 _)) hb2
    have hlt2 : w1.heap.size < w2.heap.size := by have := hb2.size; simp at this; omega
    clear hcc hff hb1 hb2 r0 r1 r2
    generalize w1.heap.size = g1 at q0 q1 q2 hlt2 ⊢
    go_wp2_with fail
    refine (HE.out _).mono ?_
    rintro e w3 ⟨rfl, hb3⟩
    go_wp2_with fail
    go_ret
    exact ⟨rfl, bthen (bthen hbb (balloc w2 _)) hb3⟩

set_option maxRecDepth 100000 in
theorem fnExactReadPort_lifted (os : Os) (started : os.Started) (H : Type) (enc : TypeId × Value → H) :
    ReturnsInHanded {} Try.checked os 3 .any (Rows.fnExactReadPortSpec.pre6 enc Try.prog Try.f3 Rows.fnExactReadPortRow.domain false) (Rows.fnExactReadPortSpec.post enc Try.prog Try.f3 false true false false) := by
  refine returnsInHanded_of_change (C := Try.checked) own started (by kernel_rfl) Try.func3
    (ChangeSpec.witness6 (enc := enc) (C := Try.checked) false ⟨#[], #[.string ⟨#[]⟩], []⟩ 8 (by kernel_rfl) (by kernel_rfl) (by kernel_rfl) (by kernel_rfl)) ?_
  intro W base args ds gs before hval0 hW hcnd _
  have hval : ∀ (j : Nat) t v, Try.f3.params[j]? = some t → args[j]? = some v → Value.okWide Try.prog W .any base t v := hval0
  have hlt : ∀ x ∈ before, x.block < W.heap.size := fun x hx => hW.lt x hx
  have hW' := hW
  obtain ⟨p, q, hA0, hV, rfl, hfz, hnd⟩ := hW
  have hA : DataW.TrodAll enc Try.prog W 0 (fun _ => true) true Try.f3.params.toList args.toList ds p := hA0
  rw [Try.params3] at hA hval
  obtain ⟨v0, d0, rfl, rfl, h0⟩ := trodAll_one hA
  obtain ⟨s0, rfl, -, -, ws0⟩ := Go.ChangeMaps.open_string Try.underlying9 (hval 0 9 v0 rfl rfl) h0
  refine (law_FnExactReadPort s0 ws0 W ).mono fun e W' ⟨he, hb⟩ => ?_
  subst he
  exact ⟨_, rfl, law_post (tb := 4) laidOut (by kernel_rfl) rfl rfl Try.underlying4 hW' rfl hb⟩
theorem fnExactReadPort_closed : joinedFacts Try.prog 3 Try.f3 Rows.fnExactReadPortSpec Rows.fnExactReadPortRow = true := by
  unfold joinedFacts; rw [mayEnter_yes, liftsFinal_no, make_cut]; kernel_rfl
theorem fnExactReadPort_holds : Rows.FnExactReadPortSaid :=
  OpenClaim.holds_of_wide 3 Try.f3 rfl rfl rfl rfl rfl rfl rfl ⟨rfl, rfl, rfl, rfl, rfl⟩ rfl rfl rfl rfl rfl (by kernel_rfl) Try.func3 fnExactReadPort_closed
    (of_decide_eq_true (by kernel_rfl)) (by unfold Func.isWrapper; rw [if_neg (of_decide_eq_false (by kernel_rfl))]; exact ⟨rfl, rfl⟩)
    (fun os started H enc _ => fnExactReadPort_lifted os started H enc)
#print axioms fnExactReadPort_holds

end Go.Proofs.Ytlhbjgbkpjlacaa
