/- DERIVED. The law on joins: joining is mutual, and a part does not join with itself. By program (laws16h.py). -/
import Derived.Test.YtpdkhmnbabccnaaDoJoin
import Derived.Test.YtpdkhmnbabccnaaDraw11
import Derived.Test.YtpdkhmnbabccnaaHead
import Derived.Test.YtpdkhmnbabccnaaOpen
import Derived.Lib.SmallJoins
import Derived.Deep.Slices
import Derived.Deep.Fields
import Derived.ChangeMaps5
import Derived.Carry
namespace Go.Proofs.Ytpdkhmnbabccnaa
set_option maxRecDepth 100000
open Go.RowKit Go.ChangeShapes Go.WideShapes Go.ChangeAt Go.Joins Go.Deep

theorem bd_u8 {n : Int} (h : (Lit.int .u8 n).wf = true) : 0 ≤ n ∧ n < 256 := by
  simp [Lit.wf, IntKind.min, IntKind.max, IntKind.signed, IntKind.bits] at h
  omega
theorem open_bytes {H : Type} {enc : TypeId × Value → H} {W : World} {spare : Nat → Bool} {r : Reach} {b0 : Nat} {v : Value} {d : DataW H} {p : List MemPlace}
    (hv : Value.okWide Try.prog W r b0 22 v) (h : DataW.Trod enc Try.prog W 0 spare true 22 v d p) :
    ∃ A c xs, v = .slice A (List.length xs) c ∧ List.length xs ≤ maxLen ∧ (∀ x ∈ xs, (fun n : Int => 0 ≤ n ∧ n < 256) x) ∧ Rd W W.heap.size 1 uC A xs :=
  open_flat (fun n : Int => 0 ≤ n ∧ n < 256) uC Try.underlying22 (show Try.prog.cellsOf 5 = 1 by kernel_rfl) (by omega) (fun n cs y hl h => by
    match cs, hl with
    | [c0], _ =>
      obtain ⟨x0, e0, -, wx0⟩ := DataW.trod_int Try.underlying5 h
      simp at e0
      subst e0
      exact ⟨x0, bd_u8 wx0, rfl⟩) hv h

theorem big_k (A : Option Addr) (c n : Nat) (w : World) : Calls Try.prog 15 #[.slice A n c] w fun e w' => e = .returned (.bool (decide ((4096 : Int) < n))) ∧ w = w' := by
  go_enter Try.func15, Try.ntmps15
  go_wp2_with fail
  go_ret
  exact ⟨rfl, rfl⟩
theorem joinR_back (x y : PartT) (k : Int) (h : (joinR x y k).2 = 0) : joinR y x k = ((joinR x y k).1, 0) ∧ joinR x x k = (false, 0) := by
  unfold joinR at h ⊢
  by_cases h1 : partB x = true
  · by_cases h2 : partB y = true
    · by_cases h3 : inB k 0 9 = true
      · simp [h1, h2, h3, joinB_self, joinB_comm y.ports x.ports k]
      · simp [h1, h2, h3] at h
    · simp [h1, h2] at h
  · simp [h1] at h

set_option maxHeartbeats 2000000 in
theorem law_FnJoins (A : Option Addr) (c : Nat) (xs : List Int) (w : World) (hr : Rd w w.heap.size 1 uC A xs) (hx : ∀ x ∈ xs, 0 ≤ x ∧ x < 256) (hm : xs.length ≤ maxLen) :
    Calls Try.prog 3 #[.slice A xs.length c] w fun e w' => e = .returned (.bool true) ∧ Below w.heap.size w w' := by
  unfold maxLen at hm
  by_cases hbig : (4096 : Int) < xs.length
  · go_enter Try.func3, Try.ntmps3
    go_wp2_with (go_at_call 15; refine (big_k A c xs.length _).mono ?_; rintro e w' ⟨rfl, rfl⟩)
    go_ret
    exact ⟨rfl, Below.refl _ _⟩
  have HB : Hid (∀ v : World, Calls Try.prog 15 #[.slice A xs.length c] v fun e w' => e = .returned (.bool false) ∧ v = w') := fun v => (big_k A c xs.length v).mono (by rintro e w' ⟨rfl, rfl⟩; exact ⟨by simp only [hbig, decide_false], rfl⟩)
  have HD := Lib.hid (DrawDoJoin_any A c xs w hr hx (by omega))
  clear hr hx hbig
  go_enter Try.func3, Try.ntmps3
  go_wp2_with (go_at_call 15; refine (HB.out _).mono ?_; rintro e w' ⟨rfl, rfl⟩)
  refine HD.out.mono ?_
  rintro e w1 ⟨x, pA, pc, y, pB, pd, kind, rfl, x1, y1, x2, y2, k1, k2, hrx, hry, hcx, hcy, hb1⟩
  have hnx : x.code.size ≤ maxLen := Nat.le_trans x1 (by unfold maxLen; omega)
  have hny : y.code.size ≤ maxLen := Nat.le_trans y1 (by unfold maxLen; omega)
  have HI : Hid (∀ v : World, Below w1.heap.size w1 v → Calls Try.prog 17 #[argV x pA pc, argV y pB pd, .int .i64 kind] v fun e w' => e = .returned (.tuple #[.bool (joinR x y kind).1, .int .i64 (joinR x y kind).2]) ∧ Below v.heap.size v w') := fun v hv => DoJoin_impl x y pA pB pc pd kind v (hrx.next hv) (hry.next hv) hnx hny (by omega) (by omega) hcx hcy
  have HS : Hid (∀ v : World, Below w1.heap.size w1 v → Calls Try.prog 18 #[argV x pA pc, argV y pB pd, .int .i64 kind] v fun e w' => e = .returned (.tuple #[.bool (joinR x y kind).1, .int .i64 (joinR x y kind).2]) ∧ Below v.heap.size v w') := fun v hv => DoJoin_spec x y pA pB pc pd kind v (hrx.next hv) (hry.next hv) hnx hny (by omega) (by omega) hcx hcy
  have HI2 : Hid (∀ v : World, Below w1.heap.size w1 v → Calls Try.prog 17 #[argV y pB pd, argV x pA pc, .int .i64 kind] v fun e w' => e = .returned (.tuple #[.bool (joinR y x kind).1, .int .i64 (joinR y x kind).2]) ∧ Below v.heap.size v w') := fun v hv => DoJoin_impl y x pB pA pd pc kind v (hry.next hv) (hrx.next hv) hny hnx (by omega) (by omega) hcy hcx
  have HI3 : Hid (∀ v : World, Below w1.heap.size w1 v → Calls Try.prog 17 #[argV x pA pc, argV x pA pc, .int .i64 kind] v fun e w' => e = .returned (.tuple #[.bool (joinR x x kind).1, .int .i64 (joinR x x kind).2]) ∧ Below v.heap.size v w') := fun v hv => DoJoin_impl x x pA pA pc pc kind v (hrx.next hv) (hrx.next hv) hnx hnx (by omega) (by omega) hcx hcx
  have HJ := Lib.hid (joinR_back x y kind)
  clear hrx hry hnx hny x1 y1 x2 y2 hcx hcy k1 k2 HD
  generalize joinR x y kind = R at HI HS HJ
  generalize joinR y x kind = R2 at HI2 HJ
  generalize joinR x x kind = R3 at HI3 HJ
  obtain ⟨j, bad⟩ := R
  obtain ⟨j2, bad2⟩ := R2
  obtain ⟨j3, bad3⟩ := R3
  unfold argV at HI HS HI2 HI3 ⊢
  go_wp2_with fail
  have hW : Below w1.heap.size w1 ((w1.alloc (.cells #[.string x.code, .int .i64 x.slot, .slice pA x.ports.length pc, .int .i64 x.price, .int .i64 x.grams] 26)).alloc (.cells #[.string y.code, .int .i64 y.slot, .slice pB y.ports.length pd, .int .i64 y.price, .int .i64 y.grams] 26)) := bthen (balloc w1 _) (balloc _ _)
  have HC : Hid (∀ v : World, Below ((w1.alloc (.cells #[.string x.code, .int .i64 x.slot, .slice pA x.ports.length pc, .int .i64 x.price, .int .i64 x.grams] 26)).alloc (.cells #[.string y.code, .int .i64 y.slot, .slice pB y.ports.length pd, .int .i64 y.price, .int .i64 y.grams] 26)).heap.size ((w1.alloc (.cells #[.string x.code, .int .i64 x.slot, .slice pA x.ports.length pc, .int .i64 x.price, .int .i64 x.grams] 26)).alloc (.cells #[.string y.code, .int .i64 y.slot, .slice pB y.ports.length pd, .int .i64 y.price, .int .i64 y.grams] 26)) v → (v.cell? ⟨w1.heap.size, 0, none⟩ = some (.string x.code) ∧ v.cell? ⟨w1.heap.size, 1, none⟩ = some (.int .i64 x.slot) ∧ v.cell? ⟨w1.heap.size, 2, none⟩ = some (.slice pA x.ports.length pc) ∧ v.cell? ⟨w1.heap.size, 3, none⟩ = some (.int .i64 x.price) ∧ v.cell? ⟨w1.heap.size, 4, none⟩ = some (.int .i64 x.grams) ∧ v.cell? ⟨w1.heap.size + 1, 0, none⟩ = some (.string y.code) ∧ v.cell? ⟨w1.heap.size + 1, 1, none⟩ = some (.int .i64 y.slot) ∧ v.cell? ⟨w1.heap.size + 1, 2, none⟩ = some (.slice pB y.ports.length pd) ∧ v.cell? ⟨w1.heap.size + 1, 3, none⟩ = some (.int .i64 y.price) ∧ v.cell? ⟨w1.heap.size + 1, 4, none⟩ = some (.int .i64 y.grams))) := fun v hv => by
    have z : ((w1.alloc (.cells #[.string x.code, .int .i64 x.slot, .slice pA x.ports.length pc, .int .i64 x.price, .int .i64 x.grams] 26)).alloc (.cells #[.string y.code, .int .i64 y.slot, .slice pB y.ports.length pd, .int .i64 y.price, .int .i64 y.grams] 26)).heap.size = w1.heap.size + 2 := by simp
    refine ⟨(hv.cell (p := ⟨w1.heap.size, 0, none⟩) (show w1.heap.size < _ by omega)).trans (by go_simp), (hv.cell (p := ⟨w1.heap.size, 1, none⟩) (show w1.heap.size < _ by omega)).trans (by go_simp), (hv.cell (p := ⟨w1.heap.size, 2, none⟩) (show w1.heap.size < _ by omega)).trans (by go_simp), (hv.cell (p := ⟨w1.heap.size, 3, none⟩) (show w1.heap.size < _ by omega)).trans (by go_simp), (hv.cell (p := ⟨w1.heap.size, 4, none⟩) (show w1.heap.size < _ by omega)).trans (by go_simp), (hv.cell (p := ⟨w1.heap.size + 1, 0, none⟩) (show w1.heap.size + 1 < _ by omega)).trans (by go_simp), (hv.cell (p := ⟨w1.heap.size + 1, 1, none⟩) (show w1.heap.size + 1 < _ by omega)).trans (by go_simp), (hv.cell (p := ⟨w1.heap.size + 1, 2, none⟩) (show w1.heap.size + 1 < _ by omega)).trans (by go_simp), (hv.cell (p := ⟨w1.heap.size + 1, 3, none⟩) (show w1.heap.size + 1 < _ by omega)).trans (by go_simp), (hv.cell (p := ⟨w1.heap.size + 1, 4, none⟩) (show w1.heap.size + 1 < _ by omega)).trans (by go_simp)⟩
  generalize (w1.alloc (.cells #[.string x.code, .int .i64 x.slot, .slice pA x.ports.length pc, .int .i64 x.price, .int .i64 x.grams] 26)).alloc (.cells #[.string y.code, .int .i64 y.slot, .slice pB y.ports.length pd, .int .i64 y.price, .int .i64 y.grams] 26) = W at hW HC ⊢
  generalize w1.heap.size + 1 = g1 at HC ⊢
  generalize hg0 : w1.heap.size = g0 at HC hW HI HS HI2 HI3 ⊢
  have hgW : g0 ≤ W.heap.size := by have := hW.size; omega
  obtain ⟨c0, c1, c2, c3, c4, d0, d1, d2, d3, d4⟩ := HC.out W (Below.refl _ _)
  go_wp2_with fail
  refine (HI.out W hW).mono ?_
  rintro e w2 ⟨rfl, hb2⟩
  clear c0 c1 c2 c3 c4 d0 d1 d2 d3 d4
  obtain ⟨c0, c1, c2, c3, c4, d0, d1, d2, d3, d4⟩ := HC.out w2 hb2
  go_wp2_with fail
  refine (HS.out w2 (hW.trans (hb2.mono hgW))).mono ?_
  rintro e w3 ⟨rfl, hb3⟩
  have hb13 := bthen hb2 hb3
  clear c0 c1 c2 c3 c4 d0 d1 d2 d3 d4
  obtain ⟨c0, c1, c2, c3, c4, d0, d1, d2, d3, d4⟩ := HC.out w3 hb13
  by_cases hbad : bad = 0
  · obtain ⟨e2, e3⟩ := HJ.out hbad
    simp only [Prod.mk.injEq] at e2 e3
    obtain ⟨rfl, rfl⟩ := e2
    obtain ⟨rfl, rfl⟩ := e3
    subst hbad
    clear HJ
    go_wp2_with fail
    refine (HI2.out w3 (hW.trans (hb13.mono hgW))).mono ?_
    rintro e w4 ⟨rfl, hb4⟩
    have hb14 := bthen hb13 hb4
    clear c0 c1 c2 c3 c4 d0 d1 d2 d3 d4
    obtain ⟨c0, c1, c2, c3, c4, d0, d1, d2, d3, d4⟩ := HC.out w4 hb14
    go_wp2_with fail
    refine (HI3.out w4 (hW.trans (hb14.mono hgW))).mono ?_
    rintro e w5 ⟨rfl, hb5⟩
    go_wp2_with fail
    go_ret
    exact ⟨by simp, hb1.trans ((hW.trans ((bthen hb14 hb5).mono hgW)).mono (by have := hb1.size; omega))⟩
  · have hbad' : (bad == 0) = false := by simp [hbad]
    go_wp2_with fail
    go_ret
    exact ⟨rfl, hb1.trans ((hW.trans (hb13.mono hgW)).mono (by have := hb1.size; omega))⟩

set_option maxRecDepth 100000 in
theorem fnJoins_lifted (os : Os) (started : os.Started) (H : Type) (enc : TypeId × Value → H) :
    ReturnsInHanded {} Try.checked os 3 .any (Rows.fnJoinsSpec.pre6 enc Try.prog Try.f3 Rows.fnJoinsRow.domain false) (Rows.fnJoinsSpec.post enc Try.prog Try.f3 false true false false) := by
  refine returnsInHanded_of_change (C := Try.checked) own started (by kernel_rfl) Try.func3
    (ChangeSpec.witness6 (enc := enc) (C := Try.checked) false ⟨#[], #[.slice none 0 0], []⟩ 8 (by kernel_rfl) (by kernel_rfl) (by kernel_rfl) (by kernel_rfl)) ?_
  intro W base args ds gs before hval0 hW hcnd _
  have hval : ∀ (j : Nat) t v, Try.f3.params[j]? = some t → args[j]? = some v → Value.okWide Try.prog W .any base t v := hval0
  have hlt : ∀ x ∈ before, x.block < W.heap.size := fun x hx => hW.lt x hx
  have hW' := hW
  obtain ⟨p, q, hA0, hV, rfl, hfz, hnd⟩ := hW
  have hA : DataW.TrodAll enc Try.prog W 0 (fun _ => true) true Try.f3.params.toList args.toList ds p := hA0
  rw [Try.params3] at hA hval
  obtain ⟨v0, d0, rfl, rfl, h0⟩ := trodAll_one hA
  obtain ⟨A, c, xs, rfl, hm, hx, hr⟩ := open_bytes (hval 0 22 v0 rfl rfl) h0
  refine (law_FnJoins A c xs W hr hx hm).mono fun e W' ⟨he, hb⟩ => ?_
  subst he
  exact ⟨_, rfl, law_post (tb := 4) laidOut (by kernel_rfl) rfl rfl Try.underlying4 hW' rfl hb⟩
theorem fnJoins_closed : joinedFacts Try.prog 3 Try.f3 Rows.fnJoinsSpec Rows.fnJoinsRow = true := by
  unfold joinedFacts; rw [mayEnter_yes, liftsFinal_no, make_cut]; kernel_rfl
theorem fnJoins_holds : Rows.FnJoinsSaid :=
  OpenClaim.holds_of_wide 3 Try.f3 rfl rfl rfl rfl rfl rfl rfl ⟨rfl, rfl, rfl, rfl, rfl⟩ rfl rfl rfl rfl rfl (by kernel_rfl) Try.func3 fnJoins_closed
    (of_decide_eq_true (by kernel_rfl)) (by unfold Func.isWrapper; rw [if_neg (of_decide_eq_false (by kernel_rfl))]; exact ⟨rfl, rfl⟩)
    (fun os started H enc _ => fnJoins_lifted os started H enc)
#print axioms fnJoins_holds

end Go.Proofs.Ytpdkhmnbabccnaa
