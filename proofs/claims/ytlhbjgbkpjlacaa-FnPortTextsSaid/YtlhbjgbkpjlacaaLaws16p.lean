/- DERIVED. The law on texts of ports: a port is recovered from its text. By program (laws16p.py). -/
import Derived.Test.YtlhbjgbkpjlacaaDrawP
import Derived.Test.YtlhbjgbkpjlacaaReadP2
import Derived.Test.YtlhbjgbkpjlacaaPortText
import Derived.Test.YtlhbjgbkpjlacaaDLaw
import Derived.Test.YtlhbjgbkpjlacaaHead
import Derived.Lib.SmallJoins
import Derived.Deep.Slices
import Derived.Deep.Fields
import Derived.ChangeMaps5
import Derived.Carry
import Derived.Deep.CutRange
namespace Go.Proofs.Ytlhbjgbkpjlacaa
set_option maxRecDepth 100000
open Go.RowKit Go.ChangeShapes Go.WideShapes Go.ChangeAt Go.Joins Go.Deep

set_option maxHeartbeats 40000000 in
theorem law_FnPortTexts (A : Option Addr) (c : Nat) (xs : List Int) (w : World) (hr : Rd w w.heap.size 1 uC A xs) (hx : ∀ x ∈ xs, 0 ≤ x ∧ x < 256) (hm : xs.length ≤ maxLen) :
    Calls Try.prog 4 #[.slice A xs.length c] w fun e w' => e = .returned (.bool true) ∧ Below w.heap.size w w' := by
  unfold maxLen at hm
  by_cases hbig : (4096 : Int) < xs.length
  · go_enter Try.func4, Try.ntmps4
    go_wp2_with (go_at_call 13; refine (big_k A c xs.length _).mono ?_; rintro e w' ⟨rfl, rfl⟩)
    go_ret
    exact ⟨rfl, Below.refl _ _⟩
  have HBig : Hid (∀ v : World, Calls Try.prog 13 #[.slice A xs.length c] v fun e w' => e = .returned (.bool false) ∧ v = w') := fun v => (big_k A c xs.length v).mono (by rintro e w' ⟨rfl, rfl⟩; exact ⟨by simp only [hbig, decide_false], rfl⟩)
  have HD := Lib.hid (DrawPortText_any A c xs w hr hx (by omega))
  have HD2 : Hid (∀ v : World, Below w.heap.size w v → Calls Try.prog 17 #[.slice A xs.length c] v (GivenText v)) := fun v hv => DrawReadPort_any A c xs v (hr.next hv) hx (by omega)
  have HRI : Hid (∀ (v : World) (t : ByteArray), t.size ≤ 64 → Calls Try.prog 11 #[.string t] v (GivesPort t v)) := fun v t ht => ReadPort_impl t (by omega) v
  have HRS : Hid (∀ (v : World) (t : ByteArray), t.size ≤ 64 → Calls Try.prog 10 #[.string t] v (GivesPort t v)) := fun v t ht => ReadPort_spec t (by omega) v
  clear hr hx hbig
  go_enter Try.func4, Try.ntmps4
  go_wp2_with (go_at_call 13; refine (HBig.out _).mono ?_; rintro e w' ⟨rfl, rfl⟩)
  refine HD.out.mono ?_
  rintro e w1 ⟨k, s, p, rfl, k0, k1, s0, s1, hb1⟩
  have HPI : Hid (∀ v : World, Calls Try.prog 15 #[.agg #[.int .i64 k, .int .i64 s, .bool p]] v fun e w' => e = .returned (.tuple #[.string (portTextR k s p).1, .int .i64 (portTextR k s p).2]) ∧ Below v.heap.size v w') := fun v => PortText_impl k s p v
  have HPS : Hid (∀ v : World, Calls Try.prog 16 #[.agg #[.int .i64 k, .int .i64 s, .bool p]] v fun e w' => e = .returned (.tuple #[.string (portTextR k s p).1, .int .i64 (portTextR k s p).2]) ∧ Below v.heap.size v w') := fun v => PortText_spec k s p v
  have HL : Hid ((portB k s = true ∧ portTextR k s p = (S (portT k s p), 0) ∧ (S (portT k s p)).size ≤ 60) ∨ (portB k s = false ∧ (portTextR k s p).2 = 1)) := by
    unfold Hid portTextR
    by_cases h : portB k s = true
    · left
      rw [if_pos h]
      exact ⟨h, rfl, portText_size k s p h⟩
    · right
      rw [if_neg h]
      exact ⟨by simpa using h, rfl⟩
  generalize portTextR k s p = R at HPI HPS HL
  obtain ⟨t, bad⟩ := R
  try simp only at HL
  have hbx := balloc w1 (.cells #[.int .i64 k, .int .i64 s, .bool p] 23)
  have HX : Hid (∀ v : World, Below (w1.alloc (.cells #[.int .i64 k, .int .i64 s, .bool p] 23)).heap.size (w1.alloc (.cells #[.int .i64 k, .int .i64 s, .bool p] 23)) v → Blk v w1.heap.size 23 [.int .i64 k, .int .i64 s, .bool p]) := fun v hv => (Blk.made w1 _ _).next hv
  have hlx : w1.heap.size < (w1.alloc (.cells #[.int .i64 k, .int .i64 s, .bool p] 23)).heap.size := by simp
  have hb2 : Below w.heap.size w (w1.alloc (.cells #[.int .i64 k, .int .i64 s, .bool p] 23)) := bthen hb1 hbx
  go_upto_region 4 with (fail)
  generalize w1.alloc (.cells #[.int .i64 k, .int .i64 s, .bool p] 23) = W2 at HX hlx hb2 hbx ⊢
  generalize w1.heap.size = g1 at HX hlx ⊢
  clear hbx hb1
  have hX2 := Below.refl W2.heap.size W2
  have q0 := (HX.out W2 hX2).cell (j := 0) rfl
  have q1 := (HX.out W2 hX2).cell (j := 1) rfl
  have q2 := (HX.out W2 hX2).cell (j := 2) rfl
  have ql := (HX.out W2 hX2).lt
  go_wp2_with fail
  refine (HPI.out W2).mono ?_
  rintro e w3 ⟨rfl, hb3⟩
  have hX3 := bthen hX2 hb3
  clear q0 q1 q2 ql hb3
  have q0 := (HX.out w3 hX3).cell (j := 0) rfl
  have q1 := (HX.out w3 hX3).cell (j := 1) rfl
  have q2 := (HX.out w3 hX3).cell (j := 2) rfl
  have ql := (HX.out w3 hX3).lt
  go_wp2_with fail
  refine (HPS.out w3).mono ?_
  rintro e w4 ⟨rfl, hb4⟩
  have hX4 := bthen hX3 hb4
  clear q0 q1 q2 ql hb4
  go_wp2_with fail
  refine (HD2.out w4 (bthen hb2 hX4)).mono ?_
  rintro e w5 ⟨r, rfl, hrz, hb5⟩
  have hX5 := bthen hX4 hb5
  clear hb5 HD2
  go_wp2_with fail
  refine (HRI.out w5 r hrz).mono ?_
  rintro e w6 ⟨a1, a2, a3, one, rfl, hR1, hb6⟩
  have hX6 := bthen hX5 hb6
  have HR1 := Lib.hid hR1
  clear hb6 hR1
  have hby := balloc w6 (.cells #[.int .i64 a1, .int .i64 a2, .bool a3] 23)
  have HY : Hid (∀ v : World, Below (w6.alloc (.cells #[.int .i64 a1, .int .i64 a2, .bool a3] 23)).heap.size (w6.alloc (.cells #[.int .i64 a1, .int .i64 a2, .bool a3] 23)) v → Blk v w6.heap.size 23 [.int .i64 a1, .int .i64 a2, .bool a3]) := fun v hv => (Blk.made w6 _ _).next hv
  have hly : w6.heap.size < (w6.alloc (.cells #[.int .i64 a1, .int .i64 a2, .bool a3] 23)).heap.size := by simp
  have hX7 := bthen hX6 hby
  go_upto_region 8 with (fail)
  generalize w6.alloc (.cells #[.int .i64 a1, .int .i64 a2, .bool a3] 23) = W7 at HY hly hX7 hby ⊢
  generalize w6.heap.size = g2 at HY hly ⊢
  clear hby
  go_wp2_with fail
  refine (HRS.out W7 r hrz).mono ?_
  rintro e w8 ⟨b1, b2, b3, two, rfl, hR2, hb8⟩
  obtain ⟨e1, e2⟩ := HR1.out.unique hR2
  simp only [Prod.mk.injEq] at e1
  obtain ⟨rfl, rfl, rfl⟩ := e1
  subst e2
  have hX8 := bthen hX7 hb8
  have hY8 := hb8
  clear hR2
  have hbz := balloc w8 (.cells #[.int .i64 a1, .int .i64 a2, .bool a3] 23)
  have HZ : Hid (∀ v : World, Below (w8.alloc (.cells #[.int .i64 a1, .int .i64 a2, .bool a3] 23)).heap.size (w8.alloc (.cells #[.int .i64 a1, .int .i64 a2, .bool a3] 23)) v → Blk v w8.heap.size 23 [.int .i64 a1, .int .i64 a2, .bool a3]) := fun v hv => (Blk.made w8 _ _).next hv
  have hlz : w8.heap.size < (w8.alloc (.cells #[.int .i64 a1, .int .i64 a2, .bool a3] 23)).heap.size := by simp
  have hX9 := bthen hX8 hbz
  have hY9 := bthen hY8 hbz
  go_upto_region 9 with (fail)
  generalize w8.alloc (.cells #[.int .i64 a1, .int .i64 a2, .bool a3] 23) = W9 at HZ hlz hX9 hY9 hbz ⊢
  generalize w8.heap.size = g3 at HZ hlz ⊢
  clear hbz hb8
  have hZ9 := Below.refl W9.heap.size W9
  have y0 := (HY.out W9 hY9).cell (j := 0) rfl
  have y1 := (HY.out W9 hY9).cell (j := 1) rfl
  have y2 := (HY.out W9 hY9).cell (j := 2) rfl
  have yl := (HY.out W9 hY9).lt
  have z0 := (HZ.out W9 hZ9).cell (j := 0) rfl
  have z1 := (HZ.out W9 hZ9).cell (j := 1) rfl
  have z2 := (HZ.out W9 hZ9).cell (j := 2) rfl
  have zl := (HZ.out W9 hZ9).lt
  have q0 := (HX.out W9 hX9).cell (j := 0) rfl
  have q1 := (HX.out W9 hX9).cell (j := 1) rfl
  have q2 := (HX.out W9 hX9).cell (j := 2) rfl
  have ql := (HX.out W9 hX9).lt
  have HLast : Hid (∀ v : World, Below W9.heap.size W9 v → Below w.heap.size w v) := fun v hv => bthen (bthen hb2 hX9) hv
  have HFin : Hid (bad = 0 → t.size ≤ 64 ∧ ∀ (c1 c2 : Int) (c3 : Bool) (four : Int), IsRead t (c1, c2, c3) four → c1 = k ∧ c2 = s ∧ c3 = p ∧ four = 0) := fun h0 => by
    rcases HL.out with ⟨h1, h2, h3⟩ | ⟨_, h2⟩
    · simp only [Prod.mk.injEq] at h2
      obtain ⟨rfl, _⟩ := h2
      refine ⟨by omega, fun c1 c2 c3 four hR => ?_⟩
      have hq : IsRead (S (portT k s p)) (k, s, p) 0 := Or.inl ⟨h1, rfl, rfl⟩
      obtain ⟨e1, e2⟩ := hR.unique hq
      simp only [Prod.mk.injEq] at e1
      exact ⟨e1.1, e1.2.1, e1.2.2, e2⟩
    · omega
  have HAg : Hid (one = 0 → ∀ v : World, Calls Try.prog 15 #[.agg #[.int .i64 a1, .int .i64 a2, .bool a3]] v fun e w' => e = .returned (.tuple #[.string r, .int .i64 0]) ∧ Below v.heap.size v w') := fun h0 v => by
    rcases HR1.out with ⟨h1, h2, _⟩ | ⟨_, _, h3⟩
    · have := PortText_impl a1 a2 a3 v
      unfold portTextR at this
      rw [if_pos h1] at this
      try simp only at h2 this
      rw [h2] at this
      exact this
    · omega
  clear HL HR1 HRS HPI HPS
  by_cases hone : one = 0
  · have HA2 := Lib.hid (HAg.out hone)
    subst hone
    clear HAg
    go_wp2_with fail
    refine (HA2.out W9).mono ?_
    rintro e w10 ⟨rfl, hb10⟩
    clear y0 y1 y2 yl z0 z1 z2 zl q0 q1 q2 ql
    by_cases hbad : bad = 0
    · obtain ⟨htz, hfin⟩ := HFin.out hbad
      have Hfin := Lib.hid hfin
      subst hbad
      clear hfin HFin
      go_wp2_with fail
      refine (HRI.out w10 t htz).mono ?_
      rintro e w11 ⟨c1, c2, c3, four, rfl, hR4, hb11⟩
      obtain ⟨rfl, rfl, rfl, rfl⟩ := Hfin.out c1 c2 c3 four hR4
      clear hR4
      have hW11 := bthen hb10 hb11
      have hX11 : Below W2.heap.size W2 w11 := bthen hX9 hW11
      obtain ⟨hcc, hff⟩ := bcell hb11
      have q0 := (HX.out w11 hX11).cell (j := 0) rfl
      have q1 := (HX.out w11 hX11).cell (j := 1) rfl
      have q2 := (HX.out w11 hX11).cell (j := 2) rfl
      have ql := (HX.out w11 hX11).lt
      clear hcc hff
      go_wp2_with fail
      go_ret
      exact ⟨rfl, HLast.out _ (bthen hW11 (balloc w11 _))⟩
    · have hbb : (bad == 0) = false := by simp [hbad]
      have hbb2 : (bad != 0) = true := by simp [hbad]
      clear hbad HFin
      go_wp2_with fail
      go_ret
      exact ⟨rfl, HLast.out _ hb10⟩
  · have hob : (one == 0) = false := by simp [hone]
    have hob2 : (one != 0) = true := by simp [hone]
    clear HAg hone
    by_cases hbad : bad = 0
    · obtain ⟨htz, hfin⟩ := HFin.out hbad
      have Hfin := Lib.hid hfin
      subst hbad
      clear hfin HFin
      go_wp2_with fail
      refine (HRI.out W9 t htz).mono ?_
      rintro e w11 ⟨c1, c2, c3, four, rfl, hR4, hb11⟩
      obtain ⟨rfl, rfl, rfl, rfl⟩ := Hfin.out c1 c2 c3 four hR4
      clear hR4
      have hW11 := bthen hZ9 hb11
      have hX11 : Below W2.heap.size W2 w11 := bthen hX9 hW11
      obtain ⟨hcc, hff⟩ := bcell hb11
      clear q0 q1 q2 ql
      have q0 := (HX.out w11 hX11).cell (j := 0) rfl
      have q1 := (HX.out w11 hX11).cell (j := 1) rfl
      have q2 := (HX.out w11 hX11).cell (j := 2) rfl
      have ql := (HX.out w11 hX11).lt
      clear hcc hff
      go_wp2_with fail
      go_ret
      exact ⟨rfl, HLast.out _ (bthen hW11 (balloc w11 _))⟩
    · have hbb : (bad == 0) = false := by simp [hbad]
      have hbb2 : (bad != 0) = true := by simp [hbad]
      clear hbad HFin
      go_wp2_with fail
      go_ret
      exact ⟨rfl, HLast.out _ hZ9⟩

set_option maxRecDepth 100000 in
theorem fnPortTexts_lifted (os : Os) (started : os.Started) (H : Type) (enc : TypeId × Value → H) :
    ReturnsInHanded {} Try.checked os 4 .any (Rows.fnPortTextsSpec.pre6 enc Try.prog Try.f4 Rows.fnPortTextsRow.domain false) (Rows.fnPortTextsSpec.post enc Try.prog Try.f4 false true false false) := by
  refine returnsInHanded_of_change (C := Try.checked) own started (by kernel_rfl) Try.func4
    (ChangeSpec.witness6 (enc := enc) (C := Try.checked) false ⟨#[], #[.slice none 0 0], []⟩ 8 (by kernel_rfl) (by kernel_rfl) (by kernel_rfl) (by kernel_rfl)) ?_
  intro W base args ds gs before hval0 hW hcnd _
  have hval : ∀ (j : Nat) t v, Try.f4.params[j]? = some t → args[j]? = some v → Value.okWide Try.prog W .any base t v := hval0
  have hlt : ∀ x ∈ before, x.block < W.heap.size := fun x hx => hW.lt x hx
  have hW' := hW
  obtain ⟨p, q, hA0, hV, rfl, hfz, hnd⟩ := hW
  have hA : DataW.TrodAll enc Try.prog W 0 (fun _ => true) true Try.f4.params.toList args.toList ds p := hA0
  rw [Try.params4] at hA hval
  obtain ⟨v0, d0, rfl, rfl, h0⟩ := trodAll_one hA
  obtain ⟨A, c, xs, rfl, hm, hx, hr⟩ := open_bytes (hval 0 28 v0 rfl rfl) h0
  refine (law_FnPortTexts A c xs W hr hx hm).mono fun e W' ⟨he, hb⟩ => ?_
  subst he
  exact ⟨_, rfl, law_post (tb := 4) laidOut (by kernel_rfl) rfl rfl Try.underlying4 hW' rfl hb⟩
theorem fnPortTexts_closed : joinedFacts Try.prog 4 Try.f4 Rows.fnPortTextsSpec Rows.fnPortTextsRow = true := by
  unfold joinedFacts; rw [mayEnter_yes, liftsFinal_no, make_cut]; kernel_rfl
theorem fnPortTexts_holds : Rows.FnPortTextsSaid :=
  OpenClaim.holds_of_wide 4 Try.f4 rfl rfl rfl rfl rfl rfl rfl ⟨rfl, rfl, rfl, rfl, rfl⟩ rfl rfl rfl rfl rfl (by kernel_rfl) Try.func4 fnPortTexts_closed
    (of_decide_eq_true (by kernel_rfl)) (by unfold Func.isWrapper; rw [if_neg (of_decide_eq_false (by kernel_rfl))]; exact ⟨rfl, rfl⟩)
    (fun os started H enc _ => fnPortTexts_lifted os started H enc)
#print axioms fnPortTexts_holds

end Go.Proofs.Ytlhbjgbkpjlacaa
