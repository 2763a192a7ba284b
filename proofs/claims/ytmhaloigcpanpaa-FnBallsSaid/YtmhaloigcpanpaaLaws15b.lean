/- DERIVED. The law on balls: the most balls fit, one more does not, and the largest ball fits. By program (glawb.py). -/
import Derived.Test.YtmhaloigcpanpaaBall2
import Derived.Test.YtmhaloigcpanpaaDrawB
import Derived.Test.YtmhaloigcpanpaaDLaw
import Derived.Test.YtmhaloigcpanpaaHead
import Derived.Lib.SmallJoins
import Derived.Deep.Slices
import Derived.Deep.Fields
import Derived.ChangeMaps5
import Derived.Carry
namespace Go.Proofs.Ytmhaloigcpanpaa
set_option maxRecDepth 100000
open Go.RowKit Go.ChangeShapes Go.WideShapes Go.ChangeAt Go.Joins Go.Deep

set_option maxHeartbeats 4000000 in
theorem law_FnBalls (A : Option Addr) (c : Nat) (xs : List Int) (w : World) (hr : Rd w w.heap.size 1 uC A xs) (hx : ∀ x ∈ xs, 0 ≤ x ∧ x < 256) (hm : xs.length ≤ maxLen) :
    Calls Try.prog 9 #[.slice A xs.length c] w fun e w' => e = .returned (.bool true) ∧ Below w.heap.size w w' := by
  unfold maxLen at hm
  by_cases hbig : (4096 : Int) < xs.length
  · go_enter Try.func9, Try.ntmps9
    go_wp2_with (go_at_call 36; refine (big_k A c xs.length _).mono ?_; rintro e w' ⟨rfl, rfl⟩)
    go_ret
    exact ⟨rfl, Below.refl _ _⟩
  have HBig : Hid (∀ v : World, Calls Try.prog 36 #[.slice A xs.length c] v fun e w' => e = .returned (.bool false) ∧ v = w') := fun v => (big_k A c xs.length v).mono (by rintro e w' ⟨rfl, rfl⟩; exact ⟨by simp only [hbig, decide_false], rfl⟩)
  have HD := Lib.hid (DrawLargestBall_any A c xs w hr hx (by omega))
  clear hr hx hbig
  go_enter Try.func9, Try.ntmps9
  go_wp2_with (go_at_call 36; refine (HBig.out _).mono ?_; rintro e w' ⟨rfl, rfl⟩)
  refine HD.out.mono ?_
  rintro e w1 ⟨d, b, n, rfl, hb1⟩
  have HLI : Hid (∀ v : World, Calls Try.prog 62 #[.agg #[.int .i64 d, .int .i64 b], .int .i64 n] v fun e w' => e = .returned (.tuple #[.int .i64 (ballR d b n).1, .int .i64 (ballR d b n).2]) ∧ Below v.heap.size v w') := fun v => LargestBall_impl d b n v
  have HLS : Hid (∀ v : World, Calls Try.prog 60 #[.agg #[.int .i64 d, .int .i64 b], .int .i64 n] v fun e w' => e = .returned (.tuple #[.int .i64 (ballR d b n).1, .int .i64 (ballR d b n).2]) ∧ Below v.heap.size v w') := fun v => LargestBall_spec d b n v
  have HMI : Hid (∀ v : World, Calls Try.prog 64 #[.agg #[.int .i64 d, .int .i64 b]] v fun e w' => e = .returned (.tuple #[.int .i64 (mostR d b).1, .int .i64 (mostR d b).2]) ∧ Below v.heap.size v w') := fun v => MostBalls_impl d b v
  have HMS : Hid (∀ v : World, Calls Try.prog 65 #[.agg #[.int .i64 d, .int .i64 b]] v fun e w' => e = .returned (.tuple #[.int .i64 (mostR d b).1, .int .i64 (mostR d b).2]) ∧ Below v.heap.size v w') := fun v => MostBalls_spec d b v
  have HCI : Hid (∀ v : World, Calls Try.prog 66 #[.agg #[.int .i64 d, .int .i64 b], .int .i64 n] v fun e w' => e = .returned (.tuple #[.int .i64 (chordR d b n).1, .int .i64 (chordR d b n).2]) ∧ Below v.heap.size v w') := fun v => ChordOf_impl d b n v
  have HCS : Hid (∀ v : World, Calls Try.prog 67 #[.agg #[.int .i64 d, .int .i64 b], .int .i64 n] v fun e w' => e = .returned (.tuple #[.int .i64 (chordR d b n).1, .int .i64 (chordR d b n).2]) ∧ Below v.heap.size v w') := fun v => ChordOf_spec d b n v
  have HRI : Hid (∀ v : World, Calls Try.prog 68 #[.agg #[.int .i64 d, .int .i64 b]] v fun e w' => e = .returned (.bool (raceB d b)) ∧ Below v.heap.size v w') := fun v => isRace_impl d b v
  have HCm : Hid (∀ (m : Int) (v : World), Calls Try.prog 66 #[.agg #[.int .i64 d, .int .i64 b], .int .i64 m] v fun e w' => e = .returned (.tuple #[.int .i64 (chordR d b m).1, .int .i64 (chordR d b m).2]) ∧ Below v.heap.size v w') := fun m v => ChordOf_impl d b m v
  have HRl : Hid (∀ (l : Int) (v : World), Calls Try.prog 68 #[.agg #[.int .i64 d, .int .i64 l]] v fun e w' => e = .returned (.bool (raceB d l)) ∧ Below v.heap.size v w') := fun l v => isRace_impl d l v
  have HL := Lib.hid (ball_law d b n)
  clear HD
  generalize ballR d b n = R at HLI HLS HL
  generalize mostR d b = M at HMI HMS HL
  generalize chordR d b n = C at HCI HCS HL
  obtain ⟨l, bad⟩ := R
  obtain ⟨m, one⟩ := M
  obtain ⟨ch, three⟩ := C
  go_wp2_with fail
  have hB := Blk.made w1 84 [.int .i64 d, .int .i64 b]
  have hbV : Below w1.heap.size w1 (w1.alloc (.cells #[.int .i64 d, .int .i64 b] 84)) := balloc _ _
  change Blk (w1.alloc (.cells #[.int .i64 d, .int .i64 b] 84)) w1.heap.size 84 _ at hB
  have hb0 := hb1.trans (hbV.mono hb1.size)
  clear hbV
  generalize w1.alloc (.cells #[.int .i64 d, .int .i64 b] 84) = V at hB hb0 ⊢
  generalize w1.heap.size = r at hB ⊢
  have HX : Hid (∀ v : World, Below V.heap.size V v → Blk v r 84 [.int .i64 d, .int .i64 b]) := fun v hv => hB.next hv
  have q0 := hB.cell (j := 0) rfl
  have q1 := hB.cell (j := 1) rfl
  have hV := Below.refl V.heap.size V
  clear hB
  go_wp2_with fail
  refine (HLI.out V).mono ?_
  rintro e w2 ⟨rfl, hb2⟩
  replace hV := bthen hV hb2
  clear q0 q1 hb2
  have q0 := (HX.out w2 hV).cell (j := 0) rfl
  have q1 := (HX.out w2 hV).cell (j := 1) rfl
  go_wp2_with fail
  refine (HLS.out w2).mono ?_
  rintro e w3 ⟨rfl, hb3⟩
  replace hV := bthen hV hb3
  clear q0 q1 hb3
  have q0 := (HX.out w3 hV).cell (j := 0) rfl
  have q1 := (HX.out w3 hV).cell (j := 1) rfl
  go_wp2_with fail
  refine (HMI.out w3).mono ?_
  rintro e w4 ⟨rfl, hb4⟩
  replace hV := bthen hV hb4
  clear q0 q1 hb4
  have q0 := (HX.out w4 hV).cell (j := 0) rfl
  have q1 := (HX.out w4 hV).cell (j := 1) rfl
  go_wp2_with fail
  refine (HMS.out w4).mono ?_
  rintro e w5 ⟨rfl, hb5⟩
  replace hV := bthen hV hb5
  clear q0 q1 hb5
  have q0 := (HX.out w5 hV).cell (j := 0) rfl
  have q1 := (HX.out w5 hV).cell (j := 1) rfl
  go_wp2_with fail
  refine (HCI.out w5).mono ?_
  rintro e w6 ⟨rfl, hb6⟩
  replace hV := bthen hV hb6
  clear q0 q1 hb6
  have q0 := (HX.out w6 hV).cell (j := 0) rfl
  have q1 := (HX.out w6 hV).cell (j := 1) rfl
  go_wp2_with fail
  refine (HCS.out w6).mono ?_
  rintro e w7 ⟨rfl, hb7⟩
  replace hV := bthen hV hb7
  clear q0 q1 hb7
  have q0 := (HX.out w7 hV).cell (j := 0) rfl
  have q1 := (HX.out w7 hV).cell (j := 1) rfl
  have hrace := HL.out.race
  simp only at hrace
  have HRi : Hid (∀ v : World, Calls Try.prog 68 #[.agg #[.int .i64 d, .int .i64 b]] v fun e w' => e = .returned (.bool (decide (three = 0) || decide (three = 2))) ∧ Below v.heap.size v w') := by
    rw [← hrace]
    exact HRI
  clear HRI HLI HLS HMI HMS HCI HCS hrace
  by_cases ht0 : three = 0
  · subst ht0
    go_wp2_with fail
    refine (HRi.out w7).mono ?_
    rintro e w8 ⟨rfl, hb8⟩
    replace hV := bthen hV hb8
    clear q0 q1 hb8
    have q0 := (HX.out w8 hV).cell (j := 0) rfl
    have q1 := (HX.out w8 hV).cell (j := 1) rfl
    by_cases hone : one = 0
    · obtain ⟨m3, m40, e1, hm1, hm2⟩ := HL.out.most hone
      simp only at m3 m40 e1 hm1 hm2
      have HC1 := Lib.hid (HCm.out m)
      rw [e1] at HC1
      subst hone
      go_wp2_with fail
      refine (HC1.out w8).mono ?_
      rintro e w9 ⟨rfl, hb9⟩
      replace hV := bthen hV hb9
      clear q0 q1 hb9 HC1 e1
      have q0 := (HX.out w9 hV).cell (j := 0) rfl
      have q1 := (HX.out w9 hV).cell (j := 1) rfl
      by_cases hlt : m < 40
      · obtain ⟨e2, hm3⟩ := hm2 hlt
        have HC2 := Lib.hid (HCm.out (m + 1))
        rw [e2] at HC2
        clear e2 hm2
        go_wp2_with fail
        refine (HC2.out w9).mono ?_
        rintro e w10 ⟨rfl, hb10⟩
        replace hV := bthen hV hb10
        clear q0 q1 hb10 HC2
        have q0 := (HX.out w10 hV).cell (j := 0) rfl
        have q1 := (HX.out w10 hV).cell (j := 1) rfl
        by_cases hbad : bad = 0
        · obtain ⟨l1, l2, l3, l4⟩ := HL.out.large hbad
          simp only at l1 l2 l3 l4
          have HRL := Lib.hid (HRl.out l)
          rw [l4] at HRL
          subst hbad
          clear l4
          go_wp2_with fail
          refine (HRL.out w10).mono ?_
          rintro e w11 ⟨rfl, hb11⟩
          replace hV := bthen hV hb11
          go_wp2_with fail
          go_ret
          exact ⟨rfl, hb0.trans (hV.mono hb0.size)⟩
        · have hbad' : (bad == 0) = false := by simp [hbad]
          have hbad2 : (bad != 0) = true := by simp [hbad]
          go_wp2_with fail
          go_ret
          exact ⟨rfl, hb0.trans (hV.mono hb0.size)⟩
      · clear hm2
        by_cases hbad : bad = 0
        · obtain ⟨l1, l2, l3, l4⟩ := HL.out.large hbad
          simp only at l1 l2 l3 l4
          have HRL := Lib.hid (HRl.out l)
          rw [l4] at HRL
          subst hbad
          clear l4
          go_wp2_with fail
          refine (HRL.out w9).mono ?_
          rintro e w11 ⟨rfl, hb11⟩
          replace hV := bthen hV hb11
          go_wp2_with fail
          go_ret
          exact ⟨rfl, hb0.trans (hV.mono hb0.size)⟩
        · have hbad' : (bad == 0) = false := by simp [hbad]
          have hbad2 : (bad != 0) = true := by simp [hbad]
          go_wp2_with fail
          go_ret
          exact ⟨rfl, hb0.trans (hV.mono hb0.size)⟩
    · have hone' : (one == 0) = false := by simp [hone]
      by_cases hbad : bad = 0
      · obtain ⟨l1, l2, l3, l4⟩ := HL.out.large hbad
        simp only at l1 l2 l3 l4
        have HRL := Lib.hid (HRl.out l)
        rw [l4] at HRL
        subst hbad
        clear l4
        go_wp2_with fail
        refine (HRL.out w8).mono ?_
        rintro e w11 ⟨rfl, hb11⟩
        replace hV := bthen hV hb11
        go_wp2_with fail
        go_ret
        exact ⟨rfl, hb0.trans (hV.mono hb0.size)⟩
      · have hbad' : (bad == 0) = false := by simp [hbad]
        have hbad2 : (bad != 0) = true := by simp [hbad]
        go_wp2_with fail
        go_ret
        exact ⟨rfl, hb0.trans (hV.mono hb0.size)⟩
  · have ht0' : (three == 0) = false := by simp [ht0]
    by_cases ht2 : three = 2
    · subst ht2
      go_wp2_with fail
      refine (HRi.out w7).mono ?_
      rintro e w8 ⟨rfl, hb8⟩
      replace hV := bthen hV hb8
      clear q0 q1 hb8
      have q0 := (HX.out w8 hV).cell (j := 0) rfl
      have q1 := (HX.out w8 hV).cell (j := 1) rfl
      by_cases hone : one = 0
      · obtain ⟨m3, m40, e1, hm1, hm2⟩ := HL.out.most hone
        simp only at m3 m40 e1 hm1 hm2
        have HC1 := Lib.hid (HCm.out m)
        rw [e1] at HC1
        subst hone
        go_wp2_with fail
        refine (HC1.out w8).mono ?_
        rintro e w9 ⟨rfl, hb9⟩
        replace hV := bthen hV hb9
        clear q0 q1 hb9 HC1 e1
        have q0 := (HX.out w9 hV).cell (j := 0) rfl
        have q1 := (HX.out w9 hV).cell (j := 1) rfl
        by_cases hlt : m < 40
        · obtain ⟨e2, hm3⟩ := hm2 hlt
          have HC2 := Lib.hid (HCm.out (m + 1))
          rw [e2] at HC2
          clear e2 hm2
          go_wp2_with fail
          refine (HC2.out w9).mono ?_
          rintro e w10 ⟨rfl, hb10⟩
          replace hV := bthen hV hb10
          clear q0 q1 hb10 HC2
          have q0 := (HX.out w10 hV).cell (j := 0) rfl
          have q1 := (HX.out w10 hV).cell (j := 1) rfl
          by_cases hbad : bad = 0
          · obtain ⟨l1, l2, l3, l4⟩ := HL.out.large hbad
            simp only at l1 l2 l3 l4
            have HRL := Lib.hid (HRl.out l)
            rw [l4] at HRL
            subst hbad
            clear l4
            go_wp2_with fail
            refine (HRL.out w10).mono ?_
            rintro e w11 ⟨rfl, hb11⟩
            replace hV := bthen hV hb11
            go_wp2_with fail
            go_ret
            exact ⟨rfl, hb0.trans (hV.mono hb0.size)⟩
          · have hbad' : (bad == 0) = false := by simp [hbad]
            have hbad2 : (bad != 0) = true := by simp [hbad]
            go_wp2_with fail
            go_ret
            exact ⟨rfl, hb0.trans (hV.mono hb0.size)⟩
        · clear hm2
          by_cases hbad : bad = 0
          · obtain ⟨l1, l2, l3, l4⟩ := HL.out.large hbad
            simp only at l1 l2 l3 l4
            have HRL := Lib.hid (HRl.out l)
            rw [l4] at HRL
            subst hbad
            clear l4
            go_wp2_with fail
            refine (HRL.out w9).mono ?_
            rintro e w11 ⟨rfl, hb11⟩
            replace hV := bthen hV hb11
            go_wp2_with fail
            go_ret
            exact ⟨rfl, hb0.trans (hV.mono hb0.size)⟩
          · have hbad' : (bad == 0) = false := by simp [hbad]
            have hbad2 : (bad != 0) = true := by simp [hbad]
            go_wp2_with fail
            go_ret
            exact ⟨rfl, hb0.trans (hV.mono hb0.size)⟩
      · have hone' : (one == 0) = false := by simp [hone]
        by_cases hbad : bad = 0
        · obtain ⟨l1, l2, l3, l4⟩ := HL.out.large hbad
          simp only at l1 l2 l3 l4
          have HRL := Lib.hid (HRl.out l)
          rw [l4] at HRL
          subst hbad
          clear l4
          go_wp2_with fail
          refine (HRL.out w8).mono ?_
          rintro e w11 ⟨rfl, hb11⟩
          replace hV := bthen hV hb11
          go_wp2_with fail
          go_ret
          exact ⟨rfl, hb0.trans (hV.mono hb0.size)⟩
        · have hbad' : (bad == 0) = false := by simp [hbad]
          have hbad2 : (bad != 0) = true := by simp [hbad]
          go_wp2_with fail
          go_ret
          exact ⟨rfl, hb0.trans (hV.mono hb0.size)⟩
    · have ht2' : (three == 2) = false := by simp [ht2]
      have hd0 : decide (three = 0) = false := decide_eq_false ht0
      have hd2 : decide (three = 2) = false := decide_eq_false ht2
      rw [hd0, hd2] at HRi
      clear hd0 hd2
      go_wp2_with fail
      refine (HRi.out w7).mono ?_
      rintro e w8 ⟨rfl, hb8⟩
      replace hV := bthen hV hb8
      clear q0 q1 hb8
      have q0 := (HX.out w8 hV).cell (j := 0) rfl
      have q1 := (HX.out w8 hV).cell (j := 1) rfl
      by_cases hone : one = 0
      · obtain ⟨m3, m40, e1, hm1, hm2⟩ := HL.out.most hone
        simp only at m3 m40 e1 hm1 hm2
        have HC1 := Lib.hid (HCm.out m)
        rw [e1] at HC1
        subst hone
        go_wp2_with fail
        refine (HC1.out w8).mono ?_
        rintro e w9 ⟨rfl, hb9⟩
        replace hV := bthen hV hb9
        clear q0 q1 hb9 HC1 e1
        have q0 := (HX.out w9 hV).cell (j := 0) rfl
        have q1 := (HX.out w9 hV).cell (j := 1) rfl
        by_cases hlt : m < 40
        · obtain ⟨e2, hm3⟩ := hm2 hlt
          have HC2 := Lib.hid (HCm.out (m + 1))
          rw [e2] at HC2
          clear e2 hm2
          go_wp2_with fail
          refine (HC2.out w9).mono ?_
          rintro e w10 ⟨rfl, hb10⟩
          replace hV := bthen hV hb10
          clear q0 q1 hb10 HC2
          have q0 := (HX.out w10 hV).cell (j := 0) rfl
          have q1 := (HX.out w10 hV).cell (j := 1) rfl
          by_cases hbad : bad = 0
          · obtain ⟨l1, l2, l3, l4⟩ := HL.out.large hbad
            simp only at l1 l2 l3 l4
            have HRL := Lib.hid (HRl.out l)
            rw [l4] at HRL
            subst hbad
            clear l4
            go_wp2_with fail
            refine (HRL.out w10).mono ?_
            rintro e w11 ⟨rfl, hb11⟩
            replace hV := bthen hV hb11
            go_wp2_with fail
            go_ret
            exact ⟨rfl, hb0.trans (hV.mono hb0.size)⟩
          · have hbad' : (bad == 0) = false := by simp [hbad]
            have hbad2 : (bad != 0) = true := by simp [hbad]
            go_wp2_with fail
            go_ret
            exact ⟨rfl, hb0.trans (hV.mono hb0.size)⟩
        · clear hm2
          by_cases hbad : bad = 0
          · obtain ⟨l1, l2, l3, l4⟩ := HL.out.large hbad
            simp only at l1 l2 l3 l4
            have HRL := Lib.hid (HRl.out l)
            rw [l4] at HRL
            subst hbad
            clear l4
            go_wp2_with fail
            refine (HRL.out w9).mono ?_
            rintro e w11 ⟨rfl, hb11⟩
            replace hV := bthen hV hb11
            go_wp2_with fail
            go_ret
            exact ⟨rfl, hb0.trans (hV.mono hb0.size)⟩
          · have hbad' : (bad == 0) = false := by simp [hbad]
            have hbad2 : (bad != 0) = true := by simp [hbad]
            go_wp2_with fail
            go_ret
            exact ⟨rfl, hb0.trans (hV.mono hb0.size)⟩
      · have hone' : (one == 0) = false := by simp [hone]
        by_cases hbad : bad = 0
        · obtain ⟨l1, l2, l3, l4⟩ := HL.out.large hbad
          simp only at l1 l2 l3 l4
          have HRL := Lib.hid (HRl.out l)
          rw [l4] at HRL
          subst hbad
          clear l4
          go_wp2_with fail
          refine (HRL.out w8).mono ?_
          rintro e w11 ⟨rfl, hb11⟩
          replace hV := bthen hV hb11
          go_wp2_with fail
          go_ret
          exact ⟨rfl, hb0.trans (hV.mono hb0.size)⟩
        · have hbad' : (bad == 0) = false := by simp [hbad]
          have hbad2 : (bad != 0) = true := by simp [hbad]
          go_wp2_with fail
          go_ret
          exact ⟨rfl, hb0.trans (hV.mono hb0.size)⟩

set_option maxRecDepth 100000 in
theorem fnBalls_lifted (os : Os) (started : os.Started) (H : Type) (enc : TypeId × Value → H) :
    ReturnsInHanded {} Try.checked os 9 .any (Rows.fnBallsSpec.pre6 enc Try.prog Try.f9 Rows.fnBallsRow.domain false) (Rows.fnBallsSpec.post enc Try.prog Try.f9 false true false false) := by
  refine returnsInHanded_of_change (C := Try.checked) own started (by kernel_rfl) Try.func9
    (ChangeSpec.witness6 (enc := enc) (C := Try.checked) false ⟨#[], #[.slice none 0 0], []⟩ 8 (by kernel_rfl) (by kernel_rfl) (by kernel_rfl) (by kernel_rfl)) ?_
  intro W base args ds gs before hval0 hW hcnd _
  have hval : ∀ (j : Nat) t v, Try.f9.params[j]? = some t → args[j]? = some v → Value.okWide Try.prog W .any base t v := hval0
  have hlt : ∀ x ∈ before, x.block < W.heap.size := fun x hx => hW.lt x hx
  have hW' := hW
  obtain ⟨p, q, hA0, hV, rfl, hfz, hnd⟩ := hW
  have hA : DataW.TrodAll enc Try.prog W 0 (fun _ => true) true Try.f9.params.toList args.toList ds p := hA0
  rw [Try.params9] at hA hval
  obtain ⟨v0, d0, rfl, rfl, h0⟩ := trodAll_one hA
  obtain ⟨A, c, xs, rfl, hm, hx, hr⟩ := open_bytes (hval 0 54 v0 rfl rfl) h0
  refine (law_FnBalls A c xs W hr hx hm).mono fun e W' ⟨he, hb⟩ => ?_
  subst he
  exact ⟨_, rfl, law_post (tb := 4) laidOut (by kernel_rfl) rfl rfl Try.underlying4 hW' rfl hb⟩
theorem fnBalls_closed : joinedFacts Try.prog 9 Try.f9 Rows.fnBallsSpec Rows.fnBallsRow = true := by
  unfold joinedFacts; rw [mayEnter_yes, liftsFinal_no, make_cut]; kernel_rfl
theorem fnBalls_holds : Rows.FnBallsSaid :=
  OpenClaim.holds_of_wide 9 Try.f9 rfl rfl rfl rfl rfl rfl rfl ⟨rfl, rfl, rfl, rfl, rfl⟩ rfl rfl rfl rfl rfl (by kernel_rfl) Try.func9 fnBalls_closed
    (of_decide_eq_true (by kernel_rfl)) (by unfold Func.isWrapper; rw [if_neg (of_decide_eq_false (by kernel_rfl))]; exact ⟨rfl, rfl⟩)
    (fun os started H enc _ => fnBalls_lifted os started H enc)
#print axioms fnBalls_holds

end Go.Proofs.Ytmhaloigcpanpaa
