/- DERIVED. What makes a part and parts, in the program and in the reference. -/
import Derived.Test.YtioblfbhjkkgoaaPartV
namespace Go.Proofs.Ytioblfbhjkkgoaa
set_option maxRecDepth 100000
open Go.RowKit

def headB (code : ByteArray) (slot : Int) (n : Nat) (price grams : Int) : Bool := wordB code && inB slot 0 7 && decide (n ≤ 6) && inB price 0 10000000 && inB grams 0 100000
theorem headB_true {code : ByteArray} {slot price grams : Int} {n : Nat} (h : headB code slot n price grams = true) : wordB code = true ∧ inB slot 0 7 = true ∧ n ≤ 6 ∧ inB price 0 10000000 = true ∧ inB grams 0 100000 = true := by
  simpa [headB, and_assoc] using h
theorem partB_head (x : PartT) : partB x = (headB x.code x.slot x.ports.length x.price x.grams && portsB x.ports) := rfl
theorem upto_next {p : Nat → Prop} {k : Nat} (h : ∀ j, j < k → p j) (hk : p k) : ∀ j, j < k + 1 → p j := fun j hj => by
  by_cases e : j = k
  · rw [e]; exact hk
  · exact h j (by omega)
theorem Later.rdv {w0 : World} {A : Option Addr} {vs : List PartT} (h : RdV w0 w0.heap.size A vs) (x : Later w0) : RdV x.w x.w.heap.size A vs := (h.below x.below).more x.below.size

set_option maxHeartbeats 1000000 in
theorem isPart_impl (x : PartT) (pA : Option Addr) (pc : Nat) (w : World) (hr : Rd w w.heap.size 3 portC pA x.ports) (hn : x.code.size ≤ maxLen) (hm : x.ports.length ≤ 1048576) (hc : x.ports.length ≤ pc) :
    Calls Try.prog 67 #[argV x pA pc] w fun e w' => e = .returned (.bool (partB x)) ∧ Below w.heap.size w w' := by
  obtain ⟨code, slot, ports, price, grams⟩ := x
  dsimp only at hr hn hm hc
  dsimp only [argV]
  by_cases hh : headB code slot ports.length price grams = true
  · obtain ⟨h1, h2, h3, h4, h5⟩ := headB_true hh
    have HW : Hid (∀ v : World, Calls Try.prog 77 #[.string code] v fun e w' => e = .returned (.bool true) ∧ v = w') := fun v => by rw [← h1]; exact isWord_impl code hn v
    have HS : Hid (∀ v : World, Calls Try.prog 68 #[.int .i64 slot] v fun e w' => e = .returned (.bool true) ∧ v = w') := fun v => by rw [← h2]; exact isSlot_any slot v
    have HP : Hid (∀ v : World, Calls Try.prog 44 #[.int .i64 price, .int .i64 0, .int .i64 10000000] v fun e w' => e = .returned (.bool true) ∧ v = w') := fun v => by rw [← h4]; exact within_any price 0 10000000 v
    have HG : Hid (∀ v : World, Calls Try.prog 44 #[.int .i64 grams, .int .i64 0, .int .i64 100000] v fun e w' => e = .returned (.bool true) ∧ v = w') := fun v => by rw [← h5]; exact within_any grams 0 100000 v
    have HB : Hid (partB ⟨code, slot, ports, price, grams⟩ = portsB ports) := by unfold Hid; rw [partB_head]; simp [hh]
    clear hh h1 h2 h4 h5
    go_enter Try.func67, Try.ntmps67
    go_wp2_with (first | (go_at_call 77; refine (HW.out _).mono ?_; rintro e w' ⟨rfl, rfl⟩) | (go_at_call 68; refine (HS.out _).mono ?_; rintro e w' ⟨rfl, rfl⟩) | (go_at_call 44; (first | (with_reducible refine (HP.out _).mono ?_) | (with_reducible refine (HG.out _).mono ?_)); rintro e w' ⟨rfl, rfl⟩))
    have c2 : (w.alloc (.cells #[.string code, .int .i64 slot, .slice pA ports.length pc, .int .i64 price, .int .i64 grams] 59)).cell? ⟨w.heap.size, 2, none⟩ = some (.slice pA ports.length pc) := by go_simp
    have hbw := balloc w (.cells #[.string code, .int .i64 slot, .slice pA ports.length pc, .int .i64 price, .int .i64 grams] 59)
    generalize w.alloc (.cells #[.string code, .int .i64 slot, .slice pA ports.length pc, .int .i64 price, .int .i64 grams] 59) = W at c2 hbw ⊢
    generalize hg0 : w.heap.size = g0 at c2 ⊢
    go_loopw [36] (fun i wr => ∃ k : Nat, k ≤ ports.length ∧ i = .int .i64 k ∧ Below W.heap.size W wr ∧ ∀ j, j < k → stepB okPort ltPort ports j = true) (fun i _ => ports.length - (intOf i).toNat)
    case atStart => exact ⟨0, Nat.zero_le _, rfl, Below.refl _ _, fun j hj => by omega⟩
    case round =>
      obtain ⟨k, hk, rfl, hb, hall⟩ := hrel
      have Ha := Lib.hid hall; clear hall
      by_cases hlt : k < ports.length
      · have hx : ports[k]? = some ports[k] := List.getElem?_eq_getElem hlt
        have hrr := hr.below (hbw.trans (hb.mono hbw.size))
        obtain ⟨b, o, rfl, hB, q0, q1, q2⟩ := hrr.at3 hx rfl
        generalize ports[k] = t at q0 q1 q2 hx
        have Hx := Lib.hid hx; clear hx
        go_wp2_with fail
        have hbx := hb.alloc hb.size (.cells #[.int .i64 t.1, .int .i64 t.2.1, .bool t.2.2] 96)
        have e0 : ∀ v : Later (wr.alloc (.cells #[.int .i64 t.1, .int .i64 t.2.1, .bool t.2.2] 96)), v.w.cell? ⟨wr.heap.size, 0, none⟩ = some (.int .i64 t.1) := Later.cell (by go_simp)
        have e1 : ∀ v : Later (wr.alloc (.cells #[.int .i64 t.1, .int .i64 t.2.1, .bool t.2.2] 96)), v.w.cell? ⟨wr.heap.size, 1, none⟩ = some (.int .i64 t.2.1) := Later.cell (by go_simp)
        have e2 : ∀ v : Later (wr.alloc (.cells #[.int .i64 t.1, .int .i64 t.2.1, .bool t.2.2] 96)), v.w.cell? ⟨wr.heap.size, 2, none⟩ = some (.bool t.2.2) := Later.cell (by go_simp)
        have e3 : ∀ v : Later (wr.alloc (.cells #[.int .i64 t.1, .int .i64 t.2.1, .bool t.2.2] 96)), v.w.cell? ⟨g0, 2, none⟩ = some (.slice (some ⟨b, o, none⟩) ports.length pc) := Later.cell ((hbx.cell (p := ⟨g0, 2, none⟩) (World.block_lt_of_cell? W _ c2)).trans c2)
        have hrx := (hrr.below ((balloc wr (.cells #[.int .i64 t.1, .int .i64 t.2.1, .bool t.2.2] 96)).mono (by have := hb.size; have := hbw.size; omega)))
        generalize wr.alloc (.cells #[.int .i64 t.1, .int .i64 t.2.1, .bool t.2.2] 96) = V at hbx e0 e1 e2 e3 hrx ⊢
        generalize wr.heap.size = gx at e0 e1 e2 ⊢
        clear q0 q1 q2 hrr
        by_cases hok : okPort t = true
        · have HC : Hid (∀ v : World, Calls Try.prog 78 #[.agg #[.int .i64 t.1, .int .i64 t.2.1, .bool t.2.2]] v fun e w' => e = .returned (.bool true) ∧ Below v.heap.size v w') := fun v => by rw [← hok]; exact isPort_impl t.1 t.2.1 t.2.2 v
          have Hok := Lib.hid hok; clear hok
          by_cases hk0 : k = 0
          · subst hk0
            have HN := Lib.hid (stepB_zero (lt := ltPort) Hx.out Hok.out)
            refine wp_region_later (by kernel_rfl) (by kernel_rfl) ?_
            repeat (go_big_quiet_step ((go_at_call 78; exact Later.call (HC.out _))))
            refine wpQuiet_nil ?_
            rintro _ ⟨⟨w2, hb2⟩, rfl⟩
            clear e0 e1 e2 e3
            go_wp2_with fail
            exact ⟨⟨1, by omega, rfl, bthen hbx hb2, upto_next Ha.out HN.out⟩, by simp [intOf]; omega⟩
          · have hk1 : 0 < k := by omega
            have hy : ports[k - 1]? = some (ports[k - 1]'(by omega)) := List.getElem?_eq_getElem (by omega)
            obtain ⟨b', o', e', _, q0, q1, q2⟩ := hrx.at3 hy rfl
            simp only [Option.some.injEq, Addr.mk.injEq] at e'
            obtain ⟨rfl, rfl, _⟩ := e'
            generalize ports[k - 1]'(by omega) = q at q0 q1 q2 hy
            have HN := Lib.hid (stepB_next (ok := okPort) (lt := ltPort) Hx.out hk1 hy Hok.out)
            clear hy q1 q2
            have e4 : ∀ v : Later V, v.w.cell? ⟨b, o + (k - 1) * 3, none⟩ = some (.int .i64 q.1) := Later.cell q0
            by_cases hq : q.1 < t.1
            · have hN : Hid (stepB okPort ltPort ports k = true) := by unfold Hid; rw [HN.out]; simp [ltPort, hq]
              clear q0 HN
              refine wp_region_later (by kernel_rfl) (by kernel_rfl) ?_
              repeat (go_big_quiet_step ((go_at_call 78; exact Later.call (HC.out _))))
              refine wpQuiet_nil ?_
              rintro _ ⟨⟨w2, hb2⟩, rfl⟩
              clear e0 e1 e2 e3 e4
              go_wp2_with fail
              exact ⟨⟨k + 1, by omega, by go_num, bthen hbx hb2, upto_next Ha.out hN.out⟩, by simp [intOf]; omega⟩
            · have hF : Hid (partB ⟨code, slot, ports, price, grams⟩ = false) := by unfold Hid; rw [HB.out]; exact chainB_false hlt (by rw [HN.out]; simp [ltPort]; omega)
              clear q0 HN
              refine wp_region_later (by kernel_rfl) (by kernel_rfl) ?_
              repeat (go_big_quiet_step ((go_at_call 78; exact Later.call (HC.out _))))
              refine wpQuiet_nil ?_
              rintro _ ⟨⟨w2, hb2⟩, rfl⟩
              clear e0 e1 e2 e3 e4
              go_wp2_with fail
              go_ret
              subst hg0
              exact ⟨ret_bool hF.out.symm, hbw.trans ((bthen hbx hb2).mono hbw.size)⟩
        · have hok' : okPort t = false := by simpa using hok
          have hF : Hid (partB ⟨code, slot, ports, price, grams⟩ = false) := by unfold Hid; rw [HB.out]; exact chainB_false hlt (stepB_bad Hx.out hok')
          have HC : Hid (∀ v : World, Calls Try.prog 78 #[.agg #[.int .i64 t.1, .int .i64 t.2.1, .bool t.2.2]] v fun e w' => e = .returned (.bool false) ∧ Below v.heap.size v w') := fun v => by rw [← hok']; exact isPort_impl t.1 t.2.1 t.2.2 v
          clear hok hok'
          refine wp_region_later (by kernel_rfl) (by kernel_rfl) ?_
          repeat (go_big_quiet_step ((go_at_call 78; exact Later.call (HC.out _))))
          refine wpQuiet_nil ?_
          rintro _ ⟨⟨w2, hb2⟩, rfl⟩
          clear e0 e1 e2 e3
          go_wp2_with fail
          go_ret
          subst hg0
          exact ⟨ret_bool hF.out.symm, hbw.trans ((bthen hbx hb2).mono hbw.size)⟩
      · have HT : Hid (portsB ports = true) := chainB_true fun j hj => Ha.out j (by omega)
        go_wp2_with fail
        go_ret
        exact ⟨ret_bool (by rw [HB.out, HT.out]), hbw.trans (hb.mono hbw.size)⟩
  · have HF : Hid (partB ⟨code, slot, ports, price, grams⟩ = false) := by unfold Hid; rw [partB_head]; simp [hh]
    have HH := Lib.hid hh; clear hh
    go_enter Try.func67, Try.ntmps67
    go_wp2_with (first | (go_at_call 77; refine (isWord_impl _ hn _).mono ?_; rintro e w' ⟨rfl, rfl⟩) | (go_at_call 68; refine (isSlot_any _ _).mono ?_; rintro e w' ⟨rfl, rfl⟩) | (go_at_call 44; refine (within_any _ _ _ _).mono ?_; rintro e w' ⟨rfl, rfl⟩))
    all_goals first
      | (go_ret; exact ⟨ret_bool HF.out.symm, balloc _ _⟩)
      | (exfalso; have := HH.out; simp_all [headB]; done)
      | (exfalso; have := HH.out; simp_all [headB]; omega)

set_option maxHeartbeats 1000000 in
theorem isPart_spec (x : PartT) (pA : Option Addr) (pc : Nat) (w : World) (hr : Rd w w.heap.size 3 portC pA x.ports) (hn : x.code.size ≤ maxLen) (hm : x.ports.length ≤ 1048576) (hc : x.ports.length ≤ pc) :
    Calls Try.prog 60 #[argV x pA pc] w fun e w' => e = .returned (.bool (partB x)) ∧ Below w.heap.size w w' := by
  obtain ⟨code, slot, ports, price, grams⟩ := x
  dsimp only at hr hn hm hc
  dsimp only [argV]
  go_enter Try.func60, Try.ntmps60
  go_wp2_with fail
  have c0 : (w.alloc (.cells #[.string code, .int .i64 slot, .slice pA ports.length pc, .int .i64 price, .int .i64 grams] 59)).cell? ⟨w.heap.size, 0, none⟩ = some (.string code) := by go_simp
  have c1 : (w.alloc (.cells #[.string code, .int .i64 slot, .slice pA ports.length pc, .int .i64 price, .int .i64 grams] 59)).cell? ⟨w.heap.size, 1, none⟩ = some (.int .i64 slot) := by go_simp
  have c2 : (w.alloc (.cells #[.string code, .int .i64 slot, .slice pA ports.length pc, .int .i64 price, .int .i64 grams] 59)).cell? ⟨w.heap.size, 2, none⟩ = some (.slice pA ports.length pc) := by go_simp
  have c3 : (w.alloc (.cells #[.string code, .int .i64 slot, .slice pA ports.length pc, .int .i64 price, .int .i64 grams] 59)).cell? ⟨w.heap.size, 3, none⟩ = some (.int .i64 price) := by go_simp
  have c4 : (w.alloc (.cells #[.string code, .int .i64 slot, .slice pA ports.length pc, .int .i64 price, .int .i64 grams] 59)).cell? ⟨w.heap.size, 4, none⟩ = some (.int .i64 grams) := by go_simp
  have hbw := balloc w (.cells #[.string code, .int .i64 slot, .slice pA ports.length pc, .int .i64 price, .int .i64 grams] 59)
  generalize w.alloc (.cells #[.string code, .int .i64 slot, .slice pA ports.length pc, .int .i64 price, .int .i64 grams] 59) = W at c0 c1 c2 c3 c4 hbw ⊢
  generalize hg0 : w.heap.size = g0 at c0 c1 c2 c3 c4 ⊢
  go_loopw [3] (fun i wr => ∃ k : Nat, k ≤ ports.length ∧ i = .int .i64 k ∧ Below W.heap.size W wr ∧ ∀ j, j < k → stepB okPort ltPort ports j = true) (fun i _ => ports.length - (intOf i).toNat)
  case atStart => exact ⟨0, Nat.zero_le _, rfl, Below.refl _ _, fun j hj => by omega⟩
  case round =>
    obtain ⟨k, hk, rfl, hb, hall⟩ := hrel
    have Ha := Lib.hid hall; clear hall
    have f0 := (hb.cell (p := ⟨g0, 0, none⟩) (World.block_lt_of_cell? W _ c0)).trans c0
    have f1 := (hb.cell (p := ⟨g0, 1, none⟩) (World.block_lt_of_cell? W _ c1)).trans c1
    have f2 := (hb.cell (p := ⟨g0, 2, none⟩) (World.block_lt_of_cell? W _ c2)).trans c2
    have f3 := (hb.cell (p := ⟨g0, 3, none⟩) (World.block_lt_of_cell? W _ c3)).trans c3
    have f4 := (hb.cell (p := ⟨g0, 4, none⟩) (World.block_lt_of_cell? W _ c4)).trans c4
    by_cases hlt : k < ports.length
    · have hx : ports[k]? = some ports[k] := List.getElem?_eq_getElem hlt
      have hrr := hr.below (hbw.trans (hb.mono hbw.size))
      obtain ⟨b, o, rfl, hB, q0, q1, q2⟩ := hrr.at3 hx rfl
      generalize ports[k] = t at q0 q1 q2 hx
      have Hx := Lib.hid hx; clear hx
      go_wp2_with fail
      have d0 : ∀ v : Later wr, v.w.cell? ⟨g0, 2, none⟩ = some (.slice (some ⟨b, o, none⟩) ports.length pc) := Later.cell f2
      have d1 : ∀ v : Later wr, v.w.cell? ⟨b, o + k * 3, none⟩ = some (.int .i64 t.1) := Later.cell q0
      have d2 : ∀ v : Later wr, v.w.cell? ⟨b, o + k * 3 + 1, none⟩ = some (.int .i64 t.2.1) := Later.cell q1
      have d3 : ∀ v : Later wr, v.w.cell? ⟨b, o + k * 3 + 2, none⟩ = some (.bool t.2.2) := Later.cell q2
      clear f0 f1 f2 f3 f4 q0 q1 q2
      by_cases hok : okPort t = true
      · have HC : Hid (∀ v : World, Calls Try.prog 74 #[.agg #[.int .i64 t.1, .int .i64 t.2.1, .bool t.2.2]] v fun e w' => e = .returned (.bool true) ∧ Below v.heap.size v w') := fun v => by rw [← hok]; exact isPort_spec t.1 t.2.1 t.2.2 v
        have Hok := Lib.hid hok; clear hok
        by_cases hk0 : k = 0
        · subst hk0
          simp only [Nat.zero_mul, Nat.add_zero] at d1 d2 d3
          have HN := Lib.hid (stepB_zero (lt := ltPort) Hx.out Hok.out)
          refine wp_region_later (by kernel_rfl) (by kernel_rfl) ?_
          repeat (go_big_quiet_step ((go_at_call 74; exact Later.call (HC.out _))))
          refine wpQuiet_nil ?_
          rintro _ ⟨⟨w2, hb2⟩, rfl⟩
          clear d0 d1 d2 d3
          go_wp2_with fail
          exact ⟨⟨1, by omega, rfl, bthen hb hb2, upto_next Ha.out HN.out⟩, by simp [intOf]; omega⟩
        · have hk1 : 0 < k := by omega
          have hy : ports[k - 1]? = some (ports[k - 1]'(by omega)) := List.getElem?_eq_getElem (by omega)
          obtain ⟨b', o', e', _, q0, q1, q2⟩ := hrr.at3 hy rfl
          simp only [Option.some.injEq, Addr.mk.injEq] at e'
          obtain ⟨rfl, rfl, _⟩ := e'
          generalize ports[k - 1]'(by omega) = q at q0 q1 q2 hy
          have HN := Lib.hid (stepB_next (ok := okPort) (lt := ltPort) Hx.out hk1 hy Hok.out)
          clear hy q1 q2
          have d4 : ∀ v : Later wr, v.w.cell? ⟨b, o + (k - 1) * 3, none⟩ = some (.int .i64 q.1) := Later.cell q0
          by_cases hq : q.1 < t.1
          · have hN : Hid (stepB okPort ltPort ports k = true) := by unfold Hid; rw [HN.out]; simp [ltPort, hq]
            clear q0 HN
            refine wp_region_later (by kernel_rfl) (by kernel_rfl) ?_
            repeat (go_big_quiet_step ((go_at_call 74; exact Later.call (HC.out _))))
            refine wpQuiet_nil ?_
            rintro _ ⟨⟨w2, hb2⟩, rfl⟩
            clear d0 d1 d2 d3 d4
            go_wp2_with fail
            exact ⟨⟨k + 1, by omega, by go_num, bthen hb hb2, upto_next Ha.out hN.out⟩, by simp [intOf]; omega⟩
          · have hF : Hid (partB ⟨code, slot, ports, price, grams⟩ = false) := by unfold Hid; rw [partB_head, show portsB ports = false from chainB_false hlt (by rw [HN.out]; simp [ltPort]; omega)]; simp
            clear q0 HN
            refine wp_region_later (by kernel_rfl) (by kernel_rfl) ?_
            repeat (go_big_quiet_step ((go_at_call 74; exact Later.call (HC.out _))))
            refine wpQuiet_nil ?_
            rintro _ ⟨⟨w2, hb2⟩, rfl⟩
            clear d0 d1 d2 d3 d4
            go_wp2_with fail
            go_ret
            subst hg0
            exact ⟨ret_bool hF.out.symm, hbw.trans ((bthen hb hb2).mono hbw.size)⟩
      · have hok' : okPort t = false := by simpa using hok
        have hF : Hid (partB ⟨code, slot, ports, price, grams⟩ = false) := by unfold Hid; rw [partB_head, show portsB ports = false from chainB_false hlt (stepB_bad Hx.out hok')]; simp
        have HC : Hid (∀ v : World, Calls Try.prog 74 #[.agg #[.int .i64 t.1, .int .i64 t.2.1, .bool t.2.2]] v fun e w' => e = .returned (.bool false) ∧ Below v.heap.size v w') := fun v => by rw [← hok']; exact isPort_spec t.1 t.2.1 t.2.2 v
        clear hok hok'
        refine wp_region_later (by kernel_rfl) (by kernel_rfl) ?_
        repeat (go_big_quiet_step ((go_at_call 74; exact Later.call (HC.out _))))
        refine wpQuiet_nil ?_
        rintro _ ⟨⟨w2, hb2⟩, rfl⟩
        clear d0 d1 d2 d3
        go_wp2_with fail
        go_ret
        subst hg0
        exact ⟨ret_bool hF.out.symm, hbw.trans ((bthen hb hb2).mono hbw.size)⟩
    · have HB : Hid (partB ⟨code, slot, ports, price, grams⟩ = headB code slot ports.length price grams) := by unfold Hid; rw [partB_head, show portsB ports = true from chainB_true fun j hj => Ha.out j (by omega)]; simp
      go_wp2_with (first | (go_at_call 75; refine (isWord_spec _ hn _).mono ?_; rintro e w' ⟨rfl, rfl⟩) | (go_at_call 61; refine (l01In_any _ _ _ _).mono ?_; rintro e w' ⟨rfl, rfl⟩))
      all_goals
        go_ret
        subst hg0
        refine ⟨ret_bool ?_, hbw.trans (hb.mono hbw.size)⟩
        rw [HB.out]
        first
          | (simp [headB, *]; done)
          | (simp [headB, *]; omega)

end Go.Proofs.Ytioblfbhjkkgoaa
