/- DERIVED. What makes parts, in the program and in the reference. By program (gparts2.py). -/
import Derived.Test.YtioblfbhjkkgoaaParts
namespace Go.Proofs.Ytioblfbhjkkgoaa
set_option maxRecDepth 100000
open Go.RowKit

set_option maxHeartbeats 1000000 in
theorem areParts_impl (A : Option Addr) (c : Nat) (vs : List PartT) (w : World) (hr : RdV w w.heap.size A vs) (hm : vs.length ≤ 1048576) (hg : ∀ x ∈ vs, x.code.size ≤ maxLen ∧ x.ports.length ≤ 1048576) :
    Calls Try.prog 52 #[.slice A vs.length c] w fun e w' => e = .returned (.bool (partsB vs)) ∧ Below w.heap.size w w' := by
  by_cases h8 : 16 < vs.length
  · have hB : partsB vs = false := by simp [partsB]; omega
    rw [hB]
    go_enter Try.func52, Try.ntmps52
    go_wp2_with fail
    go_ret
    exact ⟨rfl, Below.refl _ _⟩
  have Hg := Lib.hid hg; clear hg
  go_enter Try.func52, Try.ntmps52
  go_wp2_with fail
  go_loopw [10] (fun i wr => ∃ k : Nat, k ≤ vs.length ∧ i = .int .i64 k ∧ Below w.heap.size w wr ∧ ∀ j, j < k → stepB partB ltPart vs j = true) (fun i _ => vs.length - (intOf i).toNat)
  case atStart => exact ⟨0, Nat.zero_le _, rfl, Below.refl _ _, fun j hj => by omega⟩
  case round =>
    obtain ⟨k, hk, rfl, hb, hall⟩ := hrel
    have Ha := Lib.hid hall; clear hall
    by_cases hlt : k < vs.length
    · have hx : vs[k]? = some vs[k] := List.getElem?_eq_getElem hlt
      obtain ⟨b, o, rfl⟩ := hr.addr (by omega)
      have hrr := hr.below hb
      obtain ⟨hB, pA, pc, q0, q1, q2, q3, q4, hpr, hpc⟩ := hrr.cells hx
      generalize vs[k] = t at q0 q1 q2 q3 q4 hpr hpc hx
      have hgt := Hg.out t (List.mem_of_getElem? hx)
      obtain ⟨hgt1, hgt2⟩ := hgt
      have Hx := Lib.hid hx; clear hx
      have hpr0 := hpr.more hb.size
      go_wp2_with fail
      have hbx := hb.alloc hb.size (.cells #[.string t.code, .int .i64 t.slot, .slice pA t.ports.length pc, .int .i64 t.price, .int .i64 t.grams] 59)
      have hprx := (hpr0.below (balloc wr (.cells #[.string t.code, .int .i64 t.slot, .slice pA t.ports.length pc, .int .i64 t.price, .int .i64 t.grams] 59))).more (balloc wr (.cells #[.string t.code, .int .i64 t.slot, .slice pA t.ports.length pc, .int .i64 t.price, .int .i64 t.grams] 59)).size
      have hrx := hrr.below ((balloc wr (.cells #[.string t.code, .int .i64 t.slot, .slice pA t.ports.length pc, .int .i64 t.price, .int .i64 t.grams] 59)).mono hb.size)
      have e0 : ∀ v : Later (wr.alloc (.cells #[.string t.code, .int .i64 t.slot, .slice pA t.ports.length pc, .int .i64 t.price, .int .i64 t.grams] 59)), v.w.cell? ⟨wr.heap.size, 0, none⟩ = some (.string t.code) := Later.cell (by go_simp)
      have e1 : ∀ v : Later (wr.alloc (.cells #[.string t.code, .int .i64 t.slot, .slice pA t.ports.length pc, .int .i64 t.price, .int .i64 t.grams] 59)), v.w.cell? ⟨wr.heap.size, 1, none⟩ = some (.int .i64 t.slot) := Later.cell (by go_simp)
      have e2 : ∀ v : Later (wr.alloc (.cells #[.string t.code, .int .i64 t.slot, .slice pA t.ports.length pc, .int .i64 t.price, .int .i64 t.grams] 59)), v.w.cell? ⟨wr.heap.size, 2, none⟩ = some (.slice pA t.ports.length pc) := Later.cell (by go_simp)
      have e3 : ∀ v : Later (wr.alloc (.cells #[.string t.code, .int .i64 t.slot, .slice pA t.ports.length pc, .int .i64 t.price, .int .i64 t.grams] 59)), v.w.cell? ⟨wr.heap.size, 3, none⟩ = some (.int .i64 t.price) := Later.cell (by go_simp)
      have e4 : ∀ v : Later (wr.alloc (.cells #[.string t.code, .int .i64 t.slot, .slice pA t.ports.length pc, .int .i64 t.price, .int .i64 t.grams] 59)), v.w.cell? ⟨wr.heap.size, 4, none⟩ = some (.int .i64 t.grams) := Later.cell (by go_simp)
      generalize wr.alloc (.cells #[.string t.code, .int .i64 t.slot, .slice pA t.ports.length pc, .int .i64 t.price, .int .i64 t.grams] 59) = V at hbx hprx hrx e0 e1 e2 e3 e4 ⊢
      generalize wr.heap.size = gx at e0 e1 e2 e3 e4 ⊢
      clear q0 q1 q2 q3 q4 hrr hpr hpr0
      by_cases hok : partB t = true
      · have HC : Hid (∀ v : Later V, Calls Try.prog 67 #[.agg #[.string t.code, .int .i64 t.slot, .slice pA t.ports.length pc, .int .i64 t.price, .int .i64 t.grams]] v.w fun e w' => e = .returned (.bool true) ∧ Below v.w.heap.size v.w w') := fun v => by rw [← hok]; exact isPart_impl t pA pc v.w (Later.rd hprx v) hgt1 hgt2 hpc
        have Hok := Lib.hid hok; clear hok
        by_cases hk0 : k = 0
        · subst hk0
          have HN := Lib.hid (stepB_zero (lt := ltPart) Hx.out Hok.out)
          refine wp_region_later (by kernel_rfl) (by kernel_rfl) ?_
          repeat (go_big_quiet_step ((go_at_call 67; exact Later.call (HC.out _))))
          refine wpQuiet_nil ?_
          rintro _ ⟨⟨w2, hb2⟩, rfl⟩
          clear e0 e1 e2 e3 e4
          go_wp2_with fail
          exact ⟨⟨1, by omega, rfl, bthen hbx hb2, upto_next Ha.out HN.out⟩, by simp [intOf]; omega⟩
        · have hk1 : 0 < k := by omega
          have hy : vs[k - 1]? = some (vs[k - 1]'(by omega)) := List.getElem?_eq_getElem (by omega)
          obtain ⟨_, _, _, q0, _⟩ := hrx.cells hy
          generalize vs[k - 1]'(by omega) = q at q0 hy
          have HN := Lib.hid (stepB_next (ok := partB) (lt := ltPart) Hx.out hk1 hy Hok.out)
          clear hy
          have e5 : ∀ v : Later V, v.w.cell? ⟨b, o + (k - 1) * 5, none⟩ = some (.string q.code) := Later.cell q0
          clear q0
          by_cases hq : ltT q.code t.code = true
          · have hN : Hid (stepB partB ltPart vs k = true) := by unfold Hid; rw [HN.out]; exact hq
            have hq2 : Go.Op.bytesLess q.code.toList t.code.toList = true := hq
            clear HN hq
            refine wp_region_later (by kernel_rfl) (by kernel_rfl) ?_
            repeat (go_big_quiet_step ((go_at_call 67; exact Later.call (HC.out _))))
            refine wpQuiet_nil ?_
            rintro _ ⟨⟨w2, hb2⟩, rfl⟩
            clear e0 e1 e2 e3 e4 e5 hq2
            go_wp2_with fail
            exact ⟨⟨k + 1, by omega, by go_num, bthen hbx hb2, upto_next Ha.out hN.out⟩, by simp [intOf]; omega⟩
          · have hF : Hid (partsB vs = false) := by unfold Hid partsB; rw [chainB_false (lt := ltPart) (ok := partB) hlt (by rw [HN.out]; simpa [ltPart] using hq)]; simp
            have hq2 : Go.Op.bytesLess q.code.toList t.code.toList = false := by simpa [ltT] using hq
            clear HN hq
            refine wp_region_later (by kernel_rfl) (by kernel_rfl) ?_
            repeat (go_big_quiet_step ((go_at_call 67; exact Later.call (HC.out _))))
            refine wpQuiet_nil ?_
            rintro _ ⟨⟨w2, hb2⟩, rfl⟩
            clear e0 e1 e2 e3 e4 e5 hq2
            go_wp2_with fail
            go_ret
            exact ⟨ret_bool hF.out.symm, bthen hbx hb2⟩
      · have hok : partB t = false := by simpa using hok
        have hF : Hid (partsB vs = false) := by unfold Hid partsB; rw [chainB_false (lt := ltPart) (ok := partB) hlt (stepB_bad Hx.out hok)]; simp
        have HC : Hid (∀ v : Later V, Calls Try.prog 67 #[.agg #[.string t.code, .int .i64 t.slot, .slice pA t.ports.length pc, .int .i64 t.price, .int .i64 t.grams]] v.w fun e w' => e = .returned (.bool false) ∧ Below v.w.heap.size v.w w') := fun v => by rw [← hok]; exact isPart_impl t pA pc v.w (Later.rd hprx v) hgt1 hgt2 hpc
        clear hok
        refine wp_region_later (by kernel_rfl) (by kernel_rfl) ?_
        repeat (go_big_quiet_step ((go_at_call 67; exact Later.call (HC.out _))))
        refine wpQuiet_nil ?_
        rintro _ ⟨⟨w2, hb2⟩, rfl⟩
        clear e0 e1 e2 e3 e4
        go_wp2_with fail
        go_ret
        exact ⟨ret_bool hF.out.symm, bthen hbx hb2⟩
    · have HT : Hid (partsB vs = decide (vs.length ≤ 16)) := by unfold Hid partsB; rw [chainB_true (fun j hj => Ha.out j (by omega))]; simp
      go_wp2_with fail
      go_ret
      exact ⟨ret_bool (by rw [HT.out]; simp; omega), hb⟩

set_option maxHeartbeats 1000000 in
theorem areParts_spec (A : Option Addr) (c : Nat) (vs : List PartT) (w : World) (hr : RdV w w.heap.size A vs) (hm : vs.length ≤ 1048576) (hg : ∀ x ∈ vs, x.code.size ≤ maxLen ∧ x.ports.length ≤ 1048576) :
    Calls Try.prog 46 #[.slice A vs.length c] w fun e w' => e = .returned (.bool (partsB vs)) ∧ Below w.heap.size w w' := by
  have Hg := Lib.hid hg; clear hg
  go_enter Try.func46, Try.ntmps46
  go_wp2_with fail
  go_loopw [3] (fun i wr => ∃ k : Nat, k ≤ vs.length ∧ i = .int .i64 k ∧ Below w.heap.size w wr ∧ ∀ j, j < k → stepB partB ltPart vs j = true) (fun i _ => vs.length - (intOf i).toNat)
  case atStart => exact ⟨0, Nat.zero_le _, rfl, Below.refl _ _, fun j hj => by omega⟩
  case round =>
    obtain ⟨k, hk, rfl, hb, hall⟩ := hrel
    have Ha := Lib.hid hall; clear hall
    by_cases hlt : k < vs.length
    · have hx : vs[k]? = some vs[k] := List.getElem?_eq_getElem hlt
      obtain ⟨b, o, rfl⟩ := hr.addr (by omega)
      have hrr := hr.below hb
      obtain ⟨hB, pA, pc, q0, q1, q2, q3, q4, hpr, hpc⟩ := hrr.cells hx
      generalize vs[k] = t at q0 q1 q2 q3 q4 hpr hpc hx
      have hgt := Hg.out t (List.mem_of_getElem? hx)
      obtain ⟨hgt1, hgt2⟩ := hgt
      have Hx := Lib.hid hx; clear hx
      have hpr0 := hpr.more hb.size
      go_wp2_with fail
      have e0 : ∀ v : Later (wr), v.w.cell? ⟨b, o + k * 5, none⟩ = some (.string t.code) := Later.cell (q0)
      have e1 : ∀ v : Later (wr), v.w.cell? ⟨b, o + k * 5 + 1, none⟩ = some (.int .i64 t.slot) := Later.cell (q1)
      have e2 : ∀ v : Later (wr), v.w.cell? ⟨b, o + k * 5 + 2, none⟩ = some (.slice pA t.ports.length pc) := Later.cell (q2)
      have e3 : ∀ v : Later (wr), v.w.cell? ⟨b, o + k * 5 + 3, none⟩ = some (.int .i64 t.price) := Later.cell (q3)
      have e4 : ∀ v : Later (wr), v.w.cell? ⟨b, o + k * 5 + 4, none⟩ = some (.int .i64 t.grams) := Later.cell (q4)
      have hbx := hb
      have hprx := hpr0
      have hrx := hrr
      clear q0 q1 q2 q3 q4 hrr hpr hpr0
      by_cases hok : partB t = true
      · have HC : Hid (∀ v : Later wr, Calls Try.prog 60 #[.agg #[.string t.code, .int .i64 t.slot, .slice pA t.ports.length pc, .int .i64 t.price, .int .i64 t.grams]] v.w fun e w' => e = .returned (.bool true) ∧ Below v.w.heap.size v.w w') := fun v => by rw [← hok]; exact isPart_spec t pA pc v.w (Later.rd hprx v) hgt1 hgt2 hpc
        have Hok := Lib.hid hok; clear hok
        by_cases hk0 : k = 0
        · subst hk0
          simp only [Nat.zero_mul, Nat.add_zero] at e0 e1 e2 e3 e4
          have HN := Lib.hid (stepB_zero (lt := ltPart) Hx.out Hok.out)
          refine wp_region_later (by kernel_rfl) (by kernel_rfl) ?_
          repeat (go_big_quiet_step ((go_at_call 60; exact Later.call (HC.out _))))
          refine wpQuiet_nil ?_
          rintro _ ⟨⟨w2, hb2⟩, rfl⟩
          clear e0 e1 e2 e3 e4
          go_wp2_with fail
          exact ⟨⟨1, by omega, rfl, bthen hbx hb2, upto_next Ha.out HN.out⟩, by simp [intOf]; omega⟩
        · have hk1 : 0 < k := by omega
          have hy : vs[k - 1]? = some (vs[k - 1]'(by omega)) := List.getElem?_eq_getElem (by omega)
          obtain ⟨_, _, _, q0, _⟩ := hrx.cells hy
          generalize vs[k - 1]'(by omega) = q at q0 hy
          have HN := Lib.hid (stepB_next (ok := partB) (lt := ltPart) Hx.out hk1 hy Hok.out)
          clear hy
          have e5 : ∀ v : Later wr, v.w.cell? ⟨b, o + (k - 1) * 5, none⟩ = some (.string q.code) := Later.cell q0
          clear q0
          by_cases hq : ltT q.code t.code = true
          · have hN : Hid (stepB partB ltPart vs k = true) := by unfold Hid; rw [HN.out]; exact hq
            have hq2 : Go.Op.bytesLess q.code.toList t.code.toList = true := hq
            clear HN hq
            refine wp_region_later (by kernel_rfl) (by kernel_rfl) ?_
            repeat (go_big_quiet_step ((go_at_call 60; exact Later.call (HC.out _))))
            refine wpQuiet_nil ?_
            rintro _ ⟨⟨w2, hb2⟩, rfl⟩
            clear e0 e1 e2 e3 e4 e5 hq2
            go_wp2_with fail
            exact ⟨⟨k + 1, by omega, by go_num, bthen hbx hb2, upto_next Ha.out hN.out⟩, by simp [intOf]; omega⟩
          · have hF : Hid (partsB vs = false) := by unfold Hid partsB; rw [chainB_false (lt := ltPart) (ok := partB) hlt (by rw [HN.out]; simpa [ltPart] using hq)]; simp
            have hq2 : Go.Op.bytesLess q.code.toList t.code.toList = false := by simpa [ltT] using hq
            clear HN hq
            refine wp_region_later (by kernel_rfl) (by kernel_rfl) ?_
            repeat (go_big_quiet_step ((go_at_call 60; exact Later.call (HC.out _))))
            refine wpQuiet_nil ?_
            rintro _ ⟨⟨w2, hb2⟩, rfl⟩
            clear e0 e1 e2 e3 e4 e5 hq2
            go_wp2_with fail
            go_ret
            exact ⟨ret_bool hF.out.symm, bthen hbx hb2⟩
      · have hok : partB t = false := by simpa using hok
        have hF : Hid (partsB vs = false) := by unfold Hid partsB; rw [chainB_false (lt := ltPart) (ok := partB) hlt (stepB_bad Hx.out hok)]; simp
        have HC : Hid (∀ v : Later wr, Calls Try.prog 60 #[.agg #[.string t.code, .int .i64 t.slot, .slice pA t.ports.length pc, .int .i64 t.price, .int .i64 t.grams]] v.w fun e w' => e = .returned (.bool false) ∧ Below v.w.heap.size v.w w') := fun v => by rw [← hok]; exact isPart_spec t pA pc v.w (Later.rd hprx v) hgt1 hgt2 hpc
        clear hok
        refine wp_region_later (by kernel_rfl) (by kernel_rfl) ?_
        repeat (go_big_quiet_step ((go_at_call 60; exact Later.call (HC.out _))))
        refine wpQuiet_nil ?_
        rintro _ ⟨⟨w2, hb2⟩, rfl⟩
        clear e0 e1 e2 e3 e4
        go_wp2_with fail
        go_ret
        exact ⟨ret_bool hF.out.symm, bthen hbx hb2⟩
    · have HT : Hid (partsB vs = decide (vs.length ≤ 16)) := by unfold Hid partsB; rw [chainB_true (fun j hj => Ha.out j (by omega))]; simp
      go_wp2_with fail
      go_ret
      exact ⟨ret_bool (by rw [HT.out]; exact decide_eq_decide.2 (by omega)), hb⟩

end Go.Proofs.Ytioblfbhjkkgoaa
