/- DERIVED. What the laws compare results by: equal contents are found to be alike. -/
import Derived.Test.YtncjgebgghpigaaSl
import Derived.Test.YtncjgebgghpigaaFlPort
import Derived.Test.YtncjgebgghpigaaPart3
import Derived.Test.YtncjgebgghpigaaKitPart1
namespace Go.Proofs.Ytncjgebgghpigaa
set_option maxRecDepth 100000
open Go.RowKit Go.ChangeShapes Go.WideShapes Go.ChangeAt Go.Joins Go.Deep

set_option maxHeartbeats 400000 in
theorem likeInts_any (A A' : Option Addr) (c c' : Nat) (xs ys : List Int) (w : World) (hr : Rd w w.heap.size 1 nC A xs) (hr' : Rd w w.heap.size 1 nC A' ys) (hm : xs.length ≤ 1048576) :
    Calls Try.prog 20 #[.slice A xs.length c, .slice A' ys.length c'] w fun e w' => e = .returned (.bool (decide (xs = ys))) ∧ Below w.heap.size w w' := by
  by_cases hl : xs.length = ys.length
  · have hn : ((xs.length : Int) != (ys.length : Int)) = false := by simp [hl]
    have Hl := Lib.hid hl; clear hl
    go_enter Try.func20, Try.ntmps20
    go_wp2_with fail
    go_loopw [5] (fun i wr => ∃ k : Nat, k ≤ xs.length ∧ i = .int .i64 k ∧ Below w.heap.size w wr ∧ xs.take k = ys.take k) (fun i _ => xs.length - (intOf i).toNat)
    case atStart => exact ⟨0, Nat.zero_le _, rfl, Below.refl _ _, rfl⟩
    case round =>
      obtain ⟨k, hk, rfl, hb, hpre⟩ := hrel
      have Hp := Lib.hid hpre; clear hpre
      by_cases hlt : k < xs.length
      · have hlt' : k < ys.length := by have := Hl.out; omega
        have hx : xs[k]? = some xs[k] := List.getElem?_eq_getElem hlt
        have hy : ys[k]? = some ys[k] := List.getElem?_eq_getElem hlt'
        obtain ⟨b, o, rfl, hB, h0⟩ := (hr.below hb).at1 hx rfl
        obtain ⟨b', o', rfl, hB', h0'⟩ := (hr'.below hb).at1 hy rfl
        rw [Nat.mul_one] at h0 h0'
        generalize xs[k] = t at h0 hx
        generalize ys[k] = t' at h0' hy
        have Hx := Lib.hid hx; clear hx
        have Hy := Lib.hid hy; clear hy
        by_cases ht : t = t'
        · have htt : (t != t') = false := by simp [ht]
          have Ht := Lib.hid ht; clear ht
          go_wp2_with fail
          go_quiet (fail)
          go_wp2_with fail
          exact ⟨⟨k + 1, by omega, by go_num, below_drewN hb _, take_next Hp.out Hx.out Hy.out Ht.out⟩, by simp [intOf]; omega⟩
        · have htt : (t != t') = true := by simp [ht]
          have hne : decide (xs = ys) = false := decide_eq_false (ne_next Hx.out Hy.out ht)
          have Ht := Lib.hid ht; clear ht
          have Hne := Lib.hid hne; clear hne
          go_wp2_with fail
          go_quiet (fail)
          go_wp2_with fail
          go_ret
          exact ⟨ret_bool Hne.out.symm, below_drewN hb _⟩
      · have e : decide (xs = ys) = true := decide_eq_true (take_all Hp.out Hl.out (by omega))
        have E := Lib.hid e; clear e
        go_wp2_with fail
        go_ret
        exact ⟨ret_bool E.out.symm, hb⟩
  · have hd : decide (xs = ys) = false := by simp; intro h; exact hl (by rw [h])
    have hn : ((xs.length : Int) != (ys.length : Int)) = true := by simp; omega
    rw [hd]
    go_enter Try.func20, Try.ntmps20
    go_wp2_with fail
    go_ret
    exact ⟨rfl, Below.refl _ _⟩

set_option maxHeartbeats 400000 in
theorem likePorts_k (A A' : Option Addr) (c c' : Nat) (xs : List PortT) (w : World) (hr : Rd w w.heap.size 3 portC A xs) (hr' : Rd w w.heap.size 3 portC A' xs) (hm : xs.length ≤ 1048576) :
    Calls Try.prog 45 #[.slice A xs.length c, .slice A' xs.length c'] w fun e w' => e = .returned (.bool true) ∧ Below w.heap.size w w' := by
  have hn : ((xs.length : Int) != (xs.length : Int)) = false := by simp
  go_enter Try.func45, Try.ntmps45
  go_wp2_with fail
  go_loopw [5] (fun i wr => ∃ k : Nat, k ≤ xs.length ∧ i = .int .i64 k ∧ Below w.heap.size w wr) (fun i _ => xs.length - (intOf i).toNat)
  case atStart => exact ⟨0, Nat.zero_le _, rfl, Below.refl _ _⟩
  case round =>
    obtain ⟨k, hk, rfl, hb⟩ := hrel
    by_cases hlt : k < xs.length
    · have hx : xs[k]? = some xs[k] := List.getElem?_eq_getElem hlt
      obtain ⟨b, o, rfl, hB, h0, h1, h2⟩ := (hr.below hb).at3 hx rfl
      obtain ⟨b', o', rfl, hB', h0', h1', h2'⟩ := (hr'.below hb).at3 hx rfl
      clear hx
      generalize xs[k] = t at h0 h1 h2 h0' h1' h2'
      go_wp2_with fail
      go_quiet (fail)
      go_wp2_with fail
      exact ⟨⟨k + 1, by omega, by go_num, below_drewN hb _⟩, by simp [intOf]; omega⟩
    · go_wp2_with fail
      go_ret
      exact ⟨rfl, hb⟩

set_option maxHeartbeats 1000000 in
theorem likePart_k (x : PartT) (pA pB : Option Addr) (pc pd : Nat) (w : World) (hr : Rd w w.heap.size 3 portC pA x.ports) (hr' : Rd w w.heap.size 3 portC pB x.ports) (hm : x.ports.length ≤ 1048576) :
    Calls Try.prog 24 #[argV x pA pc, argV x pB pd] w fun e w' => e = .returned (.bool true) ∧ Below w.heap.size w w' := by
  have hbb := fun (o1 o2 : Obj) => bthen (balloc w o1) (balloc _ o2)
  unfold argV
  go_enter Try.func24, Try.ntmps24
  go_wp2_with fail
  refine (likePorts_k pA pB pc pd x.ports _ ((hr.below (hbb _ _)).more (hbb _ _).size) ((hr'.below (hbb _ _)).more (hbb _ _).size) hm).mono ?_
  rintro e w1 ⟨rfl, hb1⟩
  go_wp2_with fail
  go_ret
  exact ⟨rfl, bthen (hbb _ _) hb1⟩

end Go.Proofs.Ytncjgebgghpigaa
