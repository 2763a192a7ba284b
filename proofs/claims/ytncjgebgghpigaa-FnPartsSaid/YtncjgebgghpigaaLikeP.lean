/- DERIVED. Lists of parts with equal contents are found to be alike. -/
import Derived.Test.YtncjgebgghpigaaLike
import Derived.StillTailTactics
namespace Go.Proofs.Ytncjgebgghpigaa
set_option maxRecDepth 100000
open Go.RowKit

theorem likeInts_k (A A' : Option Addr) (c c' : Nat) (xs : List Int) (w : World) (hr : Rd w w.heap.size 1 nC A xs) (hr' : Rd w w.heap.size 1 nC A' xs) (hl : xs.length ≤ 1048576) :
    Calls Try.prog 20 #[.slice A xs.length c, .slice A' xs.length c'] w fun e w' => e = .returned (.bool true) ∧ Below w.heap.size w w' := by
  have := likeInts_any A A' c c' xs xs w hr hr' hl
  rwa [decide_eq_true (rfl : xs = xs)] at this

set_option maxHeartbeats 1000000 in
theorem likeParts_k (A A' : Option Addr) (c c' : Nat) (vs : List PartT) (w : World) (hr : RdV w w.heap.size A vs) (hr' : RdV w w.heap.size A' vs) (hm : vs.length ≤ 1048576) (hp : ∀ x ∈ vs, x.ports.length ≤ 1048576) :
    Calls Try.prog 19 #[.slice A vs.length c, .slice A' vs.length c'] w fun e w' => e = .returned (.bool true) ∧ Below w.heap.size w w' := by
  have hn : ((vs.length : Int) != (vs.length : Int)) = false := by simp
  have Hr := Lib.hid hr; clear hr
  have Hr' := Lib.hid hr'; clear hr'
  have Hp := Lib.hid hp; clear hp
  go_enter Try.func19, Try.ntmps19
  go_wp2_with fail
  go_loopw [5] (fun i wr => ∃ k : Nat, k ≤ vs.length ∧ i = .int .i64 k ∧ Below w.heap.size w wr) (fun i _ => vs.length - (intOf i).toNat)
  case atStart => exact ⟨0, Nat.zero_le _, rfl, Below.refl _ _⟩
  case round =>
    obtain ⟨k, hk, rfl, hb⟩ := hrel
    by_cases hlt : k < vs.length
    · have hx : vs[k]? = some vs[k] := List.getElem?_eq_getElem hlt
      obtain ⟨b, o, rfl⟩ := Hr.out.addr (by omega)
      obtain ⟨b', o', rfl⟩ := Hr'.out.addr (by omega)
      obtain ⟨_, pA, pc, c0, c1, c2, c3, c4, hpA, _⟩ := (Hr.out.next hb).cells hx
      obtain ⟨_, pB, pd, d0, d1, d2, d3, d4, hpB, _⟩ := (Hr'.out.next hb).cells hx
      have hpl := Hp.out _ (List.mem_of_getElem? hx)
      generalize vs[k] = t at c0 c1 c2 c3 c4 d0 d1 d2 d3 d4 hpA hpB hpl hx
      have HC : Hid (∀ (v : World), Below wr.heap.size wr v → Calls Try.prog 24 #[.agg #[.string t.code, .int .i64 t.slot, .slice pA t.ports.length pc, .int .i64 t.price, .int .i64 t.grams], .agg #[.string t.code, .int .i64 t.slot, .slice pB t.ports.length pd, .int .i64 t.price, .int .i64 t.grams]] v fun e w' => e = .returned (.bool true) ∧ Below v.heap.size v w') := fun v hv => likePart_k t pA pB pc pd v (hpA.next hv) (hpB.next hv) hpl
      clear hx hpA hpB
      go_wp2_with fail
      go_still_tail 8, (by kernel_rfl)
      change wpList _ _ _ _ _ wr.drew
      have hb2 := hb.drew
      have HC2 := Lib.hid (HC.out wr.drew (bdrew wr))
      clear HC
      generalize wr.drew = w2 at hb2 HC2 ⊢
      go_wp2_with (go_at_call 24; refine HC2.out.mono ?_; rintro e w3 ⟨rfl, hb3⟩)
      exact ⟨⟨k + 1, by omega, by go_num, bthen hb2 hb3⟩, by simp [intOf]; omega⟩
    · go_wp2_with fail
      go_ret
      exact ⟨rfl, hb⟩
end Go.Proofs.Ytncjgebgghpigaa
