/- DERIVED. What the laws compare rows of numbers by. By program (glike2.py). -/
import Derived.Test.YtfdnpobppelhaaaLike2
import Derived.Test.YtfdnpobppelhaaaRowI
namespace Go.Proofs.Ytfdnpobppelhaaa
set_option maxRecDepth 100000
open Go.RowKit

set_option maxHeartbeats 1000000 in
theorem likeRows_k (A A' : Option Addr) (c c' : Nat) (ms ns : List RowI) (w : World) (hr : RdJ w w.heap.size A ms) (hr' : RdJ w w.heap.size A' ns) (he : ms.map RowI.ns = ns.map RowI.ns) (hm : ms.length ≤ 1048576) (hp : ∀ m ∈ ms, m.ns.length ≤ 1048576) :
    Calls Try.prog 55 #[.slice A ms.length c, .slice A' ns.length c'] w fun e w' => e = .returned (.bool true) ∧ Below w.heap.size w w' := by
  have hl : ms.length = ns.length := by
    have := congrArg List.length he
    rwa [List.length_map, List.length_map] at this
  have hn : ((ms.length : Int) != (ns.length : Int)) = false := by simp [hl]
  have Hl := Lib.hid hl; clear hl
  have He := Lib.hid he; clear he
  have Hr := Lib.hid hr; clear hr
  have Hr' := Lib.hid hr'; clear hr'
  have Hp := Lib.hid hp; clear hp
  go_enter Try.func55, Try.ntmps55
  go_wp2_with fail
  go_loopw [5] (fun i wr => ∃ k : Nat, k ≤ ms.length ∧ i = .int .i64 k ∧ Below w.heap.size w wr) (fun i _ => ms.length - (intOf i).toNat)
  case atStart => exact ⟨0, Nat.zero_le _, rfl, Below.refl _ _⟩
  case round =>
    obtain ⟨k, hk, rfl, hb⟩ := hrel
    by_cases hlt : k < ms.length
    · have hlt' : k < ns.length := by have := Hl.out; omega
      have hx : ms[k]? = some ms[k] := List.getElem?_eq_getElem hlt
      have hy : ns[k]? = some ns[k] := List.getElem?_eq_getElem hlt'
      have hev : (ns[k]).ns = (ms[k]).ns := by
        have h1 : (ms.map RowI.ns)[k]? = some (ms[k]).ns := by rw [List.getElem?_map, hx]; rfl
        have h2 : (ns.map RowI.ns)[k]? = some (ns[k]).ns := by rw [List.getElem?_map, hy]; rfl
        rw [He.out, h2] at h1
        exact Option.some.inj h1
      have hi1 := ((Hr.out.2 _ (List.mem_of_getElem? hx)).below hb).more hb.size
      have hi2 := ((Hr'.out.2 _ (List.mem_of_getElem? hy)).below hb).more hb.size
      have htl := Hp.out _ (List.mem_of_getElem? hx)
      obtain ⟨b, o, hA, hB, h0⟩ := (Hr.out.1.below hb).at1 hx rfl
      obtain ⟨b', o', hA', hB', h0'⟩ := (Hr'.out.1.below hb).at1 hy rfl
      rw [Nat.mul_one] at h0 h0'
      subst hA
      subst hA'
      generalize ms[k] = t at h0 hx hi1 htl hev
      generalize ns[k] = t' at h0' hy hi2 hev
      rw [hev] at hi2 h0'
      have HC : Hid (∀ (v : World), Below wr.heap.size wr v → Calls Try.prog 30 #[.slice t.A t.ns.length t.c, .slice t'.A t.ns.length t'.c] v fun e w' => e = .returned (.bool true) ∧ Below v.heap.size v w') := fun v hv => likeInts_k t.A t'.A t.c t'.c t.ns v (hi1.next hv) (hi2.next hv) htl
      clear hx hy hi1 hi2 hev
      go_wp2_with fail
      go_still_tail 8, (by kernel_rfl)
      change wpList _ _ _ _ _ wr.drew
      have hb2 := hb.drew
      have HC2 := Lib.hid (HC.out wr.drew (bdrew wr))
      clear HC
      generalize wr.drew = w2 at hb2 HC2 ⊢
      go_wp2_with (go_at_call 30; refine HC2.out.mono ?_; rintro e w3 ⟨rfl, hb3⟩)
      exact ⟨⟨k + 1, by omega, by go_num, bthen hb2 hb3⟩, by simp [intOf]; omega⟩
    · go_wp2_with fail
      go_ret
      exact ⟨rfl, hb⟩
theorem likeRows_r (A A' : Option Addr) (c c' : Nat) (rs : List (List Int)) (w : World) (hr : RdI w w.heap.size A rs) (hr' : RdI w w.heap.size A' rs) (hs : SmallI rs) :
    Calls Try.prog 55 #[.slice A rs.length c, .slice A' rs.length c'] w fun e w' => e = .returned (.bool true) ∧ Below w.heap.size w w' := by
  obtain ⟨ms, e1, h1⟩ := hr
  obtain ⟨ns, e2, h2⟩ := hr'
  have l1 : rs.length = ms.length := by rw [← e1, List.length_map]
  have l2 : rs.length = ns.length := by rw [← e2, List.length_map]
  have := likeRows_k A A' c c' ms ns w h1 h2 (e1.trans e2.symm) (by rw [← l1]; exact hs.1) (fun m hm => hs.2 m.ns (by rw [← e1]; exact List.mem_map.2 ⟨m, hm, rfl⟩))
  rw [← l1, ← l2] at this
  exact this

end Go.Proofs.Ytfdnpobppelhaaa
