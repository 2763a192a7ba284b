/- DERIVED. Parts that say the same are found to be so; parts counted. -/
import Derived.Test.YtioblfbhjkkgoaaPart2
namespace Go.Proofs.Ytioblfbhjkkgoaa
set_option maxRecDepth 100000
open Go.RowKit Go.ChangeShapes Go.WideShapes Go.ChangeAt Go.Joins Go.Deep

set_option maxHeartbeats 1000000 in
theorem eqPart_yes (m n : PartM) (h : m.val = n.val) (w : World) (hr : Rd w w.heap.size 3 portC m.pA m.ports) (hr' : Rd w w.heap.size 3 portC n.pA n.ports) (hm : m.ports.length ≤ 1048576) :
    Calls Try.prog 34 #[partV m, partV n] w fun e w' => e = .returned (.bool true) ∧ Below w.heap.size w w' := by
  obtain ⟨code, slot, pA, pc, ports, price, grams⟩ := m
  obtain ⟨code', slot', pA', pc', ports', price', grams'⟩ := n
  simp only [PartM.val, PartT.mk.injEq] at h
  obtain ⟨rfl, rfl, rfl, rfl, rfl⟩ := h
  simp only at hr hr' hm
  have hbb := fun (o1 o2 : Obj) => bthen (balloc w o1) (balloc _ o2)
  dsimp only [partV]
  go_enter Try.func34, Try.ntmps34
  go_wp2_with fail
  refine (eqPortS_any pA pA' pc pc' ports ports _ ((hr.below (hbb _ _)).more (hbb _ _).size) ((hr'.below (hbb _ _)).more (hbb _ _).size) hm).mono ?_
  rw [decide_eq_true (rfl : ports = ports)]
  rintro e w1 ⟨rfl, hb1⟩
  obtain ⟨hc, hf⟩ := bcell hb1
  go_wp2_with fail
  go_ret
  exact ⟨rfl, bthen (hbb _ _) hb1⟩

set_option maxHeartbeats 1000000 in
theorem eqPartS_yes (A A' : Option Addr) (c c' : Nat) (ms ns : List PartM) (h : ms.map PartM.val = ns.map PartM.val) (w : World) (hr : RdP w w.heap.size A ms) (hr' : RdP w w.heap.size A' ns) (hm : ms.length ≤ 1048576) (hp : ∀ m ∈ ms, m.ports.length ≤ 1048576) :
    Calls Try.prog 12 #[.slice A ms.length c, .slice A' ns.length c'] w fun e w' => e = .returned (.bool true) ∧ Below w.heap.size w w' := by
  have hl : ns.length = ms.length := by
    have := congrArg List.length h
    simpa using this.symm
  rw [hl]
  have hn : ((ms.length : Int) != (ms.length : Int)) = false := by simp
  have H := Lib.hid h; clear h
  have Hp := Lib.hid hp; clear hp
  have Hr := Lib.hid hr; clear hr
  have Hr' := Lib.hid hr'; clear hr'
  go_enter Try.func12, Try.ntmps12
  go_wp2_with fail
  go_loopw [5] (fun i wr => ∃ k : Nat, k ≤ ms.length ∧ i = .int .i64 k ∧ Below w.heap.size w wr) (fun i _ => ms.length - (intOf i).toNat)
  case atStart => exact ⟨0, Nat.zero_le _, rfl, Below.refl _ _⟩
  case round =>
    obtain ⟨k, hk, rfl, hb⟩ := hrel
    by_cases hlt : k < ms.length
    · have hx : ms[k]? = some ms[k] := List.getElem?_eq_getElem hlt
      have hy : ns[k]? = some (ns[k]'(by omega)) := List.getElem?_eq_getElem (by omega)
      obtain ⟨b, o, rfl, hB, h0, h1, h2, h3, h4⟩ := (Hr.out.1.below hb).at5 hx rfl
      obtain ⟨b', o', rfl, hB', h0', h1', h2', h3', h4'⟩ := (Hr'.out.1.below hb).at5 hy rfl
      have he : (ms[k]).val = (ns[k]'(by omega)).val := by
        have := congrArg (fun l => l[k]?) H.out
        simp only [List.getElem?_map, hx, hy, Option.map_some, Option.some.injEq] at this
        exact this
      generalize ms[k] = t at h0 h1 h2 h3 h4 hx he
      generalize ns[k]'(by omega) = t' at h0' h1' h2' h3' h4' hy he
      have hpl := Hp.out t (List.mem_of_getElem? hx)
      have hp1 := ((Hr.out.2 t (List.mem_of_getElem? hx)).below hb).more hb.size
      have hp2 := ((Hr'.out.2 t' (List.mem_of_getElem? hy)).below hb).more hb.size
      have He := Lib.hid he; clear he hx hy
      go_wp2_with fail
      go_still_tail 8, (by kernel_rfl)
      change wpList _ _ _ _ _ wr.drew
      have hb2 := hb.drew
      have q1 : Rd wr.drew wr.drew.heap.size 3 portC t.pA t.ports := hp1.1
      have q2 : Rd wr.drew wr.drew.heap.size 3 portC t'.pA t'.ports := hp2.1
      generalize wr.drew = w2 at hb2 q1 q2 ⊢
      go_wp2_with (go_at_call 34; refine (eqPart_yes t t' He.out _ q1 q2 hpl).mono ?_; rintro e w3 ⟨rfl, hb3⟩)
      exact ⟨⟨k + 1, by omega, by go_num, bthen hb2 hb3⟩, by simp [intOf]; omega⟩
    · go_wp2_with fail
      go_ret
      exact ⟨rfl, hb⟩

theorem szPart_any (m : PartM) (l : Int) (hn : m.code.size ≤ maxLen) (hp : m.ports.length ≤ maxLen) (h2 : 0 ≤ l) (h3 : l ≤ 1048576) (w : World) :
    Calls Try.prog 23 #[partV m, .int .i64 l] w (SzPost w l (m.code.size ≤ 1048576 ∧ m.ports.length ≤ 1048576)) := by
  obtain ⟨code, slot, pA, pc, ports, price, grams⟩ := m
  unfold maxLen at hn hp
  simp only at hn hp ⊢
  dsimp only [partV]
  by_cases h : l - code.size < 0
  · go_enter Try.func23, Try.ntmps23
    go_wp2_with fail
    go_ret
    exact ⟨_, rfl, Or.inl rfl, balloc _ _⟩
  · by_cases h4 : l - code.size - ports.length < 0
    · go_enter Try.func23, Try.ntmps23
      go_wp2_with fail
      refine (szPortS_any _ _ _ _ (by omega) (by omega) (by omega) _).mono ?_
      rw [if_pos (by omega)]
      rintro e w1 ⟨rfl, rfl⟩
      go_wp2_with fail
      go_ret
      exact ⟨_, rfl, Or.inl rfl, balloc _ _⟩
    · go_enter Try.func23, Try.ntmps23
      go_wp2_with fail
      refine (szPortS_any _ _ _ _ (by omega) (by omega) (by omega) _).mono ?_
      rw [if_neg (by omega)]
      rintro e w1 ⟨rfl, rfl⟩
      go_wp2_with fail
      go_ret
      exact ⟨_, rfl, Or.inr ⟨by omega, by omega, by omega, by omega⟩, balloc _ _⟩

set_option maxHeartbeats 1000000 in
theorem szPartS_any (A : Option Addr) (c : Nat) (ms : List PartM) (l : Int) (w : World) (hr : RdP w w.heap.size A ms) (hm : ms.length ≤ maxLen) (hg : ∀ m ∈ ms, m.code.size ≤ maxLen ∧ m.ports.length ≤ maxLen) (h2 : 0 ≤ l) (h3 : l ≤ 1048576) :
    Calls Try.prog 5 #[.slice A ms.length c, .int .i64 l] w (SzPost w l (ms.length ≤ 1048576 ∧ ∀ m ∈ ms, m.code.size ≤ 1048576 ∧ m.ports.length ≤ 1048576)) := by
  unfold maxLen at hm
  have Hg := Lib.hid hg; clear hg
  have Hr := Lib.hid hr; clear hr
  by_cases h : l - ms.length < 0
  · go_enter Try.func5, Try.ntmps5
    go_wp2_with fail
    go_ret
    exact ⟨_, rfl, Or.inl rfl, Below.refl _ _⟩
  · go_enter Try.func5, Try.ntmps5
    go_wp2_with fail
    go_loopw [1, 5] (fun ll i wr => ∃ (k : Nat) (q : Int), k ≤ ms.length ∧ i = .int .i64 k ∧ ll = .int .i64 q ∧ 0 ≤ q ∧ q ≤ l ∧ Below w.heap.size w wr ∧ ∀ j x, j < k → ms[j]? = some x → x.code.size ≤ 1048576 ∧ x.ports.length ≤ 1048576) (fun _ i _ => ms.length - (intOf i).toNat)
    case atStart => exact ⟨0, _, Nat.zero_le _, rfl, rfl, by omega, by omega, Below.refl _ _, fun j x hj => by omega⟩
    case round =>
      obtain ⟨k, q, hk, rfl, rfl, hq0, hq1, hb, hall⟩ := hrel
      have Ha := Lib.hid hall; clear hall
      by_cases hlt : k < ms.length
      · have hx : ms[k]? = some ms[k] := List.getElem?_eq_getElem hlt
        obtain ⟨b, o, rfl, hB, h0, h1, h2', h3', h4⟩ := (Hr.out.1.below hb).at5 hx rfl
        generalize ms[k] = t at h0 h1 h2' h3' h4 hx
        have hgt := Hg.out t (List.mem_of_getElem? hx)
        have Hx := Lib.hid hx; clear hx
        go_wp2_with fail
        refine (szPart_any t q hgt.1 hgt.2 (by omega) (by omega) _).mono ?_
        rintro e w1 ⟨r, rfl, hr1, hb1⟩
        have hbb := bthen hb hb1
        rcases hr1 with rfl | ⟨r0, r1, hs⟩
        · go_wp2_with fail
          go_ret
          exact ⟨_, rfl, Or.inl rfl, hbb⟩
        · have Hs := Lib.hid hs; clear hs
          go_wp2_with fail
          exact ⟨⟨k + 1, r, by omega, by go_num, rfl, by omega, by omega, hbb, fun j x hj hjx => by
            by_cases e : j = k
            · subst e
              have := Hx.out
              rw [hjx] at this
              rw [Option.some.inj this]
              exact Hs.out
            · exact Ha.out j x (by omega) hjx⟩, by simp [intOf]; omega⟩
      · have hG : Hid (ms.length ≤ 1048576 ∧ ∀ m ∈ ms, m.code.size ≤ 1048576 ∧ m.ports.length ≤ 1048576) := ⟨by omega, fun m hm' => by
          obtain ⟨j, hj, rfl⟩ := List.getElem_of_mem hm'
          exact Ha.out j _ (by omega) (List.getElem?_eq_getElem hj)⟩
        go_wp2_with fail
        go_ret
        exact ⟨_, rfl, Or.inr ⟨by omega, by omega, hG.out⟩, hb⟩

end Go.Proofs.Ytioblfbhjkkgoaa
