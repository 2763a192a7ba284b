/- DERIVED. Whether two parts join at a kind. By program (gjoin.py). -/
import Derived.Test.YtioblfbhjkkgoaaPartV
import Derived.Deep.RegionHeld3
namespace Go.Proofs.Ytioblfbhjkkgoaa
set_option maxRecDepth 100000
open Go.RowKit

def hasK (kind : Int) (p : PortT) : Bool := decide (p.1 = kind)
def joinB (ps qs : List PortT) (kind : Int) : Bool := match ps.find? (hasK kind), qs.find? (hasK kind) with
  | some p, some q => decide (p.2.1 = q.2.1) && (p.2.2 != q.2.2)
  | _, _ => false
theorem joinB_self (ps : List PortT) (kind : Int) : joinB ps ps kind = false := by
  unfold joinB
  cases ps.find? (hasK kind) <;> simp
theorem joinB_comm (ps qs : List PortT) (kind : Int) : joinB ps qs kind = joinB qs ps kind := by
  unfold joinB
  cases ps.find? (hasK kind) with
  | none => cases qs.find? (hasK kind) <;> rfl
  | some p =>
    cases qs.find? (hasK kind) with
    | none => rfl
    | some q =>
      have h1 : decide (p.2.1 = q.2.1) = decide (q.2.1 = p.2.1) := decide_eq_decide.2 ⟨Eq.symm, Eq.symm⟩
      have h2 : (p.2.2 != q.2.2) = (q.2.2 != p.2.2) := by cases p.2.2 <;> cases q.2.2 <;> rfl
      simp only [h1, h2]
/-- No pair of ports before this one is of the kind. -/
def NoPair (ps qs : List PortT) (kind : Int) (k l : Nat) : Prop := ∀ i j p q, (i < k ∨ i = k ∧ j < l) → ps[i]? = some p → qs[j]? = some q → ¬ (p.1 = kind ∧ q.1 = kind)
theorem joinB_hit {ps qs : List PortT} {kind : Int} {k l : Nat} {p q : PortT} (hp : ps[k]? = some p) (hq : qs[l]? = some q) (ep : p.1 = kind) (eq : q.1 = kind) (hn : NoPair ps qs kind k l) :
    joinB ps qs kind = (decide (p.2.1 = q.2.1) && (p.2.2 != q.2.2)) := by
  have h1 : ps.find? (hasK kind) = some p := by
    rw [List.find?_eq_some_iff_getElem]
    obtain ⟨hk, e⟩ := List.getElem?_eq_some_iff.1 hp
    refine ⟨by simp [hasK, ep], k, hk, e, fun j hj => ?_⟩
    have := hn j l _ q (Or.inl hj) (List.getElem?_eq_getElem (by omega)) hq
    simp only [hasK, Bool.not_eq_eq_eq_not, Bool.not_true, decide_eq_false_iff_not]
    exact fun e => this ⟨e, eq⟩
  have h2 : qs.find? (hasK kind) = some q := by
    rw [List.find?_eq_some_iff_getElem]
    obtain ⟨hl, e⟩ := List.getElem?_eq_some_iff.1 hq
    refine ⟨by simp [hasK, eq], l, hl, e, fun j hj => ?_⟩
    have := hn k j p _ (Or.inr ⟨rfl, hj⟩) hp (List.getElem?_eq_getElem (by omega))
    simp only [hasK, Bool.not_eq_eq_eq_not, Bool.not_true, decide_eq_false_iff_not]
    exact fun e => this ⟨ep, e⟩
  unfold joinB
  rw [h1, h2]
theorem joinB_no {ps qs : List PortT} {kind : Int} (hn : NoPair ps qs kind ps.length 0) : joinB ps qs kind = false := by
  unfold joinB
  cases h1 : ps.find? (hasK kind) with
  | none => rfl
  | some p =>
    cases h2 : qs.find? (hasK kind) with
    | none => rfl
    | some q =>
      exfalso
      obtain ⟨i, hi⟩ := List.mem_iff_getElem?.1 (List.mem_of_find?_eq_some h1)
      obtain ⟨j, hj⟩ := List.mem_iff_getElem?.1 (List.mem_of_find?_eq_some h2)
      have e1 := List.find?_some h1
      have e2 := List.find?_some h2
      exact hn i j p q (Or.inl (List.getElem?_eq_some_iff.1 hi).1) hi hj ⟨by simpa [hasK] using e1, by simpa [hasK] using e2⟩
theorem NoPair.next {ps qs : List PortT} {kind : Int} {k l : Nat} {p q : PortT} (hn : NoPair ps qs kind k l) (hp : ps[k]? = some p) (hq : qs[l]? = some q) (h : ¬ (p.1 = kind ∧ q.1 = kind)) : NoPair ps qs kind k (l + 1) := by
  intro i j p' q' hij hp' hq'
  by_cases e : i = k ∧ j = l
  · obtain ⟨rfl, rfl⟩ := e
    rw [hp] at hp'
    rw [hq] at hq'
    rw [← Option.some.inj hp', ← Option.some.inj hq']
    exact h
  · exact hn i j p' q' (by omega) hp' hq'
theorem NoPair.row {ps qs : List PortT} {kind : Int} {k l : Nat} (hn : NoPair ps qs kind k l) (h : qs.length ≤ l) : NoPair ps qs kind (k + 1) 0 := fun i j p q hij hp hq =>
  hn i j p q (by have := (List.getElem?_eq_some_iff.1 hq).1; omega) hp hq

set_option maxHeartbeats 2000000 in
theorem doJoin_any (x y : PartT) (pA pB : Option Addr) (pc pd : Nat) (kind : Int) (w : World) (hr : Rd w w.heap.size 3 portC pA x.ports) (hr' : Rd w w.heap.size 3 portC pB y.ports) (hm : x.ports.length ≤ 1048576) (hm' : y.ports.length ≤ 1048576) :
    Calls Try.prog 83 #[argV x pA pc, argV y pB pd, .int .i64 kind] w fun e w' => e = .returned (.bool (joinB x.ports y.ports kind)) ∧ Below w.heap.size w w' := by
  dsimp only [argV]
  go_enter Try.func83, Try.ntmps83
  go_wp2_with fail
  have c0 : ((w.alloc (.cells #[.string x.code, .int .i64 x.slot, .slice pA x.ports.length pc, .int .i64 x.price, .int .i64 x.grams] 59)).alloc (.cells #[.string y.code, .int .i64 y.slot, .slice pB y.ports.length pd, .int .i64 y.price, .int .i64 y.grams] 59)).cell? ⟨w.heap.size, 2, none⟩ = some (.slice pA x.ports.length pc) := by go_simp
  have c1 : ((w.alloc (.cells #[.string x.code, .int .i64 x.slot, .slice pA x.ports.length pc, .int .i64 x.price, .int .i64 x.grams] 59)).alloc (.cells #[.string y.code, .int .i64 y.slot, .slice pB y.ports.length pd, .int .i64 y.price, .int .i64 y.grams] 59)).cell? ⟨w.heap.size + 1, 2, none⟩ = some (.slice pB y.ports.length pd) := by go_simp
  have hbW := bthen (balloc w (.cells #[.string x.code, .int .i64 x.slot, .slice pA x.ports.length pc, .int .i64 x.price, .int .i64 x.grams] 59)) (balloc _ (.cells #[.string y.code, .int .i64 y.slot, .slice pB y.ports.length pd, .int .i64 y.price, .int .i64 y.grams] 59))
  generalize (w.alloc (.cells #[.string x.code, .int .i64 x.slot, .slice pA x.ports.length pc, .int .i64 x.price, .int .i64 x.grams] 59)).alloc (.cells #[.string y.code, .int .i64 y.slot, .slice pB y.ports.length pd, .int .i64 y.price, .int .i64 y.grams] 59) = W at c0 c1 hbW ⊢
  generalize w.heap.size + 1 = g1 at c1 ⊢
  generalize hg0 : w.heap.size = g0 at c0 ⊢
  go_loopw [14] (fun i wr => ∃ k : Nat, k ≤ x.ports.length ∧ i = .int .i64 k ∧ Below W.heap.size W wr ∧ NoPair x.ports y.ports kind k 0) (fun i _ => x.ports.length - (intOf i).toNat)
  case atStart => exact ⟨0, Nat.zero_le _, rfl, Below.refl _ _, fun i j p q h => by omega⟩
  case round =>
    obtain ⟨k, hk, rfl, hb, hn⟩ := hrel
    have Hn := Lib.hid hn; clear hn
    have f0 := (hb.cell (p := ⟨g0, 2, none⟩) (World.block_lt_of_cell? W _ c0)).trans c0
    have f1 := (hb.cell (p := ⟨g1, 2, none⟩) (World.block_lt_of_cell? W _ c1)).trans c1
    have hl0 := World.block_lt_of_cell? wr _ f0
    have hl1 := World.block_lt_of_cell? wr _ f1
    simp only at hl0 hl1
    by_cases hlt : k < x.ports.length
    · have hx : x.ports[k]? = some x.ports[k] := List.getElem?_eq_getElem hlt
      obtain ⟨b, o, rfl, hB, q0, q1, q2⟩ := (hr.below (hbW.trans (hb.mono hbW.size))).at3 hx rfl
      generalize x.ports[k] = p at q0 q1 q2 hx
      have Hx := Lib.hid hx; clear hx
      go_wp2_with fail
      have e0 : (wr.alloc (.cells #[.int .i64 p.1, .int .i64 p.2.1, .bool p.2.2] 96)).cell? ⟨wr.heap.size, 0, none⟩ = some (.int .i64 p.1) := by go_simp
      have e1 : (wr.alloc (.cells #[.int .i64 p.1, .int .i64 p.2.1, .bool p.2.2] 96)).cell? ⟨wr.heap.size, 1, none⟩ = some (.int .i64 p.2.1) := by go_simp
      have e2 : (wr.alloc (.cells #[.int .i64 p.1, .int .i64 p.2.1, .bool p.2.2] 96)).cell? ⟨wr.heap.size, 2, none⟩ = some (.bool p.2.2) := by go_simp
      have hbV := hb.alloc hb.size (.cells #[.int .i64 p.1, .int .i64 p.2.1, .bool p.2.2] 96)
      generalize wr.alloc (.cells #[.int .i64 p.1, .int .i64 p.2.1, .bool p.2.2] 96) = V at e0 e1 e2 hbV ⊢
      generalize wr.heap.size = gx at e0 e1 e2 ⊢
      clear q0 q1 q2 f0 f1 hb hl0 hl1 wr
      go_loopw [21] (fun j wr => ∃ l : Nat, l ≤ y.ports.length ∧ j = .int .i64 l ∧ Below V.heap.size V wr ∧ NoPair x.ports y.ports kind k l) (fun j _ => y.ports.length - (intOf j).toNat)
      case atStart => exact ⟨0, Nat.zero_le _, rfl, Below.refl _ _, Hn.out⟩
      case round =>
        obtain ⟨l, hl, rfl, hbi, hnn⟩ := hrel
        have Hnn := Lib.hid hnn; clear hnn
        have d0 := (hbi.cell (p := ⟨gx, 0, none⟩) (World.block_lt_of_cell? V _ e0)).trans e0
        have d1 := (hbi.cell (p := ⟨gx, 1, none⟩) (World.block_lt_of_cell? V _ e1)).trans e1
        have d2 := (hbi.cell (p := ⟨gx, 2, none⟩) (World.block_lt_of_cell? V _ e2)).trans e2
        have hgx := World.block_lt_of_cell? wr _ d0
        simp only at hgx
        have hbb : Below W.heap.size W wr := bthen' hbV hbi
        by_cases hlt2 : l < y.ports.length
        · have hy : y.ports[l]? = some y.ports[l] := List.getElem?_eq_getElem hlt2
          obtain ⟨b', o', rfl, hB', h0, h1, h2⟩ := (hr'.below (hbW.trans (hbb.mono hbW.size))).at3 hy rfl
          generalize y.ports[l] = q at h0 h1 h2 hy
          have Hy := Lib.hid hy; clear hy
          by_cases hpk : p.1 = kind
          · have hpk1 : (p.1 == kind) = true := by simp [hpk]
            by_cases hqk : q.1 = kind
            · have hqk1 : (q.1 == kind) = true := by simp [hqk]
              have HJ := Lib.hid (joinB_hit Hx.out Hy.out hpk hqk Hnn.out)
              clear hpk hqk Hnn
              go_wp2_with fail
              all_goals
                go_ret
                subst hg0
                exact ⟨ret_bool (by rw [HJ.out]; first | (simp [*]; done) | (simp [*]; cases p.2.2 <;> cases q.2.2 <;> rfl)), hbW.trans ((hbb.alloc hbb.size _).mono hbW.size)⟩
            · have hqk1 : (q.1 == kind) = false := by simp [hqk]
              have HN := Lib.hid (Hnn.out.next Hx.out Hy.out (fun h => hqk h.2))
              clear hpk hqk
              go_wp2_with fail
              exact ⟨⟨l + 1, by omega, by go_num, hbi.alloc hbi.size _, HN.out⟩, by simp [intOf]; omega⟩
          · have hpk1 : (p.1 == kind) = false := by simp [hpk]
            have HN := Lib.hid (Hnn.out.next Hx.out Hy.out (fun h => hpk h.1))
            clear hpk
            go_wp2_with fail
            exact ⟨⟨l + 1, by omega, by go_num, hbi.alloc hbi.size _, HN.out⟩, by simp [intOf]; omega⟩
        · have HN := Lib.hid (Hnn.out.row (by omega))
          go_wp2_with fail
          exact ⟨⟨k + 1, by omega, by go_num, hbb, HN.out⟩, by simp [intOf]; omega⟩
    · obtain rfl : k = x.ports.length := by omega
      have HJ := Lib.hid (joinB_no Hn.out)
      go_wp2_with fail
      go_ret
      subst hg0
      exact ⟨ret_bool HJ.out.symm, hbW.trans (hb.mono hbW.size)⟩

set_option maxHeartbeats 2000000 in
theorem l16Join_any (x y : PartT) (pA pB : Option Addr) (pc pd : Nat) (kind : Int) (w : World) (hr : Rd w w.heap.size 3 portC pA x.ports) (hr' : Rd w w.heap.size 3 portC pB y.ports) (hm : x.ports.length ≤ 1048576) (hm' : y.ports.length ≤ 1048576) :
    Calls Try.prog 81 #[argV x pA pc, argV y pB pd, .int .i64 kind] w fun e w' => e = .returned (.bool (joinB x.ports y.ports kind)) ∧ Below w.heap.size w w' := by
  dsimp only [argV]
  go_enter Try.func81, Try.ntmps81
  go_wp2_with fail
  have c0 : ((w.alloc (.cells #[.string x.code, .int .i64 x.slot, .slice pA x.ports.length pc, .int .i64 x.price, .int .i64 x.grams] 59)).alloc (.cells #[.string y.code, .int .i64 y.slot, .slice pB y.ports.length pd, .int .i64 y.price, .int .i64 y.grams] 59)).cell? ⟨w.heap.size, 2, none⟩ = some (.slice pA x.ports.length pc) := by go_simp
  have c1 : ((w.alloc (.cells #[.string x.code, .int .i64 x.slot, .slice pA x.ports.length pc, .int .i64 x.price, .int .i64 x.grams] 59)).alloc (.cells #[.string y.code, .int .i64 y.slot, .slice pB y.ports.length pd, .int .i64 y.price, .int .i64 y.grams] 59)).cell? ⟨w.heap.size + 1, 2, none⟩ = some (.slice pB y.ports.length pd) := by go_simp
  have hbW := bthen (balloc w (.cells #[.string x.code, .int .i64 x.slot, .slice pA x.ports.length pc, .int .i64 x.price, .int .i64 x.grams] 59)) (balloc _ (.cells #[.string y.code, .int .i64 y.slot, .slice pB y.ports.length pd, .int .i64 y.price, .int .i64 y.grams] 59))
  generalize (w.alloc (.cells #[.string x.code, .int .i64 x.slot, .slice pA x.ports.length pc, .int .i64 x.price, .int .i64 x.grams] 59)).alloc (.cells #[.string y.code, .int .i64 y.slot, .slice pB y.ports.length pd, .int .i64 y.price, .int .i64 y.grams] 59) = W at c0 c1 hbW ⊢
  generalize w.heap.size + 1 = g1 at c1 ⊢
  generalize hg0 : w.heap.size = g0 at c0 ⊢
  go_loopw [7] (fun i wr => ∃ k : Nat, k ≤ x.ports.length ∧ i = .int .i64 k ∧ Below W.heap.size W wr ∧ NoPair x.ports y.ports kind k 0) (fun i _ => x.ports.length - (intOf i).toNat)
  case atStart => exact ⟨0, Nat.zero_le _, rfl, Below.refl _ _, fun i j p q h => by omega⟩
  case round =>
    obtain ⟨k, hk, rfl, hb, hn⟩ := hrel
    have Hn := Lib.hid hn; clear hn
    have f0 := (hb.cell (p := ⟨g0, 2, none⟩) (World.block_lt_of_cell? W _ c0)).trans c0
    have f1 := (hb.cell (p := ⟨g1, 2, none⟩) (World.block_lt_of_cell? W _ c1)).trans c1
    have hl0 := World.block_lt_of_cell? wr _ f0
    have hl1 := World.block_lt_of_cell? wr _ f1
    simp only at hl0 hl1
    by_cases hlt : k < x.ports.length
    · have hx : x.ports[k]? = some x.ports[k] := List.getElem?_eq_getElem hlt
      obtain ⟨b, o, rfl, hB, q0, q1, q2⟩ := (hr.below (hbW.trans (hb.mono hbW.size))).at3 hx rfl
      generalize x.ports[k] = p at q0 q1 q2 hx
      have Hx := Lib.hid hx; clear hx
      go_wp2_with fail
      clear q0 q1 q2 f0 f1 hl0 hl1
      go_loopw [8] (fun j wr => ∃ l : Nat, l ≤ y.ports.length ∧ j = .int .i64 l ∧ Below W.heap.size W wr ∧ NoPair x.ports y.ports kind k l) (fun j _ => y.ports.length - (intOf j).toNat)
      case atStart => exact ⟨0, Nat.zero_le _, rfl, hb, Hn.out⟩
      case round =>
        obtain ⟨l, hl, rfl, hbi, hnn⟩ := hrel
        have Hnn := Lib.hid hnn; clear hnn
        have hbb := hbi
        have f0 := (hbb.cell (p := ⟨g0, 2, none⟩) (World.block_lt_of_cell? W _ c0)).trans c0
        have f1 := (hbb.cell (p := ⟨g1, 2, none⟩) (World.block_lt_of_cell? W _ c1)).trans c1
        have hgx := World.block_lt_of_cell? wr _ f0
        have hgx' := World.block_lt_of_cell? wr _ f1
        simp only at hgx hgx'
        by_cases hlt2 : l < y.ports.length
        · have hy : y.ports[l]? = some y.ports[l] := List.getElem?_eq_getElem hlt2
          obtain ⟨b', o', rfl, hB', h0, h1, h2⟩ := (hr'.below (hbW.trans (hbb.mono hbW.size))).at3 hy rfl
          generalize y.ports[l] = q at h0 h1 h2 hy
          have Hy := Lib.hid hy; clear hy
          obtain ⟨_, _, e', _, d0, d1, d2⟩ := (hr.below (hbW.trans (hbb.mono hbW.size))).at3 Hx.out rfl
          simp only [Option.some.injEq, Addr.mk.injEq] at e'
          obtain ⟨rfl, rfl, _⟩ := e'
          have hbB : b < wr.heap.size := by have := hbb.size; have := hbW.size; omega
          have hbB' : b' < wr.heap.size := by have := hbb.size; have := hbW.size; omega
          have HX := Lib.hid (fun o1 o2 : Obj => (bthen' (bthen' hbb (balloc wr o1)) (balloc _ o2)).drew)
          by_cases hpk : p.1 = kind
          · have hpk1 : (p.1 == kind) = true := by simp [hpk]
            by_cases hqk : q.1 = kind
            · have hqk1 : (q.1 == kind) = true := by simp [hqk]
              have HJ := Lib.hid (joinB_hit Hx.out Hy.out hpk hqk Hnn.out)
              clear hpk hqk Hnn
              go_wp2_with fail
              go_region_held3 (fun w' => w'.cell? ⟨g0, 2, none⟩ = some (.slice (some ⟨b, o, none⟩) x.ports.length pc) ∧ w'.cell? ⟨g1, 2, none⟩ = some (.slice (some ⟨b', o', none⟩) y.ports.length pd) ∧ w'.cell? ⟨b, o + k * 3, none⟩ = some (.int .i64 p.1) ∧ w'.cell? ⟨b, o + k * 3 + 1, none⟩ = some (.int .i64 p.2.1) ∧ w'.cell? ⟨b, o + k * 3 + 2, none⟩ = some (.bool p.2.2) ∧ w'.cell? ⟨b', o' + l * 3, none⟩ = some (.int .i64 q.1) ∧ w'.cell? ⟨b', o' + l * 3 + 1, none⟩ = some (.int .i64 q.2.1) ∧ w'.cell? ⟨b', o' + l * 3 + 2, none⟩ = some (.bool q.2.2)) (go_keep) (fail)
              all_goals
                go_wp2_with fail
              all_goals
                go_ret
                subst hg0
                exact ⟨ret_bool (by rw [HJ.out]; first | (simp [*]; done) | (simp [*]; cases p.2.2 <;> cases q.2.2 <;> rfl)), hbW.trans ((HX.out _ _).mono hbW.size)⟩
            · have hqk1 : (q.1 == kind) = false := by simp [hqk]
              have HN := Lib.hid (Hnn.out.next Hx.out Hy.out (fun h => hqk h.2))
              clear hpk hqk
              go_wp2_with fail
              go_region_held3 (fun w' => w'.cell? ⟨g0, 2, none⟩ = some (.slice (some ⟨b, o, none⟩) x.ports.length pc) ∧ w'.cell? ⟨g1, 2, none⟩ = some (.slice (some ⟨b', o', none⟩) y.ports.length pd) ∧ w'.cell? ⟨b, o + k * 3, none⟩ = some (.int .i64 p.1) ∧ w'.cell? ⟨b, o + k * 3 + 1, none⟩ = some (.int .i64 p.2.1) ∧ w'.cell? ⟨b, o + k * 3 + 2, none⟩ = some (.bool p.2.2) ∧ w'.cell? ⟨b', o' + l * 3, none⟩ = some (.int .i64 q.1) ∧ w'.cell? ⟨b', o' + l * 3 + 1, none⟩ = some (.int .i64 q.2.1) ∧ w'.cell? ⟨b', o' + l * 3 + 2, none⟩ = some (.bool q.2.2)) (go_keep) (fail)
              all_goals
                go_wp2_with fail
                exact ⟨⟨l + 1, by omega, by go_num, HX.out _ _, HN.out⟩, by simp [intOf]; omega⟩
          · have hpk1 : (p.1 == kind) = false := by simp [hpk]
            have HN := Lib.hid (Hnn.out.next Hx.out Hy.out (fun h => hpk h.1))
            clear hpk
            go_wp2_with fail
            go_region_held3 (fun w' => w'.cell? ⟨g0, 2, none⟩ = some (.slice (some ⟨b, o, none⟩) x.ports.length pc) ∧ w'.cell? ⟨g1, 2, none⟩ = some (.slice (some ⟨b', o', none⟩) y.ports.length pd) ∧ w'.cell? ⟨b, o + k * 3, none⟩ = some (.int .i64 p.1) ∧ w'.cell? ⟨b, o + k * 3 + 1, none⟩ = some (.int .i64 p.2.1) ∧ w'.cell? ⟨b, o + k * 3 + 2, none⟩ = some (.bool p.2.2) ∧ w'.cell? ⟨b', o' + l * 3, none⟩ = some (.int .i64 q.1) ∧ w'.cell? ⟨b', o' + l * 3 + 1, none⟩ = some (.int .i64 q.2.1) ∧ w'.cell? ⟨b', o' + l * 3 + 2, none⟩ = some (.bool q.2.2)) (go_keep) (fail)
            all_goals
              go_wp2_with fail
              exact ⟨⟨l + 1, by omega, by go_num, HX.out _ _, HN.out⟩, by simp [intOf]; omega⟩
        · have HN := Lib.hid (Hnn.out.row (by omega))
          go_wp2_with fail
          exact ⟨⟨k + 1, by omega, by go_num, hbb, HN.out⟩, by simp [intOf]; omega⟩
    · obtain rfl : k = x.ports.length := by omega
      have HJ := Lib.hid (joinB_no Hn.out)
      go_wp2_with fail
      go_ret
      subst hg0
      exact ⟨ret_bool HJ.out.symm, hbW.trans (hb.mono hbW.size)⟩

end Go.Proofs.Ytioblfbhjkkgoaa
