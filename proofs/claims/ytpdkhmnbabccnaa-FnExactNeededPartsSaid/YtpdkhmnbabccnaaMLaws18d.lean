/- DERIVED. The laws on usable and needed parts. -/
import Derived.Test.YtpdkhmnbabccnaaTimes2
import Derived.Test.YtpdkhmnbabccnaaSl
import Derived.Test.YtpdkhmnbabccnaaFlJoint
import Derived.Test.YtpdkhmnbabccnaaKit
import Derived.Test.YtpdkhmnbabccnaaKitPart
import Derived.Test.YtpdkhmnbabccnaaHead
import Derived.Lib.SmallJoins
import Derived.Deep.Slices
import Derived.Deep.Fields
import Derived.ChangeMaps5
import Derived.Carry
import Derived.Deep.RegionHeld3

namespace Go.Proofs.Ytpdkhmnbabccnaa
set_option maxRecDepth 100000
open Go.RowKit

theorem idxTo_map {α β : Type} (p : β → Bool) (f : α → β) (xs : List α) : ∀ k, idxTo p (xs.map f) k = idxTo (fun x => p (f x)) xs k
  | 0 => rfl
  | k + 1 => by
    unfold idxTo
    rw [List.getElem?_map, idxTo_map p f xs k]
    cases xs[k]? <;> rfl
theorem bothB_slots {vs : List PartT} {js : List JointT} (h : bothB vs js = true) : ∀ x ∈ vs, 0 ≤ x.slot ∧ x.slot < 8 := fun x hx => by
  have := partsB_mem (bothB_true h).1 hx
  have h0 := this.slot0
  have h1 := this.slot7
  omega
theorem allB_eight {vs : List PartT} {js : List JointT} (h : bothB vs js = true) {ms : List RowM} (e : ms.map RowM.bs = allB vs js) : ∀ m ∈ ms, m.bs.length = 8 := fun m hm =>
  (founds_codes (bothB_true h).1 (show m.bs ∈ allB vs js by rw [← e]; exact List.mem_map.2 ⟨m, hm, rfl⟩)).len
theorem allB_few {vs : List PartT} {js : List JointT} (h : bothB vs js = true) {ms : List RowM} (e : ms.map RowM.bs = allB vs js) : ms.length ≤ 131071 := by
  rw [← List.length_map (f := RowM.bs), e]
  exact allB_len js (bothB_true h).1

set_option maxHeartbeats 2000000 in
theorem UsableParts_impl (LA JA : Option Addr) (lc jc : Nat) (vs : List PartT) (js : List JointT) (w : World) (hr : RdV w w.heap.size LA vs) (hr2 : Rd w w.heap.size 3 jointC JA js) (hs : SmallV vs) (hm2 : js.length ≤ 1048576) :
    Calls Try.prog 76 #[.slice LA vs.length lc, .slice JA js.length jc] w (GivesRes w 2 1 nC (usableR vs js)) := by
  have hBo := areBoth_any LA JA lc jc vs js w hr hr2 hs hm2
  by_cases hb : bothB vs js = true
  · have HB : Hid (∀ v : World, RdV v v.heap.size LA vs → Rd v v.heap.size 3 jointC JA js → Calls Try.prog 159 #[.slice LA vs.length lc, .slice JA js.length jc] v (GivesRowsN v (allB vs js) (nodesOf (tr vs js)))) := fun v h1 h2 => bicycles_any LA JA lc jc vs js v h1 h2 hs hb
    have HTU : Hid (∀ (v : World) (A : Option Addr) (c : Nat) (ms : List RowM), RdV v v.heap.size LA vs → Rd v v.heap.size 1 rowC A ms → (∀ m ∈ ms, Rd v v.heap.size 1 tC m.A m.bs) → ms.map RowM.bs = allB vs js → Calls Try.prog 160 #[.slice LA vs.length lc, .slice A ms.length c] v (GivesOwn v 3 1 nC (vs.map (timesOf (allB vs js))))) := fun v A c ms h1 h2 h3 e => by
      have := timesUsed_any LA A lc c vs ms v h1 (partsB_len (bothB_true hb).1) (bothB_slots hb) h2 h3 (allB_eight hb e) (allB_few hb e)
      rwa [e] at this
    have HML : Hid (∀ ms : List RowM, ms.map RowM.bs = allB vs js → ms.length ≤ 131071 ∧ ms.length = (allB vs js).length) := fun ms e => ⟨allB_few hb e, by rw [← e, List.length_map]⟩
    have HT16 : Hid ((vs.map (timesOf (allB vs js))).length ≤ 16) := by
      unfold Hid
      rw [List.length_map]
      exact partsB_len (bothB_true hb).1
    have HR : Hid (usableR vs js = (idxTo (fun t => decide (0 < t)) (vs.map (timesOf (allB vs js))) (vs.map (timesOf (allB vs js))).length, 0)) := by
      unfold Hid usableR
      rw [if_pos hb, idxTo_map, List.length_map]
    rw [hb] at hBo
    have HBo := Lib.hid hBo; clear hBo hb hs hm2
    generalize usableR vs js = R at HR ⊢
    generalize vs.map (timesOf (allB vs js)) = T at HTU HR HT16
    go_enter Try.func76, Try.ntmps76
    go_wp2_with fail
    refine HBo.out.mono ?_
    rintro e w1 ⟨rfl, hb1⟩
    go_wp2_with fail
    refine (HB.out w1 (hr.next hb1) (hr2.next hb1)).mono ?_
    rintro e w2 ⟨A, c, ms, rfl, hms, fms, rms, hb2⟩
    have hb12 := bthen hb1 hb2
    obtain ⟨hml, hmle⟩ := HML.out ms hms
    have HTC := Lib.hid (HTU.out w2 A c ms (hr.next hb12) fms.rd (fun m hm => (rms m hm).1.rd) hms)
    clear HTU HML HB hms fms rms
    have hT16 := HT16.out
    clear hmle
    go_wp2_with fail
    refine HTC.out.mono ?_
    rintro e w3 ⟨TA, tc, rfl, hfT, htc, hb3⟩
    have hb13 := bthen hb12 hb3
    have HFT := Lib.hid hfT; clear hfT HTC
    go_wp2_with fail
    go_loopw [8, 25] (fun out i wr => ∃ (k : Nat) (A' : Option Addr) (c' : Nat), k ≤ T.length ∧ i = .int .i64 k ∧ out = .slice A' (idxTo (fun t => decide (0 < t)) T k).length c' ∧ Own wr w3.heap.size 2 1 nC A' c' (idxTo (fun t => decide (0 < t)) T k) ∧ Below w3.heap.size w3 wr) (fun _ i _ => T.length - (intOf i).toNat)
    case atStart => exact ⟨0, none, 0, Nat.zero_le _, rfl, rfl, Own.nil, Below.refl _ _⟩
    case round =>
      obtain ⟨k, A', c', hk, rfl, rfl, hown, hb⟩ := hrel
      have Ho := Lib.hid hown; clear hown
      have hbase := hb.size
      by_cases hlt : k < T.length
      · have hx : T[k]? = some T[k] := List.getElem?_eq_getElem hlt
        obtain ⟨g, rfl⟩ := HFT.out.some (by omega)
        have q0 := (HFT.out.below hb (Nat.le_refl _)).cell1 hx rfl
        generalize T[k] = t at q0 hx
        have hle1 := idxTo_le (fun t => decide (0 < t)) T k
        by_cases hP : 0 < t
        · have HD := Lib.hid (idxTo_yes (p := fun t => decide (0 < t)) hx (by simpa using hP))
          have hPb : decide (t > 0) = true := by simpa using hP
          clear hP hx
          generalize idxTo (fun t => decide (0 < t)) T k = l1 at HD Ho hle1 ⊢
          go_wp2_with (at_builtin; refine wpList_append_el rfl _ _ _ rfl (w3.heap.size) 2 (.int .i64 0) 1 8 Try.underlying53 infoInt64 rfl (by omega) (by omega) nC l1 (k : Int) A' c' rfl (Ho.out.keep (balloc _ _)) (wr.heap.size) _ rfl rfl (one_cell (by go_simp)) (by simp [nC]; rfl) (by omega) (by simp; omega) ?_)
          intro A2 c2 w4 hown4 hgr hb4
          have Ho4 := Lib.hid hown4; clear hown4
          go_wp2_with fail
          exact ⟨⟨k + 1, A2, c2, by omega, by go_num, by rw [HD.out]; simp, by rw [HD.out]; exact Ho4.out, (hb.alloc hb.size _).trans hb4⟩, by simp [intOf]; omega⟩
        · have HD := Lib.hid (idxTo_no (p := fun t => decide (0 < t)) hx (by simpa using hP))
          have hPb : decide (t > 0) = false := by simpa using hP
          clear hP hx
          generalize idxTo (fun t => decide (0 < t)) T k = l1 at HD Ho hle1 ⊢
          go_wp2_with fail
          exact ⟨⟨k + 1, A', c', by omega, by go_num, by rw [HD.out], by rw [HD.out]; exact Ho.out, hb⟩, by simp [intOf]; omega⟩
      · obtain rfl : k = T.length := by omega
        go_wp2_with fail
        go_ret2
        exact ⟨A', c', by rw [HR.out]; rfl, by rw [HR.out]; exact (Ho.out.flat (fun _ => rfl)).mono hb13.size (Nat.le_refl _), by rw [HR.out]; exact Ho.out.cap, bthen hb13 hb⟩
  · have HR : Hid (usableR vs js = ([], 1)) := by unfold Hid usableR; rw [if_neg hb]
    have hb' : bothB vs js = false := by simpa using hb
    rw [hb'] at hBo
    have HBo := Lib.hid hBo; clear hBo hb hb' hs hm2
    generalize usableR vs js = R at HR ⊢
    go_enter Try.func76, Try.ntmps76
    go_wp2_with fail
    refine HBo.out.mono ?_
    rintro e w1 ⟨rfl, hb1⟩
    go_wp2_with fail
    go_ret2
    exact ⟨none, 0, by rw [HR.out]; rfl, by rw [HR.out]; exact flat_nil, by rw [HR.out]; exact Nat.le_refl _, hb1⟩

set_option maxHeartbeats 2000000 in
theorem NeededParts_impl (LA JA : Option Addr) (lc jc : Nat) (vs : List PartT) (js : List JointT) (w : World) (hr : RdV w w.heap.size LA vs) (hr2 : Rd w w.heap.size 3 jointC JA js) (hs : SmallV vs) (hm2 : js.length ≤ 1048576) :
    Calls Try.prog 85 #[.slice LA vs.length lc, .slice JA js.length jc] w (GivesRes w 2 1 nC (neededR vs js)) := by
  have hBo := areBoth_any LA JA lc jc vs js w hr hr2 hs hm2
  by_cases hb : bothB vs js = true
  · have HB : Hid (∀ v : World, RdV v v.heap.size LA vs → Rd v v.heap.size 3 jointC JA js → Calls Try.prog 159 #[.slice LA vs.length lc, .slice JA js.length jc] v (GivesRowsN v (allB vs js) (nodesOf (tr vs js)))) := fun v h1 h2 => bicycles_any LA JA lc jc vs js v h1 h2 hs hb
    have HTU : Hid (∀ (v : World) (A : Option Addr) (c : Nat) (ms : List RowM), RdV v v.heap.size LA vs → Rd v v.heap.size 1 rowC A ms → (∀ m ∈ ms, Rd v v.heap.size 1 tC m.A m.bs) → ms.map RowM.bs = allB vs js → Calls Try.prog 160 #[.slice LA vs.length lc, .slice A ms.length c] v (GivesOwn v 3 1 nC (vs.map (timesOf (allB vs js))))) := fun v A c ms h1 h2 h3 e => by
      have := timesUsed_any LA A lc c vs ms v h1 (partsB_len (bothB_true hb).1) (bothB_slots hb) h2 h3 (allB_eight hb e) (allB_few hb e)
      rwa [e] at this
    have HML : Hid (∀ ms : List RowM, ms.map RowM.bs = allB vs js → ms.length ≤ 131071 ∧ ms.length = (allB vs js).length) := fun ms e => ⟨allB_few hb e, by rw [← e, List.length_map]⟩
    have HT16 : Hid ((vs.map (timesOf (allB vs js))).length ≤ 16) := by
      unfold Hid
      rw [List.length_map]
      exact partsB_len (bothB_true hb).1
    have HR : Hid (neededR vs js = if (allB vs js).length = 0 then ([], 4) else (idxTo (fun t => decide (t = ((allB vs js).length : Int))) (vs.map (timesOf (allB vs js))) (vs.map (timesOf (allB vs js))).length, 0)) := by
      unfold Hid neededR
      rw [if_pos hb, idxTo_map, List.length_map]
    rw [hb] at hBo
    have HBo := Lib.hid hBo; clear hBo hb hs hm2
    generalize neededR vs js = R at HR ⊢
    generalize vs.map (timesOf (allB vs js)) = T at HTU HR HT16
    go_enter Try.func85, Try.ntmps85
    go_wp2_with fail
    refine HBo.out.mono ?_
    rintro e w1 ⟨rfl, hb1⟩
    go_wp2_with fail
    refine (HB.out w1 (hr.next hb1) (hr2.next hb1)).mono ?_
    rintro e w2 ⟨A, c, ms, rfl, hms, fms, rms, hb2⟩
    have hb12 := bthen hb1 hb2
    obtain ⟨hml, hmle⟩ := HML.out ms hms
    have HTC := Lib.hid (HTU.out w2 A c ms (hr.next hb12) fms.rd (fun m hm => (rms m hm).1.rd) hms)
    clear HTU HML HB hms fms rms
    have hT16 := HT16.out
    rw [← hmle] at HR
    clear hmle
    by_cases hz : ms.length = 0
    · have hzb : ((ms.length : Int) == 0) = true := by simp [hz]
      have HRz : Hid (R = ([], 4)) := by
        unfold Hid
        rw [HR.out, if_pos hz]
      have HR := HRz
      clear hz
      go_wp2_with fail
      go_ret2
      exact ⟨none, 0, by rw [HRz.out]; rfl, by rw [HRz.out]; exact flat_nil, by rw [HRz.out]; exact Nat.le_refl _, hb12⟩
    · have hzb : ((ms.length : Int) == 0) = false := beq_eq_false_iff_ne.2 (by omega)
      have HRz : Hid (R = (idxTo (fun t => decide (t = (ms.length : Int))) T T.length, 0)) := by
        unfold Hid
        rw [HR.out, if_neg hz]
      clear HR
      have HR := HRz
      clear HRz
      go_wp2_with fail
      refine HTC.out.mono ?_
      rintro e w3 ⟨TA, tc, rfl, hfT, htc, hb3⟩
      have hb13 := bthen hb12 hb3
      have HFT := Lib.hid hfT; clear hfT HTC
      go_wp2_with fail
      go_loopw [8, 28] (fun out i wr => ∃ (k : Nat) (A' : Option Addr) (c' : Nat), k ≤ T.length ∧ i = .int .i64 k ∧ out = .slice A' (idxTo (fun t => decide (t = (ms.length : Int))) T k).length c' ∧ Own wr w3.heap.size 2 1 nC A' c' (idxTo (fun t => decide (t = (ms.length : Int))) T k) ∧ Below w3.heap.size w3 wr) (fun _ i _ => T.length - (intOf i).toNat)
      case atStart => exact ⟨0, none, 0, Nat.zero_le _, rfl, rfl, Own.nil, Below.refl _ _⟩
      case round =>
        obtain ⟨k, A', c', hk, rfl, rfl, hown, hb⟩ := hrel
        have Ho := Lib.hid hown; clear hown
        have hbase := hb.size
        by_cases hlt : k < T.length
        · have hx : T[k]? = some T[k] := List.getElem?_eq_getElem hlt
          obtain ⟨g, rfl⟩ := HFT.out.some (by omega)
          have q0 := (HFT.out.below hb (Nat.le_refl _)).cell1 hx rfl
          generalize T[k] = t at q0 hx
          have hle1 := idxTo_le (fun t => decide (t = (ms.length : Int))) T k
          by_cases hP : t = (ms.length : Int)
          · have HD := Lib.hid (idxTo_yes (p := fun t => decide (t = (ms.length : Int))) hx (by simpa using hP))
            have hPb : (t == (ms.length : Int)) = true := by simpa using hP
            clear hP hx
            generalize idxTo (fun t => decide (t = (ms.length : Int))) T k = l1 at HD Ho hle1 ⊢
            go_wp2_with (at_builtin; refine wpList_append_el rfl _ _ _ rfl (w3.heap.size) 2 (.int .i64 0) 1 8 Try.underlying53 infoInt64 rfl (by omega) (by omega) nC l1 (k : Int) A' c' rfl (Ho.out.keep (balloc _ _)) (wr.heap.size) _ rfl rfl (one_cell (by go_simp)) (by simp [nC]; rfl) (by omega) (by simp; omega) ?_)
            intro A2 c2 w4 hown4 hgr hb4
            have Ho4 := Lib.hid hown4; clear hown4
            go_wp2_with fail
            exact ⟨⟨k + 1, A2, c2, by omega, by go_num, by rw [HD.out]; simp, by rw [HD.out]; exact Ho4.out, (hb.alloc hb.size _).trans hb4⟩, by simp [intOf]; omega⟩
          · have HD := Lib.hid (idxTo_no (p := fun t => decide (t = (ms.length : Int))) hx (by simpa using hP))
            have hPb : (t == (ms.length : Int)) = false := by simpa using hP
            clear hP hx
            generalize idxTo (fun t => decide (t = (ms.length : Int))) T k = l1 at HD Ho hle1 ⊢
            go_wp2_with fail
            exact ⟨⟨k + 1, A', c', by omega, by go_num, by rw [HD.out], by rw [HD.out]; exact Ho.out, hb⟩, by simp [intOf]; omega⟩
        · obtain rfl : k = T.length := by omega
          go_wp2_with fail
          go_ret2
          exact ⟨A', c', by rw [HR.out]; rfl, by rw [HR.out]; exact (Ho.out.flat (fun _ => rfl)).mono hb13.size (Nat.le_refl _), by rw [HR.out]; exact Ho.out.cap, bthen hb13 hb⟩
  · have HR : Hid (neededR vs js = ([], 1)) := by unfold Hid neededR; rw [if_neg hb]
    have hb' : bothB vs js = false := by simpa using hb
    rw [hb'] at hBo
    have HBo := Lib.hid hBo; clear hBo hb hb' hs hm2
    generalize neededR vs js = R at HR ⊢
    go_enter Try.func85, Try.ntmps85
    go_wp2_with fail
    refine HBo.out.mono ?_
    rintro e w1 ⟨rfl, hb1⟩
    go_wp2_with fail
    go_ret2
    exact ⟨none, 0, by rw [HR.out]; rfl, by rw [HR.out]; exact flat_nil, by rw [HR.out]; exact Nat.le_refl _, hb1⟩

set_option maxHeartbeats 2000000 in
theorem UsableParts_spec (LA JA : Option Addr) (lc jc : Nat) (vs : List PartT) (js : List JointT) (w : World) (hr : RdV w w.heap.size LA vs) (hr2 : Rd w w.heap.size 3 jointC JA js) (hs : SmallV vs) (hm2 : js.length ≤ 1048576) :
    Calls Try.prog 73 #[.slice LA vs.length lc, .slice JA js.length jc] w (GivesRes w 2 1 nC (usableR vs js)) := by
  have hCo := l18Code_any LA JA lc jc vs js w hr hr2 hs hm2
  by_cases hb : bothB vs js = true
  · rw [bothI_yes hb] at hCo
    have HCo := Lib.hid hCo; clear hCo
    have HB : Hid (∀ v : World, RdV v v.heap.size LA vs → Rd v v.heap.size 3 jointC JA js → Calls Try.prog 155 #[.slice LA vs.length lc, .slice JA js.length jc] v (GivesAllS v (allB vs js))) := fun v h1 h2 => l18All_any LA JA lc jc vs js v h1 h2 hs hb
    have HTU : Hid (∀ (v : World) (A : Option Addr) (c : Nat) (ms : List RowM), RdV v v.heap.size LA vs → Rd v v.heap.size 1 rowC A ms → (∀ m ∈ ms, Rd v v.heap.size 1 tC m.A m.bs) → ms.map RowM.bs = allB vs js → Calls Try.prog 154 #[.slice LA vs.length lc, .slice A ms.length c] v (GivesOwn v 2 1 nC (vs.map (timesOf (allB vs js))))) := fun v A c ms h1 h2 h3 e => by
      have := l18Times_any LA A lc c vs ms v h1 (partsB_len (bothB_true hb).1) (bothB_slots hb) h2 h3 (allB_eight hb e) (allB_few hb e)
      rwa [e] at this
    have HML : Hid (∀ ms : List RowM, ms.map RowM.bs = allB vs js → ms.length ≤ 131071 ∧ ms.length = (allB vs js).length) := fun ms e => ⟨allB_few hb e, by rw [← e, List.length_map]⟩
    have HT16 : Hid ((vs.map (timesOf (allB vs js))).length ≤ 16) := by
      unfold Hid
      rw [List.length_map]
      exact partsB_len (bothB_true hb).1
    have HR : Hid (usableR vs js = (idxTo (fun t => decide (0 < t)) (vs.map (timesOf (allB vs js))) (vs.map (timesOf (allB vs js))).length, 0)) := by
      unfold Hid usableR
      rw [if_pos hb, idxTo_map, List.length_map]
    clear hb hs hm2
    generalize usableR vs js = R at HR ⊢
    generalize vs.map (timesOf (allB vs js)) = T at HTU HR HT16
    have hT16 := HT16.out
    go_enter Try.func73, Try.ntmps73
    go_wp2_with fail
    refine HCo.out.mono ?_
    rintro e w1 ⟨rfl, hb1⟩
    go_wp2_with fail
    have hs1 := hb1.size
    have hbV := bthen hb1 (balloc w1 (.cells #[] 2))
    refine (HB.out _ (hr.next hbV) (hr2.next hbV)).mono ?_
    rintro e w2 ⟨A, c, ms, rfl, hms, fms, rms, hb2⟩
    have hb12 := bthen hbV hb2
    have HTC := Lib.hid (HTU.out w2 A c ms (hr.next hb12) fms.rd (fun m hm => (rms m hm).1.rd) hms)
    clear HTU HML HB hms fms rms
    go_wp2_with fail
    refine HTC.out.mono ?_
    rintro e w3 ⟨TA, tc, rfl, hfT, htc, hb3⟩
    have HBW : Hid (Below w.heap.size w w3) := bthen hb12 hb3
    have HO0 : Hid (Own w3 w.heap.size 2 1 nC (some ⟨w1.heap.size, 0, none⟩) 0 ([] : List Int)) := ((Own.made (w := w1) #[] hs1 rfl).keep hb2).keep hb3
    have HA0 : Hid (0 < T.length → ∀ g, TA = some ⟨g, 0, none⟩ → Apart (some ⟨w1.heap.size, 0, none⟩) g) := fun hL g e b o e2 => by
      obtain ⟨g', m, e', hgl, _⟩ := hfT hL
      rw [e'] at e
      simp only [Option.some.injEq, Addr.mk.injEq] at e e2
      have h1 : (w1.alloc (.cells #[] 2)).heap.size = w1.heap.size + 1 := by simp
      have h2 := hb2.size
      omega
    have HFT : Hid (Flat w3 w.heap.size w3.heap.size 2 1 nC TA T) := hfT.mono hb12.size (Nat.le_refl _)
    clear hfT HTC hb12 hbV hb2 hb3
    go_wp2_with fail
    generalize w1.heap.size = g1 at HO0 HA0 ⊢
    go_loopw [7, 9] (fun out i wr => ∃ (k : Nat) (A' : Option Addr) (c' : Nat), k ≤ T.length ∧ i = .int .i64 k ∧ out = .slice A' (idxTo (fun t => decide (0 < t)) T k).length c' ∧ Own wr w.heap.size 2 1 nC A' c' (idxTo (fun t => decide (0 < t)) T k) ∧ Below w.heap.size w wr ∧ Flat wr w.heap.size wr.heap.size 2 1 nC TA T ∧ (0 < T.length → ∀ g, TA = some ⟨g, 0, none⟩ → Apart A' g)) (fun _ i _ => T.length - (intOf i).toNat)
    case atStart => exact ⟨0, _, _, Nat.zero_le _, rfl, rfl, HO0.out, HBW.out, HFT.out, HA0.out⟩
    case round =>
      obtain ⟨k, A', c', hk, rfl, rfl, hown, hb, hfl, hap⟩ := hrel
      have Ho := Lib.hid hown; clear hown
      have hbase := hb.size
      have Hfl := Lib.hid hfl; clear hfl
      have Hap := Lib.hid hap; clear hap
      clear HO0 HA0 HFT
      by_cases hlt : k < T.length
      · have hx : T[k]? = some T[k] := List.getElem?_eq_getElem hlt
        obtain ⟨g, rfl⟩ := Hfl.out.some (by omega)
        have q0 := Hfl.out.cell1 hx rfl
        have Hap2 : Hid (Apart A' g) := Hap.out (by omega) g rfl
        have hgl : g < wr.heap.size := (Hfl.out.blk (by omega)).2
        generalize T[k] = t at q0 hx
        have hle1 := idxTo_le (fun t => decide (0 < t)) T k
        by_cases hP : 0 < t
        · have HD := Lib.hid (idxTo_yes (p := fun t => decide (0 < t)) hx (by simpa using hP))
          have hPb : decide (t > 0) = true := by simpa using hP
          clear hP hx
          generalize idxTo (fun t => decide (0 < t)) T k = l1 at HD Ho hle1 ⊢
          go_wp2_with (at_builtin; refine wpList_append_far rfl _ _ _ rfl (w.heap.size) 2 (.int .i64 0) 1 8 Try.underlying53 infoInt64 rfl (by omega) (by omega) nC l1 (k : Int) A' c' rfl (Ho.out.keep (balloc _ _)) (wr.heap.size) _ rfl rfl (one_cell (by go_simp)) (by simp [nC]; rfl) (by omega) (by simp; omega) ?_)
          intro A2 c2 w4 hown4 hb4 hfar
          have hq4 := hfar g (by first | omega | (simp; omega)) Hap2.out
          have HfX : Hid (Flat w4 w.heap.size w4.heap.size 2 1 nC (some ⟨g, 0, none⟩) T) := ((Hfl.out.below (balloc wr _) (Nat.le_refl _)).keepAt fun g2 e2 _ => by
            simp only [Option.some.injEq, Addr.mk.injEq] at e2
            obtain ⟨rfl, _, _⟩ := e2
            exact hq4.2).mono (Nat.le_refl _) (by have h5 := hb4.size; have h6 := (balloc wr (.cells #[.int .i64 (k : Int)] 2)).size; omega)
          have HA4 : Hid (0 < T.length → ∀ g', (some ⟨g, 0, none⟩ : Option Addr) = some ⟨g', 0, none⟩ → Apart A2 g') := fun _ g' e => by
            simp only [Option.some.injEq, Addr.mk.injEq] at e
            obtain ⟨rfl, _⟩ := e
            exact hq4.1
          have Ho4 := Lib.hid hown4
          clear hown4 hfar hq4
          go_wp2_with fail
          exact ⟨⟨k + 1, A2, c2, by omega, by go_num, by rw [HD.out]; simp, by rw [HD.out]; exact Ho4.out, (hb.alloc hb.size _).trans hb4, HfX.out, HA4.out⟩, by simp [intOf]; omega⟩
        · have HD := Lib.hid (idxTo_no (p := fun t => decide (0 < t)) hx (by simpa using hP))
          have hPb : decide (t > 0) = false := by simpa using hP
          clear hP hx
          generalize idxTo (fun t => decide (0 < t)) T k = l1 at HD Ho hle1 ⊢
          go_wp2_with fail
          exact ⟨⟨k + 1, A', c', by omega, by go_num, by rw [HD.out], by rw [HD.out]; exact Ho.out, hb, Hfl.out, Hap.out⟩, by simp [intOf]; omega⟩
      · obtain rfl : k = T.length := by omega
        go_wp2_with fail
        go_ret2
        exact ⟨A', c', by rw [HR.out]; rfl, by rw [HR.out]; exact (Ho.out.flat (fun _ => rfl)), by rw [HR.out]; exact Ho.out.cap, hb⟩
  · rw [bothI_no hb] at hCo
    have HCo := Lib.hid hCo; clear hCo
    have HR : Hid (usableR vs js = ([], 1)) := by unfold Hid usableR; rw [if_neg hb]
    clear hb hs hm2
    generalize usableR vs js = R at HR ⊢
    go_enter Try.func73, Try.ntmps73
    go_wp2_with fail
    refine HCo.out.mono ?_
    rintro e w1 ⟨rfl, hb1⟩
    go_wp2_with fail
    go_ret2
    exact ⟨none, 0, by rw [HR.out]; rfl, by rw [HR.out]; exact flat_nil, by rw [HR.out]; exact Nat.le_refl _, hb1⟩

set_option maxHeartbeats 2000000 in
theorem NeededParts_spec (LA JA : Option Addr) (lc jc : Nat) (vs : List PartT) (js : List JointT) (w : World) (hr : RdV w w.heap.size LA vs) (hr2 : Rd w w.heap.size 3 jointC JA js) (hs : SmallV vs) (hm2 : js.length ≤ 1048576) :
    Calls Try.prog 84 #[.slice LA vs.length lc, .slice JA js.length jc] w (GivesRes w 2 1 nC (neededR vs js)) := by
  have hCo := l18Code_any LA JA lc jc vs js w hr hr2 hs hm2
  by_cases hb : bothB vs js = true
  · rw [bothI_yes hb] at hCo
    have HCo := Lib.hid hCo; clear hCo
    have HB : Hid (∀ v : World, RdV v v.heap.size LA vs → Rd v v.heap.size 3 jointC JA js → Calls Try.prog 155 #[.slice LA vs.length lc, .slice JA js.length jc] v (GivesAllS v (allB vs js))) := fun v h1 h2 => l18All_any LA JA lc jc vs js v h1 h2 hs hb
    have HTU : Hid (∀ (v : World) (A : Option Addr) (c : Nat) (ms : List RowM), RdV v v.heap.size LA vs → Rd v v.heap.size 1 rowC A ms → (∀ m ∈ ms, Rd v v.heap.size 1 tC m.A m.bs) → ms.map RowM.bs = allB vs js → Calls Try.prog 154 #[.slice LA vs.length lc, .slice A ms.length c] v (GivesOwn v 2 1 nC (vs.map (timesOf (allB vs js))))) := fun v A c ms h1 h2 h3 e => by
      have := l18Times_any LA A lc c vs ms v h1 (partsB_len (bothB_true hb).1) (bothB_slots hb) h2 h3 (allB_eight hb e) (allB_few hb e)
      rwa [e] at this
    have HML : Hid (∀ ms : List RowM, ms.map RowM.bs = allB vs js → ms.length ≤ 131071 ∧ ms.length = (allB vs js).length) := fun ms e => ⟨allB_few hb e, by rw [← e, List.length_map]⟩
    have HT16 : Hid ((vs.map (timesOf (allB vs js))).length ≤ 16) := by
      unfold Hid
      rw [List.length_map]
      exact partsB_len (bothB_true hb).1
    have HR : Hid (neededR vs js = if (allB vs js).length = 0 then ([], 4) else (idxTo (fun t => decide (t = ((allB vs js).length : Int))) (vs.map (timesOf (allB vs js))) (vs.map (timesOf (allB vs js))).length, 0)) := by
      unfold Hid neededR
      rw [if_pos hb, idxTo_map, List.length_map]
    clear hb hs hm2
    generalize neededR vs js = R at HR ⊢
    generalize vs.map (timesOf (allB vs js)) = T at HTU HR HT16
    have hT16 := HT16.out
    go_enter Try.func84, Try.ntmps84
    go_wp2_with fail
    refine HCo.out.mono ?_
    rintro e w1 ⟨rfl, hb1⟩
    go_wp2_with fail
    refine (HB.out w1 (hr.next hb1) (hr2.next hb1)).mono ?_
    rintro e w2 ⟨A, c, ms, rfl, hms, fms, rms, hb2⟩
    have hb12 := bthen hb1 hb2
    obtain ⟨hml, hmle⟩ := HML.out ms hms
    have HTC : Hid (∀ v : World, Below w2.heap.size w2 v → Calls Try.prog 154 #[.slice LA vs.length lc, .slice A ms.length c] v (GivesOwn v 2 1 nC T)) := fun v hv => HTU.out v A c ms (hr.next (bthen hb12 hv)) (fms.rd.next hv) (fun m hm => (rms m hm).1.rd.next hv) hms
    clear HTU HML HB hms fms rms
    rw [← hmle] at HR
    clear hmle
    by_cases hz : ms.length = 0
    · have hzb : ((ms.length : Int) == 0) = true := by simp [hz]
      have HRz : Hid (R = ([], 4)) := by
        unfold Hid
        rw [HR.out, if_pos hz]
      clear hz
      go_wp2_with fail
      go_ret2
      exact ⟨none, 0, by rw [HRz.out]; rfl, by rw [HRz.out]; exact flat_nil, by rw [HRz.out]; exact Nat.le_refl _, hb12⟩
    · have hzb : ((ms.length : Int) == 0) = false := beq_eq_false_iff_ne.2 (by omega)
      have HRz : Hid (R = (idxTo (fun t => decide (t = (ms.length : Int))) T T.length, 0)) := by
        unfold Hid
        rw [HR.out, if_neg hz]
      clear HR
      have HR := HRz
      clear HRz
      have hs1 := hb12.size
      go_wp2_with fail
      refine (HTC.out _ (balloc w2 (.cells #[] 2))).mono ?_
      rintro e w3 ⟨TA, tc, rfl, hfT, htc, hb3⟩
      have HBW : Hid (Below w.heap.size w w3) := bthen (bthen hb12 (balloc w2 _)) hb3
      have HO0 : Hid (Own w3 w.heap.size 2 1 nC (some ⟨w2.heap.size, 0, none⟩) 0 ([] : List Int)) := (Own.made (w := w2) #[] hs1 rfl).keep hb3
      have HA0 : Hid (0 < T.length → ∀ g, TA = some ⟨g, 0, none⟩ → Apart (some ⟨w2.heap.size, 0, none⟩) g) := fun hL g e b o e2 => by
        obtain ⟨g', m, e', hgl, _⟩ := hfT hL
        rw [e'] at e
        simp only [Option.some.injEq, Addr.mk.injEq] at e e2
        have h1 : (w2.alloc (.cells #[] 2)).heap.size = w2.heap.size + 1 := by simp
        omega
      have hsz2 : (w2.alloc (.cells #[] 2)).heap.size = w2.heap.size + 1 := by simp
      have HFT : Hid (Flat w3 w.heap.size w3.heap.size 2 1 nC TA T) := hfT.mono (by omega) (Nat.le_refl _)
      clear hsz2
      clear hfT HTC hb3
      go_wp2_with fail
      generalize w2.heap.size = g1 at HO0 HA0 ⊢
      go_loopw [8, 10] (fun out i wr => ∃ (k : Nat) (A' : Option Addr) (c' : Nat), k ≤ T.length ∧ i = .int .i64 k ∧ out = .slice A' (idxTo (fun t => decide (t = (ms.length : Int))) T k).length c' ∧ Own wr w.heap.size 2 1 nC A' c' (idxTo (fun t => decide (t = (ms.length : Int))) T k) ∧ Below w.heap.size w wr ∧ Flat wr w.heap.size wr.heap.size 2 1 nC TA T ∧ (0 < T.length → ∀ g, TA = some ⟨g, 0, none⟩ → Apart A' g)) (fun _ i _ => T.length - (intOf i).toNat)
      case atStart => exact ⟨0, _, _, Nat.zero_le _, rfl, rfl, HO0.out, HBW.out, HFT.out, HA0.out⟩
      case round =>
        obtain ⟨k, A', c', hk, rfl, rfl, hown, hb, hfl, hap⟩ := hrel
        have Ho := Lib.hid hown; clear hown
        have hbase := hb.size
        have Hfl := Lib.hid hfl; clear hfl
        have Hap := Lib.hid hap; clear hap
        clear HO0 HA0 HFT
        by_cases hlt : k < T.length
        · have hx : T[k]? = some T[k] := List.getElem?_eq_getElem hlt
          obtain ⟨g, rfl⟩ := Hfl.out.some (by omega)
          have q0 := Hfl.out.cell1 hx rfl
          have Hap2 : Hid (Apart A' g) := Hap.out (by omega) g rfl
          have hgl : g < wr.heap.size := (Hfl.out.blk (by omega)).2
          generalize T[k] = t at q0 hx
          have hle1 := idxTo_le (fun t => decide (t = (ms.length : Int))) T k
          by_cases hP : t = (ms.length : Int)
          · have HD := Lib.hid (idxTo_yes (p := fun t => decide (t = (ms.length : Int))) hx (by simpa using hP))
            have hPb : (t == (ms.length : Int)) = true := by simpa using hP
            clear hP hx
            generalize idxTo (fun t => decide (t = (ms.length : Int))) T k = l1 at HD Ho hle1 ⊢
            go_wp2_with (at_builtin; refine wpList_append_far rfl _ _ _ rfl (w.heap.size) 2 (.int .i64 0) 1 8 Try.underlying53 infoInt64 rfl (by omega) (by omega) nC l1 (k : Int) A' c' rfl (Ho.out.keep (balloc _ _)) (wr.heap.size) _ rfl rfl (one_cell (by go_simp)) (by simp [nC]; rfl) (by omega) (by simp; omega) ?_)
            intro A2 c2 w4 hown4 hb4 hfar
            have hq4 := hfar g (by first | omega | (simp; omega)) Hap2.out
            have HfX : Hid (Flat w4 w.heap.size w4.heap.size 2 1 nC (some ⟨g, 0, none⟩) T) := ((Hfl.out.below (balloc wr _) (Nat.le_refl _)).keepAt fun g2 e2 _ => by
              simp only [Option.some.injEq, Addr.mk.injEq] at e2
              obtain ⟨rfl, _, _⟩ := e2
              exact hq4.2).mono (Nat.le_refl _) (by have h5 := hb4.size; have h6 := (balloc wr (.cells #[.int .i64 (k : Int)] 2)).size; omega)
            have HA4 : Hid (0 < T.length → ∀ g', (some ⟨g, 0, none⟩ : Option Addr) = some ⟨g', 0, none⟩ → Apart A2 g') := fun _ g' e => by
              simp only [Option.some.injEq, Addr.mk.injEq] at e
              obtain ⟨rfl, _⟩ := e
              exact hq4.1
            have Ho4 := Lib.hid hown4
            clear hown4 hfar hq4
            go_wp2_with fail
            exact ⟨⟨k + 1, A2, c2, by omega, by go_num, by rw [HD.out]; simp, by rw [HD.out]; exact Ho4.out, (hb.alloc hb.size _).trans hb4, HfX.out, HA4.out⟩, by simp [intOf]; omega⟩
          · have HD := Lib.hid (idxTo_no (p := fun t => decide (t = (ms.length : Int))) hx (by simpa using hP))
            have hPb : (t == (ms.length : Int)) = false := by simpa using hP
            clear hP hx
            generalize idxTo (fun t => decide (t = (ms.length : Int))) T k = l1 at HD Ho hle1 ⊢
            go_wp2_with fail
            exact ⟨⟨k + 1, A', c', by omega, by go_num, by rw [HD.out], by rw [HD.out]; exact Ho.out, hb, Hfl.out, Hap.out⟩, by simp [intOf]; omega⟩
        · obtain rfl : k = T.length := by omega
          go_wp2_with fail
          go_ret2
          exact ⟨A', c', by rw [HR.out]; rfl, by rw [HR.out]; exact (Ho.out.flat (fun _ => rfl)), by rw [HR.out]; exact Ho.out.cap, hb⟩
  · rw [bothI_no hb] at hCo
    have HCo := Lib.hid hCo; clear hCo
    have HR : Hid (neededR vs js = ([], 1)) := by unfold Hid neededR; rw [if_neg hb]
    clear hb hs hm2
    generalize neededR vs js = R at HR ⊢
    go_enter Try.func84, Try.ntmps84
    go_wp2_with fail
    refine HCo.out.mono ?_
    rintro e w1 ⟨rfl, hb1⟩
    go_wp2_with fail
    go_ret2
    exact ⟨none, 0, by rw [HR.out]; rfl, by rw [HR.out]; exact flat_nil, by rw [HR.out]; exact Nat.le_refl _, hb1⟩
theorem usableR_small (vs : List PartT) (js : List JointT) : (usableR vs js).1.length ≤ 1048576 := by
  unfold usableR
  split
  · rename_i hb
    have := idxTo_le (fun x => decide (0 < timesOf (allB vs js) x)) vs vs.length
    have := partsB_len (bothB_true hb).1
    simp only
    omega
  · simp
theorem neededR_small (vs : List PartT) (js : List JointT) : (neededR vs js).1.length ≤ 1048576 := by
  unfold neededR
  split
  · rename_i hb
    split
    · simp
    · have := idxTo_le (fun x => decide (timesOf (allB vs js) x = ((allB vs js).length : Int))) vs vs.length
      have := partsB_len (bothB_true hb).1
      simp only
      omega
  · simp

end Go.Proofs.Ytpdkhmnbabccnaa

namespace Go.Proofs.Ytpdkhmnbabccnaa
set_option maxRecDepth 100000
open Go.RowKit

set_option maxHeartbeats 1000000 in
theorem markJointS_any (A : Option Addr) (c : Nat) (xs : List (Int × Int × Int)) (k : Int) (lo hi : Nat) (w : World) (hf : Flat w lo hi 83 3 jointC A xs) (hm : xs.length ≤ 1048576) (k0 : 0 < k) (k1 : k ≤ 1000000000000000) :
    Calls Try.prog 81 #[.slice A xs.length c, .int .i64 k] w fun e w' => e = .returned (.int .i64 (k + xs.length * 3)) ∧ Only lo hi w w' := by
  have hroom := hf.room
  clear hf
  go_enter Try.func81, Try.ntmps81
  go_wp2_with fail
  go_loopw [1, 5] (fun kk i wr => ∃ j : Nat, j ≤ xs.length ∧ i = .int .i64 j ∧ kk = .int .i64 (k + j * 3) ∧ Only lo hi w wr ∧ Room wr lo hi 83 3 A xs.length) (fun _ i _ => xs.length - (intOf i).toNat)
  case atStart => exact ⟨0, Nat.zero_le _, rfl, by simp, Only.refl _ _ _, hroom⟩
  case round =>
    obtain ⟨j, hj, rfl, rfl, ho, hrm⟩ := hrel

    by_cases hlt : j < xs.length
    · obtain ⟨g, m, rfl, hl, hg, hrow, hm2⟩ := hrm (by omega)
      have hrow1 := hrow
      have hrm1 := hrm
      have ho1 := ho
      obtain ⟨z0, hz0⟩ := hrow1.cell (j := j * 3) (by omega)
      have hf0 := hrow1.frozen (j * 3)
      obtain ⟨z1, hz1⟩ := hrow1.cell (j := j * 3 + 1) (by omega)
      have hf1 := hrow1.frozen (j * 3 + 1)
      obtain ⟨z2, hz2⟩ := hrow1.cell (j := j * 3 + 2) (by omega)
      have hf2 := hrow1.frozen (j * 3 + 2)
      go_wp2_with fail
      exact ⟨⟨j + 1, by omega, by go_num, by go_num, (((ho1).trans (Only.setCell (p := ⟨g, j * 3, none⟩) ⟨hl, hg⟩ _)).trans (Only.setCell (p := ⟨g, j * 3 + 1, none⟩) ⟨hl, hg⟩ _)).trans (Only.setCell (p := ⟨g, j * 3 + 2, none⟩) ⟨hl, hg⟩ _), hrm1.keep (fun _ _ h => (((h).setCell _ _).setCell _ _).setCell _ _)⟩, by simp [intOf]; omega⟩
    · obtain rfl : j = xs.length := by omega
      go_wp2_with fail
      go_ret
      exact ⟨rfl, ho⟩

end Go.Proofs.Ytpdkhmnbabccnaa

namespace Go.Proofs.Ytpdkhmnbabccnaa
set_option maxRecDepth 100000
open Go.RowKit

theorem szJointS_k (A : Option Addr) (c : Nat) (xs : List (Int × Int × Int)) (l : Int) (w : World) (_ : Rd w w.heap.size 3 jointC A xs) (hm : xs.length ≤ maxLen) (_ : ∀ x ∈ xs, (fun _ => True) x) (h2 : 0 ≤ l) (h3 : l ≤ 1048576) :
    Calls Try.prog 72 #[.slice A xs.length c, .int .i64 l] w (SzPost w l (xs.length ≤ 1048576)) := by
  unfold maxLen at hm
  refine (szJointS_any A xs.length c l (by omega) h2 h3 w).mono ?_
  rintro e w' ⟨rfl, rfl⟩
  refine ⟨_, rfl, ?_, Below.refl _ _⟩
  split
  · exact Or.inl rfl
  · exact Or.inr ⟨by omega, by omega, by omega⟩
theorem toJointS_k (A : Option Addr) (c : Nat) (xs : List (Int × Int × Int)) (w : World) (hr : Rd w w.heap.size 3 jointC A xs) (hs : xs.length ≤ 1048576) :
    Calls Try.prog 75 #[.slice A xs.length c] w (GivesFlat w 83 3 jointC xs) := toJointS_any A c xs w hr hs
theorem eqJointS_k (A A' : Option Addr) (c c' : Nat) (xs : List (Int × Int × Int)) (w : World) (hr : Rd w w.heap.size 3 jointC A xs) (hr' : Rd w w.heap.size 3 jointC A' xs) (hs : xs.length ≤ 1048576) :
    Calls Try.prog 79 #[.slice A xs.length c, .slice A' xs.length c'] w fun e w' => e = .returned (.bool true) ∧ Below w.heap.size w w' := by
  have := eqJointS_any A A' c c' xs xs w hr hr' hs
  rwa [decide_eq_true (rfl : xs = xs)] at this
theorem markJointS_k (A : Option Addr) (c : Nat) (xs : List (Int × Int × Int)) (k : Int) (lo hi : Nat) (w : World) (hf : Flat w lo hi 83 3 jointC A xs) (hs : xs.length ≤ 1048576) (k0 : 0 < k) (k1 : k ≤ 900000000000000) :
    Calls Try.prog 81 #[.slice A xs.length c, .int .i64 k] w (MarkedOnly w lo hi k) := by
  refine (markJointS_any A c xs k lo hi w hf hs k0 (by omega)).mono ?_
  rintro e w' ⟨rfl, ho⟩
  exact ⟨_, rfl, by omega, by omega, ho⟩

end Go.Proofs.Ytpdkhmnbabccnaa

namespace Go.Proofs.Ytpdkhmnbabccnaa
set_option maxRecDepth 100000
open Go.RowKit

theorem eqInt64S_r (A A' : Option Addr) (c c' : Nat) (l : List Int) (w : World) (hr : Rd w w.heap.size 1 nC A l) (hr' : Rd w w.heap.size 1 nC A' l) (hl : l.length ≤ 1048576) :
    Calls Try.prog 77 #[.slice A l.length c, .slice A' l.length c'] w fun e w' => e = .returned (.bool true) ∧ Below w.heap.size w w' := by
  have := eqInt64S_any A A' c c' l l w hr hr' hl
  rwa [decide_eq_true (rfl : l = l)] at this
theorem markInt64S_r (A : Option Addr) (c : Nat) (l : List Int) (lo hi : Nat) (w : World) (hf : Flat w lo hi 2 1 nC A l) (hl : l.length ≤ 1048576) :
    Calls Try.prog 82 #[.slice A l.length c, .int .i64 1] w fun e w' => e = .returned (.int .i64 (1 + l.length)) ∧ Only lo hi w w' ∧ Flat w' lo hi 2 1 nC A (markN 1 l.length) :=
  markInt64S_any A c l 1 lo hi w hf hl (by omega) (by omega)
theorem heldInt64S_r (A : Option Addr) (c : Nat) (l : List Int) (lo hi : Nat) (w : World) (h : Flat w lo hi 2 1 nC A (markN 1 l.length)) (hhi : hi ≤ w.heap.size) (hl : l.length ≤ 1048576) :
    Calls Try.prog 83 #[.slice A l.length c, .int .i64 1] w fun e w' => e = .returned (.int .i64 (1 + l.length)) ∧ Below w.heap.size w w' :=
  heldInt64S_any A c l.length 1 w (h.rd.more hhi) hl (by omega) (by omega)

end Go.Proofs.Ytpdkhmnbabccnaa

namespace Go.Proofs.Ytpdkhmnbabccnaa
set_option maxRecDepth 100000
open Go.RowKit Go.ChangeShapes Go.WideShapes Go.ChangeAt Go.Joins Go.Deep

set_option maxHeartbeats 1000000 in
theorem law_FnExactUsableParts (A0 : Option Addr) (c0 : Nat) (xs0 : List PartT) (A1 : Option Addr) (c1 : Nat) (xs1 : List (Int × Int × Int)) (w : World) (hr0 : xs0.length ≤ maxLen ∧ (∀ x ∈ xs0, goodV x) ∧ RdV w w.heap.size A0 xs0) (hr1 : xs1.length ≤ maxLen ∧ (∀ x ∈ xs1, (fun _ => True) x) ∧ Rd w w.heap.size 3 jointC A1 xs1) :
    Calls Try.prog 9 #[.slice A0 xs0.length c0, .slice A1 xs1.length c1] w fun e w' => e = .returned (.bool true) ∧ Below w.heap.size w w' := by
  obtain ⟨hm0, hg0, hr0⟩ := hr0
  obtain ⟨hm1, hg1, hr1⟩ := hr1
  have Hg0 := Lib.hid hg0; clear hg0
  have Hg1 := Lib.hid hg1; clear hg1
  go_enter Try.func9, Try.ntmps9
  go_wp2_with fail
  have hbW := Below.refl w.heap.size w
  have sz0 := Nat.le_refl w.heap.size
  refine (szPartS_k A0 c0 xs0 1048576 _ ((hr0.below hbW).more hbW.size) hm0 Hg0.out (by omega) (by omega)).mono ?_
  rintro e w1 ⟨r1, rfl, hq1, hb1⟩
  have sz1 := hb1.size
  replace hbW := bthen' hbW hb1
  rcases hq1 with rfl | ⟨hq1, hl1, hS0⟩
  · go_wp2_with fail
    go_ret
    exact ⟨rfl, hbW⟩
  have HS0 := Lib.hid hS0; clear hS0
  go_wp2_with fail
  refine (szJointS_k A1 c1 xs1 r1 _ ((hr1.below hbW).more hbW.size) hm1 Hg1.out (by omega) (by omega)).mono ?_
  rintro e w2 ⟨r2, rfl, hq2, hb2⟩
  have sz2 := hb2.size
  replace hbW := bthen' hbW hb2
  rcases hq2 with rfl | ⟨hq2, hl2, hS1⟩
  · go_wp2_with fail
    go_ret
    exact ⟨rfl, hbW⟩
  have HS1 := Lib.hid hS1; clear hS1
  go_wp2_with fail
  have hSp := Lib.hid (fun A0' c0' A1' c1' v q0 q1 => UsableParts_spec A0' A1' c0' c1' xs0 xs1 v q0 q1 HS0.out HS1.out)
  have hIm := Lib.hid (fun A0' c0' A1' c1' v q0 q1 => UsableParts_impl A0' A1' c0' c1' xs0 xs1 v q0 q1 HS0.out HS1.out)
  have hSm := Lib.hid (usableR_small xs0 xs1)
  generalize usableR xs0 xs1 = res at hSp hIm hSm
  obtain ⟨y0, y1⟩ := res
  refine (toPartS_k A0 c0 xs0 _ ((hr0.below hbW).more hbW.size) HS0.out).mono ?_
  rintro e w3 ⟨aA0, rfl, af0, hb3⟩
  have sz3 := hb3.size
  replace hbW := bthen' hbW hb3
  go_wp2_with fail
  refine (toJointS_k A1 c1 xs1 _ ((hr1.below hbW).more hbW.size) HS1.out).mono ?_
  rintro e w4 ⟨aA1, rfl, af1, hb4⟩
  have sz4 := hb4.size
  replace hbW := bthen' hbW hb4
  replace af0 := af0.below hb4 (by omega)
  go_wp2_with fail
  refine (hSp.out aA0 _ aA1 _ _ (af0.rd.more (by omega)) (af1.rd.more (by omega))).mono ?_
  rintro e w5 ⟨aG, ac, rfl, ag, -, hb5⟩
  have sz5 := hb5.size
  replace hbW := bthen' hbW hb5
  replace af0 := af0.below hb5 (by omega)
  replace af1 := af1.below hb5 (by omega)
  simp only at ag
  go_wp2_with fail
  clear af0 af1
  refine (toPartS_k A0 c0 xs0 _ ((hr0.below hbW).more hbW.size) HS0.out).mono ?_
  rintro e w6 ⟨bA0, rfl, bf0, hb6⟩
  have sz6 := hb6.size
  replace hbW := bthen' hbW hb6
  replace ag := ag.below hb6 (by omega)
  go_wp2_with fail
  refine (toJointS_k A1 c1 xs1 _ ((hr1.below hbW).more hbW.size) HS1.out).mono ?_
  rintro e w7 ⟨bA1, rfl, bf1, hb7⟩
  have sz7 := hb7.size
  replace hbW := bthen' hbW hb7
  replace ag := ag.below hb7 (by omega)
  replace bf0 := bf0.below hb7 (by omega)
  go_wp2_with fail
  refine (hIm.out bA0 _ bA1 _ _ (bf0.rd.more (by omega)) (bf1.rd.more (by omega))).mono ?_
  rintro e w8 ⟨bG, bc, rfl, bg, -, hb8⟩
  have sz8 := hb8.size
  replace hbW := bthen' hbW hb8
  replace ag := ag.below hb8 (by omega)
  replace bf0 := bf0.below hb8 (by omega)
  replace bf1 := bf1.below hb8 (by omega)
  simp only at bg
  go_wp2_with fail
  refine (eqInt64S_r bG aG _ _ y0 _ (bg.rd.more (by omega)) (ag.rd.more (by omega)) hSm.out).mono ?_
  rintro e w9 ⟨rfl, hb9⟩
  have sz9 := hb9.size
  replace hbW := bthen' hbW hb9
  replace ag := ag.below hb9 (by omega)
  replace bf0 := bf0.below hb9 (by omega)
  replace bf1 := bf1.below hb9 (by omega)
  replace bg := bg.below hb9 (by omega)
  go_wp2_with fail
  refine (toPartS_k A0 c0 xs0 _ ((hr0.below hbW).more hbW.size) HS0.out).mono ?_
  rintro e w10 ⟨dA0, rfl, df0, hb10⟩
  have sz10 := hb10.size
  replace hbW := bthen' hbW hb10
  replace ag := ag.below hb10 (by omega)
  replace bf0 := bf0.below hb10 (by omega)
  replace bf1 := bf1.below hb10 (by omega)
  replace bg := bg.below hb10 (by omega)
  go_wp2_with fail
  refine (eqPartS_k bA0 dA0 _ _ xs0 _ (bf0.rd.more (by omega)) (df0.rd.more (by omega)) HS0.out).mono ?_
  rintro e w11 ⟨rfl, hb11⟩
  have sz11 := hb11.size
  replace hbW := bthen' hbW hb11
  replace ag := ag.below hb11 (by omega)
  replace bf0 := bf0.below hb11 (by omega)
  replace bf1 := bf1.below hb11 (by omega)
  replace bg := bg.below hb11 (by omega)
  clear df0
  go_wp2_with fail
  refine (toJointS_k A1 c1 xs1 _ ((hr1.below hbW).more hbW.size) HS1.out).mono ?_
  rintro e w12 ⟨dA1, rfl, df1, hb12⟩
  have sz12 := hb12.size
  replace hbW := bthen' hbW hb12
  replace ag := ag.below hb12 (by omega)
  replace bf0 := bf0.below hb12 (by omega)
  replace bf1 := bf1.below hb12 (by omega)
  replace bg := bg.below hb12 (by omega)
  go_wp2_with fail
  refine (eqJointS_k bA1 dA1 _ _ xs1 _ (bf1.rd.more (by omega)) (df1.rd.more (by omega)) HS1.out).mono ?_
  rintro e w13 ⟨rfl, hb13⟩
  have sz13 := hb13.size
  replace hbW := bthen' hbW hb13
  replace ag := ag.below hb13 (by omega)
  replace bf0 := bf0.below hb13 (by omega)
  replace bf1 := bf1.below hb13 (by omega)
  replace bg := bg.below hb13 (by omega)
  clear df1
  go_wp2_with fail
  refine (markPartS_k bA0 _ xs0 1 _ _ _ bf0 HS0.out (by omega) (by omega)).mono ?_
  rintro e w14 ⟨k14, rfl, kl14, ku14, ho14⟩
  have sz14 := ho14.size
  clear bf0
  replace hbW := hbW.trans (ho14.below (B := w.heap.size) (by omega) (by omega))
  replace ag := ag.only ho14 (by omega) (by omega)
  replace bf1 := bf1.only ho14 (by omega) (by omega)
  replace bg := bg.only ho14 (by omega) (by omega)
  go_wp2_with fail
  refine (markJointS_k bA1 _ xs1 k14 _ _ _ bf1 HS1.out (by omega) (by omega)).mono ?_
  rintro e w15 ⟨k15, rfl, kl15, ku15, ho15⟩
  have sz15 := ho15.size
  clear bf1
  replace hbW := hbW.trans (ho15.below (B := w.heap.size) (by omega) (by omega))
  replace ag := ag.only ho15 (by omega) (by omega)
  replace bg := bg.only ho15 (by omega) (by omega)
  go_wp2_with fail
  refine (eqInt64S_r bG aG _ _ y0 _ (bg.rd.more (by omega)) (ag.rd.more (by omega)) hSm.out).mono ?_
  rintro e w16 ⟨rfl, hb16⟩
  have sz16 := hb16.size
  replace hbW := bthen' hbW hb16
  replace ag := ag.below hb16 (by omega)
  replace bg := bg.below hb16 (by omega)
  go_wp2_with fail
  refine (markInt64S_r bG _ y0 _ _ _ bg hSm.out).mono ?_
  rintro e w17 ⟨rfl, ho17, mg⟩
  have sz17 := ho17.size
  clear bg
  replace hbW := hbW.trans (ho17.below (B := w.heap.size) (by omega) (by omega))
  replace ag := ag.only ho17 (by omega) (by omega)
  go_wp2_with fail
  refine (heldInt64S_r bG _ y0 _ _ _ mg (by omega) hSm.out).mono ?_
  rintro e w18 ⟨rfl, hb18⟩
  have sz18 := hb18.size
  replace hbW := bthen' hbW hb18
  replace ag := ag.below hb18 (by omega)
  replace mg := mg.below hb18 (by omega)
  go_wp2_with fail
  refine (toPartS_k A0 c0 xs0 _ ((hr0.below hbW).more hbW.size) HS0.out).mono ?_
  rintro e w19 ⟨cA0, rfl, cf0, hb19⟩
  have sz19 := hb19.size
  replace hbW := bthen' hbW hb19
  replace ag := ag.below hb19 (by omega)
  replace mg := mg.below hb19 (by omega)
  go_wp2_with fail
  refine (toJointS_k A1 c1 xs1 _ ((hr1.below hbW).more hbW.size) HS1.out).mono ?_
  rintro e w20 ⟨cA1, rfl, cf1, hb20⟩
  have sz20 := hb20.size
  replace hbW := bthen' hbW hb20
  replace ag := ag.below hb20 (by omega)
  replace mg := mg.below hb20 (by omega)
  replace cf0 := cf0.below hb20 (by omega)
  go_wp2_with fail
  refine (hIm.out cA0 _ cA1 _ _ (cf0.rd.more (by omega)) (cf1.rd.more (by omega))).mono ?_
  rintro e w21 ⟨cG, cc, rfl, cg, -, hb21⟩
  have sz21 := hb21.size
  replace hbW := bthen' hbW hb21
  replace ag := ag.below hb21 (by omega)
  replace mg := mg.below hb21 (by omega)
  replace cf0 := cf0.below hb21 (by omega)
  replace cf1 := cf1.below hb21 (by omega)
  simp only at cg
  go_wp2_with fail
  refine (eqInt64S_r cG aG _ _ y0 _ (cg.rd.more (by omega)) (ag.rd.more (by omega)) hSm.out).mono ?_
  rintro e w22 ⟨rfl, hb22⟩
  have sz22 := hb22.size
  replace hbW := bthen' hbW hb22
  replace ag := ag.below hb22 (by omega)
  replace mg := mg.below hb22 (by omega)
  replace cf0 := cf0.below hb22 (by omega)
  replace cf1 := cf1.below hb22 (by omega)
  replace cg := cg.below hb22 (by omega)
  go_wp2_with fail
  refine (heldInt64S_r bG _ y0 _ _ _ mg (by omega) hSm.out).mono ?_
  rintro e w23 ⟨rfl, hb23⟩
  have sz23 := hb23.size
  replace hbW := bthen' hbW hb23
  replace ag := ag.below hb23 (by omega)
  replace mg := mg.below hb23 (by omega)
  replace cf0 := cf0.below hb23 (by omega)
  replace cf1 := cf1.below hb23 (by omega)
  replace cg := cg.below hb23 (by omega)
  go_wp2_with fail
  go_ret
  exact ⟨rfl, hbW⟩

set_option maxRecDepth 100000 in
theorem fnExactUsableParts_lifted (os : Os) (started : os.Started) (H : Type) (enc : TypeId × Value → H) :
    ReturnsInHanded {} Try.checked os 9 .any (Rows.fnExactUsablePartsSpec.pre6 enc Try.prog Try.f9 Rows.fnExactUsablePartsRow.domain false) (Rows.fnExactUsablePartsSpec.post enc Try.prog Try.f9 false true false false) := by
  refine returnsInHanded_of_change (C := Try.checked) own started (by kernel_rfl) Try.func9
    (ChangeSpec.witness6 (enc := enc) (C := Try.checked) false ⟨#[], #[.slice none 0 0, .slice none 0 0], []⟩ 8 (by kernel_rfl) (by kernel_rfl) (by kernel_rfl) (by kernel_rfl)) ?_
  intro W base args ds gs before hval0 hW hcnd _
  have hval : ∀ (j : Nat) t v, Try.f9.params[j]? = some t → args[j]? = some v → Value.okWide Try.prog W .any base t v := hval0
  have hlt : ∀ x ∈ before, x.block < W.heap.size := fun x hx => hW.lt x hx
  have hW' := hW
  obtain ⟨p, q, hA0, hV, rfl, hfz, hnd⟩ := hW
  have hA : DataW.TrodAll enc Try.prog W 0 (fun _ => true) true Try.f9.params.toList args.toList ds p := hA0
  rw [Try.params9] at hA hval
  obtain ⟨v0, v1, d0, d1, p0, p1, rfl, rfl, rfl, h0, h1⟩ := trodAll_two hA
  obtain ⟨A0, k0, xs0, rfl, hr0⟩ := open_partsV (hval 0 84 v0 rfl rfl) h0
  obtain ⟨A1, k1, xs1, rfl, hr1⟩ := open_joints (hval 1 85 v1 rfl rfl) h1
  refine (law_FnExactUsableParts A0 k0 xs0 A1 k1 xs1 W hr0 hr1).mono fun e W' ⟨he, hb⟩ => ?_
  subst he
  exact ⟨_, rfl, law_post (tb := 4) laidOut (by kernel_rfl) rfl rfl Try.underlying4 hW' rfl hb⟩
theorem fnExactUsableParts_closed : joinedFacts Try.prog 9 Try.f9 Rows.fnExactUsablePartsSpec Rows.fnExactUsablePartsRow = true := by
  unfold joinedFacts; rw [mayEnter_yes, liftsFinal_no, make_cut]; kernel_rfl
theorem fnExactUsableParts_holds : Rows.FnExactUsablePartsSaid :=
  OpenClaim.holds_of_wide 9 Try.f9 rfl rfl rfl rfl rfl rfl rfl ⟨rfl, rfl, rfl, rfl, rfl⟩ rfl rfl rfl rfl rfl (by kernel_rfl) Try.func9 fnExactUsableParts_closed
    (of_decide_eq_true (by kernel_rfl)) (by unfold Func.isWrapper; rw [if_neg (of_decide_eq_false (by kernel_rfl))]; exact ⟨rfl, rfl⟩)
    (fun os started H enc _ => fnExactUsableParts_lifted os started H enc)
#print axioms fnExactUsableParts_holds

set_option maxHeartbeats 1000000 in
theorem law_FnExactNeededParts (A0 : Option Addr) (c0 : Nat) (xs0 : List PartT) (A1 : Option Addr) (c1 : Nat) (xs1 : List (Int × Int × Int)) (w : World) (hr0 : xs0.length ≤ maxLen ∧ (∀ x ∈ xs0, goodV x) ∧ RdV w w.heap.size A0 xs0) (hr1 : xs1.length ≤ maxLen ∧ (∀ x ∈ xs1, (fun _ => True) x) ∧ Rd w w.heap.size 3 jointC A1 xs1) :
    Calls Try.prog 10 #[.slice A0 xs0.length c0, .slice A1 xs1.length c1] w fun e w' => e = .returned (.bool true) ∧ Below w.heap.size w w' := by
  obtain ⟨hm0, hg0, hr0⟩ := hr0
  obtain ⟨hm1, hg1, hr1⟩ := hr1
  have Hg0 := Lib.hid hg0; clear hg0
  have Hg1 := Lib.hid hg1; clear hg1
  go_enter Try.func10, Try.ntmps10
  go_wp2_with fail
  have hbW := Below.refl w.heap.size w
  have sz0 := Nat.le_refl w.heap.size
  refine (szPartS_k A0 c0 xs0 1048576 _ ((hr0.below hbW).more hbW.size) hm0 Hg0.out (by omega) (by omega)).mono ?_
  rintro e w1 ⟨r1, rfl, hq1, hb1⟩
  have sz1 := hb1.size
  replace hbW := bthen' hbW hb1
  rcases hq1 with rfl | ⟨hq1, hl1, hS0⟩
  · go_wp2_with fail
    go_ret
    exact ⟨rfl, hbW⟩
  have HS0 := Lib.hid hS0; clear hS0
  go_wp2_with fail
  refine (szJointS_k A1 c1 xs1 r1 _ ((hr1.below hbW).more hbW.size) hm1 Hg1.out (by omega) (by omega)).mono ?_
  rintro e w2 ⟨r2, rfl, hq2, hb2⟩
  have sz2 := hb2.size
  replace hbW := bthen' hbW hb2
  rcases hq2 with rfl | ⟨hq2, hl2, hS1⟩
  · go_wp2_with fail
    go_ret
    exact ⟨rfl, hbW⟩
  have HS1 := Lib.hid hS1; clear hS1
  go_wp2_with fail
  have hSp := Lib.hid (fun A0' c0' A1' c1' v q0 q1 => NeededParts_spec A0' A1' c0' c1' xs0 xs1 v q0 q1 HS0.out HS1.out)
  have hIm := Lib.hid (fun A0' c0' A1' c1' v q0 q1 => NeededParts_impl A0' A1' c0' c1' xs0 xs1 v q0 q1 HS0.out HS1.out)
  have hSm := Lib.hid (neededR_small xs0 xs1)
  generalize neededR xs0 xs1 = res at hSp hIm hSm
  obtain ⟨y0, y1⟩ := res
  refine (toPartS_k A0 c0 xs0 _ ((hr0.below hbW).more hbW.size) HS0.out).mono ?_
  rintro e w3 ⟨aA0, rfl, af0, hb3⟩
  have sz3 := hb3.size
  replace hbW := bthen' hbW hb3
  go_wp2_with fail
  refine (toJointS_k A1 c1 xs1 _ ((hr1.below hbW).more hbW.size) HS1.out).mono ?_
  rintro e w4 ⟨aA1, rfl, af1, hb4⟩
  have sz4 := hb4.size
  replace hbW := bthen' hbW hb4
  replace af0 := af0.below hb4 (by omega)
  go_wp2_with fail
  refine (hSp.out aA0 _ aA1 _ _ (af0.rd.more (by omega)) (af1.rd.more (by omega))).mono ?_
  rintro e w5 ⟨aG, ac, rfl, ag, -, hb5⟩
  have sz5 := hb5.size
  replace hbW := bthen' hbW hb5
  replace af0 := af0.below hb5 (by omega)
  replace af1 := af1.below hb5 (by omega)
  simp only at ag
  go_wp2_with fail
  clear af0 af1
  refine (toPartS_k A0 c0 xs0 _ ((hr0.below hbW).more hbW.size) HS0.out).mono ?_
  rintro e w6 ⟨bA0, rfl, bf0, hb6⟩
  have sz6 := hb6.size
  replace hbW := bthen' hbW hb6
  replace ag := ag.below hb6 (by omega)
  go_wp2_with fail
  refine (toJointS_k A1 c1 xs1 _ ((hr1.below hbW).more hbW.size) HS1.out).mono ?_
  rintro e w7 ⟨bA1, rfl, bf1, hb7⟩
  have sz7 := hb7.size
  replace hbW := bthen' hbW hb7
  replace ag := ag.below hb7 (by omega)
  replace bf0 := bf0.below hb7 (by omega)
  go_wp2_with fail
  refine (hIm.out bA0 _ bA1 _ _ (bf0.rd.more (by omega)) (bf1.rd.more (by omega))).mono ?_
  rintro e w8 ⟨bG, bc, rfl, bg, -, hb8⟩
  have sz8 := hb8.size
  replace hbW := bthen' hbW hb8
  replace ag := ag.below hb8 (by omega)
  replace bf0 := bf0.below hb8 (by omega)
  replace bf1 := bf1.below hb8 (by omega)
  simp only at bg
  go_wp2_with fail
  refine (eqInt64S_r bG aG _ _ y0 _ (bg.rd.more (by omega)) (ag.rd.more (by omega)) hSm.out).mono ?_
  rintro e w9 ⟨rfl, hb9⟩
  have sz9 := hb9.size
  replace hbW := bthen' hbW hb9
  replace ag := ag.below hb9 (by omega)
  replace bf0 := bf0.below hb9 (by omega)
  replace bf1 := bf1.below hb9 (by omega)
  replace bg := bg.below hb9 (by omega)
  go_wp2_with fail
  refine (toPartS_k A0 c0 xs0 _ ((hr0.below hbW).more hbW.size) HS0.out).mono ?_
  rintro e w10 ⟨dA0, rfl, df0, hb10⟩
  have sz10 := hb10.size
  replace hbW := bthen' hbW hb10
  replace ag := ag.below hb10 (by omega)
  replace bf0 := bf0.below hb10 (by omega)
  replace bf1 := bf1.below hb10 (by omega)
  replace bg := bg.below hb10 (by omega)
  go_wp2_with fail
  refine (eqPartS_k bA0 dA0 _ _ xs0 _ (bf0.rd.more (by omega)) (df0.rd.more (by omega)) HS0.out).mono ?_
  rintro e w11 ⟨rfl, hb11⟩
  have sz11 := hb11.size
  replace hbW := bthen' hbW hb11
  replace ag := ag.below hb11 (by omega)
  replace bf0 := bf0.below hb11 (by omega)
  replace bf1 := bf1.below hb11 (by omega)
  replace bg := bg.below hb11 (by omega)
  clear df0
  go_wp2_with fail
  refine (toJointS_k A1 c1 xs1 _ ((hr1.below hbW).more hbW.size) HS1.out).mono ?_
  rintro e w12 ⟨dA1, rfl, df1, hb12⟩
  have sz12 := hb12.size
  replace hbW := bthen' hbW hb12
  replace ag := ag.below hb12 (by omega)
  replace bf0 := bf0.below hb12 (by omega)
  replace bf1 := bf1.below hb12 (by omega)
  replace bg := bg.below hb12 (by omega)
  go_wp2_with fail
  refine (eqJointS_k bA1 dA1 _ _ xs1 _ (bf1.rd.more (by omega)) (df1.rd.more (by omega)) HS1.out).mono ?_
  rintro e w13 ⟨rfl, hb13⟩
  have sz13 := hb13.size
  replace hbW := bthen' hbW hb13
  replace ag := ag.below hb13 (by omega)
  replace bf0 := bf0.below hb13 (by omega)
  replace bf1 := bf1.below hb13 (by omega)
  replace bg := bg.below hb13 (by omega)
  clear df1
  go_wp2_with fail
  refine (markPartS_k bA0 _ xs0 1 _ _ _ bf0 HS0.out (by omega) (by omega)).mono ?_
  rintro e w14 ⟨k14, rfl, kl14, ku14, ho14⟩
  have sz14 := ho14.size
  clear bf0
  replace hbW := hbW.trans (ho14.below (B := w.heap.size) (by omega) (by omega))
  replace ag := ag.only ho14 (by omega) (by omega)
  replace bf1 := bf1.only ho14 (by omega) (by omega)
  replace bg := bg.only ho14 (by omega) (by omega)
  go_wp2_with fail
  refine (markJointS_k bA1 _ xs1 k14 _ _ _ bf1 HS1.out (by omega) (by omega)).mono ?_
  rintro e w15 ⟨k15, rfl, kl15, ku15, ho15⟩
  have sz15 := ho15.size
  clear bf1
  replace hbW := hbW.trans (ho15.below (B := w.heap.size) (by omega) (by omega))
  replace ag := ag.only ho15 (by omega) (by omega)
  replace bg := bg.only ho15 (by omega) (by omega)
  go_wp2_with fail
  refine (eqInt64S_r bG aG _ _ y0 _ (bg.rd.more (by omega)) (ag.rd.more (by omega)) hSm.out).mono ?_
  rintro e w16 ⟨rfl, hb16⟩
  have sz16 := hb16.size
  replace hbW := bthen' hbW hb16
  replace ag := ag.below hb16 (by omega)
  replace bg := bg.below hb16 (by omega)
  go_wp2_with fail
  refine (markInt64S_r bG _ y0 _ _ _ bg hSm.out).mono ?_
  rintro e w17 ⟨rfl, ho17, mg⟩
  have sz17 := ho17.size
  clear bg
  replace hbW := hbW.trans (ho17.below (B := w.heap.size) (by omega) (by omega))
  replace ag := ag.only ho17 (by omega) (by omega)
  go_wp2_with fail
  refine (heldInt64S_r bG _ y0 _ _ _ mg (by omega) hSm.out).mono ?_
  rintro e w18 ⟨rfl, hb18⟩
  have sz18 := hb18.size
  replace hbW := bthen' hbW hb18
  replace ag := ag.below hb18 (by omega)
  replace mg := mg.below hb18 (by omega)
  go_wp2_with fail
  refine (toPartS_k A0 c0 xs0 _ ((hr0.below hbW).more hbW.size) HS0.out).mono ?_
  rintro e w19 ⟨cA0, rfl, cf0, hb19⟩
  have sz19 := hb19.size
  replace hbW := bthen' hbW hb19
  replace ag := ag.below hb19 (by omega)
  replace mg := mg.below hb19 (by omega)
  go_wp2_with fail
  refine (toJointS_k A1 c1 xs1 _ ((hr1.below hbW).more hbW.size) HS1.out).mono ?_
  rintro e w20 ⟨cA1, rfl, cf1, hb20⟩
  have sz20 := hb20.size
  replace hbW := bthen' hbW hb20
  replace ag := ag.below hb20 (by omega)
  replace mg := mg.below hb20 (by omega)
  replace cf0 := cf0.below hb20 (by omega)
  go_wp2_with fail
  refine (hIm.out cA0 _ cA1 _ _ (cf0.rd.more (by omega)) (cf1.rd.more (by omega))).mono ?_
  rintro e w21 ⟨cG, cc, rfl, cg, -, hb21⟩
  have sz21 := hb21.size
  replace hbW := bthen' hbW hb21
  replace ag := ag.below hb21 (by omega)
  replace mg := mg.below hb21 (by omega)
  replace cf0 := cf0.below hb21 (by omega)
  replace cf1 := cf1.below hb21 (by omega)
  simp only at cg
  go_wp2_with fail
  refine (eqInt64S_r cG aG _ _ y0 _ (cg.rd.more (by omega)) (ag.rd.more (by omega)) hSm.out).mono ?_
  rintro e w22 ⟨rfl, hb22⟩
  have sz22 := hb22.size
  replace hbW := bthen' hbW hb22
  replace ag := ag.below hb22 (by omega)
  replace mg := mg.below hb22 (by omega)
  replace cf0 := cf0.below hb22 (by omega)
  replace cf1 := cf1.below hb22 (by omega)
  replace cg := cg.below hb22 (by omega)
  go_wp2_with fail
  refine (heldInt64S_r bG _ y0 _ _ _ mg (by omega) hSm.out).mono ?_
  rintro e w23 ⟨rfl, hb23⟩
  have sz23 := hb23.size
  replace hbW := bthen' hbW hb23
  replace ag := ag.below hb23 (by omega)
  replace mg := mg.below hb23 (by omega)
  replace cf0 := cf0.below hb23 (by omega)
  replace cf1 := cf1.below hb23 (by omega)
  replace cg := cg.below hb23 (by omega)
  go_wp2_with fail
  go_ret
  exact ⟨rfl, hbW⟩

set_option maxRecDepth 100000 in
theorem fnExactNeededParts_lifted (os : Os) (started : os.Started) (H : Type) (enc : TypeId × Value → H) :
    ReturnsInHanded {} Try.checked os 10 .any (Rows.fnExactNeededPartsSpec.pre6 enc Try.prog Try.f10 Rows.fnExactNeededPartsRow.domain false) (Rows.fnExactNeededPartsSpec.post enc Try.prog Try.f10 false true false false) := by
  refine returnsInHanded_of_change (C := Try.checked) own started (by kernel_rfl) Try.func10
    (ChangeSpec.witness6 (enc := enc) (C := Try.checked) false ⟨#[], #[.slice none 0 0, .slice none 0 0], []⟩ 8 (by kernel_rfl) (by kernel_rfl) (by kernel_rfl) (by kernel_rfl)) ?_
  intro W base args ds gs before hval0 hW hcnd _
  have hval : ∀ (j : Nat) t v, Try.f10.params[j]? = some t → args[j]? = some v → Value.okWide Try.prog W .any base t v := hval0
  have hlt : ∀ x ∈ before, x.block < W.heap.size := fun x hx => hW.lt x hx
  have hW' := hW
  obtain ⟨p, q, hA0, hV, rfl, hfz, hnd⟩ := hW
  have hA : DataW.TrodAll enc Try.prog W 0 (fun _ => true) true Try.f10.params.toList args.toList ds p := hA0
  rw [Try.params10] at hA hval
  obtain ⟨v0, v1, d0, d1, p0, p1, rfl, rfl, rfl, h0, h1⟩ := trodAll_two hA
  obtain ⟨A0, k0, xs0, rfl, hr0⟩ := open_partsV (hval 0 84 v0 rfl rfl) h0
  obtain ⟨A1, k1, xs1, rfl, hr1⟩ := open_joints (hval 1 85 v1 rfl rfl) h1
  refine (law_FnExactNeededParts A0 k0 xs0 A1 k1 xs1 W hr0 hr1).mono fun e W' ⟨he, hb⟩ => ?_
  subst he
  exact ⟨_, rfl, law_post (tb := 4) laidOut (by kernel_rfl) rfl rfl Try.underlying4 hW' rfl hb⟩
theorem fnExactNeededParts_closed : joinedFacts Try.prog 10 Try.f10 Rows.fnExactNeededPartsSpec Rows.fnExactNeededPartsRow = true := by
  unfold joinedFacts; rw [mayEnter_yes, liftsFinal_no, make_cut]; kernel_rfl
theorem fnExactNeededParts_holds : Rows.FnExactNeededPartsSaid :=
  OpenClaim.holds_of_wide 10 Try.f10 rfl rfl rfl rfl rfl rfl rfl ⟨rfl, rfl, rfl, rfl, rfl⟩ rfl rfl rfl rfl rfl (by kernel_rfl) Try.func10 fnExactNeededParts_closed
    (of_decide_eq_true (by kernel_rfl)) (by unfold Func.isWrapper; rw [if_neg (of_decide_eq_false (by kernel_rfl))]; exact ⟨rfl, rfl⟩)
    (fun os started H enc _ => fnExactNeededParts_lifted os started H enc)
#print axioms fnExactNeededParts_holds

end Go.Proofs.Ytpdkhmnbabccnaa
