/- DERIVED. The walks that count in how many bicycles each part is. By program (gtimes.py). -/
import Derived.Test.YtpdkhmnbabccnaaTimes
namespace Go.Proofs.Ytpdkhmnbabccnaa
set_option maxRecDepth 100000
open Go.RowKit

theorem infoInt : (Try.prog.info? 3).map (fun i => (i.zero, i.size, i.bytes)) = some (some (.int .i64 0), 1, 8) := by kernel_rfl

set_option maxHeartbeats 2000000 in
theorem timesUsed_any (LA A : Option Addr) (lc c : Nat) (vs : List PartT) (ms : List RowM) (w : World) (hr : RdV w w.heap.size LA vs) (hv : vs.length ≤ 16) (hsl : ∀ x ∈ vs, 0 ≤ x.slot ∧ x.slot < 8) (hR : Rd w w.heap.size 1 rowC A ms) (hF : ∀ m ∈ ms, Rd w w.heap.size 1 tC m.A m.bs) (h8 : ∀ m ∈ ms, m.bs.length = 8) (hml : ms.length ≤ 131071) :
    Calls Try.prog 160 #[.slice LA vs.length lc, .slice A ms.length c] w (GivesOwn w 3 1 nC (vs.map (timesOf (ms.map RowM.bs)))) := by
  have hmk := made Try.underlying162 infoInt vs.length (by omega) (by omega)
  have HF := Lib.hid hF; clear hF
  have H8 := Lib.hid h8; clear h8
  have HSL := Lib.hid hsl; clear hsl
  have HST : Hid (CntSt (w.alloc (.cells (madeCells #[.int .i64 0] vs.length) 3)) w.heap.size 3 vs (ms.map RowM.bs) 0 0) := CntSt.start w _ vs _
  have HBD : Hid (∀ n k, 0 ≤ timesAt vs (ms.map RowM.bs) n k ∧ timesAt vs (ms.map RowM.bs) n k ≤ 131071) := fun n k => by
    have := timesAt_bd vs (ms.map RowM.bs) n k
    rw [List.length_map] at this
    omega
  have HFin : Hid (∀ v : World, Below w.heap.size w v → CntSt v w.heap.size 3 vs (ms.map RowM.bs) ms.length 0 → GivesOwn w 3 1 nC (vs.map (timesOf (ms.map RowM.bs))) (.returned (.slice (some ⟨w.heap.size, 0, none⟩) vs.length vs.length)) v) := fun v h1 h2 =>
    ⟨some ⟨w.heap.size, 0, none⟩, vs.length, by rw [List.length_map], h2.flat (Nat.le_refl _) (by rw [List.length_map]; exact Nat.le_refl _), by rw [List.length_map]; exact Nat.le_refl _, h1⟩
  have HLL : Hid (∀ (n : Nat) (y : RowM), ms[n]? = some y → (ms.map RowM.bs)[n]? = some y.bs) := fun n y h => by rw [List.getElem?_map, h]; rfl
  generalize ms.map RowM.bs = L at HST HBD HFin HLL ⊢
  go_enter Try.func160, Try.ntmps160
  go_wp2
  clear hmk
  have hb0 : Below w.heap.size w (w.alloc (.cells (madeCells #[.int .i64 0] vs.length) 3)) := balloc _ _
  go_loopw [15] (fun i wr => ∃ n : Nat, n ≤ ms.length ∧ i = .int .i64 n ∧ CntSt wr w.heap.size 3 vs L n 0 ∧ Below w.heap.size w wr) (fun i _ => ms.length - (intOf i).toNat)
  case atStart => exact ⟨0, Nat.zero_le _, rfl, by first | exact HST.out | simpa using HST.out, by first | exact hb0 | simpa using hb0⟩
  case round =>
    obtain ⟨n, hn, rfl, hst, hb⟩ := hrel
    have Hst := Lib.hid hst; clear hst HST hb0
    by_cases hlt : n < ms.length
    · have hx : ms[n]? = some ms[n] := List.getElem?_eq_getElem hlt
      obtain ⟨ba, oa, rfl, hBa, q00⟩ := hR.at1 hx rfl
      rw [Nat.mul_one] at q00
      have hm := List.mem_of_getElem? hx
      have hrow := HF.out _ hm
      have h8y := H8.out _ hm
      have HL := Lib.hid (HLL.out n _ hx)
      generalize ms[n] = y at hx q00 hm hrow h8y HL
      clear hx hm
      have hle8 : 8 ≤ y.bs.length := by omega
      have Hrow := Lib.hid hrow; clear hrow
      clear h8y
      obtain ⟨by_, oy, hyA⟩ : ∃ b o, y.A = some ⟨b, o, none⟩ := by
        obtain ⟨b, o, e, _⟩ := Hrow.out (by omega)
        exact ⟨b, o, e⟩
      rw [hyA] at Hrow q00
      clear hyA
      have q0 := (hb.cell (p := ⟨ba, oa + n, none⟩) hBa).trans q00
      go_wp2_with fail
      skip
      go_loopw [21] (fun i wi => ∃ j : Nat, j ≤ vs.length ∧ i = .int .i64 j ∧ CntSt wi w.heap.size 3 vs L n j ∧ Below w.heap.size w wi) (fun i _ => vs.length - (intOf i).toNat)
      case atStart => exact ⟨0, Nat.zero_le _, rfl, Hst.out, hb⟩
      case round =>
        obtain ⟨j, hj, rfl, hst, hbi⟩ := hrel
        have Hst2 := Lib.hid hst; clear hst
        by_cases hjl : j < vs.length
        · have hx : vs[j]? = some vs[j] := List.getElem?_eq_getElem hjl
          obtain ⟨bl, ol, rfl⟩ := hr.addr (by omega)
          obtain ⟨hB, pA, pc, p0, p1, p2, p3, p4, _, _⟩ := (hr.below hbi).cells hx
          have hsx := HSL.out _ (List.mem_of_getElem? hx)
          generalize vs[j] = x at p0 p1 p2 p3 p4 hx hsx
          obtain ⟨s, hs⟩ : ∃ s : Nat, x.slot = (s : Int) := ⟨x.slot.toNat, by omega⟩
          have hs8 : s < 8 := by omega
          have hyt : y.bs[s]? = some y.bs[s] := List.getElem?_eq_getElem (by omega)
          obtain ⟨b2, o2, e2, hB2, q1⟩ := (Hrow.out.below hbi).at1 hyt rfl
          simp only [Option.some.injEq, Addr.mk.injEq] at e2
          obtain ⟨rfl, rfl, _⟩ := e2
          rw [Nat.mul_one] at q1
          have HU : Hid (usesB x y.bs = decide (y.bs[s] = x.code)) := by
            unfold Hid usesB
            rw [hs, textAt_eq (n := (s : Int)) (c := y.bs[s]) (by rw [Int.toNat_natCast]; exact hyt)]
          generalize y.bs[s] = ty at q1 HU
          have Hx := Lib.hid hx; clear hx hyt hsx
          rw [hs] at p1
          clear hs
          have Hst3 := Lib.hid (Hst2.out.next (balloc _ (.cells #[.string x.code, .int .i64 (s : Int), .slice pA x.ports.length pc, .int .i64 x.price, .int .i64 x.grams] 26)))
          have hbV := hbi.alloc hbi.size (.cells #[.string x.code, .int .i64 (s : Int), .slice pA x.ports.length pc, .int .i64 x.price, .int .i64 x.grams] 26)
          go_wp2_with fail
          have y0 : (wr.alloc (.cells #[.string x.code, .int .i64 (s : Int), .slice pA x.ports.length pc, .int .i64 x.price, .int .i64 x.grams] 26)).cell? ⟨wr.heap.size, 0, none⟩ = some (.string x.code) := by go_simp
          have y1 : (wr.alloc (.cells #[.string x.code, .int .i64 (s : Int), .slice pA x.ports.length pc, .int .i64 x.price, .int .i64 x.grams] 26)).cell? ⟨wr.heap.size, 1, none⟩ = some (.int .i64 (s : Int)) := by go_simp
          have q2 := ((balloc wr (.cells #[.string x.code, .int .i64 (s : Int), .slice pA x.ports.length pc, .int .i64 x.price, .int .i64 x.grams] 26)).cell (p := ⟨by_, oy + s, none⟩) (World.block_lt_of_cell? wr _ q1)).trans q1
          clear p0 p1 p2 p3 p4 q1
          generalize wr.alloc (.cells #[.string x.code, .int .i64 (s : Int), .slice pA x.ports.length pc, .int .i64 x.price, .int .i64 x.grams] 26) = V at Hst3 hbV y0 y1 q2 ⊢
          generalize wr.heap.size = g0 at y0 y1 ⊢
          have z0 := Hst3.out.here hjl
          have zf := Hst3.out.1.frozen j
          have zl := Hst3.out.1.lt
          have hbd := HBD.out n j
          by_cases hty : ty = x.code
          · have hcc : (ty.toList == x.code.toList) = true := by simp [hty]
            have HP := Lib.hid (Hst3.out.put Hx.out HL.out (by rw [HU.out]; simp [hty]))
            clear hty HU
            generalize timesAt vs L n j = q at z0 hbd HP
            go_quiet (fail)
            go_wp2_with fail
            exact ⟨⟨j + 1, by omega, by go_num, HP.out.keep rfl, (hbV.setCell (p := ⟨w.heap.size, j, none⟩) (Nat.le_refl _) _).trans (by first | exact Below.refl _ _ | exact below_drewN (Below.refl _ _) _)⟩, by simp [intOf]; omega⟩
          · have hcc : (ty.toList == x.code.toList) = false := by simp; exact fun e => hty (str_eq.1 e)
            have HP := Lib.hid (Hst3.out.skip Hx.out HL.out (by rw [HU.out]; simp [hty]))
            clear hty HU
            go_quiet (fail)
            go_wp2_with fail
            exact ⟨⟨j + 1, by omega, by go_num, HP.out.keep rfl, below_drewN hbV _⟩, by simp [intOf]; omega⟩
        · obtain rfl : j = vs.length := by omega
          have HT := Lib.hid Hst2.out.turn
          go_wp2_with fail
          exact ⟨⟨n + 1, by omega, by go_num, HT.out, hbi⟩, by simp [intOf]; omega⟩
    · obtain rfl : n = ms.length := by omega
      have HG := Lib.hid (HFin.out _ hb Hst.out)
      go_wp2_with fail
      go_ret
      exact HG.out

set_option maxHeartbeats 2000000 in
theorem l18Times_any (LA A : Option Addr) (lc c : Nat) (vs : List PartT) (ms : List RowM) (w : World) (hr : RdV w w.heap.size LA vs) (hv : vs.length ≤ 16) (hsl : ∀ x ∈ vs, 0 ≤ x.slot ∧ x.slot < 8) (hR : Rd w w.heap.size 1 rowC A ms) (hF : ∀ m ∈ ms, Rd w w.heap.size 1 tC m.A m.bs) (h8 : ∀ m ∈ ms, m.bs.length = 8) (hml : ms.length ≤ 131071) :
    Calls Try.prog 154 #[.slice LA vs.length lc, .slice A ms.length c] w (GivesOwn w 2 1 nC (vs.map (timesOf (ms.map RowM.bs)))) := by
  have hmk := made Try.underlying53 infoInt64 vs.length (by omega) (by omega)
  have HF := Lib.hid hF; clear hF
  have H8 := Lib.hid h8; clear h8
  have HSL := Lib.hid hsl; clear hsl
  have HST : Hid (CntSt (w.alloc (.cells (madeCells #[.int .i64 0] vs.length) 2)) w.heap.size 2 vs (ms.map RowM.bs) 0 0) := CntSt.start w _ vs _
  have HBD : Hid (∀ n k, 0 ≤ timesAt vs (ms.map RowM.bs) n k ∧ timesAt vs (ms.map RowM.bs) n k ≤ 131071) := fun n k => by
    have := timesAt_bd vs (ms.map RowM.bs) n k
    rw [List.length_map] at this
    omega
  have HFin : Hid (∀ v : World, Below w.heap.size w v → CntSt v w.heap.size 2 vs (ms.map RowM.bs) ms.length 0 → GivesOwn w 2 1 nC (vs.map (timesOf (ms.map RowM.bs))) (.returned (.slice (some ⟨w.heap.size, 0, none⟩) vs.length vs.length)) v) := fun v h1 h2 =>
    ⟨some ⟨w.heap.size, 0, none⟩, vs.length, by rw [List.length_map], h2.flat (Nat.le_refl _) (by rw [List.length_map]; exact Nat.le_refl _), by rw [List.length_map]; exact Nat.le_refl _, h1⟩
  have HLL : Hid (∀ (n : Nat) (y : RowM), ms[n]? = some y → (ms.map RowM.bs)[n]? = some y.bs) := fun n y h => by rw [List.getElem?_map, h]; rfl
  generalize ms.map RowM.bs = L at HST HBD HFin HLL ⊢
  go_enter Try.func154, Try.ntmps154
  go_wp2
  clear hmk
  have hb0 : Below w.heap.size w (w.alloc (.cells (madeCells #[.int .i64 0] vs.length) 2)) := balloc _ _
  go_loopw [6] (fun i wr => ∃ n : Nat, n ≤ ms.length ∧ i = .int .i64 n ∧ CntSt wr w.heap.size 2 vs L n 0 ∧ Below w.heap.size w wr) (fun i _ => ms.length - (intOf i).toNat)
  case atStart => exact ⟨0, Nat.zero_le _, rfl, by first | exact HST.out | simpa using HST.out, by first | exact hb0 | simpa using hb0⟩
  case round =>
    obtain ⟨n, hn, rfl, hst, hb⟩ := hrel
    have Hst := Lib.hid hst; clear hst HST hb0
    by_cases hlt : n < ms.length
    · have hx : ms[n]? = some ms[n] := List.getElem?_eq_getElem hlt
      obtain ⟨ba, oa, rfl, hBa, q00⟩ := hR.at1 hx rfl
      rw [Nat.mul_one] at q00
      have hm := List.mem_of_getElem? hx
      have hrow := HF.out _ hm
      have h8y := H8.out _ hm
      have HL := Lib.hid (HLL.out n _ hx)
      generalize ms[n] = y at hx q00 hm hrow h8y HL
      clear hx hm
      have hle8 : 8 ≤ y.bs.length := by omega
      have Hrow := Lib.hid hrow; clear hrow
      clear h8y
      obtain ⟨by_, oy, hyA⟩ : ∃ b o, y.A = some ⟨b, o, none⟩ := by
        obtain ⟨b, o, e, _⟩ := Hrow.out (by omega)
        exact ⟨b, o, e⟩
      rw [hyA] at Hrow q00
      clear hyA
      have q0 := (hb.cell (p := ⟨ba, oa + n, none⟩) hBa).trans q00
      go_wp2_with fail
      skip
      go_loopw [7] (fun i wi => ∃ j : Nat, j ≤ vs.length ∧ i = .int .i64 j ∧ CntSt wi w.heap.size 2 vs L n j ∧ Below w.heap.size w wi) (fun i _ => vs.length - (intOf i).toNat)
      case atStart => exact ⟨0, Nat.zero_le _, rfl, Hst.out, hb⟩
      case round =>
        obtain ⟨j, hj, rfl, hst, hbi⟩ := hrel
        have Hst2 := Lib.hid hst; clear hst
        by_cases hjl : j < vs.length
        · have hx : vs[j]? = some vs[j] := List.getElem?_eq_getElem hjl
          obtain ⟨bl, ol, rfl⟩ := hr.addr (by omega)
          obtain ⟨hB, pA, pc, p0, p1, p2, p3, p4, _, _⟩ := (hr.below hbi).cells hx
          have hsx := HSL.out _ (List.mem_of_getElem? hx)
          generalize vs[j] = x at p0 p1 p2 p3 p4 hx hsx
          obtain ⟨s, hs⟩ : ∃ s : Nat, x.slot = (s : Int) := ⟨x.slot.toNat, by omega⟩
          have hs8 : s < 8 := by omega
          have hyt : y.bs[s]? = some y.bs[s] := List.getElem?_eq_getElem (by omega)
          obtain ⟨b2, o2, e2, hB2, q1⟩ := (Hrow.out.below hbi).at1 hyt rfl
          simp only [Option.some.injEq, Addr.mk.injEq] at e2
          obtain ⟨rfl, rfl, _⟩ := e2
          rw [Nat.mul_one] at q1
          have HU : Hid (usesB x y.bs = decide (y.bs[s] = x.code)) := by
            unfold Hid usesB
            rw [hs, textAt_eq (n := (s : Int)) (c := y.bs[s]) (by rw [Int.toNat_natCast]; exact hyt)]
          generalize y.bs[s] = ty at q1 HU
          have Hx := Lib.hid hx; clear hx hyt hsx
          rw [hs] at p1
          have q2 := (hbi.cell (p := ⟨ba, oa + n, none⟩) hBa).trans q00
          have Hst3 := Hst2
          have hbV := hbi
          clear hs
          go_wp2_with fail
          have z0 := Hst3.out.here hjl
          have zf := Hst3.out.1.frozen j
          have zl := Hst3.out.1.lt
          have hbd := HBD.out n j
          by_cases hty : ty = x.code
          · have hcc : (ty.toList == x.code.toList) = true := by simp [hty]
            have HP := Lib.hid (Hst3.out.put Hx.out HL.out (by rw [HU.out]; simp [hty]))
            clear hty HU
            generalize timesAt vs L n j = q at z0 hbd HP
            go_quiet (fail)
            go_wp2_with fail
            exact ⟨⟨j + 1, by omega, by go_num, HP.out.keep rfl, (hbV.setCell (p := ⟨w.heap.size, j, none⟩) (Nat.le_refl _) _).trans (by first | exact Below.refl _ _ | exact below_drewN (Below.refl _ _) _)⟩, by simp [intOf]; omega⟩
          · have hcc : (ty.toList == x.code.toList) = false := by simp; exact fun e => hty (str_eq.1 e)
            have HP := Lib.hid (Hst3.out.skip Hx.out HL.out (by rw [HU.out]; simp [hty]))
            clear hty HU
            go_quiet (fail)
            go_wp2_with fail
            exact ⟨⟨j + 1, by omega, by go_num, HP.out.keep rfl, below_drewN hbV _⟩, by simp [intOf]; omega⟩
        · obtain rfl : j = vs.length := by omega
          have HT := Lib.hid Hst2.out.turn
          go_wp2_with fail
          exact ⟨⟨n + 1, by omega, by go_num, HT.out, hbi⟩, by simp [intOf]; omega⟩
    · obtain rfl : n = ms.length := by omega
      have HG := Lib.hid (HFin.out _ hb Hst.out)
      go_wp2_with fail
      go_ret
      exact HG.out

end Go.Proofs.Ytpdkhmnbabccnaa
