/- DERIVED. Parts drawn, with a part, a code or a slot. By program (gdrawx.py). -/
import Derived.Test.YtncjgebgghpigaaDraw10
import Derived.Test.YtncjgebgghpigaaDraw3
import Derived.Test.YtncjgebgghpigaaBlk
import Derived.Test.YtncjgebgghpigaaKitPart
import Derived.Deep.RegionLaw
import Derived.Deep.CutRange
namespace Go.Proofs.Ytncjgebgghpigaa
set_option maxRecDepth 100000
open Go.RowKit

theorem feed_made {w v : World} {b c : Nat} {A : Option Addr} {xs : List Int} (hr : Rd w w.heap.size 1 uC A xs) (hx : ∀ x ∈ xs, 0 ≤ x ∧ x < 256) (hm : xs.length ≤ 4096) (h1 : Src v b A c xs) (h2 : w.heap.size ≤ b) (h3 : Below w.heap.size w v) : Feed v b A c xs :=
  ⟨h1, (hr.below h3).more h2, hx, hm⟩
theorem smallV_of {vs : List PartT} (h1 : vs.length ≤ 64) (h2 : ∀ x ∈ vs, x.code.size ≤ 64 ∧ x.ports.length ≤ 64) : SmallV vs := ⟨by omega, fun x hx => by
  have := h2 x hx
  unfold maxLen
  omega⟩
theorem oset (w : World) {r : Nat} (j : Nat) (u : Value) : Only r (r + 1) w (w.setCell ⟨r, j, none⟩ u) := Only.setCell (p := ⟨r, j, none⟩) ⟨Nat.le_refl _, Nat.lt_succ_self _⟩ u
def sevenN : List ByteArray := [⟨#[97, 110, 99, 104, 111, 114]⟩, ⟨#[98, 111, 108, 116]⟩, ⟨#[99, 114, 97, 110, 107]⟩, ⟨#[102, 111, 114, 107]⟩, ⟨#[110, 111, 110, 101]⟩, ⟨#[]⟩, ⟨#[115, 97, 100, 100, 108, 101]⟩]
/-- Parts and a text. -/
def GivenLT (w : World) (e : Ending) (w' : World) : Prop := ∃ (LA : Option Addr) (lc : Nat) (vs : List PartT) (t : ByteArray), e = .returned (.tuple #[.slice LA vs.length lc, .string t]) ∧ RdV w' w'.heap.size LA vs ∧ SmallV vs ∧ vs.length ≤ 64 ∧ t.size ≤ 64 ∧ Below w.heap.size w w'
/-- Parts and a number. -/
def GivenLN (w : World) (e : Ending) (w' : World) : Prop := ∃ (LA : Option Addr) (lc : Nat) (vs : List PartT) (m : Int), e = .returned (.tuple #[.slice LA vs.length lc, .int .i64 m]) ∧ RdV w' w'.heap.size LA vs ∧ SmallV vs ∧ vs.length ≤ 64 ∧ -1 ≤ m ∧ m ≤ 8 ∧ Below w.heap.size w w'
/-- Parts and a part. -/
def GivenLP (w : World) (e : Ending) (w' : World) : Prop := ∃ (LA : Option Addr) (lc : Nat) (vs : List PartT) (x : PartT) (pA : Option Addr) (pc : Nat), e = .returned (.tuple #[.slice LA vs.length lc, argV x pA pc]) ∧ RdV w' w'.heap.size LA vs ∧ SmallV vs ∧ vs.length ≤ 64 ∧ x.code.size ≤ 64 ∧ x.ports.length ≤ 64 ∧ Rd w' w'.heap.size 3 portC pA x.ports ∧ x.ports.length ≤ pc ∧ Below w.heap.size w w'

set_option maxHeartbeats 4000000 in
theorem DrawFindPart_any (A : Option Addr) (c : Nat) (xs : List Int) (w : World) (hr : Rd w w.heap.size 1 uC A xs) (hx : ∀ x ∈ xs, 0 ≤ x ∧ x < 256) (hm : xs.length ≤ 4096) :
    Calls Try.prog 11 #[.slice A xs.length c] w (GivenLT w) := by
  have HS := Lib.hid (l01From_any A c xs w hr hx hm)
  have HFd : Hid (∀ (v : World) (b : Nat), Src v b A c xs → w.heap.size ≤ b → Below w.heap.size w v → Feed v b A c xs) := fun v b h1 h2 h3 => feed_made hr hx hm h1 h2 h3
  have HB : Hid (∀ (v : World) (b : Nat), Feed v b A c xs → Calls Try.prog 26 #[.pointer (some ⟨b, 0, none⟩)] v (DrawnParts v b A c xs)) := fun v b h => l16List_any A c b xs v h
  have HN : Hid (∀ (v : World) (b : Nat) (n : Int), n < 20000 → Feed v b A c xs → Calls Try.prog 34 #[.pointer (some ⟨b, 0, none⟩), .int .i64 n] v (Drawn v b A c xs n)) := fun v b n hn h => l01Next_any A c b xs n v h.src h.rd h.byte h.small (by omega)
  clear hr hx
  go_enter Try.func11, Try.ntmps11
  go_wp2_with fail
  refine HS.out.mono ?_
  rintro e w1 ⟨b, rfl, hS, hbl, hb1⟩
  have HF1 := Lib.hid (HFd.out w1 b hS hbl hb1)
  have hlt1 := hS.lt
  clear hS HS HFd
  go_wp2_with fail
  refine (HB.out w1 b HF1.out).mono ?_
  rintro e w2 ⟨LA, lc, vs, rfl, fv, _, hvl, hvs, hF2, hO2⟩
  have HF2 := Lib.hid hF2
  have HV := Lib.hid fv
  have hb2 : Below w.heap.size w w2 := hb1.trans (hO2.below (by omega) (by omega))
  have z2 := hO2.size
  have HSm : Hid (SmallV vs) := smallV_of hvl hvs
  clear hF2 fv hvs HB HF1 hO2 hb1
  have HEnd : Hid (∀ (v : World) (t : ByteArray), Only b (b + 1) w2 v → t.size ≤ 64 → GivenLT w (.returned (.tuple #[.slice LA vs.length lc, .string t])) v) := fun v t hO ht =>
    ⟨LA, lc, vs, t, rfl, ((HV.out.only hO (Nat.le_refl _) (Or.inr (by omega))).mono (Nat.le_refl _) hO.size).rd, HSm.out, hvl, ht, hb2.trans (hO.below (by omega) (by omega))⟩
  have hltb : b < w2.heap.size := by omega
  have HO2 : Hid (Only b (b + 1) w2 w2) := Only.refl _ _ _
  have hltW : b < w2.heap.size := HF2.out.src.lt
  go_upto_region 3 with (fail)
  go_region_law (first
    | (go_simp; go_at_call 34; refine (HN.out w2.drew b 7 (by omega) (HF2.out.next (bdrew _))).mono ?_; rintro e w9 ⟨v3, rfl, b0, b1, _, hS, hO⟩; have b1 := b1 (by omega); obtain ⟨m, rfl⟩ := Int.eq_ofNat_of_zero_le b0; have hm2 : m < sevenN.length := (by simp [sevenN]; omega); have hm2i : (m : Int) < 7 := (by omega); have HO9 : Hid (Only b (b + 1) w2 w9) := (HO2.out.trans (Only.of_below (bdrew w2))).trans hO; have x0 : (w9.alloc (.cells #[.string ⟨#[97, 110, 99, 104, 111, 114]⟩, .string ⟨#[98, 111, 108, 116]⟩, .string ⟨#[99, 114, 97, 110, 107]⟩, .string ⟨#[102, 111, 114, 107]⟩, .string ⟨#[110, 111, 110, 101]⟩, .string ⟨#[]⟩, .string ⟨#[115, 97, 100, 100, 108, 101]⟩] 9)).cell? ⟨w9.heap.size, m, none⟩ = some (.string sevenN[m]) := (Blk.made w9 9 (sevenN.map Value.string)).cell (by rw [List.getElem?_map, List.getElem?_eq_getElem hm2]; rfl); have HY : Hid (sevenN[m].size ≤ 64) := (show ∀ t ∈ sevenN, t.size ≤ 64 by decide) _ (List.getElem_mem hm2); generalize sevenN[m] = y at x0 HY; clear hS hO; go_wp2_with fail)
    | (go_simp; go_at_call 34; refine (HN.out (w2.alloc (.cells #[.string ⟨#[97, 110, 99, 104, 111, 114]⟩, .string ⟨#[98, 111, 108, 116]⟩, .string ⟨#[99, 114, 97, 110, 107]⟩, .string ⟨#[102, 111, 114, 107]⟩, .string ⟨#[110, 111, 110, 101]⟩, .string ⟨#[]⟩, .string ⟨#[115, 97, 100, 100, 108, 101]⟩] 9)).drew b 7 (by omega) (HF2.out.next (bthen (balloc w2 _) (bdrew _)))).mono ?_; rintro e w9 ⟨v3, rfl, b0, b1, _, hS, hO⟩; have b1 := b1 (by omega); obtain ⟨m, rfl⟩ := Int.eq_ofNat_of_zero_le b0; have hm2 : m < sevenN.length := (by simp [sevenN]; omega); have hm2i : (m : Int) < 7 := (by omega); have HO9 : Hid (Only b (b + 1) w2 w9) := (HO2.out.trans (Only.of_below (bthen (balloc w2 (.cells #[.string ⟨#[97, 110, 99, 104, 111, 114]⟩, .string ⟨#[98, 111, 108, 116]⟩, .string ⟨#[99, 114, 97, 110, 107]⟩, .string ⟨#[102, 111, 114, 107]⟩, .string ⟨#[110, 111, 110, 101]⟩, .string ⟨#[]⟩, .string ⟨#[115, 97, 100, 100, 108, 101]⟩] 9)) (bdrew _)))).trans hO; have x0 : w9.cell? ⟨w2.heap.size, m, none⟩ = some (.string sevenN[m]) := ((((Blk.made w2 9 (sevenN.map Value.string)).next (bdrew _)).only hO (by omega))).cell (by rw [List.getElem?_map, List.getElem?_eq_getElem hm2]; rfl); have HY : Hid (sevenN[m].size ≤ 64) := (show ∀ t ∈ sevenN, t.size ≤ 64 by decide) _ (List.getElem_mem hm2); generalize sevenN[m] = y at x0 HY; clear hS hO; go_wp2_with fail))
  all_goals
    go_wp2_with fail
    go_ret2
    refine HEnd.out _ y ?_ HY.out
    first
      | exact HO9.out
      | exact HO9.out.trans (Only.alloc _)
      | exact HO9.out.trans (Only.of_below (bdrew _))
      | exact HO9.out.trans (Only.of_below (bthen (balloc _ _) (bdrew _)))

set_option maxHeartbeats 1000000 in
theorem DrawDropPart_any (A : Option Addr) (c : Nat) (xs : List Int) (w : World) (hr : Rd w w.heap.size 1 uC A xs) (hx : ∀ x ∈ xs, 0 ≤ x ∧ x < 256) (hm : xs.length ≤ 4096) :
    Calls Try.prog 8 #[.slice A xs.length c] w (GivenLT w) := by
  have HD := Lib.hid (DrawFindPart_any A c xs w hr hx hm)
  clear hr hx
  go_enter Try.func8, Try.ntmps8
  go_wp2_with fail
  refine HD.out.mono ?_
  rintro e w2 ⟨LA, lc, vs, t, rfl, h1, h2, h3, h4, h5⟩
  have HEnd : Hid (GivenLT w (.returned (.tuple #[.slice LA vs.length lc, .string t])) w2) := ⟨LA, lc, vs, t, rfl, h1, h2, h3, h4, h5⟩
  clear h1 h2 h3 h4 h5
  go_wp2_with fail
  go_ret2
  exact HEnd.out

set_option maxHeartbeats 1000000 in
theorem DrawPartsInSlot_any (A : Option Addr) (c : Nat) (xs : List Int) (w : World) (hr : Rd w w.heap.size 1 uC A xs) (hx : ∀ x ∈ xs, 0 ≤ x ∧ x < 256) (hm : xs.length ≤ 4096) :
    Calls Try.prog 35 #[.slice A xs.length c] w (GivenLN w) := by
  have HS := Lib.hid (l01From_any A c xs w hr hx hm)
  have HFd : Hid (∀ (v : World) (b : Nat), Src v b A c xs → w.heap.size ≤ b → Below w.heap.size w v → Feed v b A c xs) := fun v b h1 h2 h3 => feed_made hr hx hm h1 h2 h3
  have HB : Hid (∀ (v : World) (b : Nat), Feed v b A c xs → Calls Try.prog 26 #[.pointer (some ⟨b, 0, none⟩)] v (DrawnParts v b A c xs)) := fun v b h => l16List_any A c b xs v h
  have HN : Hid (∀ (v : World) (b : Nat) (n : Int), n < 20000 → Feed v b A c xs → Calls Try.prog 34 #[.pointer (some ⟨b, 0, none⟩), .int .i64 n] v (Drawn v b A c xs n)) := fun v b n hn h => l01Next_any A c b xs n v h.src h.rd h.byte h.small (by omega)
  clear hr hx
  go_enter Try.func35, Try.ntmps35
  go_wp2_with fail
  refine HS.out.mono ?_
  rintro e w1 ⟨b, rfl, hS, hbl, hb1⟩
  have HF1 := Lib.hid (HFd.out w1 b hS hbl hb1)
  have hlt1 := hS.lt
  clear hS HS HFd
  go_wp2_with fail
  refine (HB.out w1 b HF1.out).mono ?_
  rintro e w2 ⟨LA, lc, vs, rfl, fv, _, hvl, hvs, hF2, hO2⟩
  have HF2 := Lib.hid hF2
  have HV := Lib.hid fv
  have hb2 : Below w.heap.size w w2 := hb1.trans (hO2.below (by omega) (by omega))
  have z2 := hO2.size
  have HSm : Hid (SmallV vs) := smallV_of hvl hvs
  clear hF2 fv hvs HB HF1 hO2 hb1
  have HPk := Lib.hid (pick_next A c b xs w2 2 [0, 1, 2, 7, 8, -1, 1] (by simp) (by simp) HF2.out)
  clear HN
  go_wp2_with fail
  refine HPk.out.mono ?_
  rintro e w5 ⟨m, hv, rfl, hF9, hO⟩
  have hmb : -1 ≤ m ∧ m ≤ 8 := by
    simp only [List.mem_cons, List.not_mem_nil, or_false] at hv
    omega
  have hR := ((HV.out.only hO (Nat.le_refl _) (Or.inr (by omega))).mono (Nat.le_refl _) hO.size).rd
  have hBl : Below w.heap.size w w5 := hb2.trans (hO.below (by omega) (by omega))
  have HEnd : Hid (GivenLN w (.returned (.tuple #[.slice LA vs.length lc, .int .i64 m])) w5) := ⟨LA, lc, vs, m, rfl, hR, HSm.out, hvl, hmb.1, hmb.2, hBl⟩
  clear hR hBl HPk hF9 hO hv HV HSm HF2
  go_wp2_with fail
  go_ret2
  exact HEnd.out

set_option maxHeartbeats 1000000 in
theorem DrawCheapestIn_any (A : Option Addr) (c : Nat) (xs : List Int) (w : World) (hr : Rd w w.heap.size 1 uC A xs) (hx : ∀ x ∈ xs, 0 ≤ x ∧ x < 256) (hm : xs.length ≤ 4096) :
    Calls Try.prog 14 #[.slice A xs.length c] w (GivenLN w) := by
  have HD := Lib.hid (DrawPartsInSlot_any A c xs w hr hx hm)
  clear hr hx
  go_enter Try.func14, Try.ntmps14
  go_wp2_with fail
  refine HD.out.mono ?_
  rintro e w2 ⟨LA, lc, vs, m, rfl, h1, h2, h3, h4, h5, h6⟩
  have HEnd : Hid (GivenLN w (.returned (.tuple #[.slice LA vs.length lc, .int .i64 m])) w2) := ⟨LA, lc, vs, m, rfl, h1, h2, h3, h4, h5, h6⟩
  clear h1 h2 h3 h4 h5 h6
  go_wp2_with fail
  go_ret2
  exact HEnd.out

set_option maxHeartbeats 4000000 in
theorem DrawAddPart_any (A : Option Addr) (c : Nat) (xs : List Int) (w : World) (hr : Rd w w.heap.size 1 uC A xs) (hx : ∀ x ∈ xs, 0 ≤ x ∧ x < 256) (hm : xs.length ≤ 4096) :
    Calls Try.prog 5 #[.slice A xs.length c] w (GivenLP w) := by
  have hbV : Below w.heap.size w (w.alloc (.cells #[.string ⟨#[]⟩, .int .i64 0, .slice none 0 0, .int .i64 0, .int .i64 0] 27)) := balloc w _
  have hB0 : Blk (w.alloc (.cells #[.string ⟨#[]⟩, .int .i64 0, .slice none 0 0, .int .i64 0, .int .i64 0] 27)) w.heap.size 27 [.string ⟨#[]⟩, .int .i64 0, .slice none 0 0, .int .i64 0, .int .i64 0] := Blk.made w _ _
  have sV : (w.alloc (.cells #[.string ⟨#[]⟩, .int .i64 0, .slice none 0 0, .int .i64 0, .int .i64 0] 27)).heap.size = w.heap.size + 1 := by simp
  have hlV : w.heap.size < (w.alloc (.cells #[.string ⟨#[]⟩, .int .i64 0, .slice none 0 0, .int .i64 0, .int .i64 0] 27)).heap.size := by simp
  have hrV : Rd (w.alloc (.cells #[.string ⟨#[]⟩, .int .i64 0, .slice none 0 0, .int .i64 0, .int .i64 0] 27)) (w.alloc (.cells #[.string ⟨#[]⟩, .int .i64 0, .slice none 0 0, .int .i64 0, .int .i64 0] 27)).heap.size 1 uC A xs := (hr.below hbV).more (Nat.le_of_lt hlV)
  have HFd : Hid (∀ (v : World) (b : Nat), Src v b A c xs → w.heap.size ≤ b → Below w.heap.size w v → Feed v b A c xs) := fun v b h1 h2 h3 => feed_made hr hx hm h1 h2 h3
  have HS := Lib.hid (l01From_any A c xs (w.alloc (.cells #[.string ⟨#[]⟩, .int .i64 0, .slice none 0 0, .int .i64 0, .int .i64 0] 27)) hrV hx hm)
  have HB : Hid (∀ (v : World) (b : Nat), Feed v b A c xs → Calls Try.prog 26 #[.pointer (some ⟨b, 0, none⟩)] v (DrawnParts v b A c xs)) := fun v b h => l16List_any A c b xs v h
  have HP : Hid (∀ (v : World) (b : Nat), Feed v b A c xs → Calls Try.prog 27 #[.pointer (some ⟨b, 0, none⟩)] v (DrawnPart 64 v b A c xs)) := fun v b h => l16Draw_any A c b xs v h
  clear hr hx hrV
  go_enter Try.func5, Try.ntmps5
  go_wp2_with fail
  generalize (w.alloc (.cells #[.string ⟨#[]⟩, .int .i64 0, .slice none 0 0, .int .i64 0, .int .i64 0] 27)) = V at hlV hbV HS hB0 sV ⊢
  generalize hr0 : w.heap.size = r at hlV hB0 hbV HFd sV ⊢
  refine HS.out.mono ?_
  rintro e w1 ⟨b, rfl, hS, hbl, hb1⟩
  have hbw1 : Below r w w1 := hbV.trans (hb1.mono (by omega))
  have HF1 := Lib.hid (HFd.out w1 b hS (by omega) hbw1)
  have hB1 := hB0.next hb1
  have hlt1 := hS.lt
  clear hS HS HFd hb1 hbV hB0
  go_wp2_with fail
  refine (HB.out w1 b HF1.out).mono ?_
  rintro e w2 ⟨LA, lc, vs, rfl, fv, _, hvl, hvs, hF2, hO2⟩
  have HF2 := Lib.hid hF2
  have HV := Lib.hid fv
  have hB2 := hB1.only hO2 (by omega)
  have hbw2 : Below r w w2 := hbw1.trans (hO2.below (by omega) (by omega))
  have s2 := hO2.size
  have HSm : Hid (SmallV vs) := smallV_of hvl hvs
  clear hB1 hO2 HF1 HB hbw1 hF2 fv hvs
  go_wp2_with fail
  refine (HP.out w2 b HF2.out).mono ?_
  rintro e w3 ⟨x, pA, pc, rfl, hxc, hxp, hown, hF3, hO3⟩
  have s3 := hO3.size
  have HB3 := Lib.hid (hB2.only hO3 (by omega))
  have HW3 := Lib.hid (hbw2.trans (hO3.below (by omega) (by omega)))
  have HV3 := Lib.hid ((HV.out.only hO3 (Nat.le_refl _) (Or.inr (by omega))).mono (Nat.le_refl _) hO3.size)
  have HO3 := Lib.hid hown
  clear hown hF3 hO3 HF2 HP hB2 hbw2 HV
  have d0 := HB3.out.cell (j := 0) rfl
  have d1 := HB3.out.cell (j := 1) rfl
  have d2 := HB3.out.cell (j := 2) rfl
  have d3 := HB3.out.cell (j := 3) rfl
  have d4 := HB3.out.cell (j := 4) rfl
  have g0 := HB3.out.frozen 0
  have g1 := HB3.out.frozen 1
  have g2 := HB3.out.frozen 2
  have g3 := HB3.out.frozen 3
  have g4 := HB3.out.frozen 4
  unfold argV
  go_wp2_with fail
  have hX : Blk (((((w3.setCell ⟨r, 0, none⟩ (.string x.code)).setCell ⟨r, 1, none⟩ (.int .i64 x.slot)).setCell ⟨r, 2, none⟩ (.slice pA x.ports.length pc)).setCell ⟨r, 3, none⟩ (.int .i64 x.price)).setCell ⟨r, 4, none⟩ (.int .i64 x.grams)) r 27 [.string x.code, .int .i64 x.slot, .slice pA x.ports.length pc, .int .i64 x.price, .int .i64 x.grams] := ((((HB3.out.set 0 (.string x.code)).set 1 (.int .i64 x.slot)).set 2 (.slice pA x.ports.length pc)).set 3 (.int .i64 x.price)).set 4 (.int .i64 x.grams)
  have u0 := hX.cell (j := 0) rfl
  have u1 := hX.cell (j := 1) rfl
  have u2 := hX.cell (j := 2) rfl
  have u3 := hX.cell (j := 3) rfl
  have u4 := hX.cell (j := 4) rfl
  have hOn : Only r (r + 1) w3 (((((w3.setCell ⟨r, 0, none⟩ (.string x.code)).setCell ⟨r, 1, none⟩ (.int .i64 x.slot)).setCell ⟨r, 2, none⟩ (.slice pA x.ports.length pc)).setCell ⟨r, 3, none⟩ (.int .i64 x.price)).setCell ⟨r, 4, none⟩ (.int .i64 x.grams)) := ((((oset (w3) 0 _).trans (oset _ 1 _)).trans (oset _ 2 _)).trans (oset _ 3 _)).trans (oset _ 4 _)
  have hXB : Below r w (((((w3.setCell ⟨r, 0, none⟩ (.string x.code)).setCell ⟨r, 1, none⟩ (.int .i64 x.slot)).setCell ⟨r, 2, none⟩ (.slice pA x.ports.length pc)).setCell ⟨r, 3, none⟩ (.int .i64 x.price)).setCell ⟨r, 4, none⟩ (.int .i64 x.grams)) := HW3.out.trans (hOn.below (Nat.le_refl _) (by omega))
  have sX := hOn.size
  have hVX := ((HV3.out.only hOn (Nat.le_refl _) (Or.inr (by omega))).mono (Nat.le_refl _) sX).rd
  have hPX := ((HO3.out.only hOn (by omega)).flat (fun _ => rfl)).rd
  have hcp := HO3.out.cap
  generalize (((((w3.setCell ⟨r, 0, none⟩ (.string x.code)).setCell ⟨r, 1, none⟩ (.int .i64 x.slot)).setCell ⟨r, 2, none⟩ (.slice pA x.ports.length pc)).setCell ⟨r, 3, none⟩ (.int .i64 x.price)).setCell ⟨r, 4, none⟩ (.int .i64 x.grams)) = X at u0 u1 u2 u3 u4 hXB hVX hPX ⊢
  refine bodyPost_ret (v := .tuple #[.slice LA vs.length lc, argV x pA pc]) (by simp [results, Try.results5, go_sem, u0, u1, u2, u3, u4, argV]) rfl ?_
  exact ⟨LA, lc, vs, x, pA, pc, rfl, hVX, HSm.out, hvl, hxc, hxp, hPX, hcp, by rw [hr0]; exact hXB⟩
end Go.Proofs.Ytncjgebgghpigaa
