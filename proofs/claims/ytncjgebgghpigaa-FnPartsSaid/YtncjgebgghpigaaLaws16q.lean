/- DERIVED. The law on parts: what is added is found, and dropped again. By program (laws16q.py). -/
import Derived.Test.YtncjgebgghpigaaDrawX
import Derived.Test.YtncjgebgghpigaaSmallP
import Derived.Test.YtncjgebgghpigaaLikeP
import Derived.Test.YtncjgebgghpigaaFind
import Derived.Test.YtncjgebgghpigaaCheap
import Derived.Test.YtncjgebgghpigaaSlot
import Derived.Deep.CutRange
import Derived.Deep.DeepCutAuto
import Derived.Test.YtncjgebgghpigaaDLaw
import Derived.Test.YtncjgebgghpigaaHead
import Derived.Lib.SmallJoins
import Derived.Deep.Slices
import Derived.Deep.Fields
import Derived.ChangeMaps5
import Derived.Carry
namespace Go.Proofs.Ytncjgebgghpigaa
set_option maxRecDepth 100000
open Go.RowKit Go.ChangeShapes Go.WideShapes Go.ChangeAt Go.Joins Go.Deep

set_option maxHeartbeats 40000000 in
theorem law_FnParts (A : Option Addr) (c : Nat) (xs : List Int) (w : World) (hr : Rd w w.heap.size 1 uC A xs) (hx : ∀ x ∈ xs, 0 ≤ x ∧ x < 256) (hm : xs.length ≤ maxLen) :
    Calls Try.prog 3 #[.slice A xs.length c] w fun e w' => e = .returned (.bool true) ∧ Below w.heap.size w w' := by
  unfold maxLen at hm
  by_cases hbig : (4096 : Int) < xs.length
  · go_enter Try.func3, Try.ntmps3
    go_wp2_with (go_at_call 4; refine (big_k A c xs.length _).mono ?_; rintro e w' ⟨rfl, rfl⟩)
    go_ret
    exact ⟨rfl, Below.refl _ _⟩
  have HBig : Hid (∀ v : World, Calls Try.prog 4 #[.slice A xs.length c] v fun e w' => e = .returned (.bool false) ∧ v = w') := fun v => (big_k A c xs.length v).mono (by rintro e w' ⟨rfl, rfl⟩; exact ⟨by simp only [hbig, decide_false], rfl⟩)
  have HD1 := Lib.hid (DrawAddPart_any A c xs w hr hx (by omega))
  have HD2 : Hid (∀ v : World, Below w.heap.size w v → Calls Try.prog 8 #[.slice A xs.length c] v (GivenLT v)) := fun v hv => DrawDropPart_any A c xs v (hr.next hv) hx (by omega)
  have HD3 : Hid (∀ v : World, Below w.heap.size w v → Calls Try.prog 11 #[.slice A xs.length c] v (GivenLT v)) := fun v hv => DrawFindPart_any A c xs v (hr.next hv) hx (by omega)
  have HD4 : Hid (∀ v : World, Below w.heap.size w v → Calls Try.prog 14 #[.slice A xs.length c] v (GivenLN v)) := fun v hv => DrawCheapestIn_any A c xs v (hr.next hv) hx (by omega)
  clear hr hx hbig
  go_enter Try.func3, Try.ntmps3
  go_wp2_with (go_at_call 4; refine (HBig.out _).mono ?_; rintro e w' ⟨rfl, rfl⟩)
  refine HD1.out.mono ?_
  rintro e w1 ⟨LA, lc, vs, p, pA, pc, rfl, hvs, hsv, hvl, hpcs, hpp, hrp, hpq, hb1⟩
  unfold argV
  clear HD1 HBig
  have hb12 := balloc w1 (.cells #[.string p.code, .int .i64 p.slot, .slice pA p.ports.length pc, .int .i64 p.price, .int .i64 p.grams] 27)
  have hbw := bthen hb1 hb12
  have HB := Lib.hid (show Blk (w1.alloc (.cells #[.string p.code, .int .i64 p.slot, .slice pA p.ports.length pc, .int .i64 p.price, .int .i64 p.grams] 27)) w1.heap.size 27 [.string p.code, .int .i64 p.slot, .slice pA p.ports.length pc, .int .i64 p.price, .int .i64 p.grams] from Blk.made w1 _ _)
  have Hl := Lib.hid (hvs.next hb12)
  have Hp := Lib.hid (hrp.next hb12)
  have hpm : p.code.size ≤ maxLen := by unfold maxLen; omega
  have HSvs := Lib.hid hsv
  have HSa := Lib.hid (addR_small vs p hsv hpm (by omega))
  have HLa : Hid (∀ L, addR vs p = (L, 0) → ∃ n : Nat, findR L p.code = ((n : Int), 0) ∧ L[n]? = some p ∧ dropR L p.code = (vs, 0) ∧ partsB L = true ∧ L.length = vs.length + 1) := fun L h => add_law h
  have HAi : Hid (∀ v : World, RdV v v.heap.size LA vs → Rd v v.heap.size 3 portC pA p.ports → Calls Try.prog 6 #[.slice LA vs.length lc, .agg #[.string p.code, .int .i64 p.slot, .slice pA p.ports.length pc, .int .i64 p.price, .int .i64 p.grams]] v (GivesParts2 v (addR vs p))) := fun v h1 h2 => AddPart_impl LA lc vs p pA pc v h1 h2 hsv hpm (by omega) hpq
  have HAs : Hid (∀ v : World, RdV v v.heap.size LA vs → Rd v v.heap.size 3 portC pA p.ports → Calls Try.prog 7 #[.slice LA vs.length lc, .agg #[.string p.code, .int .i64 p.slot, .slice pA p.ports.length pc, .int .i64 p.price, .int .i64 p.grams]] v (GivesParts2 v (addR vs p))) := fun v h1 h2 => AddPart_spec LA lc vs p pA pc v h1 h2 hsv hpm (by omega) hpq
  clear hvs hrp hb12 hsv
  generalize addR vs p = AR at HSa HLa HAi HAs
  obtain ⟨L, bad⟩ := AR
  go_wp2_with fail
  generalize (w1.alloc (.cells #[.string p.code, .int .i64 p.slot, .slice pA p.ports.length pc, .int .i64 p.price, .int .i64 p.grams] 27)) = W0 at HB Hl Hp hbw ⊢
  generalize w1.heap.size = r at HB ⊢
  refine (HAi.out W0 Hl.out Hp.out).mono ?_
  rintro e w2 ⟨AA, ac, rfl, fN, _, hbN⟩
  try simp only at fN
  replace HB := Lib.hid (HB.out.next hbN)
  replace Hl := Lib.hid (Hl.out.next hbN)
  replace Hp := Lib.hid (Hp.out.next hbN)
  replace hbw := bthen hbw hbN
  clear hbN
  have Ha := Lib.hid fN.rd
  clear fN
  have x0 := HB.out.cell (j := 0) rfl
  have x1 := HB.out.cell (j := 1) rfl
  have x2 := HB.out.cell (j := 2) rfl
  have x3 := HB.out.cell (j := 3) rfl
  have x4 := HB.out.cell (j := 4) rfl
  go_wp2_with fail
  clear x0 x1 x2 x3 x4
  refine (HAs.out w2 Hl.out Hp.out).mono ?_
  rintro e w3 ⟨BA, bc, rfl, fN, _, hbN⟩
  try simp only at fN
  replace HB := Lib.hid (HB.out.next hbN)
  replace Hl := Lib.hid (Hl.out.next hbN)
  replace Hp := Lib.hid (Hp.out.next hbN)
  replace Ha := Lib.hid (Ha.out.next hbN)
  replace hbw := bthen hbw hbN
  clear hbN
  have Hm := Lib.hid fN.rd
  clear fN
  clear HAi HAs
  go_wp2_with fail
  refine (HD2.out w3 hbw).mono ?_
  rintro e w4 ⟨XA, xc, us, nm, rfl, hxs, hsx, hxl, hnl, hbN⟩
  replace HB := Lib.hid (HB.out.next hbN)
  replace Hl := Lib.hid (Hl.out.next hbN)
  replace Hp := Lib.hid (Hp.out.next hbN)
  replace Ha := Lib.hid (Ha.out.next hbN)
  replace Hm := Lib.hid (Hm.out.next hbN)
  replace hbw := bthen hbw hbN
  clear hbN
  have Hx := Lib.hid hxs; clear hxs HD2
  have HSd := Lib.hid (dropR_small us nm hsx)
  have HLd : Hid (∀ D, dropR us nm = (D, 0) → partsB D = true ∧ D.length + 1 = us.length) := fun D h => drop_law h
  have HDi : Hid (∀ v : World, RdV v v.heap.size XA us → Calls Try.prog 9 #[.slice XA us.length xc, .string nm] v (GivesParts2 v (dropR us nm))) := fun v h1 => DropPart_impl XA xc us nm v h1 hsx
  have HDs : Hid (∀ v : World, RdV v v.heap.size XA us → Calls Try.prog 10 #[.slice XA us.length xc, .string nm] v (GivesParts2 v (dropR us nm))) := fun v h1 => DropPart_spec XA xc us nm v h1 hsx
  clear hsx
  generalize dropR us nm = DR at HSd HLd HDi HDs
  obtain ⟨D, one⟩ := DR
  go_wp2_with fail
  refine (HDi.out w4 Hx.out).mono ?_
  rintro e w5 ⟨DA, dc, rfl, fN, _, hbN⟩
  try simp only at fN
  replace HB := Lib.hid (HB.out.next hbN)
  replace Hl := Lib.hid (Hl.out.next hbN)
  replace Hp := Lib.hid (Hp.out.next hbN)
  replace Ha := Lib.hid (Ha.out.next hbN)
  replace Hm := Lib.hid (Hm.out.next hbN)
  replace Hx := Lib.hid (Hx.out.next hbN)
  replace hbw := bthen hbw hbN
  clear hbN
  have Hd := Lib.hid fN.rd
  clear fN
  go_wp2_with fail
  refine (HDs.out w5 Hx.out).mono ?_
  rintro e w6 ⟨EA, ec, rfl, fN, _, hbN⟩
  try simp only at fN
  replace HB := Lib.hid (HB.out.next hbN)
  replace Hl := Lib.hid (Hl.out.next hbN)
  replace Hp := Lib.hid (Hp.out.next hbN)
  replace Ha := Lib.hid (Ha.out.next hbN)
  replace Hm := Lib.hid (Hm.out.next hbN)
  replace Hx := Lib.hid (Hx.out.next hbN)
  replace Hd := Lib.hid (Hd.out.next hbN)
  replace hbw := bthen hbw hbN
  clear hbN
  have He := Lib.hid fN.rd
  clear fN
  clear HDi HDs Hx
  go_wp2_with fail
  refine (HD3.out w6 hbw).mono ?_
  rintro e w7 ⟨YA, yc, ys, other, rfl, hys, hsy, hyl, hol, hbN⟩
  replace HB := Lib.hid (HB.out.next hbN)
  replace Hl := Lib.hid (Hl.out.next hbN)
  replace Hp := Lib.hid (Hp.out.next hbN)
  replace Ha := Lib.hid (Ha.out.next hbN)
  replace Hm := Lib.hid (Hm.out.next hbN)
  replace Hd := Lib.hid (Hd.out.next hbN)
  replace He := Lib.hid (He.out.next hbN)
  replace hbw := bthen hbw hbN
  clear hbN
  have Hy := Lib.hid hys; clear hys HD3
  have HLf : Hid (∀ k, findR ys other = (k, 0) → ∃ (n : Nat) (x : PartT), k = n ∧ ys[n]? = some x ∧ x.code = other) := fun k h => find_law h
  have HFi : Hid (∀ v : World, RdV v v.heap.size YA ys → Calls Try.prog 12 #[.slice YA ys.length yc, .string other] v (fun e w' => e = .returned (.tuple #[.int .i64 (findR ys other).1, .int .i64 (findR ys other).2]) ∧ Below v.heap.size v w')) := fun v h1 => FindPart_impl YA yc ys other v h1 hsy
  have HFs : Hid (∀ v : World, RdV v v.heap.size YA ys → Calls Try.prog 13 #[.slice YA ys.length yc, .string other] v (fun e w' => e = .returned (.tuple #[.int .i64 (findR ys other).1, .int .i64 (findR ys other).2]) ∧ Below v.heap.size v w')) := fun v h1 => FindPart_spec YA yc ys other v h1 hsy
  clear hsy
  generalize findR ys other = FR at HLf HFi HFs
  obtain ⟨k, three⟩ := FR
  go_wp2_with fail
  refine (HFi.out w7 Hy.out).mono ?_
  rintro e w8 ⟨rfl, hbN⟩
  replace HB := Lib.hid (HB.out.next hbN)
  replace Hl := Lib.hid (Hl.out.next hbN)
  replace Hp := Lib.hid (Hp.out.next hbN)
  replace Ha := Lib.hid (Ha.out.next hbN)
  replace Hm := Lib.hid (Hm.out.next hbN)
  replace Hd := Lib.hid (Hd.out.next hbN)
  replace He := Lib.hid (He.out.next hbN)
  replace Hy := Lib.hid (Hy.out.next hbN)
  replace hbw := bthen hbw hbN
  clear hbN
  go_wp2_with fail
  refine (HFs.out w8 Hy.out).mono ?_
  rintro e w9 ⟨rfl, hbN⟩
  replace HB := Lib.hid (HB.out.next hbN)
  replace Hl := Lib.hid (Hl.out.next hbN)
  replace Hp := Lib.hid (Hp.out.next hbN)
  replace Ha := Lib.hid (Ha.out.next hbN)
  replace Hm := Lib.hid (Hm.out.next hbN)
  replace Hd := Lib.hid (Hd.out.next hbN)
  replace He := Lib.hid (He.out.next hbN)
  replace Hy := Lib.hid (Hy.out.next hbN)
  replace hbw := bthen hbw hbN
  clear hbN
  clear HFi HFs
  go_wp2_with fail
  refine (HD4.out w9 hbw).mono ?_
  rintro e w10 ⟨ZA, zc, zs, slot, rfl, hzs, hsz, hzl, hm0, hm8, hbN⟩
  replace HB := Lib.hid (HB.out.next hbN)
  replace Hl := Lib.hid (Hl.out.next hbN)
  replace Hp := Lib.hid (Hp.out.next hbN)
  replace Ha := Lib.hid (Ha.out.next hbN)
  replace Hm := Lib.hid (Hm.out.next hbN)
  replace Hd := Lib.hid (Hd.out.next hbN)
  replace He := Lib.hid (He.out.next hbN)
  replace Hy := Lib.hid (Hy.out.next hbN)
  replace hbw := bthen hbw hbN
  clear hbN
  have Hz := Lib.hid hzs; clear hzs HD4
  have HLc : Hid (∀ cc, cheapR zs slot = (cc, 0) → ∃ (n : Nat) (x : PartT), cc = n ∧ zs[n]? = some x ∧ ∀ (i : Nat) (m : Int), (slotR zs slot).1[i]? = some m → ∃ (j : Nat) (y : PartT), m = j ∧ zs[j]? = some y ∧ x.price ≤ y.price ∧ y.slot = slot) := fun cc h => cheap_law h
  have hslen : (slotR zs slot).1.length ≤ 1048576 := by
    unfold slotR
    split
    · split
      · exact Nat.le_trans (idxTo_le _ _ _) hsz.1
      · simp
    · simp
  have HCi : Hid (∀ v : World, RdV v v.heap.size ZA zs → Calls Try.prog 15 #[.slice ZA zs.length zc, .int .i64 slot] v (fun e w' => e = .returned (.tuple #[.int .i64 (cheapR zs slot).1, .int .i64 (cheapR zs slot).2]) ∧ Below v.heap.size v w')) := fun v h1 => CheapestIn_impl ZA zc zs slot v h1 hsz
  have HCs : Hid (∀ v : World, RdV v v.heap.size ZA zs → Calls Try.prog 16 #[.slice ZA zs.length zc, .int .i64 slot] v (fun e w' => e = .returned (.tuple #[.int .i64 (cheapR zs slot).1, .int .i64 (cheapR zs slot).2]) ∧ Below v.heap.size v w')) := fun v h1 => CheapestIn_spec ZA zc zs slot v h1 hsz
  have HPi : Hid (∀ v : World, RdV v v.heap.size ZA zs → Calls Try.prog 17 #[.slice ZA zs.length zc, .int .i64 slot] v (GivesRes v 2 1 nC (slotR zs slot))) := fun v h1 => PartsInSlot_impl ZA zc zs slot v h1 hsz
  have HPs : Hid (∀ v : World, RdV v v.heap.size ZA zs → Calls Try.prog 18 #[.slice ZA zs.length zc, .int .i64 slot] v (GivesRes v 2 1 nC (slotR zs slot))) := fun v h1 => PartsInSlot_spec ZA zc zs slot v h1 hsz
  clear hsz
  generalize cheapR zs slot = CR at HLc HCi HCs
  generalize slotR zs slot = SR at HLc HPi HPs hslen
  obtain ⟨cc, five⟩ := CR
  obtain ⟨S, seven⟩ := SR
  try simp only at hslen
  go_wp2_with fail
  refine (HCi.out w10 Hz.out).mono ?_
  rintro e w11 ⟨rfl, hbN⟩
  replace HB := Lib.hid (HB.out.next hbN)
  replace Hl := Lib.hid (Hl.out.next hbN)
  replace Hp := Lib.hid (Hp.out.next hbN)
  replace Ha := Lib.hid (Ha.out.next hbN)
  replace Hm := Lib.hid (Hm.out.next hbN)
  replace Hd := Lib.hid (Hd.out.next hbN)
  replace He := Lib.hid (He.out.next hbN)
  replace Hy := Lib.hid (Hy.out.next hbN)
  replace Hz := Lib.hid (Hz.out.next hbN)
  replace hbw := bthen hbw hbN
  clear hbN
  go_wp2_with fail
  refine (HCs.out w11 Hz.out).mono ?_
  rintro e w12 ⟨rfl, hbN⟩
  replace HB := Lib.hid (HB.out.next hbN)
  replace Hl := Lib.hid (Hl.out.next hbN)
  replace Hp := Lib.hid (Hp.out.next hbN)
  replace Ha := Lib.hid (Ha.out.next hbN)
  replace Hm := Lib.hid (Hm.out.next hbN)
  replace Hd := Lib.hid (Hd.out.next hbN)
  replace He := Lib.hid (He.out.next hbN)
  replace Hy := Lib.hid (Hy.out.next hbN)
  replace Hz := Lib.hid (Hz.out.next hbN)
  replace hbw := bthen hbw hbN
  clear hbN
  clear HCi HCs
  go_wp2_with fail
  refine (HPi.out w12 Hz.out).mono ?_
  rintro e w13 ⟨SA, sc, rfl, fN, _, hbN⟩
  try simp only at fN
  replace HB := Lib.hid (HB.out.next hbN)
  replace Hl := Lib.hid (Hl.out.next hbN)
  replace Hp := Lib.hid (Hp.out.next hbN)
  replace Ha := Lib.hid (Ha.out.next hbN)
  replace Hm := Lib.hid (Hm.out.next hbN)
  replace Hd := Lib.hid (Hd.out.next hbN)
  replace He := Lib.hid (He.out.next hbN)
  replace Hy := Lib.hid (Hy.out.next hbN)
  replace Hz := Lib.hid (Hz.out.next hbN)
  replace hbw := bthen hbw hbN
  clear hbN
  have Hs := Lib.hid fN.rd
  clear fN
  go_wp2_with fail
  refine (HPs.out w13 Hz.out).mono ?_
  rintro e w14 ⟨TA, tc, rfl, fN, _, hbN⟩
  try simp only at fN
  replace HB := Lib.hid (HB.out.next hbN)
  replace Hl := Lib.hid (Hl.out.next hbN)
  replace Hp := Lib.hid (Hp.out.next hbN)
  replace Ha := Lib.hid (Ha.out.next hbN)
  replace Hm := Lib.hid (Hm.out.next hbN)
  replace Hd := Lib.hid (Hd.out.next hbN)
  replace He := Lib.hid (He.out.next hbN)
  replace Hy := Lib.hid (Hy.out.next hbN)
  replace Hz := Lib.hid (Hz.out.next hbN)
  replace Hs := Lib.hid (Hs.out.next hbN)
  replace hbw := bthen hbw hbN
  clear hbN
  have Ht := Lib.hid fN.rd
  clear fN
  clear HPi HPs
  have hLs := HSa.out.1
  have hDs := HSd.out.1
  try simp only at hLs hDs
  have HK1 : Hid (∀ v : Later w14, Calls Try.prog 19 #[.slice AA L.length ac, .slice BA L.length bc] v.w fun e w' => e = .returned (.bool true) ∧ Below v.w.heap.size v.w w') := fun v => likeParts_k AA BA ac bc L v.w (Ha.out.next v.below) (Hm.out.next v.below) hLs (fun x hx => (HSa.out.2 x hx).2)
  have HK2 : Hid (∀ v : Later w14, Calls Try.prog 19 #[.slice DA D.length dc, .slice EA D.length ec] v.w fun e w' => e = .returned (.bool true) ∧ Below v.w.heap.size v.w w') := fun v => likeParts_k DA EA dc ec D v.w (Hd.out.next v.below) (He.out.next v.below) hDs (fun x hx => (HSd.out.2 x hx).2)
  have HK3 : Hid (∀ v : Later w14, Calls Try.prog 20 #[.slice SA S.length sc, .slice TA S.length tc] v.w fun e w' => e = .returned (.bool true) ∧ Below v.w.heap.size v.w w') := fun v => likeInts_k SA TA sc tc S v.w (Hs.out.next v.below) (Ht.out.next v.below) hslen
  have HK4 : Hid (∀ v : Later w14, Calls Try.prog 21 #[.agg #[.string p.code, .int .i64 p.slot, .slice pA p.ports.length pc, .int .i64 p.price, .int .i64 p.grams]] v.w fun e w' => e = .returned (.bool (partB p)) ∧ Below v.w.heap.size v.w w') := fun v => isPart_impl p pA pc v.w (Hp.out.next v.below) hpm (by omega) hpq
  have HK5 : Hid (∀ v : Later w14, Calls Try.prog 22 #[.agg #[.string p.code, .int .i64 p.slot, .slice pA p.ports.length pc, .int .i64 p.price, .int .i64 p.grams]] v.w fun e w' => e = .returned (.bool (partB p)) ∧ Below v.w.heap.size v.w w') := fun v => isPart_spec p pA pc v.w (Hp.out.next v.below) hpm (by omega) hpq
  generalize partB p = pb at HK4 HK5
  have x0 : ∀ v : Later w14, v.w.cell? ⟨r, 0, none⟩ = some (.string p.code) := Later.cell (HB.out.cell (j := 0) rfl)
  have x1 : ∀ v : Later w14, v.w.cell? ⟨r, 1, none⟩ = some (.int .i64 p.slot) := Later.cell (HB.out.cell (j := 1) rfl)
  have x2 : ∀ v : Later w14, v.w.cell? ⟨r, 2, none⟩ = some (.slice pA p.ports.length pc) := Later.cell (HB.out.cell (j := 2) rfl)
  have x3 : ∀ v : Later w14, v.w.cell? ⟨r, 3, none⟩ = some (.int .i64 p.price) := Later.cell (HB.out.cell (j := 3) rfl)
  have x4 : ∀ v : Later w14, v.w.cell? ⟨r, 4, none⟩ = some (.int .i64 p.grams) := Later.cell (HB.out.cell (j := 4) rfl)
  go_upto_region 17 with (fail)
  go_cut [177] (fun t wx => t = .bool false ∧ Below w14.heap.size w14 wx)
  case first =>
    as_aux_lemma =>
      refine wp_region_later (by kernel_rfl) (by kernel_rfl) ?_
      repeat (go_big_quiet_step ((first | (go_at_call 19; first | (with_reducible exact Later.call (HK1.out _)) | (with_reducible exact Later.call (HK2.out _))) | (go_at_call 20; exact Later.call (HK3.out _)) | (go_at_call 21; exact Later.call (HK4.out _)) | (go_at_call 22; exact Later.call (HK5.out _)))))
      refine wpQuiet_nil ?_
      rintro w15 ⟨⟨_, hbN⟩, rfl⟩
      go_wp2_with fail
      go_meet
      exact ⟨rfl, hbN⟩
  case rest =>
    obtain ⟨rfl, hcb⟩ := hcut
    obtain ⟨w15, rfl⟩ : ∃ w15, w15 = wc := ⟨_, rfl⟩
    clear x0 x1 x2 x3 x4 HK1 HK2 HK3 HK4 HK5 Hm He Ht
    replace HB := Lib.hid (HB.out.next hcb)
    replace Hl := Lib.hid (Hl.out.next hcb)
    replace Hp := Lib.hid (Hp.out.next hcb)
    replace Ha := Lib.hid (Ha.out.next hcb)
    replace Hd := Lib.hid (Hd.out.next hcb)
    replace Hy := Lib.hid (Hy.out.next hcb)
    replace Hz := Lib.hid (Hz.out.next hcb)
    replace Hs := Lib.hid (Hs.out.next hcb)
    replace hbw := bthen hbw hcb
    clear hcb
    go_upto_region 19 with (fail)
    go_cut [205] (fun t wx => t = .bool false ∧ Below w15.heap.size w15 wx)
    case first =>
      have HAd : Hid (Calls Try.prog 23 #[.slice DA D.length dc] w15 fun e w' => e = .returned (.bool (partsB D)) ∧ Below w15.heap.size w15 w') := areParts_impl DA dc D w15 Hd.out hDs HSd.out.2
      by_cases h1 : one = 0
      · obtain ⟨hd1, hd2⟩ := HLd.out D (by rw [h1])
        rw [hd1] at HAd
        have hde : ((D.length : Int) != (us.length : Int) - 1) = false := by simp; omega
        have h1b : (one == 0) = true := by simp [h1]
        clear hd1 hd2 HLd h1
        by_cases h3 : three = 0
        · obtain ⟨n, x, hkn, hxn, hxo⟩ := HLf.out k (by rw [h3])
          have h3b : (three == 0) = true := by simp [h3]
          have hnl := (List.getElem?_eq_some_iff.1 hxn).1
          obtain ⟨yb, yo, rfl⟩ := Hy.out.addr (by omega)
          subst hkn
          have HYc : Hid (∀ v : World, Below w15.heap.size w15 v → v.cell? ⟨yb, yo + n * 5, none⟩ = some (.string other)) := fun v hv => by
            obtain ⟨_, _, _, c0, _⟩ := (Hy.out.next hv).cells hxn
            rw [hxo] at c0
            exact c0
          clear HLf h3 hxn hxo
          as_aux_lemma =>
            go_wp2_with fail
            refine HAd.out.mono ?_
            rintro e w16 ⟨rfl, hb16⟩
            have y0 := HYc.out w16 hb16
            go_wp2_with fail
            go_meet
            exact ⟨rfl, hb16⟩
        · have h3b : (three == 0) = false := by simp [h3]
          clear HLf h3
          as_aux_lemma =>
            go_wp2_with fail
            refine HAd.out.mono ?_
            rintro e w16 ⟨rfl, hb16⟩
            go_wp2_with fail
            go_meet
            exact ⟨rfl, hb16⟩
      · have h1b : (one == 0) = false := by simp [h1]
        clear h1 HLd HAd
        by_cases h3 : three = 0
        · obtain ⟨n, x, hkn, hxn, hxo⟩ := HLf.out k (by rw [h3])
          have h3b : (three == 0) = true := by simp [h3]
          have hnl := (List.getElem?_eq_some_iff.1 hxn).1
          obtain ⟨yb, yo, rfl⟩ := Hy.out.addr (by omega)
          subst hkn
          have y0 : w15.cell? ⟨yb, yo + n * 5, none⟩ = some (.string other) := by
            obtain ⟨_, _, _, c0, _⟩ := Hy.out.cells hxn
            rw [hxo] at c0
            exact c0
          clear HLf h3 hxn hxo
          as_aux_lemma =>
            go_wp2_with fail
            go_meet
            exact ⟨rfl, Below.refl _ _⟩
        · have h3b : (three == 0) = false := by simp [h3]
          clear HLf h3
          as_aux_lemma =>
            go_wp2_with fail
            go_meet
            exact ⟨rfl, Below.refl _ _⟩
    case rest =>
      obtain ⟨rfl, hcb⟩ := hcut
      clear HLd HLf Hd Hy HSd
      replace HB := Lib.hid (HB.out.next hcb)
      replace Hl := Lib.hid (Hl.out.next hcb)
      replace Hp := Lib.hid (Hp.out.next hcb)
      replace Ha := Lib.hid (Ha.out.next hcb)
      replace Hz := Lib.hid (Hz.out.next hcb)
      replace Hs := Lib.hid (Hs.out.next hcb)
      replace hbw := bthen hbw hcb
      clear hcb
      by_cases h5 : five = 0
      · obtain ⟨n, x, hcn, hxn, hall⟩ := HLc.out cc (by rw [h5])
        have h5b : (five == 0) = true := by simp [h5]
        have HAll := Lib.hid hall
        subst hcn
        have hnl := (List.getElem?_eq_some_iff.1 hxn).1
        have HXn := Lib.hid hxn
        obtain ⟨zb, zo, rfl⟩ := Hz.out.addr (by omega)
        clear HLc h5 hall hxn
        go_wp2_with fail
        go_loopw [31] (fun z wr => ∃ i : Nat, i ≤ S.length ∧ z = .int .i64 i ∧ Below wc.heap.size wc wr) (fun z _ => S.length - (intOf z).toNat)
        case atStart => exact ⟨0, Nat.zero_le _, rfl, Below.refl _ _⟩
        case round =>
          obtain ⟨i, hi, rfl, hbk⟩ := hrel
          by_cases hlt : i < S.length
          · have hsi : S[i]? = some S[i] := List.getElem?_eq_getElem hlt
            obtain ⟨j, y, hmj, hyj, hpr, hsl⟩ := HAll.out i _ hsi
            rw [hmj] at hsi
            obtain ⟨sb, so, rfl, _, q0⟩ := (Hs.out.next hbk).at1 hsi rfl
            rw [Nat.mul_one] at q0
            have hjl := (List.getElem?_eq_some_iff.1 hyj).1
            obtain ⟨_, _, _, _, y1, _, y3, _⟩ := (Hz.out.next hbk).cells hyj
            obtain ⟨_, _, _, _, _, _, v3, _⟩ := (Hz.out.next hbk).cells HXn.out
            rw [hsl] at y1
            have dpr : decide (y.price < x.price) = false := by simp; omega
            clear hsi hmj hyj hsl
            go_wp2_with fail
            go_quiet (fail)
            go_wp2_with fail
            exact ⟨⟨i + 1, by omega, by go_num, below_drewN hbk _⟩, by simp [intOf]; omega⟩
          · clear HAll HXn
            by_cases hbad : bad = 0
            · as_aux_lemma =>
                obtain ⟨n, hf, hat, hdr, hpt, hLl⟩ := HLa.out L (by rw [hbad])
                have HKf : Hid (∀ v : World, Below wc.heap.size wc v → Calls Try.prog 12 #[.slice AA L.length ac, .string p.code] v fun e w' => e = .returned (.tuple #[.int .i64 n, .int .i64 0]) ∧ Below v.heap.size v w') := fun v hv => by
                  have := FindPart_impl AA ac L p.code v (Ha.out.next hv) HSa.out
                  rwa [hf] at this
                have HKg : Hid (∀ v : World, Below wc.heap.size wc v → Calls Try.prog 13 #[.slice AA L.length ac, .string p.code] v fun e w' => e = .returned (.tuple #[.int .i64 n, .int .i64 0]) ∧ Below v.heap.size v w') := fun v hv => by
                  have := FindPart_spec AA ac L p.code v (Ha.out.next hv) HSa.out
                  rwa [hf] at this
                have HKd : Hid (∀ v : World, Below wc.heap.size wc v → Calls Try.prog 9 #[.slice AA L.length ac, .string p.code] v (GivesParts2 v (vs, 0))) := fun v hv => by
                  have := DropPart_impl AA ac L p.code v (Ha.out.next hv) HSa.out
                  rwa [hdr] at this
                have hnl := (List.getElem?_eq_some_iff.1 hat).1
                obtain ⟨ab, ao, rfl⟩ := Ha.out.addr (by omega)
                have HAt := Lib.hid hat
                have HPt := Lib.hid hpt
                have HBd := Lib.hid hbad
                obtain rfl : bad = 0 := HBd.out
                clear hf hdr hpt hLl HLa hat HBd hbad
                have HBx : Hid (∀ v : World, Below wc.heap.size wc v → Blk v r 27 [.string p.code, .int .i64 p.slot, .slice pA p.ports.length pc, .int .i64 p.price, .int .i64 p.grams]) := fun v hv => HB.out.next hv
                have x0 := (HBx.out wr hbk).cell (j := 0) rfl
                go_wp2_with fail
                refine (HKf.out wr hbk).mono ?_
                rintro e w21 ⟨rfl, hb21⟩
                have hbk1 := bthen hbk hb21
                clear x0
                have x0 := (HBx.out w21 hbk1).cell (j := 0) rfl
                go_wp2_with fail
                refine (HKg.out w21 hbk1).mono ?_
                rintro e w22 ⟨rfl, hb22⟩
                have hbk2 := bthen hbk1 hb22
                clear x0
                have x0 := (HBx.out w22 hbk2).cell (j := 0) rfl
                go_wp2_with fail
                refine (HKd.out w22 hbk2).mono ?_
                rintro e w23 ⟨QA, qc, rfl, fq, _, hb23⟩
                try simp only at fq
                have hbk3 := bthen hbk2 hb23
                have HQ := Lib.hid fq.rd
                clear x0 fq HKf HKg HKd
                obtain ⟨_, qA, qd, c0, c1, c2, c3, c4, hq, _⟩ := (Ha.out.next hbk3).cells HAt.out
                have z0 : ∀ v : Later w23, v.w.cell? ⟨ab, ao + n * 5, none⟩ = some (.string p.code) := Later.cell c0
                have z1 : ∀ v : Later w23, v.w.cell? ⟨ab, ao + n * 5 + 1, none⟩ = some (.int .i64 p.slot) := Later.cell c1
                have z2 : ∀ v : Later w23, v.w.cell? ⟨ab, ao + n * 5 + 2, none⟩ = some (.slice qA p.ports.length qd) := Later.cell c2
                have z3 : ∀ v : Later w23, v.w.cell? ⟨ab, ao + n * 5 + 3, none⟩ = some (.int .i64 p.price) := Later.cell c3
                have z4 : ∀ v : Later w23, v.w.cell? ⟨ab, ao + n * 5 + 4, none⟩ = some (.int .i64 p.grams) := Later.cell c4
                have x0 : ∀ v : Later w23, v.w.cell? ⟨r, 0, none⟩ = some (.string p.code) := Later.cell ((HBx.out w23 hbk3).cell (j := 0) rfl)
                have x1 : ∀ v : Later w23, v.w.cell? ⟨r, 1, none⟩ = some (.int .i64 p.slot) := Later.cell ((HBx.out w23 hbk3).cell (j := 1) rfl)
                have x2 : ∀ v : Later w23, v.w.cell? ⟨r, 2, none⟩ = some (.slice pA p.ports.length pc) := Later.cell ((HBx.out w23 hbk3).cell (j := 2) rfl)
                have x3 : ∀ v : Later w23, v.w.cell? ⟨r, 3, none⟩ = some (.int .i64 p.price) := Later.cell ((HBx.out w23 hbk3).cell (j := 3) rfl)
                have x4 : ∀ v : Later w23, v.w.cell? ⟨r, 4, none⟩ = some (.int .i64 p.grams) := Later.cell ((HBx.out w23 hbk3).cell (j := 4) rfl)
                have HK6 : Hid (∀ v : Later w23, Calls Try.prog 24 #[.agg #[.string p.code, .int .i64 p.slot, .slice qA p.ports.length qd, .int .i64 p.price, .int .i64 p.grams], .agg #[.string p.code, .int .i64 p.slot, .slice pA p.ports.length pc, .int .i64 p.price, .int .i64 p.grams]] v.w fun e w' => e = .returned (.bool true) ∧ Below v.w.heap.size v.w w') := fun v => likePart_k p qA pA qd pc v.w (hq.next v.below) ((Hp.out.next hbk3).next v.below) (by omega)
                have HK7 : Hid (∀ v : Later w23, Calls Try.prog 19 #[.slice QA vs.length qc, .slice LA vs.length lc] v.w fun e w' => e = .returned (.bool true) ∧ Below v.w.heap.size v.w w') := fun v => likeParts_k QA LA qc lc vs v.w (HQ.out.next v.below) ((Hl.out.next hbk3).next v.below) (by omega) (fun x hx => (HSvs.out.2 x hx).2)
                have HK8 : Hid (∀ v : Later w23, Calls Try.prog 23 #[.slice (some ⟨ab, ao, none⟩) L.length ac] v.w fun e w' => e = .returned (.bool true) ∧ Below v.w.heap.size v.w w') := fun v => by
                  have := areParts_impl (some ⟨ab, ao, none⟩) ac L v.w ((Ha.out.next hbk3).next v.below) hLs HSa.out.2
                  rwa [HPt.out] at this
                clear c0 c1 c2 c3 c4 hq HQ HAt HPt
                go_upto_region 33 with (fail)
                refine wp_region_later (by kernel_rfl) (by kernel_rfl) ?_
                repeat (go_big_quiet_step ((first | (go_at_call 24; exact Later.call (HK6.out _)) | (go_at_call 19; exact Later.call (HK7.out _)) | (go_at_call 23; exact Later.call (HK8.out _)))))
                refine wpQuiet_nil ?_
                rintro w24 ⟨⟨_, hb24⟩, rfl⟩
                clear x0 x1 x2 x3 x4 z0 z1 z2 z3 z4 HK6 HK7 HK8
                go_wp2_with fail
                go_ret
                exact ⟨rfl, bthen (bthen hbw hbk3) hb24⟩
            · have hbb : (bad != 0) = true := by simp [hbad]
              clear HLa hbad
              go_wp2_with fail
              go_ret
              exact ⟨rfl, bthen hbw hbk⟩
      · have h5b : (five == 0) = false := by simp [h5]
        clear HLc h5
        go_wp2_with fail
        go_loopw [31] (fun z wr => z = .int .i64 0 ∧ Below wc.heap.size wc wr) (fun _ _ => 0)
        case atStart => exact ⟨rfl, Below.refl _ _⟩
        case round =>
          obtain ⟨rfl, hbk⟩ := hrel
          by_cases hbad : bad = 0
          · as_aux_lemma =>
              obtain ⟨n, hf, hat, hdr, hpt, hLl⟩ := HLa.out L (by rw [hbad])
              have HKf : Hid (∀ v : World, Below wc.heap.size wc v → Calls Try.prog 12 #[.slice AA L.length ac, .string p.code] v fun e w' => e = .returned (.tuple #[.int .i64 n, .int .i64 0]) ∧ Below v.heap.size v w') := fun v hv => by
                have := FindPart_impl AA ac L p.code v (Ha.out.next hv) HSa.out
                rwa [hf] at this
              have HKg : Hid (∀ v : World, Below wc.heap.size wc v → Calls Try.prog 13 #[.slice AA L.length ac, .string p.code] v fun e w' => e = .returned (.tuple #[.int .i64 n, .int .i64 0]) ∧ Below v.heap.size v w') := fun v hv => by
                have := FindPart_spec AA ac L p.code v (Ha.out.next hv) HSa.out
                rwa [hf] at this
              have HKd : Hid (∀ v : World, Below wc.heap.size wc v → Calls Try.prog 9 #[.slice AA L.length ac, .string p.code] v (GivesParts2 v (vs, 0))) := fun v hv => by
                have := DropPart_impl AA ac L p.code v (Ha.out.next hv) HSa.out
                rwa [hdr] at this
              have hnl := (List.getElem?_eq_some_iff.1 hat).1
              obtain ⟨ab, ao, rfl⟩ := Ha.out.addr (by omega)
              have HAt := Lib.hid hat
              have HPt := Lib.hid hpt
              have HBd := Lib.hid hbad
              obtain rfl : bad = 0 := HBd.out
              clear hf hdr hpt hLl HLa hat HBd hbad
              have HBx : Hid (∀ v : World, Below wc.heap.size wc v → Blk v r 27 [.string p.code, .int .i64 p.slot, .slice pA p.ports.length pc, .int .i64 p.price, .int .i64 p.grams]) := fun v hv => HB.out.next hv
              have x0 := (HBx.out wr hbk).cell (j := 0) rfl
              go_wp2_with fail
              refine (HKf.out wr hbk).mono ?_
              rintro e w21 ⟨rfl, hb21⟩
              have hbk1 := bthen hbk hb21
              clear x0
              have x0 := (HBx.out w21 hbk1).cell (j := 0) rfl
              go_wp2_with fail
              refine (HKg.out w21 hbk1).mono ?_
              rintro e w22 ⟨rfl, hb22⟩
              have hbk2 := bthen hbk1 hb22
              clear x0
              have x0 := (HBx.out w22 hbk2).cell (j := 0) rfl
              go_wp2_with fail
              refine (HKd.out w22 hbk2).mono ?_
              rintro e w23 ⟨QA, qc, rfl, fq, _, hb23⟩
              try simp only at fq
              have hbk3 := bthen hbk2 hb23
              have HQ := Lib.hid fq.rd
              clear x0 fq HKf HKg HKd
              obtain ⟨_, qA, qd, c0, c1, c2, c3, c4, hq, _⟩ := (Ha.out.next hbk3).cells HAt.out
              have z0 : ∀ v : Later w23, v.w.cell? ⟨ab, ao + n * 5, none⟩ = some (.string p.code) := Later.cell c0
              have z1 : ∀ v : Later w23, v.w.cell? ⟨ab, ao + n * 5 + 1, none⟩ = some (.int .i64 p.slot) := Later.cell c1
              have z2 : ∀ v : Later w23, v.w.cell? ⟨ab, ao + n * 5 + 2, none⟩ = some (.slice qA p.ports.length qd) := Later.cell c2
              have z3 : ∀ v : Later w23, v.w.cell? ⟨ab, ao + n * 5 + 3, none⟩ = some (.int .i64 p.price) := Later.cell c3
              have z4 : ∀ v : Later w23, v.w.cell? ⟨ab, ao + n * 5 + 4, none⟩ = some (.int .i64 p.grams) := Later.cell c4
              have x0 : ∀ v : Later w23, v.w.cell? ⟨r, 0, none⟩ = some (.string p.code) := Later.cell ((HBx.out w23 hbk3).cell (j := 0) rfl)
              have x1 : ∀ v : Later w23, v.w.cell? ⟨r, 1, none⟩ = some (.int .i64 p.slot) := Later.cell ((HBx.out w23 hbk3).cell (j := 1) rfl)
              have x2 : ∀ v : Later w23, v.w.cell? ⟨r, 2, none⟩ = some (.slice pA p.ports.length pc) := Later.cell ((HBx.out w23 hbk3).cell (j := 2) rfl)
              have x3 : ∀ v : Later w23, v.w.cell? ⟨r, 3, none⟩ = some (.int .i64 p.price) := Later.cell ((HBx.out w23 hbk3).cell (j := 3) rfl)
              have x4 : ∀ v : Later w23, v.w.cell? ⟨r, 4, none⟩ = some (.int .i64 p.grams) := Later.cell ((HBx.out w23 hbk3).cell (j := 4) rfl)
              have HK6 : Hid (∀ v : Later w23, Calls Try.prog 24 #[.agg #[.string p.code, .int .i64 p.slot, .slice qA p.ports.length qd, .int .i64 p.price, .int .i64 p.grams], .agg #[.string p.code, .int .i64 p.slot, .slice pA p.ports.length pc, .int .i64 p.price, .int .i64 p.grams]] v.w fun e w' => e = .returned (.bool true) ∧ Below v.w.heap.size v.w w') := fun v => likePart_k p qA pA qd pc v.w (hq.next v.below) ((Hp.out.next hbk3).next v.below) (by omega)
              have HK7 : Hid (∀ v : Later w23, Calls Try.prog 19 #[.slice QA vs.length qc, .slice LA vs.length lc] v.w fun e w' => e = .returned (.bool true) ∧ Below v.w.heap.size v.w w') := fun v => likeParts_k QA LA qc lc vs v.w (HQ.out.next v.below) ((Hl.out.next hbk3).next v.below) (by omega) (fun x hx => (HSvs.out.2 x hx).2)
              have HK8 : Hid (∀ v : Later w23, Calls Try.prog 23 #[.slice (some ⟨ab, ao, none⟩) L.length ac] v.w fun e w' => e = .returned (.bool true) ∧ Below v.w.heap.size v.w w') := fun v => by
                have := areParts_impl (some ⟨ab, ao, none⟩) ac L v.w ((Ha.out.next hbk3).next v.below) hLs HSa.out.2
                rwa [HPt.out] at this
              clear c0 c1 c2 c3 c4 hq HQ HAt HPt
              go_upto_region 33 with (fail)
              refine wp_region_later (by kernel_rfl) (by kernel_rfl) ?_
              repeat (go_big_quiet_step ((first | (go_at_call 24; exact Later.call (HK6.out _)) | (go_at_call 19; exact Later.call (HK7.out _)) | (go_at_call 23; exact Later.call (HK8.out _)))))
              refine wpQuiet_nil ?_
              rintro w24 ⟨⟨_, hb24⟩, rfl⟩
              clear x0 x1 x2 x3 x4 z0 z1 z2 z3 z4 HK6 HK7 HK8
              go_wp2_with fail
              go_ret
              exact ⟨rfl, bthen (bthen hbw hbk3) hb24⟩
          · have hbb : (bad != 0) = true := by simp [hbad]
            clear HLa hbad
            go_wp2_with fail
            go_ret
            exact ⟨rfl, bthen hbw hbk⟩

set_option maxRecDepth 100000 in
theorem fnParts_lifted (os : Os) (started : os.Started) (H : Type) (enc : TypeId × Value → H) :
    ReturnsInHanded {} Try.checked os 3 .any (Rows.fnPartsSpec.pre6 enc Try.prog Try.f3 Rows.fnPartsRow.domain false) (Rows.fnPartsSpec.post enc Try.prog Try.f3 false true false false) := by
  refine returnsInHanded_of_change (C := Try.checked) own started (by kernel_rfl) Try.func3
    (ChangeSpec.witness6 (enc := enc) (C := Try.checked) false ⟨#[], #[.slice none 0 0], []⟩ 8 (by kernel_rfl) (by kernel_rfl) (by kernel_rfl) (by kernel_rfl)) ?_
  intro W base args ds gs before hval0 hW hcnd _
  have hval : ∀ (j : Nat) t v, Try.f3.params[j]? = some t → args[j]? = some v → Value.okWide Try.prog W .any base t v := hval0
  have hlt : ∀ x ∈ before, x.block < W.heap.size := fun x hx => hW.lt x hx
  have hW' := hW
  obtain ⟨p, q, hA0, hV, rfl, hfz, hnd⟩ := hW
  have hA : DataW.TrodAll enc Try.prog W 0 (fun _ => true) true Try.f3.params.toList args.toList ds p := hA0
  rw [Try.params3] at hA hval
  obtain ⟨v0, d0, rfl, rfl, h0⟩ := trodAll_one hA
  obtain ⟨A, c, xs, rfl, hm, hx, hr⟩ := open_bytes (hval 0 22 v0 rfl rfl) h0
  refine (law_FnParts A c xs W hr hx hm).mono fun e W' ⟨he, hb⟩ => ?_
  subst he
  exact ⟨_, rfl, law_post (tb := 4) laidOut (by kernel_rfl) rfl rfl Try.underlying4 hW' rfl hb⟩
theorem fnParts_closed : joinedFacts Try.prog 3 Try.f3 Rows.fnPartsSpec Rows.fnPartsRow = true := by
  unfold joinedFacts; rw [mayEnter_yes, liftsFinal_no, make_cut]; kernel_rfl
theorem fnParts_holds : Rows.FnPartsSaid :=
  OpenClaim.holds_of_wide 3 Try.f3 rfl rfl rfl rfl rfl rfl rfl ⟨rfl, rfl, rfl, rfl, rfl⟩ rfl rfl rfl rfl rfl (by kernel_rfl) Try.func3 fnParts_closed
    (of_decide_eq_true (by kernel_rfl)) (by unfold Func.isWrapper; rw [if_neg (of_decide_eq_false (by kernel_rfl))]; exact ⟨rfl, rfl⟩)
    (fun os started H enc _ => fnParts_lifted os started H enc)
#print axioms fnParts_holds

end Go.Proofs.Ytncjgebgghpigaa
