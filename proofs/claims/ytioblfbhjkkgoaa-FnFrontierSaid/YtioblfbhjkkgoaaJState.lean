/- DERIVED. Open, broken and closed joints. By program (gjoints.py). -/
import Derived.Test.YtioblfbhjkkgoaaSums
namespace Go.Proofs.Ytioblfbhjkkgoaa
set_option maxRecDepth 100000
open Go.RowKit

def openT (bs : List ByteArray) (j : JointT) : Bool := decide (textAt bs j.1 = noText) || decide (textAt bs j.2.1 = noText)

set_option maxHeartbeats 1000000 in
theorem isOpen_any (A' : Option Addr) (c' : Nat) (bs : List ByteArray) (j : JointT) (w : World) (hr' : Rd w w.heap.size 1 tC A' bs) (hl : bs.length = 8) (hj : SlotsIn j) :
    Calls Try.prog 82 #[.slice A' bs.length c', .agg #[.int .i64 j.1, .int .i64 j.2.1, .int .i64 j.2.2]] w fun e w' => e = .returned (.bool (openT bs j)) ∧ Below w.heap.size w w' := by
  obtain ⟨ja, jb, kind⟩ := j
  obtain ⟨h1, h2, h3, h4⟩ := hj
  simp only at h1 h2 h3 h4
  obtain ⟨a, rfl⟩ := Int.eq_ofNat_of_zero_le h1
  obtain ⟨b, rfl⟩ := Int.eq_ofNat_of_zero_le h3
  have ha : a < bs.length := by omega
  have hb0 : b < bs.length := by omega
  have hxa : bs[a]? = some bs[a] := List.getElem?_eq_getElem ha
  have hxb : bs[b]? = some bs[b] := List.getElem?_eq_getElem hb0
  have eta : textAt bs (a : Int) = bs[a] := textAt_eq (by simp)
  have etb : textAt bs (b : Int) = bs[b] := textAt_eq (by simp)
  have HO : Hid (openT bs (↑a, ↑b, kind) = (decide (bs[a] = noText) || decide (bs[b] = noText))) := by unfold Hid openT; rw [eta, etb]
  generalize openT bs (↑a, ↑b, kind) = R at HO ⊢
  have hbw := balloc w (.cells #[.int .i64 (a : Int), .int .i64 (b : Int), .int .i64 kind] 62)
  obtain ⟨b1, o1, rfl, hB1, qa⟩ := hr'.at1 hxa rfl
  obtain ⟨b2, o2, e2, _, qb⟩ := hr'.at1 hxb rfl
  simp only [Option.some.injEq, Addr.mk.injEq] at e2
  obtain ⟨rfl, rfl, _⟩ := e2
  rw [Nat.mul_one] at qa qb
  clear hxa hxb eta etb
  generalize bs[a] = ta at qa HO
  generalize bs[b] = tb at qb HO
  have HL := Lib.hid hl; clear hl
  by_cases hta : ta = noText
  · have htl : ta.toList = [] := by rw [hta]; exact noText_list
    have HR : Hid (R = true) := by unfold Hid; rw [HO.out]; simp [hta]
    clear hta
    go_enter Try.func82, Try.ntmps82
    go_wp2_with fail
    go_ret
    exact ⟨ret_bool HR.out.symm, hbw⟩
  · have htl := text_not hta
    have htb : (ta.toList == []) = false := by simp [htl]
    have hti : ta.toList.isEmpty = false := by simp [htl]
    by_cases htb' : tb = noText
    · have hul : tb.toList = [] := by rw [htb']; exact noText_list
      have HR : Hid (R = true) := by unfold Hid; rw [HO.out]; simp [htb']
      clear hta htb'
      go_enter Try.func82, Try.ntmps82
      go_wp2_with fail
      go_ret
      exact ⟨ret_bool HR.out.symm, hbw⟩
    · have hul := text_not htb'
      have hub : (tb.toList == []) = false := by simp [hul]
      have hui : tb.toList.isEmpty = false := by simp [hul]
      have HR : Hid (R = false) := by unfold Hid; rw [HO.out]; simp [hta, htb']
      clear hta htb'
      go_enter Try.func82, Try.ntmps82
      go_wp2_with fail
      go_ret
      exact ⟨ret_bool HR.out.symm, hbw⟩

theorem openB_eq {vs : List PartT} {bs : List ByteArray} {j : JointT} (hC : Codes vs bs) (hj : SlotsIn j) : openB vs bs j = openT bs j := by
  obtain ⟨ja, jb, kind⟩ := j
  obtain ⟨h1, h2, h3, h4⟩ := hj
  simp only at h1 h2 h3 h4
  have key : ∀ n : Int, 0 ≤ n → n ≤ 7 → (findI vs (textAt bs n) < 0 ↔ textAt bs n = noText) := fun n hn0 hn7 => by
    have hl := hC.len
    have hx : bs[n.toNat]? = some (bs[n.toNat]'(by omega)) := List.getElem?_eq_getElem (by omega)
    have e := textAt_eq hx
    rw [e]
    constructor
    · intro h
      rcases hC.code _ (List.getElem_mem (by omega : n.toNat < bs.length)) with h5 | h5
      · exact h5
      · omega
    · intro h
      rw [h, findI_noText hC.parts]
      omega
  have k1 := key ja h1 h2
  have k2 := key jb h3 h4
  unfold openB openT stateJ
  simp only
  by_cases e1 : textAt bs ja = noText
  · rw [if_pos (Or.inl (k1.2 e1))]
    simp [e1]
  · by_cases e2 : textAt bs jb = noText
    · rw [if_pos (Or.inr (k2.2 e2))]
      simp [e2]
    · rw [if_neg (by rintro (h | h); exact e1 (k1.1 h); exact e2 (k2.1 h))]
      simp only [e1, e2, decide_false, Bool.or_self, decide_eq_false_iff_not]
      split <;> omega
/-- Where both slots bear a part: those parts. -/
theorem joint_parts {vs : List PartT} {bs : List ByteArray} {j : JointT} (hC : Codes vs bs) (hj : SlotsIn j) (h : openT bs j = false) : ∃ (k l : Nat) (x y : PartT), findI vs (textAt bs j.1) = (k : Int) ∧ findI vs (textAt bs j.2.1) = (l : Int) ∧ k < vs.length ∧ l < vs.length ∧ vs[k]? = some x ∧ vs[l]? = some y ∧
    stateJ vs bs j = (if joinB x.ports y.ports j.2.2 = true then 2 else 1) := by
  obtain ⟨ja, jb, kind⟩ := j
  obtain ⟨h1, h2, h3, h4⟩ := hj
  simp only at h1 h2 h3 h4
  unfold openT at h
  simp only [Bool.or_eq_false_iff, decide_eq_false_iff_not] at h
  have hl := hC.len
  have key : ∀ n : Int, 0 ≤ n → n ≤ 7 → ¬ textAt bs n = noText → ∃ (k : Nat) (x : PartT), findI vs (textAt bs n) = (k : Int) ∧ k < vs.length ∧ vs[k]? = some x := fun n hn0 hn7 hne => by
    have hx : bs[n.toNat]? = some (bs[n.toNat]'(by omega)) := List.getElem?_eq_getElem (by omega)
    have e := textAt_eq hx
    rw [e] at hne ⊢
    obtain ⟨k, x, h5, h6, h7, _⟩ := findI_word hC.parts ((hC.code _ (List.getElem_mem (by omega : n.toNat < bs.length))).resolve_left hne)
    exact ⟨k, x, h5, h6, h7⟩
  obtain ⟨k, x, k1, k2, k3⟩ := key ja h1 h2 h.1
  obtain ⟨l, y, l1, l2, l3⟩ := key jb h3 h4 h.2
  refine ⟨k, l, x, y, k1, l1, k2, l2, k3, l3, ?_⟩
  unfold stateJ
  simp only
  rw [k1, l1, if_neg (by omega), portsAt_eq k3, portsAt_eq l3]

set_option maxHeartbeats 800000 in
theorem isBroken_any (A A' : Option Addr) (c c' : Nat) (vs : List PartT) (bs : List ByteArray) (j : JointT) (w : World) (hr : RdV w w.heap.size A vs) (hr' : Rd w w.heap.size 1 tC A' bs) (hs : SmallV vs) (hC : Codes vs bs) (hj : SlotsIn j) :
    Calls Try.prog 79 #[.slice A vs.length c, .slice A' bs.length c', .agg #[.int .i64 j.1, .int .i64 j.2.1, .int .i64 j.2.2]] w fun e w' => e = .returned (.bool (brokenB vs bs j)) ∧ Below w.heap.size w w' := by
  have HO : Hid (∀ v : World, Rd v v.heap.size 1 tC A' bs → Calls Try.prog 82 #[.slice A' bs.length c', .agg #[.int .i64 j.1, .int .i64 j.2.1, .int .i64 j.2.2]] v fun e w' => e = .returned (.bool (openT bs j)) ∧ Below v.heap.size v w') := fun v hv => isOpen_any A' c' bs j v hv hC.len hj
  have HN0 : Hid (∀ (v : World) (code : ByteArray), RdV v v.heap.size A vs → Calls Try.prog 56 #[.slice A vs.length c, .string code] v fun e w' => e = .returned (.int .i64 (findI vs code)) ∧ Below v.heap.size v w') := fun v code hv => findPart_any A c vs code v hv hs.1
  have HS := Lib.hid hs.2
  have hm := hs.1
  have HOE := Lib.hid (openB_eq hC hj)
  have HJP := Lib.hid (joint_parts hC hj)
  have hl := hC.len
  clear hs hC
  have HBR : Hid (brokenB vs bs j = decide (stateJ vs bs j = 1)) := rfl
  have HOB : Hid (openB vs bs j = decide (stateJ vs bs j = 0)) := rfl
  generalize brokenB vs bs j = R at HBR ⊢
  generalize stateJ vs bs j = st at HBR HOB HJP
  obtain ⟨ja, jb, kind⟩ := j
  obtain ⟨h1, h2, h3, h4⟩ := hj
  simp only at h1 h2 h3 h4
  obtain ⟨a, rfl⟩ := Int.eq_ofNat_of_zero_le h1
  obtain ⟨b, rfl⟩ := Int.eq_ofNat_of_zero_le h3
  have ha : a < bs.length := by omega
  have hb0 : b < bs.length := by omega
  have hxa : bs[a]? = some bs[a] := List.getElem?_eq_getElem ha
  have hxb : bs[b]? = some bs[b] := List.getElem?_eq_getElem hb0
  have eta : textAt bs (a : Int) = bs[a] := textAt_eq (by simp)
  have etb : textAt bs (b : Int) = bs[b] := textAt_eq (by simp)
  have HL := Lib.hid hl; clear hl
  generalize openT bs (↑a, ↑b, kind) = op at HO HOE HJP
  simp only at HJP HO
  rw [eta, etb] at HJP
  obtain ⟨b1, o1, rfl, hB1, qa⟩ := hr'.at1 hxa rfl
  obtain ⟨b2, o2, e2, _, qb⟩ := hr'.at1 hxb rfl
  simp only [Option.some.injEq, Addr.mk.injEq] at e2
  obtain ⟨rfl, rfl, _⟩ := e2
  rw [Nat.mul_one] at qa qb
  clear hxa hxb eta etb
  generalize bs[a] = ta at qa HJP
  generalize bs[b] = tb at qb HJP
  go_enter Try.func79, Try.ntmps79
  go_wp2_with fail
  have c0 : (w.alloc (.cells #[.int .i64 (a : Int), .int .i64 (b : Int), .int .i64 kind] 62)).cell? ⟨w.heap.size, 0, none⟩ = some (.int .i64 (a : Int)) := by go_simp
  have c1 : (w.alloc (.cells #[.int .i64 (a : Int), .int .i64 (b : Int), .int .i64 kind] 62)).cell? ⟨w.heap.size, 1, none⟩ = some (.int .i64 (b : Int)) := by go_simp
  have c2 : (w.alloc (.cells #[.int .i64 (a : Int), .int .i64 (b : Int), .int .i64 kind] 62)).cell? ⟨w.heap.size, 2, none⟩ = some (.int .i64 kind) := by go_simp
  have hbw := balloc w (.cells #[.int .i64 (a : Int), .int .i64 (b : Int), .int .i64 kind] 62)
  have hbs := hbw.size
  generalize w.alloc (.cells #[.int .i64 (a : Int), .int .i64 (b : Int), .int .i64 kind] 62) = W at c0 c1 c2 hbw hbs ⊢
  generalize hg0 : w.heap.size = g0 at c0 c1 c2 ⊢
  refine (HO.out W ((hr'.below hbw).more hbs)).mono ?_
  rintro e w1 ⟨rfl, hb1⟩
  have hbw1 := bthen hbw hb1
  have c0' := (hb1.cell (p := ⟨g0, 0, none⟩) (World.block_lt_of_cell? W _ c0)).trans c0
  have c1' := (hb1.cell (p := ⟨g0, 1, none⟩) (World.block_lt_of_cell? W _ c1)).trans c1
  have c2' := (hb1.cell (p := ⟨g0, 2, none⟩) (World.block_lt_of_cell? W _ c2)).trans c2
  cases op
  case true =>
    have HR : Hid (R = false) := by
      unfold Hid
      have h1 := HOE.out
      rw [HOB.out] at h1
      have h2 := of_decide_eq_true h1
      rw [HBR.out, h2]
      rfl
    clear HOE HBR HOB HJP
    go_wp2_with fail
    go_ret
    subst hg0
    exact ⟨ret_bool HR.out.symm, hbw1⟩
  case false =>
    obtain ⟨k, l, x, y, ek, el, hk, hll, hxk, hyl, est⟩ := HJP.out rfl
    have HR : Hid (R = !joinB x.ports y.ports kind) := by
      unfold Hid
      rw [HBR.out, est]
      cases joinB x.ports y.ports kind <;> rfl
    clear HOE HBR HOB HJP est
    have hS1 := (HS.out x (List.mem_of_getElem? hxk)).2
    have hS2 := (HS.out y (List.mem_of_getElem? hyl)).2
    obtain ⟨bl, ol, rfl⟩ := hr.addr (by omega)
    have hr1 := (hr.below hbw1)
    obtain ⟨_, pA, pc, x0, x1, x2, x3, x4, hpx, _⟩ := hr1.cells hxk
    obtain ⟨_, pB, pd, y0, y1, y2, y3, y4, hpy, _⟩ := hr1.cells hyl
    have HNa : Hid (∀ v : Later w1, Calls Try.prog 56 #[.slice (some ⟨bl, ol, none⟩) vs.length c, .string ta] v.w fun e w' => e = .returned (.int .i64 (k : Int)) ∧ Below v.w.heap.size v.w w') := fun v => by rw [← ek]; exact HN0.out v.w ta (Later.rdv (hr.next hbw1) v)
    have HNb : Hid (∀ v : Later w1, Calls Try.prog 56 #[.slice (some ⟨bl, ol, none⟩) vs.length c, .string tb] v.w fun e w' => e = .returned (.int .i64 (l : Int)) ∧ Below v.w.heap.size v.w w') := fun v => by rw [← el]; exact HN0.out v.w tb (Later.rdv (hr.next hbw1) v)
    have HJ : Hid (∀ v : Later w1, Calls Try.prog 83 #[.agg #[.string x.code, .int .i64 x.slot, .slice pA x.ports.length pc, .int .i64 x.price, .int .i64 x.grams], .agg #[.string y.code, .int .i64 y.slot, .slice pB y.ports.length pd, .int .i64 y.price, .int .i64 y.grams], .int .i64 kind] v.w fun e w' => e = .returned (.bool (joinB x.ports y.ports kind)) ∧ Below v.w.heap.size v.w w') := fun v => doJoin_any x y pA pB pc pd kind v.w (Later.rd (hpx.more hbw1.size) v) (Later.rd (hpy.more hbw1.size) v) hS1 hS2
    generalize joinB x.ports y.ports kind = jn at HJ HR
    have qa1 := (hbw1.cell (p := ⟨b1, o1 + a, none⟩) (World.block_lt_of_cell? w _ qa)).trans qa
    have qb1 := (hbw1.cell (p := ⟨b1, o1 + b, none⟩) (World.block_lt_of_cell? w _ qb)).trans qb
    clear ek el hxk hyl qa qb
    go_wp2_with fail
    have e0 : ∀ v : Later (w1), v.w.cell? ⟨bl, ol + k * 5, none⟩ = some (.string x.code) := Later.cell (x0)
    have e1 : ∀ v : Later (w1), v.w.cell? ⟨bl, ol + k * 5 + 1, none⟩ = some (.int .i64 x.slot) := Later.cell (x1)
    have e2 : ∀ v : Later (w1), v.w.cell? ⟨bl, ol + k * 5 + 2, none⟩ = some (.slice pA x.ports.length pc) := Later.cell (x2)
    have e3 : ∀ v : Later (w1), v.w.cell? ⟨bl, ol + k * 5 + 3, none⟩ = some (.int .i64 x.price) := Later.cell (x3)
    have e4 : ∀ v : Later (w1), v.w.cell? ⟨bl, ol + k * 5 + 4, none⟩ = some (.int .i64 x.grams) := Later.cell (x4)
    have u0 : ∀ v : Later (w1), v.w.cell? ⟨bl, ol + l * 5, none⟩ = some (.string y.code) := Later.cell (y0)
    have u1 : ∀ v : Later (w1), v.w.cell? ⟨bl, ol + l * 5 + 1, none⟩ = some (.int .i64 y.slot) := Later.cell (y1)
    have u2 : ∀ v : Later (w1), v.w.cell? ⟨bl, ol + l * 5 + 2, none⟩ = some (.slice pB y.ports.length pd) := Later.cell (y2)
    have u3 : ∀ v : Later (w1), v.w.cell? ⟨bl, ol + l * 5 + 3, none⟩ = some (.int .i64 y.price) := Later.cell (y3)
    have u4 : ∀ v : Later (w1), v.w.cell? ⟨bl, ol + l * 5 + 4, none⟩ = some (.int .i64 y.grams) := Later.cell (y4)
    have j0 : ∀ v : Later (w1), v.w.cell? ⟨g0, 0, none⟩ = some (.int .i64 (a : Int)) := Later.cell (c0')
    have j1 : ∀ v : Later (w1), v.w.cell? ⟨g0, 1, none⟩ = some (.int .i64 (b : Int)) := Later.cell (c1')
    have j2 : ∀ v : Later (w1), v.w.cell? ⟨g0, 2, none⟩ = some (.int .i64 kind) := Later.cell (c2')
    have za : ∀ v : Later (w1), v.w.cell? ⟨b1, o1 + a, none⟩ = some (.string ta) := Later.cell (qa1)
    have zb : ∀ v : Later (w1), v.w.cell? ⟨b1, o1 + b, none⟩ = some (.string tb) := Later.cell (qb1)
    clear x0 x1 x2 x3 x4 y0 y1 y2 y3 y4 c0' c1' c2' qa1 qb1
    refine wp_region_later (by kernel_rfl) (by kernel_rfl) ?_
    repeat (go_big_quiet_step ((first | (go_at_call 56; first | (with_reducible exact Later.call (HNa.out _)) | (with_reducible exact Later.call (HNb.out _))) | (go_at_call 83; exact Later.call (HJ.out _)))))
    refine wpQuiet_nil ?_
    rintro w2 ⟨⟨_, hb2⟩, rfl⟩
    clear e0 e1 e2 e3 e4 u0 u1 u2 u3 u4 j0 j1 j2 za zb
    go_wp2_with fail
    go_ret
    subst hg0
    exact ⟨ret_bool HR.out.symm, bthen hbw1 hb2⟩

set_option maxHeartbeats 800000 in
theorem l17State_any (A A' : Option Addr) (c c' : Nat) (vs : List PartT) (bs : List ByteArray) (j : JointT) (w : World) (hr : RdV w w.heap.size A vs) (hr' : Rd w w.heap.size 1 tC A' bs) (hs : SmallV vs) (hC : Codes vs bs) (hj : SlotsIn j) :
    Calls Try.prog 76 #[.slice A vs.length c, .agg #[.int .i64 j.1, .int .i64 j.2.1, .int .i64 j.2.2], .slice A' bs.length c'] w fun e w' => e = .returned (.int .i64 (stateJ vs bs j)) ∧ Below w.heap.size w w' := by
  have HN0 : Hid (∀ (v : World) (code : ByteArray), RdV v v.heap.size A vs → Calls Try.prog 50 #[.slice A vs.length c, .string code] v fun e w' => e = .returned (.int .i64 (findI vs code)) ∧ Below v.heap.size v w') := fun v code hv => l16Find_any A c vs code v hv hs.1
  have HS := Lib.hid hs.2
  have hm := hs.1
  have HOE := Lib.hid (openB_eq hC hj)
  have HJP := Lib.hid (joint_parts hC hj)
  have HBD := fun t => findI_bd vs t hs.1
  have hl := hC.len
  clear hs hC
  have HST : Hid (stateJ vs bs j = if findI vs (textAt bs j.1) < 0 ∨ findI vs (textAt bs j.2.1) < 0 then 0 else if joinB (portsAt vs (findI vs (textAt bs j.1))) (portsAt vs (findI vs (textAt bs j.2.1))) j.2.2 = true then 2 else 1) := rfl
  have HOB : Hid (openB vs bs j = decide (stateJ vs bs j = 0)) := rfl
  generalize stateJ vs bs j = st at HST HOB HJP ⊢
  obtain ⟨ja, jb, kind⟩ := j
  obtain ⟨h1, h2, h3, h4⟩ := hj
  simp only at h1 h2 h3 h4
  obtain ⟨a, rfl⟩ := Int.eq_ofNat_of_zero_le h1
  obtain ⟨b, rfl⟩ := Int.eq_ofNat_of_zero_le h3
  have ha : a < bs.length := by omega
  have hb0 : b < bs.length := by omega
  have hxa : bs[a]? = some bs[a] := List.getElem?_eq_getElem ha
  have hxb : bs[b]? = some bs[b] := List.getElem?_eq_getElem hb0
  have eta : textAt bs (a : Int) = bs[a] := textAt_eq (by simp)
  have etb : textAt bs (b : Int) = bs[b] := textAt_eq (by simp)
  have HL := Lib.hid hl; clear hl
  generalize openT bs (↑a, ↑b, kind) = op at HOE HJP
  simp only at HJP HST
  rw [eta, etb] at HJP HST
  obtain ⟨b1, o1, rfl, hB1, qa⟩ := hr'.at1 hxa rfl
  obtain ⟨b2, o2, e2, _, qb⟩ := hr'.at1 hxb rfl
  simp only [Option.some.injEq, Addr.mk.injEq] at e2
  obtain ⟨rfl, rfl, _⟩ := e2
  rw [Nat.mul_one] at qa qb
  clear hxa hxb eta etb
  generalize bs[a] = ta at qa HJP HST
  generalize bs[b] = tb at qb HJP HST
  have hbd1 := HBD ta
  have hbd2 := HBD tb
  clear HBD
  go_enter Try.func76, Try.ntmps76
  go_wp2_with fail
  have c0 : (w.alloc (.cells #[.int .i64 (a : Int), .int .i64 (b : Int), .int .i64 kind] 62)).cell? ⟨w.heap.size, 0, none⟩ = some (.int .i64 (a : Int)) := by go_simp
  have c1 : (w.alloc (.cells #[.int .i64 (a : Int), .int .i64 (b : Int), .int .i64 kind] 62)).cell? ⟨w.heap.size, 1, none⟩ = some (.int .i64 (b : Int)) := by go_simp
  have c2 : (w.alloc (.cells #[.int .i64 (a : Int), .int .i64 (b : Int), .int .i64 kind] 62)).cell? ⟨w.heap.size, 2, none⟩ = some (.int .i64 kind) := by go_simp
  have hbw := balloc w (.cells #[.int .i64 (a : Int), .int .i64 (b : Int), .int .i64 kind] 62)
  have hbs := hbw.size
  generalize w.alloc (.cells #[.int .i64 (a : Int), .int .i64 (b : Int), .int .i64 kind] 62) = W at c0 c1 c2 hbw hbs ⊢
  generalize hg0 : w.heap.size = g0 at c0 c1 c2 ⊢
  have hrW := (hr.below hbw).more hbs
  have HNa : Hid (∀ v : Later W, Calls Try.prog 50 #[.slice A vs.length c, .string ta] v.w fun e w' => e = .returned (.int .i64 (findI vs ta)) ∧ Below v.w.heap.size v.w w') := fun v => HN0.out v.w ta (Later.rdv hrW v)
  have HNb : Hid (∀ v : Later W, Calls Try.prog 50 #[.slice A vs.length c, .string tb] v.w fun e w' => e = .returned (.int .i64 (findI vs tb)) ∧ Below v.w.heap.size v.w w') := fun v => HN0.out v.w tb (Later.rdv hrW v)
  have qa1 := (hbw.cell (p := ⟨b1, o1 + a, none⟩) (World.block_lt_of_cell? w _ qa)).trans qa
  have qb1 := (hbw.cell (p := ⟨b1, o1 + b, none⟩) (World.block_lt_of_cell? w _ qb)).trans qb
  have c0' := c0
  have c1' := c1
  have c2' := c2
  have j0 : ∀ v : Later (W), v.w.cell? ⟨g0, 0, none⟩ = some (.int .i64 (a : Int)) := Later.cell (c0')
  have j1 : ∀ v : Later (W), v.w.cell? ⟨g0, 1, none⟩ = some (.int .i64 (b : Int)) := Later.cell (c1')
  have j2 : ∀ v : Later (W), v.w.cell? ⟨g0, 2, none⟩ = some (.int .i64 kind) := Later.cell (c2')
  have za : ∀ v : Later (W), v.w.cell? ⟨b1, o1 + a, none⟩ = some (.string ta) := Later.cell (qa1)
  have zb : ∀ v : Later (W), v.w.cell? ⟨b1, o1 + b, none⟩ = some (.string tb) := Later.cell (qb1)
  clear qa qb qa1 qb1 c0' c1' c2'
  have hop : (op = true ∧ st = 0 ∧ (findI vs ta < 0 ∨ findI vs tb < 0)) ∨ op = false := by
    cases op
    · exact Or.inr rfl
    · have h1 := HOE.out
      rw [HOB.out] at h1
      have h2 := of_decide_eq_true h1
      refine Or.inl ⟨rfl, h2, ?_⟩
      have h3 := HST.out
      rw [h2] at h3
      split at h3
      · assumption
      · split at h3 <;> omega
  rcases hop with ⟨rfl, hst, hneg⟩ | rfl
  · have HR := Lib.hid hst
    clear HOE HOB HST HJP hst
    generalize findI vs ta = na at HNa hbd1 hneg
    generalize findI vs tb = nb at HNb hbd2 hneg
    refine wp_region_later (by kernel_rfl) (by kernel_rfl) ?_
    repeat (go_big_quiet_step ((go_at_call 50; first | (with_reducible exact Later.call (HNa.out _)) | (with_reducible exact Later.call (HNb.out _)))))
    refine wpQuiet_nil ?_
    rintro w2 ⟨⟨_, hb2⟩, rfl⟩
    clear j0 j1 j2 za zb
    by_cases hna : na < 0
    · go_wp2_with fail
      go_ret
      subst hg0
      exact ⟨ret_int HR.out.symm, bthen hbw hb2⟩
    · have hnb : nb < 0 := by omega
      go_wp2_with fail
      go_ret
      subst hg0
      exact ⟨ret_int HR.out.symm, bthen hbw hb2⟩
  · obtain ⟨k, l, x, y, ek, el, hk, hll, hxk, hyl, est⟩ := HJP.out rfl
    rw [ek] at HNa
    rw [el] at HNb
    have HR := Lib.hid est
    clear HOE HOB HST HJP est hbd1 hbd2 ek el
    refine wp_region_later (by kernel_rfl) (by kernel_rfl) ?_
    repeat (go_big_quiet_step ((go_at_call 50; first | (with_reducible exact Later.call (HNa.out _)) | (with_reducible exact Later.call (HNb.out _)))))
    refine wpQuiet_nil ?_
    rintro w2 ⟨⟨_, hb2⟩, rfl⟩
    clear j0 j1 j2 za zb
    have hbw2 := bthen hbw hb2
    have hS1 := (HS.out x (List.mem_of_getElem? hxk)).2
    have hS2 := (HS.out y (List.mem_of_getElem? hyl)).2
    obtain ⟨bl, ol, rfl⟩ := hr.addr (by omega)
    have hr1 := (hr.below hbw2)
    obtain ⟨_, pA, pc, x0, x1, x2, x3, x4, hpx, _⟩ := hr1.cells hxk
    obtain ⟨_, pB, pd, y0, y1, y2, y3, y4, hpy, _⟩ := hr1.cells hyl
    have HJ : Hid (∀ v : Later w2, Calls Try.prog 81 #[.agg #[.string x.code, .int .i64 x.slot, .slice pA x.ports.length pc, .int .i64 x.price, .int .i64 x.grams], .agg #[.string y.code, .int .i64 y.slot, .slice pB y.ports.length pd, .int .i64 y.price, .int .i64 y.grams], .int .i64 kind] v.w fun e w' => e = .returned (.bool (joinB x.ports y.ports kind)) ∧ Below v.w.heap.size v.w w') := fun v => l16Join_any x y pA pB pc pd kind v.w (Later.rd (hpx.more hbw2.size) v) (Later.rd (hpy.more hbw2.size) v) hS1 hS2
    generalize joinB x.ports y.ports kind = jn at HJ HR
    have c2' := (hb2.cell (p := ⟨g0, 2, none⟩) (World.block_lt_of_cell? W _ c2)).trans c2
    clear hxk hyl
    go_wp2_with fail
    have e0 : ∀ v : Later (w2), v.w.cell? ⟨bl, ol + k * 5, none⟩ = some (.string x.code) := Later.cell (x0)
    have e1 : ∀ v : Later (w2), v.w.cell? ⟨bl, ol + k * 5 + 1, none⟩ = some (.int .i64 x.slot) := Later.cell (x1)
    have e2 : ∀ v : Later (w2), v.w.cell? ⟨bl, ol + k * 5 + 2, none⟩ = some (.slice pA x.ports.length pc) := Later.cell (x2)
    have e3 : ∀ v : Later (w2), v.w.cell? ⟨bl, ol + k * 5 + 3, none⟩ = some (.int .i64 x.price) := Later.cell (x3)
    have e4 : ∀ v : Later (w2), v.w.cell? ⟨bl, ol + k * 5 + 4, none⟩ = some (.int .i64 x.grams) := Later.cell (x4)
    have u0 : ∀ v : Later (w2), v.w.cell? ⟨bl, ol + l * 5, none⟩ = some (.string y.code) := Later.cell (y0)
    have u1 : ∀ v : Later (w2), v.w.cell? ⟨bl, ol + l * 5 + 1, none⟩ = some (.int .i64 y.slot) := Later.cell (y1)
    have u2 : ∀ v : Later (w2), v.w.cell? ⟨bl, ol + l * 5 + 2, none⟩ = some (.slice pB y.ports.length pd) := Later.cell (y2)
    have u3 : ∀ v : Later (w2), v.w.cell? ⟨bl, ol + l * 5 + 3, none⟩ = some (.int .i64 y.price) := Later.cell (y3)
    have u4 : ∀ v : Later (w2), v.w.cell? ⟨bl, ol + l * 5 + 4, none⟩ = some (.int .i64 y.grams) := Later.cell (y4)
    have j2 : ∀ v : Later (w2), v.w.cell? ⟨g0, 2, none⟩ = some (.int .i64 kind) := Later.cell (c2')
    clear x0 x1 x2 x3 x4 y0 y1 y2 y3 y4 c2'
    refine wp_region_later (by kernel_rfl) (by kernel_rfl) ?_
    repeat (go_big_quiet_step ((go_at_call 81; exact Later.call (HJ.out _))))
    refine wpQuiet_nil ?_
    rintro w3 ⟨⟨_, hb3⟩, rfl⟩
    clear e0 e1 e2 e3 e4 u0 u1 u2 u3 u4 j2
    cases jn
    all_goals
      go_wp2_with fail
      go_ret
      subst hg0
      exact ⟨ret_int HR.out.symm, bthen hbw2 hb3⟩

end Go.Proofs.Ytioblfbhjkkgoaa
