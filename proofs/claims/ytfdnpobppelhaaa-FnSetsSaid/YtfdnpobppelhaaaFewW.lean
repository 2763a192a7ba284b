/- DERIVED. The fewest sizes that suit everybody: the walks. By program (gfew.py). -/
import Derived.Test.YtfdnpobppelhaaaTable
import Derived.StillTailTactics
namespace Go.Proofs.Ytfdnpobppelhaaa
set_option maxRecDepth 100000
open Go.RowKit

theorem wrap_small (n : Int) (h0 : 0 ≤ n) (h1 : n < 2 ^ 12) : IntKind.i64.wrap n = n := IntWalk.i64_in _ (by omega)
theorem and_i64 {a b : Nat} (ha : a < 4096) (hb : b < 4096) : bits .and .i64 (a : Int) (b : Int) = ((a &&& b : Nat) : Int) := (bits_nat .i64 12 (by decide) wrap_small a b ha hb).1
theorem or_i64 {a b : Nat} (ha : a < 4096) (hb : b < 4096) : bits .or .i64 (a : Int) (b : Int) = ((a ||| b : Nat) : Int) := (bits_nat .i64 12 (by decide) wrap_small a b ha hb).2

def codeOf : Option (List Int) → Int
  | some r => (maskN r : Int)
  | none => -1
theorem shl_one {k : Nat} (hk : k < 12) : wrap64 (2 ^ k) = ((2 ^ k : Nat) : Int) := by
  have : (2 : Nat) ^ k < 2 ^ 12 := Nat.pow_lt_pow_right (by omega) hk
  unfold wrap64
  have e : (2 : Int) ^ k = ((2 ^ k : Nat) : Int) := by simp
  rw [e]
  generalize (2 : Nat) ^ k = q at this
  omega

set_option maxHeartbeats 1000000 in
theorem choose_any (A : Option Addr) (c n : Nat) (hn : n ≤ 12) (rows : List (List Int)) (hrows : ∀ r ∈ rows, ∀ x ∈ r, 0 ≤ x ∧ x < (n : Int)) (w : World) (hr : Rd w w.heap.size 1 nC A (rows.map mI)) (hm : rows.length ≤ 60) :
    ∀ (D d i m : Nat) (b : List Int), d < D → i + d = n → m ≤ 12 → UpTo i b →
    Calls Try.prog 93 #[.slice A rows.length c, .int .i64 n, .int .i64 i, .int .i64 m, .int .i64 (maskN b)] w fun e w' => e = .returned (.int .i64 (codeOf ((combs d i m b).find? (meetAll rows)))) ∧ w = w' := by
  intro D
  induction D with
  | zero => exact fun d i m b h => absurd h (by omega)
  | succ D ih =>
    intro d i m b hd hid hm12 hup
    have Hup := Lib.hid hup
    by_cases hmz : m = 0
    · subst hmz
      go_enter Try.func93, Try.ntmps93
      have hp : maskN b < 4096 := by
        have := maskN_small (n := 12) fun x hx => by
          obtain ⟨j, h1, h2⟩ := hup.lt x hx
          omega
        omega
      have hb0 : Hid (∀ x ∈ b, 0 ≤ x) := fun x hx => by
        obtain ⟨j, h1, h2⟩ := hup.lt x hx
        omega
      have HF : Hid (∀ q : Bool, meetAll rows b = q → codeOf ((combs d i 0 b).find? (meetAll rows)) = if q = true then (maskN b : Int) else -1) := fun q hq => by
        rw [combs_zero, List.find?_cons, hq]
        cases q <;> rfl
      clear hup
      generalize codeOf ((combs d i 0 b).find? (meetAll rows)) = R at HF ⊢
      have HA : Hid (∀ q : Nat, q < 4096 → (maskN b = maskN b)) := fun _ _ => rfl
      generalize hmb : maskN b = p at hp HF ⊢
      have Hmb := Lib.hid hmb; clear hmb HA
      go_wp2_with fail
      go_loopw [19] (fun i wr => ∃ k : Nat, k ≤ rows.length ∧ i = .int .i64 k ∧ w = wr ∧ (rows.take k).all (fun r => meetsB r b) = true) (fun i _ => rows.length - (intOf i).toNat)
      case atStart => exact ⟨0, Nat.zero_le _, rfl, rfl, rfl⟩
      case round =>
        obtain ⟨k, hk, rfl, rfl, hall⟩ := hrel
        have Ha := Lib.hid hall; clear hall
        by_cases hlt : k < rows.length
        · have hx : (rows.map mI)[k]? = some (maskN rows[k] : Int) := by rw [List.getElem?_map, List.getElem?_eq_getElem hlt]; rfl
          obtain ⟨g, o, rfl, hB, h0⟩ := hr.at1 hx rfl
          rw [Nat.mul_one] at h0
          have hr0 := hrows _ (List.getElem_mem hlt)
          have hq : maskN rows[k] < 4096 := by
            have := maskN_small (n := 12) fun x hx => by
              have := hr0 x hx
              omega
            omega
          have hand := and_i64 hq hp
          have hmeet := maskN_and (a := rows[k]) (b := b) (fun x hx => (hr0 x hx).1) hb0.out
          rw [Hmb.out] at hmeet
          have HO : Hid (meetsB rows[k] b = false → meetAll rows b = false) := fun h => all_out hlt h
          have HY : Hid (meetsB rows[k] b = true → (rows.take (k + 1)).all (fun r => meetsB r b) = true) := fun h => by rw [all_snoc hlt, Ha.out, h]; rfl
          generalize maskN rows[k] = q at h0 hq hand hmeet
          generalize meetsB rows[k] b = mt at hmeet HO HY
          clear hx hr0
          cases mt with
          | false =>
            have hz := hmeet.2 rfl
            rw [hz] at hand
            have HR := Lib.hid (HF.out false (HO.out rfl))
            clear hmeet hz HO HY
            go_wp2_with fail
            go_ret
            exact ⟨by rw [HR.out]; rfl, rfl⟩
          | true =>
            have hz : ¬ (q &&& p = 0) := fun e => by have := hmeet.1 e; cases this
            have HY2 := Lib.hid (HY.out rfl)
            clear HO HY hmeet
            generalize q &&& p = qp at hand hz
            have hz2 : ¬ ((qp : Nat) : Int) = 0 := by omega
            rw [← hand] at hz2
            clear hand hz
            go_wp2_with fail
            exact ⟨⟨k + 1, by omega, by go_num, trivial, HY2.out⟩, by simp [intOf]; omega⟩
        · have hT := Ha.out
          rw [List.take_of_length_le (by omega)] at hT
          have HR := Lib.hid (HF.out true hT)
          clear hT
          go_wp2_with fail
          go_ret
          exact ⟨by rw [HR.out]; rfl, rfl⟩
    · have h1m : 1 ≤ m := by omega
      have hmb : ((m : Int) == 0) = false := by simp [hmz]
      clear hmz
      have Hmp : Hid (((m - 1 : Nat) : Int) = (m : Int) - 1) := by
        unfold Hid
        omega
      go_enter Try.func93, Try.ntmps93
      go_wp2_with fail
      go_loopw [13] (fun x wr => ∃ (e j : Nat), j + e = n ∧ e ≤ d ∧ x = .int .i64 j ∧ w = wr ∧ UpTo j b ∧ Hid ((combs d i m b).find? (meetAll rows) = (combs e j m b).find? (meetAll rows))) (fun x _ => n - (intOf x).toNat)
      case atStart => exact ⟨d, i, hid, Nat.le_refl _, rfl, rfl, Hup.out, rfl⟩
      case round =>
        obtain ⟨e, j, hje, hed, rfl, rfl, hupj, HE⟩ := hrel
        have Hj := Lib.hid hupj; clear hupj
        cases e with
        | zero =>
          obtain rfl : j = n := by omega
          have HR : Hid (codeOf ((combs d i m b).find? (meetAll rows)) = -1) := by
            unfold Hid
            rw [HE.out, combs_none' h1m]
            rfl
          clear HE
          go_wp2_with fail
          go_ret
          exact ⟨ret_int HR.out.symm, rfl⟩
        | succ e =>
          have HC := Lib.hid (ih e (j + 1) (m - 1) (b ++ [(j : Int)]) (by omega) (by omega) (by omega) Hj.out.add)
          have hp : maskN b < 4096 := by
            have := maskN_small (n := 12) fun x hx => by
              obtain ⟨q, h1, h2⟩ := Hj.out.lt x hx
              omega
            omega
          have hsh := shl_one (k := j) (by omega)
          have hpw : 2 ^ j < 4096 := by
            have := Nat.pow_lt_pow_right (a := 2) (by omega) (show j < 12 by omega)
            omega
          have hor := or_i64 hp hpw
          rw [← hsh] at hor
          have Hsh := Lib.hid hor
          rw [maskN_snoc, Int.toNat_natCast, Hmp.out, show ((j + 1 : Nat) : Int) = (j : Int) + 1 by omega] at HC
          rw [combs_step' h1m, List.find?_append] at HE
          clear ih hp hsh hor
          generalize maskN b = p at HC Hsh ⊢
          generalize p ||| 2 ^ j = q at HC Hsh
          generalize hfd : (combs e (j + 1) (m - 1) (b ++ [(j : Int)])).find? (meetAll rows) = fd at HC HE
          clear hfd
          go_wp2_with fail
          rw [Hsh.out]
          refine HC.out.mono ?_
          rintro x w' ⟨rfl, rfl⟩
          cases fd with
          | some r =>
            have HR : Hid (codeOf ((combs d i m b).find? (meetAll rows)) = (maskN r : Int)) := by
              unfold Hid
              rw [HE.out]
              rfl
            have ec : codeOf (some r) = ((maskN r : Nat) : Int) := rfl
            rw [ec]
            clear HE ec
            go_wp2_with fail
            go_ret
            exact ⟨ret_int HR.out.symm, rfl⟩
          | none =>
            have ec : codeOf none = -1 := rfl
            rw [ec]
            have HE2 : Hid ((combs d i m b).find? (meetAll rows) = (combs e (j + 1) m b).find? (meetAll rows)) := by
              unfold Hid
              rw [HE.out]
              rfl
            clear HE ec
            go_wp2_with fail
            exact ⟨⟨e, j + 1, by omega, by omega, by go_num, trivial, Hj.out.more, HE2⟩, by simp [intOf]; omega⟩

theorem infoInt : (Try.prog.info? 3).map (fun i => (i.zero, i.size, i.bytes)) = some (some (.int .i64 0), 1, 8) := by kernel_rfl

set_option maxHeartbeats 2000000 in
theorem FewestSizes_impl (A : Option Addr) (c : Nat) (rs : List RidT) (S : Option Addr) (sc : Nat) (xs : List SizT) (w : World) (hr : Rd w w.heap.size 3 ridrC A rs) (hm : rs.length ≤ 1048576) (hs : Rd w w.heap.size 4 sizeC S xs) (hsm : xs.length ≤ 1048576) (hc : xs.length ≤ sc) (hg : ∀ x ∈ xs, x.1.size ≤ maxLen) :
    Calls Try.prog 45 #[.slice A rs.length c, .slice S xs.length sc] w (GivesRes w 2 1 nC (fewR rs xs)) := by
  have hI := areRiders_any A c rs w hr hm
  have hJ : Hid (∀ v : World, Rd v v.heap.size 4 sizeC S xs → Calls Try.prog 19 #[.slice S xs.length sc] v fun e w' => e = .returned (.bool (sizesB xs)) ∧ Below v.heap.size v w') := fun v hv => areSizes_impl S sc xs v hv hsm hc hg
  have Hg := Lib.hid hg; clear hg
  by_cases r : ridersB rs = true
  · by_cases z : sizesB xs = true
    · have HF : Hid (fewR rs xs = fewOf (firstFrom (meetAll (rs.map (rowOf xs))) xs.length (xs.length + 1) 0)) := by unfold Hid fewR; rw [if_pos ⟨r, z⟩]
      generalize fewR rs xs = res at HF ⊢
      rw [r] at hI
      rw [z] at hJ
      have HI := Lib.hid hI; clear hI
      have h60 := ridersB_len r
      have Hr := Lib.hid (ridersB_all r); clear r
      have h12 := sizesB_len z
      have Hz := Lib.hid z; clear z
      have HRow : Hid (∀ k t, rs[k]? = some t → (rs.map (rowOf xs))[k]? = some (rowOf xs t)) := fun k t h => by rw [List.getElem?_map, h]; rfl
      have HBd : Hid (∀ r ∈ rs.map (rowOf xs), ∀ x ∈ r, 0 ≤ x ∧ x < (xs.length : Int)) := fun r hr => by
        obtain ⟨q, _, rfl⟩ := List.mem_map.1 hr
        exact rowOf_nat
      have hl1 : (rs.map (rowOf xs)).length ≤ rs.length := by rw [List.length_map]; exact Nat.le_refl _
      have hl2 : rs.length ≤ (rs.map (rowOf xs)).length := by rw [List.length_map]; exact Nat.le_refl _
      generalize rs.map (rowOf xs) = rows at HF HRow HBd hl1 hl2
      go_enter Try.func45, Try.ntmps45
      go_wp2_with fail
      refine HI.out.mono ?_
      rintro e w1 ⟨rfl, hb1⟩
      go_wp2_with fail
      refine (hJ.out w1 (hs.next hb1)).mono ?_
      rintro e w2 ⟨rfl, hb2⟩
      have hb02 := bthen hb1 hb2
      clear hb1 hb2
      go_wp2_with fail
      go_loopw [6, 26] (fun out i wr => ∃ (k : Nat) (A' : Option Addr) (c' : Nat) (ms : List Int), k ≤ rs.length ∧ i = .int .i64 k ∧ out = .slice A' ms.length c' ∧ ms.length ≤ k ∧ Hid (ms = (rows.take k).map mI) ∧ Own wr w.heap.size 3 1 nC A' c' ms ∧ Below w.heap.size w wr) (fun _ i _ => rs.length - (intOf i).toNat)
      case atStart => exact ⟨0, none, 0, [], Nat.zero_le _, rfl, rfl, Nat.le_refl _, rfl, Own.nil, hb02⟩
      case round =>
        obtain ⟨k, A', c', ms, hk, rfl, rfl, hmk, Hms, hown, hb⟩ := hrel
        have HO := Lib.hid hown; clear hown
        by_cases hlt : k < rs.length
        · have hx : rs[k]? = some rs[k] := List.getElem?_eq_getElem hlt
          obtain ⟨b, o, rfl, hB, h0, h1, h2⟩ := (hr.below hb).at3 hx rfl
          have Ht := Lib.hid (Hr.out _ (List.mem_of_getElem? hx))
          have HQ := Lib.hid (HRow.out k _ hx)
          generalize rs[k] = t at h0 h1 h2 Ht HQ
          clear hx
          have c0 : (wr.alloc (.cells #[.int .i64 t.1, .int .i64 t.2.1, .int .i64 t.2.2] 25)).cell? ⟨wr.heap.size, 0, none⟩ = some (.int .i64 t.1) := by go_simp
          have c1 : (wr.alloc (.cells #[.int .i64 t.1, .int .i64 t.2.1, .int .i64 t.2.2] 25)).cell? ⟨wr.heap.size, 1, none⟩ = some (.int .i64 t.2.1) := by go_simp
          have cz2 : (wr.alloc (.cells #[.int .i64 t.1, .int .i64 t.2.1, .int .i64 t.2.2] 25)).cell? ⟨wr.heap.size, 2, none⟩ = some (.int .i64 t.2.2) := by go_simp
          have hbw := balloc wr (.cells #[.int .i64 t.1, .int .i64 t.2.1, .int .i64 t.2.2] 25)
          have hbs : (wr.alloc (.cells #[.int .i64 t.1, .int .i64 t.2.1, .int .i64 t.2.2] 25)).heap.size = wr.heap.size + 1 := by simp
          go_wp2_with fail
          generalize wr.alloc (.cells #[.int .i64 t.1, .int .i64 t.2.1, .int .i64 t.2.2] 25) = W at c0 c1 cz2 hbw hbs ⊢
          generalize hg0 : wr.heap.size = g0 at c0 c1 cz2 hbs ⊢
          have hbW : Below w.heap.size w W := bthen' hb hbw
          have HOW := Lib.hid (HO.out.keep hbw)
          have hgb := hb.size
          clear HO hb
          go_loopw [9, 32] (fun m i wr2 => ∃ k2 : Nat, k2 ≤ xs.length ∧ i = .int .i64 k2 ∧ m = .int .i64 (maskN (idxTo (suitT t.1 t.2.1 t.2.2) xs k2)) ∧ Below (g0 + 1) W wr2) (fun _ i _ => xs.length - (intOf i).toNat)
          case atStart => exact ⟨0, Nat.zero_le _, rfl, rfl, Below.refl _ _⟩
          case round =>
            obtain ⟨k2, hk2, rfl, rfl, hb2⟩ := hrel
            have hsz2 := hb2.size
            by_cases hlt2 : k2 < xs.length
            · have hx : xs[k2]? = some xs[k2] := List.getElem?_eq_getElem hlt2
              obtain ⟨b2, o2, rfl, hB2, q0, q1, q2, q3⟩ := (hs.below (hbW.trans (hb2.mono (by omega)))).at4 hx rfl
              have Hx := Lib.hid hx
              generalize xs[k2] = y at q0 q1 q2 q3 hx Hx
              clear hx
              have Hc : Hid (∀ v : World, Calls Try.prog 61 #[.agg #[.int .i64 t.1, .int .i64 t.2.1, .int .i64 t.2.2], .agg #[.string y.1, .int .i64 y.2.1, .int .i64 y.2.2.1, .int .i64 y.2.2.2]] v fun e w' => e = .returned (.bool (suitT t.1 t.2.1 t.2.2 y)) ∧ Below v.heap.size v w') := fun v => doesSuit_any t.1 t.2.1 t.2.2 Ht.out y.1 y.2.1 y.2.2.1 y.2.2.2 (sizesB_ok Hz.out Hx.out) v
              have HD := Lib.hid (show (suitT t.1 t.2.1 t.2.2 y = true ∧ maskN (idxTo (suitT t.1 t.2.1 t.2.2) xs (k2 + 1)) = maskN (idxTo (suitT t.1 t.2.1 t.2.2) xs k2) ||| 2 ^ k2) ∨ (suitT t.1 t.2.1 t.2.2 y = false ∧ maskN (idxTo (suitT t.1 t.2.1 t.2.2) xs (k2 + 1)) = maskN (idxTo (suitT t.1 t.2.1 t.2.2) xs k2)) by
                by_cases e : suitT t.1 t.2.1 t.2.2 y = true
                · exact Or.inl ⟨e, by rw [idxTo_yes Hx.out e, maskN_snoc, Int.toNat_natCast]⟩
                · exact Or.inr ⟨by simpa using e, by rw [idxTo_no Hx.out (by simpa using e)]⟩)
              have hp : maskN (idxTo (suitT t.1 t.2.1 t.2.2) xs k2) < 4096 := by
                have := maskN_small (n := 12) (b := idxTo (suitT t.1 t.2.1 t.2.2) xs k2) fun x hx => by
                  obtain ⟨j, _, h1, h2, _⟩ := idxTo_mem hx
                  omega
                omega
              have hsh := shl_one (k := k2) (by omega)
              have hpw : 2 ^ k2 < 4096 := by
                have := Nat.pow_lt_pow_right (a := 2) (by omega) (show k2 < 12 by omega)
                omega
              have hor := or_i64 hp hpw
              rw [← hsh] at hor
              have Hor := Lib.hid hor
              clear hor hsh hpw hp
              generalize maskN (idxTo (suitT t.1 t.2.1 t.2.2) xs k2) = p at HD Hor ⊢
              generalize suitT t.1 t.2.1 t.2.2 y = st at HD Hc
              clear Hx
              have e0 : wr.cell? ⟨g0, 0, none⟩ = some (.int .i64 t.1) := (hb2.cell (p := ⟨g0, 0, none⟩) (by simp)).trans c0
              have e1 : wr.cell? ⟨g0, 1, none⟩ = some (.int .i64 t.2.1) := (hb2.cell (p := ⟨g0, 1, none⟩) (by simp)).trans c1
              have e2 : wr.cell? ⟨g0, 2, none⟩ = some (.int .i64 t.2.2) := (hb2.cell (p := ⟨g0, 2, none⟩) (by simp)).trans cz2
              have hgw : g0 < wr.heap.size := World.block_lt_of_cell? wr _ e0
              go_wp2_with fail
              refine (Hc.out _).mono ?_
              rintro e w3 ⟨rfl, hb3⟩
              have hbb := bthen' (bthen' hb2 (balloc _ (.cells #[.string y.1, .int .i64 y.2.1, .int .i64 y.2.2.1, .int .i64 y.2.2.2] 27))) hb3
              obtain ⟨hcc, hff⟩ := bcell hb3
              clear hb3 q0 q1 q2 q3 e0 e1 e2 hb2
              cases st
              case false =>
                go_wp2_with fail
                rcases HD.out with ⟨e, _⟩ | ⟨_, e⟩
                · cases e
                · exact ⟨⟨k2 + 1, by omega, by go_num, by rw [e], hbb⟩, by simp [intOf]; omega⟩
              case true =>
                go_wp2_with fail
                rcases HD.out with ⟨_, e⟩ | ⟨e, _⟩
                · exact ⟨⟨k2 + 1, by omega, by go_num, by rw [e, ← Hor.out], hbb⟩, by simp [intOf]; omega⟩
                · cases e
            · obtain rfl : k2 = xs.length := by omega
              have HE : Hid (rowOf xs t = idxTo (suitT t.1 t.2.1 t.2.2) xs xs.length) := rfl
              have HZ := Lib.hid (maskN_zero (b := rowOf xs t) fun x hx => (rowOf_nat x hx).1)
              have HN : Hid (rowOf xs t = [] → res = ([], 4)) := fun h => by
                rw [HF.out, firstFrom_none (meetAll_none (by rw [h] at HQ; exact List.mem_of_getElem? HQ.out))]
                rfl
              have HSn : Hid ((rows.take k).map mI ++ [(maskN (rowOf xs t) : Int)] = (rows.take (k + 1)).map mI) := by
                unfold Hid
                obtain ⟨hq1, hq2⟩ := List.getElem?_eq_some_iff.1 HQ.out
                rw [List.take_succ_eq_append_getElem hq1, List.map_append, hq2]
                rfl
              rw [← HE.out]
              have hbb : Below w.heap.size w wr := hbW.trans (hb2.mono (by omega))
              have HO2 := Lib.hid (HOW.out.keep (by rw [hbs]; exact hb2))
              have hbase : w.heap.size ≤ wr.heap.size := hbb.size
              clear HOW hb2 c0 c1 cz2 HE HQ
              by_cases hz : maskN (rowOf xs t) = 0
              · have HN2 := Lib.hid (HN.out (HZ.out.1 hz))
                rw [hz]
                clear hz HN HZ HSn
                go_wp2_with fail
                go_ret2
                exact ⟨none, 0, by rw [HN2.out]; rfl, by rw [HN2.out]; exact flat_nil, by rw [HN2.out]; exact Nat.le_refl _, hbb⟩
              · clear HN HZ
                generalize maskN (rowOf xs t) = p at hz HSn ⊢
                go_wp2_with (at_builtin; refine wpList_append_el rfl _ _ _ rfl w.heap.size 3 (.int .i64 0) 1 8 Try.underlying103 infoInt rfl (by omega) (by omega) nC ms (p : Int) A' c' rfl (HO2.out.keep (balloc _ _)) wr.heap.size _ rfl rfl (one_cell (by go_simp)) (by simp [nC]; rfl) (by omega) (by simp; omega) ?_)
                intro A4 c4 w4 hown4 _ hb4
                have HO4 := Lib.hid hown4; clear hown4
                go_wp2_with fail
                refine ⟨⟨k + 1, A4, c4, ms ++ [(p : Int)], by omega, by go_num, by simp, by simp; omega, ?_, HO4.out, (hbb.alloc hbase _).trans hb4⟩, by simp [intOf]; omega⟩
                unfold Hid
                rw [Hms.out]
                exact HSn.out
        · have HM : Hid (ms = rows.map mI) := by
            unfold Hid
            rw [Hms.out, List.take_of_length_le (by omega)]
          have hml : ms.length ≤ rows.length := by rw [HM.out, List.length_map]; exact Nat.le_refl _
          have hml2 : rows.length ≤ ms.length := by rw [HM.out, List.length_map]; exact Nat.le_refl _
          have HRd : Hid (Rd wr wr.heap.size 1 nC A' (rows.map mI)) := by
            unfold Hid
            rw [← HM.out]
            exact (HO.out.flat (fun _ => rfl)).rd
          clear Hms HO
          have HLn : Hid (rows.length = ms.length) := by
            unfold Hid
            rw [HM.out, List.length_map]
          go_wp2_with fail
          go_loopw [12] (fun x wr2 => ∃ (f k : Nat), f + k = xs.length + 1 ∧ x = .int .i64 k ∧ Hid (firstFrom (meetAll rows) xs.length (xs.length + 1) 0 = firstFrom (meetAll rows) xs.length f k) ∧ Hid (Rd wr2 wr2.heap.size 1 nC A' (rows.map mI)) ∧ Below w.heap.size w wr2) (fun x _ => xs.length + 1 - (intOf x).toNat)
          case atStart => exact ⟨xs.length + 1, 0, rfl, rfl, rfl, HRd, hb⟩
          case round =>
            obtain ⟨f, k, hfk, rfl, HE, HRd2, hb3⟩ := hrel
            by_cases hlt : k ≤ xs.length
            · obtain ⟨f', rfl⟩ : ∃ q, f = q + 1 := ⟨f - 1, by omega⟩
              have HC : Hid (Calls Try.prog 93 #[.slice A' rows.length c', .int .i64 xs.length, .int .i64 0, .int .i64 k, .int .i64 0] wr fun e w' => e = .returned (.int .i64 (codeOf ((combs xs.length 0 k []).find? (meetAll rows)))) ∧ wr = w') :=
                choose_any A' c' xs.length h12 rows HBd.out wr HRd2.out (by omega) (xs.length + 1) xs.length 0 k [] (by omega) (by omega) (by omega) (UpTo.nil 0)
              rw [HLn.out] at HC
              have HUp : Hid (∀ r, (combs xs.length 0 k []).find? (meetAll rows) = some r → UpTo xs.length r) := fun r h => by
                have := (combs_up xs.length 0 k [] r (UpTo.nil 0) (List.mem_of_find?_eq_some h)).1
                rwa [Nat.zero_add] at this
              have HHit : Hid (∀ r, (combs xs.length 0 k []).find? (meetAll rows) = some r → res = (r, 0)) := fun r h => by
                rw [HF.out, HE.out, firstFrom_hit h]
                rfl
              have HMiss : Hid ((combs xs.length 0 k []).find? (meetAll rows) = none → firstFrom (meetAll rows) xs.length (xs.length + 1) 0 = firstFrom (meetAll rows) xs.length f' (k + 1)) := fun h => by
                rw [HE.out, firstFrom_miss h]
              generalize (combs xs.length 0 k []).find? (meetAll rows) = fd at HC HUp HHit HMiss
              go_wp2_with fail
              refine HC.out.mono ?_
              rintro x w' ⟨rfl, rfl⟩
              cases fd with
              | none =>
                have ec : codeOf none = -1 := rfl
                rw [ec]
                have HE2 := Lib.hid (HMiss.out rfl)
                clear HE ec HMiss HHit HUp HC
                go_wp2_with fail
                exact ⟨⟨f', k + 1, by omega, by go_num, HE2.out, HRd2.out, hb3⟩, by simp [intOf]; omega⟩
              | some r =>
                have ec : codeOf (some r) = ((maskN r : Nat) : Int) := rfl
                rw [ec]
                have HR := Lib.hid (HHit.out r rfl)
                have HU := Lib.hid (HUp.out r rfl)
                have hp : maskN r < 4096 := by
                  have := maskN_small (n := 12) fun x hx => by
                    obtain ⟨q, h1, h2⟩ := HU.out.lt x hx
                    omega
                  omega
                have HO1 : Hid (∀ j, (maskN r &&& 2 ^ j = 0) ↔ hasI r j = false) := fun j => maskN_one (fun x hx => by
                  obtain ⟨q, h1, h2⟩ := HU.out.lt x hx
                  omega) j
                clear HE ec HMiss HHit HUp HC HBd
                generalize maskN r = p at hp HO1 ⊢
                go_wp2_with fail
                go_loopw [14, 67] (fun out i wr2 => ∃ (k2 : Nat) (A2 : Option Addr) (c2 : Nat), k2 ≤ xs.length ∧ i = .int .i64 k2 ∧ out = .slice A2 (bitsTo (hasI r) k2).length c2 ∧ Own wr2 w.heap.size 2 1 nC A2 c2 (bitsTo (hasI r) k2) ∧ Below w.heap.size w wr2) (fun _ i _ => xs.length - (intOf i).toNat)
                case atStart => exact ⟨0, none, 0, Nat.zero_le _, rfl, rfl, Own.nil, hb3⟩
                case round =>
                  obtain ⟨k2, A2, c2, hk2, rfl, rfl, hown2, hb4⟩ := hrel
                  have HO2 := Lib.hid hown2; clear hown2
                  by_cases hlt2 : k2 < xs.length
                  · have hsh := shl_one (k := k2) (by omega)
                    have hpw : 2 ^ k2 < 4096 := by
                      have := Nat.pow_lt_pow_right (a := 2) (by omega) (show k2 < 12 by omega)
                      omega
                    have hand := and_i64 hp hpw
                    rw [← hsh] at hand
                    have hmeet := HO1.out k2
                    have HY : Hid (hasI r k2 = true → bitsTo (hasI r) (k2 + 1) = bitsTo (hasI r) k2 ++ [(k2 : Int)]) := fun h => bitsTo_yes h
                    have HNo : Hid (hasI r k2 = false → bitsTo (hasI r) (k2 + 1) = bitsTo (hasI r) k2) := fun h => bitsTo_no h
                    have hle := bitsTo_le (hasI r) k2
                    generalize bitsTo (hasI r) k2 = l1 at HO2 HY HNo hle ⊢
                    generalize hasI r k2 = hs1 at hmeet HY HNo
                    clear hsh hpw
                    have hbase : w.heap.size ≤ wr.heap.size := hb4.size
                    cases hs1 with
                    | false =>
                      have hz := hmeet.2 rfl
                      rw [hz] at hand
                      have HN2 := Lib.hid (HNo.out rfl)
                      clear hmeet hz HY HNo
                      go_wp2_with fail
                      exact ⟨⟨k2 + 1, A2, c2, by omega, by go_num, by rw [HN2.out], by rw [HN2.out]; exact HO2.out, hb4⟩, by simp [intOf]; omega⟩
                    | true =>
                      have hz : ¬ (p &&& 2 ^ k2 = 0) := fun e => by have := hmeet.1 e; cases this
                      have HY2 := Lib.hid (HY.out rfl)
                      clear HY HNo hmeet
                      generalize p &&& 2 ^ k2 = qp at hand hz
                      have hz2 : ¬ ((qp : Nat) : Int) = 0 := by omega
                      rw [← hand] at hz2
                      clear hand hz
                      go_wp2_with (at_builtin; refine wpList_append_el rfl _ _ _ rfl w.heap.size 2 (.int .i64 0) 1 8 Try.underlying38 infoInt64 rfl (by omega) (by omega) nC l1 (k2 : Int) A2 c2 rfl (HO2.out.keep (balloc _ _)) wr.heap.size _ rfl rfl (one_cell (by go_simp)) (by simp [nC]; rfl) (by omega) (by simp; omega) ?_)
                      intro A5 c5 w5 hown5 _ hb5
                      have HO5 := Lib.hid hown5; clear hown5
                      go_wp2_with fail
                      exact ⟨⟨k2 + 1, A5, c5, by omega, by go_num, by rw [HY2.out]; simp, by rw [HY2.out]; exact HO5.out, (hb4.alloc hbase _).trans hb5⟩, by simp [intOf]; omega⟩
                  · obtain rfl : k2 = xs.length := by omega
                    have HE2 : Hid (bitsTo (hasI r) xs.length = r) := HU.out.symm
                    rw [HE2.out] at HO2 ⊢
                    go_wp2_with fail
                    go_ret2
                    exact ⟨A2, c2, by rw [HR.out]; rfl, by rw [HR.out]; exact HO2.out.flat (fun _ => rfl), by rw [HR.out]; exact HO2.out.cap, hb4⟩
            · obtain rfl : k = xs.length + 1 := by omega
              obtain rfl : f = 0 := by omega
              have HR : Hid (res = ([], 4)) := by
                unfold Hid
                rw [HF.out, HE.out]
                rfl
              clear HE
              go_wp2_with fail
              go_ret2
              exact ⟨none, 0, by rw [HR.out]; rfl, by rw [HR.out]; exact flat_nil, by rw [HR.out]; exact Nat.le_refl _, hb3⟩
    · have HF : Hid (fewR rs xs = ([], 1)) := by unfold Hid fewR; rw [if_neg (fun hh => z hh.2)]
      generalize fewR rs xs = res at HF ⊢
      rw [r] at hI
      rw [eq_false_of_ne_true z] at hJ
      have HI := Lib.hid hI; clear hI
      clear r z
      go_enter Try.func45, Try.ntmps45
      go_wp2_with fail
      refine HI.out.mono ?_
      rintro e w1 ⟨rfl, hb1⟩
      go_wp2_with fail
      refine (hJ.out w1 (hs.next hb1)).mono ?_
      rintro e w2 ⟨rfl, hb2⟩
      go_wp2_with fail
      go_ret2
      exact ⟨none, 0, by rw [HF.out]; rfl, by rw [HF.out]; exact flat_nil, by rw [HF.out]; exact Nat.le_refl _, bthen hb1 hb2⟩
  · have HF : Hid (fewR rs xs = ([], 1)) := by unfold Hid fewR; rw [if_neg (fun hh => r hh.1)]
    generalize fewR rs xs = res at HF ⊢
    rw [eq_false_of_ne_true r] at hI
    have HI := Lib.hid hI; clear hI
    clear r
    go_enter Try.func45, Try.ntmps45
    go_wp2_with fail
    refine HI.out.mono ?_
    rintro e w1 ⟨rfl, hb1⟩
    go_wp2_with fail
    go_ret2
    exact ⟨none, 0, by rw [HF.out]; rfl, by rw [HF.out]; exact flat_nil, by rw [HF.out]; exact Nat.le_refl _, hb1⟩

end Go.Proofs.Ytfdnpobppelhaaa
