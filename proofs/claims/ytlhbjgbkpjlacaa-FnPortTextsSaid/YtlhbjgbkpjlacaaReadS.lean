/- DERIVED. Texts split and numbers read by the reference. By program (greads.py). -/
import Derived.Test.YtlhbjgbkpjlacaaReadN
import Derived.Test.YtlhbjgbkpjlacaaResInt
namespace Go.Proofs.Ytlhbjgbkpjlacaa
set_option maxRecDepth 100000
open Go.RowKit

def GivesNumB (s : ByteArray) (w : World) (e : Ending) (w' : World) : Prop := ∃ (n : Int) (ok : Bool), e = .returned (.tuple #[.int .i64 n, .bool ok]) ∧ ReadNum s n ok ∧ Below w.heap.size w w'
theorem str_beq {a b : ByteArray} : (a.toList == b.toList) = decide (a = b) := by
  by_cases h : a = b
  · subst h
    simp
  · have : a.toList ≠ b.toList := fun e => h (str_eq.1 e)
    rw [decide_eq_false h]
    exact beq_eq_false_iff_ne.2 this
set_option maxHeartbeats 1000000 in
theorem l01Split_any (s : ByteArray) (b : UInt8) (bn : Int) (hbn : bn = (b.toNat : Int)) (hs : s.size ≤ 1048576) (w : World) :
    Calls Try.prog 82 #[.string s, .int .u8 bn] w (GivesOwn w 9 1 tC (splitT s b)) := by
  subst hbn
  go_enter Try.func82, Try.ntmps82
  go_wp2_with fail
  go_loopw [5, 6, 7] (fun out f i wr => ∃ (A' : Option Addr) (c' : Nat) (outs : List ByteArray) (fr k : Nat), k ≤ s.size + 1 ∧ fr ≤ s.size + 1 ∧ outs.length ≤ s.size + 1 ∧ out = .slice A' outs.length c' ∧ f = .int .i64 fr ∧ i = .int .i64 k ∧ Hid (k ≤ s.size → SplitAt s b outs fr k) ∧ Hid (s.size < k → outs = splitT s b) ∧ Own wr w.heap.size 9 1 tC A' c' outs ∧ Below w.heap.size w wr) (fun _ _ i _ => s.size + 1 - (intOf i).toNat)
  case atStart => exact ⟨some ⟨w.heap.size, 0, none⟩, 0, [], 0, 0, Nat.zero_le _, Nat.zero_le _, Nat.zero_le _, rfl, rfl, rfl, fun _ => SplitAt.zero s b, (fun h => absurd h (by omega)), Own.made _ (Nat.le_refl _) rfl, balloc w _⟩
  case round =>
    obtain ⟨A', c', outs, fr, k, hk, hfr, hol, rfl, rfl, rfl, Hsp, Hdn, hown, hb⟩ := hrel
    have hbs := hb.size
    have HO := Lib.hid hown; clear hown
    by_cases hlt : k < s.size
    · have hsp := Hsp.out (by omega)
      have hfk := hsp.le
      have hol2 := hsp.len
      by_cases hc : s[k] = b
      · have HS := Lib.hid (hsp.hit hlt hc); clear hsp
        have hcc : ((s[k].toNat : Int) == (b.toNat : Int)) = true := by rw [hc]; simp
        clear hc
        go_wp2_with (at_builtin; refine wpList_append_el rfl _ _ _ rfl (w.heap.size) 9 (.string ⟨#[]⟩) 1 16 Try.underlying58 infoString rfl (by omega) (by omega) tC outs (s.extract fr k) A' c' rfl (HO.out.keep (balloc _ _)) (wr.heap.size) _ rfl rfl (one_cell (by go_simp)) (by simp [tC]; rfl) (by omega) (by simp; omega) ?_)
        intro A2 c2 w4 hown4 _ hb4
        have HO4 := Lib.hid hown4; clear hown4
        go_wp2_with fail
        exact ⟨⟨A2, c2, outs ++ [s.extract fr k], k + 1, k + 1, by omega, by omega, by simp; omega, by simp, by go_num, by go_num, fun _ => HS.out, (fun h => absurd h (by omega)), HO4.out, (hb.trans (balloc _ _ |>.mono hbs)).trans hb4⟩, by simp [intOf]; omega⟩
      · have HS := Lib.hid (hsp.no_hit hlt hc); clear hsp
        have hcc : ((s[k].toNat : Int) == (b.toNat : Int)) = false := by simp; intro e; exact hc (UInt8.toNat_inj.1 (by omega))
        clear hc
        go_wp2_with fail
        exact ⟨⟨A', c', outs, fr, k + 1, by omega, hfr, hol, rfl, rfl, by go_num, fun _ => HS.out, (fun h => absurd h (by omega)), HO.out, hb⟩, by simp [intOf]; omega⟩
    · by_cases hke : k = s.size
      · subst hke
        have hsp := Hsp.out (Nat.le_refl _)
        have hfk := hsp.le
        have hol2 := hsp.len
        have HS := Lib.hid hsp.done; clear hsp
        go_wp2_with (at_builtin; refine wpList_append_el rfl _ _ _ rfl (w.heap.size) 9 (.string ⟨#[]⟩) 1 16 Try.underlying58 infoString rfl (by omega) (by omega) tC outs (s.extract fr s.size) A' c' rfl (HO.out.keep (balloc _ _)) (wr.heap.size) _ rfl rfl (one_cell (by go_simp)) (by simp [tC]; rfl) (by omega) (by simp; omega) ?_)
        intro A2 c2 w4 hown4 _ hb4
        have HO4 := Lib.hid hown4; clear hown4
        go_wp2_with fail
        exact ⟨⟨A2, c2, outs ++ [s.extract fr s.size], s.size + 1, s.size + 1, by omega, by omega, by (first | (simp; done) | (simp; omega)), by simp, by (first | rfl | go_num), by (first | rfl | go_num), (fun h => absurd h (by omega)), fun _ => HS.out, HO4.out, (hb.trans (balloc _ _ |>.mono hbs)).trans hb4⟩, by first | (simp [intOf]; done) | (simp [intOf]; omega)⟩
      · have hle : ¬ (k : Int) ≤ (s.size : Int) := by omega
        have HD := Lib.hid (Hdn.out (by omega))
        clear hke
        go_wp2_with fail
        go_ret
        rw [← HD.out]
        exact ⟨A', c', rfl, (HO.out.flat fun _ => rfl), HO.out.cap, hb⟩

set_option maxHeartbeats 1000000 in
theorem l01Value_any (s : ByteArray) (hs : s.size ≤ 1048576) (w : World) : Calls Try.prog 160 #[.string s] w (GivesNumB s w) := by
  by_cases h0 : s.size = 0
  · skip
    go_enter Try.func160, Try.ntmps160
    go_wp2_with fail
    all_goals (go_ret2; exact ⟨0, false, rfl, ReadNum.bad fun m hm e => by have := (dec_size hm e).1; omega, Below.refl _ _⟩)
  · have hp : ¬ (s.size : Int) < 1 := by omega
    by_cases hb : 13 < (s.size : Int)
    · skip
      go_enter Try.func160, Try.ntmps160
      go_wp2_with fail
      all_goals (go_ret2; exact ⟨0, false, rfl, ReadNum.bad fun m hm e => by have := (dec_size hm e).2; omega, Below.refl _ _⟩)
    · clear h0
      have HDone : Hid (s.data.toList.all digB = true → 0 ≤ valL s.data.toList ∧ valL s.data.toList < 100000000000000000 ∧ ReadNum s (valL s.data.toList) (decide (S (decL (valL s.data.toList).toNat) = s))) := fun h => by
        have h1 := valL_bd17 (l := s.data.toList) (by have := take_len (s := s) (Nat.le_refl _); rw [take_whole] at this; omega) h
        refine ⟨h1.1, h1.2, by omega, by omega, fun m hm e => ?_⟩
        have h2 : valL s.data.toList = (m : Int) := by rw [e, S_data, valL_dec]
        refine ⟨h2, decide_eq_true ?_⟩
        rw [h2, Int.toNat_natCast, ← e]
      have HBad : Hid (∀ k (h : k < s.size), digB s[k] = false → ReadNum s 0 false) := fun k h e => ReadNum.bad (not_digit h e)
      go_enter Try.func160, Try.ntmps160
      go_wp2_with fail
      go_loopw [4, 5] (fun x i wr => ∃ k : Nat, k ≤ s.size ∧ i = .int .i64 k ∧ x = .int .i64 (valL (s.data.toList.take k)) ∧ (s.data.toList.take k).all digB = true ∧ w = wr) (fun _ i _ => s.size - (intOf i).toNat)
      case atStart => exact ⟨0, Nat.zero_le _, rfl, rfl, rfl, rfl⟩
      case round =>
        obtain ⟨k, hk, rfl, rfl, hall, rfl⟩ := hrel
        have Ha := Lib.hid hall; clear hall
        by_cases hlt : k < s.size
        · have hbd := valL_bd17 (l := s.data.toList.take k) (by rw [take_len hk]; omega) Ha.out
          cases hd : digB s[k] with
          | false =>
            have HB := Lib.hid (HBad.out k hlt hd)
            have h2 := digB_no hd
            clear hd
            rcases h2 with h2 | h2
            · go_wp2_with fail
              go_ret2
              exact ⟨0, false, rfl, HB.out, Below.refl _ _⟩
            · have h3 : ¬ (s[k].toNat : Int) < 48 := by omega
              go_wp2_with fail
              go_ret2
              exact ⟨0, false, rfl, HB.out, Below.refl _ _⟩
          | true =>
            have hdt := digB_true hd
            have HN := Lib.hid (dig_next hlt Ha.out hd)
            clear hd
            generalize valL (s.data.toList.take k) = q at hbd HN ⊢
            generalize hck : s[k] = c at hdt HN ⊢
            have h3 : ¬ (c.toNat : Int) < 48 := by omega
            have h4 : ¬ 57 < (c.toNat : Int) := by omega
            go_wp2_with fail
            exact ⟨⟨k + 1, by omega, by go_num, by rw [HN.out.2], HN.out.1, trivial⟩, by simp [intOf]; omega⟩
        · obtain rfl : k = s.size := by omega
          rw [take_whole] at Ha ⊢
          have hbd := valL_bd18 (l := s.data.toList) (by have := take_len (s := s) (Nat.le_refl _); rw [take_whole] at this; omega) Ha.out
          obtain ⟨v0, v1, hrn⟩ := HDone.out Ha.out
          have HR := Lib.hid hrn
          clear hrn HDone hbd
          generalize valL s.data.toList = q at v0 v1 HR ⊢
          have hbq : q.toNat < 10 ^ (17 + 1) := by
            have : (10 : Nat) ^ 18 = 1000000000000000000 := by decide
            omega
          have HDc := Lib.hid (l01Dec_any 17 q v0 (by omega) hbq w)
          clear hbq
          generalize S (decL q.toNat) = ds at HDc HR
          go_wp2_with fail
          refine HDc.out.mono ?_
          rintro e w2 ⟨rfl, hb2⟩
          go_wp2_with fail
          go_ret2
          refine ⟨q, decide (ds = s), ?_, HR.out, hb2⟩
          rw [← str_beq]
          rfl

set_option maxHeartbeats 1000000 in
theorem l01Signed_any (s : ByteArray) (hs : s.size ≤ 1048576) (w : World) : Calls Try.prog 143 #[.string s] w (GivesNumB s w) := by
  have HV : Hid (∀ d : ByteArray, d.size ≤ 1048576 → Calls Try.prog 160 #[.string d] w (GivesNumB d w)) := fun d hd => l01Value_any d hd w
  by_cases h0 : s.size = 0
  · have hp : ¬ 0 < (s.size : Int) := by omega
    go_enter Try.func143, Try.ntmps143
    go_wp2_with fail
    refine (HV.out s hs).mono ?_
    rintro e w2 ⟨n, ok, rfl, hrn, hb⟩
    have HR := Lib.hid hrn; clear hrn
    go_wp2_with fail
    go_ret2
    exact ⟨n, ok, rfl, HR.out, hb⟩
  · have hp : 0 < s.size := by omega
    by_cases hc : s[0] = 45
    · have hcc : ((s[0].toNat : Int) == 45) = true := by rw [hc]; rfl
      have HN := Lib.hid (not_minus hp hc)
      clear hc h0
      go_enter Try.func143, Try.ntmps143
      go_wp2_with fail
      refine (HV.out (s.extract 1 s.size) (by simp; omega)).mono ?_
      rintro e w2 ⟨n, ok, rfl, hrn, hb⟩
      have h1 := hrn.lo
      have h2 := hrn.hi
      clear hrn
      cases ok with
      | false =>
        go_wp2_with fail
        all_goals (go_ret2; exact ⟨-n, _, rfl, ReadNum.any (by omega) (by omega) HN.out, hb⟩)
      | true =>
        go_wp2_with fail
        all_goals (go_ret2; exact ⟨-n, _, rfl, ReadNum.any (by omega) (by omega) HN.out, hb⟩)
    · have hcc : ((s[0].toNat : Int) == 45) = false := by
        rw [beq_eq_false_iff_ne]
        intro e
        refine hc (UInt8.toNat_inj.1 ?_)
        have : (45 : UInt8).toNat = 45 := rfl
        omega
      clear hc h0
      go_enter Try.func143, Try.ntmps143
      go_wp2_with fail
      refine (HV.out s hs).mono ?_
      rintro e w2 ⟨n, ok, rfl, hrn, hb⟩
      have HR := Lib.hid hrn; clear hrn
      go_wp2_with fail
      go_ret2
      exact ⟨n, ok, rfl, HR.out, hb⟩

/-- Numbers read one by one, or one of them not. -/
def NumsOf (ws : List ByteArray) (ns : List Int) (ok : Bool) : Prop :=
  (ok = true ∧ ns.length = ws.length ∧ ∀ (i : Nat) (t : ByteArray) (n : Int), ws[i]? = some t → ns[i]? = some n → ReadNum t n true) ∨ (ok = false ∧ ns = [] ∧ ∃ t ∈ ws, ∃ n, ReadNum t n false)
def GivesNums (ws : List ByteArray) (w : World) (e : Ending) (w' : World) : Prop := ∃ (A : Option Addr) (c : Nat) (ns : List Int) (ok : Bool), e = .returned (.tuple #[.slice A ns.length c, .bool ok]) ∧ Rd w' w'.heap.size 1 nC A ns ∧ NumsOf ws ns ok ∧ Below w.heap.size w w'
set_option maxHeartbeats 1000000 in
theorem l01Numbers_any (A : Option Addr) (c : Nat) (ws : List ByteArray) (w : World) (hr : Rd w w.heap.size 1 tC A ws) (hm : ws.length ≤ 1048577) (hg : ∀ t ∈ ws, t.size ≤ 1048576) :
    Calls Try.prog 81 #[.slice A ws.length c] w (GivesNums ws w) := by
  have Hg := Lib.hid hg; clear hg
  go_enter Try.func81, Try.ntmps81
  go_wp2_with fail
  go_loopw [4, 5] (fun out i wr => ∃ (k : Nat) (A' : Option Addr) (c' : Nat) (ns : List Int), k ≤ ws.length ∧ i = .int .i64 k ∧ out = .slice A' ns.length c' ∧ ns.length ≤ k ∧ k ≤ ns.length ∧ Hid (∀ (i : Nat) (t : ByteArray) (n : Int), ws[i]? = some t → ns[i]? = some n → ReadNum t n true) ∧ Own wr w.heap.size 2 1 nC A' c' ns ∧ Below w.heap.size w wr) (fun _ i _ => ws.length - (intOf i).toNat)
  case atStart => exact ⟨0, some ⟨w.heap.size, 0, none⟩, 0, [], Nat.zero_le _, rfl, rfl, Nat.le_refl _, Nat.le_refl _, (fun _ _ _ _ h => by simp at h), Own.made _ (Nat.le_refl _) rfl, balloc w _⟩
  case round =>
    obtain ⟨k, A', c', ns, hk, rfl, rfl, hn1, hn2, Hns, hown, hb⟩ := hrel
    have HO := Lib.hid hown; clear hown
    have hbs := hb.size
    by_cases hlt : k < ws.length
    · have hx : ws[k]? = some ws[k] := List.getElem?_eq_getElem hlt
      obtain ⟨g, o, rfl, hB, h0⟩ := (hr.below hb).at1 hx rfl
      rw [Nat.mul_one] at h0
      have HC := Lib.hid (l01Signed_any ws[k] (Hg.out _ (List.getElem_mem hlt)) wr)
      have Hm := Lib.hid (List.getElem_mem hlt)
      generalize ws[k] = t at h0 hx HC Hm
      have Hx := Lib.hid hx; clear hx
      go_wp2_with fail
      refine HC.out.mono ?_
      rintro e w2 ⟨n, ok, rfl, hrn, hb2⟩
      have HR := Lib.hid hrn; clear hrn
      have hb3 := bthen' hb hb2
      cases ok with
      | false =>
        go_wp2_with fail
        go_ret2
        exact ⟨none, 0, [], false, rfl, (fun h => absurd h (by simp)), Or.inr ⟨rfl, rfl, t, Hm.out, n, HR.out⟩, hb3⟩
      | true =>
        have HO2 := Lib.hid (HO.out.keep hb2)
        have hbase : w.heap.size ≤ w2.heap.size := hb3.size
        go_wp2_with (at_builtin; refine wpList_append_el rfl _ _ _ rfl w.heap.size 2 (.int .i64 0) 1 8 Try.underlying49 infoInt64 rfl (by omega) (by omega) nC ns n A' c' rfl (HO2.out.keep (balloc _ _)) w2.heap.size _ rfl rfl (one_cell (by go_simp)) (by simp [nC]; rfl) (by omega) (by simp; omega) ?_)
        intro A4 c4 w4 hown4 _ hb4
        have HO4 := Lib.hid hown4; clear hown4
        have HN4 : Hid (∀ (i : Nat) (t : ByteArray) (m : Int), ws[i]? = some t → (ns ++ [n])[i]? = some m → ReadNum t m true) := fun i t' m h1 h2 => by
          by_cases hi : i < ns.length
          · rw [List.getElem?_append_left hi] at h2
            exact Hns.out i t' m h1 h2
          · have hi2 := (List.getElem?_eq_some_iff.1 h2).1
            simp at hi2
            obtain rfl : i = k := by omega
            rw [Hx.out] at h1
            obtain rfl := Option.some.inj h1
            rw [List.getElem?_append_right (by omega), show i - ns.length = 0 by omega] at h2
            simp at h2
            rw [← h2]
            exact HR.out
        go_wp2_with fail
        exact ⟨⟨k + 1, A4, c4, ns ++ [n], by omega, by go_num, by simp, by simp; omega, by simp; omega, HN4.out, HO4.out, (hb3.alloc hbase _).trans hb4⟩, by simp [intOf]; omega⟩
    · go_wp2_with fail
      go_ret2
      exact ⟨A', c', ns, true, rfl, (HO.out.flat fun _ => rfl).rd, Or.inl ⟨rfl, by omega, Hns.out⟩, hb⟩
end Go.Proofs.Ytlhbjgbkpjlacaa
