/- DERIVED. A port read of its text: the walk of the reference. By program (greadp.py). -/
import Derived.Test.YtlhbjgbkpjlacaaReadP
import Derived.Test.YtlhbjgbkpjlacaaFlPort
import Derived.Test.YtlhbjgbkpjlacaaBlk
import Derived.Deep.RegionLaw
import Derived.Deep.CutRange
import Derived.StillTailTactics
namespace Go.Proofs.Ytlhbjgbkpjlacaa
set_option maxRecDepth 100000
open Go.RowKit

set_option maxHeartbeats 4000000 in
theorem ReadPort_spec (s : ByteArray) (hs : s.size ≤ 1048576) (w : World) : Calls Try.prog 10 #[.string s] w (GivesPort s w) := by
  have hbV := balloc w (.cells #[.int .i64 0, .int .i64 0, .bool false] 23)
  have hB0 : Blk (w.alloc (.cells #[.int .i64 0, .int .i64 0, .bool false] 23)) w.heap.size 23 [.int .i64 0, .int .i64 0, .bool false] := Blk.made w _ _
  have sV : (w.alloc (.cells #[.int .i64 0, .int .i64 0, .bool false] 23)).heap.size = w.heap.size + 1 := by simp
  by_cases h0 : s.size = 0
  · have HR : Hid (IsRead s (0, 0, false) 6) := read_bad fun q _ h => by
      have := read_size q h
      omega
    obtain rfl : s = ⟨#[]⟩ := by
      apply ByteArray.ext
      exact Array.eq_empty_of_size_eq_zero h0
    clear h0
    go_enter Try.func10, Try.ntmps10
    go_upto_region 2 with (fail)
    generalize w.alloc (.cells #[.int .i64 0, .int .i64 0, .bool false] 23) = w1 at hbV hB0 sV ⊢
    generalize hr0 : w.heap.size = r at hB0 hbV sV ⊢
    have d0 := hB0.cell (j := 0) rfl
    have g0 := hB0.frozen 0
    have d1 := hB0.cell (j := 1) rfl
    have g1 := hB0.frozen 1
    have d2 := hB0.cell (j := 2) rfl
    have g2 := hB0.frozen 2
    go_wp2_with fail
    have hX : Blk (((w1.setCell ⟨r, 0, none⟩ (.int .i64 0)).setCell ⟨r, 1, none⟩ (.int .i64 0)).setCell ⟨r, 2, none⟩ (.bool false)) r 23 [.int .i64 0, .int .i64 0, .bool false] := ((hB0.set 0 (.int .i64 0)).set 1 (.int .i64 0)).set 2 (.bool false)
    have u0 := hX.cell (j := 0) rfl
    have u1 := hX.cell (j := 1) rfl
    have u2 := hX.cell (j := 2) rfl
    have hXB : Below r w (((w1.setCell ⟨r, 0, none⟩ (.int .i64 0)).setCell ⟨r, 1, none⟩ (.int .i64 0)).setCell ⟨r, 2, none⟩ (.bool false)) := ((hbV.setCell (p := ⟨r, 0, none⟩) (Nat.le_refl _) _).setCell (p := ⟨r, 1, none⟩) (Nat.le_refl _) _).setCell (p := ⟨r, 2, none⟩) (Nat.le_refl _) _
    refine bodyPost_ret (v := .tuple #[.agg #[.int .i64 0, .int .i64 0, .bool false], .int .i64 6]) (by simp [results, Try.results10, go_sem, u0, u1, u2]) rfl ?_
    exact ⟨0, 0, false, 6, rfl, HR.out, by rw [hr0]; exact hXB⟩
  · have hp : 0 < s.size := by omega
    have hlt : s.size - 1 < s.size := by omega
    have hne : s.toList.isEmpty = false := by
      cases h : s.toList.isEmpty with
      | false => rfl
      | true =>
        have e : s = ⟨#[]⟩ := str_eq.1 ((List.isEmpty_iff.1 h).trans (show (⟨#[]⟩ : ByteArray).toList = [] by rw [ByteArray.toList_eq]).symm)
        rw [e] at hp
        exact absurd hp (by decide)
    have hse : (s.extract 0 (s.size - 1)).size ≤ 1048576 := by simp; omega
    have HSp : Hid (∀ v : World, Calls Try.prog 82 #[.string (s.extract 0 (s.size - 1)), .int .u8 58] v (GivesOwn v 9 1 tC (splitT (s.extract 0 (s.size - 1)) 58))) := fun v => l01Split_any _ 58 58 rfl hse v
    have HBy : Hid (∀ t ∈ splitT (s.extract 0 (s.size - 1)) 58, t.size ≤ 1048576) := fun t h => Nat.le_trans (split_bytes t h) hse
    obtain ⟨pl, hpl⟩ : ∃ pl : Bool, pl = decide (s[s.size - 1] = 112) := ⟨_, rfl⟩
    have hpb : ((s[s.size - 1].toNat : Int) == 112) = pl := by
      rw [hpl]
      by_cases e : s[s.size - 1] = 112
      · rw [decide_eq_true e, e]
        rfl
      · rw [decide_eq_false e, beq_eq_false_iff_ne]
        intro e2
        refine e (UInt8.toNat_inj.1 ?_)
        have : (112 : UInt8).toNat = 112 := rfl
        omega
    have HKey : Hid (∀ (ns : List Int) (ok : Bool), NumsOf (splitT (s.extract 0 (s.size - 1)) 58) ns ok → ∀ q : PortV, portB q.1 q.2.1 = true → S (portT q.1 q.2.1 q.2.2) = s → ok = true ∧ ns = [q.1, q.2.1] ∧ q.2.2 = pl) := fun ns ok R q hq hs => by
      rw [hpl]
      exact read_key2 R hlt q hq hs
    have hwl := splitT_len (s.extract 0 (s.size - 1)) 58
    have hwl2 : (splitT (s.extract 0 (s.size - 1)) 58).length ≤ 1048577 := by omega
    clear h0 hpl hwl
    generalize splitT (s.extract 0 (s.size - 1)) 58 = ws at HSp HBy HKey hwl2
    go_enter Try.func10, Try.ntmps10
    go_wp2_with fail
    generalize w.alloc (.cells #[.int .i64 0, .int .i64 0, .bool false] 23) = V at hbV hB0 sV ⊢
    generalize hr0 : w.heap.size = r at hB0 hbV sV ⊢
    refine (HSp.out V).mono ?_
    rintro e w1 ⟨WA, wc, rfl, fw, hwc, hb1⟩
    have hB1 := hB0.next hb1
    have hW1 : Below r w w1 := hbV.trans (hb1.mono (by omega))
    have HC := Lib.hid (l01Numbers_any WA wc ws w1 fw.rd hwl2 HBy.out)
    have hs1 := hb1.size
    clear fw hbV hB0 hb1 HSp hwc
    go_wp2_with fail
    refine HC.out.mono ?_
    rintro e w2 ⟨NA, nc, ns, ok, rfl, hnr, hno, hb2⟩
    have hB2 := hB1.next hb2
    have hW2 : Below r w w2 := hW1.trans (hb2.mono (by omega))
    have HK := Lib.hid (HKey.out ns ok hno)
    have HNr := Lib.hid hnr
    have hs2 := hb2.size
    clear hB1 hW1 hb2 hno HKey hnr HC
    cases ok with
    | false =>
      have HR : Hid (IsRead s (0, 0, false) 6) := read_bad fun q hq h => by cases (HK.out q hq h).1
      have d0 := hB2.cell (j := 0) rfl
      have g0 := hB2.frozen 0
      have d1 := hB2.cell (j := 1) rfl
      have g1 := hB2.frozen 1
      have d2 := hB2.cell (j := 2) rfl
      have g2 := hB2.frozen 2
      go_wp2_with fail
      have hX : Blk (((w2.setCell ⟨r, 0, none⟩ (.int .i64 0)).setCell ⟨r, 1, none⟩ (.int .i64 0)).setCell ⟨r, 2, none⟩ (.bool false)) r 23 [.int .i64 0, .int .i64 0, .bool false] := ((hB2.set 0 (.int .i64 0)).set 1 (.int .i64 0)).set 2 (.bool false)
      have u0 := hX.cell (j := 0) rfl
      have u1 := hX.cell (j := 1) rfl
      have u2 := hX.cell (j := 2) rfl
      have hXB : Below r w (((w2.setCell ⟨r, 0, none⟩ (.int .i64 0)).setCell ⟨r, 1, none⟩ (.int .i64 0)).setCell ⟨r, 2, none⟩ (.bool false)) := ((hW2.setCell (p := ⟨r, 0, none⟩) (Nat.le_refl _) _).setCell (p := ⟨r, 1, none⟩) (Nat.le_refl _) _).setCell (p := ⟨r, 2, none⟩) (Nat.le_refl _) _
      refine bodyPost_ret (v := .tuple #[.agg #[.int .i64 0, .int .i64 0, .bool false], .int .i64 6]) (by simp [results, Try.results10, go_sem, u0, u1, u2]) rfl ?_
      exact ⟨0, 0, false, 6, rfl, HR.out, by rw [hr0]; exact hXB⟩
    | true =>
      by_cases hn2 : ns.length = 2
      · match ns, hn2 with
        | [n0, n1], _ =>
          obtain ⟨nb, no, rfl, hnB, c0⟩ := HNr.out.at1 (k := 0) (x := n0) rfl rfl
          obtain ⟨nb', no', e', _, c1⟩ := HNr.out.at1 (k := 1) (x := n1) rfl rfl
          simp only [Option.some.injEq, Addr.mk.injEq] at e'
          obtain ⟨rfl, rfl, _⟩ := e'
          rw [Nat.zero_mul, Nat.add_zero] at c0
          rw [Nat.one_mul] at c1
          simp only [List.length_cons, List.length_nil, Nat.zero_add, Nat.reduceAdd] at ⊢
          have HK3 : Hid (∀ q : PortV, portB q.1 q.2.1 = true → S (portT q.1 q.2.1 q.2.2) = s → q = (n0, n1, pl)) := fun q hq h => by
            obtain ⟨_, e1, e2⟩ := HK.out q hq h
            simp only [List.cons.injEq, and_true] at e1
            obtain ⟨rfl, rfl⟩ := e1
            rw [← e2]
          clear HK HNr
          have hbx : Below w2.heap.size w2 (w2.alloc (.cells #[.int .i64 n0, .int .i64 n1, .bool pl] 23)).drew := bthen (balloc w2 (.cells #[.int .i64 n0, .int .i64 n1, .bool pl] 23)) (bdrew _)
          have hB3 := hB2.next hbx
          have hW3 : Below r w (w2.alloc (.cells #[.int .i64 n0, .int .i64 n1, .bool pl] 23)).drew := hW2.trans (hbx.mono (by omega))
          have hX3 : Blk (w2.alloc (.cells #[.int .i64 n0, .int .i64 n1, .bool pl] 23)).drew w2.heap.size 23 [.int .i64 n0, .int .i64 n1, .bool pl] := (Blk.made w2 23 [.int .i64 n0, .int .i64 n1, .bool pl]).next (bdrew _)
          have hrw : r < w2.heap.size := by omega
          have hsw : (w2.alloc (.cells #[.int .i64 n0, .int .i64 n1, .bool pl] 23)).drew.heap.size = w2.heap.size + 1 := by
            have e : (w2.alloc (.cells #[.int .i64 n0, .int .i64 n1, .bool pl] 23)).drew.heap.size = (w2.alloc (.cells #[.int .i64 n0, .int .i64 n1, .bool pl] 23)).heap.size := rfl
            rw [e]
            simp
          go_upto_region 6 with (fail)
          have hwn : IntKind.i64.wrap ((s.size : Int) - 1) = (s.size : Int) - 1 := IntWalk.i64_in _ (by omega)
          have i0 : ∀ v : World, (Instr.index 9 (.string s) (.int .i64 ((s.size : Int) - 1))).run Try.prog v = .ok (.int .u8 (s[s.size - 1].toNat : Int)) v := fun v => by
            have h1 : ¬ (s.size : Int) - 1 < 0 := by omega
            have h2 : ((s.size : Int) - 1).toNat = s.size - 1 := by omega
            go_simp
            rw [dif_pos ⟨by omega, by omega⟩]
          go_cut [6] from 28 to 40 (fun c wx => c = .pointer (some ⟨w2.heap.size, 0, none⟩) ∧ (w2.alloc (.cells #[.int .i64 n0, .int .i64 n1, .bool pl] 23)).drew = wx)
          case first =>
            go_region_law (fail)
            all_goals (go_wp2_with fail; go_meet; exact ⟨rfl, rfl⟩)
          case rest =>
            obtain ⟨rfl, rfl⟩ := hcut
            clear i0 c0 c1
            generalize (w2.alloc (.cells #[.int .i64 n0, .int .i64 n1, .bool pl] 23)).drew = W2 at hB3 hW3 hX3 hsw hbx ⊢
            generalize w2.heap.size = g9 at hX3 hrw hsw hbx ⊢
            have x0 := hX3.cell (j := 0) rfl
            have x1 := hX3.cell (j := 1) rfl
            have x2 := hX3.cell (j := 2) rfl
            go_wp2_with fail
            refine (isPort_spec n0 n1 pl W2).mono ?_
            rintro e w3 ⟨rfl, hb3⟩
            have hB4 := hB3.next hb3
            have hX4 := hX3.next hb3
            have hW4 : Below r w w3 := hW3.trans (hb3.mono (by omega))
            have hs3 := hb3.size
            clear x0 x1 x2 hX3 hb3
            have x0 := hX4.cell (j := 0) rfl
            have x1 := hX4.cell (j := 1) rfl
            have x2 := hX4.cell (j := 2) rfl
            by_cases hpp : portB n0 n1 = true
            · have hPT := Lib.hid (portText_spec n0 n1 pl hpp w3)
              have HK4 : Hid (S (portT n0 n1 pl) ≠ s → IsRead s (0, 0, false) 6) := fun hne => read_bad fun q hq h => by
                have e := HK3.out q hq h
                subst e
                exact hne h
              have HK5 : Hid (S (portT n0 n1 pl) = s → IsRead s (n0, n1, pl) 0) := fun he => Or.inl ⟨hpp, he, rfl⟩
              rw [hpp]
              clear hpp HK3
              generalize S (portT n0 n1 pl) = T at hPT HK4 HK5
              go_wp2_with fail
              refine hPT.out.mono ?_
              rintro e w4 ⟨rfl, hb4⟩
              have hB5 := hB4.next hb4
              have hX5 := hX4.next hb4
              have hW5 : Below r w w4 := hW4.trans (hb4.mono (by omega))
              clear x0 x1 x2 hX4 hb4
              have x0 := hX5.cell (j := 0) rfl
              have x1 := hX5.cell (j := 1) rfl
              have x2 := hX5.cell (j := 2) rfl
              have d0 := hB5.cell (j := 0) rfl
              have g0 := hB5.frozen 0
              have d1 := hB5.cell (j := 1) rfl
              have g1 := hB5.frozen 1
              have d2 := hB5.cell (j := 2) rfl
              have g2 := hB5.frozen 2
              by_cases he : T = s
              · have HR := Lib.hid (HK5.out he)
                have heb : (T.toList == s.toList) = true := by rw [str_beq, decide_eq_true he]
                clear HK4 HK5 he
                go_wp2_with fail
                have hX : Blk (((w4.setCell ⟨r, 0, none⟩ (.int .i64 n0)).setCell ⟨r, 1, none⟩ (.int .i64 n1)).setCell ⟨r, 2, none⟩ (.bool pl)) r 23 [.int .i64 n0, .int .i64 n1, .bool pl] := ((hB5.set 0 (.int .i64 n0)).set 1 (.int .i64 n1)).set 2 (.bool pl)
                have u0 := hX.cell (j := 0) rfl
                have u1 := hX.cell (j := 1) rfl
                have u2 := hX.cell (j := 2) rfl
                have hXB : Below r w (((w4.setCell ⟨r, 0, none⟩ (.int .i64 n0)).setCell ⟨r, 1, none⟩ (.int .i64 n1)).setCell ⟨r, 2, none⟩ (.bool pl)) := ((hW5.setCell (p := ⟨r, 0, none⟩) (Nat.le_refl _) _).setCell (p := ⟨r, 1, none⟩) (Nat.le_refl _) _).setCell (p := ⟨r, 2, none⟩) (Nat.le_refl _) _
                refine bodyPost_ret (v := .tuple #[.agg #[.int .i64 n0, .int .i64 n1, .bool pl], .int .i64 0]) (by simp [results, Try.results10, go_sem, u0, u1, u2]) rfl ?_
                exact ⟨n0, n1, pl, 0, rfl, HR.out, by rw [hr0]; exact hXB⟩
              · have HR := Lib.hid (HK4.out he)
                have heb : (T.toList == s.toList) = false := by rw [str_beq, decide_eq_false he]
                clear HK4 HK5 he
                go_wp2_with fail
                have hX : Blk (((w4.setCell ⟨r, 0, none⟩ (.int .i64 0)).setCell ⟨r, 1, none⟩ (.int .i64 0)).setCell ⟨r, 2, none⟩ (.bool false)) r 23 [.int .i64 0, .int .i64 0, .bool false] := ((hB5.set 0 (.int .i64 0)).set 1 (.int .i64 0)).set 2 (.bool false)
                have u0 := hX.cell (j := 0) rfl
                have u1 := hX.cell (j := 1) rfl
                have u2 := hX.cell (j := 2) rfl
                have hXB : Below r w (((w4.setCell ⟨r, 0, none⟩ (.int .i64 0)).setCell ⟨r, 1, none⟩ (.int .i64 0)).setCell ⟨r, 2, none⟩ (.bool false)) := ((hW5.setCell (p := ⟨r, 0, none⟩) (Nat.le_refl _) _).setCell (p := ⟨r, 1, none⟩) (Nat.le_refl _) _).setCell (p := ⟨r, 2, none⟩) (Nat.le_refl _) _
                refine bodyPost_ret (v := .tuple #[.agg #[.int .i64 0, .int .i64 0, .bool false], .int .i64 6]) (by simp [results, Try.results10, go_sem, u0, u1, u2]) rfl ?_
                exact ⟨0, 0, false, 6, rfl, HR.out, by rw [hr0]; exact hXB⟩
            · have HR : Hid (IsRead s (0, 0, false) 6) := read_bad fun q hq h => by
                have e := HK3.out q hq h
                subst e
                exact hpp hq
              have hpf : portB n0 n1 = false := by simpa using hpp
              rw [hpf]
              clear hpp hpf HK3
              have d0 := hB4.cell (j := 0) rfl
              have g0 := hB4.frozen 0
              have d1 := hB4.cell (j := 1) rfl
              have g1 := hB4.frozen 1
              have d2 := hB4.cell (j := 2) rfl
              have g2 := hB4.frozen 2
              go_wp2_with fail
              have hX : Blk (((w3.setCell ⟨r, 0, none⟩ (.int .i64 0)).setCell ⟨r, 1, none⟩ (.int .i64 0)).setCell ⟨r, 2, none⟩ (.bool false)) r 23 [.int .i64 0, .int .i64 0, .bool false] := ((hB4.set 0 (.int .i64 0)).set 1 (.int .i64 0)).set 2 (.bool false)
              have u0 := hX.cell (j := 0) rfl
              have u1 := hX.cell (j := 1) rfl
              have u2 := hX.cell (j := 2) rfl
              have hXB : Below r w (((w3.setCell ⟨r, 0, none⟩ (.int .i64 0)).setCell ⟨r, 1, none⟩ (.int .i64 0)).setCell ⟨r, 2, none⟩ (.bool false)) := ((hW4.setCell (p := ⟨r, 0, none⟩) (Nat.le_refl _) _).setCell (p := ⟨r, 1, none⟩) (Nat.le_refl _) _).setCell (p := ⟨r, 2, none⟩) (Nat.le_refl _) _
              refine bodyPost_ret (v := .tuple #[.agg #[.int .i64 0, .int .i64 0, .bool false], .int .i64 6]) (by simp [results, Try.results10, go_sem, u0, u1, u2]) rfl ?_
              exact ⟨0, 0, false, 6, rfl, HR.out, by rw [hr0]; exact hXB⟩
      · have HR : Hid (IsRead s (0, 0, false) 6) := read_bad fun q hq h => by
          have := (HK.out q hq h).2.1
          rw [this] at hn2
          exact hn2 rfl
        have hwb : ((ns.length : Int) != 2) = true := by
          rw [bne_iff_ne]
          omega
        clear HK hn2
        have d0 := hB2.cell (j := 0) rfl
        have g0 := hB2.frozen 0
        have d1 := hB2.cell (j := 1) rfl
        have g1 := hB2.frozen 1
        have d2 := hB2.cell (j := 2) rfl
        have g2 := hB2.frozen 2
        go_wp2_with fail
        have hX : Blk (((w2.setCell ⟨r, 0, none⟩ (.int .i64 0)).setCell ⟨r, 1, none⟩ (.int .i64 0)).setCell ⟨r, 2, none⟩ (.bool false)) r 23 [.int .i64 0, .int .i64 0, .bool false] := ((hB2.set 0 (.int .i64 0)).set 1 (.int .i64 0)).set 2 (.bool false)
        have u0 := hX.cell (j := 0) rfl
        have u1 := hX.cell (j := 1) rfl
        have u2 := hX.cell (j := 2) rfl
        have hXB : Below r w (((w2.setCell ⟨r, 0, none⟩ (.int .i64 0)).setCell ⟨r, 1, none⟩ (.int .i64 0)).setCell ⟨r, 2, none⟩ (.bool false)) := ((hW2.setCell (p := ⟨r, 0, none⟩) (Nat.le_refl _) _).setCell (p := ⟨r, 1, none⟩) (Nat.le_refl _) _).setCell (p := ⟨r, 2, none⟩) (Nat.le_refl _) _
        refine bodyPost_ret (v := .tuple #[.agg #[.int .i64 0, .int .i64 0, .bool false], .int .i64 6]) (by simp [results, Try.results10, go_sem, u0, u1, u2]) rfl ?_
        exact ⟨0, 0, false, 6, rfl, HR.out, by rw [hr0]; exact hXB⟩
end Go.Proofs.Ytlhbjgbkpjlacaa
