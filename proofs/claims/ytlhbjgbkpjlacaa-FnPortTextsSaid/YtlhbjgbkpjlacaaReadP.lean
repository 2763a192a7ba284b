/- DERIVED. A port read of its text: the walks. By program (greadp.py). -/
import Derived.Test.YtlhbjgbkpjlacaaReadQ
import Derived.Test.YtlhbjgbkpjlacaaFlPort
import Derived.Test.YtlhbjgbkpjlacaaBlk
import Derived.Deep.RegionLaw
import Derived.Deep.CutRange
namespace Go.Proofs.Ytlhbjgbkpjlacaa
set_option maxRecDepth 100000
open Go.RowKit

def GivesPort (s : ByteArray) (w : World) (e : Ending) (w' : World) : Prop := ∃ (k z : Int) (pl : Bool) (code : Int), e = .returned (.tuple #[.agg #[.int .i64 k, .int .i64 z, .bool pl], .int .i64 code]) ∧ IsRead s (k, z, pl) code ∧ Below w.heap.size w w'
set_option maxHeartbeats 4000000 in
theorem ReadPort_impl (s : ByteArray) (hs : s.size ≤ 1048576) (w : World) : Calls Try.prog 11 #[.string s] w (GivesPort s w) := by
  have hbV := balloc w (.cells #[.int .i64 0, .int .i64 0, .bool false] 23)
  have hB0 : Blk (w.alloc (.cells #[.int .i64 0, .int .i64 0, .bool false] 23)) w.heap.size 23 [.int .i64 0, .int .i64 0, .bool false] := Blk.made w _ _
  have sV : (w.alloc (.cells #[.int .i64 0, .int .i64 0, .bool false] 23)).heap.size = w.heap.size + 1 := by simp
  have HSp : Hid (∀ v : World, Calls Try.prog 85 #[.string s, .int .u8 58] v (GivesOwn v 9 1 tC (splitT s 58))) := fun v => splitAt_any s 58 58 rfl hs v
  have HRd : Hid (∀ (t : ByteArray) (v : World), t.size ≤ 1048576 → Calls Try.prog 86 #[.string t] v (GivesNum t v)) := fun t v h => readDecimal_any t h v
  have HBy : Hid (∀ t ∈ splitT s 58, t.size ≤ 1048576) := fun t h => Nat.le_trans (split_bytes t h) hs
  have HTwo : Hid (∀ q : PortV, S (portT q.1 q.2.1 q.2.2) = s → ∃ t0 t1, splitT s 58 = [t0, t1] ∧ 2 ≤ t1.size) := fun q h => read_two q h
  have HKey : Hid (∀ (t0 t1 : ByteArray) (n0 n1 : Int) (ok0 ok1 : Bool), splitT s 58 = [t0, t1] → ReadNum t0 n0 ok0 → ReadNum (t1.extract 0 (t1.size - 1)) n1 ok1 → ∀ (h1 : t1.size - 1 < t1.size) (q : PortV), portB q.1 q.2.1 = true → S (portT q.1 q.2.1 q.2.2) = s → ok0 = true ∧ ok1 = true ∧ q = (n0, n1, decide (t1[t1.size - 1] = 112))) := fun t0 t1 n0 n1 ok0 ok1 hL R0 R1 h1 q hq hs => read_key hL R0 R1 h1 q hq hs
  have hwl := splitT_len s 58
  generalize splitT s 58 = ws at HSp HBy HTwo HKey hwl
  go_enter Try.func11, Try.ntmps11
  go_wp2_with fail
  generalize w.alloc (.cells #[.int .i64 0, .int .i64 0, .bool false] 23) = V at hbV hB0 sV ⊢
  generalize hr0 : w.heap.size = r at hB0 hbV sV ⊢
  refine (HSp.out V).mono ?_
  rintro e w1 ⟨WA, wc, rfl, fw, hwc, hb1⟩
  have hB1 := hB0.next hb1
  have hW1 : Below r w w1 := hbV.trans (hb1.mono (by omega))
  have HW := Lib.hid fw.rd
  have hs1 := hb1.size
  clear fw hbV hB0 hb1 HSp
  by_cases hw2 : ws.length = 2
  · match ws, hw2 with
    | [t0, t1], _ =>
      obtain ⟨wb, wo, rfl, hwB, c0⟩ := HW.out.at1 (k := 0) (x := t0) rfl rfl
      obtain ⟨wb', wo', e', _, c1⟩ := HW.out.at1 (k := 1) (x := t1) rfl rfl
      simp only [Option.some.injEq, Addr.mk.injEq] at e'
      obtain ⟨rfl, rfl, _⟩ := e'
      rw [Nat.zero_mul, Nat.add_zero] at c0
      rw [Nat.one_mul] at c1
      have hz0 := HBy.out t0 (by simp)
      have hz1 := HBy.out t1 (by simp)
      have hcl := hwc
      simp only [List.length_cons, List.length_nil, Nat.zero_add, Nat.reduceAdd] at hcl ⊢
      by_cases h2 : t1.size < 2
      · have HR : Hid (IsRead s (0, 0, false) 6) := read_bad fun q _ h => by
          obtain ⟨u0, u1, e, h3⟩ := HTwo.out q h
          simp only [List.cons.injEq, and_true] at e
          rw [← e.2] at h3
          omega
        clear HKey HTwo HBy
        have d0 := hB1.cell (j := 0) rfl
        have d1 := hB1.cell (j := 1) rfl
        have d2 := hB1.cell (j := 2) rfl
        have g0 := hB1.frozen 0
        have g1 := hB1.frozen 1
        have g2 := hB1.frozen 2
        go_wp2_with fail
        have hX : Blk (((w1.setCell ⟨r, 0, none⟩ (.int .i64 0)).setCell ⟨r, 1, none⟩ (.int .i64 0)).setCell ⟨r, 2, none⟩ (.bool false)) r 23 [.int .i64 0, .int .i64 0, .bool false] := ((hB1.set 0 (.int .i64 0)).set 1 (.int .i64 0)).set 2 (.bool false)
        have u0 := hX.cell (j := 0) rfl
        have u1 := hX.cell (j := 1) rfl
        have u2 := hX.cell (j := 2) rfl
        have hXB : Below r w (((w1.setCell ⟨r, 0, none⟩ (.int .i64 0)).setCell ⟨r, 1, none⟩ (.int .i64 0)).setCell ⟨r, 2, none⟩ (.bool false)) := ((hW1.setCell (p := ⟨r, 0, none⟩) (Nat.le_refl _) _).setCell (p := ⟨r, 1, none⟩) (Nat.le_refl _) _).setCell (p := ⟨r, 2, none⟩) (Nat.le_refl _) _
        refine bodyPost_ret (v := .tuple #[.agg #[.int .i64 0, .int .i64 0, .bool false], .int .i64 6]) (by simp [results, Try.results11, go_sem, u0, u1, u2]) rfl ?_
        exact ⟨0, 0, false, 6, rfl, HR.out, by rw [hr0]; exact hXB⟩
      · have hlt : t1.size - 1 < t1.size := by omega
        obtain ⟨pl, hpl⟩ : ∃ pl : Bool, pl = decide (t1[t1.size - 1] = 112) := ⟨_, rfl⟩
        have hpb : ((t1[t1.size - 1].toNat : Int) == 112) = pl := by
          rw [hpl]
          by_cases e : t1[t1.size - 1] = 112
          · rw [decide_eq_true e, e]
            rfl
          · rw [decide_eq_false e, beq_eq_false_iff_ne]
            intro e2
            refine e (UInt8.toNat_inj.1 ?_)
            have : (112 : UInt8).toNat = 112 := rfl
            omega
        have HK2 : Hid (∀ (n0 n1 : Int) (ok0 ok1 : Bool), ReadNum t0 n0 ok0 → ReadNum (t1.extract 0 (t1.size - 1)) n1 ok1 → ∀ (q : PortV), portB q.1 q.2.1 = true → S (portT q.1 q.2.1 q.2.2) = s → ok0 = true ∧ ok1 = true ∧ q = (n0, n1, pl)) := fun n0 n1 ok0 ok1 R0 R1 q hq hs => by
          rw [hpl]
          exact HKey.out t0 t1 n0 n1 ok0 ok1 rfl R0 R1 hlt q hq hs
        have hR := HRd.out t0 w1 hz0
        have hR2 : Hid (Calls Try.prog 86 #[.string (t1.extract 0 (t1.size - 1))] w1 (GivesNum (t1.extract 0 (t1.size - 1)) w1)) := HRd.out _ w1 (by simp; omega)
        clear HKey HTwo HBy hpl hwl hwc HRd
        go_wp2_with fail
        refine hR.mono ?_
        rintro e w2 ⟨n0, ok0, rfl, hR0, rfl⟩
        have HR0 := Lib.hid hR0; clear hR0 hR
        go_wp2_with fail
        refine hR2.out.mono ?_
        rintro e w2 ⟨n1, ok1, rfl, hR1, rfl⟩
        have HR1 := Lib.hid hR1; clear hR1 hR2
        have HK := Lib.hid (HK2.out n0 n1 ok0 ok1 HR0.out HR1.out)
        clear HK2
        have hbx := balloc w1 (.cells #[.int .i64 n0, .int .i64 n1, .bool pl] 23)
        have hB2 := hB1.next hbx
        have hW2 : Below r w (w1.alloc (.cells #[.int .i64 n0, .int .i64 n1, .bool pl] 23)) := hW1.trans (hbx.mono (by have := hW1.size; omega))
        have hX2 : Blk (w1.alloc (.cells #[.int .i64 n0, .int .i64 n1, .bool pl] 23)) w1.heap.size 23 [.int .i64 n0, .int .i64 n1, .bool pl] := Blk.made w1 _ _
        have hrw : r < w1.heap.size := by omega
        have hsw : (w1.alloc (.cells #[.int .i64 n0, .int .i64 n1, .bool pl] 23)).heap.size = w1.heap.size + 1 := by simp
        go_upto_region 8 with (fail)
        generalize w1.alloc (.cells #[.int .i64 n0, .int .i64 n1, .bool pl] 23) = W2 at hB2 hW2 hX2 hsw hbx ⊢
        generalize w1.heap.size = g9 at hX2 hrw hsw hbx ⊢
        clear c0 c1 hB1 hW1
        have x0 := hX2.cell (j := 0) rfl
        have x1 := hX2.cell (j := 1) rfl
        have x2 := hX2.cell (j := 2) rfl
        cases ok0 with
        | false =>
          have HR : Hid (IsRead s (0, 0, false) 6) := read_bad fun q hq h => by cases (HK.out q hq h).1
          have d0 := hB2.cell (j := 0) rfl
          have g0 := hB2.frozen 0
          have d1 := hB2.cell (j := 1) rfl
          have g1 := hB2.frozen 1
          have d2 := hB2.cell (j := 2) rfl
          have g2 := hB2.frozen 2
          go_wp2_with fail
          have hX : Blk (((W2.setCell ⟨r, 0, none⟩ (.int .i64 0)).setCell ⟨r, 1, none⟩ (.int .i64 0)).setCell ⟨r, 2, none⟩ (.bool false)) r 23 [.int .i64 0, .int .i64 0, .bool false] := ((hB2.set 0 (.int .i64 0)).set 1 (.int .i64 0)).set 2 (.bool false)
          have u0 := hX.cell (j := 0) rfl
          have u1 := hX.cell (j := 1) rfl
          have u2 := hX.cell (j := 2) rfl
          have hXB : Below r w (((W2.setCell ⟨r, 0, none⟩ (.int .i64 0)).setCell ⟨r, 1, none⟩ (.int .i64 0)).setCell ⟨r, 2, none⟩ (.bool false)) := ((hW2.setCell (p := ⟨r, 0, none⟩) (Nat.le_refl _) _).setCell (p := ⟨r, 1, none⟩) (Nat.le_refl _) _).setCell (p := ⟨r, 2, none⟩) (Nat.le_refl _) _
          refine bodyPost_ret (v := .tuple #[.agg #[.int .i64 0, .int .i64 0, .bool false], .int .i64 6]) (by simp [results, Try.results11, go_sem, u0, u1, u2]) rfl ?_
          exact ⟨0, 0, false, 6, rfl, HR.out, by rw [hr0]; exact hXB⟩
        | true =>
          cases ok1 with
          | false =>
            have HR : Hid (IsRead s (0, 0, false) 6) := read_bad fun q hq h => by cases (HK.out q hq h).2.1
            have d0 := hB2.cell (j := 0) rfl
            have g0 := hB2.frozen 0
            have d1 := hB2.cell (j := 1) rfl
            have g1 := hB2.frozen 1
            have d2 := hB2.cell (j := 2) rfl
            have g2 := hB2.frozen 2
            go_wp2_with fail
            have hX : Blk (((W2.setCell ⟨r, 0, none⟩ (.int .i64 0)).setCell ⟨r, 1, none⟩ (.int .i64 0)).setCell ⟨r, 2, none⟩ (.bool false)) r 23 [.int .i64 0, .int .i64 0, .bool false] := ((hB2.set 0 (.int .i64 0)).set 1 (.int .i64 0)).set 2 (.bool false)
            have u0 := hX.cell (j := 0) rfl
            have u1 := hX.cell (j := 1) rfl
            have u2 := hX.cell (j := 2) rfl
            have hXB : Below r w (((W2.setCell ⟨r, 0, none⟩ (.int .i64 0)).setCell ⟨r, 1, none⟩ (.int .i64 0)).setCell ⟨r, 2, none⟩ (.bool false)) := ((hW2.setCell (p := ⟨r, 0, none⟩) (Nat.le_refl _) _).setCell (p := ⟨r, 1, none⟩) (Nat.le_refl _) _).setCell (p := ⟨r, 2, none⟩) (Nat.le_refl _) _
            refine bodyPost_ret (v := .tuple #[.agg #[.int .i64 0, .int .i64 0, .bool false], .int .i64 6]) (by simp [results, Try.results11, go_sem, u0, u1, u2]) rfl ?_
            exact ⟨0, 0, false, 6, rfl, HR.out, by rw [hr0]; exact hXB⟩
          | true =>
            go_wp2_with fail
            refine (isPort_impl n0 n1 pl W2).mono ?_
            rintro e w3 ⟨rfl, hb3⟩
            have hB3 := hB2.next hb3
            have hX3 := hX2.next hb3
            have hW3 : Below r w w3 := hW2.trans (hb3.mono (by omega))
            have hs3 := hb3.size
            clear x0 x1 x2 hX2 hb3
            have x0 := hX3.cell (j := 0) rfl
            have x1 := hX3.cell (j := 1) rfl
            have x2 := hX3.cell (j := 2) rfl
            by_cases hp : portB n0 n1 = true
            · have hPT := Lib.hid (portText_impl n0 n1 pl hp w3)
              have HK4 : Hid (S (portT n0 n1 pl) ≠ s → IsRead s (0, 0, false) 6) := fun hne => read_bad fun q hq h => by
                have e := (HK.out q hq h).2.2
                subst e
                exact hne h
              have HK5 : Hid (S (portT n0 n1 pl) = s → IsRead s (n0, n1, pl) 0) := fun he => Or.inl ⟨hp, he, rfl⟩
              rw [hp]
              clear hp HK
              generalize S (portT n0 n1 pl) = T at hPT HK4 HK5
              go_wp2_with fail
              refine hPT.out.mono ?_
              rintro e w4 ⟨rfl, hb4⟩
              have hB4 := hB3.next hb4
              have hX4 := hX3.next hb4
              have hW4 : Below r w w4 := hW3.trans (hb4.mono (by omega))
              clear x0 x1 x2 hX3 hb4
              have x0 := hX4.cell (j := 0) rfl
              have x1 := hX4.cell (j := 1) rfl
              have x2 := hX4.cell (j := 2) rfl
              have d0 := hB4.cell (j := 0) rfl
              have g0 := hB4.frozen 0
              have d1 := hB4.cell (j := 1) rfl
              have g1 := hB4.frozen 1
              have d2 := hB4.cell (j := 2) rfl
              have g2 := hB4.frozen 2
              by_cases he : T = s
              · have HR := Lib.hid (HK5.out he)
                subst he
                clear HK4 HK5
                go_wp2_with fail
                have hX : Blk (((w4.setCell ⟨r, 0, none⟩ (.int .i64 n0)).setCell ⟨r, 1, none⟩ (.int .i64 n1)).setCell ⟨r, 2, none⟩ (.bool pl)) r 23 [.int .i64 n0, .int .i64 n1, .bool pl] := ((hB4.set 0 (.int .i64 n0)).set 1 (.int .i64 n1)).set 2 (.bool pl)
                have u0 := hX.cell (j := 0) rfl
                have u1 := hX.cell (j := 1) rfl
                have u2 := hX.cell (j := 2) rfl
                have hXB : Below r w (((w4.setCell ⟨r, 0, none⟩ (.int .i64 n0)).setCell ⟨r, 1, none⟩ (.int .i64 n1)).setCell ⟨r, 2, none⟩ (.bool pl)) := ((hW4.setCell (p := ⟨r, 0, none⟩) (Nat.le_refl _) _).setCell (p := ⟨r, 1, none⟩) (Nat.le_refl _) _).setCell (p := ⟨r, 2, none⟩) (Nat.le_refl _) _
                refine bodyPost_ret (v := .tuple #[.agg #[.int .i64 n0, .int .i64 n1, .bool pl], .int .i64 0]) (by simp [results, Try.results11, go_sem, u0, u1, u2]) rfl ?_
                exact ⟨n0, n1, pl, 0, rfl, HR.out, by rw [hr0]; exact hXB⟩
              · have HR := Lib.hid (HK4.out he)
                have heb : (T.toList == s.toList) = false := by rw [str_beq, decide_eq_false he]
                clear HK4 HK5 he
                go_wp2_with fail
                have hX : Blk (((w4.setCell ⟨r, 0, none⟩ (.int .i64 0)).setCell ⟨r, 1, none⟩ (.int .i64 0)).setCell ⟨r, 2, none⟩ (.bool false)) r 23 [.int .i64 0, .int .i64 0, .bool false] := ((hB4.set 0 (.int .i64 0)).set 1 (.int .i64 0)).set 2 (.bool false)
                have u0 := hX.cell (j := 0) rfl
                have u1 := hX.cell (j := 1) rfl
                have u2 := hX.cell (j := 2) rfl
                have hXB : Below r w (((w4.setCell ⟨r, 0, none⟩ (.int .i64 0)).setCell ⟨r, 1, none⟩ (.int .i64 0)).setCell ⟨r, 2, none⟩ (.bool false)) := ((hW4.setCell (p := ⟨r, 0, none⟩) (Nat.le_refl _) _).setCell (p := ⟨r, 1, none⟩) (Nat.le_refl _) _).setCell (p := ⟨r, 2, none⟩) (Nat.le_refl _) _
                refine bodyPost_ret (v := .tuple #[.agg #[.int .i64 0, .int .i64 0, .bool false], .int .i64 6]) (by simp [results, Try.results11, go_sem, u0, u1, u2]) rfl ?_
                exact ⟨0, 0, false, 6, rfl, HR.out, by rw [hr0]; exact hXB⟩
            · have HR : Hid (IsRead s (0, 0, false) 6) := read_bad fun q hq h => by
                have e := (HK.out q hq h).2.2
                subst e
                exact hp hq
              have hpf : portB n0 n1 = false := by simpa using hp
              rw [hpf]
              clear hp hpf HK
              have d0 := hB3.cell (j := 0) rfl
              have g0 := hB3.frozen 0
              have d1 := hB3.cell (j := 1) rfl
              have g1 := hB3.frozen 1
              have d2 := hB3.cell (j := 2) rfl
              have g2 := hB3.frozen 2
              go_wp2_with fail
              have hX : Blk (((w3.setCell ⟨r, 0, none⟩ (.int .i64 0)).setCell ⟨r, 1, none⟩ (.int .i64 0)).setCell ⟨r, 2, none⟩ (.bool false)) r 23 [.int .i64 0, .int .i64 0, .bool false] := ((hB3.set 0 (.int .i64 0)).set 1 (.int .i64 0)).set 2 (.bool false)
              have u0 := hX.cell (j := 0) rfl
              have u1 := hX.cell (j := 1) rfl
              have u2 := hX.cell (j := 2) rfl
              have hXB : Below r w (((w3.setCell ⟨r, 0, none⟩ (.int .i64 0)).setCell ⟨r, 1, none⟩ (.int .i64 0)).setCell ⟨r, 2, none⟩ (.bool false)) := ((hW3.setCell (p := ⟨r, 0, none⟩) (Nat.le_refl _) _).setCell (p := ⟨r, 1, none⟩) (Nat.le_refl _) _).setCell (p := ⟨r, 2, none⟩) (Nat.le_refl _) _
              refine bodyPost_ret (v := .tuple #[.agg #[.int .i64 0, .int .i64 0, .bool false], .int .i64 6]) (by simp [results, Try.results11, go_sem, u0, u1, u2]) rfl ?_
              exact ⟨0, 0, false, 6, rfl, HR.out, by rw [hr0]; exact hXB⟩
  · have HR : Hid (IsRead s (0, 0, false) 6) := read_bad fun q _ h => by
      obtain ⟨u0, u1, e, h3⟩ := HTwo.out q h
      rw [e] at hw2
      exact hw2 rfl
    have hwb : ((ws.length : Int) != 2) = true := by
      rw [bne_iff_ne]
      omega
    clear HKey HTwo HBy hw2
    have d0 := hB1.cell (j := 0) rfl
    have g0 := hB1.frozen 0
    have d1 := hB1.cell (j := 1) rfl
    have g1 := hB1.frozen 1
    have d2 := hB1.cell (j := 2) rfl
    have g2 := hB1.frozen 2
    go_wp2_with fail
    have hX : Blk (((w1.setCell ⟨r, 0, none⟩ (.int .i64 0)).setCell ⟨r, 1, none⟩ (.int .i64 0)).setCell ⟨r, 2, none⟩ (.bool false)) r 23 [.int .i64 0, .int .i64 0, .bool false] := ((hB1.set 0 (.int .i64 0)).set 1 (.int .i64 0)).set 2 (.bool false)
    have u0 := hX.cell (j := 0) rfl
    have u1 := hX.cell (j := 1) rfl
    have u2 := hX.cell (j := 2) rfl
    have hXB : Below r w (((w1.setCell ⟨r, 0, none⟩ (.int .i64 0)).setCell ⟨r, 1, none⟩ (.int .i64 0)).setCell ⟨r, 2, none⟩ (.bool false)) := ((hW1.setCell (p := ⟨r, 0, none⟩) (Nat.le_refl _) _).setCell (p := ⟨r, 1, none⟩) (Nat.le_refl _) _).setCell (p := ⟨r, 2, none⟩) (Nat.le_refl _) _
    refine bodyPost_ret (v := .tuple #[.agg #[.int .i64 0, .int .i64 0, .bool false], .int .i64 6]) (by simp [results, Try.results11, go_sem, u0, u1, u2]) rfl ?_
    exact ⟨0, 0, false, 6, rfl, HR.out, by rw [hr0]; exact hXB⟩
end Go.Proofs.Ytlhbjgbkpjlacaa
