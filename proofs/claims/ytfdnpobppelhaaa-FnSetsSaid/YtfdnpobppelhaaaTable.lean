/- DERIVED. Tables of the sizes that suit: the walks. By program (gtable.py). -/
import Derived.Test.YtfdnpobppelhaaaSizesFor
import Derived.Test.YtfdnpobppelhaaaFew
import Derived.Test.YtfdnpobppelhaaaFlRider
namespace Go.Proofs.Ytfdnpobppelhaaa
set_option maxRecDepth 100000
open Go.RowKit

theorem InnerI.far {β : Type} {w w4 : World} {lo hi sz' c base : Nat} {E' : TypeId} {f' : β → List Value} {B A2 : Option Addr} {ys : List β} {ms : List RowI} (h : InnerI w lo hi ms) (ho : Own w base E' sz' f' B c ys) (hE : E' ≠ 2) (hhi : hi ≤ w.heap.size)
    (hfar : ∀ g, g < w.heap.size → Apart B g → Apart A2 g ∧ w4.heap[g]? = w.heap[g]?) : InnerI w4 lo hi ms := ⟨fun m hm => (h.flat m hm).farType ho hE hhi hfar, h.apart⟩
theorem InnerI.snoc {w : World} {lo mid hi : Nat} {ms : List RowI} {m : RowI} (h : InnerI w lo mid ms) (hm : Flat w mid hi 2 1 nC m.A m.ns) (h1 : lo ≤ mid) (h2 : mid ≤ hi) : InnerI w lo hi (ms ++ [m]) := by
  refine ⟨fun n hn => ?_, ?_⟩
  · rcases List.mem_append.1 hn with hn | hn
    · exact (h.flat n hn).mono (Nat.le_refl _) h2
    · simp only [List.mem_singleton] at hn
      subst hn
      exact hm.mono h1 (Nat.le_refl _)
  · rw [List.pairwise_append]
    refine ⟨h.apart, List.pairwise_singleton _ _, fun n hn m' hm' p1 p2 e => ?_⟩
    simp only [List.mem_singleton] at hm'
    subst hm'
    obtain ⟨g, _, e1, _, h3, _⟩ := h.flat n hn p1
    obtain ⟨g', _, e2, h4, _⟩ := hm p2
    rw [e, e2] at e1
    simp only [Option.some.injEq, Addr.mk.injEq] at e1
    omega

set_option maxHeartbeats 1000000 in
theorem areRiders_any (A : Option Addr) (c : Nat) (rs : List RidT) (w : World) (hr : Rd w w.heap.size 3 ridrC A rs) (hm : rs.length ≤ 1048576) :
    Calls Try.prog 87 #[.slice A rs.length c] w fun e w' => e = .returned (.bool (ridersB rs)) ∧ Below w.heap.size w w' := by
  by_cases h60 : 60 < rs.length
  · have hB : ridersB rs = false := by
      unfold ridersB
      rw [decide_eq_false (by omega)]
      rfl
    rw [hB]
    go_enter Try.func87, Try.ntmps87
    go_wp2_with fail
    go_ret
    exact ⟨rfl, Below.refl _ _⟩
  · have hB : ridersB rs = rs.all ridB := by
      unfold ridersB
      rw [decide_eq_true (by omega)]
      rfl
    rw [hB]
    clear hB
    go_enter Try.func87, Try.ntmps87
    go_wp2_with fail
    go_loopw [10] (fun i wr => ∃ k : Nat, k ≤ rs.length ∧ i = .int .i64 k ∧ Below w.heap.size w wr ∧ (rs.take k).all ridB = true) (fun i _ => rs.length - (intOf i).toNat)
    case atStart => exact ⟨0, Nat.zero_le _, rfl, Below.refl _ _, rfl⟩
    case round =>
      obtain ⟨k, hk, rfl, hb, hall⟩ := hrel
      have Ha := Lib.hid hall; clear hall
      by_cases hlt : k < rs.length
      · obtain ⟨b, o, rfl, hB, h0, h1, h2⟩ := (hr.below hb).at3 (List.getElem?_eq_getElem hlt) rfl
        have hx : Hid (∀ t, rs[k] = t → ridB t = false → rs.all ridB = false) := fun t ht h => all_out hlt (by rw [ht]; exact h)
        have hy : Hid (∀ t, rs[k] = t → ridB t = true → (rs.take (k + 1)).all ridB = true) := fun t ht h => by rw [all_snoc hlt, Ha.out, ht, h]; rfl
        generalize rs[k] = t at h0 h1 h2 hx hy
        have hI := isRider_impl t.1 t.2.1 t.2.2
        have hx2 : Hid (ridB t = false → rs.all ridB = false) := hx.out t rfl
        have hy2 : Hid (ridB t = true → (rs.take (k + 1)).all ridB = true) := hy.out t rfl
        rw [show riderB t.1 t.2.1 t.2.2 = ridB t from rfl] at hI
        have HI := Lib.hid hI
        clear hI hx hy
        cases e : ridB t with
        | false =>
          rw [e] at HI
          have hF := Lib.hid (hx2.out e)
          clear e hx2 hy2
          go_wp2_with fail
          refine (HI.out _).mono ?_
          rintro e w' ⟨rfl, hb2⟩
          go_wp2_with fail
          go_ret
          exact ⟨ret_bool hF.out.symm, bthen' (hb.alloc hb.size _) hb2⟩
        | true =>
          rw [e] at HI
          have HF := Lib.hid (hy2.out e)
          clear e hx2 hy2
          go_wp2_with fail
          refine (HI.out _).mono ?_
          rintro e w' ⟨rfl, hb2⟩
          go_wp2_with fail
          exact ⟨⟨k + 1, by omega, by go_num, bthen' (hb.alloc hb.size _) hb2, HF.out⟩, by simp [intOf]; omega⟩
      · have hT := Ha.out
        rw [List.take_of_length_le (by omega)] at hT
        have HT := Lib.hid hT
        clear hT
        go_wp2_with fail
        go_ret
        exact ⟨ret_bool HT.out.symm, hb⟩

set_option maxHeartbeats 2000000 in
theorem SizesTable_impl (A : Option Addr) (c : Nat) (rs : List RidT) (S : Option Addr) (sc : Nat) (xs : List SizT) (w : World) (hr : Rd w w.heap.size 3 ridrC A rs) (hm : rs.length ≤ 1048576) (hs : Rd w w.heap.size 4 sizeC S xs) (hsm : xs.length ≤ 1048576) (hc : xs.length ≤ sc) (hg : ∀ x ∈ xs, x.1.size ≤ maxLen) :
    Calls Try.prog 36 #[.slice A rs.length c, .slice S xs.length sc] w (GivesI w (tableR rs xs)) := by
  have hI := areRiders_any A c rs w hr hm
  have hJ : Hid (∀ v : World, Rd v v.heap.size 4 sizeC S xs → Calls Try.prog 19 #[.slice S xs.length sc] v fun e w' => e = .returned (.bool (sizesB xs)) ∧ Below v.heap.size v w') := fun v hv => areSizes_impl S sc xs v hv hsm hc hg
  have Hg := Lib.hid hg; clear hg
  by_cases r : ridersB rs = true
  · by_cases z : sizesB xs = true
    · have HF : Hid (tableR rs xs = (rs.map (rowOf xs), 0)) := by unfold Hid tableR; rw [if_pos ⟨r, z⟩]
      generalize tableR rs xs = res at HF ⊢
      rw [r] at hI
      rw [z] at hJ
      have HI := Lib.hid hI; clear hI
      have h60 := ridersB_len r
      have Hr := Lib.hid (ridersB_all r); clear r
      have h12 := sizesB_len z
      have Hz := Lib.hid z; clear z
      go_enter Try.func36, Try.ntmps36
      go_wp2_with fail
      refine HI.out.mono ?_
      rintro e w1 ⟨rfl, hb1⟩
      go_wp2_with fail
      refine (hJ.out w1 (hs.next hb1)).mono ?_
      rintro e w2 ⟨rfl, hb2⟩
      have hb02 := bthen hb1 hb2
      clear hb1 hb2
      go_wp2_with fail
      go_loopw [6, 22] (fun out i wr => ∃ (k : Nat) (A' : Option Addr) (c' : Nat) (ms : List RowI), k ≤ rs.length ∧ i = .int .i64 k ∧ out = .slice A' ms.length c' ∧ ms.length ≤ k ∧ Hid (ms.map RowI.ns = (rs.take k).map (rowOf xs)) ∧ Own wr w.heap.size 38 1 rowI A' c' ms ∧ InnerI wr w.heap.size wr.heap.size ms ∧ Below w.heap.size w wr) (fun _ i _ => rs.length - (intOf i).toNat)
      case atStart => exact ⟨0, none, 0, [], Nat.zero_le _, rfl, rfl, Nat.le_refl _, rfl, Own.nil, InnerI.nil, hb02⟩
      case round =>
        obtain ⟨k, A', c', ms, hk, rfl, rfl, hmk, Hms, hown, hin, hb⟩ := hrel
        have HO := Lib.hid hown; clear hown
        have HN := Lib.hid hin; clear hin
        by_cases hlt : k < rs.length
        · have hx : rs[k]? = some rs[k] := List.getElem?_eq_getElem hlt
          obtain ⟨b, o, rfl, hB, h0, h1, h2⟩ := (hr.below hb).at3 hx rfl
          have Ht := Lib.hid (Hr.out _ (List.mem_of_getElem? hx))
          have HT : Hid (∀ q : List Int, q = rowOf xs rs[k] → (rs.take k).map (rowOf xs) ++ [q] = (rs.take (k + 1)).map (rowOf xs)) := fun q hq => by
            rw [List.take_succ_eq_append_getElem hlt, List.map_append, hq]
            rfl
          generalize rs[k] = t at h0 h1 h2 Ht HT
          clear hx
          have c0 : (wr.alloc (.cells #[.int .i64 t.1, .int .i64 t.2.1, .int .i64 t.2.2] 25)).cell? ⟨wr.heap.size, 0, none⟩ = some (.int .i64 t.1) := by go_simp
          have c1 : (wr.alloc (.cells #[.int .i64 t.1, .int .i64 t.2.1, .int .i64 t.2.2] 25)).cell? ⟨wr.heap.size, 1, none⟩ = some (.int .i64 t.2.1) := by go_simp
          have cz2 : (wr.alloc (.cells #[.int .i64 t.1, .int .i64 t.2.1, .int .i64 t.2.2] 25)).cell? ⟨wr.heap.size, 2, none⟩ = some (.int .i64 t.2.2) := by go_simp
          have hbw := balloc wr (.cells #[.int .i64 t.1, .int .i64 t.2.1, .int .i64 t.2.2] 25)
          have hbs : (wr.alloc (.cells #[.int .i64 t.1, .int .i64 t.2.1, .int .i64 t.2.2] 25)).heap.size = wr.heap.size + 1 := by simp
          have hst : Own (wr.alloc (.cells #[.int .i64 t.1, .int .i64 t.2.1, .int .i64 t.2.2] 25)) (wr.heap.size + 1) 2 1 iC none 0 [] := Own.nil
          go_wp2_with fail
          generalize wr.alloc (.cells #[.int .i64 t.1, .int .i64 t.2.1, .int .i64 t.2.2] 25) = W at c0 c1 cz2 hbw hbs hst ⊢
          generalize hg0 : wr.heap.size = g0 at c0 c1 cz2 hbs hst ⊢
          have hbW : Below w.heap.size w W := bthen' hb hbw
          have hgb := hb.size
          go_loopw [9, 28] (fun out i wr => ∃ (k2 : Nat) (A2 : Option Addr) (c2 : Nat), k2 ≤ xs.length ∧ i = .int .i64 k2 ∧ out = .slice A2 (idxTo (suitT t.1 t.2.1 t.2.2) xs k2).length c2 ∧ Own wr (g0 + 1) 2 1 iC A2 c2 (idxTo (suitT t.1 t.2.1 t.2.2) xs k2) ∧ Below (g0 + 1) W wr) (fun _ i _ => xs.length - (intOf i).toNat)
          case atStart => exact ⟨0, none, 0, Nat.zero_le _, rfl, rfl, hst, Below.refl _ _⟩
          case round =>
            obtain ⟨k2, A2, c2, hk2, rfl, rfl, hown2, hb2⟩ := hrel
            have Ho2 := Lib.hid hown2; clear hown2
            have hsz2 := hb2.size
            by_cases hlt2 : k2 < xs.length
            · have hx : xs[k2]? = some xs[k2] := List.getElem?_eq_getElem hlt2
              obtain ⟨b2, o2, rfl, hB2, q0, q1, q2, q3⟩ := (hs.below (hbW.trans (hb2.mono (by omega)))).at4 hx rfl
              have Hx := Lib.hid hx
              generalize xs[k2] = y at q0 q1 q2 q3 hx Hx
              clear hx
              have Hc : Hid (∀ v : World, Calls Try.prog 61 #[.agg #[.int .i64 t.1, .int .i64 t.2.1, .int .i64 t.2.2], .agg #[.string y.1, .int .i64 y.2.1, .int .i64 y.2.2.1, .int .i64 y.2.2.2]] v fun e w' => e = .returned (.bool (suitT t.1 t.2.1 t.2.2 y)) ∧ Below v.heap.size v w') := fun v => doesSuit_any t.1 t.2.1 t.2.2 Ht.out y.1 y.2.1 y.2.2.1 y.2.2.2 (sizesB_ok Hz.out Hx.out) v
              have HD := Lib.hid (show (suitT t.1 t.2.1 t.2.2 y = true ∧ idxTo (suitT t.1 t.2.1 t.2.2) xs (k2 + 1) = idxTo (suitT t.1 t.2.1 t.2.2) xs k2 ++ [(k2 : Int)]) ∨ (suitT t.1 t.2.1 t.2.2 y = false ∧ idxTo (suitT t.1 t.2.1 t.2.2) xs (k2 + 1) = idxTo (suitT t.1 t.2.1 t.2.2) xs k2) by
                by_cases e : suitT t.1 t.2.1 t.2.2 y = true
                · exact Or.inl ⟨e, idxTo_yes Hx.out e⟩
                · exact Or.inr ⟨by simpa using e, idxTo_no Hx.out (by simpa using e)⟩)
              have hle := idxTo_le (suitT t.1 t.2.1 t.2.2) xs k2
              generalize idxTo (suitT t.1 t.2.1 t.2.2) xs k2 = l1 at HD Ho2 hle ⊢
              generalize suitT t.1 t.2.1 t.2.2 y = st at HD Hc
              clear Hx
              have e0 : wr.cell? ⟨g0, 0, none⟩ = some (.int .i64 t.1) := (hb2.cell (p := ⟨g0, 0, none⟩) (by simp)).trans c0
              have e1 : wr.cell? ⟨g0, 1, none⟩ = some (.int .i64 t.2.1) := (hb2.cell (p := ⟨g0, 1, none⟩) (by simp)).trans c1
              have e2 : wr.cell? ⟨g0, 2, none⟩ = some (.int .i64 t.2.2) := (hb2.cell (p := ⟨g0, 2, none⟩) (by simp)).trans cz2
              have hgw : g0 < wr.heap.size := World.block_lt_of_cell? wr _ e0
              go_wp2_with fail
              refine (Hc.out _).mono ?_
              rintro e w3 ⟨rfl, hb3⟩
              obtain ⟨hcc, hff⟩ := bcell hb3
              have Ho3 := Lib.hid ((Ho2.out.keep (balloc _ (.cells #[.string y.1, .int .i64 y.2.1, .int .i64 y.2.2.1, .int .i64 y.2.2.2] 27))).keep hb3)
              have hbb := bthen' (bthen' hb2 (balloc _ (.cells #[.string y.1, .int .i64 y.2.1, .int .i64 y.2.2.1, .int .i64 y.2.2.2] 27))) hb3
              clear hcc hff hb3 q0 q1 q2 q3 e0 e1 e2 hb2
              clear Ho2
              cases st
              case false =>
                go_wp2_with fail
                rcases HD.out with ⟨e, _⟩ | ⟨_, e⟩
                · cases e
                · exact ⟨⟨k2 + 1, _, _, by omega, by go_num, by rw [e], by rw [e]; exact Ho3.out, hbb⟩, by simp [intOf]; omega⟩
              case true =>
                have hbase : g0 + 1 ≤ w3.heap.size := by have := hbb.size; omega
                go_wp2_with (at_builtin; refine wpList_append_el rfl _ _ _ rfl (g0 + 1) 2 (.int .i64 0) 1 8 Try.underlying38 infoInt64 rfl (by omega) (by omega) iC l1 (k2 : Int) A2 c2 rfl (Ho3.out.keep (balloc _ _)) w3.heap.size _ rfl rfl (one_cell (by go_simp)) (by simp [iC]; rfl) (by omega) (by simp; omega) ?_)
                intro A5 c5 w4 hown4 hgr hb4
                have Ho4 := Lib.hid hown4; clear hown4
                go_wp2_with fail
                rcases HD.out with ⟨_, e⟩ | ⟨e, _⟩
                · exact ⟨⟨k2 + 1, A5, c5, by omega, by go_num, by rw [e]; simp, by rw [e]; exact Ho4.out, (hbb.alloc hbase _).trans hb4⟩, by simp [intOf]; omega⟩
                · cases e
            · obtain rfl : k2 = xs.length := by omega
              have HO2 := Lib.hid ((HO.out.keep hbw).keep (by rw [hbs]; exact hb2))
              have HN2 : Hid (InnerI wr w.heap.size (g0 + 1) ms) := ((HN.out.below hbw (Nat.le_refl _)).below (B := g0 + 1) hb2 (by omega)).mono (Nat.le_refl _) (by omega)
              have HR2 : Hid (Flat wr (g0 + 1) wr.heap.size 2 1 nC A2 (idxTo (suitT t.1 t.2.1 t.2.2) xs xs.length)) := Ho2.out.flat (fun _ => rfl)
              have HQ := Lib.hid (HT.out (idxTo (suitT t.1 t.2.1 t.2.2) xs xs.length) rfl)
              have hbb : Below w.heap.size w wr := hbW.trans (hb2.mono (by omega))
              generalize idxTo (suitT t.1 t.2.1 t.2.2) xs xs.length = R at HR2 HQ ⊢
              clear Ho2 HO HN HT c0 c1 cz2 hb2
              have hbase : w.heap.size ≤ wr.heap.size := hbb.size
              go_wp2_with (at_builtin; refine wpList_append_far rfl _ _ _ rfl w.heap.size 38 (.slice none 0 0) 1 24 Try.underlying51 infoRowI rfl (by omega) (by omega) rowI ms ⟨A2, c2, R⟩ A' c' rfl (HO2.out.keep (balloc _ _)) wr.heap.size _ rfl rfl (one_cell (by go_simp)) (by simp [rowI]; rfl) (by omega) (by simp; omega) ?_)
              intro A4 c4 w4 hown4 hb4 hfar4
              have hs4 := hb4.size
              simp only [World.size_alloc] at hs4
              have HI4 : Hid (InnerI w4 w.heap.size w4.heap.size (ms ++ [⟨A2, c2, R⟩])) :=
                (((HN2.out.snoc (m := ⟨A2, c2, R⟩) HR2.out (by omega) (by omega)).below (balloc wr (.cells #[.slice A2 R.length c2] 38)) (Nat.le_refl _)).far (HO2.out.keep (balloc wr (.cells #[.slice A2 R.length c2] 38))) (by decide) (by simp) (fun g hg => hfar4 g (by simpa using hg))).mono (Nat.le_refl _) (by omega)
              have HO4 := Lib.hid hown4; clear hown4 hfar4
              go_wp2_with fail
              refine ⟨⟨k + 1, A4, c4, ms ++ [⟨A2, c2, R⟩], by omega, by go_num, by simp, by simp; omega, ?_, HO4.out, HI4.out, (hbb.alloc hbase _).trans hb4⟩, by simp [intOf]; omega⟩
              unfold Hid
              rw [List.map_append, Hms.out]
              exact HQ.out
        · have HE : Hid (ms.map RowI.ns = rs.map (rowOf xs)) := by
            unfold Hid
            rw [Hms.out, List.take_of_length_le (by omega)]
          have HL : Hid (ms.length = (rs.map (rowOf xs)).length) := by
            unfold Hid
            rw [← HE.out, List.length_map]
          clear Hms
          go_wp2_with fail
          go_ret2
          exact ⟨A', c', by rw [HF.out, ← HL.out]; rfl, by rw [HF.out]; exact ⟨ms, HE.out, HO.out.flat rowI_len, HN.out⟩, by rw [HF.out, ← HL.out]; exact HO.out.cap, hb⟩
    · have HF : Hid (tableR rs xs = ([], 1)) := by unfold Hid tableR; rw [if_neg (fun hh => z hh.2)]
      generalize tableR rs xs = res at HF ⊢
      rw [r] at hI
      rw [eq_false_of_ne_true z] at hJ
      have HI := Lib.hid hI; clear hI
      clear r z
      go_enter Try.func36, Try.ntmps36
      go_wp2_with fail
      refine HI.out.mono ?_
      rintro e w1 ⟨rfl, hb1⟩
      go_wp2_with fail
      refine (hJ.out w1 (hs.next hb1)).mono ?_
      rintro e w2 ⟨rfl, hb2⟩
      go_wp2_with fail
      go_ret2
      exact ⟨none, 0, by rw [HF.out]; rfl, by rw [HF.out]; exact FlatI.nil, by rw [HF.out]; exact Nat.le_refl _, bthen hb1 hb2⟩
  · have HF : Hid (tableR rs xs = ([], 1)) := by unfold Hid tableR; rw [if_neg (fun hh => r hh.1)]
    generalize tableR rs xs = res at HF ⊢
    rw [eq_false_of_ne_true r] at hI
    have HI := Lib.hid hI; clear hI
    clear r
    go_enter Try.func36, Try.ntmps36
    go_wp2_with fail
    refine HI.out.mono ?_
    rintro e w1 ⟨rfl, hb1⟩
    go_wp2_with fail
    go_ret2
    exact ⟨none, 0, by rw [HF.out]; rfl, by rw [HF.out]; exact FlatI.nil, by rw [HF.out]; exact Nat.le_refl _, hb1⟩

set_option maxHeartbeats 2000000 in
theorem l19Table_any (A : Option Addr) (c : Nat) (rs : List RidT) (S : Option Addr) (sc : Nat) (xs : List SizT) (w : World) (hr : Rd w w.heap.size 3 ridrC A rs) (hm : rs.length ≤ 1048576) (hs : Rd w w.heap.size 4 sizeC S xs) (hsm : xs.length ≤ 1048576) (hg : ∀ x ∈ xs, x.1.size ≤ maxLen) :
    Calls Try.prog 84 #[.slice A rs.length c, .slice S xs.length sc] w (GivesI w (tableR rs xs)) := by
  have hJ := areSizes_spec S sc xs w hs hsm hg
  have Hg := Lib.hid hg; clear hg
  by_cases z : sizesB xs = true
  · by_cases h60 : rs.length ≤ 60
    · rw [z] at hJ
      have HJ := Lib.hid hJ; clear hJ
      have HF : Hid (ridersB rs = true → tableR rs xs = (rs.map (rowOf xs), 0)) := fun r => by unfold tableR; rw [if_pos ⟨r, z⟩]
      have HG : Hid (ridersB rs = false → tableR rs xs = ([], 1)) := fun r => by unfold tableR; rw [if_neg (fun hh => by rw [r] at hh; cases hh.1)]
      have HB : Hid (ridersB rs = rs.all ridB) := by
        unfold Hid ridersB
        rw [decide_eq_true h60]
        rfl
      have h12 := sizesB_len z
      have Hz := Lib.hid z; clear z
      generalize tableR rs xs = res at HF HG ⊢
      go_enter Try.func84, Try.ntmps84
      go_wp2_with fail
      refine HJ.out.mono ?_
      rintro e w1 ⟨rfl, hb1⟩
      have hs1 := hb1.size
      have hst : Own (w1.alloc (.cells #[] 38)) w.heap.size 38 1 rowI (some ⟨w1.heap.size, 0, none⟩) 0 [] := Own.made _ (by omega) rfl
      have hb02 := bthen hb1 (balloc w1 (.cells #[] 38))
      go_wp2_with fail
      generalize w1.alloc (.cells #[] 38) = W at hst hb02 ⊢
      go_loopw [6, 7] (fun out i wr => ∃ (k : Nat) (A' : Option Addr) (c' : Nat) (ms : List RowI), k ≤ rs.length ∧ i = .int .i64 k ∧ out = .slice A' ms.length c' ∧ ms.length ≤ k ∧ Hid (ms.map RowI.ns = (rs.take k).map (rowOf xs)) ∧ Own wr w.heap.size 38 1 rowI A' c' ms ∧ InnerI wr w.heap.size wr.heap.size ms ∧ (rs.take k).all ridB = true ∧ Below w.heap.size w wr) (fun _ i _ => rs.length - (intOf i).toNat)
      case atStart => exact ⟨0, _, 0, [], Nat.zero_le _, rfl, rfl, Nat.le_refl _, rfl, hst, InnerI.nil, rfl, hb02⟩
      case round =>
        obtain ⟨k, A', c', ms, hk, rfl, rfl, hmk, Hms, hown, hin, hall, hb⟩ := hrel
        have HO := Lib.hid hown; clear hown
        have HN := Lib.hid hin; clear hin
        have Ha := Lib.hid hall; clear hall
        by_cases hlt : k < rs.length
        · have hx : rs[k]? = some rs[k] := List.getElem?_eq_getElem hlt
          obtain ⟨b, o, rfl, hB, h0, h1, h2⟩ := (hr.below hb).at3 hx rfl
          have HT : Hid ((rs.take k).map (rowOf xs) ++ [rowOf xs rs[k]] = (rs.take (k + 1)).map (rowOf xs)) := by
            unfold Hid
            rw [List.take_succ_eq_append_getElem hlt, List.map_append]
            rfl
          have hx0 : Hid (∀ t, rs[k] = t → ridB t = false → rs.all ridB = false) := fun t ht h => all_out hlt (by rw [ht]; exact h)
          have hy0 : Hid (∀ t, rs[k] = t → ridB t = true → (rs.take (k + 1)).all ridB = true) := fun t ht h => by rw [all_snoc hlt, Ha.out, ht, h]; rfl
          generalize rs[k] = t at h0 h1 h2 HT hx0 hy0
          clear hx
          have hI := isRider_spec t.1 t.2.1 t.2.2
          have hx2 : Hid (ridB t = false → rs.all ridB = false) := hx0.out t rfl
          have hy2 : Hid (ridB t = true → (rs.take (k + 1)).all ridB = true) := hy0.out t rfl
          rw [show riderB t.1 t.2.1 t.2.2 = ridB t from rfl] at hI
          have HI := Lib.hid hI
          clear hI hx0 hy0
          cases e : ridB t with
          | false =>
            rw [e] at HI
            have HR := Lib.hid (HG.out (HB.out.trans (hx2.out e)))
            clear e hx2 hy2
            go_wp2_with fail
            refine (HI.out _).mono ?_
            rintro e w' ⟨rfl, hb2⟩
            go_wp2_with fail
            go_ret2
            exact ⟨none, 0, by rw [HR.out]; rfl, by rw [HR.out]; exact FlatI.nil, by rw [HR.out]; exact Nat.le_refl _, bthen' hb hb2⟩
          | true =>
            rw [e] at HI
            have HF2 := Lib.hid (hy2.out e)
            have HW : Hid (∀ v : World, Rd v v.heap.size 4 sizeC S xs → Calls Try.prog 97 #[.agg #[.int .i64 t.1, .int .i64 t.2.1, .int .i64 t.2.2], .slice S xs.length sc] v (GivesOwn v 2 1 iC (rowOf xs t))) := fun v hv => l19Which_any t.1 t.2.1 t.2.2 e S sc xs v hv hsm Hz.out
            have hRl : (rowOf xs t).length ≤ 12 := by
              have := idxTo_le (suitT t.1 t.2.1 t.2.2) xs xs.length
              unfold rowOf
              omega
            clear e hx2 hy2
            generalize rowOf xs t = R at HW HT hRl
            go_wp2_with fail
            refine (HI.out _).mono ?_
            rintro e w2 ⟨rfl, hb2⟩
            have hb02 : Below w.heap.size w w2 := bthen' hb hb2
            have HO2 := Lib.hid (HO.out.keep hb2)
            have HN2 : Hid (InnerI w2 w.heap.size w2.heap.size ms) := (HN.out.below hb2 (Nat.le_refl _)).mono (Nat.le_refl _) hb2.size
            obtain ⟨hcc, hff⟩ := bcell hb2
            have g0 : w2.cell? ⟨b, o + k * 3, none⟩ = some (.int .i64 t.1) := (hb2.cell (p := ⟨b, o + k * 3, none⟩) (World.block_lt_of_cell? wr _ h0)).trans h0
            have g1 : w2.cell? ⟨b, o + k * 3 + 1, none⟩ = some (.int .i64 t.2.1) := (hb2.cell (p := ⟨b, o + k * 3 + 1, none⟩) (World.block_lt_of_cell? wr _ h1)).trans h1
            have g2 : w2.cell? ⟨b, o + k * 3 + 2, none⟩ = some (.int .i64 t.2.2) := (hb2.cell (p := ⟨b, o + k * 3 + 2, none⟩) (World.block_lt_of_cell? wr _ h2)).trans h2
            clear hcc hff h0 h1 h2 HO HN hb2
            go_wp2_with fail
            refine (HW.out w2 ((hs.below hb02).more hb02.size)).mono ?_
            rintro e w3 ⟨A2, c2, rfl, hf3, hc3, hb3⟩
            have hbb := bthen' hb02 hb3
            have HR2 : Hid (Flat w3 w2.heap.size w3.heap.size 2 1 nC A2 R) := hf3
            have HO3 := Lib.hid (HO2.out.keep hb3)
            have HN3 : Hid (InnerI w3 w.heap.size w2.heap.size ms) := HN2.out.below hb3 (Nat.le_refl _)
            have hs3 := hb3.size
            have hs2 := hb02.size
            clear hf3 HO2 HN2 g0 g1 g2
            have hbase : w.heap.size ≤ w3.heap.size := hbb.size
            go_wp2_with (at_builtin; refine wpList_append_far rfl _ _ _ rfl w.heap.size 38 (.slice none 0 0) 1 24 Try.underlying51 infoRowI rfl (by omega) (by omega) rowI ms ⟨A2, c2, R⟩ A' c' rfl (HO3.out.keep (balloc _ _)) w3.heap.size _ rfl rfl (one_cell (by go_simp)) (by simp [rowI]; rfl) (by omega) (by simp; omega) ?_)
            intro A4 c4 w4 hown4 hb4 hfar4
            have hs4 := hb4.size
            simp only [World.size_alloc] at hs4
            have HI4 : Hid (InnerI w4 w.heap.size w4.heap.size (ms ++ [⟨A2, c2, R⟩])) :=
              (((HN3.out.snoc (m := ⟨A2, c2, R⟩) HR2.out (by omega) (by omega)).below (balloc w3 (.cells #[.slice A2 R.length c2] 38)) (Nat.le_refl _)).far (HO3.out.keep (balloc w3 (.cells #[.slice A2 R.length c2] 38))) (by decide) (by simp) (fun g hg => hfar4 g (by simpa using hg))).mono (Nat.le_refl _) (by omega)
            have HO4 := Lib.hid hown4; clear hown4 hfar4
            go_wp2_with fail
            refine ⟨⟨k + 1, A4, c4, ms ++ [⟨A2, c2, R⟩], by omega, by go_num, by simp, by simp; omega, ?_, HO4.out, HI4.out, HF2.out, (hbb.alloc hbase _).trans hb4⟩, by simp [intOf]; omega⟩
            unfold Hid
            rw [List.map_append, Hms.out]
            exact HT.out
        · have HE : Hid (ms.map RowI.ns = rs.map (rowOf xs)) := by
            unfold Hid
            rw [Hms.out, List.take_of_length_le (by omega)]
          have HL : Hid (ms.length = (rs.map (rowOf xs)).length) := by
            unfold Hid
            rw [← HE.out, List.length_map]
          have hT := Ha.out
          rw [List.take_of_length_le (by omega)] at hT
          have HF2 := Lib.hid (HF.out (HB.out.trans hT))
          clear Hms hT
          go_wp2_with fail
          go_ret2
          exact ⟨A', c', by rw [HF2.out, ← HL.out]; rfl, by rw [HF2.out]; exact ⟨ms, HE.out, HO.out.flat rowI_len, HN.out⟩, by rw [HF2.out, ← HL.out]; exact HO.out.cap, hb⟩
    · have HF : Hid (tableR rs xs = ([], 1)) := by
        unfold Hid tableR
        rw [if_neg (fun hh => h60 (ridersB_len hh.1))]
      generalize tableR rs xs = res at HF ⊢
      rw [z] at hJ
      have HJ := Lib.hid hJ; clear hJ z
      go_enter Try.func84, Try.ntmps84
      go_wp2_with fail
      refine HJ.out.mono ?_
      rintro e w1 ⟨rfl, hb1⟩
      go_wp2_with fail
      go_ret2
      exact ⟨none, 0, by rw [HF.out]; rfl, by rw [HF.out]; exact FlatI.nil, by rw [HF.out]; exact Nat.le_refl _, hb1⟩
  · have HF : Hid (tableR rs xs = ([], 1)) := by unfold Hid tableR; rw [if_neg (fun hh => z hh.2)]
    generalize tableR rs xs = res at HF ⊢
    rw [eq_false_of_ne_true z] at hJ
    have HJ := Lib.hid hJ; clear hJ z
    go_enter Try.func84, Try.ntmps84
    go_wp2_with fail
    refine HJ.out.mono ?_
    rintro e w1 ⟨rfl, hb1⟩
    go_wp2_with fail
    go_ret2
    exact ⟨none, 0, by rw [HF.out]; rfl, by rw [HF.out]; exact FlatI.nil, by rw [HF.out]; exact Nat.le_refl _, hb1⟩

set_option maxHeartbeats 1000000 in
theorem SizesTable_spec (A : Option Addr) (c : Nat) (rs : List RidT) (S : Option Addr) (sc : Nat) (xs : List SizT) (w : World) (hr : Rd w w.heap.size 3 ridrC A rs) (hm : rs.length ≤ 1048576) (hs : Rd w w.heap.size 4 sizeC S xs) (hsm : xs.length ≤ 1048576) (hg : ∀ x ∈ xs, x.1.size ≤ maxLen) :
    Calls Try.prog 33 #[.slice A rs.length c, .slice S xs.length sc] w (GivesI w (tableR rs xs)) := by
  have HT := Lib.hid (l19Table_any A c rs S sc xs w hr hm hs hsm hg)
  clear hr hs hg
  generalize tableR rs xs = res at HT ⊢
  go_enter Try.func33, Try.ntmps33
  go_wp2_with fail
  refine HT.out.mono ?_
  rintro e w1 ⟨A1, c1, rfl, hf, hc, hb⟩
  go_wp2_with fail
  go_ret2
  exact ⟨A1, c1, rfl, hf, hc, hb⟩

end Go.Proofs.Ytfdnpobppelhaaa
