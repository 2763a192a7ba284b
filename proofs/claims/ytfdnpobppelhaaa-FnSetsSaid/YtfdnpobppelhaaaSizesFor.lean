/- DERIVED. All sizes that suit. -/
import Derived.Test.YtfdnpobppelhaaaBest
import Derived.Test.YtfdnpobppelhaaaSl
namespace Go.Proofs.Ytfdnpobppelhaaa
set_option maxRecDepth 100000
open Go.RowKit

abbrev SizeT := ByteArray × Int × Int × Int
def nameT (t : SizeT) : ByteArray := t.1
def forR (h i a : Int) (xs : List SizeT) : List ByteArray × Int := if riderB h i a = true ∧ sizesB xs = true then (keepTo (suitT h i a) nameT xs xs.length, 0) else ([], 1)

set_option maxHeartbeats 2000000 in
theorem SizesFor_impl (h i0 a : Int) (A : Option Addr) (c : Nat) (xs : List SizeT) (w : World) (hr : Rd w w.heap.size 4 sizeC A xs) (hm : xs.length ≤ 1048576) (hc : xs.length ≤ c) (hg : ∀ x ∈ xs, x.1.size ≤ maxLen) :
    Calls Try.prog 53 #[.agg #[.int .i64 h, .int .i64 i0, .int .i64 a], .slice A xs.length c] w (GivesRes w 9 1 tC (forR h i0 a xs)) := by
  have hI := isRider_impl h i0 a
  have hJ : Hid (∀ v : World, Rd v v.heap.size 4 sizeC A xs → Calls Try.prog 19 #[.slice A xs.length c] v fun e w' => e = .returned (.bool (sizesB xs)) ∧ Below v.heap.size v w') := fun v hv => areSizes_impl A c xs v hv hm hc hg
  have Hg := Lib.hid hg; clear hg
  by_cases r : riderB h i0 a = true
  · by_cases hs : sizesB xs = true
    · have HF : Hid (forR h i0 a xs = (keepTo (suitT h i0 a) nameT xs xs.length, 0)) := by unfold Hid forR; rw [if_pos ⟨r, hs⟩]
      generalize forR h i0 a xs = res at HF ⊢
      rw [r] at hI
      rw [hs] at hJ
      have HI := Lib.hid hI; clear hI
      have Hr := Lib.hid r; clear r
      have Hs := Lib.hid hs; clear hs
      go_enter Try.func53, Try.ntmps53
      go_wp2_with fail
      have c0 : (w.alloc (.cells #[.int .i64 h, .int .i64 i0, .int .i64 a] 25)).cell? ⟨w.heap.size, 0, none⟩ = some (.int .i64 h) := by go_simp
      have c1 : (w.alloc (.cells #[.int .i64 h, .int .i64 i0, .int .i64 a] 25)).cell? ⟨w.heap.size, 1, none⟩ = some (.int .i64 i0) := by go_simp
      have c2 : (w.alloc (.cells #[.int .i64 h, .int .i64 i0, .int .i64 a] 25)).cell? ⟨w.heap.size, 2, none⟩ = some (.int .i64 a) := by go_simp
      have hbw := balloc w (.cells #[.int .i64 h, .int .i64 i0, .int .i64 a] 25)
      have hbs : (w.alloc (.cells #[.int .i64 h, .int .i64 i0, .int .i64 a] 25)).heap.size = w.heap.size + 1 := by simp
      generalize w.alloc (.cells #[.int .i64 h, .int .i64 i0, .int .i64 a] 25) = W at c0 c1 c2 hbw hbs ⊢
      generalize hg0 : w.heap.size = g0 at c0 c1 c2 ⊢
      refine (HI.out _).mono ?_
      rintro e w1 ⟨rfl, hb1⟩
      go_wp2_with fail
      refine (hJ.out w1 ((hr.below (bthen hbw hb1)).more (bthen hbw hb1).size)).mono ?_
      rintro e w2 ⟨rfl, hb2⟩
      have hb12 := bthen hb1 hb2
      clear hb1 hb2
      have hs2 := hb12.size
      have hst : Own w2 (w.heap.size + 1) 9 1 tC none 0 [] := Own.nil
      have hb02 : Below (w.heap.size + 1) W w2 := hb12.mono (by omega)
      go_wp2_with fail
      go_loopw [6, 19] (fun out i wr => ∃ (k : Nat) (A' : Option Addr) (c' : Nat), k ≤ xs.length ∧ i = .int .i64 k ∧ out = .slice A' (keepTo (suitT h i0 a) nameT xs k).length c' ∧ Own wr (w.heap.size + 1) 9 1 tC A' c' (keepTo (suitT h i0 a) nameT xs k) ∧ Below (w.heap.size + 1) W wr) (fun _ i _ => xs.length - (intOf i).toNat)
      case atStart => exact ⟨0, none, 0, Nat.zero_le _, rfl, rfl, hst, hb02⟩
      case round =>
        obtain ⟨k, A', c', hk, rfl, rfl, hown, hb⟩ := hrel
        have Ho := Lib.hid hown; clear hown
        by_cases hlt : k < xs.length
        · have hx : xs[k]? = some xs[k] := List.getElem?_eq_getElem hlt
          obtain ⟨b, o, rfl, hB, h0, h1, h2, h3⟩ := (hr.below (hbw.trans (hb.mono (by omega)))).at4 hx rfl
          generalize xs[k] = t at h0 h1 h2 h3 hx
          have Hx := Lib.hid hx; clear hx
          have Hc : Hid (∀ v : World, Calls Try.prog 61 #[.agg #[.int .i64 h, .int .i64 i0, .int .i64 a], .agg #[.string t.1, .int .i64 t.2.1, .int .i64 t.2.2.1, .int .i64 t.2.2.2]] v fun e w' => e = .returned (.bool (suitT h i0 a t)) ∧ Below v.heap.size v w') := fun v => doesSuit_any h i0 a Hr.out t.1 t.2.1 t.2.2.1 t.2.2.2 (sizesB_ok Hs.out Hx.out) v
          have HD := Lib.hid (show (suitT h i0 a t = true ∧ keepTo (suitT h i0 a) nameT xs (k + 1) = keepTo (suitT h i0 a) nameT xs k ++ [t.1]) ∨ (suitT h i0 a t = false ∧ keepTo (suitT h i0 a) nameT xs (k + 1) = keepTo (suitT h i0 a) nameT xs k) by
            by_cases e : suitT h i0 a t = true
            · exact Or.inl ⟨e, keepTo_yes Hx.out e⟩
            · exact Or.inr ⟨by simpa using e, keepTo_no Hx.out (by simpa using e)⟩)
          have hle := keepTo_le (suitT h i0 a) nameT xs k
          generalize keepTo (suitT h i0 a) nameT xs k = l1 at HD Ho hle ⊢
          generalize suitT h i0 a t = st at HD Hc
          clear Hx
          have e0 : wr.cell? ⟨g0, 0, none⟩ = some (.int .i64 h) := (hb.cell (p := ⟨g0, 0, none⟩) (by simp [hg0])).trans c0
          have e1 : wr.cell? ⟨g0, 1, none⟩ = some (.int .i64 i0) := (hb.cell (p := ⟨g0, 1, none⟩) (by simp [hg0])).trans c1
          have e2 : wr.cell? ⟨g0, 2, none⟩ = some (.int .i64 a) := (hb.cell (p := ⟨g0, 2, none⟩) (by simp [hg0])).trans c2
          have hgw : g0 < wr.heap.size := World.block_lt_of_cell? wr _ e0
          go_wp2_with fail
          refine (Hc.out _).mono ?_
          rintro e w3 ⟨rfl, hb3⟩
          obtain ⟨hcc, hff⟩ := bcell hb3
          have f3 : w3.cell? ⟨wr.heap.size, 0, none⟩ = some (.string t.1) := by go_simp
          have Ho3 := Lib.hid ((Ho.out.keep (balloc _ (.cells #[.string t.1, .int .i64 t.2.1, .int .i64 t.2.2.1, .int .i64 t.2.2.2] 27))).keep hb3)
          have hbb := bthen' (bthen' hb (balloc _ (.cells #[.string t.1, .int .i64 t.2.1, .int .i64 t.2.2.1, .int .i64 t.2.2.2] 27))) hb3
          clear hcc hff hb3 h0 h1 h2 h3 e0 e1 e2 hb
          generalize wr.heap.size = gx at f3 hgw ⊢
          clear Ho
          cases st
          case false =>
            go_wp2_with fail
            rcases HD.out with ⟨e, _⟩ | ⟨_, e⟩
            · cases e
            · exact ⟨⟨k + 1, _, _, by omega, by go_num, by rw [e], by rw [e]; exact Ho3.out, hbb⟩, by simp [intOf]; omega⟩
          case true =>
            have hbase : w.heap.size + 1 ≤ w3.heap.size := by have := hbb.size; omega
            go_wp2_with (at_builtin; refine wpList_append_el rfl _ _ _ rfl (w.heap.size + 1) 9 (.string ⟨#[]⟩) 1 16 Try.underlying72 infoString rfl (by omega) (by omega) tC l1 t.1 A' c' rfl (Ho3.out.keep (balloc _ _)) w3.heap.size _ rfl rfl (one_cell (by go_simp)) (by simp [tC]; rfl) (by omega) (by simp; omega) ?_)
            intro A2 c2 w4 hown4 hgr hb4
            have Ho4 := Lib.hid hown4; clear hown4
            go_wp2_with fail
            rcases HD.out with ⟨_, e⟩ | ⟨e, _⟩
            · exact ⟨⟨k + 1, A2, c2, by omega, by go_num, by rw [e]; simp, by rw [e, hg0]; exact Ho4.out, by rw [hg0] at hbb hbase ⊢; exact (hbb.alloc hbase _).trans hb4⟩, by simp [intOf]; omega⟩
            · cases e
        · obtain rfl : k = xs.length := by omega
          go_wp2_with fail
          go_ret2
          exact ⟨A', c', (by rw [HF.out]; first | done | rfl), by rw [HF.out]; exact (Ho.out.flat (fun _ => rfl)).mono (by omega) (Nat.le_refl _), by rw [HF.out]; exact Ho.out.cap, hbw.trans (hb.mono (by omega))⟩
    · have HF : Hid (forR h i0 a xs = ([], 1)) := by unfold Hid forR; rw [if_neg (fun hh => hs hh.2)]
      generalize forR h i0 a xs = res at HF ⊢
      rw [r] at hI
      rw [eq_false_of_ne_true hs] at hJ
      have HI := Lib.hid hI; clear hI
      clear r hs
      go_enter Try.func53, Try.ntmps53
      go_wp2_with fail
      refine (HI.out _).mono ?_
      rintro e w1 ⟨rfl, hb1⟩
      go_wp2_with fail
      refine (hJ.out w1 ((hr.below (bthen (balloc _ _) hb1)).more (bthen (balloc _ _) hb1).size)).mono ?_
      rintro e w2 ⟨rfl, hb2⟩
      go_wp2_with fail
      go_ret2
      exact ⟨none, 0, by rw [HF.out]; rfl, by rw [HF.out]; exact flat_nil, by rw [HF.out]; exact Nat.le_refl _, bthen (balloc _ _) (bthen hb1 hb2)⟩
  · have HF : Hid (forR h i0 a xs = ([], 1)) := by unfold Hid forR; rw [if_neg (fun hh => r hh.1)]
    generalize forR h i0 a xs = res at HF ⊢
    rw [eq_false_of_ne_true r] at hI
    have HI := Lib.hid hI; clear hI
    clear r
    go_enter Try.func53, Try.ntmps53
    go_wp2_with fail
    refine (HI.out _).mono ?_
    rintro e w1 ⟨rfl, hb1⟩
    go_wp2_with fail
    go_ret2
    exact ⟨none, 0, by rw [HF.out]; rfl, by rw [HF.out]; exact flat_nil, by rw [HF.out]; exact Nat.le_refl _, bthen (balloc _ _) hb1⟩

set_option maxHeartbeats 2000000 in
theorem SizesFor_spec (h i0 a : Int) (A : Option Addr) (c : Nat) (xs : List SizeT) (w : World) (hr : Rd w w.heap.size 4 sizeC A xs) (hm : xs.length ≤ 1048576) (hg : ∀ x ∈ xs, x.1.size ≤ maxLen) :
    Calls Try.prog 54 #[.agg #[.int .i64 h, .int .i64 i0, .int .i64 a], .slice A xs.length c] w (GivesRes w 9 1 tC (forR h i0 a xs)) := by
  have hI := isRider_spec h i0 a
  have hJ : Hid (∀ v : World, Rd v v.heap.size 4 sizeC A xs → Calls Try.prog 20 #[.slice A xs.length c] v fun e w' => e = .returned (.bool (sizesB xs)) ∧ Below v.heap.size v w') := fun v hv => areSizes_spec A c xs v hv hm hg
  have Hg := Lib.hid hg; clear hg
  by_cases r : riderB h i0 a = true
  · by_cases hs : sizesB xs = true
    · have HF : Hid (forR h i0 a xs = (keepTo (suitT h i0 a) nameT xs xs.length, 0)) := by unfold Hid forR; rw [if_pos ⟨r, hs⟩]
      generalize forR h i0 a xs = res at HF ⊢
      rw [r] at hI
      rw [hs] at hJ
      have HI := Lib.hid hI; clear hI
      have Hr := Lib.hid r; clear r
      have Hs := Lib.hid hs; clear hs
      go_enter Try.func54, Try.ntmps54
      go_wp2_with fail
      have c0 : (w.alloc (.cells #[.int .i64 h, .int .i64 i0, .int .i64 a] 25)).cell? ⟨w.heap.size, 0, none⟩ = some (.int .i64 h) := by go_simp
      have c1 : (w.alloc (.cells #[.int .i64 h, .int .i64 i0, .int .i64 a] 25)).cell? ⟨w.heap.size, 1, none⟩ = some (.int .i64 i0) := by go_simp
      have c2 : (w.alloc (.cells #[.int .i64 h, .int .i64 i0, .int .i64 a] 25)).cell? ⟨w.heap.size, 2, none⟩ = some (.int .i64 a) := by go_simp
      have hbw := balloc w (.cells #[.int .i64 h, .int .i64 i0, .int .i64 a] 25)
      have hbs : (w.alloc (.cells #[.int .i64 h, .int .i64 i0, .int .i64 a] 25)).heap.size = w.heap.size + 1 := by simp
      generalize w.alloc (.cells #[.int .i64 h, .int .i64 i0, .int .i64 a] 25) = W at c0 c1 c2 hbw hbs ⊢
      generalize hg0 : w.heap.size = g0 at c0 c1 c2 ⊢
      refine (HI.out _).mono ?_
      rintro e w1 ⟨rfl, hb1⟩
      go_wp2_with fail
      refine (hJ.out w1 ((hr.below (bthen hbw hb1)).more (bthen hbw hb1).size)).mono ?_
      rintro e w2 ⟨rfl, hb2⟩
      have hb12 := bthen hb1 hb2
      clear hb1 hb2
      have hb02 : Below (w.heap.size + 1) W w2 := hb12.mono (by omega)
      have hs2 := hb12.size
      have HW : Hid (∀ v : World, Rd v v.heap.size 4 sizeC A xs → Calls Try.prog 97 #[.agg #[.int .i64 h, .int .i64 i0, .int .i64 a], .slice A xs.length c] v (GivesOwn v 2 1 iC (idxTo (suitT h i0 a) xs xs.length))) := fun v hv => l19Which_any h i0 a Hr.out A c xs v hv hm Hs.out
      have HM := Lib.hid (fun n hn => idxTo_mem (p := suitT h i0 a) (xs := xs) (k := xs.length) (n := n) hn)
      have HK := Lib.hid (idx_keep (p := suitT h i0 a) (g := nameT) (z := ⟨#[]⟩) (xs := xs) xs.length)
      have hle := idxTo_le (suitT h i0 a) xs xs.length
      generalize idxTo (suitT h i0 a) xs xs.length = L at HM HK HW hle
      rw [← HK.out] at HF
      clear HK
      have e0 : w2.cell? ⟨g0, 0, none⟩ = some (.int .i64 h) := (hb02.cell (p := ⟨g0, 0, none⟩) (by simp [hg0])).trans c0
      have e1 : w2.cell? ⟨g0, 1, none⟩ = some (.int .i64 i0) := (hb02.cell (p := ⟨g0, 1, none⟩) (by simp [hg0])).trans c1
      have e2 : w2.cell? ⟨g0, 2, none⟩ = some (.int .i64 a) := (hb02.cell (p := ⟨g0, 2, none⟩) (by simp [hg0])).trans c2
      have hgw : g0 < w2.heap.size := World.block_lt_of_cell? w2 _ e0
      have hst : Own (w2.alloc (.cells #[] 9)) (w.heap.size + 1) 9 1 tC (some ⟨w2.heap.size, 0, none⟩) 0 [] := Own.made _ (by omega) rfl
      have hb2b := bthen hb12 (balloc w2 (.cells #[] 9))
      have hr2 := ((hr.below (bthen hbw hb2b)).more (bthen hbw hb2b).size)
      go_wp2_with fail
      refine (HW.out _ hr2).mono ?_
      rintro e w3 ⟨A3, c3, rfl, hf3, hc3, hb3⟩
      have hb13 := bthen hb2b hb3
      have hst3 := hst.keep hb3
      have hs3 := hb3.size
      simp at hs3
      have hap : 0 < L.length → ∀ gb o, A3 = some ⟨gb, o, none⟩ → gb < w3.heap.size ∧ Apart (some ⟨w2.heap.size, 0, none⟩) gb := fun hL gb o e => by
        obtain ⟨g, m, e', h1, h2, _⟩ := hf3 hL
        rw [e] at e'
        simp only [Option.some.injEq, Addr.mk.injEq] at e'
        obtain ⟨rfl, _, _⟩ := e'
        refine ⟨h2, fun b o' e2 => ?_⟩
        simp only [Option.some.injEq, Addr.mk.injEq] at e2
        obtain ⟨rfl, _, _⟩ := e2
        simp at h1
        omega
      have hr3 := hf3.rd
      clear e0 e1 e2 hf3 hst
      generalize w2.heap.size = g2 at hst3 hap ⊢
      go_wp2_with fail
      go_loopw [6, 8] (fun out i wr => ∃ (k : Nat) (A' : Option Addr) (c' : Nat), k ≤ L.length ∧ i = .int .i64 k ∧ out = .slice A' k c' ∧ Own wr (w.heap.size + 1) 9 1 tC A' c' ((L.take k).map (atI nameT ⟨#[]⟩ xs)) ∧ Below (w.heap.size + 1) W wr ∧ Rd wr w3.heap.size 1 iC A3 L ∧ w3.heap.size ≤ wr.heap.size ∧ (0 < L.length → ∀ gb o, A3 = some ⟨gb, o, none⟩ → Apart A' gb)) (fun _ i _ => L.length - (intOf i).toNat)
      case atStart => exact ⟨0, _, _, Nat.zero_le _, rfl, rfl, hst3, hb13.mono (by omega), hr3, Nat.le_refl _, fun hL gb o e => (hap hL gb o e).2⟩
      case round =>
        obtain ⟨k, A', c', hk, rfl, rfl, hown, hb, hrL, hsz, hapr⟩ := hrel
        have Ho := Lib.hid hown; clear hown
        have hlk : ((L.take k).map (atI nameT ⟨#[]⟩ xs)).length = k := by rw [List.length_map, List.length_take]; omega
        by_cases hlt : k < L.length
        · have hm1 : L[k]? = some L[k] := List.getElem?_eq_getElem hlt
          obtain ⟨gb, go, rfl, hgB, h10⟩ := hrL.at1 hm1 rfl
          rw [Nat.mul_one] at h10
          obtain ⟨j1, t, ej1, hj1, ht1, _⟩ := HM.out _ (List.mem_of_getElem? hm1)
          have HT : Hid ((L.take (k + 1)).map (atI nameT ⟨#[]⟩ xs) = (L.take k).map (atI nameT ⟨#[]⟩ xs) ++ [t.1]) := by
            unfold Hid
            rw [List.take_succ_eq_append_getElem hlt, List.map_append, ej1]
            simp [atI, ht1, nameT]
          generalize (L.take k).map (atI nameT ⟨#[]⟩ xs) = l1 at Ho HT hlk
          generalize L[k] = nk at h10 ej1
          subst ej1
          obtain ⟨b, o, rfl, hB, h0, h1, h2, h3⟩ := (hr.below (hbw.trans (hb.mono (by omega)))).at4 ht1 rfl
          clear ht1 h1 h2 h3 hm1
          have hbase : w.heap.size + 1 ≤ wr.heap.size := by have := hb.size; omega
          have hgx : gb < wr.heap.size := by omega
          subst hlk
          go_wp2_with (at_builtin; refine wpList_append_far rfl _ _ _ rfl (w.heap.size + 1) 9 (.string ⟨#[]⟩) 1 16 Try.underlying72 infoString rfl (by omega) (by omega) tC l1 t.1 A' c' rfl (Ho.out.keep (balloc _ _)) wr.heap.size _ rfl rfl (one_cell (by go_simp)) (by simp [tC]; rfl) (by omega) (by simp; omega) ?_)
          intro A2 c2 w4 hown4 hb4 hfar
          have Ho4 := Lib.hid hown4; clear hown4
          have hq := hfar gb (by first | omega | (simp; omega)) (hapr (by omega) gb go rfl)
          have hrd4 : Rd w4 w3.heap.size 1 iC (some ⟨gb, go, none⟩) L := (hrL.below ((balloc wr _).mono (by omega))).keepAt (fun b' o' e' _ => by
            simp only [Option.some.injEq, Addr.mk.injEq] at e'
            obtain ⟨rfl, _, _⟩ := e'
            exact hq.2)
          have hb4s := hb4.size
          simp at hb4s
          clear hfar h0 h10
          go_wp2_with fail
          refine ⟨⟨l1.length + 1, A2, c2, by omega, by go_num, rfl, by rw [HT.out]; first | exact Ho4.out | (rw [hg0]; exact Ho4.out), ?_, hrd4, by omega, fun _ gb' o' e' => ?_⟩, by simp [intOf]; omega⟩
          · first | exact (hb.alloc hbase _).trans hb4 | (rw [hg0] at hb hbase ⊢; exact (hb.alloc hbase _).trans hb4)
          · simp only [Option.some.injEq, Addr.mk.injEq] at e'
            obtain ⟨rfl, _, _⟩ := e'
            exact hq.1
        · obtain rfl : k = L.length := by omega
          rw [List.take_length] at Ho
          go_wp2_with fail
          go_ret2
          exact ⟨A', c', by rw [HF.out]; simp, by rw [HF.out]; exact (Ho.out.flat (fun _ => rfl)).mono (by omega) (Nat.le_refl _), by rw [HF.out]; exact Ho.out.cap, hbw.trans (hb.mono (by omega))⟩
    · have HF : Hid (forR h i0 a xs = ([], 1)) := by unfold Hid forR; rw [if_neg (fun hh => hs hh.2)]
      generalize forR h i0 a xs = res at HF ⊢
      rw [r] at hI
      rw [eq_false_of_ne_true hs] at hJ
      have HI := Lib.hid hI; clear hI
      clear r hs
      go_enter Try.func54, Try.ntmps54
      go_wp2_with fail
      refine (HI.out _).mono ?_
      rintro e w1 ⟨rfl, hb1⟩
      go_wp2_with fail
      refine (hJ.out w1 ((hr.below (bthen (balloc _ _) hb1)).more (bthen (balloc _ _) hb1).size)).mono ?_
      rintro e w2 ⟨rfl, hb2⟩
      go_wp2_with fail
      go_ret2
      exact ⟨none, 0, by rw [HF.out]; rfl, by rw [HF.out]; exact flat_nil, by rw [HF.out]; exact Nat.le_refl _, bthen (balloc _ _) (bthen hb1 hb2)⟩
  · have HF : Hid (forR h i0 a xs = ([], 1)) := by unfold Hid forR; rw [if_neg (fun hh => r hh.1)]
    generalize forR h i0 a xs = res at HF ⊢
    rw [eq_false_of_ne_true r] at hI
    have HI := Lib.hid hI; clear hI
    clear r
    go_enter Try.func54, Try.ntmps54
    go_wp2_with fail
    refine (HI.out _).mono ?_
    rintro e w1 ⟨rfl, hb1⟩
    go_wp2_with fail
    go_ret2
    exact ⟨none, 0, by rw [HF.out]; rfl, by rw [HF.out]; exact flat_nil, by rw [HF.out]; exact Nat.le_refl _, bthen (balloc _ _) hb1⟩

end Go.Proofs.Ytfdnpobppelhaaa
