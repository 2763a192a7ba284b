/- DERIVED. The search of the program: one slot. -/
import Derived.Test.YtioblfbhjkkgoaaRun
namespace Go.Proofs.Ytioblfbhjkkgoaa
set_option maxRecDepth 100000
open Go.RowKit

set_option maxHeartbeats 4000000 in
theorem run_cons (W : World) (C : SrC) (k : Nat) (s : Int) (rest : List Int) (hs : SmallV C.vs) (hj : jointsB C.js = true) (hk : k < C.ss.length) (hsk : C.ss[k]? = some s) (hss : 0 ≤ s ∧ s < 8) (hn8 : C.ss.length ≤ 8) (hnd : (s :: rest).Nodup) (hrest : ∀ t ∈ rest, 0 ≤ t ∧ t < 8) (hIH : RunOk W C rest (k + 1)) : RunOk W C (s :: rest) k := by
  intro w bs st FA fc ms h hC hemp hst hn0 hn1 hm1
  obtain ⟨h0, h7⟩ := hss
  obtain ⟨s, rfl⟩ := Int.eq_ofNat_of_zero_le h0
  have hbs0 : bs[s]? = some noText := hemp (s : Int) (by simp)
  have hslt : s < bs.length := (List.getElem?_eq_some_iff.1 hbs0).1
  have hl8 : bs.length ≤ 8 := by have := hC.len; omega
  have hv16 := partsB_len hC.parts
  have hm := hs.1
  rw [traceS_cons] at hn1 hm1 ⊢
  have hmf : ms.length = st.found.length := by rw [← h.vals, List.length_map]
  have HIH : Hid (∀ (v : World) (x : PartT) (st' : St (List ByteArray)) (FA' : Option Addr) (fc' : Nat) (ms' : List RowM), x ∈ C.vs → RunSt W v C (bs.set s x.code) st' FA' fc' ms' → stopped C.single st' = false → 0 ≤ st'.nodes → st'.nodes + (traceS C.vs C.js rest (bs.set s x.code)).length ≤ 131071 → st'.found.length + (traceS C.vs C.js rest (bs.set s x.code)).length ≤ 131071 →
      Calls Try.prog 55 #[.pointer (some ⟨C.b, 0, none⟩), .int .i64 ((k : Int) + 1)] v (RunPost W C (bs.set s x.code) (runs C.most C.single st' (traceS C.vs C.js rest (bs.set s x.code))))) := fun v x st' FA' fc' ms' hx h1 h2 h3 h4 h5 => by
    refine hIH v (bs.set s x.code) st' FA' fc' ms' h1 (hC.put (s := (s : Int)) hx) (fun t ht => ?_) h2 h3 h4 (by rw [← List.length_map (f := RowM.bs), h1.vals]; exact h5)
    have hne : t ≠ (s : Int) := fun e => (List.nodup_cons.1 hnd).1 (e ▸ ht)
    have hb := hrest t ht
    rw [List.getElem?_set_ne (by omega)]
    exact hemp t (by simp [ht])
  have HBr : Hid (∀ (v : World) (x : PartT) (st' : St (List ByteArray)) (FA' : Option Addr) (fc' : Nat) (ms' : List RowM), x ∈ C.vs → RunSt W v C (bs.set s x.code) st' FA' fc' ms' → Calls Try.prog 69 #[.pointer (some ⟨C.b, 0, none⟩)] v fun e w' => e = .returned (.bool (anyBroken C.vs C.js (bs.set s x.code))) ∧ Below v.heap.size v w') := fun v x st' FA' fc' ms' hx h1 => broken_any W v C (bs.set s x.code) st' FA' fc' ms' h1 hs hj (hC.put (s := (s : Int)) hx)
  have HGF := gf C bs s rest st hn0 hn1 (by rw [← hmf]; exact hm1)
  generalize runs C.most C.single st (ways (stepS C.vs C.js) rest (stepS C.vs C.js (s : Int) bs)) = F at HGF ⊢
  generalize (fun i => runs C.most C.single st (ways (stepS C.vs C.js) rest (stepTo C.vs C.js (s : Int) bs i))) = G at HGF
  have HG := Lib.hid HGF
  have HB0 := Lib.hid hbs0
  have HR0 := Lib.hid h
  have q0 := h.c0
  have q2 := h.c2
  obtain ⟨gs, hgs⟩ := h.slots.some (by omega)
  rw [hgs] at q2
  have hsl := h.slots
  rw [hgs] at hsl
  have qs := hsl.cell1 hsk rfl
  have hbl := h.row.lt
  have hWl := h.low.size
  have hbW := h.bW
  clear h hC hemp hst hn0 hn1 hm1 hnd hrest hIH hs hj hmf HGF hbs0 hsl hgs
  have hkb : ((k : Int) == (C.ss.length : Int)) = false := by simp; omega
  go_enter Try.func55, Try.ntmps55
  go_wp2_with fail
  go_loopw [41] (fun i wr => ∃ (n : Nat) (FA' : Option Addr) (fc' : Nat) (ms' : List RowM) (v : ByteArray), n ≤ C.vs.length ∧ i = .int .i64 n ∧ RunSt W wr C (bs.set s v) (G n) FA' fc' ms') (fun i _ => C.vs.length - (intOf i).toNat)
  case atStart =>
    refine ⟨0, FA, fc, ms, noText, Nat.zero_le _, rfl, ?_⟩
    rw [HG.out.zero]
    have := set_back (v := noText) HB0.out
    rw [List.set_set] at this
    rw [this]
    exact HR0.out
  case round =>
    obtain ⟨n, FA', fc', ms', v, hn, rfl, hst⟩ := hrel
    have HS := Lib.hid hst; clear hst
    have hsl' : s < (bs.set s v).length := by rw [List.length_set]; exact hslt
    obtain ⟨hz0, hz1, hz2⟩ := HG.out.bd n
    by_cases hlt : n < C.vs.length
    · have hx : C.vs[n]? = some C.vs[n] := List.getElem?_eq_getElem hlt
      obtain ⟨bl, ol, hLA⟩ := HS.out.list.addr (by omega)
      have hlist := HS.out.list
      rw [hLA] at hlist ⊢
      obtain ⟨hB, pA, pc, p0, p1, p2, p3, p4, _, _⟩ := hlist.cells hx
      have hB' : bl < wr.heap.size := by have := HS.out.low.size; omega
      clear hlist hB
      generalize C.vs[n] = x at hx p0 p1 p2 p3 p4
      have hxm := List.mem_of_getElem? hx
      have Hx := Lib.hid hx; clear hx
      have HLA := Lib.hid hLA; clear hLA
      have HV := Lib.hid (HS.out.next (balloc wr (.cells #[.string x.code, .int .i64 x.slot, .slice pA x.ports.length pc, .int .i64 x.price, .int .i64 x.grams] 59)))
      by_cases hsx : x.slot = (s : Int)
      · rw [hsx] at HV
        have HStop := Lib.hid (HG.out.stop n x Hx.out hsx)
        have HBad := Lib.hid (HG.out.bad n x Hx.out hsx)
        have HGood := Lib.hid (HG.out.good n x Hx.out hsx)
        have HRoom := Lib.hid (HG.out.room n x Hx.out hsx)
        go_wp2_with fail
        have y0 : (wr.alloc (.cells #[.string x.code, .int .i64 (s : Int), .slice pA x.ports.length pc, .int .i64 x.price, .int .i64 x.grams] 59)).cell? ⟨wr.heap.size, 0, none⟩ = some (.string x.code) := by go_simp
        have hg0l : wr.heap.size < (wr.alloc (.cells #[.string x.code, .int .i64 (s : Int), .slice pA x.ports.length pc, .int .i64 x.price, .int .i64 x.grams] 59)).heap.size := by simp
        have hbg : C.b < wr.heap.size := HS.out.row.lt
        have hbbg : C.bb < wr.heap.size := by
          obtain ⟨_, hr, _⟩ := HS.out.brow
          exact hr.lt
        clear p0 p1 p2 p3 p4 hsx HS
        generalize wr.alloc (.cells #[.string x.code, .int .i64 (s : Int), .slice pA x.ports.length pc, .int .i64 x.price, .int .i64 x.grams] 59) = V at HV y0 hg0l ⊢
        generalize wr.heap.size = g0 at y0 hg0l hbg hbbg hB' ⊢
        have ng : ¬ g0 = C.b := by omega
        have ng' : ¬ C.b = g0 := by omega
        have ngb : ¬ g0 = C.bb := by omega
        have ngb' : ¬ C.bb = g0 := by omega
        have c4 := HV.out.c4
        have c5 := HV.out.c5
        go_quiet (fail)
        have hVV : ∀ m, RunSt W (V.drewN m) C (bs.set s v) (G n) FA' fc' ms' ∧ (V.drewN m).cell? ⟨g0, 0, none⟩ = some (.string x.code) := fun m => ⟨HV.out.next (below_drewN (Below.refl _ _) m), by simpa using y0⟩
        clear c4 c5
        generalize hV2 : V.drewN _ = V2
        obtain ⟨hV2a, y2⟩ : RunSt W V2 C (bs.set s v) (G n) FA' fc' ms' ∧ V2.cell? ⟨g0, 0, none⟩ = some (.string x.code) := by
          rw [← hV2]
          exact hVV _
        have HV2 := Lib.hid hV2a
        clear hV2a hV2 hVV HV y0 hg0l
        have hmf : ms'.length = (G n).found.length := by rw [← HV2.out.vals, List.length_map]
        have Hmf := Lib.hid hmf; clear hmf
        have c3 := HV2.out.c3
        have c4 := HV2.out.c4
        have c6 := HV2.out.c6
        have c7 := HV2.out.c7
        have c8 := HV2.out.c8
        rw [List.length_set] at c3
        have f6 := HV2.out.row.frozen 6
        have f4 := HV2.out.row.frozen 4
        obtain ⟨bm, hbr, hbm⟩ := HV2.out.brow
        rw [List.length_set] at hbm
        obtain ⟨z0, hzz⟩ := hbr.cell (j := s) (by omega)
        have fz := hbr.frozen s
        have nb : ¬ C.b = C.bb := HV2.out.row.ne hbr (by decide)
        have nb' : ¬ C.bb = C.b := fun e => nb e.symm
        clear hbr hbm
        by_cases hnm : (G n).nodes = C.most
        · have hnb : ((G n).nodes == C.most) = true := by simp [hnm]
          have HFE : Hid (F = ⟨(G n).nodes, true, (G n).found⟩) := by
            have hl : looked C.most (G n) = ⟨(G n).nodes, true, (G n).found⟩ := by simp [looked, hnm]
            have := HStop.out (by rw [hl]; rfl)
            rw [hl] at this
            exact this
          clear hnm
          have HV2f := Lib.hid (HV2.out.setFull true)
          go_wp2_with fail
          refine bodyPost_ret (v := .tuple #[]) (by simp [results, Try.results55, go_sem]) rfl ?_
          refine ⟨rfl, FA', fc', ms', ?_⟩
          have hfin := (HV2f.out.setBuild s noText hsl')
          rw [set_back HB0.out] at hfin
          rw [HFE.out]
          exact hfin
        · have hnb : ((G n).nodes == C.most) = false := by simp [hnm]
          have HL : Hid (looked C.most (G n) = G n) := by unfold Hid looked; simp [hnm]
          clear hnm
          cases hfull : (G n).full with
          | true =>
            have HFE : Hid (F = G n) := by
              have := HStop.out (by rw [HL.out]; simp [stopped, hfull])
              rw [HL.out] at this
              exact this
            rw [hfull] at c6
            go_wp2_with fail
            refine bodyPost_ret (v := .tuple #[]) (by simp [results, Try.results55, go_sem]) rfl ?_
            refine ⟨rfl, FA', fc', ms', ?_⟩
            have hfin := (HV2.out.setBuild s noText hsl')
            rw [set_back HB0.out] at hfin
            rw [HFE.out]
            exact hfin
          | false =>
            rw [hfull] at c6
            by_cases hsg : C.single = true
            · rw [hsg] at c7
              by_cases hml : 0 < ms'.length
              · have HFE : Hid (F = G n) := by
                  have h1 : (G n).found ≠ [] := by
                    intro e
                    have := Hmf.out
                    rw [e, List.length_nil] at this
                    omega
                  have := HStop.out (by rw [HL.out]; simp [stopped, hsg, h1])
                  rw [HL.out] at this
                  exact this
                clear hsg
                go_wp2_with fail
                refine bodyPost_ret (v := .tuple #[]) (by simp [results, Try.results55, go_sem]) rfl ?_
                refine ⟨rfl, FA', fc', ms', ?_⟩
                have hfin := (HV2.out.setBuild s noText hsl')
                rw [set_back HB0.out] at hfin
                rw [HFE.out]
                exact hfin
              · have h1 : (G n).found = [] := List.eq_nil_of_length_eq_zero (by rw [← Hmf.out]; omega)
                have HNs : Hid (stopped C.single (looked C.most (G n)) = false) := by unfold Hid; rw [HL.out]; simp [stopped, hfull, h1]
                have HNs2 : Hid (stopped C.single (⟨(G n).nodes + 1, false, (G n).found⟩ : St (List ByteArray)) = false) := by unfold Hid; simp [stopped, h1]
                clear hsg h1
                go_wp2_with fail
                have HV3 := Lib.hid (HV2.out.setNodes ((G n).nodes + 1))
                rw [hfull] at HV3
                have y3 : (V2.setCell ⟨C.b, 4, none⟩ (.int .i64 ((G n).nodes + 1))).cell? ⟨g0, 0, none⟩ = some (.string x.code) := by rw [setCell_other (by omega)]; exact y2
                clear c3 c4 c6 c7 c8 f6 f4 hzz fz y2 HV2
                generalize V2.setCell ⟨C.b, 4, none⟩ (.int .i64 ((G n).nodes + 1)) = V3 at HV3 y3 ⊢
                have c3 := HV3.out.c3
                rw [List.length_set] at c3
                obtain ⟨bm, hbr, hbm⟩ := HV3.out.brow
                rw [List.length_set] at hbm
                obtain ⟨z1, hz1⟩ := hbr.cell (j := s) (by omega)
                have fz := hbr.frozen s
                clear hbr hbm
                go_region_held3 (fun w' => w'.cell? ⟨C.b, 3, none⟩ = some (.slice (some ⟨C.bb, 0, none⟩) bs.length C.bc) ∧ w'.cell? ⟨g0, 0, none⟩ = some (.string x.code)) (go_keep) (fail)
                have HV4 := Lib.hid ((HV3.out.setBuild s x.code hsl').next (bdrew _))
                rw [List.set_set] at HV4
                clear c3 hz1 fz y3 HV3
                generalize (V3.setCell ⟨C.bb, s, none⟩ (.string x.code)).drew = V4 at HV4 ⊢
                go_wp2_with fail
                refine (HBr.out V4 x _ _ _ _ hxm HV4.out).mono ?_
                rintro e w5 ⟨rfl, hb5⟩
                have HV5 := Lib.hid (HV4.out.next hb5)
                clear hb5 HV4
                by_cases hbk : anyBroken C.vs C.js (bs.set s x.code) = true
                · have HN := Lib.hid (HBad.out HNs.out hbk)
                  generalize anyBroken C.vs C.js (bs.set s x.code) = bk at hbk ⊢
                  subst hbk
                  go_wp2_with fail
                  refine ⟨⟨n + 1, FA', fc', ms', x.code, by omega, by go_num, ?_⟩, by simp [intOf]; omega⟩
                  rw [HN.out]
                  exact HV5.out
                · have hbk' : anyBroken C.vs C.js (bs.set s x.code) = false := by simpa using hbk
                  have HN := Lib.hid (HGood.out HNs.out hbk')
                  have HRm := Lib.hid (HRoom.out hbk')
                  clear hbk
                  generalize anyBroken C.vs C.js (bs.set s x.code) = bk at hbk' ⊢
                  subst hbk'
                  go_wp2_with fail
                  refine (HIH.out w5 x _ _ _ _ hxm HV5.out (by first | exact HNs2.out) (by simp only; omega) (by simp only; exact HRm.out.1) (by simp only; exact HRm.out.2)).mono ?_
                  rintro e w6 ⟨rfl, FA6, fc6, ms6, hst6⟩
                  have HV6 := Lib.hid hst6; clear hst6 HV5
                  go_wp2_with fail
                  refine ⟨⟨n + 1, FA6, fc6, ms6, x.code, by omega, by go_num, ?_⟩, by simp [intOf]; omega⟩
                  rw [HN.out]
                  exact HV6.out
            · have hsg' : C.single = false := by simpa using hsg
              rw [hsg'] at c7
              have HNs : Hid (stopped C.single (looked C.most (G n)) = false) := by unfold Hid; rw [HL.out]; simp [stopped, hfull, hsg']
              have HNs2 : Hid (stopped C.single (⟨(G n).nodes + 1, false, (G n).found⟩ : St (List ByteArray)) = false) := by unfold Hid; simp [stopped, hsg']
              clear hsg hsg'
              go_wp2_with fail
              have HV3 := Lib.hid (HV2.out.setNodes ((G n).nodes + 1))
              rw [hfull] at HV3
              have y3 : (V2.setCell ⟨C.b, 4, none⟩ (.int .i64 ((G n).nodes + 1))).cell? ⟨g0, 0, none⟩ = some (.string x.code) := by rw [setCell_other (by omega)]; exact y2
              clear c3 c4 c6 c7 c8 f6 f4 hzz fz y2 HV2
              generalize V2.setCell ⟨C.b, 4, none⟩ (.int .i64 ((G n).nodes + 1)) = V3 at HV3 y3 ⊢
              have c3 := HV3.out.c3
              rw [List.length_set] at c3
              obtain ⟨bm, hbr, hbm⟩ := HV3.out.brow
              rw [List.length_set] at hbm
              obtain ⟨z1, hz1⟩ := hbr.cell (j := s) (by omega)
              have fz := hbr.frozen s
              clear hbr hbm
              go_region_held3 (fun w' => w'.cell? ⟨C.b, 3, none⟩ = some (.slice (some ⟨C.bb, 0, none⟩) bs.length C.bc) ∧ w'.cell? ⟨g0, 0, none⟩ = some (.string x.code)) (go_keep) (fail)
              have HV4 := Lib.hid ((HV3.out.setBuild s x.code hsl').next (bdrew _))
              rw [List.set_set] at HV4
              clear c3 hz1 fz y3 HV3
              generalize (V3.setCell ⟨C.bb, s, none⟩ (.string x.code)).drew = V4 at HV4 ⊢
              go_wp2_with fail
              refine (HBr.out V4 x _ _ _ _ hxm HV4.out).mono ?_
              rintro e w5 ⟨rfl, hb5⟩
              have HV5 := Lib.hid (HV4.out.next hb5)
              clear hb5 HV4
              by_cases hbk : anyBroken C.vs C.js (bs.set s x.code) = true
              · have HN := Lib.hid (HBad.out HNs.out hbk)
                generalize anyBroken C.vs C.js (bs.set s x.code) = bk at hbk ⊢
                subst hbk
                go_wp2_with fail
                refine ⟨⟨n + 1, FA', fc', ms', x.code, by omega, by go_num, ?_⟩, by simp [intOf]; omega⟩
                rw [HN.out]
                exact HV5.out
              · have hbk' : anyBroken C.vs C.js (bs.set s x.code) = false := by simpa using hbk
                have HN := Lib.hid (HGood.out HNs.out hbk')
                have HRm := Lib.hid (HRoom.out hbk')
                clear hbk
                generalize anyBroken C.vs C.js (bs.set s x.code) = bk at hbk' ⊢
                subst hbk'
                go_wp2_with fail
                refine (HIH.out w5 x _ _ _ _ hxm HV5.out (by first | exact HNs2.out) (by simp only; omega) (by simp only; exact HRm.out.1) (by simp only; exact HRm.out.2)).mono ?_
                rintro e w6 ⟨rfl, FA6, fc6, ms6, hst6⟩
                have HV6 := Lib.hid hst6; clear hst6 HV5
                go_wp2_with fail
                refine ⟨⟨n + 1, FA6, fc6, ms6, x.code, by omega, by go_num, ?_⟩, by simp [intOf]; omega⟩
                rw [HN.out]
                exact HV6.out
      · have HN := Lib.hid (HG.out.no n x Hx.out hsx)
        go_wp2_with fail
        refine ⟨⟨n + 1, FA', fc', ms', v, by omega, by go_num, ?_⟩, by simp [intOf]; omega⟩
        rw [HN.out]
        exact HV.out
    · have c3 := HS.out.c3
      obtain ⟨bm, hbr, hbm⟩ := HS.out.brow
      obtain ⟨z0, hzz⟩ := hbr.cell (j := s) (by omega)
      have fz := hbr.frozen s
      have HE := Lib.hid (HS.out.setBuild s noText hsl')
      have HFF := Lib.hid (HG.out.all n (by omega))
      rw [List.length_set] at c3
      clear hbr hbm
      go_wp2_with fail
      refine bodyPost_ret (v := .tuple #[]) (by simp [results, Try.results55, go_sem]) rfl ?_
      refine ⟨rfl, FA', fc', ms', ?_⟩
      have := HE.out
      rw [set_back HB0.out, HFF.out] at this
      exact this
end Go.Proofs.Ytioblfbhjkkgoaa
