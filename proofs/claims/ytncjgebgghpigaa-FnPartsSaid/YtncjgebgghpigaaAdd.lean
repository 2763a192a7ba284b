/- DERIVED. Parts with one more. By program (gadd.py). -/
import Derived.Test.YtncjgebgghpigaaDrop
namespace Go.Proofs.Ytncjgebgghpigaa
set_option maxRecDepth 100000
open Go.RowKit

/-- What has been laid out after k parts, and whether the new one is among it. -/
def addTo (p : PartT) (vs : List PartT) : Nat → List PartT × Bool
  | 0 => ([], false)
  | k + 1 => match vs[k]? with
    | some x => if (!(addTo p vs k).2 && ltT p.code x.code) = true then ((addTo p vs k).1 ++ [p] ++ [x], true) else ((addTo p vs k).1 ++ [x], (addTo p vs k).2)
    | none => addTo p vs k
def addL (p : PartT) (vs : List PartT) : List PartT := if (addTo p vs vs.length).2 = true then (addTo p vs vs.length).1 else (addTo p vs vs.length).1 ++ [p]
def addR (vs : List PartT) (p : PartT) : List PartT × Int := if partsB vs = true then (if partB p = true then (if findI vs p.code < 0 then (if vs.length = 16 then ([], 3) else (addL p vs, 0)) else ([], 5)) else ([], 1)) else ([], 1)
theorem addTo_le (p : PartT) (vs : List PartT) : ∀ k, (addTo p vs k).1.length ≤ k + (if (addTo p vs k).2 = true then 1 else 0)
  | 0 => by simp [addTo]
  | k + 1 => by
    have ih := addTo_le p vs k
    unfold addTo
    split
    · split
      · rename_i h
        have : (addTo p vs k).2 = false := by
          simp at h
          exact h.1
        rw [this] at ih
        simp at ih ⊢
        omega
      · simp
        split <;> simp_all <;> omega
    · split <;> simp_all <;> omega
theorem addTo_in {p : PartT} {vs : List PartT} {k : Nat} {x : PartT} (hx : vs[k]? = some x) (h1 : (addTo p vs k).2 = false) (h2 : ltT p.code x.code = true) : addTo p vs (k + 1) = ((addTo p vs k).1 ++ [p] ++ [x], true) := by
  simp [addTo, hx, h1, h2]
theorem addTo_on {p : PartT} {vs : List PartT} {k : Nat} {x : PartT} (hx : vs[k]? = some x) (h : (addTo p vs k).2 = true ∨ ltT p.code x.code = false) : addTo p vs (k + 1) = ((addTo p vs k).1 ++ [x], (addTo p vs k).2) := by
  rcases h with h | h <;> simp [addTo, hx, h]
theorem lt_gt {a b : ByteArray} (h : b ≠ a) : Go.Op.bytesLess b.toList a.toList = !ltT a b := by
  cases h1 : ltT a b with
  | true =>
    cases h2 : ltT b a with
    | true =>
      have := ltT_trans h1 h2
      rw [ltT_irrefl] at this
      cases this
    | false => exact h2
  | false =>
    cases h2 : ltT b a with
    | true => exact h2
    | false => exact absurd (ltT_total h2 h1) h

set_option maxHeartbeats 2000000 in
theorem AddPart_impl (A : Option Addr) (c : Nat) (vs : List PartT) (p : PartT) (pp : Option Addr) (pq : Nat) (w : World) (hr : RdV w w.heap.size A vs) (hrp : Rd w w.heap.size 3 portC pp p.ports) (hs : SmallV vs) (hpn : p.code.size ≤ maxLen) (hpm : p.ports.length ≤ 1048576) (hpc : p.ports.length ≤ pq) :
    Calls Try.prog 6 #[.slice A vs.length c, .agg #[.string p.code, .int .i64 p.slot, .slice pp p.ports.length pq, .int .i64 p.price, .int .i64 p.grams]] w (GivesParts2 w (addR vs p)) := by
  have HA : Hid (∀ v : World, RdV v v.heap.size A vs → Calls Try.prog 23 #[.slice A vs.length c] v fun e w' => e = .returned (.bool (partsB vs)) ∧ Below v.heap.size v w') := fun v hv => areParts_impl A c vs v hv hs.1 hs.2
  have HI : Hid (∀ v : World, Rd v v.heap.size 3 portC pp p.ports → Calls Try.prog 21 #[.agg #[.string p.code, .int .i64 p.slot, .slice pp p.ports.length pq, .int .i64 p.price, .int .i64 p.grams]] v fun e w' => e = .returned (.bool (partB p)) ∧ Below v.heap.size v w') := fun v hv => isPart_impl p pp pq v hv hpn hpm hpc
  have HN : Hid (∀ v : World, RdV v v.heap.size A vs → Calls Try.prog 28 #[.slice A vs.length c, .string p.code] v fun e w' => e = .returned (.int .i64 (findI vs p.code)) ∧ Below v.heap.size v w') := fun v hv => findPart_any A c vs p.code v hv hs.1
  have hm := hs.1
  have hs2 := Lib.hid hs.2
  have hbd := findI_bd vs p.code hs.1
  clear hs
  have HR : Hid (addR vs p = if partsB vs = true then (if partB p = true then (if findI vs p.code < 0 then (if vs.length = 16 then ([], 3) else (addL p vs, 0)) else ([], 5)) else ([], 1)) else ([], 1)) := rfl
  have HL : Hid (partsB vs = true → vs.length ≤ 16) := partsB_len
  have HNe : Hid (findI vs p.code < 0 → ∀ x ∈ vs, x.code ≠ p.code) := fun h => by
    rcases findI_cases vs p.code with ⟨_, h1⟩ | ⟨k, x, h1, _⟩
    · exact h1
    · omega
  generalize addR vs p = R at HR ⊢
  generalize hpB : partsB vs = bp at HA HR HL
  generalize hpb : partB p = bi at HI HR
  clear hpB hpb
  generalize findI vs p.code = nf at HN HR HNe hbd
  go_enter Try.func6, Try.ntmps6
  go_wp2_with fail
  have c0 : (w.alloc (.cells #[.string p.code, .int .i64 p.slot, .slice pp p.ports.length pq, .int .i64 p.price, .int .i64 p.grams] 27)).cell? ⟨w.heap.size, 0, none⟩ = some (.string p.code) := by go_simp
  have c1 : (w.alloc (.cells #[.string p.code, .int .i64 p.slot, .slice pp p.ports.length pq, .int .i64 p.price, .int .i64 p.grams] 27)).cell? ⟨w.heap.size, 1, none⟩ = some (.int .i64 p.slot) := by go_simp
  have c2 : (w.alloc (.cells #[.string p.code, .int .i64 p.slot, .slice pp p.ports.length pq, .int .i64 p.price, .int .i64 p.grams] 27)).cell? ⟨w.heap.size, 2, none⟩ = some (.slice pp p.ports.length pq) := by go_simp
  have c3 : (w.alloc (.cells #[.string p.code, .int .i64 p.slot, .slice pp p.ports.length pq, .int .i64 p.price, .int .i64 p.grams] 27)).cell? ⟨w.heap.size, 3, none⟩ = some (.int .i64 p.price) := by go_simp
  have c4 : (w.alloc (.cells #[.string p.code, .int .i64 p.slot, .slice pp p.ports.length pq, .int .i64 p.price, .int .i64 p.grams] 27)).cell? ⟨w.heap.size, 4, none⟩ = some (.int .i64 p.grams) := by go_simp
  have hbW := balloc w (.cells #[.string p.code, .int .i64 p.slot, .slice pp p.ports.length pq, .int .i64 p.price, .int .i64 p.grams] 27)
  have hbS := hbW.size
  generalize w.alloc (.cells #[.string p.code, .int .i64 p.slot, .slice pp p.ports.length pq, .int .i64 p.price, .int .i64 p.grams] 27) = W at c0 c1 c2 c3 c4 hbW hbS ⊢
  generalize hg0 : w.heap.size = g0 at c0 c1 c2 c3 c4 ⊢
  have hrW := hr.below hbW
  have hrpW := hrp.below hbW
  refine (HA.out W (hrW.more hbS)).mono ?_
  rintro e w1 ⟨rfl, hb1⟩
  have b0 := (hb1.cell (p := ⟨g0, 0, none⟩) (World.block_lt_of_cell? W _ c0)).trans c0
  have b1 := (hb1.cell (p := ⟨g0, 1, none⟩) (World.block_lt_of_cell? W _ c1)).trans c1
  have b2 := (hb1.cell (p := ⟨g0, 2, none⟩) (World.block_lt_of_cell? W _ c2)).trans c2
  have b3 := (hb1.cell (p := ⟨g0, 3, none⟩) (World.block_lt_of_cell? W _ c3)).trans c3
  have b4 := (hb1.cell (p := ⟨g0, 4, none⟩) (World.block_lt_of_cell? W _ c4)).trans c4
  cases bp
  case false =>
    rw [if_neg (by simp)] at HR
    go_wp2_with fail
    go_ret2
    subst hg0
    exact ⟨none, 0, by rw [HR.out]; rfl, by rw [HR.out]; exact FlatR.nil, by rw [HR.out]; exact Nat.le_refl _, hbW.trans (hb1.mono hbS)⟩
  case true =>
    have hlen := HL.out rfl
    rw [if_pos rfl] at HR
    clear HL
    go_wp2_with fail
    refine (HI.out w1 ((hrpW.more hbS).next hb1)).mono ?_
    rintro e w2 ⟨rfl, hb2⟩
    clear b0 b1 b2 b3 b4
    have hb12 := bthen hb1 hb2
    have b0 := (hb12.cell (p := ⟨g0, 0, none⟩) (World.block_lt_of_cell? W _ c0)).trans c0
    have b1 := (hb12.cell (p := ⟨g0, 1, none⟩) (World.block_lt_of_cell? W _ c1)).trans c1
    have b2 := (hb12.cell (p := ⟨g0, 2, none⟩) (World.block_lt_of_cell? W _ c2)).trans c2
    have b3 := (hb12.cell (p := ⟨g0, 3, none⟩) (World.block_lt_of_cell? W _ c3)).trans c3
    have b4 := (hb12.cell (p := ⟨g0, 4, none⟩) (World.block_lt_of_cell? W _ c4)).trans c4
    cases bi
    case false =>
      rw [if_neg (by simp)] at HR
      go_wp2_with fail
      go_ret2
      subst hg0
      exact ⟨none, 0, by rw [HR.out]; rfl, by rw [HR.out]; exact FlatR.nil, by rw [HR.out]; exact Nat.le_refl _, hbW.trans (hb12.mono hbS)⟩
    case true =>
      rw [if_pos rfl] at HR
      go_wp2_with fail
      refine (HN.out w2 ((hrW.more hbS).next hb12)).mono ?_
      rintro e w3 ⟨rfl, hb3⟩
      have hb13 := bthen hb12 hb3
      clear b0 b1 b2 b3 b4
      have hs13 := hb13.size
      by_cases hn : nf < 0
      · rw [if_pos hn] at HR
        have Hne : Hid (∀ x ∈ vs, x.code ≠ p.code) := HNe.out hn
        clear HNe
        by_cases h16 : vs.length = 16
        · rw [if_pos h16] at HR
          have h16b : ((vs.length : Int) == 16) = true := by simp [h16]
          have H16 := Lib.hid h16; clear h16
          go_wp2_with fail
          go_ret2
          subst hg0
          exact ⟨none, 0, by rw [HR.out]; rfl, by rw [HR.out]; exact FlatR.nil, by rw [HR.out]; exact Nat.le_refl _, hbW.trans (hb13.mono hbS)⟩
        · rw [if_neg h16] at HR
          have h16b : ((vs.length : Int) == 16) = false := by rw [beq_eq_false_iff_ne]; omega
          have H16 := Lib.hid h16; clear h16
          go_wp2_with fail
          go_loopw [6, 7, 28] (fun out pl i wr => ∃ (k : Nat) (A' : Option Addr) (c' : Nat) (ms : List PartM), k ≤ vs.length ∧ i = .int .i64 k ∧ out = .slice A' ms.length c' ∧ pl = .bool (addTo p vs k).2 ∧ ms.map PartM.val = (addTo p vs k).1 ∧ GrowP W.heap.size wr A' c' ms ∧ Below W.heap.size W wr) (fun _ _ i _ => vs.length - (intOf i).toNat)
          case atStart => exact ⟨0, _, _, [], Nat.zero_le _, rfl, rfl, rfl, rfl, ⟨Own.nil, Inner.nil⟩, hb13⟩
          case round =>
            obtain ⟨k, A', c', ms, hk, rfl, rfl, rfl, hval, hown, hb⟩ := hrel
            have Ho := Lib.hid hown; clear hown
            have hle := addTo_le p vs k
            have hml : ms.length ≤ k + 1 := by
              have := congrArg List.length hval
              rw [List.length_map] at this
              rw [this]
              split at hle <;> omega
            clear hle
            have Hv := Lib.hid hval; clear hval
            have hgw := hb.size
            have D1 : Hid (∀ t, vs[k]? = some t → (addTo p vs k).2 = false → ltT p.code t.code = true → addTo p vs (k + 1) = ((addTo p vs k).1 ++ [p] ++ [t], true)) := fun t hx h1 h2 => addTo_in hx h1 h2
            have D2 : Hid (∀ t, vs[k]? = some t → (addTo p vs k).2 = true ∨ ltT p.code t.code = false → addTo p vs (k + 1) = ((addTo p vs k).1 ++ [t], (addTo p vs k).2)) := fun t hx h => addTo_on hx h
            by_cases hlt : k < vs.length
            · have hx : vs[k]? = some vs[k] := List.getElem?_eq_getElem hlt
              obtain ⟨b, o, rfl⟩ := hr.addr (by omega)
              obtain ⟨hB, pA, pc, q0, q1, q2, q3, q4, hpr, _⟩ := (hrW.below (hb.mono hbS)).cells hx
              generalize vs[k] = t at q0 q1 q2 q3 q4 hx hpr
              have hpl := (hs2.out t (List.mem_of_getElem? hx)).2
              have HGT : Hid (∀ {v : Bool}, ltT p.code t.code = v → Go.Op.bytesLess t.code.toList p.code.toList = !v) := fun h => by
                rw [← h]
                exact lt_gt (Hne.out t (List.mem_of_getElem? hx))
              have htp : (t.code.toList == p.code.toList) = false := by
                have := Hne.out t (List.mem_of_getElem? hx)
                simp
                exact fun e => this (str_eq.1 e)
              have Hx := Lib.hid hx
              have D1 := Lib.hid (D1.out t hx)
              have D2 := Lib.hid (D2.out t hx)
              clear hx
              generalize hac : addTo p vs k = ac at D1 D2 Hv ⊢
              obtain ⟨al, ad⟩ := ac
              clear hac
              have hprB : Rd W w.heap.size 3 portC pA t.ports := by
                obtain ⟨_, _, _, _, _, z2, _, _, hz, _⟩ := hrW.cells Hx.out
                have e2 := (hb.cell (p := ⟨b, o + k * 5 + 2, none⟩) (World.block_lt_of_cell? W _ z2)).trans z2
                rw [q2] at e2
                simp only [Option.some.injEq, Value.slice.injEq] at e2
                obtain ⟨rfl, _, _⟩ := e2
                exact hz
              have hprw := hpr.more (Nat.le_trans hbS hb.size)
              have b0 := (hb.cell (p := ⟨g0, 0, none⟩) (World.block_lt_of_cell? W _ c0)).trans c0
              have b1 := (hb.cell (p := ⟨g0, 1, none⟩) (World.block_lt_of_cell? W _ c1)).trans c1
              have b2 := (hb.cell (p := ⟨g0, 2, none⟩) (World.block_lt_of_cell? W _ c2)).trans c2
              have b3 := (hb.cell (p := ⟨g0, 3, none⟩) (World.block_lt_of_cell? W _ c3)).trans c3
              have b4 := (hb.cell (p := ⟨g0, 4, none⟩) (World.block_lt_of_cell? W _ c4)).trans c4
              cases ad
              case false =>
                by_cases hlt2 : ltT p.code t.code = true
                · have HD := Lib.hid (D1.out rfl hlt2)
                  have hp1 : Go.Op.bytesLess p.code.toList t.code.toList = true := by simpa [ltT] using hlt2
                  have ht1 : Go.Op.bytesLess t.code.toList p.code.toList = false := HGT.out hlt2
                  clear hlt2 D1 D2
                  have hg0w := World.block_lt_of_cell? wr _ b0
                  simp only at hg0w
                  go_wp2_with fail
                  have e0 : (wr.alloc (.cells #[.string t.code, .int .i64 t.slot, .slice pA t.ports.length pc, .int .i64 t.price, .int .i64 t.grams] 27)).cell? ⟨wr.heap.size, 0, none⟩ = some (.string t.code) := by go_simp
                  have e1 : (wr.alloc (.cells #[.string t.code, .int .i64 t.slot, .slice pA t.ports.length pc, .int .i64 t.price, .int .i64 t.grams] 27)).cell? ⟨wr.heap.size, 1, none⟩ = some (.int .i64 t.slot) := by go_simp
                  have e2 : (wr.alloc (.cells #[.string t.code, .int .i64 t.slot, .slice pA t.ports.length pc, .int .i64 t.price, .int .i64 t.grams] 27)).cell? ⟨wr.heap.size, 2, none⟩ = some (.slice pA t.ports.length pc) := by go_simp
                  have e3 : (wr.alloc (.cells #[.string t.code, .int .i64 t.slot, .slice pA t.ports.length pc, .int .i64 t.price, .int .i64 t.grams] 27)).cell? ⟨wr.heap.size, 3, none⟩ = some (.int .i64 t.price) := by go_simp
                  have e4 : (wr.alloc (.cells #[.string t.code, .int .i64 t.slot, .slice pA t.ports.length pc, .int .i64 t.price, .int .i64 t.grams] 27)).cell? ⟨wr.heap.size, 4, none⟩ = some (.int .i64 t.grams) := by go_simp
                  have hbV := hb.alloc hb.size (.cells #[.string t.code, .int .i64 t.slot, .slice pA t.ports.length pc, .int .i64 t.price, .int .i64 t.grams] 27)
                  have HoV := Lib.hid (Ho.out.step (balloc wr (.cells #[.string t.code, .int .i64 t.slot, .slice pA t.ports.length pc, .int .i64 t.price, .int .i64 t.grams] 27)))
                  have hprV := hprw.next (balloc wr (.cells #[.string t.code, .int .i64 t.slot, .slice pA t.ports.length pc, .int .i64 t.price, .int .i64 t.grams] 27))
                  have hgx : wr.heap.size < (wr.alloc (.cells #[.string t.code, .int .i64 t.slot, .slice pA t.ports.length pc, .int .i64 t.price, .int .i64 t.grams] 27)).heap.size := by simp
                  have hApx : Apart A' wr.heap.size := fun b o e => by
                    subst e
                    have := (Ho.out.1.lt b rfl).2
                    omega
                  clear q0 q1 q2 q3 q4 b0 b1 b2 b3 b4 hpr hprw
                  generalize wr.alloc (.cells #[.string t.code, .int .i64 t.slot, .slice pA t.ports.length pc, .int .i64 t.price, .int .i64 t.grams] 27) = V at e0 e1 e2 e3 e4 hbV HoV hprV hgx ⊢
                  generalize wr.heap.size = gx at e0 e1 e2 e3 e4 hgx hApx hg0w hgw ⊢
                  clear Ho hb
                  have b0 := (hbV.cell (p := ⟨g0, 0, none⟩) (World.block_lt_of_cell? W _ c0)).trans c0
                  have b1 := (hbV.cell (p := ⟨g0, 1, none⟩) (World.block_lt_of_cell? W _ c1)).trans c1
                  have b2 := (hbV.cell (p := ⟨g0, 2, none⟩) (World.block_lt_of_cell? W _ c2)).trans c2
                  have b3 := (hbV.cell (p := ⟨g0, 3, none⟩) (World.block_lt_of_cell? W _ c3)).trans c3
                  have b4 := (hbV.cell (p := ⟨g0, 4, none⟩) (World.block_lt_of_cell? W _ c4)).trans c4
                  refine (copyPart_any p pp pq _ ((hrpW.below (hbV.mono hbS)).more (Nat.le_trans hbS hbV.size)) hpm).mono ?_
                  rintro e u1 ⟨a1, k1, rfl, f1, hc1, hq1⟩
                  have hsu1 := hq1.size
                  have hbase1 := hbV.size
                  have F1 := Lib.hid f1; clear f1
                  have Q1 := Lib.hid hq1; clear hq1
                  go_wp2_with (at_builtin; refine wpList_append_far rfl _ _ _ rfl W.heap.size 27 (.agg #[.string ⟨#[]⟩, .int .i64 0, .slice none 0 0, .int .i64 0, .int .i64 0]) 5 64 Try.underlying24 infoPart rfl (by omega) (by omega) partC ms (⟨p.code, p.slot, a1, k1, p.ports, p.price, p.grams⟩ : PartM) A' c' rfl ((HoV.out.1.keep Q1.out).keep (balloc _ _)) (u1.heap.size) _ rfl rfl (five_cells (by go_simp) (by go_simp) (by go_simp) (by go_simp) (by go_simp)) (partC_one _) (by omega) (by simp; omega) ?_)
                  intro AA1 cc1 ww1 hown1 hbb1 hfar1
                  have G1 : Hid (GrowP W.heap.size ww1 AA1 cc1 (ms ++ [(⟨p.code, p.slot, a1, k1, p.ports, p.price, p.grams⟩ : PartM)])) := ⟨hown1, HoV.out.2.append (m := (⟨p.code, p.slot, a1, k1, p.ports, p.price, p.grams⟩ : PartM)) HoV.out.1.lt hbase1 Q1.out F1.out hc1 rfl hfar1 hbb1.size⟩
                  have hB1 : Below W.heap.size W ww1 := (bthen' (bthen' hbV Q1.out) (balloc _ _)).trans hbb1
                  have Hfar1 := Lib.hid hfar1
                  clear hown1 hbb1 hfar1
                  have hX := (Hfar1.out gx (by omega) hApx).2.trans (((balloc u1 _).block gx (by omega)).trans (Q1.out.block gx hgx))
                  have y0 := (World.cell?_of_block (a := ⟨gx, 0, none⟩) hX).trans e0
                  have y1 := (World.cell?_of_block (a := ⟨gx, 1, none⟩) hX).trans e1
                  have y2 := (World.cell?_of_block (a := ⟨gx, 2, none⟩) hX).trans e2
                  have y3 := (World.cell?_of_block (a := ⟨gx, 3, none⟩) hX).trans e3
                  have y4 := (World.cell?_of_block (a := ⟨gx, 4, none⟩) hX).trans e4
                  clear hX e0 e1 e2 e3 e4 b0 b1 b2 b3 b4
                  have hprW2 : Rd ww1 ww1.heap.size 3 portC pA t.ports := (hprB.below (hB1.mono hbS)).more (Nat.le_trans hbS hB1.size)
                  have hl1 : (ms ++ [(⟨p.code, p.slot, a1, k1, p.ports, p.price, p.grams⟩ : PartM)]).length = ms.length + 1 := by simp
                  generalize hms2 : (ms ++ [(⟨p.code, p.slot, a1, k1, p.ports, p.price, p.grams⟩ : PartM)]) = ms2 at G1 hl1
                  rw [← hl1]
                  have hml2 : ms2.length ≤ k + 2 := by omega
                  have Hl1 := Lib.hid hl1; clear hl1
                  have Hms2 := Lib.hid hms2; clear hms2
                  go_wp2_with fail
                  refine (copyPart_any t pA pc _ hprW2 hpl).mono ?_
                  rintro e u2 ⟨a2, k2, rfl, f2, hc2, hq2⟩
                  have hsu2 := hq2.size
                  have hbase2 := hB1.size
                  have F2 := Lib.hid f2; clear f2
                  have Q2 := Lib.hid hq2; clear hq2
                  go_wp2_with (at_builtin; refine wpList_append_far rfl _ _ _ rfl W.heap.size 27 (.agg #[.string ⟨#[]⟩, .int .i64 0, .slice none 0 0, .int .i64 0, .int .i64 0]) 5 64 Try.underlying24 infoPart rfl (by omega) (by omega) partC ms2 (⟨t.code, t.slot, a2, k2, t.ports, t.price, t.grams⟩ : PartM) AA1 cc1 rfl ((G1.out.1.keep Q2.out).keep (balloc _ _)) (u2.heap.size) _ rfl rfl (five_cells (by go_simp) (by go_simp) (by go_simp) (by go_simp) (by go_simp)) (partC_one _) (by omega) (by simp; omega) ?_)
                  intro AA2 cc2 ww2 hown2 hbb2 hfar2
                  have G2 : Hid (GrowP W.heap.size ww2 AA2 cc2 (ms2 ++ [(⟨t.code, t.slot, a2, k2, t.ports, t.price, t.grams⟩ : PartM)])) := ⟨hown2, G1.out.2.append (m := (⟨t.code, t.slot, a2, k2, t.ports, t.price, t.grams⟩ : PartM)) G1.out.1.lt hbase2 Q2.out F2.out hc2 rfl hfar2 hbb2.size⟩
                  have hB2 : Below W.heap.size W ww2 := (bthen' (bthen' hB1 Q2.out) (balloc _ _)).trans hbb2
                  have Hfar2 := Lib.hid hfar2
                  clear hown2 hbb2 hfar2
                  go_wp2_with fail
                  exact ⟨⟨k + 1, AA2, cc2, ms2 ++ [(⟨t.code, t.slot, a2, k2, t.ports, t.price, t.grams⟩ : PartM)], by omega, by go_num, by simp, by rw [HD.out], by rw [HD.out, List.map_append, ← Hms2.out, List.map_append, Hv.out]; rfl, G2.out, hB2⟩, by simp [intOf]; omega⟩
                · replace hlt2 : ltT p.code t.code = false := by simpa using hlt2
                  have HD := Lib.hid (D2.out (Or.inr hlt2))
                  have hp1 : Go.Op.bytesLess p.code.toList t.code.toList = false := by simpa [ltT] using hlt2
                  have ht1 : Go.Op.bytesLess t.code.toList p.code.toList = true := HGT.out hlt2
                  clear hlt2 D1 D2
                  have hg0w := World.block_lt_of_cell? wr _ b0
                  simp only at hg0w
                  go_wp2_with fail
                  have e0 : (wr.alloc (.cells #[.string t.code, .int .i64 t.slot, .slice pA t.ports.length pc, .int .i64 t.price, .int .i64 t.grams] 27)).cell? ⟨wr.heap.size, 0, none⟩ = some (.string t.code) := by go_simp
                  have e1 : (wr.alloc (.cells #[.string t.code, .int .i64 t.slot, .slice pA t.ports.length pc, .int .i64 t.price, .int .i64 t.grams] 27)).cell? ⟨wr.heap.size, 1, none⟩ = some (.int .i64 t.slot) := by go_simp
                  have e2 : (wr.alloc (.cells #[.string t.code, .int .i64 t.slot, .slice pA t.ports.length pc, .int .i64 t.price, .int .i64 t.grams] 27)).cell? ⟨wr.heap.size, 2, none⟩ = some (.slice pA t.ports.length pc) := by go_simp
                  have e3 : (wr.alloc (.cells #[.string t.code, .int .i64 t.slot, .slice pA t.ports.length pc, .int .i64 t.price, .int .i64 t.grams] 27)).cell? ⟨wr.heap.size, 3, none⟩ = some (.int .i64 t.price) := by go_simp
                  have e4 : (wr.alloc (.cells #[.string t.code, .int .i64 t.slot, .slice pA t.ports.length pc, .int .i64 t.price, .int .i64 t.grams] 27)).cell? ⟨wr.heap.size, 4, none⟩ = some (.int .i64 t.grams) := by go_simp
                  have hbV := hb.alloc hb.size (.cells #[.string t.code, .int .i64 t.slot, .slice pA t.ports.length pc, .int .i64 t.price, .int .i64 t.grams] 27)
                  have HoV := Lib.hid (Ho.out.step (balloc wr (.cells #[.string t.code, .int .i64 t.slot, .slice pA t.ports.length pc, .int .i64 t.price, .int .i64 t.grams] 27)))
                  have hprV := hprw.next (balloc wr (.cells #[.string t.code, .int .i64 t.slot, .slice pA t.ports.length pc, .int .i64 t.price, .int .i64 t.grams] 27))
                  have hgx : wr.heap.size < (wr.alloc (.cells #[.string t.code, .int .i64 t.slot, .slice pA t.ports.length pc, .int .i64 t.price, .int .i64 t.grams] 27)).heap.size := by simp
                  have hApx : Apart A' wr.heap.size := fun b o e => by
                    subst e
                    have := (Ho.out.1.lt b rfl).2
                    omega
                  clear q0 q1 q2 q3 q4 b0 b1 b2 b3 b4 hpr hprw
                  generalize wr.alloc (.cells #[.string t.code, .int .i64 t.slot, .slice pA t.ports.length pc, .int .i64 t.price, .int .i64 t.grams] 27) = V at e0 e1 e2 e3 e4 hbV HoV hprV hgx ⊢
                  generalize wr.heap.size = gx at e0 e1 e2 e3 e4 hgx hApx hg0w hgw ⊢
                  clear Ho hb
                  have b0 := (hbV.cell (p := ⟨g0, 0, none⟩) (World.block_lt_of_cell? W _ c0)).trans c0
                  have b1 := (hbV.cell (p := ⟨g0, 1, none⟩) (World.block_lt_of_cell? W _ c1)).trans c1
                  have b2 := (hbV.cell (p := ⟨g0, 2, none⟩) (World.block_lt_of_cell? W _ c2)).trans c2
                  have b3 := (hbV.cell (p := ⟨g0, 3, none⟩) (World.block_lt_of_cell? W _ c3)).trans c3
                  have b4 := (hbV.cell (p := ⟨g0, 4, none⟩) (World.block_lt_of_cell? W _ c4)).trans c4
                  refine (copyPart_any t pA pc _ hprV hpl).mono ?_
                  rintro e u3 ⟨a3, k3, rfl, f3, hc3, hq3⟩
                  have hsu3 := hq3.size
                  have hbase3 := hbV.size
                  have F3 := Lib.hid f3; clear f3
                  have Q3 := Lib.hid hq3; clear hq3
                  go_wp2_with (at_builtin; refine wpList_append_far rfl _ _ _ rfl W.heap.size 27 (.agg #[.string ⟨#[]⟩, .int .i64 0, .slice none 0 0, .int .i64 0, .int .i64 0]) 5 64 Try.underlying24 infoPart rfl (by omega) (by omega) partC ms (⟨t.code, t.slot, a3, k3, t.ports, t.price, t.grams⟩ : PartM) A' c' rfl ((HoV.out.1.keep Q3.out).keep (balloc _ _)) (u3.heap.size) _ rfl rfl (five_cells (by go_simp) (by go_simp) (by go_simp) (by go_simp) (by go_simp)) (partC_one _) (by omega) (by simp; omega) ?_)
                  intro AA3 cc3 ww3 hown3 hbb3 hfar3
                  have G3 : Hid (GrowP W.heap.size ww3 AA3 cc3 (ms ++ [(⟨t.code, t.slot, a3, k3, t.ports, t.price, t.grams⟩ : PartM)])) := ⟨hown3, HoV.out.2.append (m := (⟨t.code, t.slot, a3, k3, t.ports, t.price, t.grams⟩ : PartM)) HoV.out.1.lt hbase3 Q3.out F3.out hc3 rfl hfar3 hbb3.size⟩
                  have hB3 : Below W.heap.size W ww3 := (bthen' (bthen' hbV Q3.out) (balloc _ _)).trans hbb3
                  have Hfar3 := Lib.hid hfar3
                  clear hown3 hbb3 hfar3
                  go_wp2_with fail
                  exact ⟨⟨k + 1, AA3, cc3, ms ++ [(⟨t.code, t.slot, a3, k3, t.ports, t.price, t.grams⟩ : PartM)], by omega, by go_num, by simp, by rw [HD.out], by rw [HD.out, List.map_append, Hv.out]; rfl, G3.out, hB3⟩, by simp [intOf]; omega⟩
              case true =>
                have HD := Lib.hid (D2.out (Or.inl rfl))
                clear D1 D2
                have hg0w := World.block_lt_of_cell? wr _ b0
                simp only at hg0w
                go_wp2_with fail
                have e0 : (wr.alloc (.cells #[.string t.code, .int .i64 t.slot, .slice pA t.ports.length pc, .int .i64 t.price, .int .i64 t.grams] 27)).cell? ⟨wr.heap.size, 0, none⟩ = some (.string t.code) := by go_simp
                have e1 : (wr.alloc (.cells #[.string t.code, .int .i64 t.slot, .slice pA t.ports.length pc, .int .i64 t.price, .int .i64 t.grams] 27)).cell? ⟨wr.heap.size, 1, none⟩ = some (.int .i64 t.slot) := by go_simp
                have e2 : (wr.alloc (.cells #[.string t.code, .int .i64 t.slot, .slice pA t.ports.length pc, .int .i64 t.price, .int .i64 t.grams] 27)).cell? ⟨wr.heap.size, 2, none⟩ = some (.slice pA t.ports.length pc) := by go_simp
                have e3 : (wr.alloc (.cells #[.string t.code, .int .i64 t.slot, .slice pA t.ports.length pc, .int .i64 t.price, .int .i64 t.grams] 27)).cell? ⟨wr.heap.size, 3, none⟩ = some (.int .i64 t.price) := by go_simp
                have e4 : (wr.alloc (.cells #[.string t.code, .int .i64 t.slot, .slice pA t.ports.length pc, .int .i64 t.price, .int .i64 t.grams] 27)).cell? ⟨wr.heap.size, 4, none⟩ = some (.int .i64 t.grams) := by go_simp
                have hbV := hb.alloc hb.size (.cells #[.string t.code, .int .i64 t.slot, .slice pA t.ports.length pc, .int .i64 t.price, .int .i64 t.grams] 27)
                have HoV := Lib.hid (Ho.out.step (balloc wr (.cells #[.string t.code, .int .i64 t.slot, .slice pA t.ports.length pc, .int .i64 t.price, .int .i64 t.grams] 27)))
                have hprV := hprw.next (balloc wr (.cells #[.string t.code, .int .i64 t.slot, .slice pA t.ports.length pc, .int .i64 t.price, .int .i64 t.grams] 27))
                have hgx : wr.heap.size < (wr.alloc (.cells #[.string t.code, .int .i64 t.slot, .slice pA t.ports.length pc, .int .i64 t.price, .int .i64 t.grams] 27)).heap.size := by simp
                have hApx : Apart A' wr.heap.size := fun b o e => by
                  subst e
                  have := (Ho.out.1.lt b rfl).2
                  omega
                clear q0 q1 q2 q3 q4 b0 b1 b2 b3 b4 hpr hprw
                generalize wr.alloc (.cells #[.string t.code, .int .i64 t.slot, .slice pA t.ports.length pc, .int .i64 t.price, .int .i64 t.grams] 27) = V at e0 e1 e2 e3 e4 hbV HoV hprV hgx ⊢
                generalize wr.heap.size = gx at e0 e1 e2 e3 e4 hgx hApx hg0w hgw ⊢
                clear Ho hb
                have b0 := (hbV.cell (p := ⟨g0, 0, none⟩) (World.block_lt_of_cell? W _ c0)).trans c0
                have b1 := (hbV.cell (p := ⟨g0, 1, none⟩) (World.block_lt_of_cell? W _ c1)).trans c1
                have b2 := (hbV.cell (p := ⟨g0, 2, none⟩) (World.block_lt_of_cell? W _ c2)).trans c2
                have b3 := (hbV.cell (p := ⟨g0, 3, none⟩) (World.block_lt_of_cell? W _ c3)).trans c3
                have b4 := (hbV.cell (p := ⟨g0, 4, none⟩) (World.block_lt_of_cell? W _ c4)).trans c4
                refine (copyPart_any t pA pc _ hprV hpl).mono ?_
                rintro e u3 ⟨a3, k3, rfl, f3, hc3, hq3⟩
                have hsu3 := hq3.size
                have hbase3 := hbV.size
                have F3 := Lib.hid f3; clear f3
                have Q3 := Lib.hid hq3; clear hq3
                go_wp2_with (at_builtin; refine wpList_append_far rfl _ _ _ rfl W.heap.size 27 (.agg #[.string ⟨#[]⟩, .int .i64 0, .slice none 0 0, .int .i64 0, .int .i64 0]) 5 64 Try.underlying24 infoPart rfl (by omega) (by omega) partC ms (⟨t.code, t.slot, a3, k3, t.ports, t.price, t.grams⟩ : PartM) A' c' rfl ((HoV.out.1.keep Q3.out).keep (balloc _ _)) (u3.heap.size) _ rfl rfl (five_cells (by go_simp) (by go_simp) (by go_simp) (by go_simp) (by go_simp)) (partC_one _) (by omega) (by simp; omega) ?_)
                intro AA3 cc3 ww3 hown3 hbb3 hfar3
                have G3 : Hid (GrowP W.heap.size ww3 AA3 cc3 (ms ++ [(⟨t.code, t.slot, a3, k3, t.ports, t.price, t.grams⟩ : PartM)])) := ⟨hown3, HoV.out.2.append (m := (⟨t.code, t.slot, a3, k3, t.ports, t.price, t.grams⟩ : PartM)) HoV.out.1.lt hbase3 Q3.out F3.out hc3 rfl hfar3 hbb3.size⟩
                have hB3 : Below W.heap.size W ww3 := (bthen' (bthen' hbV Q3.out) (balloc _ _)).trans hbb3
                have Hfar3 := Lib.hid hfar3
                clear hown3 hbb3 hfar3
                go_wp2_with fail
                exact ⟨⟨k + 1, AA3, cc3, ms ++ [(⟨t.code, t.slot, a3, k3, t.ports, t.price, t.grams⟩ : PartM)], by omega, by go_num, by simp, by rw [HD.out], by rw [HD.out, List.map_append, Hv.out]; rfl, G3.out, hB3⟩, by simp [intOf]; omega⟩
            · obtain rfl : k = vs.length := by omega
              have HL : Hid (addL p vs = if (addTo p vs vs.length).2 = true then (addTo p vs vs.length).1 else (addTo p vs vs.length).1 ++ [p]) := rfl
              generalize addL p vs = al2 at HL HR
              clear D1 D2
              generalize hac : addTo p vs vs.length = ac at HL Hv ⊢
              obtain ⟨al, ad⟩ := ac
              clear hac
              have b0 := (hb.cell (p := ⟨g0, 0, none⟩) (World.block_lt_of_cell? W _ c0)).trans c0
              have b1 := (hb.cell (p := ⟨g0, 1, none⟩) (World.block_lt_of_cell? W _ c1)).trans c1
              have b2 := (hb.cell (p := ⟨g0, 2, none⟩) (World.block_lt_of_cell? W _ c2)).trans c2
              have b3 := (hb.cell (p := ⟨g0, 3, none⟩) (World.block_lt_of_cell? W _ c3)).trans c3
              have b4 := (hb.cell (p := ⟨g0, 4, none⟩) (World.block_lt_of_cell? W _ c4)).trans c4
              cases ad
              case true =>
                rw [if_pos rfl] at HL
                go_wp2_with fail
                go_ret2
                subst hg0
                exact ⟨A', c', by rw [HR.out, HL.out, ← Hv.out]; simp only [List.length_map]; rfl, by rw [HR.out, HL.out]; exact FlatR.mono ⟨ms, Hv.out, Ho.out.1.flat partC_len, Ho.out.2⟩ hbS (Nat.le_refl _), by rw [HR.out, HL.out, ← Hv.out]; simp only [List.length_map]; exact Ho.out.1.cap, hbW.trans (hb.mono hbS)⟩
              case false =>
                rw [if_neg (by simp)] at HL
                go_wp2_with fail
                refine (copyPart_any p pp pq _ ((hrpW.below (hb.mono hbS)).more (Nat.le_trans hbS hb.size)) hpm).mono ?_
                rintro e u4 ⟨a4, k4, rfl, f4, hc4, hq4⟩
                have hsu4 := hq4.size
                have hbase4 := hb.size
                have F4 := Lib.hid f4; clear f4
                have Q4 := Lib.hid hq4; clear hq4
                go_wp2_with (at_builtin; refine wpList_append_far rfl _ _ _ rfl W.heap.size 27 (.agg #[.string ⟨#[]⟩, .int .i64 0, .slice none 0 0, .int .i64 0, .int .i64 0]) 5 64 Try.underlying24 infoPart rfl (by omega) (by omega) partC ms (⟨p.code, p.slot, a4, k4, p.ports, p.price, p.grams⟩ : PartM) A' c' rfl ((Ho.out.1.keep Q4.out).keep (balloc _ _)) (u4.heap.size) _ rfl rfl (five_cells (by go_simp) (by go_simp) (by go_simp) (by go_simp) (by go_simp)) (partC_one _) (by omega) (by simp; omega) ?_)
                intro AA4 cc4 ww4 hown4 hbb4 hfar4
                have G4 : Hid (GrowP W.heap.size ww4 AA4 cc4 (ms ++ [(⟨p.code, p.slot, a4, k4, p.ports, p.price, p.grams⟩ : PartM)])) := ⟨hown4, Ho.out.2.append (m := (⟨p.code, p.slot, a4, k4, p.ports, p.price, p.grams⟩ : PartM)) Ho.out.1.lt hbase4 Q4.out F4.out hc4 rfl hfar4 hbb4.size⟩
                have hB4 : Below W.heap.size W ww4 := (bthen' (bthen' hb Q4.out) (balloc _ _)).trans hbb4
                have Hfar4 := Lib.hid hfar4
                clear hown4 hbb4 hfar4
                go_wp2_with fail
                go_ret2
                subst hg0
                have Hm : Hid ((ms ++ [(⟨p.code, p.slot, a4, k4, p.ports, p.price, p.grams⟩ : PartM)]).map PartM.val = al ++ [p]) := by unfold Hid; rw [List.map_append, Hv.out]; rfl
                exact ⟨AA4, cc4, by rw [HR.out, HL.out, ← Hm.out]; simp only [List.length_map, List.length_append, List.length_singleton]; rfl, by rw [HR.out, HL.out]; exact FlatR.mono ⟨_, Hm.out, G4.out.1.flat partC_len, G4.out.2⟩ hbS (Nat.le_refl _), by rw [HR.out, HL.out, ← Hm.out]; simp only [List.length_map]; exact G4.out.1.cap, hbW.trans (hB4.mono hbS)⟩
      · rw [if_neg hn] at HR
        have hn' : 0 ≤ nf := by omega
        clear HNe
        go_wp2_with fail
        go_ret2
        subst hg0
        exact ⟨none, 0, by rw [HR.out]; rfl, by rw [HR.out]; exact FlatR.nil, by rw [HR.out]; exact Nat.le_refl _, hbW.trans (hb13.mono hbS)⟩

set_option maxHeartbeats 2000000 in
theorem AddPart_spec (A : Option Addr) (c : Nat) (vs : List PartT) (p : PartT) (pp : Option Addr) (pq : Nat) (w : World) (hr : RdV w w.heap.size A vs) (hrp : Rd w w.heap.size 3 portC pp p.ports) (hs : SmallV vs) (hpn : p.code.size ≤ maxLen) (hpm : p.ports.length ≤ 1048576) (hpc : p.ports.length ≤ pq) :
    Calls Try.prog 7 #[.slice A vs.length c, .agg #[.string p.code, .int .i64 p.slot, .slice pp p.ports.length pq, .int .i64 p.price, .int .i64 p.grams]] w (GivesParts2 w (addR vs p)) := by
  have HA : Hid (∀ v : World, RdV v v.heap.size A vs → Calls Try.prog 30 #[.slice A vs.length c] v fun e w' => e = .returned (.bool (partsB vs)) ∧ Below v.heap.size v w') := fun v hv => areParts_spec A c vs v hv hs.1 hs.2
  have HI : Hid (∀ v : World, Rd v v.heap.size 3 portC pp p.ports → Calls Try.prog 22 #[.agg #[.string p.code, .int .i64 p.slot, .slice pp p.ports.length pq, .int .i64 p.price, .int .i64 p.grams]] v fun e w' => e = .returned (.bool (partB p)) ∧ Below v.heap.size v w') := fun v hv => isPart_spec p pp pq v hv hpn hpm hpc
  have HN : Hid (∀ v : World, RdV v v.heap.size A vs → Calls Try.prog 31 #[.slice A vs.length c, .string p.code] v fun e w' => e = .returned (.int .i64 (findI vs p.code)) ∧ Below v.heap.size v w') := fun v hv => l16Find_any A c vs p.code v hv hs.1
  have hm := hs.1
  have hs2 := Lib.hid hs.2
  have hbd := findI_bd vs p.code hs.1
  clear hs
  have HR : Hid (addR vs p = if partsB vs = true then (if partB p = true then (if findI vs p.code < 0 then (if vs.length = 16 then ([], 3) else (addL p vs, 0)) else ([], 5)) else ([], 1)) else ([], 1)) := rfl
  have HL : Hid (partsB vs = true → vs.length ≤ 16) := partsB_len
  have HNe : Hid (findI vs p.code < 0 → ∀ x ∈ vs, x.code ≠ p.code) := fun h => by
    rcases findI_cases vs p.code with ⟨_, h1⟩ | ⟨k, x, h1, _⟩
    · exact h1
    · omega
  generalize addR vs p = R at HR ⊢
  generalize hpB : partsB vs = bp at HA HR HL
  generalize hpb : partB p = bi at HI HR
  clear hpB hpb
  generalize findI vs p.code = nf at HN HR HNe hbd
  go_enter Try.func7, Try.ntmps7
  go_wp2_with fail
  have c0 : (w.alloc (.cells #[.string p.code, .int .i64 p.slot, .slice pp p.ports.length pq, .int .i64 p.price, .int .i64 p.grams] 27)).cell? ⟨w.heap.size, 0, none⟩ = some (.string p.code) := by go_simp
  have c1 : (w.alloc (.cells #[.string p.code, .int .i64 p.slot, .slice pp p.ports.length pq, .int .i64 p.price, .int .i64 p.grams] 27)).cell? ⟨w.heap.size, 1, none⟩ = some (.int .i64 p.slot) := by go_simp
  have c2 : (w.alloc (.cells #[.string p.code, .int .i64 p.slot, .slice pp p.ports.length pq, .int .i64 p.price, .int .i64 p.grams] 27)).cell? ⟨w.heap.size, 2, none⟩ = some (.slice pp p.ports.length pq) := by go_simp
  have c3 : (w.alloc (.cells #[.string p.code, .int .i64 p.slot, .slice pp p.ports.length pq, .int .i64 p.price, .int .i64 p.grams] 27)).cell? ⟨w.heap.size, 3, none⟩ = some (.int .i64 p.price) := by go_simp
  have c4 : (w.alloc (.cells #[.string p.code, .int .i64 p.slot, .slice pp p.ports.length pq, .int .i64 p.price, .int .i64 p.grams] 27)).cell? ⟨w.heap.size, 4, none⟩ = some (.int .i64 p.grams) := by go_simp
  have hbW := balloc w (.cells #[.string p.code, .int .i64 p.slot, .slice pp p.ports.length pq, .int .i64 p.price, .int .i64 p.grams] 27)
  have hbS := hbW.size
  generalize w.alloc (.cells #[.string p.code, .int .i64 p.slot, .slice pp p.ports.length pq, .int .i64 p.price, .int .i64 p.grams] 27) = W at c0 c1 c2 c3 c4 hbW hbS ⊢
  generalize hg0 : w.heap.size = g0 at c0 c1 c2 c3 c4 ⊢
  have hrW := hr.below hbW
  have hrpW := hrp.below hbW
  refine (HA.out W (hrW.more hbS)).mono ?_
  rintro e w1 ⟨rfl, hb1⟩
  have b0 := (hb1.cell (p := ⟨g0, 0, none⟩) (World.block_lt_of_cell? W _ c0)).trans c0
  have b1 := (hb1.cell (p := ⟨g0, 1, none⟩) (World.block_lt_of_cell? W _ c1)).trans c1
  have b2 := (hb1.cell (p := ⟨g0, 2, none⟩) (World.block_lt_of_cell? W _ c2)).trans c2
  have b3 := (hb1.cell (p := ⟨g0, 3, none⟩) (World.block_lt_of_cell? W _ c3)).trans c3
  have b4 := (hb1.cell (p := ⟨g0, 4, none⟩) (World.block_lt_of_cell? W _ c4)).trans c4
  cases bp
  case false =>
    rw [if_neg (by simp)] at HR
    go_wp2_with fail
    go_ret2
    subst hg0
    exact ⟨none, 0, by rw [HR.out]; rfl, by rw [HR.out]; exact FlatR.nil, by rw [HR.out]; exact Nat.le_refl _, hbW.trans (hb1.mono hbS)⟩
  case true =>
    have hlen := HL.out rfl
    rw [if_pos rfl] at HR
    clear HL
    go_wp2_with fail
    refine (HI.out w1 ((hrpW.more hbS).next hb1)).mono ?_
    rintro e w2 ⟨rfl, hb2⟩
    clear b0 b1 b2 b3 b4
    have hb12 := bthen hb1 hb2
    have b0 := (hb12.cell (p := ⟨g0, 0, none⟩) (World.block_lt_of_cell? W _ c0)).trans c0
    have b1 := (hb12.cell (p := ⟨g0, 1, none⟩) (World.block_lt_of_cell? W _ c1)).trans c1
    have b2 := (hb12.cell (p := ⟨g0, 2, none⟩) (World.block_lt_of_cell? W _ c2)).trans c2
    have b3 := (hb12.cell (p := ⟨g0, 3, none⟩) (World.block_lt_of_cell? W _ c3)).trans c3
    have b4 := (hb12.cell (p := ⟨g0, 4, none⟩) (World.block_lt_of_cell? W _ c4)).trans c4
    cases bi
    case false =>
      rw [if_neg (by simp)] at HR
      go_wp2_with fail
      go_ret2
      subst hg0
      exact ⟨none, 0, by rw [HR.out]; rfl, by rw [HR.out]; exact FlatR.nil, by rw [HR.out]; exact Nat.le_refl _, hbW.trans (hb12.mono hbS)⟩
    case true =>
      rw [if_pos rfl] at HR
      go_wp2_with fail
      refine (HN.out w2 ((hrW.more hbS).next hb12)).mono ?_
      rintro e w3 ⟨rfl, hb3⟩
      have hb13 := bthen hb12 hb3
      clear b0 b1 b2 b3 b4
      have hs13 := hb13.size
      by_cases hn : nf < 0
      · rw [if_pos hn] at HR
        have Hne : Hid (∀ x ∈ vs, x.code ≠ p.code) := HNe.out hn
        clear HNe
        by_cases h16 : vs.length = 16
        · rw [if_pos h16] at HR
          have h16b : ((vs.length : Int) == 16) = true := by simp [h16]
          have H16 := Lib.hid h16; clear h16
          go_wp2_with fail
          go_ret2
          subst hg0
          exact ⟨none, 0, by rw [HR.out]; rfl, by rw [HR.out]; exact FlatR.nil, by rw [HR.out]; exact Nat.le_refl _, hbW.trans (hb13.mono hbS)⟩
        · rw [if_neg h16] at HR
          have h16b : ((vs.length : Int) == 16) = false := by rw [beq_eq_false_iff_ne]; omega
          have H16 := Lib.hid h16; clear h16
          go_wp2_with fail
          go_loopw [6, 7, 8] (fun out pl i wr => ∃ (k : Nat) (A' : Option Addr) (c' : Nat) (ms : List PartM), k ≤ vs.length ∧ i = .int .i64 k ∧ out = .slice A' ms.length c' ∧ pl = .bool (addTo p vs k).2 ∧ ms.map PartM.val = (addTo p vs k).1 ∧ GrowP W.heap.size wr A' c' ms ∧ Below W.heap.size W wr) (fun _ _ i _ => vs.length - (intOf i).toNat)
          case atStart => exact ⟨0, _, _, [], Nat.zero_le _, rfl, rfl, rfl, rfl, ⟨Own.made _ hs13 rfl, Inner.nil⟩, bthen hb13 (balloc _ _)⟩
          case round =>
            obtain ⟨k, A', c', ms, hk, rfl, rfl, rfl, hval, hown, hb⟩ := hrel
            have Ho := Lib.hid hown; clear hown
            have hle := addTo_le p vs k
            have hml : ms.length ≤ k + 1 := by
              have := congrArg List.length hval
              rw [List.length_map] at this
              rw [this]
              split at hle <;> omega
            clear hle
            have Hv := Lib.hid hval; clear hval
            have hgw := hb.size
            have D1 : Hid (∀ t, vs[k]? = some t → (addTo p vs k).2 = false → ltT p.code t.code = true → addTo p vs (k + 1) = ((addTo p vs k).1 ++ [p] ++ [t], true)) := fun t hx h1 h2 => addTo_in hx h1 h2
            have D2 : Hid (∀ t, vs[k]? = some t → (addTo p vs k).2 = true ∨ ltT p.code t.code = false → addTo p vs (k + 1) = ((addTo p vs k).1 ++ [t], (addTo p vs k).2)) := fun t hx h => addTo_on hx h
            by_cases hlt : k < vs.length
            · have hx : vs[k]? = some vs[k] := List.getElem?_eq_getElem hlt
              obtain ⟨b, o, rfl⟩ := hr.addr (by omega)
              obtain ⟨hB, pA, pc, q0, q1, q2, q3, q4, hpr, _⟩ := (hrW.below (hb.mono hbS)).cells hx
              generalize vs[k] = t at q0 q1 q2 q3 q4 hx hpr
              have hpl := (hs2.out t (List.mem_of_getElem? hx)).2
              have HGT : Hid (∀ {v : Bool}, ltT p.code t.code = v → Go.Op.bytesLess t.code.toList p.code.toList = !v) := fun h => by
                rw [← h]
                exact lt_gt (Hne.out t (List.mem_of_getElem? hx))
              have htp : (t.code.toList == p.code.toList) = false := by
                have := Hne.out t (List.mem_of_getElem? hx)
                simp
                exact fun e => this (str_eq.1 e)
              have Hx := Lib.hid hx
              have D1 := Lib.hid (D1.out t hx)
              have D2 := Lib.hid (D2.out t hx)
              clear hx
              generalize hac : addTo p vs k = ac at D1 D2 Hv ⊢
              obtain ⟨al, ad⟩ := ac
              clear hac
              have hprw := hpr.more (Nat.le_trans hbS hb.size)
              have b0 := (hb.cell (p := ⟨g0, 0, none⟩) (World.block_lt_of_cell? W _ c0)).trans c0
              have b1 := (hb.cell (p := ⟨g0, 1, none⟩) (World.block_lt_of_cell? W _ c1)).trans c1
              have b2 := (hb.cell (p := ⟨g0, 2, none⟩) (World.block_lt_of_cell? W _ c2)).trans c2
              have b3 := (hb.cell (p := ⟨g0, 3, none⟩) (World.block_lt_of_cell? W _ c3)).trans c3
              have b4 := (hb.cell (p := ⟨g0, 4, none⟩) (World.block_lt_of_cell? W _ c4)).trans c4
              have HoV := Lib.hid Ho.out
              have hbV := hb
              have hprV := hprw
              clear Ho hb hpr hprw
              go_wp2_with fail
              cases ad
              case false =>
                by_cases hlt2 : ltT p.code t.code = true
                · have HD := Lib.hid (D1.out rfl hlt2)
                  have hp1 : Go.Op.bytesLess p.code.toList t.code.toList = true := by simpa [ltT] using hlt2
                  have ht1 : Go.Op.bytesLess t.code.toList p.code.toList = false := HGT.out hlt2
                  clear hlt2 D1 D2
                  have l0 : ∀ v : Later wr, v.w.cell? ⟨b, o + k * 5, none⟩ = some (.string t.code) := Later.cell q0
                  have l1 : ∀ v : Later wr, v.w.cell? ⟨g0, 0, none⟩ = some (.string p.code) := Later.cell b0
                  refine wp_region_later (by kernel_rfl) (by kernel_rfl) ?_
                  repeat (go_big_quiet_step (fail))
                  refine wpQuiet_nil ?_
                  rintro _ ⟨⟨V, hbx⟩, rfl⟩
                  replace HoV := Lib.hid (HoV.out.step hbx)
                  replace hprV := hprV.next hbx
                  replace hbV := bthen' hbV hbx
                  have hrV := (hrW.below (hbV.mono hbS))
                  clear l0 l1 q0 q1 q2 q3 q4 b0 b1 b2 b3 b4
                  have b0 := (hbV.cell (p := ⟨g0, 0, none⟩) (World.block_lt_of_cell? W _ c0)).trans c0
                  have b1 := (hbV.cell (p := ⟨g0, 1, none⟩) (World.block_lt_of_cell? W _ c1)).trans c1
                  have b2 := (hbV.cell (p := ⟨g0, 2, none⟩) (World.block_lt_of_cell? W _ c2)).trans c2
                  have b3 := (hbV.cell (p := ⟨g0, 3, none⟩) (World.block_lt_of_cell? W _ c3)).trans c3
                  have b4 := (hbV.cell (p := ⟨g0, 4, none⟩) (World.block_lt_of_cell? W _ c4)).trans c4
                  obtain ⟨_, pA1, pc1, q0, q1, q2, q3, q4, hpr1, _⟩ := hrV.cells Hx.out
                  replace hprV := hpr1.more (Nat.le_trans hbS hbV.size)
                  go_wp2_with fail
                  refine (l16Copy_any p pp pq _ ((hrpW.below (hbV.mono hbS)).more (Nat.le_trans hbS hbV.size)) hpm).mono ?_
                  rintro e u1 ⟨a1, k1, rfl, f1, hc1, hq1⟩
                  have hsu1 := hq1.size
                  have hbase1 := hbV.size
                  have F1 := Lib.hid f1; clear f1
                  have Q1 := Lib.hid hq1; clear hq1
                  go_wp2_with (at_builtin; refine wpList_append_far rfl _ _ _ rfl W.heap.size 27 (.agg #[.string ⟨#[]⟩, .int .i64 0, .slice none 0 0, .int .i64 0, .int .i64 0]) 5 64 Try.underlying24 infoPart rfl (by omega) (by omega) partC ms (⟨p.code, p.slot, a1, k1, p.ports, p.price, p.grams⟩ : PartM) A' c' rfl ((HoV.out.1.keep Q1.out).keep (balloc _ _)) (u1.heap.size) _ rfl rfl (five_cells (by go_simp) (by go_simp) (by go_simp) (by go_simp) (by go_simp)) (partC_one _) (by omega) (by simp; omega) ?_)
                  intro AA1 cc1 ww1 hown1 hbb1 hfar1
                  have G1 : Hid (GrowP W.heap.size ww1 AA1 cc1 (ms ++ [(⟨p.code, p.slot, a1, k1, p.ports, p.price, p.grams⟩ : PartM)])) := ⟨hown1, HoV.out.2.append (m := (⟨p.code, p.slot, a1, k1, p.ports, p.price, p.grams⟩ : PartM)) HoV.out.1.lt hbase1 Q1.out F1.out hc1 rfl hfar1 hbb1.size⟩
                  have hB1 : Below W.heap.size W ww1 := (bthen' (bthen' hbV Q1.out) (balloc _ _)).trans hbb1
                  have Hfar1 := Lib.hid hfar1
                  clear hown1 hbb1 hfar1
                  clear q0 q1 q2 q3 q4 b0 b1 b2 b3 b4
                  obtain ⟨_, pA2, pc2, q0, q1, q2, q3, q4, hpr2, _⟩ := (hrW.below (hB1.mono hbS)).cells Hx.out
                  have hprW2 := hpr2.more (Nat.le_trans hbS hB1.size)
                  have hl1 : (ms ++ [(⟨p.code, p.slot, a1, k1, p.ports, p.price, p.grams⟩ : PartM)]).length = ms.length + 1 := by simp
                  generalize hms2 : (ms ++ [(⟨p.code, p.slot, a1, k1, p.ports, p.price, p.grams⟩ : PartM)]) = ms2 at G1 hl1
                  rw [← hl1]
                  have hml2 : ms2.length ≤ k + 2 := by omega
                  have Hl1 := Lib.hid hl1; clear hl1
                  have Hms2 := Lib.hid hms2; clear hms2
                  go_wp2_with fail
                  refine (l16Copy_any t pA2 pc2 _ hprW2 hpl).mono ?_
                  rintro e u2 ⟨a2, k2, rfl, f2, hc2, hq2⟩
                  have hsu2 := hq2.size
                  have hbase2 := hB1.size
                  have F2 := Lib.hid f2; clear f2
                  have Q2 := Lib.hid hq2; clear hq2
                  go_wp2_with (at_builtin; refine wpList_append_far rfl _ _ _ rfl W.heap.size 27 (.agg #[.string ⟨#[]⟩, .int .i64 0, .slice none 0 0, .int .i64 0, .int .i64 0]) 5 64 Try.underlying24 infoPart rfl (by omega) (by omega) partC ms2 (⟨t.code, t.slot, a2, k2, t.ports, t.price, t.grams⟩ : PartM) AA1 cc1 rfl ((G1.out.1.keep Q2.out).keep (balloc _ _)) (u2.heap.size) _ rfl rfl (five_cells (by go_simp) (by go_simp) (by go_simp) (by go_simp) (by go_simp)) (partC_one _) (by omega) (by simp; omega) ?_)
                  intro AA2 cc2 ww2 hown2 hbb2 hfar2
                  have G2 : Hid (GrowP W.heap.size ww2 AA2 cc2 (ms2 ++ [(⟨t.code, t.slot, a2, k2, t.ports, t.price, t.grams⟩ : PartM)])) := ⟨hown2, G1.out.2.append (m := (⟨t.code, t.slot, a2, k2, t.ports, t.price, t.grams⟩ : PartM)) G1.out.1.lt hbase2 Q2.out F2.out hc2 rfl hfar2 hbb2.size⟩
                  have hB2 : Below W.heap.size W ww2 := (bthen' (bthen' hB1 Q2.out) (balloc _ _)).trans hbb2
                  have Hfar2 := Lib.hid hfar2
                  clear hown2 hbb2 hfar2
                  go_wp2_with fail
                  exact ⟨⟨k + 1, AA2, cc2, ms2 ++ [(⟨t.code, t.slot, a2, k2, t.ports, t.price, t.grams⟩ : PartM)], by omega, by go_num, by simp, by rw [HD.out], by rw [HD.out, List.map_append, ← Hms2.out, List.map_append, Hv.out]; rfl, G2.out, hB2⟩, by simp [intOf]; omega⟩
                · replace hlt2 : ltT p.code t.code = false := by simpa using hlt2
                  have HD := Lib.hid (D2.out (Or.inr hlt2))
                  have hp1 : Go.Op.bytesLess p.code.toList t.code.toList = false := by simpa [ltT] using hlt2
                  have ht1 : Go.Op.bytesLess t.code.toList p.code.toList = true := HGT.out hlt2
                  clear hlt2 D1 D2
                  have l0 : ∀ v : Later wr, v.w.cell? ⟨b, o + k * 5, none⟩ = some (.string t.code) := Later.cell q0
                  have l1 : ∀ v : Later wr, v.w.cell? ⟨g0, 0, none⟩ = some (.string p.code) := Later.cell b0
                  refine wp_region_later (by kernel_rfl) (by kernel_rfl) ?_
                  repeat (go_big_quiet_step (fail))
                  refine wpQuiet_nil ?_
                  rintro _ ⟨⟨V, hbx⟩, rfl⟩
                  replace HoV := Lib.hid (HoV.out.step hbx)
                  replace hprV := hprV.next hbx
                  replace hbV := bthen' hbV hbx
                  have hrV := (hrW.below (hbV.mono hbS))
                  clear l0 l1 q0 q1 q2 q3 q4 b0 b1 b2 b3 b4
                  have b0 := (hbV.cell (p := ⟨g0, 0, none⟩) (World.block_lt_of_cell? W _ c0)).trans c0
                  have b1 := (hbV.cell (p := ⟨g0, 1, none⟩) (World.block_lt_of_cell? W _ c1)).trans c1
                  have b2 := (hbV.cell (p := ⟨g0, 2, none⟩) (World.block_lt_of_cell? W _ c2)).trans c2
                  have b3 := (hbV.cell (p := ⟨g0, 3, none⟩) (World.block_lt_of_cell? W _ c3)).trans c3
                  have b4 := (hbV.cell (p := ⟨g0, 4, none⟩) (World.block_lt_of_cell? W _ c4)).trans c4
                  obtain ⟨_, pA1, pc1, q0, q1, q2, q3, q4, hpr1, _⟩ := hrV.cells Hx.out
                  replace hprV := hpr1.more (Nat.le_trans hbS hbV.size)
                  go_wp2_with fail
                  refine (l16Copy_any t pA1 pc1 _ hprV hpl).mono ?_
                  rintro e u3 ⟨a3, k3, rfl, f3, hc3, hq3⟩
                  have hsu3 := hq3.size
                  have hbase3 := hbV.size
                  have F3 := Lib.hid f3; clear f3
                  have Q3 := Lib.hid hq3; clear hq3
                  go_wp2_with (at_builtin; refine wpList_append_far rfl _ _ _ rfl W.heap.size 27 (.agg #[.string ⟨#[]⟩, .int .i64 0, .slice none 0 0, .int .i64 0, .int .i64 0]) 5 64 Try.underlying24 infoPart rfl (by omega) (by omega) partC ms (⟨t.code, t.slot, a3, k3, t.ports, t.price, t.grams⟩ : PartM) A' c' rfl ((HoV.out.1.keep Q3.out).keep (balloc _ _)) (u3.heap.size) _ rfl rfl (five_cells (by go_simp) (by go_simp) (by go_simp) (by go_simp) (by go_simp)) (partC_one _) (by omega) (by simp; omega) ?_)
                  intro AA3 cc3 ww3 hown3 hbb3 hfar3
                  have G3 : Hid (GrowP W.heap.size ww3 AA3 cc3 (ms ++ [(⟨t.code, t.slot, a3, k3, t.ports, t.price, t.grams⟩ : PartM)])) := ⟨hown3, HoV.out.2.append (m := (⟨t.code, t.slot, a3, k3, t.ports, t.price, t.grams⟩ : PartM)) HoV.out.1.lt hbase3 Q3.out F3.out hc3 rfl hfar3 hbb3.size⟩
                  have hB3 : Below W.heap.size W ww3 := (bthen' (bthen' hbV Q3.out) (balloc _ _)).trans hbb3
                  have Hfar3 := Lib.hid hfar3
                  clear hown3 hbb3 hfar3
                  go_wp2_with fail
                  exact ⟨⟨k + 1, AA3, cc3, ms ++ [(⟨t.code, t.slot, a3, k3, t.ports, t.price, t.grams⟩ : PartM)], by omega, by go_num, by simp, by rw [HD.out], by rw [HD.out, List.map_append, Hv.out]; rfl, G3.out, hB3⟩, by simp [intOf]; omega⟩
              case true =>
                have HD := Lib.hid (D2.out (Or.inl rfl))
                clear D1 D2
                have l0 : ∀ v : Later wr, v.w.cell? ⟨b, o + k * 5, none⟩ = some (.string t.code) := Later.cell q0
                have l1 : ∀ v : Later wr, v.w.cell? ⟨g0, 0, none⟩ = some (.string p.code) := Later.cell b0
                refine wp_region_later (by kernel_rfl) (by kernel_rfl) ?_
                repeat (go_big_quiet_step (fail))
                refine wpQuiet_nil ?_
                rintro _ ⟨⟨V, hbx⟩, rfl⟩
                replace HoV := Lib.hid (HoV.out.step hbx)
                replace hprV := hprV.next hbx
                replace hbV := bthen' hbV hbx
                have hrV := (hrW.below (hbV.mono hbS))
                clear l0 l1 q0 q1 q2 q3 q4 b0 b1 b2 b3 b4
                have b0 := (hbV.cell (p := ⟨g0, 0, none⟩) (World.block_lt_of_cell? W _ c0)).trans c0
                have b1 := (hbV.cell (p := ⟨g0, 1, none⟩) (World.block_lt_of_cell? W _ c1)).trans c1
                have b2 := (hbV.cell (p := ⟨g0, 2, none⟩) (World.block_lt_of_cell? W _ c2)).trans c2
                have b3 := (hbV.cell (p := ⟨g0, 3, none⟩) (World.block_lt_of_cell? W _ c3)).trans c3
                have b4 := (hbV.cell (p := ⟨g0, 4, none⟩) (World.block_lt_of_cell? W _ c4)).trans c4
                obtain ⟨_, pA1, pc1, q0, q1, q2, q3, q4, hpr1, _⟩ := hrV.cells Hx.out
                replace hprV := hpr1.more (Nat.le_trans hbS hbV.size)
                go_wp2_with fail
                refine (l16Copy_any t pA1 pc1 _ hprV hpl).mono ?_
                rintro e u3 ⟨a3, k3, rfl, f3, hc3, hq3⟩
                have hsu3 := hq3.size
                have hbase3 := hbV.size
                have F3 := Lib.hid f3; clear f3
                have Q3 := Lib.hid hq3; clear hq3
                go_wp2_with (at_builtin; refine wpList_append_far rfl _ _ _ rfl W.heap.size 27 (.agg #[.string ⟨#[]⟩, .int .i64 0, .slice none 0 0, .int .i64 0, .int .i64 0]) 5 64 Try.underlying24 infoPart rfl (by omega) (by omega) partC ms (⟨t.code, t.slot, a3, k3, t.ports, t.price, t.grams⟩ : PartM) A' c' rfl ((HoV.out.1.keep Q3.out).keep (balloc _ _)) (u3.heap.size) _ rfl rfl (five_cells (by go_simp) (by go_simp) (by go_simp) (by go_simp) (by go_simp)) (partC_one _) (by omega) (by simp; omega) ?_)
                intro AA3 cc3 ww3 hown3 hbb3 hfar3
                have G3 : Hid (GrowP W.heap.size ww3 AA3 cc3 (ms ++ [(⟨t.code, t.slot, a3, k3, t.ports, t.price, t.grams⟩ : PartM)])) := ⟨hown3, HoV.out.2.append (m := (⟨t.code, t.slot, a3, k3, t.ports, t.price, t.grams⟩ : PartM)) HoV.out.1.lt hbase3 Q3.out F3.out hc3 rfl hfar3 hbb3.size⟩
                have hB3 : Below W.heap.size W ww3 := (bthen' (bthen' hbV Q3.out) (balloc _ _)).trans hbb3
                have Hfar3 := Lib.hid hfar3
                clear hown3 hbb3 hfar3
                go_wp2_with fail
                exact ⟨⟨k + 1, AA3, cc3, ms ++ [(⟨t.code, t.slot, a3, k3, t.ports, t.price, t.grams⟩ : PartM)], by omega, by go_num, by simp, by rw [HD.out], by rw [HD.out, List.map_append, Hv.out]; rfl, G3.out, hB3⟩, by simp [intOf]; omega⟩
            · obtain rfl : k = vs.length := by omega
              have HL : Hid (addL p vs = if (addTo p vs vs.length).2 = true then (addTo p vs vs.length).1 else (addTo p vs vs.length).1 ++ [p]) := rfl
              generalize addL p vs = al2 at HL HR
              clear D1 D2
              generalize hac : addTo p vs vs.length = ac at HL Hv ⊢
              obtain ⟨al, ad⟩ := ac
              clear hac
              have b0 := (hb.cell (p := ⟨g0, 0, none⟩) (World.block_lt_of_cell? W _ c0)).trans c0
              have b1 := (hb.cell (p := ⟨g0, 1, none⟩) (World.block_lt_of_cell? W _ c1)).trans c1
              have b2 := (hb.cell (p := ⟨g0, 2, none⟩) (World.block_lt_of_cell? W _ c2)).trans c2
              have b3 := (hb.cell (p := ⟨g0, 3, none⟩) (World.block_lt_of_cell? W _ c3)).trans c3
              have b4 := (hb.cell (p := ⟨g0, 4, none⟩) (World.block_lt_of_cell? W _ c4)).trans c4
              cases ad
              case true =>
                rw [if_pos rfl] at HL
                go_wp2_with fail
                go_ret2
                subst hg0
                exact ⟨A', c', by rw [HR.out, HL.out, ← Hv.out]; simp only [List.length_map]; rfl, by rw [HR.out, HL.out]; exact FlatR.mono ⟨ms, Hv.out, Ho.out.1.flat partC_len, Ho.out.2⟩ hbS (Nat.le_refl _), by rw [HR.out, HL.out, ← Hv.out]; simp only [List.length_map]; exact Ho.out.1.cap, hbW.trans (hb.mono hbS)⟩
              case false =>
                rw [if_neg (by simp)] at HL
                go_wp2_with fail
                refine (l16Copy_any p pp pq _ ((hrpW.below (hb.mono hbS)).more (Nat.le_trans hbS hb.size)) hpm).mono ?_
                rintro e u4 ⟨a4, k4, rfl, f4, hc4, hq4⟩
                have hsu4 := hq4.size
                have hbase4 := hb.size
                have F4 := Lib.hid f4; clear f4
                have Q4 := Lib.hid hq4; clear hq4
                go_wp2_with (at_builtin; refine wpList_append_far rfl _ _ _ rfl W.heap.size 27 (.agg #[.string ⟨#[]⟩, .int .i64 0, .slice none 0 0, .int .i64 0, .int .i64 0]) 5 64 Try.underlying24 infoPart rfl (by omega) (by omega) partC ms (⟨p.code, p.slot, a4, k4, p.ports, p.price, p.grams⟩ : PartM) A' c' rfl ((Ho.out.1.keep Q4.out).keep (balloc _ _)) (u4.heap.size) _ rfl rfl (five_cells (by go_simp) (by go_simp) (by go_simp) (by go_simp) (by go_simp)) (partC_one _) (by omega) (by simp; omega) ?_)
                intro AA4 cc4 ww4 hown4 hbb4 hfar4
                have G4 : Hid (GrowP W.heap.size ww4 AA4 cc4 (ms ++ [(⟨p.code, p.slot, a4, k4, p.ports, p.price, p.grams⟩ : PartM)])) := ⟨hown4, Ho.out.2.append (m := (⟨p.code, p.slot, a4, k4, p.ports, p.price, p.grams⟩ : PartM)) Ho.out.1.lt hbase4 Q4.out F4.out hc4 rfl hfar4 hbb4.size⟩
                have hB4 : Below W.heap.size W ww4 := (bthen' (bthen' hb Q4.out) (balloc _ _)).trans hbb4
                have Hfar4 := Lib.hid hfar4
                clear hown4 hbb4 hfar4
                go_wp2_with fail
                go_ret2
                subst hg0
                have Hm : Hid ((ms ++ [(⟨p.code, p.slot, a4, k4, p.ports, p.price, p.grams⟩ : PartM)]).map PartM.val = al ++ [p]) := by unfold Hid; rw [List.map_append, Hv.out]; rfl
                exact ⟨AA4, cc4, by rw [HR.out, HL.out, ← Hm.out]; simp only [List.length_map, List.length_append, List.length_singleton]; rfl, by rw [HR.out, HL.out]; exact FlatR.mono ⟨_, Hm.out, G4.out.1.flat partC_len, G4.out.2⟩ hbS (Nat.le_refl _), by rw [HR.out, HL.out, ← Hm.out]; simp only [List.length_map]; exact G4.out.1.cap, hbW.trans (hB4.mono hbS)⟩
      · rw [if_neg hn] at HR
        have hn' : 0 ≤ nf := by omega
        clear HNe
        go_wp2_with fail
        go_ret2
        subst hg0
        exact ⟨none, 0, by rw [HR.out]; rfl, by rw [HR.out]; exact FlatR.nil, by rw [HR.out]; exact Nat.le_refl _, hbW.trans (hb13.mono hbS)⟩

end Go.Proofs.Ytncjgebgghpigaa
