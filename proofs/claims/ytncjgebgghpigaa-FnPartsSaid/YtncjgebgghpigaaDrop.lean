/- DERIVED. Parts without one. By program (gdrop.py). -/
import Derived.Test.YtncjgebgghpigaaCopy
import Derived.Test.YtncjgebgghpigaaFind
import Derived.Test.YtncjgebgghpigaaIdx
namespace Go.Proofs.Ytncjgebgghpigaa
set_option maxRecDepth 100000
open Go.RowKit

def idP (x : PartT) : PartT := x
def notCode (code : ByteArray) (x : PartT) : Bool := decide (¬ x.code = code)
def dropR (vs : List PartT) (code : ByteArray) : List PartT × Int := if partsB vs = true then (if findI vs code < 0 then ([], 4) else (keepTo (notCode code) idP vs vs.length, 0)) else ([], 1)
theorem five_cells {w : World} {g : Nat} {v0 v1 v2 v3 v4 : Value} (h0 : w.cell? ⟨g, 0, none⟩ = some v0) (h1 : w.cell? ⟨g, 1, none⟩ = some v1) (h2 : w.cell? ⟨g, 2, none⟩ = some v2) (h3 : w.cell? ⟨g, 3, none⟩ = some v3) (h4 : w.cell? ⟨g, 4, none⟩ = some v4) :
    ∀ j u, [v0, v1, v2, v3, v4][j]? = some u → w.cell? ⟨g, j, none⟩ = some u
  | 0, u, hj => by simp at hj; rw [← hj]; exact h0
  | 1, u, hj => by simp at hj; rw [← hj]; exact h1
  | 2, u, hj => by simp at hj; rw [← hj]; exact h2
  | 3, u, hj => by simp at hj; rw [← hj]; exact h3
  | 4, u, hj => by simp at hj; rw [← hj]; exact h4
  | _ + 5, u, hj => by simp at hj
theorem partC_one (m : PartM) : ∀ u ∈ partC m, u.oneCell' = true := fun u hu => by
  simp only [partC, List.mem_cons, List.not_mem_nil, or_false] at hu
  rcases hu with rfl | rfl | rfl | rfl | rfl <;> rfl
/-- A slice of parts that grows. -/
def GrowP (base : Nat) (w : World) (A : Option Addr) (c : Nat) (ms : List PartM) : Prop := Own w base 27 5 partC A c ms ∧ Inner w base w.heap.size A ms
theorem GrowP.step {base : Nat} {w w' : World} {A : Option Addr} {c : Nat} {ms : List PartM} (h : GrowP base w A c ms) (hb : Below w.heap.size w w') : GrowP base w' A c ms := ⟨h.1.keep hb, h.2.below hb (Nat.le_refl _) hb.size⟩

set_option maxHeartbeats 2000000 in
theorem DropPart_impl (A : Option Addr) (c : Nat) (vs : List PartT) (code : ByteArray) (w : World) (hr : RdV w w.heap.size A vs) (hs : SmallV vs) :
    Calls Try.prog 9 #[.slice A vs.length c, .string code] w (GivesParts2 w (dropR vs code)) := by
  have hJ := areParts_impl A c vs w hr hs.1 hs.2
  have hm := hs.1
  have hs2 := Lib.hid hs.2
  have hbd := findI_bd vs code hs.1
  have HF0 : Hid (∀ v : World, RdV v v.heap.size A vs → Calls Try.prog 28 #[.slice A vs.length c, .string code] v fun e w' => e = .returned (.int .i64 (findI vs code)) ∧ Below v.heap.size v w') := fun v hv => findPart_any A c vs code v hv hs.1
  clear hs
  rcases codeI_cases vs code with ⟨hp, _⟩ | ⟨hp, hn, _⟩ | ⟨hp, hn, _⟩
  · have HF : Hid (dropR vs code = ([], 1)) := by unfold Hid dropR; rw [if_neg (by simp [hp])]
    generalize dropR vs code = R at HF ⊢
    rw [hp] at hJ
    have HJ := Lib.hid hJ; clear hJ hp
    go_enter Try.func9, Try.ntmps9
    go_wp2_with fail
    refine HJ.out.mono ?_
    rintro e w1 ⟨rfl, hb1⟩
    go_wp2_with fail
    go_ret2
    exact ⟨none, 0, by rw [HF.out]; rfl, by rw [HF.out]; exact FlatR.nil, by rw [HF.out]; exact Nat.le_refl _, hb1⟩
  · have HF : Hid (dropR vs code = ([], 4)) := by unfold Hid dropR; rw [if_pos hp, if_pos hn]
    generalize dropR vs code = R at HF ⊢
    rw [hp] at hJ
    have HJ := Lib.hid hJ; clear hJ hp
    generalize findI vs code = n at hbd hn HF0
    go_enter Try.func9, Try.ntmps9
    go_wp2_with fail
    refine HJ.out.mono ?_
    rintro e w1 ⟨rfl, hb1⟩
    go_wp2_with fail
    refine (HF0.out w1 (hr.next hb1)).mono ?_
    rintro e w2 ⟨rfl, hb2⟩
    go_wp2_with fail
    go_ret2
    exact ⟨none, 0, by rw [HF.out]; rfl, by rw [HF.out]; exact FlatR.nil, by rw [HF.out]; exact Nat.le_refl _, bthen hb1 hb2⟩
  · have HF : Hid (dropR vs code = (keepTo (notCode code) idP vs vs.length, 0)) := by unfold Hid dropR; rw [if_pos hp, if_neg (by omega)]
    generalize dropR vs code = R at HF ⊢
    have hlen := partsB_len hp
    rw [hp] at hJ
    have HJ := Lib.hid hJ; clear hJ hp
    generalize findI vs code = n at hbd hn HF0
    go_enter Try.func9, Try.ntmps9
    go_wp2_with fail
    refine HJ.out.mono ?_
    rintro e w1 ⟨rfl, hb1⟩
    go_wp2_with fail
    refine (HF0.out w1 (hr.next hb1)).mono ?_
    rintro e w2 ⟨rfl, hb2⟩
    have hb12 := bthen hb1 hb2
    clear hb1 hb2
    go_wp2_with fail
    go_loopw [6, 18] (fun out i wr => ∃ (k : Nat) (A' : Option Addr) (c' : Nat) (ms : List PartM), k ≤ vs.length ∧ i = .int .i64 k ∧ out = .slice A' ms.length c' ∧ ms.map PartM.val = keepTo (notCode code) idP vs k ∧ GrowP w.heap.size wr A' c' ms ∧ Below w.heap.size w wr) (fun _ i _ => vs.length - (intOf i).toNat)
    case atStart => exact ⟨0, _, _, [], Nat.zero_le _, rfl, rfl, rfl, ⟨Own.nil, Inner.nil⟩, hb12⟩
    case round =>
      obtain ⟨k, A', c', ms, hk, rfl, rfl, hval, hown, hb⟩ := hrel
      have Ho := Lib.hid hown; clear hown
      have Hv := Lib.hid hval; clear hval
      have hml : ms.length ≤ k := by
        have := congrArg List.length Hv.out
        rw [List.length_map] at this
        rw [this]
        exact keepTo_le _ _ _ _
      by_cases hlt : k < vs.length
      · have hx : vs[k]? = some vs[k] := List.getElem?_eq_getElem hlt
        obtain ⟨b, o, rfl⟩ := hr.addr (by omega)
        obtain ⟨hB, pA, pc, q0, q1, q2, q3, q4, hpr, _⟩ := (hr.below hb).cells hx
        generalize vs[k] = t at q0 q1 q2 q3 q4 hx hpr
        have hpl := (hs2.out t (List.mem_of_getElem? hx)).2
        have Hx := Lib.hid hx; clear hx
        by_cases hc : t.code = code
        · have HD := Lib.hid (keepTo_no (p := notCode code) (g := idP) Hx.out (by simp [notCode, hc]))
          have hcc : (t.code.toList == code.toList) = true := by simp [hc]
          clear hc
          go_wp2_with fail
          exact ⟨⟨k + 1, A', c', ms, by omega, by go_num, rfl, by rw [Hv.out, HD.out], Ho.out.step (balloc _ _), (hb.alloc hb.size (.cells #[.string t.code, .int .i64 t.slot, .slice pA t.ports.length pc, .int .i64 t.price, .int .i64 t.grams] 27))⟩, by simp [intOf]; omega⟩
        · have HD := Lib.hid (keepTo_yes (p := notCode code) (g := idP) Hx.out (by simp [notCode, hc]))
          have hcc : (t.code.toList == code.toList) = false := by simp; exact fun e => hc (str_eq.1 e)
          clear hc
          go_wp2_with fail
          have hprV : Rd (wr.alloc (.cells #[.string t.code, .int .i64 t.slot, .slice pA t.ports.length pc, .int .i64 t.price, .int .i64 t.grams] 27)) (wr.alloc (.cells #[.string t.code, .int .i64 t.slot, .slice pA t.ports.length pc, .int .i64 t.price, .int .i64 t.grams] 27)).heap.size 3 portC pA t.ports := (hpr.more hb.size).next (balloc wr _)
          have HoV := Lib.hid (Ho.out.step (balloc wr (.cells #[.string t.code, .int .i64 t.slot, .slice pA t.ports.length pc, .int .i64 t.price, .int .i64 t.grams] 27)))
          have hbV := hb.alloc hb.size (.cells #[.string t.code, .int .i64 t.slot, .slice pA t.ports.length pc, .int .i64 t.price, .int .i64 t.grams] 27)
          generalize (wr.alloc (.cells #[.string t.code, .int .i64 t.slot, .slice pA t.ports.length pc, .int .i64 t.price, .int .i64 t.grams] 27)) = V at hprV HoV hbV ⊢
          clear q0 q1 q2 q3 q4 hpr Ho hb
          refine (copyPart_any t pA pc V hprV hpl).mono ?_
          rintro e w2 ⟨A1, c1, rfl, f1, hc1, hb2⟩
          have hs2' := hb2.size
          have hbase := hbV.size
          have f1' := Lib.hid f1; clear f1
          have hb2' := Lib.hid hb2; clear hb2
          go_wp2_with (at_builtin; refine wpList_append_far rfl _ _ _ rfl w.heap.size 27 (.agg #[.string ⟨#[]⟩, .int .i64 0, .slice none 0 0, .int .i64 0, .int .i64 0]) 5 64 Try.underlying24 infoPart rfl (by omega) (by omega) partC ms ⟨t.code, t.slot, A1, c1, t.ports, t.price, t.grams⟩ A' c' rfl ((HoV.out.1.keep hb2'.out).keep (balloc _ _)) (w2.heap.size) _ rfl rfl (five_cells (by go_simp) (by go_simp) (by go_simp) (by go_simp) (by go_simp)) (partC_one _) (by omega) (by simp; omega) ?_)
          intro A2 c2 w4 hown4 hb4 hfar
          have hI := Lib.hid (HoV.out.2.append (m := ⟨t.code, t.slot, A1, c1, t.ports, t.price, t.grams⟩) HoV.out.1.lt hbase hb2'.out f1'.out hc1 rfl hfar hb4.size)
          have Ho4 := Lib.hid hown4; clear hown4 hfar
          have hb4' := Lib.hid hb4; clear hb4
          go_wp2_with fail
          exact ⟨⟨k + 1, A2, c2, ms ++ [⟨t.code, t.slot, A1, c1, t.ports, t.price, t.grams⟩], by omega, by go_num, by simp, by rw [HD.out, List.map_append, Hv.out]; rfl, ⟨Ho4.out, hI.out⟩, (bthen' (bthen' hbV hb2'.out) (balloc _ _)).trans hb4'.out⟩, by simp [intOf]; omega⟩
      · obtain rfl : k = vs.length := by omega
        go_wp2_with fail
        go_ret2
        exact ⟨A', c', by rw [HF.out, ← Hv.out]; simp only [List.length_map]; rfl, by rw [HF.out]; exact ⟨ms, Hv.out, Ho.out.1.flat partC_len, Ho.out.2⟩, by rw [HF.out, ← Hv.out]; simp only [List.length_map]; exact Ho.out.1.cap, hb⟩

set_option maxHeartbeats 2000000 in
theorem DropPart_spec (A : Option Addr) (c : Nat) (vs : List PartT) (code : ByteArray) (w : World) (hr : RdV w w.heap.size A vs) (hs : SmallV vs) :
    Calls Try.prog 10 #[.slice A vs.length c, .string code] w (GivesParts2 w (dropR vs code)) := by
  have hJ := l16Code_any A c vs code w hr hs
  have hm := hs.1
  have hs2 := Lib.hid hs.2
  clear hs
  rcases codeI_cases vs code with ⟨hp, e⟩ | ⟨hp, hn, e⟩ | ⟨hp, hn, e⟩
  · have HF : Hid (dropR vs code = ([], 1)) := by unfold Hid dropR; rw [if_neg (by simp [hp])]
    generalize dropR vs code = R at HF ⊢
    rw [e] at hJ
    have HJ := Lib.hid hJ; clear hJ hp e
    go_enter Try.func10, Try.ntmps10
    go_wp2_with fail
    refine HJ.out.mono ?_
    rintro e w1 ⟨rfl, hb1⟩
    go_wp2_with fail
    go_ret2
    exact ⟨none, 0, by rw [HF.out]; rfl, by rw [HF.out]; exact FlatR.nil, by rw [HF.out]; exact Nat.le_refl _, hb1⟩
  · have HF : Hid (dropR vs code = ([], 4)) := by unfold Hid dropR; rw [if_pos hp, if_pos hn]
    generalize dropR vs code = R at HF ⊢
    rw [e] at hJ
    have HJ := Lib.hid hJ; clear hJ hp e hn
    go_enter Try.func10, Try.ntmps10
    go_wp2_with fail
    refine HJ.out.mono ?_
    rintro e w1 ⟨rfl, hb1⟩
    go_wp2_with fail
    go_ret2
    exact ⟨none, 0, by rw [HF.out]; rfl, by rw [HF.out]; exact FlatR.nil, by rw [HF.out]; exact Nat.le_refl _, hb1⟩
  · have HF : Hid (dropR vs code = (keepTo (notCode code) idP vs vs.length, 0)) := by unfold Hid dropR; rw [if_pos hp, if_neg (by omega)]
    generalize dropR vs code = R at HF ⊢
    have hlen := partsB_len hp
    rw [e] at hJ
    have HJ := Lib.hid hJ; clear hJ hp e hn
    go_enter Try.func10, Try.ntmps10
    go_wp2_with fail
    refine HJ.out.mono ?_
    rintro e w1 ⟨rfl, hb12⟩
    go_wp2_with fail
    go_loopw [7, 8] (fun out i wr => ∃ (k : Nat) (A' : Option Addr) (c' : Nat) (ms : List PartM), k ≤ vs.length ∧ i = .int .i64 k ∧ out = .slice A' ms.length c' ∧ ms.map PartM.val = keepTo (notCode code) idP vs k ∧ GrowP w.heap.size wr A' c' ms ∧ Below w.heap.size w wr) (fun _ i _ => vs.length - (intOf i).toNat)
    case atStart => exact ⟨0, _, _, [], Nat.zero_le _, rfl, rfl, rfl, ⟨Own.made _ hb12.size rfl, Inner.nil⟩, bthen hb12 (balloc _ _)⟩
    case round =>
      obtain ⟨k, A', c', ms, hk, rfl, rfl, hval, hown, hb⟩ := hrel
      have Ho := Lib.hid hown; clear hown
      have Hv := Lib.hid hval; clear hval
      have hml : ms.length ≤ k := by
        have := congrArg List.length Hv.out
        rw [List.length_map] at this
        rw [this]
        exact keepTo_le _ _ _ _
      by_cases hlt : k < vs.length
      · have hx : vs[k]? = some vs[k] := List.getElem?_eq_getElem hlt
        obtain ⟨b, o, rfl⟩ := hr.addr (by omega)
        obtain ⟨hB, pA, pc, q0, q1, q2, q3, q4, hpr, _⟩ := (hr.below hb).cells hx
        generalize vs[k] = t at q0 q1 q2 q3 q4 hx hpr
        have hpl := (hs2.out t (List.mem_of_getElem? hx)).2
        have Hx := Lib.hid hx; clear hx
        by_cases hc : t.code = code
        · have HD := Lib.hid (keepTo_no (p := notCode code) (g := idP) Hx.out (by simp [notCode, hc]))
          have hcc : (t.code.toList == code.toList) = true := by simp [hc]
          clear hc
          go_wp2_with fail
          exact ⟨⟨k + 1, A', c', ms, by omega, by go_num, rfl, by rw [Hv.out, HD.out], Ho.out, hb⟩, by simp [intOf]; omega⟩
        · have HD := Lib.hid (keepTo_yes (p := notCode code) (g := idP) Hx.out (by simp [notCode, hc]))
          have hcc : (t.code.toList == code.toList) = false := by simp; exact fun e => hc (str_eq.1 e)
          clear hc
          go_wp2_with fail
          have hprV := hpr.more hb.size
          have HoV := Lib.hid Ho.out
          have hbV := hb
          clear q0 q1 q2 q3 q4 hpr Ho hb
          generalize wr = V at hprV HoV hbV ⊢
          refine (l16Copy_any t pA pc V hprV hpl).mono ?_
          rintro e w2 ⟨A1, c1, rfl, f1, hc1, hb2⟩
          have hs2' := hb2.size
          have hbase := hbV.size
          have f1' := Lib.hid f1; clear f1
          have hb2' := Lib.hid hb2; clear hb2
          go_wp2_with (at_builtin; refine wpList_append_far rfl _ _ _ rfl w.heap.size 27 (.agg #[.string ⟨#[]⟩, .int .i64 0, .slice none 0 0, .int .i64 0, .int .i64 0]) 5 64 Try.underlying24 infoPart rfl (by omega) (by omega) partC ms ⟨t.code, t.slot, A1, c1, t.ports, t.price, t.grams⟩ A' c' rfl ((HoV.out.1.keep hb2'.out).keep (balloc _ _)) (w2.heap.size) _ rfl rfl (five_cells (by go_simp) (by go_simp) (by go_simp) (by go_simp) (by go_simp)) (partC_one _) (by omega) (by simp; omega) ?_)
          intro A2 c2 w4 hown4 hb4 hfar
          have hI := Lib.hid (HoV.out.2.append (m := ⟨t.code, t.slot, A1, c1, t.ports, t.price, t.grams⟩) HoV.out.1.lt hbase hb2'.out f1'.out hc1 rfl hfar hb4.size)
          have Ho4 := Lib.hid hown4; clear hown4 hfar
          have hb4' := Lib.hid hb4; clear hb4
          go_wp2_with fail
          exact ⟨⟨k + 1, A2, c2, ms ++ [⟨t.code, t.slot, A1, c1, t.ports, t.price, t.grams⟩], by omega, by go_num, by simp, by rw [HD.out, List.map_append, Hv.out]; rfl, ⟨Ho4.out, hI.out⟩, (bthen' (bthen' hbV hb2'.out) (balloc _ _)).trans hb4'.out⟩, by simp [intOf]; omega⟩
      · obtain rfl : k = vs.length := by omega
        go_wp2_with fail
        go_ret2
        exact ⟨A', c', by rw [HF.out, ← Hv.out]; simp only [List.length_map]; rfl, by rw [HF.out]; exact ⟨ms, Hv.out, Ho.out.1.flat partC_len, Ho.out.2⟩, by rw [HF.out, ← Hv.out]; simp only [List.length_map]; exact Ho.out.1.cap, hb⟩

end Go.Proofs.Ytncjgebgghpigaa
