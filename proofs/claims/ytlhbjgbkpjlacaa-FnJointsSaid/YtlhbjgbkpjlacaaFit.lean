/- DERIVED. The parts that fit into a slot. By program (gfit.py). -/
import Derived.Test.YtlhbjgbkpjlacaaPut
import Derived.Test.YtlhbjgbkpjlacaaJList
import Derived.Test.YtlhbjgbkpjlacaaSlot
namespace Go.Proofs.Ytlhbjgbkpjlacaa
set_option maxRecDepth 100000
open Go.RowKit

/-- The joint does not come to the slot, or is not broken. -/
def notHurt (vs : List PartT) (nb : List ByteArray) (slot : Int) (j : JointT) : Bool := !((decide (j.1 = slot) || decide (j.2.1 = slot)) && brokenB vs nb j)
def fitsB (vs : List PartT) (js : List JointT) (bs : List ByteArray) (slot : Int) (x : PartT) : Bool := js.all (notHurt vs (setT bs slot x.code) slot)
def fitP (vs : List PartT) (js : List JointT) (bs : List ByteArray) (slot : Int) (x : PartT) : Bool := inSlot slot x && fitsB vs js bs slot x
def fitR (vs : List PartT) (js : List JointT) (bs : List ByteArray) (slot : Int) : List Int × Int :=
  if jointsB js = true ∧ buildB vs bs = true then (if inB slot 0 7 = true then (idxTo (fitP vs js bs slot) vs vs.length, 0) else ([], 2)) else ([], 1)
theorem codes_set {vs : List PartT} {bs : List ByteArray} (hC : Codes vs bs) (s : Nat) {k : Nat} {x : PartT} (hx : vs[k]? = some x) : Codes vs (bs.set s x.code) := by
  refine ⟨hC.parts, by rw [List.length_set]; exact hC.len, fun c hc => ?_⟩
  rcases List.mem_or_eq_of_mem_set hc with h | h
  · exact hC.code c h
  · subst h
    rw [findI_at hC.parts hx]
    exact Or.inr (by omega)
/-- What q says at an index. -/
def atB {α : Type} (q : α → Bool) (xs : List α) (n : Int) : Bool := match xs[n.toNat]? with
  | some x => q x
  | none => false
theorem idxTo_filter {α : Type} (p q : α → Bool) (xs : List α) : ∀ k, (idxTo p xs k).filter (atB q xs) = idxTo (fun x => p x && q x) xs k
  | 0 => rfl
  | k + 1 => by
    have ih := idxTo_filter p q xs k
    unfold idxTo
    split
    · rename_i x hx
      by_cases hp : p x = true
      · rw [if_pos hp, List.filter_append, ih]
        by_cases hq : q x = true
        · rw [if_pos (by simp [hp, hq])]
          congr 1
          simp [atB, hx, hq]
        · rw [if_neg (by simp [hp, hq])]
          simp [atB, hx, hq]
      · rw [if_neg hp, if_neg (by simp [hp]), ih]
    · exact ih
/-- A store into another block leaves an own slice. -/
theorem Own.setFar {α : Type} {w : World} {base sz c g o : Nat} {E : TypeId} {f : α → List Value} {A : Option Addr} {xs : List α} {u : Value} (h : Own w base E sz f A c xs) (ha : Apart A g) : Own (w.setCell ⟨g, o, none⟩ u) base E sz f A c xs := by
  refine ⟨h.1, ?_⟩
  rcases h.2 with h2 | ⟨g', cap, cur, e, hB, hg, h3⟩
  · exact Or.inl h2
  · refine Or.inr ⟨g', cap, cur, e, hB, ?_, h3⟩
    injection e with e1
    have hne : g' ≠ g := ha g' 0 e1
    exact (Below.heap_setCell w ⟨g, o, none⟩ u g' (by exact hne)).trans hg
theorem all_take_next {α : Type} {f : α → Bool} {xs : List α} {q : Nat} {t : α} (hx : xs[q]? = some t) : (xs.take (q + 1)).all f = ((xs.take q).all f && f t) := by
  rw [List.take_add_one, hx, List.all_append]
  simp

set_option maxHeartbeats 1000000 in
theorem FittingParts_impl (A A2 A' : Option Addr) (c c2 c' : Nat) (vs : List PartT) (js : List JointT) (bs : List ByteArray) (slot : Int) (w : World) (hr : RdV w w.heap.size A vs) (hr2 : Rd w w.heap.size 3 jointC A2 js) (hr' : Rd w w.heap.size 1 tC A' bs) (hs : SmallV vs) (hm2 : js.length ≤ 1048576) (hm' : bs.length ≤ 1048576) :
    Calls Try.prog 46 #[.slice A vs.length c, .slice A2 js.length c2, .slice A' bs.length c', .int .i64 slot] w (GivesRes w 2 1 nC (fitR vs js bs slot)) := by
  have hJ := areJoints_impl A2 c2 js w hr2 hm2
  have HB : Hid (∀ v : World, RdV v v.heap.size A vs → Rd v v.heap.size 1 tC A' bs → Calls Try.prog 112 #[.slice A vs.length c, .slice A' bs.length c'] v fun e w' => e = .returned (.bool (buildB vs bs)) ∧ Below v.heap.size v w') := fun v h1 h2 => isBuild_impl A A' c c' vs bs v h1 h2 hs hm'
  have HI : Hid (∀ v : World, Calls Try.prog 102 #[.int .i64 slot] v fun e w' => e = .returned (.bool (inB slot 0 7)) ∧ v = w') := fun v => isSlot_any slot v
  have HR0 : Hid (fitR vs js bs slot = if jointsB js = true ∧ buildB vs bs = true then (if inB slot 0 7 = true then (idxTo (fitP vs js bs slot) vs vs.length, 0) else ([], 2)) else ([], 1)) := rfl
  have HC0 : Hid (buildB vs bs = true → Codes vs bs) := fun h => (buildB_codes h).1
  have HJ0 : Hid (jointsB js = true → js.length ≤ 12 ∧ ∀ j ∈ js, SlotsIn j) := jointsB_in
  have HS0 : Hid (inB slot 0 7 = true → 0 ≤ slot ∧ slot ≤ 7) := inB_true
  generalize fitR vs js bs slot = R at HR0 ⊢
  generalize jointsB js = bj at hJ HR0 HJ0
  generalize buildB vs bs = bb at HB HR0 HC0
  generalize inB slot 0 7 = bi at HI HR0 HS0
  have HJ := Lib.hid hJ; clear hJ
  go_enter Try.func46, Try.ntmps46
  go_wp2_with fail
  refine HJ.out.mono ?_
  rintro e w1 ⟨rfl, hb1⟩
  cases bj
  case false =>
    have HR : Hid (R = ([], 1)) := by unfold Hid; rw [HR0.out, if_neg (by simp)]
    go_wp2_with fail
    go_ret2
    exact ⟨none, 0, by rw [HR.out]; rfl, by rw [HR.out]; exact flat_nil, by rw [HR.out]; exact Nat.le_refl _, hb1⟩
  case true =>
    go_wp2_with fail
    refine (HB.out w1 (hr.next hb1) (hr'.next hb1)).mono ?_
    rintro e w2 ⟨rfl, hb2⟩
    have hb12 := bthen hb1 hb2
    clear hb1 hb2
    cases bb
    case false =>
      have HR : Hid (R = ([], 1)) := by unfold Hid; rw [HR0.out, if_neg (by simp)]
      go_wp2_with fail
      go_ret2
      exact ⟨none, 0, by rw [HR.out]; rfl, by rw [HR.out]; exact flat_nil, by rw [HR.out]; exact Nat.le_refl _, hb12⟩
    case true =>
      cases bi
      case false =>
        have HR : Hid (R = ([], 2)) := by unfold Hid; rw [HR0.out, if_pos (by simp), if_neg (by simp)]
        go_wp2_with (go_at_call 102; refine (HI.out _).mono ?_; rintro e w' ⟨rfl, rfl⟩)
        go_ret2
        exact ⟨none, 0, by rw [HR.out]; rfl, by rw [HR.out]; exact flat_nil, by rw [HR.out]; exact Nat.le_refl _, hb12⟩
      case true =>
        have HR : Hid (R = (idxTo (fitP vs js bs slot) vs vs.length, 0)) := by unfold Hid; rw [HR0.out, if_pos (by simp), if_pos (by simp)]
        have hC := HC0.out (by trivial)
        have hj12 := (HJ0.out (by trivial)).1
        have HJS := Lib.hid (HJ0.out (by trivial)).2
        obtain ⟨h0, h7⟩ := HS0.out (by trivial)
        clear HR0 HC0 HJ0 HS0
        obtain ⟨s, rfl⟩ := Int.eq_ofNat_of_zero_le h0
        have hl8 := hC.len
        have hslt : s < bs.length := by omega
        have hle : bs.length ≤ 8 := by omega
        clear hl8
        have hpl := partsB_len hC.parts
        have HBR : Hid (∀ (v : World) (g : Nat) (m : Nat) (k : Nat) (x : PartT) (t : JointT), vs[k]? = some x → SlotsIn t → RdV v v.heap.size A vs → Rd v v.heap.size 1 tC (some ⟨g, 0, none⟩) (bs.set s x.code) → Calls Try.prog 113 #[.slice A vs.length c, .slice (some ⟨g, 0, none⟩) bs.length m, .agg #[.int .i64 t.1, .int .i64 t.2.1, .int .i64 t.2.2]] v fun e w' => e = .returned (.bool (brokenB vs (bs.set s x.code) t)) ∧ Below v.heap.size v w') := fun v g m k x t hx ht h1 h2 => by
          have := isBroken_any A (some ⟨g, 0, none⟩) c m vs (bs.set s x.code) t v h1 h2 hs (codes_set hC s hx) ht
          rwa [List.length_set] at this
        clear hs hC
        have hrd := (hr'.next hb12).below (balloc w2 (.cells #[] 9))
        have hs12 := hb12.size
        go_wp2_with (first | (go_at_call 102; refine (HI.out _).mono ?_; rintro e w' ⟨rfl, rfl⟩) | (at_builtin; refine wpList_append_slice rfl _ _ _ rfl (w.heap.size) 9 (.string ⟨#[]⟩) 1 16 Try.underlying58 infoString rfl (by omega) (by omega) tC [] bs (some ⟨w2.heap.size, 0, none⟩) 0 rfl (Own.made _ (by omega) rfl) A' c' _ rfl hrd tC_len tC_one (by simp; omega) (by simp <;> omega) ?_))
        intro A3 c3 w3 hown3 hb3 hfar3
        obtain ⟨g, m, rfl, hg1, hg2, hrow3, hml, _⟩ := hown3.flat tC_len (by omega)
        have HF3 := Lib.hid (hown3.flat tC_len)
        have hb03 : Below w.heap.size w w3 := (bthen hb12 (balloc w2 _)).trans hb3
        have Hg := Lib.hid hg2
        clear hown3 hfar3 hb3 hrd
        go_wp2_with fail
        go_loopw [10, 34] (fun out i wr => ∃ (k : Nat) (A0 : Option Addr) (c0 : Nat) (nb : List ByteArray), k ≤ vs.length ∧ i = .int .i64 k ∧ out = .slice A0 (idxTo (fitP vs js bs (s : Int)) vs k).length c0 ∧ Own wr w.heap.size 2 1 nC A0 c0 (idxTo (fitP vs js bs (s : Int)) vs k) ∧ Below w.heap.size w wr ∧ nb.length = bs.length ∧ (∀ d, nb.set s d = bs.set s d) ∧ Flat wr w.heap.size wr.heap.size 9 1 tC (some ⟨g, 0, none⟩) nb ∧ Apart A0 g) (fun _ i _ => vs.length - (intOf i).toNat)
        case atStart => exact ⟨0, _, _, bs, Nat.zero_le _, rfl, rfl, Own.nil, hb03, rfl, fun _ => rfl, HF3.out, fun b o e => by cases e⟩
        case round =>
          obtain ⟨k, A0, c0, nb, hk, rfl, rfl, hown, hb, hnb, hset, hfl, hap⟩ := hrel
          have Ho := Lib.hid hown; clear hown
          have Hset := Lib.hid hset; clear hset
          have Hfl := Lib.hid hfl; clear hfl
          have Hnb := Lib.hid hnb; clear hnb
          have Hap := Lib.hid hap; clear hap
          by_cases hlt : k < vs.length
          · have hx : vs[k]? = some vs[k] := List.getElem?_eq_getElem hlt
            obtain ⟨bl, ol, rfl⟩ := hr.addr (by omega)
            obtain ⟨hB, pA, pc, q0, q1, q2, q3, q4, _, _⟩ := (hr.below hb).cells hx
            generalize vs[k] = x at q0 q1 q2 q3 q4 hx
            have hle1 := idxTo_le (fitP vs js bs (s : Int)) vs k
            by_cases hsl : x.slot = (s : Int)
            · have hslb : (x.slot != (s : Int)) = false := by simp [hsl]
              have HBRx : Hid (∀ (v : World) (m : Nat) (t : JointT), SlotsIn t → RdV v v.heap.size (some ⟨bl, ol, none⟩) vs → Rd v v.heap.size 1 tC (some ⟨g, 0, none⟩) (bs.set s x.code) → Calls Try.prog 113 #[.slice (some ⟨bl, ol, none⟩) vs.length c, .slice (some ⟨g, 0, none⟩) bs.length m, .agg #[.int .i64 t.1, .int .i64 t.2.1, .int .i64 t.2.2]] v fun e w' => e = .returned (.bool (brokenB vs (bs.set s x.code) t)) ∧ Below v.heap.size v w') := fun v m t ht h1 h2 => HBR.out v g m k x t hx ht h1 h2
              have HD : Hid ((js.all (notHurt vs (bs.set s x.code) (s : Int)) = true ∧ idxTo (fitP vs js bs (s : Int)) vs (k + 1) = idxTo (fitP vs js bs (s : Int)) vs k ++ [(k : Int)]) ∨ (js.all (notHurt vs (bs.set s x.code) (s : Int)) = false ∧ idxTo (fitP vs js bs (s : Int)) vs (k + 1) = idxTo (fitP vs js bs (s : Int)) vs k)) := by
                cases e : js.all (notHurt vs (bs.set s x.code) (s : Int))
                · exact Or.inr ⟨rfl, idxTo_no hx (by simp only [fitP, fitsB, setT, Int.toNat_natCast, e, Bool.and_false])⟩
                · exact Or.inl ⟨rfl, idxTo_yes hx (by simp only [fitP, fitsB, setT, Int.toNat_natCast, e, Bool.and_true, inSlot]; exact decide_eq_true hsl)⟩
              clear hsl hx HBR
              generalize idxTo (fitP vs js bs (s : Int)) vs k = l1 at HD Ho hle1 ⊢
              obtain ⟨g', m1, e', hgl, hgh, hrow, hml1, _⟩ := Hfl.out (by have := Hnb.out; omega)
              simp only [Option.some.injEq, Addr.mk.injEq] at e'
              obtain ⟨rfl, _, _⟩ := e'
              have hsm : s < m1 := by have := Hnb.out; omega
              obtain ⟨z0, hz0⟩ := hrow.cell hsm
              have hf0 := hrow.frozen s
              have hgne : g ≠ wr.heap.size := by omega
              go_wp2_with fail
              have hbS := hb.setCell (p := ⟨g, s, none⟩) hgl (.string x.code)
              have hbV : Below w.heap.size w ((wr.setCell ⟨g, s, none⟩ (.string x.code)).alloc (.cells #[.string x.code, .int .i64 x.slot, .slice pA x.ports.length pc, .int .i64 x.price, .int .i64 x.grams] 37)) := hbS.alloc hbS.size _
              have HoV : Hid (Own ((wr.setCell ⟨g, s, none⟩ (.string x.code)).alloc (.cells #[.string x.code, .int .i64 x.slot, .slice pA x.ports.length pc, .int .i64 x.price, .int .i64 x.grams] 37)) w.heap.size 2 1 nC A0 c0 l1) := (Own.setFar Ho.out Hap.out).keep (balloc _ _)
              have hfV : Flat ((wr.setCell ⟨g, s, none⟩ (.string x.code)).alloc (.cells #[.string x.code, .int .i64 x.slot, .slice pA x.ports.length pc, .int .i64 x.price, .int .i64 x.grams] 37)) w.heap.size ((wr.setCell ⟨g, s, none⟩ (.string x.code)).alloc (.cells #[.string x.code, .int .i64 x.slot, .slice pA x.ports.length pc, .int .i64 x.price, .int .i64 x.grams] 37)).heap.size 9 1 tC (some ⟨g, 0, none⟩) (bs.set s x.code) := by
                have h1 := Hfl.out.set1 (i := s) (v := x.code) (by have := Hnb.out; omega)
                rw [Hset.out] at h1
                have h2 := h1.mono (Nat.le_refl _) (show wr.heap.size ≤ (wr.setCell ⟨g, s, none⟩ (.string x.code)).heap.size by simp [World.setCell])
                exact (h2.below (balloc _ (.cells #[.string x.code, .int .i64 x.slot, .slice pA x.ports.length pc, .int .i64 x.price, .int .i64 x.grams] 37)) (Nat.le_refl _)).mono (Nat.le_refl _) (balloc _ (.cells #[.string x.code, .int .i64 x.slot, .slice pA x.ports.length pc, .int .i64 x.price, .int .i64 x.grams] 37)).size
              generalize (wr.setCell ⟨g, s, none⟩ (.string x.code)).alloc (.cells #[.string x.code, .int .i64 x.slot, .slice pA x.ports.length pc, .int .i64 x.price, .int .i64 x.grams] 37) = V at hbV HoV hfV ⊢
              clear hbS
              clear q0 q1 q2 q3 q4 Ho Hfl hrow hz0 hf0 hb
              have HfV := Lib.hid hfV; clear hfV
              have hbase := hbV.size
              go_loopw [14, 50] (fun fits j wi => ∃ q : Nat, q ≤ js.length ∧ j = .int .i64 q ∧ fits = .bool ((js.take q).all (notHurt vs (bs.set s x.code) (s : Int))) ∧ Below V.heap.size V wi) (fun _ j _ => js.length - (intOf j).toNat)
              case atStart => exact ⟨0, Nat.zero_le _, rfl, rfl, Below.refl _ _⟩
              case round =>
                obtain ⟨q, hq, rfl, rfl, hbi⟩ := hrel
                have hbwi := bthen' hbV hbi
                by_cases hqlt : q < js.length
                · have hxj : js[q]? = some js[q] := List.getElem?_eq_getElem hqlt
                  obtain ⟨b2, o2, rfl, hB2, r0, r1, r2⟩ := (hr2.below hbwi).at3 hxj rfl
                  have hsj := HJS.out _ (List.mem_of_getElem? hxj)
                  generalize js[q] = t at r0 r1 r2 hxj hsj
                  have HA := Lib.hid (all_take_next (f := notHurt vs (bs.set s x.code) (s : Int)) hxj)
                  have HN : Hid (notHurt vs (bs.set s x.code) (s : Int) t = !((decide (t.1 = (s : Int)) || decide (t.2.1 = (s : Int))) && brokenB vs (bs.set s x.code) t)) := rfl
                  have HBRt : Hid (∀ (v : World) (m : Nat), RdV v v.heap.size (some ⟨bl, ol, none⟩) vs → Rd v v.heap.size 1 tC (some ⟨g, 0, none⟩) (bs.set s x.code) → Calls Try.prog 113 #[.slice (some ⟨bl, ol, none⟩) vs.length c, .slice (some ⟨g, 0, none⟩) bs.length m, .agg #[.int .i64 t.1, .int .i64 t.2.1, .int .i64 t.2.2]] v fun e w' => e = .returned (.bool (brokenB vs (bs.set s x.code) t)) ∧ Below v.heap.size v w') := fun v m h1 h2 => HBRx.out v m t hsj h1 h2
                  generalize brokenB vs (bs.set s x.code) t = br at HN HBRt
                  generalize notHurt vs (bs.set s x.code) (s : Int) t = nh at HN HA
                  clear hxj hsj
                  generalize (js.take q).all (notHurt vs (bs.set s x.code) (s : Int)) = f0 at HA ⊢
                  have hbU := hbi.alloc hbi.size (.cells #[.int .i64 t.1, .int .i64 t.2.1, .int .i64 t.2.2] 70)
                  have hbwU := hbwi.alloc hbwi.size (.cells #[.int .i64 t.1, .int .i64 t.2.1, .int .i64 t.2.2] 70)
                  have hrU := hr.next hbwU
                  have hfU := (HfV.out.rd.below hbU).more hbU.size
                  by_cases hjs : t.1 = (s : Int) ∨ t.2.1 = (s : Int)
                  · have HN2 : Hid (nh = !br) := by
                      unfold Hid
                      rw [HN.out]
                      rcases hjs with h | h <;> simp [h]
                    by_cases h1 : t.1 = (s : Int)
                    · have h1b : (t.1 == (s : Int)) = true := by simp [h1]
                      clear hjs h1 HN
                      go_wp2_with fail
                      refine (HBRt.out _ _ hrU hfU).mono ?_
                      rintro e w5 ⟨rfl, hb5⟩
                      cases br
                      all_goals
                        go_wp2_with fail
                        refine ⟨⟨q + 1, by omega, by go_num, by rw [HA.out, HN2.out]; first | done | simp, bthen hbU hb5⟩, by simp [intOf]; omega⟩
                    · have h1b : (t.1 == (s : Int)) = false := by simp [h1]
                      have h2b : (t.2.1 == (s : Int)) = true := by simp [hjs.resolve_left h1]
                      clear hjs h1 HN
                      go_wp2_with fail
                      refine (HBRt.out _ _ hrU hfU).mono ?_
                      rintro e w5 ⟨rfl, hb5⟩
                      cases br
                      all_goals
                        go_wp2_with fail
                        refine ⟨⟨q + 1, by omega, by go_num, by rw [HA.out, HN2.out]; first | done | simp, bthen hbU hb5⟩, by simp [intOf]; omega⟩
                  · have h1b : (t.1 == (s : Int)) = false := beq_eq_false_iff_ne.2 (fun h => hjs (Or.inl h))
                    have h2b : (t.2.1 == (s : Int)) = false := beq_eq_false_iff_ne.2 (fun h => hjs (Or.inr h))
                    have HN2 : Hid (nh = true) := by
                      unfold Hid
                      rw [HN.out, decide_eq_false (fun h => hjs (Or.inl h)), decide_eq_false (fun h => hjs (Or.inr h))]
                      rfl
                    clear hjs HN
                    go_wp2_with fail
                    exact ⟨⟨q + 1, by omega, by go_num, by rw [HA.out, HN2.out]; simp, hbU⟩, by simp [intOf]; omega⟩
                · obtain rfl : q = js.length := by omega
                  rw [List.take_length]
                  have HoW := Lib.hid (HoV.out.keep hbi)
                  have HfW := Lib.hid ((HfV.out.below hbi (Nat.le_refl _)).mono (Nat.le_refl _) hbi.size)
                  have hbw' := hbwi.size
                  generalize js.all (notHurt vs (bs.set s x.code) (s : Int)) = ft at HD ⊢
                  cases ft
                  case true =>
                    have HE : Hid (idxTo (fitP vs js bs (s : Int)) vs (k + 1) = l1 ++ [(k : Int)]) := by
                      rcases HD.out with ⟨_, e⟩ | ⟨e, _⟩
                      · exact e
                      · cases e
                    clear HD
                    have hgw : g < wr.heap.size := by
                      obtain ⟨_, _, e', _, h2, _⟩ := HfW.out (by rw [List.length_set]; omega)
                      simp only [Option.some.injEq, Addr.mk.injEq] at e'
                      omega
                    go_wp2_with (at_builtin; refine wpList_append_far rfl _ _ _ rfl (w.heap.size) 2 (.int .i64 0) 1 8 Try.underlying49 infoInt64 rfl (by omega) (by omega) nC l1 (k : Int) A0 c0 rfl (HoW.out.keep (balloc _ _)) (wr.heap.size) _ rfl rfl (one_cell (by go_simp)) (by simp [nC]; rfl) (by omega) (by simp; omega) ?_)
                    intro A4 c4 w4 hown4 hb4 hfar
                    have hq4 := hfar g (by first | omega | (simp; omega)) Hap.out
                    have Hq4 := Lib.hid hq4
                    have HfX : Hid (Flat w4 w.heap.size w4.heap.size 9 1 tC (some ⟨g, 0, none⟩) (bs.set s x.code)) := ((HfW.out.below (balloc wr _) (Nat.le_refl _)).keepAt fun g2 e2 _ => by
                      simp only [Option.some.injEq, Addr.mk.injEq] at e2
                      obtain ⟨rfl, _, _⟩ := e2
                      exact Hq4.out.2).mono (Nat.le_refl _) (by have h5 := hb4.size; have h6 := (balloc wr (.cells #[.int .i64 (k : Int)] 2)).size; omega)
                    have Ho4 := Lib.hid hown4
                    have HB4 := Lib.hid hb4
                    clear hown4 hb4 hfar hq4
                    go_wp2_with fail
                    exact ⟨⟨k + 1, A4, c4, bs.set s x.code, by omega, by go_num, by rw [HE.out]; simp, by rw [HE.out]; exact Ho4.out, (hbwi.alloc hbwi.size _).trans HB4.out, List.length_set, fun d => by rw [List.set_set], HfX.out, Hq4.out.1⟩, by simp [intOf]; omega⟩
                  case false =>
                    have HE : Hid (idxTo (fitP vs js bs (s : Int)) vs (k + 1) = l1) := by
                      rcases HD.out with ⟨e, _⟩ | ⟨_, e⟩
                      · cases e
                      · exact e
                    clear HD
                    go_wp2_with fail
                    exact ⟨⟨k + 1, A0, c0, bs.set s x.code, by omega, by go_num, by rw [HE.out], by rw [HE.out]; exact HoW.out, hbwi, List.length_set, fun d => by rw [List.set_set], HfW.out, Hap.out⟩, by simp [intOf]; omega⟩
            · have hslb : (x.slot != (s : Int)) = true := by simp [hsl]
              have HE : Hid (idxTo (fitP vs js bs (s : Int)) vs (k + 1) = idxTo (fitP vs js bs (s : Int)) vs k) := idxTo_no hx (by simp [fitP, inSlot, hsl])
              clear hsl hx HBR
              generalize idxTo (fitP vs js bs (s : Int)) vs k = l1 at HE Ho hle1 ⊢
              go_wp2_with fail
              exact ⟨⟨k + 1, A0, c0, nb, by omega, by go_num, by rw [HE.out], by rw [HE.out]; exact Ho.out.keep (balloc _ _), hb.alloc hb.size _, Hnb.out, Hset.out, (Hfl.out.below (balloc wr _) (Nat.le_refl _)).mono (Nat.le_refl _) (balloc wr _).size, Hap.out⟩, by simp [intOf]; omega⟩
          · obtain rfl : k = vs.length := by omega
            go_wp2_with fail
            go_ret2
            exact ⟨A0, c0, by rw [HR.out]; rfl, by rw [HR.out]; exact Ho.out.flat (fun _ => rfl), by rw [HR.out]; exact Ho.out.cap, hb⟩

/-- Whether the part of that index fits. -/
def fitN (vs : List PartT) (js : List JointT) (bs : List ByteArray) (slot : Int) (n : Int) : Bool := atB (fitsB vs js bs slot) vs n
theorem fitN_idx (vs : List PartT) (js : List JointT) (bs : List ByteArray) (slot : Int) (k : Nat) : (idxTo (inSlot slot) vs k).filter (fitN vs js bs slot) = idxTo (fitP vs js bs slot) vs k := idxTo_filter (inSlot slot) (fitsB vs js bs slot) vs k
theorem filter_take_next {α : Type} {g : α → Bool} {xs : List α} {k : Nat} {x : α} (hx : xs[k]? = some x) : (xs.take (k + 1)).filter g = (xs.take k).filter g ++ (if g x = true then [x] else []) := by
  rw [List.take_add_one, hx, List.filter_append]
  congr 1
  cases h : g x <;> simp [h]
theorem filter_take_le {α : Type} (g : α → Bool) (xs : List α) (k : Nat) : ((xs.take k).filter g).length ≤ k := by
  have h1 := List.length_filter_le g (xs.take k)
  have h2 := List.length_take_le k xs
  omega

set_option maxHeartbeats 1000000 in
theorem FittingParts_spec (A A2 A' : Option Addr) (c c2 c' : Nat) (vs : List PartT) (js : List JointT) (bs : List ByteArray) (slot : Int) (w : World) (hr : RdV w w.heap.size A vs) (hr2 : Rd w w.heap.size 3 jointC A2 js) (hr' : Rd w w.heap.size 1 tC A' bs) (hs : SmallV vs) (hm2 : js.length ≤ 1048576) (hm' : bs.length ≤ 1048576) :
    Calls Try.prog 47 #[.slice A vs.length c, .slice A2 js.length c2, .slice A' bs.length c', .int .i64 slot] w (GivesRes w 2 1 nC (fitR vs js bs slot)) := by
  have hJ := l17Code_any A A2 A' c c2 c' vs js bs slot w hr hr2 hr' hs hm2 hm'
  have hz : codeL vs js bs slot = if jointsB js = true then (if buildB vs bs = true then (if inB slot 0 7 = true then 0 else 2) else 1) else 1 := rfl
  have hm := hs.1
  by_cases hg : jointsB js = true ∧ buildB vs bs = true
  · by_cases hi : inB slot 0 7 = true
    · rw [hz, if_pos hg.1, if_pos hg.2, if_pos hi] at hJ
      have HF : Hid (fitR vs js bs slot = (idxTo (fitP vs js bs slot) vs vs.length, 0)) := by unfold Hid fitR; rw [if_pos hg, if_pos hi]
      have hC := (buildB_codes hg.2).1
      have hj12 := (jointsB_in hg.1).1
      have HJS := Lib.hid (jointsB_in hg.1).2
      have HJ := Lib.hid hJ; clear hJ hz
      obtain ⟨h0, h7⟩ := inB_true hi
      clear hg hi
      obtain ⟨s, rfl⟩ := Int.eq_ofNat_of_zero_le h0
      have hl8 := hC.len
      have hslt : s < bs.length := by omega
      have hle : bs.length ≤ 8 := by omega
      clear hl8
      have HI : Hid (∀ v : World, RdV v v.heap.size A vs → Calls Try.prog 104 #[.slice A vs.length c, .int .i64 (s : Int)] v (GivesOwn v 2 1 nC (idxTo (inSlot (s : Int)) vs vs.length))) := fun v hv => l16In_any A c vs (s : Int) v hv hm
      have HW : Hid (∀ (v : World) (code : ByteArray), Rd v v.heap.size 1 tC A' bs → Calls Try.prog 119 #[.slice A' bs.length c', .int .i64 (s : Int), .string code] v (GivesOwn v 9 1 tC (bs.set s code))) := fun v code hv => l17With_any A' c' bs s code v hv hm' hslt
      have HT : Hid (∀ (v : World) (B : Option Addr) (m : Nat) (k : Nat) (x : PartT) (t : JointT), vs[k]? = some x → SlotsIn t → RdV v v.heap.size A vs → Rd v v.heap.size 1 tC B (bs.set s x.code) → Calls Try.prog 120 #[.slice A vs.length c, .agg #[.int .i64 t.1, .int .i64 t.2.1, .int .i64 t.2.2], .slice B bs.length m] v fun e w' => e = .returned (.int .i64 (stateJ vs (bs.set s x.code) t)) ∧ Below v.heap.size v w') := fun v B m k x t hx ht h1 h2 => by
        have := l17State_any A B c m vs (bs.set s x.code) t v h1 h2 hs (codes_set hC s hx) ht
        rwa [List.length_set] at this
      clear hs hC
      have HLf := Lib.hid (fitN_idx vs js bs (s : Int) vs.length)
      have HLm : Hid (∀ n ∈ idxTo (inSlot (s : Int)) vs vs.length, ∃ (j : Nat) (x : PartT), n = (j : Int) ∧ j < vs.length ∧ vs[j]? = some x) := fun n hn => by
        obtain ⟨j, x, e, h1, h2, _⟩ := idxTo_mem hn
        exact ⟨j, x, e, h1, h2⟩
      have hLle := idxTo_le (inSlot (s : Int)) vs vs.length
      have HG : Hid (∀ (k : Nat) (x : PartT), vs[k]? = some x → fitN vs js bs (s : Int) (k : Int) = js.all (notHurt vs (bs.set s x.code) (s : Int))) := fun k x hx => by
        unfold fitN atB
        rw [Int.toNat_natCast, hx]
        rfl
      generalize fitR vs js bs (s : Int) = R at HF ⊢
      generalize idxTo (fitP vs js bs (s : Int)) vs vs.length = F at HF HLf
      generalize idxTo (inSlot (s : Int)) vs vs.length = L at HI HLf HLm hLle
      generalize fitN vs js bs (s : Int) = G at HG HLf
      go_enter Try.func47, Try.ntmps47
      go_wp2_with fail
      refine HJ.out.mono ?_
      rintro e w1 ⟨rfl, hb1⟩
      go_wp2_with fail
      have hbV : Below w.heap.size w (w1.alloc (.cells #[] 2)) := bthen hb1 (balloc w1 _)
      refine (HI.out _ (hr.next hbV)).mono ?_
      rintro e w2 ⟨A3, c3, rfl, hf2, hc2, hb2⟩
      have hb02 := bthen hbV hb2
      have hs1 := hb1.size
      have HO0 : Hid (Own w2 w.heap.size 2 1 nC (some ⟨w1.heap.size, 0, none⟩) 0 ([] : List Int)) := (Own.made (w := w1) #[] hs1 rfl).keep hb2
      have HA0 : Hid (0 < L.length → ∀ g, A3 = some ⟨g, 0, none⟩ → Apart (some ⟨w1.heap.size, 0, none⟩) g) := fun hL g e b o e2 => by
        obtain ⟨g', m, e', hgl, _⟩ := hf2 hL
        rw [e'] at e
        simp only [Option.some.injEq, Addr.mk.injEq] at e e2
        have : (w1.alloc (.cells #[] 2)).heap.size = w1.heap.size + 1 := by simp
        omega
      have HfL0 : Hid (Flat w2 w.heap.size w2.heap.size 2 1 nC A3 L) := hf2.mono (hbV.size) (Nat.le_refl _)
      clear hf2
      go_wp2_with fail
      generalize w1.heap.size = g1 at HO0 HA0 ⊢
      go_loopw [11, 13] (fun out i wr => ∃ (k : Nat) (A0 : Option Addr) (c0 : Nat), k ≤ L.length ∧ i = .int .i64 k ∧ out = .slice A0 ((L.take k).filter G).length c0 ∧ Own wr w.heap.size 2 1 nC A0 c0 ((L.take k).filter G) ∧ Below w.heap.size w wr ∧ Flat wr w.heap.size wr.heap.size 2 1 nC A3 L ∧ (0 < L.length → ∀ g, A3 = some ⟨g, 0, none⟩ → Apart A0 g)) (fun _ i _ => L.length - (intOf i).toNat)
      case atStart => exact ⟨0, _, _, Nat.zero_le _, rfl, rfl, HO0.out, hb02, HfL0.out, HA0.out⟩
      case round =>
        obtain ⟨k, A0, c0, hk, rfl, rfl, hown, hb, hfl, hap⟩ := hrel
        have Ho := Lib.hid hown; clear hown
        have Hfl := Lib.hid hfl; clear hfl
        have Hap := Lib.hid hap; clear hap
        clear HO0 HA0 HfL0
        by_cases hlt : k < L.length
        · have hx : L[k]? = some L[k] := List.getElem?_eq_getElem hlt
          obtain ⟨g, m3, rfl, hgl, hgh, _⟩ := Hfl.out (by omega)
          have Hap2 : Hid (Apart A0 g) := Hap.out (by omega) g rfl
          have q0 : wr.cell? ⟨g, k, none⟩ = some (.int .i64 L[k]) := by
            obtain ⟨b3, o3, e3, _, q0⟩ := Hfl.out.rd.at1 hx rfl
            simp only [Option.some.injEq, Addr.mk.injEq] at e3
            obtain ⟨rfl, rfl, _⟩ := e3
            simpa using q0
          have hfn := filter_take_next (g := G) hx
          have hle1 := filter_take_le G L k
          have hmem := List.mem_of_getElem? hx
          clear hx
          generalize L[k] = n at q0 hfn hmem
          obtain ⟨j, x, rfl, hj, hxj⟩ := HLm.out n hmem
          clear hmem
          obtain ⟨bl, ol, rfl⟩ := hr.addr (by omega)
          obtain ⟨hB, pA, pc, p0, p1, p2, p3, p4, _, _⟩ := (hr.below hb).cells hxj
          have HTx : Hid (∀ (v : World) (B : Option Addr) (m : Nat) (t : JointT), SlotsIn t → RdV v v.heap.size (some ⟨bl, ol, none⟩) vs → Rd v v.heap.size 1 tC B (bs.set s x.code) → Calls Try.prog 120 #[.slice (some ⟨bl, ol, none⟩) vs.length c, .agg #[.int .i64 t.1, .int .i64 t.2.1, .int .i64 t.2.2], .slice B bs.length m] v fun e w' => e = .returned (.int .i64 (stateJ vs (bs.set s x.code) t)) ∧ Below v.heap.size v w') := fun v B m t ht h1 h2 => HT.out v B m j x t hxj ht h1 h2
          have HD : Hid ((js.all (notHurt vs (bs.set s x.code) (s : Int)) = true ∧ (L.take (k + 1)).filter G = (L.take k).filter G ++ [(j : Int)]) ∨ (js.all (notHurt vs (bs.set s x.code) (s : Int)) = false ∧ (L.take (k + 1)).filter G = (L.take k).filter G)) := by
            rw [HG.out j x hxj] at hfn
            cases e : js.all (notHurt vs (bs.set s x.code) (s : Int))
            · rw [e, if_neg (by simp)] at hfn
              exact Or.inr ⟨rfl, by rw [hfn, List.append_nil]⟩
            · rw [e, if_pos rfl] at hfn
              exact Or.inl ⟨rfl, hfn⟩
          clear hfn hxj
          generalize (L.take k).filter G = l1 at HD Ho hle1 ⊢
          go_wp2_with fail
          refine (HW.out wr x.code (hr'.next hb)).mono ?_
          rintro e w3 ⟨A4, c4, rfl, hf4, hc4, hb4⟩
          have q3 := (hb4.cell (p := ⟨g, k, none⟩) (World.block_lt_of_cell? wr _ q0)).trans q0
          have hb3 := bthen hb hb4
          have Ho3 := Lib.hid (Ho.out.keep hb4)
          have Hfl3 := Lib.hid ((Hfl.out.below hb4 (Nat.le_refl _)).mono (Nat.le_refl _) hb4.size)
          have Hf4 := Lib.hid hf4.rd
          clear hf4 hc4 p0 p1 p2 p3 p4 q0 Ho Hfl hb hb4
          rw [List.length_set]
          go_wp2_with fail
          go_loopw [15, 16] (fun fits i wi => ∃ q : Nat, q ≤ js.length ∧ i = .int .i64 q ∧ fits = .bool ((js.take q).all (notHurt vs (bs.set s x.code) (s : Int))) ∧ Below w3.heap.size w3 wi) (fun _ i _ => js.length - (intOf i).toNat)
          case atStart => exact ⟨0, Nat.zero_le _, rfl, rfl, Below.refl _ _⟩
          case round =>
            obtain ⟨q, hq, rfl, rfl, hbi⟩ := hrel
            have hbwi := bthen hb3 hbi
            by_cases hqlt : q < js.length
            · have hxt : js[q]? = some js[q] := List.getElem?_eq_getElem hqlt
              obtain ⟨b2, o2, rfl, hB2, r0, r1, r2⟩ := (hr2.below hbwi).at3 hxt rfl
              have hsj := HJS.out _ (List.mem_of_getElem? hxt)
              generalize js[q] = t at r0 r1 r2 hxt hsj
              have HA := Lib.hid (all_take_next (f := notHurt vs (bs.set s x.code) (s : Int)) hxt)
              have HN : Hid (notHurt vs (bs.set s x.code) (s : Int) t = !((decide (t.1 = (s : Int)) || decide (t.2.1 = (s : Int))) && decide (stateJ vs (bs.set s x.code) t = 1))) := rfl
              have HTt : Hid (∀ (v : World), RdV v v.heap.size (some ⟨bl, ol, none⟩) vs → Rd v v.heap.size 1 tC A4 (bs.set s x.code) → Calls Try.prog 120 #[.slice (some ⟨bl, ol, none⟩) vs.length c, .agg #[.int .i64 t.1, .int .i64 t.2.1, .int .i64 t.2.2], .slice A4 bs.length c4] v fun e w' => e = .returned (.int .i64 (stateJ vs (bs.set s x.code) t)) ∧ Below v.heap.size v w') := fun v h1 h2 => HTx.out v A4 c4 t hsj h1 h2
              generalize stateJ vs (bs.set s x.code) t = sj at HN HTt
              generalize notHurt vs (bs.set s x.code) (s : Int) t = nh at HN HA
              clear hxt hsj
              generalize (js.take q).all (notHurt vs (bs.set s x.code) (s : Int)) = f0 at HA ⊢
              have hrU := hr.next hbwi
              have hfU := (Hf4.out.below hbi).more hbi.size
              by_cases hjs : t.1 = (s : Int) ∨ t.2.1 = (s : Int)
              · have HN2 : Hid (nh = !decide (sj = 1)) := by
                  unfold Hid
                  rw [HN.out]
                  rcases hjs with h | h <;> simp [h]
                by_cases h1 : t.1 = (s : Int)
                · have h1b : (t.1 == (s : Int)) = true := by simp [h1]
                  clear hjs h1 HN
                  go_wp2_with fail
                  refine (HTt.out _ hrU hfU).mono ?_
                  rintro e w5 ⟨rfl, hb5⟩
                  by_cases hj1 : sj = 1
                  · have hj1b : (sj == 1) = true := by simp [hj1]
                    have HN3 : Hid (nh = false) := by unfold Hid; rw [HN2.out, decide_eq_true hj1]; rfl
                    clear hj1
                    go_wp2_with fail
                    refine ⟨⟨q + 1, by omega, by go_num, by rw [HA.out, HN3.out]; first | done | simp, bthen hbi hb5⟩, by simp [intOf]; omega⟩
                  · have hj1b : (sj == 1) = false := by simp [hj1]
                    have HN3 : Hid (nh = true) := by unfold Hid; rw [HN2.out, decide_eq_false hj1]; rfl
                    clear hj1
                    go_wp2_with fail
                    refine ⟨⟨q + 1, by omega, by go_num, by rw [HA.out, HN3.out]; first | done | simp, bthen hbi hb5⟩, by simp [intOf]; omega⟩
                · have h1b : (t.1 == (s : Int)) = false := by simp [h1]
                  have h2b : (t.2.1 == (s : Int)) = true := by simp [hjs.resolve_left h1]
                  clear hjs h1 HN
                  go_wp2_with fail
                  refine (HTt.out _ hrU hfU).mono ?_
                  rintro e w5 ⟨rfl, hb5⟩
                  by_cases hj1 : sj = 1
                  · have hj1b : (sj == 1) = true := by simp [hj1]
                    have HN3 : Hid (nh = false) := by unfold Hid; rw [HN2.out, decide_eq_true hj1]; rfl
                    clear hj1
                    go_wp2_with fail
                    refine ⟨⟨q + 1, by omega, by go_num, by rw [HA.out, HN3.out]; first | done | simp, bthen hbi hb5⟩, by simp [intOf]; omega⟩
                  · have hj1b : (sj == 1) = false := by simp [hj1]
                    have HN3 : Hid (nh = true) := by unfold Hid; rw [HN2.out, decide_eq_false hj1]; rfl
                    clear hj1
                    go_wp2_with fail
                    refine ⟨⟨q + 1, by omega, by go_num, by rw [HA.out, HN3.out]; first | done | simp, bthen hbi hb5⟩, by simp [intOf]; omega⟩
              · have h1b : (t.1 == (s : Int)) = false := beq_eq_false_iff_ne.2 (fun h => hjs (Or.inl h))
                have h2b : (t.2.1 == (s : Int)) = false := beq_eq_false_iff_ne.2 (fun h => hjs (Or.inr h))
                have HN2 : Hid (nh = true) := by
                  unfold Hid
                  rw [HN.out, decide_eq_false (fun h => hjs (Or.inl h)), decide_eq_false (fun h => hjs (Or.inr h))]
                  rfl
                clear hjs HN
                go_wp2_with fail
                exact ⟨⟨q + 1, by omega, by go_num, by rw [HA.out, HN2.out]; simp, hbi⟩, by simp [intOf]; omega⟩
            · obtain rfl : q = js.length := by omega
              rw [List.take_length]
              have HoW := Lib.hid (Ho3.out.keep hbi)
              have HfW := Lib.hid ((Hfl3.out.below hbi (Nat.le_refl _)).mono (Nat.le_refl _) hbi.size)
              have qw := (hbi.cell (p := ⟨g, k, none⟩) (World.block_lt_of_cell? w3 _ q3)).trans q3
              have hbw' := hbwi.size
              have hgw : g < wr.heap.size := World.block_lt_of_cell? wr _ qw
              generalize js.all (notHurt vs (bs.set s x.code) (s : Int)) = ft at HD ⊢
              cases ft
              case true =>
                have HE : Hid ((L.take (k + 1)).filter G = l1 ++ [(j : Int)]) := by
                  rcases HD.out with ⟨_, e⟩ | ⟨e, _⟩
                  · exact e
                  · cases e
                clear HD
                go_wp2_with (at_builtin; refine wpList_append_far rfl _ _ _ rfl (w.heap.size) 2 (.int .i64 0) 1 8 Try.underlying49 infoInt64 rfl (by omega) (by omega) nC l1 (j : Int) A0 c0 rfl (HoW.out.keep (balloc _ _)) (wr.heap.size) _ rfl rfl (one_cell (by go_simp)) (by simp [nC]; rfl) (by omega) (by simp; omega) ?_)
                intro A5 c5 w5 hown5 hb5 hfar
                have Hq5 := Lib.hid (hfar g (by first | omega | (simp; omega)) Hap2.out)
                have HfX : Hid (Flat w5 w.heap.size w5.heap.size 2 1 nC (some ⟨g, 0, none⟩) L) := ((HfW.out.below (balloc wr _) (Nat.le_refl _)).keepAt fun g2 e2 _ => by
                  simp only [Option.some.injEq, Addr.mk.injEq] at e2
                  obtain ⟨rfl, _, _⟩ := e2
                  exact Hq5.out.2).mono (Nat.le_refl _) (by have h5 := hb5.size; have h6 := (balloc wr (.cells #[.int .i64 (j : Int)] 2)).size; omega)
                have Ho5 := Lib.hid hown5
                have HB5 := Lib.hid hb5
                clear hown5 hb5 hfar
                go_wp2_with fail
                exact ⟨⟨k + 1, A5, c5, by omega, by go_num, by rw [HE.out]; simp, by rw [HE.out]; exact Ho5.out, (hbwi.alloc hbwi.size _).trans HB5.out, HfX.out, fun _ g2 e2 => by
                  simp only [Option.some.injEq, Addr.mk.injEq] at e2
                  obtain ⟨rfl, _, _⟩ := e2
                  exact Hq5.out.1⟩, by simp [intOf]; omega⟩
              case false =>
                have HE : Hid ((L.take (k + 1)).filter G = l1) := by
                  rcases HD.out with ⟨e, _⟩ | ⟨_, e⟩
                  · cases e
                  · exact e
                clear HD
                go_wp2_with fail
                exact ⟨⟨k + 1, A0, c0, by omega, by go_num, by rw [HE.out], by rw [HE.out]; exact HoW.out, hbwi, HfW.out, Hap.out⟩, by simp [intOf]; omega⟩
        · obtain rfl : k = L.length := by omega
          rw [List.take_length] at Ho ⊢
          have HFF : Hid (R = (L.filter G, 0)) := by unfold Hid; rw [HF.out, HLf.out]
          go_wp2_with fail
          go_ret2
          exact ⟨A0, c0, by rw [HFF.out]; rfl, by rw [HFF.out]; exact Ho.out.flat (fun _ => rfl), by rw [HFF.out]; exact Ho.out.cap, hb⟩
    · have HF : Hid (fitR vs js bs slot = ([], 2)) := by unfold Hid fitR; rw [if_pos hg, if_neg hi]
      rw [hz, if_pos hg.1, if_pos hg.2, if_neg hi] at hJ
      clear hi hz
      have HJ := Lib.hid hJ; clear hJ hg hs
      generalize fitR vs js bs slot = R at HF ⊢
      go_enter Try.func47, Try.ntmps47
      go_wp2_with fail
      refine HJ.out.mono ?_
      rintro e w1 ⟨rfl, hb1⟩
      go_wp2_with fail
      go_ret2
      exact ⟨none, 0, by rw [HF.out]; rfl, by rw [HF.out]; exact flat_nil, by rw [HF.out]; exact Nat.le_refl _, hb1⟩
  · have HF : Hid (fitR vs js bs slot = ([], 1)) := by unfold Hid fitR; rw [if_neg hg]
    have hz1 : codeL vs js bs slot = 1 := by
      rw [hz]
      by_cases h1 : jointsB js = true
      · rw [if_pos h1, if_neg (fun h2 => hg ⟨h1, h2⟩)]
      · rw [if_neg h1]
    rw [hz1] at hJ
    clear hz hz1
    have HJ := Lib.hid hJ; clear hJ hg hs
    generalize fitR vs js bs slot = R at HF ⊢
    go_enter Try.func47, Try.ntmps47
    go_wp2_with fail
    refine HJ.out.mono ?_
    rintro e w1 ⟨rfl, hb1⟩
    go_wp2_with fail
    go_ret2
    exact ⟨none, 0, by rw [HF.out]; rfl, by rw [HF.out]; exact flat_nil, by rw [HF.out]; exact Nat.le_refl _, hb1⟩

end Go.Proofs.Ytlhbjgbkpjlacaa
