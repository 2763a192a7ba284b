/- DERIVED. Parts drawn. -/
import Derived.Test.YtncjgebgghpigaaDraw8
namespace Go.Proofs.Ytncjgebgghpigaa
set_option maxRecDepth 100000
open Go.RowKit

def outLen : Value → Nat
  | .slice _ n _ => n
  | _ => 0
set_option maxHeartbeats 2000000 in
theorem l16List_any (A : Option Addr) (c b : Nat) (xs : List Int) (w : World) (hF : Feed w b A c xs) :
    Calls Try.prog 26 #[.pointer (some ⟨b, 0, none⟩)] w (DrawnParts w b A c xs) := by
  have HN : Hid (∀ (v : World) (n : Int), n < 20000 → Feed v b A c xs → Calls Try.prog 34 #[.pointer (some ⟨b, 0, none⟩), .int .i64 n] v (Drawn v b A c xs n)) := fun v n hn h => l01Next_any A c b xs n v h.src h.rd h.byte h.small (by omega)
  have HG : Hid (∀ (v : World) (code : ByteArray), code.size ≤ 64 → Feed v b A c xs → Calls Try.prog 47 #[.pointer (some ⟨b, 0, none⟩), .string code] v (DrawnPart 3 v b A c xs)) := fun v code h1 h => l16Good_any A c b xs code h1 v h
  have hlb := hF.src.lt
  have hT : ∀ k, k < 8 → ∃ t : ByteArray, t.size ≤ 64 ∧ (names.map Value.string).toArray[k]? = some (.string t) := fun k hk => by
    have hk' : k < names.length := hk
    refine ⟨names[k], ?_, by simp [hk']⟩
    have : ∀ t ∈ names, t.size ≤ 64 := by decide
    exact this _ (List.getElem_mem _)
  have HT := Lib.hid hT; clear hT
  have HF := Lib.hid hF; clear hF
  go_enter Try.func26, Try.ntmps26
  go_wp2_with fail
  refine (l16Names_any _).mono ?_
  rintro e w1 ⟨rfl, rfl⟩
  have HL : Hid (ListSt w ((w.alloc (.cells #[] 27)).alloc (.cells (names.map Value.string).toArray 9)) b A c xs (w.heap.size + 1) (names.map Value.string).toArray (some ⟨w.heap.size, 0, none⟩) 0 []) := by
    have h1 := balloc w (.cells #[] 27)
    have h2 := balloc (w.alloc (.cells #[] 27)) (.cells (names.map Value.string).toArray 9)
    have e1 : (w.alloc (.cells #[] 27)).heap.size = w.heap.size + 1 := by simp
    refine ⟨(HF.out.next h1).next h2, (Own.made _ (Nat.le_refl _) rfl).keep h2, Inner.nil, Only.of_below (bthen h1 h2), hlb, fun m hm => absurd hm (by simp), ?_, by omega⟩
    rw [← e1]
    exact heap_alloc_new _ _
  have e1 : (w.alloc (.cells #[] 27)).heap.size = w.heap.size + 1 := by simp
  rw [e1]
  clear e1
  generalize (w.alloc (.cells #[] 27)).alloc (.cells (names.map Value.string).toArray 9) = W at HL ⊢
  generalize (names.map Value.string).toArray = tb at HT HL
  generalize hnt : w.heap.size + 1 = nt at HL ⊢
  go_wp2_with fail
  go_loopw [3, 5] (fun out i wr => ∃ (k : Nat) (LA : Option Addr) (lc : Nat) (ms : List PartM), k ≤ 8 ∧ ms.length ≤ k ∧ i = .int .i64 k ∧ out = .slice LA ms.length lc ∧ ListSt w wr b A c xs nt tb LA lc ms) (fun _ i _ => 8 - (intOf i).toNat)
  case atStart => exact ⟨0, _, _, [], by omega, Nat.zero_le _, rfl, rfl, HL.out⟩
  case round =>
    obtain ⟨k, LA, lc, ms, hk, hml, rfl, rfl, hL⟩ := hrel
    have HL1 := Lib.hid hL; clear hL
    by_cases hlt : k < 8
    · go_wp2_with fail
      refine (HN.out wr 3 (by omega) HL1.out.feed).mono ?_
      rintro e w2 ⟨v2, rfl, a0, a1, _, hS, hO⟩
      have HL2 := Lib.hid (HL1.out.turn (HL1.out.feed.turn hS hO) hO)
      clear hS hO HL1
      by_cases hv : 0 < v2
      · obtain ⟨t, ht, htb⟩ := HT.out k hlt
        have q := HL2.out.cell htb
        clear htb
        go_wp2_with fail
        refine (HG.out w2 t ht HL2.out.feed).mono ?_
        rintro e w3 ⟨x, pA, pc, rfl, x1, x2, ox, hF3, hO3⟩
        have hpc := ox.cap; have Fx := Lib.hid (ox.flat portC_len3); clear ox
        have HF3 := Lib.hid hF3; clear hF3
        have HO3 := Lib.hid hO3; clear hO3
        have s2 := HL2.out.old.size
        have s3 := HO3.out.size
        have HL3 := Lib.hid (HL2.out.turn HF3.out HO3.out)
        dsimp only [argV]
        go_wp2_with (at_builtin; refine wpList_append_far rfl _ _ _ rfl w.heap.size 27 (.agg #[.string ⟨#[]⟩, .int .i64 0, .slice none 0 0, .int .i64 0, .int .i64 0]) 5 64 Try.underlying24 infoPart rfl (by omega) (by omega) partC ms ⟨x.code, x.slot, pA, pc, x.ports, x.price, x.grams⟩ LA lc rfl (HL3.out.own.keep (balloc _ _)) w3.heap.size _ rfl rfl (five_cells (by go_simp) (by go_simp) (by go_simp) (by go_simp) (by go_simp)) (partC_one _) (by omega) (by simp; omega) ?_)
        intro A2 c2 w4 hown4 hb4 hfar
        have HL4 := Lib.hid (HL2.out.grow HF3.out HO3.out Fx.out hpc x1 (Nat.le_trans x2 (by omega)) hown4 hb4 hfar)
        clear hown4 hb4 hfar
        go_wp2_with fail
        exact ⟨⟨k + 1, A2, c2, ms ++ [x.at_ pA pc], by omega, by simp; omega, by go_num, by simp, HL4.out⟩, by simp [intOf]; omega⟩
      · go_wp2_with fail
        exact ⟨⟨k + 1, LA, lc, ms, by omega, by omega, by go_num, rfl, HL2.out⟩, by simp [intOf]; omega⟩
    · go_wp2_with fail
      refine (HN.out wr 40 (by omega) HL1.out.feed).mono ?_
      rintro e w2 ⟨v2, rfl, a0, a1, _, hS, hO⟩
      have HL2 := Lib.hid (HL1.out.turn (HL1.out.feed.turn hS hO) hO)
      clear hS hO HL1
      by_cases hv : v2 = 0
      · subst hv
        go_wp2_with fail
        refine (HG.out w2 ⟨#[97, 110, 99, 104, 111, 114]⟩ (by decide) HL2.out.feed).mono ?_
        rintro e w3 ⟨x, pA, pc, rfl, x1, x2, ox, hF3, hO3⟩
        have hpc := ox.cap; have Fx := Lib.hid (ox.flat portC_len3); clear ox
        have HF3 := Lib.hid hF3; clear hF3
        have HO3 := Lib.hid hO3; clear hO3
        have s2 := HL2.out.old.size
        have s3 := HO3.out.size
        have HL3 := Lib.hid (HL2.out.turn HF3.out HO3.out)
        dsimp only [argV]
        go_wp2_with (at_builtin; refine wpList_append_far rfl _ _ _ rfl w.heap.size 27 (.agg #[.string ⟨#[]⟩, .int .i64 0, .slice none 0 0, .int .i64 0, .int .i64 0]) 5 64 Try.underlying24 infoPart rfl (by omega) (by omega) partC ms ⟨x.code, x.slot, pA, pc, x.ports, x.price, x.grams⟩ LA lc rfl (HL3.out.own.keep (balloc _ _)) w3.heap.size _ rfl rfl (five_cells (by go_simp) (by go_simp) (by go_simp) (by go_simp) (by go_simp)) (partC_one _) (by omega) (by simp; omega) ?_)
        intro A2 c2 w4 hown4 hb4 hfar
        have HL4 := Lib.hid (HL2.out.grow HF3.out HO3.out Fx.out hpc x1 (Nat.le_trans x2 (by omega)) hown4 hb4 hfar)
        clear hown4 hb4 hfar
        go_wp2_with fail
        go_ret
        have := HL4.out.drawn (by simp; omega)
        simpa using this
      · have hvb : (v2 == 0) = false := by simp [hv]
        by_cases hv1 : v2 = 1
        · subst hv1
          go_wp2_with fail
          go_loopw [3, 6] (fun out i wr => ∃ (k2 : Nat) (MA : Option Addr) (mc : Nat) (ns : List PartM), k2 ≤ ns.length ∧ ns.length ≤ 17 ∧ i = .int .i64 k2 ∧ out = .slice MA ns.length mc ∧ ListSt w wr b A c xs nt tb MA mc ns) (fun out _ _ => 17 - outLen out)
          case atStart => exact ⟨0, LA, lc, ms, Nat.zero_le _, by omega, rfl, rfl, HL2.out⟩
          case round =>
            obtain ⟨k2, MA, mc, ns, hk2, hnl, rfl, rfl, hM⟩ := hrel
            have HM1 := Lib.hid hM; clear hM
            go_wp2_with fail
            refine (HN.out _ 2 (by omega) HM1.out.feed).mono ?_
            rintro e w4 ⟨v4, rfl, c0, c1, _, hS, hO⟩
            have HM2 := Lib.hid (HM1.out.turn (HM1.out.feed.turn hS hO) hO)
            have c1 := c1 (by omega)
            clear hS hO HM1
            by_cases hlt2 : (ns.length : Int) < 16 + v4
            · have hk17 : k2 ≤ 16 := by omega
              have hnl2 : ns.length ≤ 16 := by omega
              go_wp2_with fail
              have hsz : ∀ t : ByteArray, (⟨#[120]⟩ ++ t.extract k2 (k2 + 1) : ByteArray).size ≤ 64 := fun t => by
                rw [ByteArray.size_append, ByteArray.size_extract]
                have : (⟨#[120]⟩ : ByteArray).size = 1 := rfl
                omega
              refine (HG.out w4 _ (hsz _) HM2.out.feed).mono ?_
              rintro e w5 ⟨x, pA, pc, rfl, x1, x2, ox, hF5, hO5⟩
              have hpc := ox.cap; have Fx := Lib.hid (ox.flat portC_len3); clear ox
              have HF5 := Lib.hid hF5; clear hF5
              have HO5 := Lib.hid hO5; clear hO5
              have s4 := HM2.out.old.size
              have s5 := HO5.out.size
              have HM3 := Lib.hid (HM2.out.turn HF5.out HO5.out)
              dsimp only [argV]
              go_wp2_with (at_builtin; refine wpList_append_far rfl _ _ _ rfl w.heap.size 27 (.agg #[.string ⟨#[]⟩, .int .i64 0, .slice none 0 0, .int .i64 0, .int .i64 0]) 5 64 Try.underlying24 infoPart rfl (by omega) (by omega) partC ns ⟨x.code, x.slot, pA, pc, x.ports, x.price, x.grams⟩ MA mc rfl (HM3.out.own.keep (balloc _ _)) w5.heap.size _ rfl rfl (five_cells (by go_simp) (by go_simp) (by go_simp) (by go_simp) (by go_simp)) (partC_one _) (by omega) (by simp; omega) ?_)
              intro A6 c6 w6 hown6 hb6 hfar6
              have HM4 := Lib.hid (HM2.out.grow HF5.out HO5.out Fx.out hpc x1 (Nat.le_trans x2 (by omega)) hown6 hb6 hfar6)
              clear hown6 hb6 hfar6
              go_wp2_with fail
              exact ⟨⟨k2 + 1, A6, c6, ns ++ [x.at_ pA pc], by simp; omega, by simp; omega, by go_num, by simp, HM4.out⟩, by simp [outLen]; omega⟩
            · go_wp2_with fail
              go_ret
              exact HM2.out.drawn (by omega)
        · have hvb1 : (v2 == 1) = false := by simp [hv1]
          clear hv hv1
          go_wp2_with fail
          go_ret
          exact HL2.out.drawn (by omega)
end Go.Proofs.Ytncjgebgghpigaa
