/- DERIVED. The indices of the sizes that suit. -/
import Derived.Test.YtfdnpobppelhaaaStem
import Derived.Test.YtfdnpobppelhaaaOwn
import Derived.Test.YtfdnpobppelhaaaIdx
namespace Go.Proofs.Ytfdnpobppelhaaa
set_option maxRecDepth 100000
open Go.RowKit

def iC (n : Int) : List Value := [.int .i64 n]
def suitT (h i a : Int) (t : ByteArray × Int × Int × Int) : Bool := suitB h i a t.2.1 t.2.2.1
theorem sizesB_ok {xs : List (ByteArray × Int × Int × Int)} (h : sizesB xs = true) {k : Nat} {x : ByteArray × Int × Int × Int} (hx : xs[k]? = some x) : okSize x = true := by
  by_cases e : okSize x = true
  · exact e
  · have := sizesB_false (List.getElem?_eq_some_iff.1 hx).1 (sizeAt_bad hx (by simpa using e))
    rw [this] at h
    cases h

set_option maxHeartbeats 1000000 in
theorem l19Which_any (h i0 a : Int) (r : riderB h i0 a = true) (A : Option Addr) (c : Nat) (xs : List (ByteArray × Int × Int × Int)) (w : World) (hr : Rd w w.heap.size 4 sizeC A xs) (hm : xs.length ≤ 1048576) (hs : sizesB xs = true) :
    Calls Try.prog 97 #[.agg #[.int .i64 h, .int .i64 i0, .int .i64 a], .slice A xs.length c] w (GivesOwn w 2 1 iC (idxTo (suitT h i0 a) xs xs.length)) := by
  have Hr := Lib.hid r; clear r
  have Hs := Lib.hid hs; clear hs
  go_enter Try.func97, Try.ntmps97
  go_wp2_with fail
  have c0 : (w.alloc (.cells #[.int .i64 h, .int .i64 i0, .int .i64 a] 25)).cell? ⟨w.heap.size, 0, none⟩ = some (.int .i64 h) := by go_simp
  have c1 : (w.alloc (.cells #[.int .i64 h, .int .i64 i0, .int .i64 a] 25)).cell? ⟨w.heap.size, 1, none⟩ = some (.int .i64 i0) := by go_simp
  have c2 : (w.alloc (.cells #[.int .i64 h, .int .i64 i0, .int .i64 a] 25)).cell? ⟨w.heap.size, 2, none⟩ = some (.int .i64 a) := by go_simp
  have hbw := balloc w (.cells #[.int .i64 h, .int .i64 i0, .int .i64 a] 25)
  have hbs : (w.alloc (.cells #[.int .i64 h, .int .i64 i0, .int .i64 a] 25)).heap.size = w.heap.size + 1 := by simp
  have hon : Own ((w.alloc (.cells #[.int .i64 h, .int .i64 i0, .int .i64 a] 25)).alloc (.cells #[] 2)) (w.heap.size + 1) 2 1 iC (some ⟨(w.alloc (.cells #[.int .i64 h, .int .i64 i0, .int .i64 a] 25)).heap.size, 0, none⟩) 0 [] := Own.made _ (by simp) rfl
  rw [hbs] at hon
  generalize w.alloc (.cells #[.int .i64 h, .int .i64 i0, .int .i64 a] 25) = W at c0 c1 c2 hbw hbs hon ⊢
  have hst : Below (w.heap.size + 1) W (W.alloc (.cells #[] 2)) := (balloc W _).mono (by omega)
  generalize hg0 : w.heap.size = g0 at c0 c1 c2 ⊢
  go_loopw [5, 6] (fun out i wr => ∃ (k : Nat) (A' : Option Addr) (c' : Nat), k ≤ xs.length ∧ i = .int .i64 k ∧ out = .slice A' (idxTo (suitT h i0 a) xs k).length c' ∧ Own wr (w.heap.size + 1) 2 1 iC A' c' (idxTo (suitT h i0 a) xs k) ∧ Below (w.heap.size + 1) W wr) (fun _ i _ => xs.length - (intOf i).toNat)
  case atStart => exact ⟨0, _, _, Nat.zero_le _, rfl, rfl, by rw [← hg0]; exact hon, hst⟩
  case round =>
    obtain ⟨k, A', c', hk, rfl, rfl, hown, hb⟩ := hrel
    have Ho := Lib.hid hown; clear hown
    by_cases hlt : k < xs.length
    · have hx : xs[k]? = some xs[k] := List.getElem?_eq_getElem hlt
      obtain ⟨b, o, rfl, hB, h0, h1, h2, h3⟩ := (hr.below (hbw.trans (hb.mono (by omega)))).at4 hx rfl
      generalize xs[k] = t at h0 h1 h2 h3 hx
      have Hx := Lib.hid hx; clear hx
      have Hc : Hid (∀ v : World, Calls Try.prog 64 #[.agg #[.int .i64 h, .int .i64 i0, .int .i64 a], .agg #[.string t.1, .int .i64 t.2.1, .int .i64 t.2.2.1, .int .i64 t.2.2.2]] v fun e w' => e = .returned (.bool (suitT h i0 a t)) ∧ Below v.heap.size v w') := fun v => l19Suits_any h i0 a Hr.out t.1 t.2.1 t.2.2.1 t.2.2.2 (sizesB_ok Hs.out Hx.out) v
      have HD := Lib.hid (show (suitT h i0 a t = true ∧ idxTo (suitT h i0 a) xs (k + 1) = idxTo (suitT h i0 a) xs k ++ [(k : Int)]) ∨ (suitT h i0 a t = false ∧ idxTo (suitT h i0 a) xs (k + 1) = idxTo (suitT h i0 a) xs k) by
        by_cases e : suitT h i0 a t = true
        · exact Or.inl ⟨e, idxTo_yes Hx.out e⟩
        · exact Or.inr ⟨by simpa using e, idxTo_no Hx.out (by simpa using e)⟩)
      have hle := idxTo_le (suitT h i0 a) xs k
      generalize idxTo (suitT h i0 a) xs k = l1 at HD Ho hle ⊢
      generalize suitT h i0 a t = st at HD Hc
      clear Hx
      go_wp2_with fail
      have d0 : ∀ v : Later wr, v.w.cell? ⟨g0, 0, none⟩ = some (.int .i64 h) := Later.cell ((hb.cell (p := ⟨g0, 0, none⟩) (by simp [hg0])).trans c0)
      have d1 : ∀ v : Later wr, v.w.cell? ⟨g0, 1, none⟩ = some (.int .i64 i0) := Later.cell ((hb.cell (p := ⟨g0, 1, none⟩) (by simp [hg0])).trans c1)
      have d2 : ∀ v : Later wr, v.w.cell? ⟨g0, 2, none⟩ = some (.int .i64 a) := Later.cell ((hb.cell (p := ⟨g0, 2, none⟩) (by simp [hg0])).trans c2)
      have d3 : ∀ v : Later wr, v.w.cell? ⟨b, o + k * 4, none⟩ = some (.string t.1) := Later.cell h0
      have d4 : ∀ v : Later wr, v.w.cell? ⟨b, o + k * 4 + 1, none⟩ = some (.int .i64 t.2.1) := Later.cell h1
      have d5 : ∀ v : Later wr, v.w.cell? ⟨b, o + k * 4 + 2, none⟩ = some (.int .i64 t.2.2.1) := Later.cell h2
      have d6 : ∀ v : Later wr, v.w.cell? ⟨b, o + k * 4 + 3, none⟩ = some (.int .i64 t.2.2.2) := Later.cell h3
      refine wp_region_later (by kernel_rfl) (by kernel_rfl) ?_
      repeat (go_big_quiet_step ((go_at_call 64; exact Later.call (Hc.out _))))
      refine wpQuiet_nil ?_
      rintro w2 ⟨⟨_, hb2⟩, rfl⟩
      have Ho2 := Lib.hid (Ho.out.keep hb2)
      clear d0 d1 d2 d3 d4 d5 d6 h0 h1 h2 h3
      have hbb := bthen' hb hb2
      cases st
      case false =>
        go_wp2_with fail
        rcases HD.out with ⟨e, _⟩ | ⟨_, e⟩
        · cases e
        · exact ⟨⟨k + 1, _, _, by omega, by go_num, by rw [e], by rw [e]; exact Ho2.out, hbb⟩, by simp [intOf]; omega⟩
      case true =>
        have hbase : w.heap.size + 1 ≤ w2.heap.size := by have := hbb.size; omega
        go_wp2_with (at_builtin; refine wpList_append_el rfl _ _ _ rfl (w.heap.size + 1) 2 (.int .i64 0) 1 8 Try.underlying38 infoInt64 rfl (by omega) (by omega) iC l1 (k : Int) A' c' rfl (Ho2.out.keep (balloc _ _)) w2.heap.size _ rfl rfl (one_cell (by go_simp)) (by simp [iC]; rfl) (by omega) (by simp; omega) ?_)
        intro A2 c2 w3 hown3 hgr hb3
        have Ho3 := Lib.hid hown3; clear hown3
        go_wp2_with fail
        rcases HD.out with ⟨_, e⟩ | ⟨e, _⟩
        · exact ⟨⟨k + 1, A2, c2, by omega, by go_num, by rw [e]; simp, by rw [e, hg0]; exact Ho3.out, by rw [hg0] at hbb hbase ⊢; exact (hbb.alloc hbase _).trans hb3⟩, by simp [intOf]; omega⟩
        · cases e
    · obtain rfl : k = xs.length := by omega
      go_wp2_with fail
      go_ret
      exact ⟨_, _, rfl, (Ho.out.flat (fun _ => rfl)).mono (by omega) (Nat.le_refl _), Ho.out.cap, hbw.trans (hb.mono (by omega))⟩

end Go.Proofs.Ytfdnpobppelhaaa
