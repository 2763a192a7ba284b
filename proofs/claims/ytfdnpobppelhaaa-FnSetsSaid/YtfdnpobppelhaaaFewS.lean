/- DERIVED. The fewest sizes that suit everybody: the walks of the reference. By program (gfews.py). -/
import Derived.Test.YtfdnpobppelhaaaFewW
import Derived.Test.YtfdnpobppelhaaaOwn2
import Derived.Deep.RegionLaw
namespace Go.Proofs.Ytfdnpobppelhaaa
set_option maxRecDepth 100000
open Go.RowKit

theorem l01Has_any (A : Option Addr) (c : Nat) (xs : List Int) (n : Int) (w : World) (hr : Rd w w.heap.size 1 nC A xs) (hm : xs.length ≤ 1048576) :
    Calls Try.prog 111 #[.slice A xs.length c, .int .i64 n] w fun e w' => e = .returned (.bool (decide (n ∈ xs))) ∧ Below w.heap.size w w' := by
  have HR : Hid (decide (n ∈ xs) = decide (n ∈ xs)) := rfl
  have HY : Hid (∀ k : Nat, xs[k]? = some n → decide (n ∈ xs) = true) := fun k h => decide_eq_true (List.mem_of_getElem? h)
  have HN : Hid ((∀ k : Nat, k < xs.length → xs[k]? ≠ some n) → decide (n ∈ xs) = false) := fun h => decide_eq_false fun hm => by
    obtain ⟨k, hk⟩ := List.mem_iff_getElem?.1 hm
    exact h k (List.getElem?_eq_some_iff.1 hk).1 hk
  clear HR
  generalize decide (n ∈ xs) = R at HY HN ⊢
  go_enter Try.func111, Try.ntmps111
  go_wp2_with fail
  go_loopw [5] (fun i wr => ∃ k : Nat, k ≤ xs.length ∧ i = .int .i64 k ∧ Below w.heap.size w wr ∧ ∀ j : Nat, j < k → xs[j]? ≠ some n) (fun i _ => xs.length - (intOf i).toNat)
  case atStart => exact ⟨0, Nat.zero_le _, rfl, Below.refl _ _, fun j hj => by omega⟩
  case round =>
    obtain ⟨k, hk, rfl, hb, hall⟩ := hrel
    have Ha := Lib.hid hall; clear hall
    by_cases hlt : k < xs.length
    · have hx : xs[k]? = some xs[k] := List.getElem?_eq_getElem hlt
      obtain ⟨b, o, rfl, hB, q0⟩ := (hr.below hb).at1 hx rfl
      rw [Nat.mul_one] at q0
      generalize xs[k] = t at q0 hx
      have Hx := Lib.hid hx; clear hx
      by_cases ht : t = n
      · have HF : Hid (R = true) := HY.out k (by rw [Hx.out, ht])
        have hb1 : (t == n) = true := by simp [ht]
        clear ht
        go_wp2_with fail
        go_ret
        exact ⟨ret_bool HF.out.symm, hb⟩
      · have hb1 : (t == n) = false := by simp [ht]
        have Ht := Lib.hid ht; clear ht
        go_wp2_with fail
        exact ⟨⟨k + 1, by omega, by go_num, hb, fun j hj => by
          by_cases e : j = k
          · subst e
            rw [Hx.out]
            intro e
            exact Ht.out (Option.some.inj e)
          · exact Ha.out j (by omega)⟩, by simp [intOf]; omega⟩
    · have HF : Hid (R = false) := HN.out fun j hj => Ha.out j (by omega)
      go_wp2_with fail
      go_ret
      exact ⟨ret_bool HF.out.symm, hb⟩

theorem nC_len (n : Int) : (nC n).length = 1 := rfl
theorem nC_one (n : Int) : ∀ u ∈ nC n, u.oneCell' = true := fun u hu => by
  simp only [nC, List.mem_singleton] at hu
  subst hu
  rfl
set_option maxHeartbeats 1000000 in
theorem l19Meets_any (A B : Option Addr) (c d : Nat) (xs ys : List Int) (w : World) (hr : Rd w w.heap.size 1 nC A xs) (hr' : Rd w w.heap.size 1 nC B ys) (hm : xs.length ≤ 1048576) (hm' : ys.length ≤ 1048576) :
    Calls Try.prog 92 #[.slice A xs.length c, .slice B ys.length d] w fun e w' => e = .returned (.bool (meetsB xs ys)) ∧ Below w.heap.size w w' := by
  have Hr' := Lib.hid hr'; clear hr'
  have HO : Hid (∀ k x, xs[k]? = some x → decide (x ∈ ys) = true → meetsB xs ys = true) := fun k x h e => by
    unfold meetsB
    exact List.any_eq_true.2 ⟨x, List.mem_of_getElem? h, e⟩
  have HN : Hid ((∀ k : Nat, k < xs.length → ∀ x, xs[k]? = some x → decide (x ∈ ys) = false) → meetsB xs ys = false) := fun h => by
    unfold meetsB
    refine List.any_eq_false.2 fun x hx => ?_
    obtain ⟨k, hk⟩ := List.mem_iff_getElem?.1 hx
    rw [h k (List.getElem?_eq_some_iff.1 hk).1 x hk]
    simp
  generalize meetsB xs ys = R at HO HN ⊢
  go_enter Try.func92, Try.ntmps92
  go_wp2_with fail
  go_loopw [5] (fun i wr => ∃ k : Nat, k ≤ xs.length ∧ i = .int .i64 k ∧ Below w.heap.size w wr ∧ ∀ j : Nat, j < k → ∀ x, xs[j]? = some x → decide (x ∈ ys) = false) (fun i _ => xs.length - (intOf i).toNat)
  case atStart => exact ⟨0, Nat.zero_le _, rfl, Below.refl _ _, fun j hj => by omega⟩
  case round =>
    obtain ⟨k, hk, rfl, hb, hall⟩ := hrel
    have Ha := Lib.hid hall; clear hall
    by_cases hlt : k < xs.length
    · have hx : xs[k]? = some xs[k] := List.getElem?_eq_getElem hlt
      obtain ⟨b, o, rfl, hB, q0⟩ := (hr.below hb).at1 hx rfl
      rw [Nat.mul_one] at q0
      generalize xs[k] = t at q0 hx
      have Hx := Lib.hid hx; clear hx
      have HC := Lib.hid (l01Has_any B d ys t wr ((Hr'.out.below hb).more hb.size) hm')
      have HO2 := Lib.hid (HO.out k t Hx.out)
      have HE : Hid (decide (t ∈ ys) = decide (t ∈ ys)) := rfl
      generalize hmt : decide (t ∈ ys) = mt at HC HO2
      have Hmt := Lib.hid hmt
      clear hmt HE
      cases mt with
      | true =>
        have HF := Lib.hid (HO2.out rfl)
        go_wp2_with fail
        refine HC.out.mono ?_
        rintro e w2 ⟨rfl, hb2⟩
        go_wp2_with fail
        go_ret
        exact ⟨ret_bool HF.out.symm, bthen hb hb2⟩
      | false =>
        go_wp2_with fail
        refine HC.out.mono ?_
        rintro e w2 ⟨rfl, hb2⟩
        go_wp2_with fail
        exact ⟨⟨k + 1, by omega, by go_num, bthen hb hb2, fun j hj x hx => by
          by_cases e : j = k
          · subst e
            rw [Hx.out] at hx
            obtain rfl := Option.some.inj hx
            exact Hmt.out
          · exact Ha.out j (by omega) x hx⟩, by simp [intOf]; omega⟩
    · have HF : Hid (R = false) := HN.out fun j hj x hx => Ha.out j (by omega) x hx
      go_wp2_with fail
      go_ret
      exact ⟨ret_bool HF.out.symm, hb⟩

/-- What makes a slice of the call's own. -/
def GivesNew (w : World) (xs : List Int) (e : Ending) (w' : World) : Prop := ∃ A c, e = .returned (.slice A xs.length c) ∧ Own w' w.heap.size 2 1 nC A c xs ∧ Below w.heap.size w w'
set_option maxHeartbeats 1000000 in
theorem l01Own_any (A : Option Addr) (c : Nat) (xs : List Int) (w : World) (hr : Rd w w.heap.size 1 nC A xs) (hm : xs.length ≤ 1048576) :
    Calls Try.prog 109 #[.slice A xs.length c] w (GivesNew w xs) := by
  have Hr := Lib.hid hr; clear hr
  go_enter Try.func109, Try.ntmps109
  go_wp2_with (at_builtin; refine wpList_append_slice rfl _ _ _ rfl (w.heap.size) 2 (.int .i64 0) 1 8 Try.underlying38 infoInt64 rfl (by omega) (by omega) nC [] xs (some ⟨w.heap.size, 0, none⟩) 0 rfl (Own.made _ (Nat.le_refl _) rfl) A c _ rfl (Hr.out.next (balloc w (.cells #[] 2))) nC_len nC_one (by simp; omega) (by simp) ?_)
  intro A3 c3 w3 hown3 hb3 hfar3
  have HO := Lib.hid hown3; clear hown3 hfar3
  go_wp2_with fail
  go_ret
  exact ⟨A3, c3, by simp, HO.out, (balloc w _).trans hb3⟩

/-- Rows of numbers, each in memory that is there. -/
def RowsN (w : World) (lo hi : Nat) (ms : List RowI) : Prop := ∀ m ∈ ms, Flat w lo hi 2 1 nC m.A m.ns ∧ m.ns.length ≤ m.c
section
variable {w w' : World} {lo hi lo' hi' : Nat} {ms ns : List RowI}
theorem RowsN.mono (h : RowsN w lo hi ms) (h1 : lo' ≤ lo) (h2 : hi ≤ hi') : RowsN w lo' hi' ms := fun m hm => ⟨(h m hm).1.mono h1 h2, (h m hm).2⟩
theorem RowsN.below {B : Nat} (h : RowsN w lo hi ms) (hb : Below B w w') (hB : hi ≤ B) : RowsN w' lo hi ms := fun m hm => ⟨(h m hm).1.below hb hB, (h m hm).2⟩
theorem RowsN.next (h : RowsN w lo w.heap.size ms) (hb : Below w.heap.size w w') : RowsN w' lo w'.heap.size ms := (h.below hb (Nat.le_refl _)).mono (Nat.le_refl _) hb.size
theorem RowsN.nil : RowsN w lo hi [] := fun _ h => absurd h (by simp)
theorem RowsN.append (h : RowsN w lo hi ms) (k : RowsN w lo hi ns) : RowsN w lo hi (ms ++ ns) := fun m hm => by
  rcases List.mem_append.1 hm with hm | hm
  · exact h m hm
  · exact k m hm
theorem RowsN.one {m : RowI} (h : Flat w lo hi 2 1 nC m.A m.ns) (hc : m.ns.length ≤ m.c) : RowsN w lo hi [m] := fun n hn => by
  simp only [List.mem_singleton] at hn
  subst hn
  exact ⟨h, hc⟩
theorem RowsN.far {β : Type} {w4 : World} {sz' c base : Nat} {E' : TypeId} {f' : β → List Value} {B A2 : Option Addr} {ys : List β} (h : RowsN w lo hi ms) (ho : Own w base E' sz' f' B c ys) (hE : E' ≠ 2) (hhi : hi ≤ w.heap.size)
    (hfar : ∀ g, g < w.heap.size → Apart B g → Apart A2 g ∧ w4.heap[g]? = w.heap[g]?) : RowsN w4 lo hi ms := fun m hm => ⟨(h m hm).1.farType ho hE hhi hfar, (h m hm).2⟩
end
theorem Flat.one {α : Type} (w : World) (E : TypeId) (f : α → List Value) (x : α) (v : Value) (hv : f x = [v]) : Flat (w.alloc (.cells #[v] E)) w.heap.size (w.heap.size + 1) E 1 f (some ⟨w.heap.size, 0, none⟩) [x] := fun _ =>
  ⟨w.heap.size, 1, rfl, Nat.le_refl _, Nat.lt_succ_self _, Row.new w #[v] E, by simp, fun k y hk j u hu => by
    match k with
    | 0 =>
      obtain rfl : x = y := by simpa using hk
      rw [hv] at hu
      match j with
      | 0 =>
        obtain rfl : v = u := by simpa using hu
        go_simp
      | j + 1 => simp at hu
    | k + 1 => simp at hk⟩
def GivesLists (w : World) (lo : Nat) (rs : List (List Int)) (e : Ending) (w' : World) : Prop :=
  ∃ A c ms, e = .returned (.slice A (List.length ms) c) ∧ ms.map RowI.ns = rs ∧ Flat w' w.heap.size w'.heap.size 38 1 rowI A ms ∧ ms.length ≤ c ∧ RowsN w' lo w'.heap.size ms ∧ Below w.heap.size w w'

set_option maxHeartbeats 2000000 in
theorem l19Lists_any (n : Nat) (hn : n ≤ 12) (lo : Nat) : ∀ (D d i m : Nat) (b : List Int) (B : Option Addr) (Bc : Nat) (w : World), d < D → i + d = n → m ≤ 13 → UpTo i b → lo ≤ w.heap.size → Flat w lo w.heap.size 2 1 nC B b → b.length ≤ Bc →
    Calls Try.prog 91 #[.int .i64 n, .int .i64 i, .int .i64 m, .slice B b.length Bc] w (GivesLists w lo (combs d i m b)) := by
  intro D
  induction D with
  | zero => exact fun d i m b B Bc w h => absurd h (by omega)
  | succ D ih =>
    intro d i m b B Bc w hd hid hm12 hup hlo hfb hbc
    have hbl := hup.len
    have Hup := Lib.hid hup
    have HB := Lib.hid hfb
    clear hup hfb
    by_cases hmz : m = 0
    · subst hmz
      rw [combs_zero]
      go_enter Try.func91, Try.ntmps91
      go_wp2_with fail
      go_ret
      exact ⟨_, _, [⟨B, Bc, b⟩], rfl, rfl, by simpa using Flat.one w 38 rowI ⟨B, Bc, b⟩ _ rfl, Nat.le_refl _, RowsN.one ((HB.out.below (balloc w _) (Nat.le_refl _)).mono (Nat.le_refl _) (by simp)) hbc, balloc w _⟩
    · have h1m : 1 ≤ m := by omega
      have hmb : ((m : Int) == 0) = false := by simp [hmz]
      clear hmz
      have Hmp : Hid (((m - 1 : Nat) : Int) = (m : Int) - 1) := by
        unfold Hid
        omega
      have Hle := Lib.hid (combs_le d i m b)
      have Hpw : Hid (2 ^ d ≤ 4096) := by
        have := Nat.pow_le_pow_right (n := 2) (by omega) (show d ≤ 12 by omega)
        unfold Hid
        omega
      go_enter Try.func91, Try.ntmps91
      go_wp2_with fail
      go_loopw [9, 10] (fun out x wr => ∃ (e j : Nat) (A' : Option Addr) (c' : Nat) (ms : List RowI), j + e = n ∧ e ≤ d ∧ x = .int .i64 j ∧ out = .slice A' ms.length c' ∧ Hid (ms.map RowI.ns ++ combs e j m b = combs d i m b) ∧ UpTo j b ∧ Own wr w.heap.size 38 1 rowI A' c' ms ∧ RowsN wr lo wr.heap.size ms ∧ Below w.heap.size w wr) (fun _ x _ => n - (intOf x).toNat)
      case atStart => exact ⟨d, i, some ⟨w.heap.size, 0, none⟩, 0, [], hid, Nat.le_refl _, rfl, rfl, rfl, Hup.out, Own.made _ (Nat.le_refl _) rfl, RowsN.nil, balloc w _⟩
      case round =>
        obtain ⟨e, j, A', c', ms, hje, hed, rfl, rfl, HE, hupj, hown, hrows, hb⟩ := hrel
        have Hj := Lib.hid hupj
        have HO := Lib.hid hown
        have HR := Lib.hid hrows
        clear hupj hown hrows
        by_cases he0 : e = 0
        · subst he0
          obtain rfl : j = n := by omega
          have HQ : Hid (ms.map RowI.ns = combs d i m b) := by
            unfold Hid
            rw [← HE.out, combs_none' h1m, List.append_nil]
          clear HE
          go_wp2_with fail
          go_ret
          exact ⟨A', c', ms, rfl, HQ.out, HO.out.flat rowI_len, HO.out.cap, HR.out, hb⟩
        · obtain ⟨e, rfl⟩ : ∃ q, e = q + 1 := ⟨e - 1, by omega⟩
          clear he0
          have hms : ms.length ≤ 4096 := by
            have h1 := congrArg List.length HE.out
            rw [List.length_append, List.length_map] at h1
            have h2 := Hle.out
            have h3 := Hpw.out
            omega
          have HL : Hid (∀ ns : List RowI, ns.map RowI.ns = combs e (j + 1) (m - 1) (b ++ [(j : Int)]) → (ms ++ ns).map RowI.ns ++ combs e (j + 1) m b = combs d i m b ∧ ns.length ≤ 4096) := fun ns hns => by
            have h1 := HE.out
            rw [combs_step' h1m, ← hns, ← List.append_assoc, ← List.map_append] at h1
            refine ⟨h1, ?_⟩
            have h4 := congrArg List.length h1
            rw [List.length_append, List.length_map, List.length_append] at h4
            have h2 := Hle.out
            have h3 := Hpw.out
            omega
          clear HE
          have hsz := hb.size
          have HBw := Lib.hid ((HB.out.below hb (Nat.le_refl _)).mono (Nat.le_refl _) hsz)
          have HC := Lib.hid (l01Own_any B Bc b wr HBw.out.rd (by omega))
          have HRec : Hid (∀ (B2 : Option Addr) (Bc2 : Nat) (v : World), lo ≤ v.heap.size → Flat v lo v.heap.size 2 1 nC B2 (b ++ [(j : Int)]) → (b ++ [(j : Int)]).length ≤ Bc2 → Calls Try.prog 91 #[.int .i64 n, .int .i64 ((j : Int) + 1), .int .i64 ((m : Int) - 1), .slice B2 (b ++ [(j : Int)]).length Bc2] v (GivesLists v lo (combs e (j + 1) (m - 1) (b ++ [(j : Int)])))) := fun B2 Bc2 v h1 h2 h3 => by
            have := ih e (j + 1) (m - 1) (b ++ [(j : Int)]) B2 Bc2 v (by omega) (by omega) (by omega) Hj.out.add h1 h2 h3
            rw [Hmp.out, show ((j + 1 : Nat) : Int) = (j : Int) + 1 by omega] at this
            exact this
          clear ih
          generalize combs e (j + 1) (m - 1) (b ++ [(j : Int)]) = cs at HRec HL
          go_wp2_with fail
          refine HC.out.mono ?_
          rintro x w3 ⟨A3, c3, rfl, hown3, hb3⟩
          have HO3 := Lib.hid hown3; clear hown3
          have hs3 := hb3.size
          go_wp2_with (at_builtin; refine wpList_append_el rfl _ _ _ rfl wr.heap.size 2 (.int .i64 0) 1 8 Try.underlying38 infoInt64 rfl (by omega) (by omega) nC b (j : Int) A3 c3 rfl (HO3.out.keep (balloc _ _)) w3.heap.size _ rfl rfl (one_cell (by go_simp)) (by simp [nC]; rfl) (by omega) (by simp; omega) ?_)
          intro A4 c4 w4 hown4 _ hb4
          have hb34 : Below wr.heap.size wr w4 := (hb3.alloc hs3 _).trans hb4
          have hf4 := hown4.flat nC_len
          have hc4 := hown4.cap
          have HO4 := Lib.hid (HO.out.keep hb34)
          have HR4 : Hid (RowsN w4 lo w4.heap.size ms) := HR.out.next hb34
          have hs4 := hb34.size
          have HC4 := Lib.hid (HRec.out A4 c4 w4 (by omega) (hf4.mono (by omega) (Nat.le_refl _)) hc4)
          clear hown4 hf4 HO HR HC HRec HO3
          have Hll : Hid ((b ++ [(j : Int)]).length = b.length + 1) := by
            unfold Hid
            simp
          rw [Hll.out] at HC4
          go_wp2_with fail
          refine HC4.out.mono ?_
          rintro x w5 ⟨A5, c5, ns, rfl, hns, hf5, hc5, hr5, hb5⟩
          obtain ⟨hL1, hL2⟩ := HL.out ns hns
          have HL1 := Lib.hid hL1
          have HF5 := Lib.hid hf5
          have HR5 := Lib.hid hr5
          have HO5 := Lib.hid (HO4.out.keep hb5)
          have HR45 := Lib.hid (HR4.out.next hb5)
          have hs5 := hb5.size
          have hb05 : Below w.heap.size w w5 := bthen' (hb.trans (hb34.mono hsz)) hb5
          clear hL1 hns hf5 hr5 HL HO4 HR4 HC4
          go_wp2_with (at_builtin; refine wpList_append_slice rfl _ _ _ rfl (w.heap.size) 38 (.slice none 0 0) 1 24 Try.underlying51 infoRowI rfl (by omega) (by omega) rowI ms ns A' c' rfl HO5.out A5 c5 _ rfl HF5.out.rd rowI_len rowI_one (by omega) (by omega) ?_)
          intro A6 c6 w6 hown6 hb6 hfar6
          have HR6 : Hid (RowsN w6 lo w6.heap.size (ms ++ ns)) := ((HR45.out.append HR5.out).far HO5.out (by decide) (Nat.le_refl _) hfar6).mono (Nat.le_refl _) hb6.size
          have HO6 := Lib.hid hown6
          clear hown6 hfar6
          go_wp2_with fail
          exact ⟨⟨e, j + 1, A6, c6, ms ++ ns, by omega, by omega, by go_num, by simp, HL1.out, Hj.out.more, HO6.out, HR6.out, hb05.trans hb6⟩, by simp [intOf]; omega⟩

end Go.Proofs.Ytfdnpobppelhaaa
