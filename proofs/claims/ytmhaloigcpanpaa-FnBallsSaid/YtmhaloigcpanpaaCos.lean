/- DERIVED. Cosines, square roots and chords, in the program and in the reference. By program (gcos.py). -/
import Derived.Test.YtmhaloigcpanpaaNum
import Derived.Test.YtmhaloigcpanpaaIdx
import Derived.Test.YtmhaloigcpanpaaOwn3
import Derived.Test.YtmhaloigcpanpaaSl
import Derived.Deep.RegionLaw
namespace Go.Proofs.Ytmhaloigcpanpaa
set_option maxRecDepth 100000
open Go.RowKit

/-- The k-th of a slice of numbers that is kept. -/
theorem Flat.cell1 {α : Type} {w : World} {lo hi g k : Nat} {E : TypeId} {f : α → List Value} {xs : List α} {x : α} {v : Value} (h : Flat w lo hi E 1 f (some ⟨g, 0, none⟩) xs) (hk : xs[k]? = some x) (hv : f x = [v]) : w.cell? ⟨g, k, none⟩ = some v := by
  obtain ⟨g', m, e, _, _, _, _, hc⟩ := h (by have := (List.getElem?_eq_some_iff.1 hk).1; omega)
  simp only [Option.some.injEq, Addr.mk.injEq] at e
  obtain ⟨rfl, _⟩ := e
  have := hc k x hk 0 v (by rw [hv]; rfl)
  simpa using this
theorem Flat.some {α : Type} {w : World} {lo hi sz : Nat} {E : TypeId} {f : α → List Value} {A : Option Addr} {xs : List α} (h : Flat w lo hi E sz f A xs) (hp : 0 < xs.length) : ∃ g, A = some ⟨g, 0, none⟩ := by
  obtain ⟨g, m, e, _⟩ := h hp
  exact ⟨g, e⟩

def nearU (a : Int) : Int := (2 * a + 1000000000) / 2000000000
theorem nearestU_any (a : Int) (h1 : -2100000000000000000 ≤ a) (h2 : a ≤ 2100000000000000000) (w : World) :
    Calls Try.prog 133 #[.int .i64 a, .int .i64 1000000000] w fun e w' => e = .returned (.int .i64 (nearU a)) ∧ w = w' := by
  go_enter Try.func133, Try.ntmps133
  go_wp2_with (go_at_call 147; refine (floorDiv_any _ _ (by omega) (by omega) (by omega) (by omega) _).mono ?_; rintro e w' ⟨rfl, rfl⟩)
  go_ret
  exact ⟨rfl, rfl⟩
theorem l01NearestU_any (a : Int) (h1 : -2100000000000000000 ≤ a) (h2 : a ≤ 2100000000000000000) (w : World) :
    Calls Try.prog 134 #[.int .i64 a, .int .i64 1000000000] w fun e w' => e = .returned (.int .i64 (nearU a)) ∧ w = w' := by
  go_enter Try.func134, Try.ntmps134
  go_wp2_with (go_at_call 135; refine (l01Floor_any _ _ (by omega) (by omega) (by omega) (by omega) _).mono ?_; rintro e w' ⟨rfl, rfl⟩)
  go_ret
  exact ⟨rfl, rfl⟩

/-- Two cosines one behind the other. -/
def pr : Nat → Int × Int
  | 0 => (999961923, 1000000000)
  | k + 1 => ((pr k).2, nearU (1999923846 * (pr k).2) - (pr k).1)
theorem pr_all : (List.range 182).all (fun k => decide (-1000000000 ≤ (pr k).2) && decide ((pr k).2 ≤ 1000000000)) = true := by kernel_rfl
theorem pr_bd {k : Nat} (h : k ≤ 181) : -1000000000 ≤ (pr k).2 ∧ (pr k).2 ≤ 1000000000 := by
  have := List.all_eq_true.1 pr_all k (List.mem_range.2 (by omega))
  simpa using this
theorem pr_bd1 {k : Nat} (h : k ≤ 181) : -1000000000 ≤ (pr k).1 ∧ (pr k).1 ≤ 1000000000 := by
  cases k with
  | zero => simp [pr]
  | succ k => exact pr_bd (by omega)
def cosF (k : Nat) : Int := if k = 180 then 0 else (pr k).2
theorem cosF_bd {k : Nat} (h : k ≤ 181) : -1000000000 ≤ cosF k ∧ cosF k ≤ 1000000000 := by
  unfold cosF
  split
  · omega
  · exact pr_bd h
def cosC (s : Int) : Int := if s ≤ 180 then cosF s.toNat else -cosF (360 - s).toNat
theorem cosC_bd {s : Int} (h0 : 0 ≤ s) (h1 : s ≤ 360) : -1000000000 ≤ cosC s ∧ cosC s ≤ 1000000000 := by
  unfold cosC
  split
  · exact cosF_bd (by omega)
  · have := cosF_bd (k := (360 - s).toNat) (by omega)
    omega

set_option maxHeartbeats 1000000 in
theorem firstCosine_any (s : Nat) (hs : s ≤ 180) (w : World) :
    Calls Try.prog 156 #[.int .i64 (s : Int)] w fun e w' => e = .returned (.int .i64 (cosF s)) ∧ w = w' := by
  by_cases h0 : s = 0
  · subst h0
    go_enter Try.func156, Try.ntmps156
    go_wp2_with fail
    go_ret
    exact ⟨rfl, rfl⟩
  · by_cases h1 : s = 180
    · subst h1
      go_enter Try.func156, Try.ntmps156
      go_wp2_with fail
      go_ret
      exact ⟨rfl, rfl⟩
    · have hb0 : ((s : Int) == 0) = false := beq_eq_false_iff_ne.2 (by omega)
      have hb1 : ((s : Int) == 180) = false := beq_eq_false_iff_ne.2 (by omega)
      have HR : Hid (cosF s = (pr s).2) := by unfold Hid cosF; rw [if_neg h1]
      generalize cosF s = R at HR ⊢
      go_enter Try.func156, Try.ntmps156
      go_wp2_with fail
      go_loopw [3, 4, 5] (fun b n k wr => ∃ j : Nat, 1 ≤ j ∧ j ≤ s ∧ b = .int .i64 (pr j).1 ∧ n = .int .i64 (pr j).2 ∧ k = .int .i64 ((j : Int) + 1) ∧ w = wr) (fun _ _ k _ => s + 1 - (intOf k).toNat)
      case atStart => exact ⟨1, Nat.le_refl _, by omega, rfl, rfl, rfl, rfl⟩
      case round =>
        obtain ⟨j, hj1, hj, rfl, rfl, rfl, rfl⟩ := hrel
        have hbd := pr_bd (k := j) (by omega)
        have hbd1 := pr_bd1 (k := j) (by omega)
        by_cases hlt : j < s
        · have HN : Hid (pr (j + 1) = ((pr j).2, nearU (1999923846 * (pr j).2) - (pr j).1)) := rfl
          have hnb : -2000000000 ≤ nearU (1999923846 * (pr j).2) ∧ nearU (1999923846 * (pr j).2) ≤ 2000000000 := by unfold nearU; omega
          have HC : Hid (Calls Try.prog 133 #[.int .i64 (1999923846 * (pr j).2), .int .i64 1000000000] w fun e w' => e = .returned (.int .i64 (nearU (1999923846 * (pr j).2))) ∧ w = w') := nearestU_any _ (by omega) (by omega) w
          generalize pr j = p at hbd hbd1 HN hnb HC ⊢
          generalize nearU (1999923846 * p.2) = nv at HN hnb HC
          go_wp2_with fail
          refine HC.out.mono ?_
          rintro e w' ⟨rfl, rfl⟩
          go_wp2_with fail
          exact ⟨⟨j + 1, by omega, by omega, by rw [HN.out], by rw [HN.out], by go_num, by trivial⟩, by simp [intOf]; omega⟩
        · obtain rfl : j = s := by omega
          go_wp2_with fail
          go_ret
          exact ⟨ret_int HR.out.symm, rfl⟩

theorem floorMod_any (a : Int) (h0 : 0 ≤ a) (h1 : a < 720) (w : World) :
    Calls Try.prog 155 #[.int .i64 a, .int .i64 720] w fun e w' => e = .returned (.int .i64 a) ∧ w = w' := by
  have hm : a.tmod 720 = a := Int.tmod_eq_of_lt h0 h1
  have hm2 : a % 720 = a := Int.emod_eq_of_lt h0 h1
  go_enter Try.func155, Try.ntmps155
  go_wp2_with fail
  all_goals first
    | (go_ret; exact ⟨ret_int (by omega), rfl⟩)
    | (exfalso; omega)
theorem l01Mod_any (a : Int) (h0 : 0 ≤ a) (h1 : a < 720) (w : World) :
    Calls Try.prog 153 #[.int .i64 a, .int .i64 720] w fun e w' => e = .returned (.int .i64 a) ∧ w = w' := by
  have hm : a.tmod 720 = a := Int.tmod_eq_of_lt h0 h1
  go_enter Try.func153, Try.ntmps153
  go_wp2_with fail
  go_ret
  exact ⟨ret_int (by omega), rfl⟩

set_option maxHeartbeats 1000000 in
theorem cosine_any (s : Int) (h0 : 0 ≤ s) (h1 : s ≤ 360) (w : World) :
    Calls Try.prog 151 #[.int .i64 s] w fun e w' => e = .returned (.int .i64 (cosC s)) ∧ w = w' := by
  by_cases h : s ≤ 180
  · have HR : Hid (cosC s = cosF s.toNat) := by unfold Hid cosC; rw [if_pos h]
    obtain ⟨n, rfl⟩ := Int.eq_ofNat_of_zero_le h0
    rw [Int.toNat_natCast] at HR
    have HC := Lib.hid (firstCosine_any n (by omega) w)
    generalize cosC (n : Int) = R at HR ⊢
    go_enter Try.func151, Try.ntmps151
    go_wp2_with (first | (go_at_call 155; refine (floorMod_any _ (by omega) (by omega) _).mono ?_; rintro e w' ⟨rfl, rfl⟩) | (go_at_call 156; refine HC.out.mono ?_; rintro e w' ⟨rfl, rfl⟩))
    go_ret
    exact ⟨ret_int HR.out.symm, rfl⟩
  · have HR : Hid (cosC s = -cosF (360 - s).toNat) := by unfold Hid cosC; rw [if_neg h]
    obtain ⟨n, hn⟩ := Int.eq_ofNat_of_zero_le (show 0 ≤ 360 - s by omega)
    rw [hn, Int.toNat_natCast] at HR
    have hbd := cosF_bd (k := n) (by omega)
    have HC : Hid (Calls Try.prog 156 #[.int .i64 (360 - s)] w fun e w' => e = .returned (.int .i64 (cosF n)) ∧ w = w') := by
      have := firstCosine_any n (by omega) w
      rw [← hn] at this
      exact this
    clear hn
    generalize cosC s = R at HR ⊢
    generalize cosF n = cn at HR HC hbd
    go_enter Try.func151, Try.ntmps151
    go_wp2_with (first | (go_at_call 155; refine (floorMod_any _ (by omega) (by omega) _).mono ?_; rintro e w' ⟨rfl, rfl⟩) | (go_at_call 156; refine HC.out.mono ?_; rintro e w' ⟨rfl, rfl⟩))
    go_ret
    exact ⟨ret_int (by rw [HR.out]), rfl⟩

/-- The table of the first k cosines. -/
def tabP (k : Nat) : List Int := (List.range k).map fun i => (pr i).2
def cosTab : List Int := (List.range 181).map cosF
theorem tabP_len (k : Nat) : (tabP k).length = k := by simp [tabP]
theorem tabP_at {k i : Nat} (h : i < k) : (tabP k)[i]? = some (pr i).2 := by simp [tabP, h]
theorem tabP_succ (k : Nat) : tabP (k + 1) = tabP k ++ [(pr k).2] := by simp [tabP, List.range_succ]
theorem cosTab_len : cosTab.length = 181 := by simp [cosTab]
theorem cosTab_at {i : Nat} (h : i < 181) : cosTab[i]? = some (cosF i) := by simp [cosTab, h]
theorem cosTab_eq : cosTab = tabP 180 ++ [0] := by
  unfold cosTab tabP
  rw [List.range_succ, List.map_append]
  have h : List.map cosF (List.range 180) = List.map (fun i => (pr i).2) (List.range 180) := List.map_congr_left fun i hi => by
    have := List.mem_range.1 hi
    unfold cosF
    rw [if_neg (by omega)]
  rw [h]
  rfl
theorem pr_step {k : Nat} (h : 2 ≤ k) : (pr k).2 = nearU (1999923846 * (pr (k - 1)).2) - (pr (k - 2)).2 := by
  obtain ⟨i, rfl⟩ : ∃ i, k = i + 2 := ⟨k - 2, by omega⟩
  rfl

set_option maxHeartbeats 2000000 in
theorem l03Table_any (w : World) :
    Calls Try.prog 154 #[] w (GivesOwn w 2 1 nC cosTab) := by
  have HO : Hid (Own (w.alloc (.cells #[.int .i64 1000000000, .int .i64 999961923] 2)) w.heap.size 2 1 nC (some ⟨w.heap.size, 0, none⟩) 2 (tabP 2)) := by
    have := World.ownsRow_lit (base := w.heap.size) (e := 2) (size := 1) w #[.int .i64 1000000000, .int .i64 999961923] 2 (Nat.le_refl _) (by unfold maxLen; omega) (by simp)
    exact this
  have HB : Hid (Below w.heap.size w (w.alloc (.cells #[.int .i64 1000000000, .int .i64 999961923] 2))) := balloc _ _
  have HE : Hid (cosTab = tabP 180 ++ [0]) := cosTab_eq
  have HL := Lib.hid cosTab_len
  have HTL : Hid (∀ k, (tabP k).length = k) := tabP_len
  have HTS : Hid (∀ k, tabP (k + 1) = tabP k ++ [(pr k).2]) := tabP_succ
  have HTA : Hid (∀ k i, i < k → (tabP k)[i]? = some (pr i).2) := fun k i h => tabP_at h
  generalize cosTab = CT at HE HL ⊢
  go_enter Try.func154, Try.ntmps154
  go_wp2_with fail
  go_loopw [1, 2] (fun out i wr => ∃ (k : Nat) (A' : Option Addr) (c' : Nat), 2 ≤ k ∧ k ≤ 180 ∧ i = .int .i64 k ∧ out = .slice A' (tabP k).length c' ∧ Own wr w.heap.size 2 1 nC A' c' (tabP k) ∧ Below w.heap.size w wr) (fun _ i _ => 180 - (intOf i).toNat)
  case atStart => exact ⟨2, _, _, Nat.le_refl _, by omega, rfl, by rw [HTL.out], HO.out, HB.out⟩
  case round =>
    obtain ⟨k, A', c', hk2, hk, rfl, rfl, hown, hb⟩ := hrel
    have Ho := Lib.hid hown
    have hbase := hb.size
    have hkl := HTL.out k
    have Hkl := Lib.hid hkl
    obtain ⟨g, m, rfl, hg1, hg2, hrow, hm1, _⟩ := hown.flat (fun _ => rfl) (by omega)
    have hfl := hown.flat (fun _ => rfl)
    clear hown HO HB
    by_cases hlt : k < 180
    · have q1 := hfl.cell1 (HTA.out k (k - 1) (by omega)) rfl
      have q2 := hfl.cell1 (HTA.out k (k - 2) (by omega)) rfl
      have hb1 := pr_bd (k := k - 1) (by omega)
      have hb0 := pr_bd (k := k - 2) (by omega)
      have HN : Hid ((pr k).2 = nearU (1999923846 * (pr (k - 1)).2) - (pr (k - 2)).2) := pr_step hk2
      have hnb : -2000000000 ≤ nearU (1999923846 * (pr (k - 1)).2) ∧ nearU (1999923846 * (pr (k - 1)).2) ≤ 2000000000 := by unfold nearU; omega
      have HC : Hid (∀ v : World, Calls Try.prog 134 #[.int .i64 (1999923846 * (pr (k - 1)).2), .int .i64 1000000000] v fun e w' => e = .returned (.int .i64 (nearU (1999923846 * (pr (k - 1)).2))) ∧ v = w') := fun v => l01NearestU_any _ (by omega) (by omega) v
      have HD := Lib.hid (HTS.out k)
      rw [HN.out] at HD
      generalize (pr (k - 1)).2 = p1 at q1 hb1 HN hnb HC HD
      generalize (pr (k - 2)).2 = p0 at q2 hb0 HN HD
      generalize nearU (1999923846 * p1) = nv at HN hnb HC HD
      clear hfl HN hrow hm1
      generalize tabP k = l1 at HD Ho hkl Hkl ⊢
      have hw1 : IntKind.i64.wrap ((k : Int) - 1) = (k : Int) - 1 := IntWalk.i64_in _ (by omega)
      have hw2 : IntKind.i64.wrap ((k : Int) - 2) = (k : Int) - 2 := IntWalk.i64_in _ (by omega)
      have hw3 : IntKind.i64.wrap (1999923846 * p1) = 1999923846 * p1 := IntWalk.i64_in _ (by omega)
      have hw4 : IntKind.i64.wrap (nv - p0) = nv - p0 := IntWalk.i64_in _ (by omega)
      have hz1 : 1 ≤ (k : Int) := by omega
      have hz2 : 2 ≤ (k : Int) := by omega
      have hx1 : 0 ≤ (k : Int) - 1 := by omega
      have hx2 : 0 ≤ (k : Int) - 2 := by omega
      have hy1 : (k : Int) - 1 < k := by omega
      have hy2 : (k : Int) - 2 < k := by omega
      have ht1 : ((k : Int) - 1).toNat = k - 1 := by omega
      have ht2 : ((k : Int) - 2).toNat = k - 2 := by omega
      go_wp2_with fail
      go_region_law (first
        | (go_simp; go_at_call 134; refine (HC.out _).mono ?_; rintro e w' ⟨rfl, rfl⟩; go_wp2_with fail)
        | (have HoD := Lib.hid ((Ho.out.keep (bdrew wr)).keep (balloc wr.drew (.cells #[.int .i64 (nv - p0)] 2))); refine step_append_el (by rfl) _ _ _ (by rfl) w.heap.size 2 (.int .i64 0) 1 8 Try.underlying49 infoInt64 rfl (by omega) (by omega) nC l1 (nv - p0) (some ⟨g, 0, none⟩) c' (by rw [Hkl.out]; rfl) HoD.out wr.heap.size _ (by rfl) (by simp) (fun _ => rfl) (one_cell (by go_simp)) (fun _ u hu => by simp only [nC, List.mem_singleton] at hu; subst hu; rfl) (by omega) (by simp; omega) ?_; intro A2 c2 w7 hown7 hb7 hfar7; have Ho7 := Lib.hid hown7; have HB7 := Lib.hid (((bdrew wr).mono hbase).trans (((balloc wr.drew (.cells #[.int .i64 (nv - p0)] 2)).mono (by simpa using hbase)).trans hb7)); clear hown7 hb7 hfar7))
      all_goals
        go_wp2_with fail
        exact ⟨⟨k + 1, A2, c2, by omega, by omega, by go_num, by rw [HD.out]; simp [Hkl.out], by rw [HD.out]; exact Ho7.out, hb.trans HB7.out⟩, by simp [intOf]; omega⟩
    · obtain rfl : k = 180 := by omega
      have HD := HE
      generalize tabP 180 = l1 at HD Ho hkl Hkl ⊢
      clear hfl hrow hm1
      go_wp2_with (at_builtin; refine wpList_append_el rfl _ _ _ rfl (w.heap.size) 2 (.int .i64 0) 1 8 Try.underlying49 infoInt64 rfl (by omega) (by omega) nC l1 0 (some ⟨g, 0, none⟩) c' rfl (Ho.out.keep (balloc _ _)) (wr.heap.size) _ rfl rfl (one_cell (by go_simp)) (by simp [nC]; rfl) (by omega) (by simp; omega) ?_)
      intro A2 c2 w4 hown4 hgr hb4
      have Ho4 := Lib.hid hown4; clear hown4
      go_wp2_with fail
      go_ret
      have e1 : (l1 ++ [(0 : Int)]).length = l1.length + 1 := by simp
      exact ⟨A2, c2, by rw [HD.out, e1, Hkl.out]; rfl, by rw [HD.out]; exact Ho4.out.flat (fun _ => rfl), by rw [HD.out]; exact Ho4.out.cap, (hb.alloc hb.size _).trans hb4⟩

set_option maxHeartbeats 1000000 in
theorem l03Cosine_any (s : Int) (h0 : 0 ≤ s) (h1 : s ≤ 360) (w : World) :
    Calls Try.prog 149 #[.int .i64 s] w fun e w' => e = .returned (.int .i64 (cosC s)) ∧ Below w.heap.size w w' := by
  have HT := Lib.hid (l03Table_any w)
  have hmin : min s (720 - s) = s := by omega
  by_cases h : s ≤ 180
  · have HR : Hid (cosC s = cosF s.toNat) := by unfold Hid cosC; rw [if_pos h]
    obtain ⟨n, rfl⟩ := Int.eq_ofNat_of_zero_le h0
    rw [Int.toNat_natCast] at HR
    have hat := cosTab_at (i := n) (by omega)
    have hcl := cosTab_len
    generalize cosC (n : Int) = R at HR ⊢
    go_enter Try.func149, Try.ntmps149
    go_wp2_with (go_at_call 153; refine (l01Mod_any _ (by omega) (by omega) _).mono ?_; rintro e w' ⟨rfl, rfl⟩)
    refine HT.out.mono ?_
    rintro e w1 ⟨TA, tc, rfl, hf, htc, hb1⟩
    obtain ⟨g, rfl⟩ := hf.some (by omega)
    have q := hf.cell1 hat rfl
    have hnl : n < cosTab.length := by omega
    clear hf hcl
    go_wp2_with fail
    go_ret
    exact ⟨ret_int HR.out.symm, hb1⟩
  · have HR : Hid (cosC s = -cosF (360 - s).toNat) := by unfold Hid cosC; rw [if_neg h]
    obtain ⟨n, hn⟩ := Int.eq_ofNat_of_zero_le (show 0 ≤ 360 - s by omega)
    rw [hn, Int.toNat_natCast] at HR
    have hat := cosTab_at (i := n) (by omega)
    have hcl := cosTab_len
    have hbd := cosF_bd (k := n) (by omega)
    generalize cosC s = R at HR ⊢
    generalize cosF n = cn at HR hat hbd
    go_enter Try.func149, Try.ntmps149
    go_wp2_with (go_at_call 153; refine (l01Mod_any _ (by omega) (by omega) _).mono ?_; rintro e w' ⟨rfl, rfl⟩)
    refine HT.out.mono ?_
    rintro e w1 ⟨TA, tc, rfl, hf, htc, hb1⟩
    obtain ⟨g, rfl⟩ := hf.some (by omega)
    have q := hf.cell1 hat rfl
    have hnl : n < cosTab.length := by omega
    clear hf hcl
    go_wp2_with fail
    go_ret
    exact ⟨ret_int (by rw [HR.out]), hb1⟩

/-- The square root, rounded down. -/
def rootN : Nat → Nat
  | 0 => 0
  | n + 1 => if (rootN n + 1) * (rootN n + 1) ≤ n + 1 then rootN n + 1 else rootN n
theorem rootN_ok : ∀ n, rootN n * rootN n ≤ n ∧ n < (rootN n + 1) * (rootN n + 1)
  | 0 => by simp [rootN]
  | n + 1 => by
    have ih := rootN_ok n
    unfold rootN
    split
    · rename_i h
      refine ⟨h, ?_⟩
      have : (rootN n + 1) * (rootN n + 1) < (rootN n + 1 + 1) * (rootN n + 1 + 1) := Nat.mul_lt_mul_of_lt_of_lt (by omega) (by omega)
      omega
    · exact ⟨by omega, by omega⟩
theorem root_le {n r s : Nat} (h1 : r * r ≤ n) (h2 : n < (s + 1) * (s + 1)) : r ≤ s := by
  by_cases h : r ≤ s
  · exact h
  · have := Nat.mul_le_mul (show s + 1 ≤ r by omega) (show s + 1 ≤ r by omega)
    omega
theorem root_is {n : Nat} {lo : Int} (h0 : 0 ≤ lo) (h1 : lo * lo ≤ (n : Int)) (h2 : (n : Int) < (lo + 1) * (lo + 1)) : lo = (rootN n : Int) := by
  obtain ⟨r, rfl⟩ := Int.eq_ofNat_of_zero_le h0
  have a1 : r * r ≤ n := by exact_mod_cast h1
  have a2 : n < (r + 1) * (r + 1) := by exact_mod_cast h2
  have ok := rootN_ok n
  have := root_le a1 ok.2
  have := root_le ok.1 a2
  omega
theorem sq_mono {a b : Int} (h0 : 0 ≤ a) (h : a ≤ b) : a * a ≤ b * b := Int.mul_le_mul h h h0 (by omega)

set_option maxHeartbeats 1000000 in
theorem root_any (n : Nat) (hn : n ≤ 1000000000000000) (w : World) :
    Calls Try.prog 150 #[.int .i64 (n : Int)] w fun e w' => e = .returned (.int .i64 (rootN n : Int)) ∧ w = w' := by
  have HR : Hid (∀ lo : Int, 0 ≤ lo → lo * lo ≤ (n : Int) → (n : Int) < (lo + 1) * (lo + 1) → lo = (rootN n : Int)) := fun lo => root_is
  generalize (rootN n : Int) = R at HR ⊢
  go_enter Try.func150, Try.ntmps150
  go_wp2_with fail
  go_loopw [3, 4] (fun l h wr => ∃ lo hi : Int, 0 ≤ lo ∧ lo ≤ hi ∧ hi ≤ 3037000499 ∧ lo * lo ≤ (n : Int) ∧ (n : Int) < (hi + 1) * (hi + 1) ∧ l = .int .i64 lo ∧ h = .int .i64 hi ∧ w = wr) (fun l h _ => (intOf h - intOf l).toNat)
  case atStart => exact ⟨0, 3037000499, by omega, by omega, by omega, by omega, by omega, rfl, rfl, rfl⟩
  case round =>
    obtain ⟨lo, hi, h0, h1, h2, h3, h4, rfl, rfl, rfl⟩ := hrel
    have H3 := Lib.hid h3; clear h3
    have H4 := Lib.hid h4; clear h4
    by_cases hlt : lo < hi
    · have m0 : lo < (lo + hi + 1) / 2 := by omega
      have m1 : (lo + hi + 1) / 2 ≤ hi := by omega
      have s1 := sq_mono (show 0 ≤ (lo + hi + 1) / 2 by omega) (show (lo + hi + 1) / 2 ≤ 3037000499 by omega)
      have s0 : 0 ≤ (lo + hi + 1) / 2 * ((lo + hi + 1) / 2) := Int.mul_nonneg (by omega) (by omega)
      by_cases hm : (lo + hi + 1) / 2 * ((lo + hi + 1) / 2) ≤ (n : Int)
      · have Hm := Lib.hid hm
        go_wp2_with fail
        exact ⟨⟨(lo + hi + 1) / 2, hi, by omega, by omega, h2, Hm.out, H4.out, rfl, rfl, by trivial⟩, by simp [intOf]; omega⟩
      · have Hm := Lib.hid hm
        go_wp2_with fail
        exact ⟨⟨lo, (lo + hi + 1) / 2 - 1, h0, by omega, by omega, H3.out, by have := Hm.out; rw [Int.sub_add_cancel]; omega, rfl, rfl, by trivial⟩, by simp [intOf]; omega⟩
    · obtain rfl : lo = hi := by omega
      have HE := Lib.hid (HR.out lo h0 H3.out H4.out)
      go_wp2_with fail
      go_ret
      exact ⟨ret_int HE.out, rfl⟩

set_option maxHeartbeats 1000000 in
theorem l02Root_any (n : Nat) (hn : n ≤ 1000000000000000) (w : World) :
    Calls Try.prog 148 #[.int .i64 (n : Int)] w fun e w' => e = .returned (.int .i64 (rootN n : Int)) ∧ w = w' := by
  have HR : Hid (∀ lo : Int, 0 ≤ lo → lo * lo ≤ (n : Int) → (n : Int) < (lo + 1) * (lo + 1) → lo = (rootN n : Int)) := fun lo => root_is
  generalize (rootN n : Int) = R at HR ⊢
  go_enter Try.func148, Try.ntmps148
  go_wp2_with fail
  go_loopw [3, 4] (fun l h wr => ∃ lo hi : Int, 0 ≤ lo ∧ lo + 1 ≤ hi ∧ hi ≤ 2000000001 ∧ lo * lo ≤ (n : Int) ∧ (n : Int) < hi * hi ∧ l = .int .i64 lo ∧ h = .int .i64 hi ∧ w = wr) (fun l h _ => (intOf h - intOf l).toNat)
  case atStart => exact ⟨0, 2000000001, by omega, by omega, by omega, by omega, by omega, rfl, rfl, rfl⟩
  case round =>
    obtain ⟨lo, hi, h0, h1, h2, h3, h4, rfl, rfl, rfl⟩ := hrel
    have H3 := Lib.hid h3; clear h3
    have H4 := Lib.hid h4; clear h4
    by_cases hlt : lo + 1 < hi
    · have m0 : lo < (lo + hi) / 2 := by omega
      have m1 : (lo + hi) / 2 < hi := by omega
      have s1 := sq_mono (show 0 ≤ (lo + hi) / 2 by omega) (show (lo + hi) / 2 ≤ 2000000001 by omega)
      have s0 : 0 ≤ (lo + hi) / 2 * ((lo + hi) / 2) := Int.mul_nonneg (by omega) (by omega)
      by_cases hm : (lo + hi) / 2 * ((lo + hi) / 2) ≤ (n : Int)
      · have Hm := Lib.hid hm
        go_wp2_with fail
        exact ⟨⟨(lo + hi) / 2, hi, by omega, by omega, h2, Hm.out, H4.out, rfl, rfl, by trivial⟩, by simp [intOf]; omega⟩
      · have Hm := Lib.hid hm
        go_wp2_with fail
        exact ⟨⟨lo, (lo + hi) / 2, h0, by omega, by omega, H3.out, by have := Hm.out; omega, rfl, rfl, by trivial⟩, by simp [intOf]; omega⟩
    · obtain rfl : hi = lo + 1 := by omega
      have HE := Lib.hid (HR.out lo h0 H3.out H4.out)
      go_wp2_with fail
      go_ret
      exact ⟨ret_int HE.out, rfl⟩

def nearRoot (n : Int) : Int := if n < 0 then 0 else if n - (rootN n.toNat : Int) * (rootN n.toNat : Int) > (rootN n.toNat : Int) then (rootN n.toNat : Int) + 1 else (rootN n.toNat : Int)
theorem nearRoot_bd {n : Int} (h : n ≤ 1000000000000000) : 0 ≤ nearRoot n ∧ nearRoot n ≤ 40000000 := by
  unfold nearRoot
  have ok := rootN_ok n.toNat
  have : rootN n.toNat ≤ 32000000 := root_le (n := n.toNat) ok.1 (by omega)
  split
  · omega
  · split <;> omega

theorem nearestRoot_any (n : Int) (h1 : n ≤ 1000000000000000) (h2 : -1000000000000000 ≤ n) (w : World) :
    Calls Try.prog 141 #[.int .i64 n] w fun e w' => e = .returned (.int .i64 (nearRoot n)) ∧ w = w' := by
  by_cases h : n < 0
  · have HR : Hid (nearRoot n = 0) := by unfold Hid nearRoot; rw [if_pos h]
    generalize nearRoot n = R at HR ⊢
    go_enter Try.func141, Try.ntmps141
    go_wp2_with fail
    go_ret
    exact ⟨ret_int HR.out.symm, rfl⟩
  · obtain ⟨k, rfl⟩ := Int.eq_ofNat_of_zero_le (show 0 ≤ n by omega)
    have ok := rootN_ok k
    have hle : rootN k ≤ 32000000 := root_le ok.1 (by omega)
    have HC := Lib.hid (root_any k (by omega) w)
    have hsq : (rootN k : Int) * (rootN k : Int) ≤ (k : Int) := by exact_mod_cast ok.1
    have hsq0 : 0 ≤ (rootN k : Int) * (rootN k : Int) := Int.mul_nonneg (by omega) (by omega)
    by_cases hb : (k : Int) - (rootN k : Int) * (rootN k : Int) > (rootN k : Int)
    · have HR : Hid (nearRoot k = (rootN k : Int) + 1) := by unfold Hid nearRoot; rw [if_neg (by omega), Int.toNat_natCast, if_pos hb]
      generalize nearRoot (k : Int) = R at HR ⊢
      clear ok
      generalize (rootN k) = r at *
      go_enter Try.func141, Try.ntmps141
      go_wp2_with (go_at_call 150; refine HC.out.mono ?_; rintro e w' ⟨rfl, rfl⟩)
      go_ret
      exact ⟨ret_int HR.out.symm, rfl⟩
    · have HR : Hid (nearRoot k = (rootN k : Int)) := by unfold Hid nearRoot; rw [if_neg (by omega), Int.toNat_natCast, if_neg hb]
      generalize nearRoot (k : Int) = R at HR ⊢
      clear ok
      generalize (rootN k) = r at *
      go_enter Try.func141, Try.ntmps141
      go_wp2_with (go_at_call 150; refine HC.out.mono ?_; rintro e w' ⟨rfl, rfl⟩)
      go_ret
      exact ⟨ret_int HR.out.symm, rfl⟩

theorem l03Near_any (n : Int) (h1 : n ≤ 1000000000000000) (h2 : -1000000000000000 ≤ n) (w : World) :
    Calls Try.prog 139 #[.int .i64 n] w fun e w' => e = .returned (.int .i64 (nearRoot n)) ∧ w = w' := by
  by_cases h : n < 0
  · have HR : Hid (nearRoot n = 0) := by unfold Hid nearRoot; rw [if_pos h]
    generalize nearRoot n = R at HR ⊢
    go_enter Try.func139, Try.ntmps139
    go_wp2_with fail
    go_ret
    exact ⟨ret_int HR.out.symm, rfl⟩
  · obtain ⟨k, rfl⟩ := Int.eq_ofNat_of_zero_le (show 0 ≤ n by omega)
    have ok := rootN_ok k
    have hle : rootN k ≤ 32000000 := root_le ok.1 (by omega)
    have HC := Lib.hid (l02Root_any k (by omega) w)
    have hsq : (rootN k : Int) * (rootN k : Int) ≤ (k : Int) := by exact_mod_cast ok.1
    have hsq0 : 0 ≤ (rootN k : Int) * (rootN k : Int) := Int.mul_nonneg (by omega) (by omega)
    by_cases hb : (k : Int) - (rootN k : Int) * (rootN k : Int) > (rootN k : Int)
    · have HR : Hid (nearRoot k = (rootN k : Int) + 1) := by unfold Hid nearRoot; rw [if_neg (by omega), Int.toNat_natCast, if_pos hb]
      generalize nearRoot (k : Int) = R at HR ⊢
      clear ok
      generalize (rootN k) = r at *
      go_enter Try.func139, Try.ntmps139
      go_wp2_with (go_at_call 148; refine HC.out.mono ?_; rintro e w' ⟨rfl, rfl⟩)
      go_ret
      exact ⟨ret_int HR.out.symm, rfl⟩
    · have HR : Hid (nearRoot k = (rootN k : Int)) := by unfold Hid nearRoot; rw [if_neg (by omega), Int.toNat_natCast, if_neg hb]
      generalize nearRoot (k : Int) = R at HR ⊢
      clear ok
      generalize (rootN k) = r at *
      go_enter Try.func139, Try.ntmps139
      go_wp2_with (go_at_call 148; refine HC.out.mono ?_; rintro e w' ⟨rfl, rfl⟩)
      go_ret
      exact ⟨ret_int HR.out.symm, rfl⟩

def sqN (d s : Int) : Int := d * d + d * d - nearU (2 * d * d * cosC s)
theorem sq_facts {d s : Int} (d0 : 0 ≤ d) (d1 : d ≤ 2000) (h0 : 0 ≤ s) (h1 : s ≤ 360) : 0 ≤ d * d ∧ d * d ≤ 4000000 ∧ 0 ≤ 2 * d * d ∧ 2 * d * d ≤ 8000000 ∧ -8000000000000000 ≤ 2 * d * d * cosC s ∧ 2 * d * d * cosC s ≤ 8000000000000000 ∧ -8000001 ≤ nearU (2 * d * d * cosC s) ∧ nearU (2 * d * d * cosC s) ≤ 8000001 := by
  have hd := sq_mono d0 d1
  have hd0 : 0 ≤ d * d := Int.mul_nonneg d0 d0
  have e : 2 * d * d = 2 * (d * d) := Int.mul_assoc 2 d d
  have hc := cosC_bd h0 h1
  have b1 : 2 * d * d * cosC s ≤ 2 * d * d * 1000000000 := Int.mul_le_mul_of_nonneg_left hc.2 (by omega)
  have b2 : 2 * d * d * (-1000000000) ≤ 2 * d * d * cosC s := Int.mul_le_mul_of_nonneg_left hc.1 (by omega)
  unfold nearU
  omega

theorem squareBetween_any (d s : Int) (d0 : 0 ≤ d) (d1 : d ≤ 2000) (h0 : 0 ≤ s) (h1 : s ≤ 360) (w : World) :
    Calls Try.prog 142 #[.int .i64 d, .int .i64 d, .int .i64 s] w fun e w' => e = .returned (.int .i64 (sqN d s)) ∧ w = w' := by
  obtain ⟨a0, a1, a2, a3, a4, a5, a6, a7⟩ := sq_facts d0 d1 h0 h1
  have HC := Lib.hid (cosine_any s h0 h1 w)
  have HR : Hid (sqN d s = d * d + d * d - nearU (2 * d * d * cosC s)) := rfl
  generalize sqN d s = R at HR ⊢
  generalize cosC s = cv at *
  go_enter Try.func142, Try.ntmps142
  go_wp2_with (first | (go_at_call 151; refine HC.out.mono ?_; rintro e w1 ⟨rfl, rfl⟩) | (go_at_call 133; refine (nearestU_any _ (by omega) (by omega) _).mono ?_; rintro e w' ⟨rfl, rfl⟩))
  go_ret
  exact ⟨ret_int HR.out.symm, rfl⟩

theorem l03Square_any (d s : Int) (d0 : 0 ≤ d) (d1 : d ≤ 2000) (h0 : 0 ≤ s) (h1 : s ≤ 360) (w : World) :
    Calls Try.prog 140 #[.int .i64 d, .int .i64 d, .int .i64 s] w fun e w' => e = .returned (.int .i64 (sqN d s)) ∧ Below w.heap.size w w' := by
  obtain ⟨a0, a1, a2, a3, a4, a5, a6, a7⟩ := sq_facts d0 d1 h0 h1
  have HC := Lib.hid (l03Cosine_any s h0 h1 w)
  have HR : Hid (sqN d s = d * d + d * d - nearU (2 * d * d * cosC s)) := rfl
  generalize sqN d s = R at HR ⊢
  generalize cosC s = cv at *
  go_enter Try.func140, Try.ntmps140
  go_wp2_with (first | (go_at_call 149; refine HC.out.mono ?_; rintro e w1 ⟨rfl, hb1⟩) | (go_at_call 134; refine (l01NearestU_any _ (by omega) (by omega) _).mono ?_; rintro e w' ⟨rfl, rfl⟩))
  go_ret
  exact ⟨ret_int HR.out.symm, hb1⟩

def chordN (d n : Int) : Int := nearRoot (sqN d ((720 : Int).tdiv n)) / 2
theorem turn_bd {n : Int} (h0 : 3 ≤ n) (h1 : n ≤ 40) : 18 ≤ (720 : Int).tdiv n ∧ (720 : Int).tdiv n ≤ 240 := by
  obtain ⟨k, rfl⟩ := Int.eq_ofNat_of_zero_le (show 0 ≤ n by omega)
  have hk0 : 3 ≤ k := by omega
  have hk1 : k ≤ 40 := by omega
  have key : ∀ j : Nat, j < 41 → 3 ≤ j → 18 ≤ (720 : Int).tdiv (j : Int) ∧ (720 : Int).tdiv (j : Int) ≤ 240 := by decide
  exact key k (by omega) hk0
theorem sqN_bd {d s : Int} (d0 : 0 ≤ d) (d1 : d ≤ 2000) (h0 : 0 ≤ s) (h1 : s ≤ 360) : sqN d s ≤ 1000000000000000 ∧ -1000000000000000 ≤ sqN d s := by
  have := sq_facts d0 d1 h0 h1
  unfold sqN
  omega
theorem quiet_same {P : Program} {f : FuncId} {args : Array Value} {w : World} {v : Value} (h : Calls P f args w fun e w' => e = .returned v ∧ w = w') : Calls P f args w fun e w' => e = .returned v ∧ ∃ n, w' = w.drewN n := h.mono fun _ w' ⟨a, b⟩ => ⟨a, 0, b.symm⟩

set_option maxHeartbeats 1000000 in
theorem chord_any (d b n : Int) (d0 : 0 ≤ d) (d1 : d ≤ 2000) (h0 : 3 ≤ n) (h1 : n ≤ 40) (w : World) :
    Calls Try.prog 117 #[.agg #[.int .i64 d, .int .i64 b], .int .i64 n] w fun e w' => e = .returned (.int .i64 (chordN d n)) ∧ Below w.heap.size w w' := by
  obtain ⟨t0, t1⟩ := turn_bd h0 h1
  have hsb := sqN_bd (s := (720 : Int).tdiv n) d0 d1 (by omega) (by omega)
  have hnb := nearRoot_bd hsb.1
  have HC : Hid (∀ v : World, Calls Try.prog 142 #[.int .i64 d, .int .i64 d, .int .i64 ((720 : Int).tdiv n)] v fun e w' => e = .returned (.int .i64 (sqN d ((720 : Int).tdiv n))) ∧ v = w') := fun v => squareBetween_any d _ d0 d1 (by omega) (by omega) v
  have HR2 : Hid (∀ v : World, Calls Try.prog 141 #[.int .i64 (sqN d ((720 : Int).tdiv n))] v fun e w' => e = .returned (.int .i64 (nearRoot (sqN d ((720 : Int).tdiv n)))) ∧ v = w') := fun v => nearestRoot_any _ hsb.1 hsb.2 v
  have HR : Hid (chordN d n = nearRoot (sqN d ((720 : Int).tdiv n)) / 2) := rfl
  have hn0 : (n == 0) = false := beq_eq_false_iff_ne.2 (by omega)
  generalize chordN d n = R at HR ⊢
  generalize nearRoot (sqN d ((720 : Int).tdiv n)) = nr at *
  generalize sqN d ((720 : Int).tdiv n) = sq at *
  go_enter Try.func117, Try.ntmps117
  go_wp2_with fail
  go_quiet (first
    | (go_at_call 142; exact Calls.quiet_of (quiet_same (HC.out _)))
    | (go_at_call 141; exact Calls.quiet_of (quiet_same (HR2.out _))))
  go_wp2_with fail
  go_ret
  exact ⟨ret_int HR.out.symm, below_drewN (balloc _ _) _⟩

set_option maxHeartbeats 1000000 in
theorem l15Chord_any (d n : Int) (d0 : 0 ≤ d) (d1 : d ≤ 2000) (h0 : 3 ≤ n) (h1 : n ≤ 40) (w : World) :
    Calls Try.prog 115 #[.int .i64 d, .int .i64 n] w fun e w' => e = .returned (.int .i64 (chordN d n)) ∧ Below w.heap.size w w' := by
  obtain ⟨t0, t1⟩ := turn_bd h0 h1
  have hsb := sqN_bd (s := (720 : Int).tdiv n) d0 d1 (by omega) (by omega)
  have hnb := nearRoot_bd hsb.1
  have HC := Lib.hid (l03Square_any d ((720 : Int).tdiv n) d0 d1 (by omega) (by omega) w)
  have HR2 : Hid (∀ v : World, Calls Try.prog 139 #[.int .i64 (sqN d ((720 : Int).tdiv n))] v fun e w' => e = .returned (.int .i64 (nearRoot (sqN d ((720 : Int).tdiv n)))) ∧ v = w') := fun v => l03Near_any _ hsb.1 hsb.2 v
  have HR : Hid (chordN d n = nearRoot (sqN d ((720 : Int).tdiv n)) / 2) := rfl
  have hn0 : (n == 0) = false := beq_eq_false_iff_ne.2 (by omega)
  generalize chordN d n = R at HR ⊢
  generalize nearRoot (sqN d ((720 : Int).tdiv n)) = nr at *
  generalize sqN d ((720 : Int).tdiv n) = sq at *
  go_enter Try.func115, Try.ntmps115
  go_wp2_with (first | (go_at_call 140; refine HC.out.mono ?_; rintro e w1 ⟨rfl, hb1⟩) | (go_at_call 139; refine (HR2.out _).mono ?_; rintro e w' ⟨rfl, rfl⟩))
  go_ret
  exact ⟨ret_int HR.out.symm, hb1⟩

end Go.Proofs.Ytmhaloigcpanpaa
