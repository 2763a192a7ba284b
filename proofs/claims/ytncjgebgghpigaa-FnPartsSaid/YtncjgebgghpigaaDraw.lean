/- DERIVED. The source that the draws read: what a draw gives. -/
import Derived.Test.YtncjgebgghpigaaMem
import Derived.Test.YtncjgebgghpigaaNum
namespace Go.Proofs.Ytncjgebgghpigaa
set_option maxRecDepth 100000
open Go.RowKit

def uC (x : Int) : List Value := [.int .u8 x]
/-- Block b is a source over the code xs at A. -/
def Src (w : World) (b : Nat) (A : Option Addr) (c : Nat) (xs : List Int) : Prop := ∃ (k : Nat) (sd : Int), w.cell? ⟨b, 0, none⟩ = some (.slice A xs.length c) ∧ w.cell? ⟨b, 1, none⟩ = some (.int .i64 k) ∧ w.cell? ⟨b, 2, none⟩ = some (.int .i64 sd) ∧ k ≤ xs.length ∧ 0 ≤ sd ∧ sd < 2147483647 ∧ (∀ j, w.frozen? ⟨b, j, none⟩ = false) ∧ b < w.heap.size
/-- A number drawn: it lies below n, and nothing but the source has turned. -/
def Drawn (w : World) (b : Nat) (A : Option Addr) (c : Nat) (xs : List Int) (n : Int) (e : Ending) (w' : World) : Prop := ∃ v : Int, e = .returned (.int .i64 v) ∧ 0 ≤ v ∧ (1 < n → v < n) ∧ (n ≤ 1 → v = 0) ∧ Src w' b A c xs ∧ Only b (b + 1) w w'
theorem Src.drewN {w : World} {b c : Nat} {A : Option Addr} {xs : List Int} (h : Src w b A c xs) (m : Nat) : Src (w.drewN m) b A c xs := by
  obtain ⟨k, sd, q0, q1, q2, hk, h0, h2, hf, hb⟩ := h
  exact ⟨k, sd, by simpa using q0, by simpa using q1, by simpa using q2, hk, h0, h2, fun j => by simpa using hf j, by simpa using hb⟩
theorem Only.drewN {lo hi : Nat} {w w' : World} (h : Only lo hi w w') (m : Nat) : Only lo hi w (w'.drewN m) := h.trans (Only.of_below (below_drewN (Below.refl _ _) _))
theorem src_put {w V : World} {b c k : Nat} {A : Option Addr} {xs : List Int} {sd : Int} (m : Nat) (hV : Only b (b + 1) w V) (p0 : V.cell? ⟨b, 0, none⟩ = some (.slice A xs.length c)) (p1 : V.cell? ⟨b, 1, none⟩ = some (.int .i64 k)) (p2 : V.cell? ⟨b, 2, none⟩ = some (.int .i64 sd)) (hk : k < xs.length) (h0 : 0 ≤ sd) (h2 : sd < 2147483647) (hf : ∀ j, V.frozen? ⟨b, j, none⟩ = false) (hb : b < V.heap.size) :
    Src ((V.drewN m).setCell ⟨b, 1, none⟩ (.int .i64 ((k : Int) + 1))) b A c xs ∧ Only b (b + 1) w ((V.drewN m).setCell ⟨b, 1, none⟩ (.int .i64 ((k : Int) + 1))) ∧ ((V.drewN m).setCell ⟨b, 1, none⟩ (.int .i64 ((k : Int) + 1))).cell? ⟨b, 0, none⟩ = some (.slice A xs.length c) ∧ ((V.drewN m).setCell ⟨b, 1, none⟩ (.int .i64 ((k : Int) + 1))).cell? ⟨b, 1, none⟩ = some (.int .i64 ((k : Int) + 1)) := by
  have e0 : ((V.drewN m).setCell ⟨b, 1, none⟩ (.int .i64 ((k : Int) + 1))).cell? ⟨b, 0, none⟩ = some (.slice A xs.length c) := by rw [setCell_other (by omega)]; simpa using p0
  have e1 : ((V.drewN m).setCell ⟨b, 1, none⟩ (.int .i64 ((k : Int) + 1))).cell? ⟨b, 1, none⟩ = some (.int .i64 ((k : Int) + 1)) := setCell_same (v := .int .i64 k) (by simpa using p1)
  have e2 : ((V.drewN m).setCell ⟨b, 1, none⟩ (.int .i64 ((k : Int) + 1))).cell? ⟨b, 2, none⟩ = some (.int .i64 sd) := by rw [setCell_other (by omega)]; simpa using p2
  refine ⟨⟨k + 1, sd, e0, by rw [e1]; rfl, e2, by omega, h0, h2, fun j => by rw [World.frozen?_setCell]; simpa using hf j, by simpa [World.setCell] using hb⟩, (hV.drewN m).trans (Only.setCell (p := ⟨b, 1, none⟩) ⟨Nat.le_refl b, Nat.lt_succ_self b⟩ _), e0, e1⟩

set_option maxHeartbeats 1000000 in
theorem l01Next_any (A : Option Addr) (c b : Nat) (xs : List Int) (n : Int) (w : World) (hs : Src w b A c xs) (hr : Rd w b 1 uC A xs) (hx : ∀ x ∈ xs, 0 ≤ x ∧ x < 256) (hm : xs.length ≤ 4096) (hn : n < 1000000000000) :
    Calls Try.prog 34 #[.pointer (some ⟨b, 0, none⟩), .int .i64 n] w (Drawn w b A c xs n) := by
  by_cases h1 : n ≤ 1
  · have hH := Lib.hid hs; clear hs
    go_enter Try.func34, Try.ntmps34
    go_wp2_with fail
    go_ret
    exact ⟨0, rfl, by omega, by omega, fun _ => rfl, hH.out, Only.refl _ _ _⟩
  · obtain ⟨k, sd, q0, q1, q2, hk, h0, h2, hfz, hb⟩ := hs
    have f2 := hfz 2
    have f1 := hfz 1
    have Hfz := Lib.hid hfz; clear hfz
    have hX := Lib.hid hx; clear hx
    go_enter Try.func34, Try.ntmps34
    go_wp2_with fail
    have g0 : 0 ≤ (sd * 48271 + 29) % 2147483647 := by omega
    have g1 : (sd * 48271 + 29) % 2147483647 < 2147483647 := by omega
    generalize (sd * 48271 + 29) % 2147483647 = sd' at g0 g1 ⊢
    have y0 : 0 ≤ sd' / 31 := by omega
    have y1 : sd' / 31 < 70000000 := by omega
    generalize sd' / 31 = y at y0 y1 ⊢
    have hV : Only b (b + 1) w (w.setCell ⟨b, 2, none⟩ (.int .i64 sd')) := Only.setCell (p := ⟨b, 2, none⟩) ⟨Nat.le_refl b, Nat.lt_succ_self b⟩ _
    have p0 : (w.setCell ⟨b, 2, none⟩ (.int .i64 sd')).cell? ⟨b, 0, none⟩ = some (.slice A xs.length c) := by rw [setCell_other (by omega)]; exact q0
    have p1 : (w.setCell ⟨b, 2, none⟩ (.int .i64 sd')).cell? ⟨b, 1, none⟩ = some (.int .i64 k) := by rw [setCell_other (by omega)]; exact q1
    have p2 : (w.setCell ⟨b, 2, none⟩ (.int .i64 sd')).cell? ⟨b, 2, none⟩ = some (.int .i64 sd') := setCell_same q2
    have hfV : Hid (∀ j, (w.setCell ⟨b, 2, none⟩ (.int .i64 sd')).frozen? ⟨b, j, none⟩ = false) := fun j => by rw [World.frozen?_setCell]; exact Hfz.out j
    have hbV : b < (w.setCell ⟨b, 2, none⟩ (.int .i64 sd')).heap.size := Nat.lt_of_lt_of_le hb hV.size
    have hrV : Rd (w.setCell ⟨b, 2, none⟩ (.int .i64 sd')) b 1 uC A xs := hr.below (hV.below (Nat.le_refl _) (by omega)) 
    clear q0 q1 q2 f1 f2 Hfz hr
    generalize w.setCell ⟨b, 2, none⟩ (.int .i64 sd') = V at hV p0 p1 p2 hfV hbV hrV ⊢
    by_cases hlt : k < xs.length
    · have hxk : xs[k]? = some xs[k] := List.getElem?_eq_getElem hlt
      obtain ⟨ab, ao, rfl, hab, qv⟩ := hrV.at1 hxk rfl
      obtain ⟨v0, v1⟩ := hX.out _ (List.mem_of_getElem? hxk)
      rw [Nat.mul_one] at qv
      clear hxk
      generalize xs[k] = v at v0 v1 qv
      go_quiet (fail)
      go_wp2_with fail
      go_quiet (fail)
      have f1 := hfV.out 1
      have hne : ¬ ab = b := by omega
      by_cases h256 : n ≤ 256
      · by_cases hpar : ((k : Int) + 1) % 2 = 0
        · have HP := Lib.hid (fun m => src_put (w := w) m hV p0 p1 p2 hlt g0 g1 hfV.out hbV)
          go_wp2_with fail
          generalize hmm : V.drewN _ = V2
          have hq2 : V2.cell? ⟨ab, ao + k, none⟩ = some (.int .u8 v) := by rw [← hmm]; simpa using qv
          have HP2 : ∀ m, V.drewN m = V2 → Src (V2.setCell ⟨b, 1, none⟩ (.int .i64 ((k : Int) + 1))) b (some ⟨ab, ao, none⟩) c xs ∧ Only b (b + 1) w (V2.setCell ⟨b, 1, none⟩ (.int .i64 ((k : Int) + 1))) ∧ (V2.setCell ⟨b, 1, none⟩ (.int .i64 ((k : Int) + 1))).cell? ⟨b, 0, none⟩ = some (.slice (some ⟨ab, ao, none⟩) xs.length c) ∧ (V2.setCell ⟨b, 1, none⟩ (.int .i64 ((k : Int) + 1))).cell? ⟨b, 1, none⟩ = some (.int .i64 ((k : Int) + 1)) := fun m e => by subst e; exact HP.out m
          obtain ⟨hS, hO, e0, e1⟩ := HP2 _ hmm
          clear HP2 hmm
          have e3 : (V2.setCell ⟨b, 1, none⟩ (.int .i64 ((k : Int) + 1))).cell? ⟨ab, ao + k, none⟩ = some (.int .u8 v) := by rw [setCell_other (by omega)]; exact hq2
          generalize V2.setCell ⟨b, 1, none⟩ (.int .i64 ((k : Int) + 1)) = U at hS hO e0 e1 e3 ⊢
          have HS := Lib.hid hS; clear hS p0 p1 p2 qv hq2 HP f1
          have hk1 : (k : Int) + 1 - 1 = k := by omega
          go_quiet (fail)
          go_wp2_with fail
          go_ret
          exact ⟨v % n, rfl, Int.emod_nonneg _ (by omega), fun _ => Int.emod_lt_of_pos _ (by omega), fun h => absurd h (by omega), HS.out.drewN _, hO.drewN _⟩
        · have HP := Lib.hid (fun m => src_put (w := w) m hV p0 p1 p2 hlt g0 g1 hfV.out hbV)
          go_wp2_with fail
          go_ret
          exact ⟨(y + v) % n, rfl, Int.emod_nonneg _ (by omega), fun _ => Int.emod_lt_of_pos _ (by omega), fun h => absurd h (by omega), (HP.out _).1, (HP.out _).2.1⟩
      · have HP := Lib.hid (fun m => src_put (w := w) m hV p0 p1 p2 hlt g0 g1 hfV.out hbV)
        go_wp2_with fail
        go_ret
        exact ⟨(y + v) % n, rfl, Int.emod_nonneg _ (by omega), fun _ => Int.emod_lt_of_pos _ (by omega), fun h => absurd h (by omega), (HP.out _).1, (HP.out _).2.1⟩
    · obtain rfl : k = xs.length := by omega
      go_quiet (fail)
      go_wp2_with fail
      go_ret
      exact ⟨y % n, rfl, Int.emod_nonneg _ (by omega), fun _ => Int.emod_lt_of_pos _ (by omega), fun h => absurd h (by omega), Src.drewN ⟨xs.length, sd', p0, p1, p2, Nat.le_refl _, g0, g1, hfV.out, hbV⟩ _, hV.drewN _⟩

/-- One of the numbers has been picked. -/
def Picked (w : World) (b : Nat) (A : Option Addr) (c : Nat) (xs ys : List Int) (e : Ending) (w' : World) : Prop := ∃ v ∈ ys, e = .returned (.int .i64 v) ∧ Src w' b A c xs ∧ Only b (b + 1) w w'
theorem l01Pick_any (A : Option Addr) (c b g c2 : Nat) (xs ys : List Int) (w : World) (hs : Src w b A c xs) (hr : Rd w b 1 uC A xs) (hx : ∀ x ∈ xs, 0 ≤ x ∧ x < 256) (hm : xs.length ≤ 4096) (hg : g ≠ b) (hgw : g < w.heap.size) (hc : ∀ k y, ys[k]? = some y → w.cell? ⟨g, k, none⟩ = some (.int .i64 y)) (h0 : 0 < ys.length) (h1 : ys.length ≤ 1000) :
    Calls Try.prog 48 #[.pointer (some ⟨b, 0, none⟩), .slice (some ⟨g, 0, none⟩) ys.length c2] w (Picked w b A c xs ys) := by
  have HN := Lib.hid (l01Next_any A c b xs (ys.length : Int) w hs hr hx hm (by omega))
  have HC := Lib.hid hc
  clear hs hr hx hm hc
  go_enter Try.func48, Try.ntmps48
  go_wp2_with fail
  refine HN.out.mono ?_
  rintro e w1 ⟨v, rfl, v0, v1, v2, hS, hO⟩
  obtain ⟨k, rfl⟩ := Int.eq_ofNat_of_zero_le v0
  have hk : k < ys.length := by omega
  have hy : ys[k]? = some ys[k] := List.getElem?_eq_getElem hk
  have q : w1.cell? ⟨g, k, none⟩ = some (.int .i64 ys[k]) := (World.cell?_of_block (a := ⟨g, k, none⟩) (hO.block g hgw (fun h => hg (by omega)))).trans (HC.out k _ hy)
  have hmem := List.mem_of_getElem? hy
  clear hy v1 v2
  generalize ys[k] = y at q hmem
  have HS := Lib.hid hS; clear hS
  go_wp2_with fail
  go_ret
  exact ⟨y, hmem, rfl, HS.out, hO⟩
end Go.Proofs.Ytncjgebgghpigaa
