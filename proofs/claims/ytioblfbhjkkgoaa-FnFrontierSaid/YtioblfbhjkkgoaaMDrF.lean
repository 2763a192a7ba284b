/- DERIVED. What is drawn for the law: Draw, Draw2, Draw3, Draw4, Grow, Draw5, Draw6, Draw7, Inner, Copy, Drop, Draw8, Draw9, Draw12, Draw13. -/
import Derived.Test.YtioblfbhjkkgoaaMem
import Derived.Test.YtioblfbhjkkgoaaNum
import Derived.Test.YtioblfbhjkkgoaaOwn
import Derived.Test.YtioblfbhjkkgoaaOwn3
import Derived.Test.YtioblfbhjkkgoaaPartV
import Derived.Test.YtioblfbhjkkgoaaOwn2
import Derived.Test.YtioblfbhjkkgoaaKitPart
import Derived.Test.YtioblfbhjkkgoaaFind
import Derived.Test.YtioblfbhjkkgoaaIdx
import Derived.Test.YtioblfbhjkkgoaaFlJoint
import Derived.StillTailTactics
import Derived.Deep.RegionHeld3
import Derived.Deep.RegionLaw

namespace Go.Proofs.Ytioblfbhjkkgoaa
set_option maxRecDepth 100000
open Go.RowKit

def uC (x : Int) : List Value := [.int .u8 x]
/-- Block b is a source over the code xs at A. -/
def Src (w : World) (b : Nat) (A : Option Addr) (c : Nat) (xs : List Int) : Prop := ∃ (k : Nat) (sd : Int), w.cell? ⟨b, 0, none⟩ = some (.slice A xs.length c) ∧ w.cell? ⟨b, 1, none⟩ = some (.int .i64 k) ∧ w.cell? ⟨b, 2, none⟩ = some (.int .i64 sd) ∧ k ≤ xs.length ∧ 0 ≤ sd ∧ sd < 2147483647 ∧ (∀ j, w.frozen? ⟨b, j, none⟩ = false) ∧ b < w.heap.size
/-- A number drawn: it lies below n, and nothing but the source has turned. -/
def Drawn (w : World) (b : Nat) (A : Option Addr) (c : Nat) (xs : List Int) (n : Int) (e : Ending) (w' : World) : Prop := ∃ v : Int, e = .returned (.int .i64 v) ∧ 0 ≤ v ∧ (1 < n → v < n) ∧ (n ≤ 1 → v = 0) ∧ Src w' b A c xs ∧ Only b (b + 1) w w'
theorem Src.drewN {w : World} {b c : Nat} {A : Option Addr} {xs : List Int} (h : Src w b A c xs) (m : Nat) : Src (w.drewN m) b A c xs := by
  obtain ⟨k, sd, q0, q1, q2, hk, h0, h2, hf, hb⟩ := h
  exact ⟨k, sd, by simpa using q0, by simpa using q1, by simpa using q2, hk, h0, h2, fun j => by simpa using hf j, by simpa using hb⟩
theorem Only.drewN {lo hi : Nat} {w w' : World} (h : Only lo hi w w') (m : Nat) : Only lo hi w (w'.drewN m) := h.trans (Only.of_below (below_drewN (Below.refl _ _) _))
theorem src_put {w V : World} {b c k : Nat} {A : Option Addr} {xs : List Int} {sd : Int} (m : Nat) (hV : Only b (b + 1) w V) (p0 : V.cell? ⟨b, 0, none⟩ = some (.slice A xs.length c)) (p1 : V.cell? ⟨b, 1, none⟩ = some (.int .i64 k)) (p2 : V.cell? ⟨b, 2, none⟩ = some (.int .i64 sd)) (hk : k < xs.length) (h0 : 0 ≤ sd) (h2 : sd < 2147483647) (hf : ∀ j, V.frozen? ⟨b, j, none⟩ = false) (hb : b < V.heap.size) :
    Src ((V.drewN m).setCell ⟨b, 1, none⟩ (.int .i64 ((k : Int) + 1))) b A c xs ∧ Only b (b + 1) w ((V.drewN m).setCell ⟨b, 1, none⟩ (.int .i64 ((k : Int) + 1))) ∧ ((V.drewN m).setCell ⟨b, 1, none⟩ (.int .i64 ((k : Int) + 1))).cell? ⟨b, 0, none⟩ = some (.slice A xs.length c) ∧ ((V.drewN m).setCell ⟨b, 1, none⟩ (.int .i64 ((k : Int) + 1))).cell? ⟨b, 1, none⟩ = some (.int .i64 ((k : Int) + 1)) := by
  have e0 : ((V.drewN m).setCell ⟨b, 1, none⟩ (.int .i64 ((k : Int) + 1))).cell? ⟨b, 0, none⟩ = some (.slice A xs.length c) := by rw [setCell_other (by omega)]; simpa using p0
  have e1 : ((V.drewN m).setCell ⟨b, 1, none⟩ (.int .i64 ((k : Int) + 1))).cell? ⟨b, 1, none⟩ = some (.int .i64 ((k : Int) + 1)) := setCell_same (v := .int .i64 k) (by simpa using p1)
  have e2 : ((V.drewN m).setCell ⟨b, 1, none⟩ (.int .i64 ((k : Int) + 1))).cell? ⟨b, 2, none⟩ = some (.int .i64 sd) := by rw [setCell_other (by omega)]; simpa using p2
  refine ⟨⟨k + 1, sd, e0, by rw [e1]; rfl, e2, by omega, h0, h2, fun j => by rw [World.frozen?_setCell]; simpa using hf j, by simpa [World.setCell] using hb⟩, (hV.drewN m).trans (Only.setCell (p := ⟨b, 1, none⟩) ⟨Nat.le_refl b, Nat.lt_succ_self b⟩ _), e0, e1⟩

set_option maxHeartbeats 1000000 in
theorem l01Next_any (A : Option Addr) (c b : Nat) (xs : List Int) (n : Int) (w : World) (hs : Src w b A c xs) (hr : Rd w b 1 uC A xs) (hx : ∀ x ∈ xs, 0 ≤ x ∧ x < 256) (hm : xs.length ≤ 4096) (hn : n < 1000000000000) :
    Calls Try.prog 72 #[.pointer (some ⟨b, 0, none⟩), .int .i64 n] w (Drawn w b A c xs n) := by
  by_cases h1 : n ≤ 1
  · have hH := Lib.hid hs; clear hs
    go_enter Try.func72, Try.ntmps72
    go_wp2_with fail
    go_ret
    exact ⟨0, rfl, by omega, by omega, fun _ => rfl, hH.out, Only.refl _ _ _⟩
  · obtain ⟨k, sd, q0, q1, q2, hk, h0, h2, hfz, hb⟩ := hs
    have f2 := hfz 2
    have f1 := hfz 1
    have Hfz := Lib.hid hfz; clear hfz
    have hX := Lib.hid hx; clear hx
    go_enter Try.func72, Try.ntmps72
    go_wp2_with fail
    have g0 : 0 ≤ (sd * 48271 + 29) % 2147483647 := by omega
    have g1 : (sd * 48271 + 29) % 2147483647 < 2147483647 := by omega
    generalize (sd * 48271 + 29) % 2147483647 = sd' at g0 g1 ⊢
    have y0 : 0 ≤ sd' / 31 := by omega
    have y1 : sd' / 31 < 70000000 := by omega
    generalize sd' / 31 = y at y0 y1 ⊢
    have hV : Only b (b + 1) w (w.setCell ⟨b, 2, none⟩ (.int .i64 sd')) := Only.setCell (p := ⟨b, 2, none⟩) ⟨Nat.le_refl b, Nat.lt_succ_self b⟩ _
    have p0 : (w.setCell ⟨b, 2, none⟩ (.int .i64 sd')).cell? ⟨b, 0, none⟩ = some (.slice A xs.length c) := by rw [setCell_other (by omega)]; exact q0
    have p1 : (w.setCell ⟨b, 2, none⟩ (.int .i64 sd')).cell? ⟨b, 1, none⟩ = some (.int .i64 k) := by rw [setCell_other (by omega)]; exact q1
    have p2 : (w.setCell ⟨b, 2, none⟩ (.int .i64 sd')).cell? ⟨b, 2, none⟩ = some (.int .i64 sd') := setCell_same q2
    have hfV : Hid (∀ j, (w.setCell ⟨b, 2, none⟩ (.int .i64 sd')).frozen? ⟨b, j, none⟩ = false) := fun j => by rw [World.frozen?_setCell]; exact Hfz.out j
    have hbV : b < (w.setCell ⟨b, 2, none⟩ (.int .i64 sd')).heap.size := Nat.lt_of_lt_of_le hb hV.size
    have hrV : Rd (w.setCell ⟨b, 2, none⟩ (.int .i64 sd')) b 1 uC A xs := hr.below (hV.below (Nat.le_refl _) (by omega)) 
    clear q0 q1 q2 f1 f2 Hfz hr
    generalize w.setCell ⟨b, 2, none⟩ (.int .i64 sd') = V at hV p0 p1 p2 hfV hbV hrV ⊢
    by_cases hlt : k < xs.length
    · have hxk : xs[k]? = some xs[k] := List.getElem?_eq_getElem hlt
      obtain ⟨ab, ao, rfl, hab, qv⟩ := hrV.at1 hxk rfl
      obtain ⟨v0, v1⟩ := hX.out _ (List.mem_of_getElem? hxk)
      rw [Nat.mul_one] at qv
      clear hxk
      generalize xs[k] = v at v0 v1 qv
      go_quiet (fail)
      go_wp2_with fail
      go_quiet (fail)
      have f1 := hfV.out 1
      have hne : ¬ ab = b := by omega
      by_cases h256 : n ≤ 256
      · by_cases hpar : ((k : Int) + 1) % 2 = 0
        · have HP := Lib.hid (fun m => src_put (w := w) m hV p0 p1 p2 hlt g0 g1 hfV.out hbV)
          go_wp2_with fail
          generalize hmm : V.drewN _ = V2
          have hq2 : V2.cell? ⟨ab, ao + k, none⟩ = some (.int .u8 v) := by rw [← hmm]; simpa using qv
          have HP2 : ∀ m, V.drewN m = V2 → Src (V2.setCell ⟨b, 1, none⟩ (.int .i64 ((k : Int) + 1))) b (some ⟨ab, ao, none⟩) c xs ∧ Only b (b + 1) w (V2.setCell ⟨b, 1, none⟩ (.int .i64 ((k : Int) + 1))) ∧ (V2.setCell ⟨b, 1, none⟩ (.int .i64 ((k : Int) + 1))).cell? ⟨b, 0, none⟩ = some (.slice (some ⟨ab, ao, none⟩) xs.length c) ∧ (V2.setCell ⟨b, 1, none⟩ (.int .i64 ((k : Int) + 1))).cell? ⟨b, 1, none⟩ = some (.int .i64 ((k : Int) + 1)) := fun m e => by subst e; exact HP.out m
          obtain ⟨hS, hO, e0, e1⟩ := HP2 _ hmm
          clear HP2 hmm
          have e3 : (V2.setCell ⟨b, 1, none⟩ (.int .i64 ((k : Int) + 1))).cell? ⟨ab, ao + k, none⟩ = some (.int .u8 v) := by rw [setCell_other (by omega)]; exact hq2
          generalize V2.setCell ⟨b, 1, none⟩ (.int .i64 ((k : Int) + 1)) = U at hS hO e0 e1 e3 ⊢
          have HS := Lib.hid hS; clear hS p0 p1 p2 qv hq2 HP f1
          have hk1 : (k : Int) + 1 - 1 = k := by omega
          go_quiet (fail)
          go_wp2_with fail
          go_ret
          exact ⟨v % n, rfl, Int.emod_nonneg _ (by omega), fun _ => Int.emod_lt_of_pos _ (by omega), fun h => absurd h (by omega), HS.out.drewN _, hO.drewN _⟩
        · have HP := Lib.hid (fun m => src_put (w := w) m hV p0 p1 p2 hlt g0 g1 hfV.out hbV)
          go_wp2_with fail
          go_ret
          exact ⟨(y + v) % n, rfl, Int.emod_nonneg _ (by omega), fun _ => Int.emod_lt_of_pos _ (by omega), fun h => absurd h (by omega), (HP.out _).1, (HP.out _).2.1⟩
      · have HP := Lib.hid (fun m => src_put (w := w) m hV p0 p1 p2 hlt g0 g1 hfV.out hbV)
        go_wp2_with fail
        go_ret
        exact ⟨(y + v) % n, rfl, Int.emod_nonneg _ (by omega), fun _ => Int.emod_lt_of_pos _ (by omega), fun h => absurd h (by omega), (HP.out _).1, (HP.out _).2.1⟩
    · obtain rfl : k = xs.length := by omega
      go_quiet (fail)
      go_wp2_with fail
      go_ret
      exact ⟨y % n, rfl, Int.emod_nonneg _ (by omega), fun _ => Int.emod_lt_of_pos _ (by omega), fun h => absurd h (by omega), Src.drewN ⟨xs.length, sd', p0, p1, p2, Nat.le_refl _, g0, g1, hfV.out, hbV⟩ _, hV.drewN _⟩

/-- One of the numbers has been picked. -/
def Picked (w : World) (b : Nat) (A : Option Addr) (c : Nat) (xs ys : List Int) (e : Ending) (w' : World) : Prop := ∃ v ∈ ys, e = .returned (.int .i64 v) ∧ Src w' b A c xs ∧ Only b (b + 1) w w'
theorem l01Pick_any (A : Option Addr) (c b g c2 : Nat) (xs ys : List Int) (w : World) (hs : Src w b A c xs) (hr : Rd w b 1 uC A xs) (hx : ∀ x ∈ xs, 0 ≤ x ∧ x < 256) (hm : xs.length ≤ 4096) (hg : g ≠ b) (hgw : g < w.heap.size) (hc : ∀ k y, ys[k]? = some y → w.cell? ⟨g, k, none⟩ = some (.int .i64 y)) (h0 : 0 < ys.length) (h1 : ys.length ≤ 1000) :
    Calls Try.prog 80 #[.pointer (some ⟨b, 0, none⟩), .slice (some ⟨g, 0, none⟩) ys.length c2] w (Picked w b A c xs ys) := by
  have HN := Lib.hid (l01Next_any A c b xs (ys.length : Int) w hs hr hx hm (by omega))
  have HC := Lib.hid hc
  clear hs hr hx hm hc
  go_enter Try.func80, Try.ntmps80
  go_wp2_with fail
  refine HN.out.mono ?_
  rintro e w1 ⟨v, rfl, v0, v1, v2, hS, hO⟩
  obtain ⟨k, rfl⟩ := Int.eq_ofNat_of_zero_le v0
  have hk : k < ys.length := by omega
  have hy : ys[k]? = some ys[k] := List.getElem?_eq_getElem hk
  have q : w1.cell? ⟨g, k, none⟩ = some (.int .i64 ys[k]) := (World.cell?_of_block (a := ⟨g, k, none⟩) (hO.block g hgw (fun h => hg (by omega)))).trans (HC.out k _ hy)
  have hmem := List.mem_of_getElem? hy
  clear hy v1 v2
  generalize ys[k] = y at q hmem
  have HS := Lib.hid hS; clear hS
  go_wp2_with fail
  go_ret
  exact ⟨y, hmem, rfl, HS.out, hO⟩

end Go.Proofs.Ytioblfbhjkkgoaa

namespace Go.Proofs.Ytioblfbhjkkgoaa
set_option maxRecDepth 100000
open Go.RowKit

/-- A source over the code, in a block of the call's own. -/
def MadeSrc (w : World) (A : Option Addr) (c : Nat) (xs : List Int) (e : Ending) (w' : World) : Prop := ∃ b, e = .returned (.pointer (some ⟨b, 0, none⟩)) ∧ Src w' b A c xs ∧ w.heap.size ≤ b ∧ Below w.heap.size w w'
theorem src_seed {w : World} {b c k : Nat} {A : Option Addr} {xs : List Int} {sd sd' : Int} (p0 : w.cell? ⟨b, 0, none⟩ = some (.slice A xs.length c)) (p1 : w.cell? ⟨b, 1, none⟩ = some (.int .i64 k)) (p2 : w.cell? ⟨b, 2, none⟩ = some (.int .i64 sd)) (hk : k ≤ xs.length) (h0 : 0 ≤ sd') (h2 : sd' < 2147483647) (hf : ∀ j, w.frozen? ⟨b, j, none⟩ = false) (hb : b < w.heap.size) : Src (w.setCell ⟨b, 2, none⟩ (.int .i64 sd')) b A c xs := by
  refine ⟨k, sd', by rw [setCell_other (by omega)]; exact p0, by rw [setCell_other (by omega)]; exact p1, setCell_same p2, hk, h0, h2, fun j => by rw [World.frozen?_setCell]; exact hf j, by simpa [World.setCell] using hb⟩
theorem Src.drew {w : World} {b c : Nat} {A : Option Addr} {xs : List Int} (h : Src w b A c xs) : Src w.drew b A c xs := by
  obtain ⟨k, sd, q0, q1, q2, hk, h0, h2, hf, hb⟩ := h
  exact ⟨k, sd, by simpa using q0, by simpa using q1, by simpa using q2, hk, h0, h2, fun j => by simpa using hf j, by simpa using hb⟩

set_option maxHeartbeats 1000000 in
theorem l01From_any (A : Option Addr) (c : Nat) (xs : List Int) (w : World) (hr : Rd w w.heap.size 1 uC A xs) (hx : ∀ x ∈ xs, 0 ≤ x ∧ x < 256) (hm : xs.length ≤ 4096) :
    Calls Try.prog 41 #[.slice A xs.length c] w (MadeSrc w A c xs) := by
  have hX := Lib.hid hx; clear hx
  go_enter Try.func41, Try.ntmps41
  go_wp2_with fail
  have hS0 : Src (w.alloc (.cells #[.slice A xs.length c, .int .i64 0, .int .i64 61043] 100)) w.heap.size A c xs := ⟨0, 61043, by go_simp, by go_simp, by go_simp, Nat.zero_le _, by omega, by omega, fun j => by go_simp, by simp⟩
  have HS0 := Lib.hid hS0; clear hS0
  go_loopw [4] (fun i wr => ∃ k : Nat, k ≤ xs.length ∧ i = .int .i64 k ∧ Src wr w.heap.size A c xs ∧ Below w.heap.size w wr) (fun i _ => xs.length - (intOf i).toNat)
  case atStart => exact ⟨0, Nat.zero_le _, rfl, HS0.out, balloc _ _⟩
  case round =>
    obtain ⟨k, hk, rfl, hS, hb⟩ := hrel
    obtain ⟨k1, sd, p0, p1, p2, hk1, h0, h2, hfz, hbw⟩ := hS
    have HT := Lib.hid hk1; clear hk1
    have f2 := hfz 2
    have Hfz := Lib.hid hfz; clear hfz
    by_cases hlt : k < xs.length
    · by_cases h64 : k < 64
      · have hxk : xs[k]? = some xs[k] := List.getElem?_eq_getElem hlt
        obtain ⟨ab, ao, rfl, hab, qv⟩ := (hr.below hb).at1 hxk rfl
        obtain ⟨v0, v1⟩ := hX.out _ (List.mem_of_getElem? hxk)
        rw [Nat.mul_one] at qv
        clear hxk
        generalize xs[k] = v at v0 v1 qv
        go_wp2_with fail
        go_still_tail 15, (by kernel_rfl)
        change wpList _ _ _ _ _ wr.drew
        have g0 : 0 ≤ (sd * 83 + v) % 2147483647 := by omega
        have g1 : (sd * 83 + v) % 2147483647 < 2147483647 := by omega
        have HS := Lib.hid (src_seed (w := wr) (sd := sd) p0 p1 p2 HT.out g0 g1 Hfz.out hbw)
        go_wp2_with fail
        exact ⟨⟨k + 1, by omega, by go_num, HS.out.drew, (hb.setCell (p := ⟨w.heap.size, 2, none⟩) (Nat.le_refl _) _).drew⟩, by simp [intOf]; omega⟩
      · go_wp2_with fail
        go_ret
        exact ⟨w.heap.size, rfl, ⟨k1, sd, p0, p1, p2, HT.out, h0, h2, Hfz.out, hbw⟩, Nat.le_refl _, hb⟩
    · go_wp2_with fail
      go_ret
      exact ⟨w.heap.size, rfl, ⟨k1, sd, p0, p1, p2, HT.out, h0, h2, Hfz.out, hbw⟩, Nat.le_refl _, hb⟩

/-- A source in hand: its block, its code and what is known of the code. -/
structure Feed (w : World) (b : Nat) (A : Option Addr) (c : Nat) (xs : List Int) : Prop where
  src : Src w b A c xs
  rd : Rd w b 1 uC A xs
  byte : ∀ x ∈ xs, 0 ≤ x ∧ x < 256
  small : xs.length ≤ 4096
section
variable {w w' : World} {b c : Nat} {A : Option Addr} {xs : List Int}
theorem Src.lt (h : Src w b A c xs) : b < w.heap.size := by
  obtain ⟨k, sd, q0, q1, q2, hk, h0, h2, hf, hb⟩ := h
  exact hb
theorem Src.next (h : Src w b A c xs) (hb : Below w.heap.size w w') : Src w' b A c xs := by
  obtain ⟨k, sd, q0, q1, q2, hk, h0, h2, hf, hl⟩ := h
  have e := hb.block b hl
  refine ⟨k, sd, (World.cell?_of_block (a := ⟨b, 0, none⟩) e).trans q0, (World.cell?_of_block (a := ⟨b, 1, none⟩) e).trans q1, (World.cell?_of_block (a := ⟨b, 2, none⟩) e).trans q2, hk, h0, h2, fun j => ?_, Nat.lt_of_lt_of_le hl hb.size⟩
  have := hf j
  unfold World.frozen? at this ⊢
  simp only [e] at this ⊢
  exact this
theorem Feed.next (h : Feed w b A c xs) (hb : Below w.heap.size w w') : Feed w' b A c xs :=
  ⟨h.src.next hb, h.rd.below ((Only.of_below (lo := b) (hi := b) hb).below (Nat.le_refl _) (Nat.le_of_lt h.src.lt)), h.byte, h.small⟩
theorem Feed.turn (h : Feed w b A c xs) (hS : Src w' b A c xs) (hO : Only b (b + 1) w w') : Feed w' b A c xs :=
  ⟨hS, h.rd.below (hO.below (Nat.le_refl _) (Nat.le_of_lt h.src.lt)), h.byte, h.small⟩
end
theorem table_at (w : World) (E : TypeId) (l : List ByteArray) (cur : Array Value) (hc : cur = (l.map Value.string).toArray) {k : Nat} (hk : k < l.length) : (w.alloc (.cells cur E)).cell? ⟨w.heap.size, k, none⟩ = some (.string l[k]) := by
  subst hc
  rw [cell_of_row _ _ _ _ E (0, 0) (heap_alloc_new w _)]
  simp [hk]

end Go.Proofs.Ytioblfbhjkkgoaa

namespace Go.Proofs.Ytioblfbhjkkgoaa
set_option maxRecDepth 100000
open Go.RowKit

/-- A place in a table of texts has been drawn. -/
def Hit (w : World) (b : Nat) (A : Option Addr) (c : Nat) (xs : List Int) (n : Nat) (e : Ending) (w' : World) : Prop := ∃ (k : Nat) (t : ByteArray), e = .returned (.int .i64 (k : Int)) ∧ k < n ∧ t.size ≤ 64 ∧ w'.cell? ⟨w.heap.size, k, none⟩ = some (.string t) ∧ Feed w' b A c xs ∧ Only b (b + 1) w w'
theorem table_next (A : Option Addr) (c b : Nat) (xs : List Int) (w : World) (E : TypeId) (l : List ByteArray) (hl : ∀ t ∈ l, t.size ≤ 64) (h1 : 1 < l.length) (h2 : l.length < 1000) (hF : Feed w b A c xs) :
    Calls Try.prog 72 #[.pointer (some ⟨b, 0, none⟩), .int .i64 (l.length : Int)] (w.alloc (.cells (l.map Value.string).toArray E)) (Hit w b A c xs l.length) := by
  have hlb := hF.src.lt
  have hV := hF.next (balloc w (.cells (l.map Value.string).toArray E))
  have hgV : w.heap.size < (w.alloc (.cells (l.map Value.string).toArray E)).heap.size := by simp
  have hOV : Only b (b + 1) w (w.alloc (.cells (l.map Value.string).toArray E)) := Only.alloc _
  have hT := fun (k : Nat) (hk : k < l.length) => table_at w E l _ rfl hk
  generalize w.alloc (.cells (l.map Value.string).toArray E) = V at hV hgV hOV hT ⊢
  refine (l01Next_any A c b xs (l.length : Int) V hV.src hV.rd hV.byte hV.small (by omega)).mono ?_
  rintro e w1 ⟨v, rfl, v0, v1, v2, hS, hO⟩
  obtain ⟨k, rfl⟩ := Int.eq_ofNat_of_zero_le v0
  have hk : k < l.length := by omega
  exact ⟨k, l[k], rfl, hk, hl _ (List.getElem_mem _), (World.cell?_of_block (a := ⟨w.heap.size, k, none⟩) (hO.block w.heap.size hgV (fun h => by omega))).trans (hT k hk), hV.turn hS hO, hOV.trans hO⟩
def words : List ByteArray := [⟨#[]⟩, ⟨#[65, 100, 97]⟩, ⟨#[97, 49]⟩, ⟨#[97, 98, 99, 100, 101, 102, 103, 104, 105, 106, 107, 108, 109, 110, 111, 112]⟩, ⟨#[97, 98, 99, 100, 101, 102, 103, 104, 105, 106, 107, 108, 109, 110, 111, 112, 113]⟩, ⟨#[97, 32, 98]⟩]

end Go.Proofs.Ytioblfbhjkkgoaa

namespace Go.Proofs.Ytioblfbhjkkgoaa
set_option maxRecDepth 100000
open Go.RowKit

theorem Feed.under {w w' : World} {b c B : Nat} {A : Option Addr} {xs : List Int} (h : Feed w b A c xs) (hb : Below B w w') (hB : b < B) : Feed w' b A c xs := by
  refine ⟨?_, h.rd.below ⟨hb.os, hb.tape, hb.output, hb.size, fun k hk => hb.block k (by omega)⟩, h.byte, h.small⟩
  obtain ⟨k, sd, q0, q1, q2, hk, h0, h2, hf, hl⟩ := h.src
  have e := hb.block b hB
  refine ⟨k, sd, (World.cell?_of_block (a := ⟨b, 0, none⟩) e).trans q0, (World.cell?_of_block (a := ⟨b, 1, none⟩) e).trans q1, (World.cell?_of_block (a := ⟨b, 2, none⟩) e).trans q2, hk, h0, h2, fun j => ?_, Nat.lt_of_lt_of_le hl hb.size⟩
  have := hf j
  unfold World.frozen? at this ⊢
  simp only [e] at this ⊢
  exact this
theorem Feed.setFar {w : World} {b c : Nat} {A : Option Addr} {xs : List Int} (h : Feed w b A c xs) {p : Addr} (hp : b < p.block) (u : Value) : Feed (w.setCell p u) b A c xs :=
  h.under (B := p.block) ⟨rfl, rfl, rfl, by simp [World.setCell], fun k hk => Below.heap_setCell _ _ _ _ (by omega)⟩ hp
theorem Only.setNew {lo hi : Nat} {w w' : World} (h : Only lo hi w w') {p : Addr} (hp : w.heap.size ≤ p.block) (u : Value) : Only lo hi w (w'.setCell p u) :=
  ⟨h.os, h.tape, h.output, by have := h.size; simpa [World.setCell] using this, fun k hk hn => (Below.heap_setCell _ _ _ _ (by omega)).trans (h.block k hk hn)⟩
/-- A number of a list has been picked. -/
def PickHit (w : World) (b : Nat) (A : Option Addr) (c : Nat) (xs ys : List Int) (e : Ending) (w' : World) : Prop := ∃ v ∈ ys, e = .returned (.int .i64 v) ∧ Feed w' b A c xs ∧ Only b (b + 1) w w'
theorem pick_next (A : Option Addr) (c b : Nat) (xs : List Int) (w : World) (E : TypeId) (ys : List Int) (h0 : 0 < ys.length) (h1 : ys.length ≤ 1000) (hF : Feed w b A c xs) :
    Calls Try.prog 80 #[.pointer (some ⟨b, 0, none⟩), .slice (some ⟨w.heap.size, 0, none⟩) ys.length ys.length] (w.alloc (.cells (ys.map (Value.int .i64)).toArray E)) (PickHit w b A c xs ys) := by
  have hlb := hF.src.lt
  have hV := hF.next (balloc w (.cells (ys.map (Value.int .i64)).toArray E))
  have hOV : Only b (b + 1) w (w.alloc (.cells (ys.map (Value.int .i64)).toArray E)) := Only.alloc _
  refine (l01Pick_any A c b w.heap.size ys.length xs ys _ hV.src hV.rd hV.byte hV.small (by omega) (by simp) (fun k y hy => ?_) h0 h1).mono ?_
  · rw [cell_of_row _ _ _ _ E (0, 0) (heap_alloc_new w _)]
    simp [hy]
  · rintro e w1 ⟨v, hv, rfl, hS, hO⟩
    exact ⟨v, hv, rfl, hV.turn hS hO, hOV.trans hO⟩
/-- A port drawn. -/
def DrawnPort (w : World) (b : Nat) (A : Option Addr) (c : Nat) (xs : List Int) (e : Ending) (w' : World) : Prop := ∃ (k s : Int) (p : Bool), e = .returned (.agg #[.int .i64 k, .int .i64 s, .bool p]) ∧ 0 ≤ k ∧ k ≤ 20 ∧ 0 ≤ s ∧ s ≤ 10001 ∧ Feed w' b A c xs ∧ Only b (b + 1) w w'

end Go.Proofs.Ytioblfbhjkkgoaa

namespace Go.Proofs.Ytioblfbhjkkgoaa
set_option maxRecDepth 100000
open Go.RowKit

theorem Own.setAt {α : Type} {w : World} {base sz c lo hi : Nat} {E : TypeId} {f : α → List Value} {A : Option Addr} {xs : List α} {w' : World} (h : Own w base E sz f A c xs) (ho : Only lo hi w w') (hh : hi ≤ base) : Own w' base E sz f A c xs := h.only ho hh
/-- A list that grows, a source in hand; below the base nothing but the source turns. -/
structure GrowSt {α : Type} (V w : World) (b : Nat) (A : Option Addr) (c : Nat) (xs : List Int) (E : TypeId) (sz : Nat) (f : α → List Value) (LA : Option Addr) (lc : Nat) (ms : List α) : Prop where
  feed : Feed w b A c xs
  own : Own w V.heap.size E sz f LA lc ms
  old : Only b (b + 1) V w
  lt : b < V.heap.size
section
variable {α : Type} {V w w' : World} {b c lc sz : Nat} {A LA : Option Addr} {xs : List Int} {E : TypeId} {f : α → List Value} {ms : List α}
theorem GrowSt.made (hF : Feed w b A c xs) : GrowSt w (w.alloc (.cells #[] E)) b A c xs E sz f (some ⟨w.heap.size, 0, none⟩) 0 ([] : List α) :=
  ⟨hF.next (balloc _ _), Own.made _ (Nat.le_refl _) rfl, Only.alloc _, hF.src.lt⟩
theorem GrowSt.turn (h : GrowSt V w b A c xs E sz f LA lc ms) (hF : Feed w' b A c xs) (hO : Only b (b + 1) w w') : GrowSt V w' b A c xs E sz f LA lc ms := by
  have := h.lt
  exact ⟨hF, h.own.only hO (by omega), h.old.trans hO, h.lt⟩
theorem GrowSt.next (h : GrowSt V w b A c xs E sz f LA lc ms) (hb : Below w.heap.size w w') : GrowSt V w' b A c xs E sz f LA lc ms := h.turn (h.feed.next hb) (Only.of_below hb)
/-- One more. -/
theorem GrowSt.grow {w4 : World} {m : α} {A2 : Option Addr} {c2 : Nat} {o : Obj} (h : GrowSt V w b A c xs E sz f LA lc ms) (hown : Own w4 V.heap.size E sz f A2 c2 (ms ++ [m])) (hb4 : Below V.heap.size (w.alloc o) w4) : GrowSt V w4 b A c xs E sz f A2 c2 (ms ++ [m]) := by
  have hlt := h.lt
  have hVs := h.old.size
  have hb24 : Below V.heap.size w w4 := ((balloc w o).mono hVs).trans hb4
  have ho2 := h.old
  exact ⟨h.feed.under hb24 hlt, hown, ⟨hb24.os.trans ho2.os, hb24.tape.trans ho2.tape, hb24.output.trans ho2.output, Nat.le_trans ho2.size hb24.size, fun k hk hn => (hb24.block k hk).trans (ho2.block k hk hn)⟩, hlt⟩
end
/-- A list drawn: any list of at most m elements. -/
def DrawnList {α : Type} (m : Nat) (E : TypeId) (sz : Nat) (f : α → List Value) (G : α → Prop) (w : World) (b : Nat) (A : Option Addr) (c : Nat) (xs : List Int) (e : Ending) (w' : World) : Prop :=
  ∃ (LA : Option Addr) (lc : Nat) (ms : List α), e = .returned (.slice LA ms.length lc) ∧ Flat w' w.heap.size w'.heap.size E sz f LA ms ∧ ms.length ≤ lc ∧ ms.length ≤ m ∧ (∀ x ∈ ms, G x) ∧ Feed w' b A c xs ∧ Only b (b + 1) w w'
theorem GrowSt.drawn {α : Type} {V w : World} {b c lc sz m : Nat} {A LA : Option Addr} {xs : List Int} {E : TypeId} {f : α → List Value} {G : α → Prop} {ms : List α} (h : GrowSt V w b A c xs E sz f LA lc ms) (hf : ∀ x, (f x).length = sz) (hm : ms.length ≤ m) (hG : ∀ x ∈ ms, G x) : DrawnList m E sz f G V b A c xs (.returned (.slice LA ms.length lc)) w :=
  ⟨LA, lc, ms, rfl, h.own.flat hf, h.own.cap, hm, hG, h.feed, h.old⟩
theorem mem_snoc {α : Type} {G : α → Prop} {ms : List α} {x : α} (h : ∀ y ∈ ms, G y) (hx : G x) : ∀ y ∈ ms ++ [x], G y := fun y hy => by
  rcases List.mem_append.1 hy with hy | hy
  · exact h y hy
  · simp only [List.mem_singleton] at hy
    subst hy
    exact hx
def lenOf : Value → Nat
  | .slice _ n _ => n
  | _ => 0

end Go.Proofs.Ytioblfbhjkkgoaa

namespace Go.Proofs.Ytioblfbhjkkgoaa
set_option maxRecDepth 100000
open Go.RowKit

def names : List ByteArray := [⟨#[97, 110, 99, 104, 111, 114]⟩, ⟨#[98, 111, 108, 116]⟩, ⟨#[99, 114, 97, 110, 107]⟩, ⟨#[102, 111, 114, 107]⟩, ⟨#[102, 114, 97, 109, 101]⟩, ⟨#[104, 101, 97, 100, 115, 101, 116]⟩, ⟨#[112, 111, 115, 116]⟩, ⟨#[115, 97, 100, 100, 108, 101]⟩]
theorem l16Names_any (w : World) : Calls Try.prog 71 #[] w fun e w' => e = .returned (.slice (some ⟨w.heap.size, 0, none⟩) 8 8) ∧ w' = w.alloc (.cells (names.map Value.string).toArray 9) := by
  go_enter Try.func71, Try.ntmps71
  go_wp2_with fail
  go_ret
  exact ⟨rfl, rfl⟩

end Go.Proofs.Ytioblfbhjkkgoaa

namespace Go.Proofs.Ytioblfbhjkkgoaa
set_option maxRecDepth 100000
open Go.RowKit

/-- A part in its box r, its ports in memory behind it, a source in hand; nothing of what lay there at V has turned but the source. -/
structure GoodSt (V w : World) (r r4 b : Nat) (A : Option Addr) (c : Nat) (xs : List Int) (x : PartT) (PA : Option Addr) (pc : Nat) : Prop where
  feed : Feed w b A c xs
  row : Row w r 59 5
  row4 : Row w r4 59 5
  c0 : w.cell? ⟨r, 0, none⟩ = some (.string x.code)
  c1 : w.cell? ⟨r, 1, none⟩ = some (.int .i64 x.slot)
  c2 : w.cell? ⟨r, 2, none⟩ = some (.slice PA x.ports.length pc)
  c3 : w.cell? ⟨r, 3, none⟩ = some (.int .i64 x.price)
  c4 : w.cell? ⟨r, 4, none⟩ = some (.int .i64 x.grams)
  own : Own w V.heap.size 96 3 portC PA pc x.ports
  old : Only b (b + 1) V w
  lt : b < V.heap.size
  rV : V.heap.size ≤ r
  r4V : V.heap.size ≤ r4
section
variable {V w w' : World} {r r4 b c pc : Nat} {A PA : Option Addr} {xs : List Int} {x : PartT}
theorem GoodSt.turn (h : GoodSt V w r r4 b A c xs x PA pc) (hF : Feed w' b A c xs) (hO : Only b (b + 1) w w') : GoodSt V w' r r4 b A c xs x PA pc := by
  have hl := h.row.lt
  have hl4 := h.row4.lt
  have := h.lt
  have := h.rV
  have := h.r4V
  have e := hO.block r hl (by omega)
  have e4 := hO.block r4 hl4 (by omega)
  exact ⟨hF, h.row.kept e, h.row4.kept e4, (World.cell?_of_block (a := ⟨r, 0, none⟩) e).trans h.c0, (World.cell?_of_block (a := ⟨r, 1, none⟩) e).trans h.c1, (World.cell?_of_block (a := ⟨r, 2, none⟩) e).trans h.c2, (World.cell?_of_block (a := ⟨r, 3, none⟩) e).trans h.c3, (World.cell?_of_block (a := ⟨r, 4, none⟩) e).trans h.c4, h.own.only hO (by omega), h.old.trans hO, h.lt, h.rV, h.r4V⟩
theorem GoodSt.next (h : GoodSt V w r r4 b A c xs x PA pc) (hb : Below w.heap.size w w') : GoodSt V w' r r4 b A c xs x PA pc := h.turn (h.feed.next hb) (Only.of_below hb)
/-- A port more. -/
theorem GoodSt.grow {w4 : World} {p : PortT} {A2 : Option Addr} {c2 : Nat} (h : GoodSt V w r r4 b A c xs x PA pc) (hown : Own w4 V.heap.size 96 3 portC A2 c2 (x.ports ++ [p])) (hb : Below V.heap.size w w4) (hfar : ∀ g, g < w.heap.size → Apart PA g → Apart A2 g ∧ w4.heap[g]? = w.heap[g]?) :
    GoodSt V (w4.setCell ⟨r, 2, none⟩ (.slice A2 (x.ports.length + 1) c2)) r r4 b A c xs { x with ports := x.ports ++ [p] } A2 c2 := by
  have hlt := h.lt
  have hrV := h.rV
  have hl := h.row.lt
  have hE : (96 : TypeId) ≠ 59 := by decide
  obtain ⟨_, e⟩ := hfar r hl (h.own.apartType h.row hE)
  obtain ⟨_, e4⟩ := hfar r4 h.row4.lt (h.own.apartType h.row4 hE)
  have hF4 := h.feed.under hb hlt
  have hne : ∀ j, j ≠ 2 → (w4.setCell ⟨r, 2, none⟩ (.slice A2 (x.ports.length + 1) c2)).cell? ⟨r, j, none⟩ = w.cell? ⟨r, j, none⟩ := fun j hj => by
    rw [setCell_other (by omega)]
    exact World.cell?_of_block (a := ⟨r, j, none⟩) e
  have z := (World.cell?_of_block (a := ⟨r, 2, none⟩) e).trans h.c2
  have hold : Only b (b + 1) V w4 := ⟨hb.os.trans h.old.os, hb.tape.trans h.old.tape, hb.output.trans h.old.output, Nat.le_trans h.old.size hb.size, fun k hk hn => (hb.block k hk).trans (h.old.block k hk hn)⟩
  have hrow := h.row.kept e
  have hdif : ∀ g m, Row w4 g 96 m → g ≠ r := fun g m hg => hg.ne hrow hE
  refine ⟨hF4.setFar (p := ⟨r, 2, none⟩) (show b < r by omega) _, hrow.setCell _ _, (h.row4.kept e4).setCell _ _, (hne 0 (by omega)).trans h.c0, (hne 1 (by omega)).trans h.c1, ?_, (hne 3 (by omega)).trans h.c3, (hne 4 (by omega)).trans h.c4, ?_, hold.setNew hrV _, hlt, hrV, h.r4V⟩
  · rw [setCell_same z]
    simp
  · refine ⟨hown.1, ?_⟩
    rcases hown.2 with h2 | ⟨g, cap, cur, e', hB, hg, h3⟩
    · exact Or.inl h2
    · exact Or.inr ⟨g, cap, cur, e', hB, (Below.heap_setCell _ _ _ _ (hdif g _ ⟨cur, hg, rfl⟩)).trans hg, h3⟩
end
section
variable {V w w' : World} {r r4 b c pc : Nat} {A PA : Option Addr} {xs : List Int} {x : PartT}
theorem GoodSt.setOne (h : GoodSt V w r r4 b A c xs x PA pc) (j : Nat) (u : Value) : Feed (w.setCell ⟨r, j, none⟩ u) b A c xs ∧ Row (w.setCell ⟨r, j, none⟩ u) r 59 5 ∧ Row (w.setCell ⟨r, j, none⟩ u) r4 59 5 ∧ Own (w.setCell ⟨r, j, none⟩ u) V.heap.size 96 3 portC PA pc x.ports ∧ Only b (b + 1) V (w.setCell ⟨r, j, none⟩ u) := by
  have hlt := h.lt
  have hrV := h.rV
  have hE : (96 : TypeId) ≠ 59 := by decide
  refine ⟨h.feed.setFar (p := ⟨r, j, none⟩) (show b < r by omega) _, h.row.setCell _ _, h.row4.setCell _ _, ⟨h.own.1, ?_⟩, h.old.setNew hrV _⟩
  rcases h.own.2 with h2 | ⟨g, cap, cur, e', hB, hg, h3⟩
  · exact Or.inl h2
  · exact Or.inr ⟨g, cap, cur, e', hB, (Below.heap_setCell _ _ _ _ (Row.ne (E := 96) ⟨cur, hg, rfl⟩ h.row hE)).trans hg, h3⟩
theorem GoodSt.setCode (h : GoodSt V w r r4 b A c xs x PA pc) (v : ByteArray) : GoodSt V (w.setCell ⟨r, 0, none⟩ (.string v)) r r4 b A c xs { x with code := v } PA pc := by
  obtain ⟨h1, h2, h3, h4, h5⟩ := h.setOne 0 (.string v)
  have hne : ∀ j, j ≠ 0 → (w.setCell ⟨r, 0, none⟩ (.string v)).cell? ⟨r, j, none⟩ = w.cell? ⟨r, j, none⟩ := fun j hj => setCell_other (by omega)
  exact ⟨h1, h2, h3, setCell_same h.c0, (hne 1 (by omega)).trans h.c1, (hne 2 (by omega)).trans h.c2, (hne 3 (by omega)).trans h.c3, (hne 4 (by omega)).trans h.c4, h4, h5, h.lt, h.rV, h.r4V⟩
theorem GoodSt.setSlot (h : GoodSt V w r r4 b A c xs x PA pc) (v : Int) : GoodSt V (w.setCell ⟨r, 1, none⟩ (.int .i64 v)) r r4 b A c xs { x with slot := v } PA pc := by
  obtain ⟨h1, h2, h3, h4, h5⟩ := h.setOne 1 (.int .i64 v)
  have hne : ∀ j, j ≠ 1 → (w.setCell ⟨r, 1, none⟩ (.int .i64 v)).cell? ⟨r, j, none⟩ = w.cell? ⟨r, j, none⟩ := fun j hj => setCell_other (by omega)
  exact ⟨h1, h2, h3, (hne 0 (by omega)).trans h.c0, setCell_same h.c1, (hne 2 (by omega)).trans h.c2, (hne 3 (by omega)).trans h.c3, (hne 4 (by omega)).trans h.c4, h4, h5, h.lt, h.rV, h.r4V⟩
theorem GoodSt.setPrice (h : GoodSt V w r r4 b A c xs x PA pc) (v : Int) : GoodSt V (w.setCell ⟨r, 3, none⟩ (.int .i64 v)) r r4 b A c xs { x with price := v } PA pc := by
  obtain ⟨h1, h2, h3, h4, h5⟩ := h.setOne 3 (.int .i64 v)
  have hne : ∀ j, j ≠ 3 → (w.setCell ⟨r, 3, none⟩ (.int .i64 v)).cell? ⟨r, j, none⟩ = w.cell? ⟨r, j, none⟩ := fun j hj => setCell_other (by omega)
  exact ⟨h1, h2, h3, (hne 0 (by omega)).trans h.c0, (hne 1 (by omega)).trans h.c1, (hne 2 (by omega)).trans h.c2, setCell_same h.c3, (hne 4 (by omega)).trans h.c4, h4, h5, h.lt, h.rV, h.r4V⟩
end
/-- A part handed out through its result box r4. -/
structure PartOut (V w : World) (r4 b : Nat) (A : Option Addr) (c : Nat) (xs : List Int) (ps : List PortT) (PA : Option Addr) (pc : Nat) : Prop where
  feed : Feed w b A c xs
  row4 : Row w r4 59 5
  own : Own w V.heap.size 96 3 portC PA pc ps
  old : Only b (b + 1) V w
  lt : b < V.heap.size
  r4V : V.heap.size ≤ r4
theorem GoodSt.out {V w : World} {r r4 b c pc : Nat} {A PA : Option Addr} {xs : List Int} {x : PartT} (h : GoodSt V w r r4 b A c xs x PA pc) : PartOut V w r4 b A c xs x.ports PA pc := ⟨h.feed, h.row4, h.own, h.old, h.lt, h.r4V⟩
theorem PartOut.set {V w : World} {r4 b c pc : Nat} {A PA : Option Addr} {xs : List Int} {ps : List PortT} (h : PartOut V w r4 b A c xs ps PA pc) (j : Nat) (u : Value) : PartOut V (w.setCell ⟨r4, j, none⟩ u) r4 b A c xs ps PA pc := by
  have hlt := h.lt
  have hrV := h.r4V
  have hE : (96 : TypeId) ≠ 59 := by decide
  refine ⟨h.feed.setFar (p := ⟨r4, j, none⟩) (show b < r4 by omega) _, h.row4.setCell _ _, ⟨h.own.1, ?_⟩, h.old.setNew hrV _, hlt, hrV⟩
  rcases h.own.2 with h2 | ⟨g, cap, cur, e', hB, hg, h3⟩
  · exact Or.inl h2
  · exact Or.inr ⟨g, cap, cur, e', hB, (Below.heap_setCell _ _ _ _ (Row.ne (E := 96) ⟨cur, hg, rfl⟩ h.row4 hE)).trans hg, h3⟩
/-- A part that was drawn: any part of small size. -/
def DrawnPart (m : Nat) (w : World) (b : Nat) (A : Option Addr) (c : Nat) (xs : List Int) (e : Ending) (w' : World) : Prop := ∃ (x : PartT) (pA : Option Addr) (pc : Nat), e = .returned (argV x pA pc) ∧ x.code.size ≤ 64 ∧ x.ports.length ≤ m ∧ Own w' w.heap.size 96 3 portC pA pc x.ports ∧ Feed w' b A c xs ∧ Only b (b + 1) w w'
theorem portC_len3 (p : PortT) : (portC p).length = 3 := rfl
theorem portC_one3 (p : PortT) : ∀ u ∈ portC p, u.oneCell' = true := fun u hu => by
  simp only [portC, List.mem_cons, List.not_mem_nil, or_false] at hu
  rcases hu with rfl | rfl | rfl <;> rfl

end Go.Proofs.Ytioblfbhjkkgoaa

namespace Go.Proofs.Ytioblfbhjkkgoaa
set_option maxRecDepth 100000
open Go.RowKit

set_option maxHeartbeats 1000000 in
theorem l16Good_any (A : Option Addr) (c b : Nat) (xs : List Int) (code : ByteArray) (hcode : code.size ≤ 64) (w : World) (hF : Feed w b A c xs) :
    Calls Try.prog 73 #[.pointer (some ⟨b, 0, none⟩), .string code] w (DrawnPart 3 w b A c xs) := by
  have HN : Hid (∀ (v : World) (n : Int), n < 20000 → Feed v b A c xs → Calls Try.prog 72 #[.pointer (some ⟨b, 0, none⟩), .int .i64 n] v (Drawn v b A c xs n)) := fun v n hn h => l01Next_any A c b xs n v h.src h.rd h.byte h.small (by omega)
  have hlb := hF.src.lt
  have HF := Lib.hid hF; clear hF
  go_enter Try.func73, Try.ntmps73
  go_wp2_with fail
  have HF0 := Lib.hid (HF.out.next (balloc w (.cells #[.string ⟨#[]⟩, .int .i64 0, .slice none 0 0, .int .i64 0, .int .i64 0] 59)))
  refine (HN.out _ 3 (by omega) HF0.out).mono ?_
  rintro e w1 ⟨v1, rfl, a0, a1, _, hS, hO⟩
  have HF1 := Lib.hid (HF0.out.turn hS hO)
  clear hS
  go_wp2_with fail
  have HF1' := Lib.hid (HF1.out.next (balloc w1 (.cells #[] 96)))
  refine (HN.out _ 60 (by omega) HF1'.out).mono ?_
  rintro e w2 ⟨v2, rfl, b0, b1, _, hS, hO2⟩
  have HF2 := Lib.hid (HF1'.out.turn hS hO2)
  clear hS
  have b1 := b1 (by omega)
  go_wp2_with fail
  refine (HN.out _ 900 (by omega) HF2.out).mono ?_
  rintro e w3 ⟨v3, rfl, c0, c1, _, hS, hO3⟩
  have HF3 := Lib.hid (HF2.out.turn hS hO3)
  clear hS
  have c1 := c1 (by omega)
  go_wp2_with fail
  have hO0 : Only b (b + 1) w (w.alloc (.cells #[.string ⟨#[]⟩, .int .i64 0, .slice none 0 0, .int .i64 0, .int .i64 0] 59)) := Only.alloc _
  have hO1a : Only b (b + 1) w1 (w1.alloc (.cells #[] 96)) := Only.alloc _
  have hOW : Only b (b + 1) w3 (w3.alloc (.cells #[.string code, .int .i64 v1, .slice (some ⟨w1.heap.size, 0, none⟩) 0 0, .int .i64 (100 * (1 + v2)), .int .i64 (50 + v3)] 59)) := Only.alloc _
  have s0 := hO0.size
  have s1 := hO.size
  have s1a := hO1a.size
  have s2 := hO2.size
  have s3 := hO3.size
  have z0 : (w.alloc (.cells #[.string ⟨#[]⟩, .int .i64 0, .slice none 0 0, .int .i64 0, .int .i64 0] 59)).heap.size = w.heap.size + 1 := by simp
  have z1 : (w1.alloc (.cells #[] 96)).heap.size = w1.heap.size + 1 := by simp
  have hG : Hid (GoodSt w (w3.alloc (.cells #[.string code, .int .i64 v1, .slice (some ⟨w1.heap.size, 0, none⟩) 0 0, .int .i64 (100 * (1 + v2)), .int .i64 (50 + v3)] 59)) w3.heap.size w.heap.size b A c xs ⟨code, v1, [], 100 * (1 + v2), 50 + v3⟩ (some ⟨w1.heap.size, 0, none⟩) 0) := by
    have hO3' := (((hO0.trans hO).trans hO1a).trans hO2).trans hO3
    have hrow4 : Row w3 w.heap.size 59 5 := (Row.new w #[.string ⟨#[]⟩, .int .i64 0, .slice none 0 0, .int .i64 0, .int .i64 0] 59).kept ((((hO.trans hO1a).trans hO2).trans hO3).block w.heap.size (by omega) (by omega))
    have hownp : Own (w1.alloc (.cells #[] 96)) w.heap.size 96 3 portC (some ⟨w1.heap.size, 0, none⟩) 0 [] := Own.made _ (by omega) rfl
    exact ⟨HF3.out.next (balloc _ _), Row.new w3 _ _, hrow4.alloc _, by go_simp, by go_simp, by go_simp, by go_simp, by go_simp, (((hownp.only hO2 (by omega)).only hO3 (by omega)).keep (balloc _ _)), hO3'.trans hOW, hlb, by omega, Nat.le_refl _⟩
  clear hO0 hO hO1a hO2 hO3 hOW s0 s1 s1a s2 z0 z1 HF HF0 HF1 HF1' HF2 HF3
  generalize w3.alloc (.cells #[.string code, .int .i64 v1, .slice (some ⟨w1.heap.size, 0, none⟩) 0 0, .int .i64 (100 * (1 + v2)), .int .i64 (50 + v3)] 59) = W at hG ⊢
  generalize w3.heap.size = r at hG s3 ⊢
  generalize hr4 : w.heap.size = r4 at hG hlb ⊢
  go_loopw [6] (fun i wr => ∃ (k : Nat) (x : PartT) (PA : Option Addr) (pc : Nat), k ≤ 3 ∧ i = .int .i64 k ∧ x.code = code ∧ x.ports.length ≤ k ∧ GoodSt w wr r r4 b A c xs x PA pc) (fun i _ => 3 - (intOf i).toNat)
  case atStart => exact ⟨0, _, _, _, Nat.zero_le _, rfl, rfl, Nat.le_refl _, hG.out⟩
  case round =>
    obtain ⟨k, x, PA, pc, hk, rfl, hxc, hxl, hg⟩ := hrel
    have HG := Lib.hid hg; clear hg
    by_cases hlt : k < 3
    · go_wp2_with fail
      refine (HN.out wr 4 (by omega) HG.out.feed).mono ?_
      rintro e w4 ⟨v4, rfl, d0, d1, _, hS, hO⟩
      have HG4 := Lib.hid (HG.out.turn (HG.out.feed.turn hS hO) hO)
      clear hS hO HG
      by_cases hv : 0 < v4
      · have z4 := HG4.out.c2
        have l4 := HG4.out.row.lt
        have n4 : ¬ r = w4.heap.size := by omega
        have n4' : ¬ w4.heap.size = r := by omega
        go_wp2_with fail
        go_region_law (first
          | (go_simp; go_at_call 80; change Calls _ _ _ (w4.drew.alloc (.cells (([286, 318] : List Int).map (Value.int .i64)).toArray 2)) _; refine (pick_next A c b xs w4.drew 2 [286, 318] (by simp) (by simp) (HG4.out.feed.next (bdrew _))).mono ?_; rintro e w5 ⟨v5, hv5, rfl, hF5, hO5⟩; have HG5 := Lib.hid ((HG4.out.next (bdrew _)).turn hF5 hO5); have z5 := HG5.out.c2; clear hF5 hO5 hv5; go_wp2_with fail)
          | (go_simp; go_at_call 72; refine (HN.out w5 2 (by omega) HG5.out.feed).mono ?_; rintro e w6 ⟨v6, rfl, e0, e1, _, hS6, hO6⟩; have HG6 := Lib.hid (HG5.out.turn (HG5.out.feed.turn hS6 hO6) hO6); have z6 := HG6.out.c2; have l6 := HG6.out.row.lt; have n6 : ¬ r = w6.heap.size := (by omega); have n6' : ¬ w6.heap.size = r := (by omega); have s6 := HG6.out.old.size; clear hS6 hO6; go_wp2_with fail)
          | (have HG6a := Lib.hid (HG6.out.next (balloc w6 (.cells #[.int .i64 (k : Int), .int .i64 v5, .bool (v6 == 0)] 96))); refine step_append_el (by rfl) _ _ _ (by rfl) w.heap.size 96 (.agg #[.int .i64 0, .int .i64 0, .bool false]) 3 24 Try.underlying57 infoPort rfl (by omega) (by omega) portC x.ports ((k : Int), v5, v6 == 0) PA pc (by rfl) HG6a.out.own w6.heap.size _ (by rfl) (by simp) portC_len3 (three_cells (by go_simp) (by go_simp) (by go_simp)) portC_one3 (by omega) (by simp; omega) ?_; intro A2 c2 w7 hown7 hb7 hfar7; have h7 := hfar7 r HG6a.out.row.lt (HG6a.out.own.apartType HG6a.out.row (by decide)); have z7 := (World.cell?_of_block (a := ⟨r, 2, none⟩) h7.2).trans HG6a.out.c2; have f7 : w7.frozen? ⟨r, 2, none⟩ = false := (HG6a.out.row.kept h7.2).frozen 2; have HG7 := Lib.hid (HG6a.out.grow hown7 hb7 hfar7); clear h7 hown7 hb7 hfar7))
        all_goals
          go_wp2_with fail
          exact ⟨⟨k + 1, { x with ports := x.ports ++ [((k : Int), v5, v6 == 0)] }, A2, c2, by omega, by go_num, hxc, by simp; omega, HG7.out⟩, by simp [intOf]; omega⟩
      · go_wp2_with fail
        exact ⟨⟨k + 1, x, PA, pc, by omega, by go_num, hxc, by omega, HG4.out⟩, by simp [intOf]; omega⟩
    · have c0 := HG.out.c0
      have c1 := HG.out.c1
      have c2 := HG.out.c2
      have c3 := HG.out.c3
      have c4 := HG.out.c4
      obtain ⟨y0, hy0⟩ := HG.out.row4.cell (j := 0) (by omega)
      obtain ⟨y1, hy1⟩ := HG.out.row4.cell (j := 1) (by omega)
      obtain ⟨y2, hy2⟩ := HG.out.row4.cell (j := 2) (by omega)
      obtain ⟨y3, hy3⟩ := HG.out.row4.cell (j := 3) (by omega)
      obtain ⟨y4, hy4⟩ := HG.out.row4.cell (j := 4) (by omega)
      have f0 := HG.out.row4.frozen 0
      have f1 := HG.out.row4.frozen 1
      have f2 := HG.out.row4.frozen 2
      have f3 := HG.out.row4.frozen 3
      have f4 := HG.out.row4.frozen 4
      go_wp2_with fail
      refine bodyPost_ret (v := argV x PA pc) (by simp [results, Try.results73, go_sem, cell_set, hy0, hy1, hy2, hy3, hy4, argV, hxc]) rfl ?_
      have hP := fun (u0 u1 u2 u3 u4 : Value) => ((((HG.out.out.set 0 u0).set 1 u1).set 2 u2).set 3 u3).set 4 u4
      have hp := hP (.string code) (.int .i64 x.slot) (.slice PA x.ports.length pc) (.int .i64 x.price) (.int .i64 x.grams)
      exact ⟨x, PA, pc, rfl, by rw [hxc]; exact hcode, by omega, hp.own, hp.feed, hp.old⟩

end Go.Proofs.Ytioblfbhjkkgoaa

namespace Go.Proofs.Ytioblfbhjkkgoaa
set_option maxRecDepth 100000
open Go.RowKit

structure Inner (w : World) (lo hi : Nat) (A : Option Addr) (ms : List PartM) : Prop where
  flat : ∀ m ∈ ms, Flat w lo hi 96 3 portC m.pA m.ports
  cap : ∀ m ∈ ms, m.ports.length ≤ m.pc
  far : ∀ m ∈ ms, 0 < m.ports.length → ∀ g, m.pA = some ⟨g, 0, none⟩ → Apart A g
  apart : ms.Pairwise fun m n => 0 < m.ports.length → 0 < n.ports.length → m.pA ≠ n.pA
theorem Inner.nil {w : World} {lo hi : Nat} {A : Option Addr} : Inner w lo hi A [] := ⟨fun _ hm => absurd hm (by simp), fun _ hm => absurd hm (by simp), fun _ hm => absurd hm (by simp), List.Pairwise.nil⟩
theorem Inner.below {w w' : World} {lo hi hi' B : Nat} {A : Option Addr} {ms : List PartM} (h : Inner w lo hi A ms) (hb : Below B w w') (hB : hi ≤ B) (hh : hi ≤ hi') : Inner w' lo hi' A ms :=
  ⟨fun m hm => ((h.flat m hm).below hb hB).mono (Nat.le_refl _) hh, h.cap, h.far, h.apart⟩
/-- One part more: its ports are new, the row has grown. -/
theorem Inner.append {wr w2 w3 w4 : World} {base n c : Nat} {A A2 : Option Addr} {ms : List PartM} {m : PartM} {o : Obj} (h : Inner wr base wr.heap.size A ms)
    (hA : ∀ k, (Value.slice A n c).ownBlock = some k → base ≤ k ∧ k < wr.heap.size) (hbase : base ≤ wr.heap.size) (hb2 : Below wr.heap.size wr w2) (fm : Flat w2 wr.heap.size w2.heap.size 96 3 portC m.pA m.ports) (hpc : m.ports.length ≤ m.pc)
    (e3 : w3 = w2.alloc o) (hfar : ∀ g, g < w2.heap.size + 1 → Apart A g → Apart A2 g ∧ w4.heap[g]? = w3.heap[g]?) (hs4 : w3.heap.size ≤ w4.heap.size) : Inner w4 base w4.heap.size A2 (ms ++ [m]) := by
  have hs2 := hb2.size
  have hs3 : w3.heap.size = w2.heap.size + 1 := by rw [e3]; simp
  have h32 : ∀ g, g < w2.heap.size → w3.heap[g]? = w2.heap[g]? := fun g hg => by rw [e3]; exact (balloc w2 o).block g hg
  -- the block of an older part
  have hold : ∀ m' ∈ ms, ∀ g, m'.pA = some ⟨g, 0, none⟩ → 0 < m'.ports.length → g < wr.heap.size := fun m' hm' g e hp => by
    obtain ⟨g', _, e', _, h2, _⟩ := h.flat m' hm' hp
    rw [e] at e'
    simp only [Option.some.injEq, Addr.mk.injEq] at e'
    omega
  have hnew : ∀ g, m.pA = some ⟨g, 0, none⟩ → 0 < m.ports.length → wr.heap.size ≤ g ∧ g < w2.heap.size := fun g e hp => by
    obtain ⟨g', _, e', h1, h2, _⟩ := fm hp
    rw [e] at e'
    simp only [Option.some.injEq, Addr.mk.injEq] at e'
    omega
  have hAn : ∀ g, wr.heap.size ≤ g → Apart A g := fun g hg b o' e => by
    subst e
    have := hA b rfl
    omega
  refine ⟨fun m' hm' => ?_, fun m' hm' => ?_, fun m' hm' hp g e => ?_, ?_⟩
  · rcases List.mem_append.1 hm' with h1 | h1
    · refine ((h.flat m' h1).keepAt fun g e hp => ?_).mono (Nat.le_refl _) (by omega)
      have hg := hold m' h1 g e hp
      rw [(hfar g (by omega) (h.far m' h1 hp g e)).2, h32 g (by omega), hb2.block g hg]
    · simp only [List.mem_singleton] at h1
      subst h1
      refine (fm.keepAt fun g e hp => ?_).mono hbase (by omega)
      have hg := hnew g e hp
      rw [(hfar g (by omega) (hAn g hg.1)).2, h32 g hg.2]
  · rcases List.mem_append.1 hm' with h1 | h1
    · exact h.cap m' h1
    · simp only [List.mem_singleton] at h1
      subst h1
      exact hpc
  · rcases List.mem_append.1 hm' with h1 | h1
    · have hg := hold m' h1 g e hp
      exact (hfar g (by omega) (h.far m' h1 hp g e)).1
    · simp only [List.mem_singleton] at h1
      subst h1
      have hg := hnew g e hp
      exact (hfar g (by omega) (hAn g hg.1)).1
  · rw [List.pairwise_append]
    refine ⟨h.apart, List.pairwise_singleton _ _, fun m1 h1 m2 h2 hp1 hp2 => ?_⟩
    simp only [List.mem_singleton] at h2
    subst h2
    obtain ⟨g1, _, e1, _⟩ := h.flat m1 h1 hp1
    obtain ⟨g2, _, e2, _⟩ := fm hp2
    have a1 := hold m1 h1 g1 e1 hp1
    have a2 := hnew g2 e2 hp2
    rw [e1, e2]
    intro e
    simp only [Option.some.injEq, Addr.mk.injEq] at e
    omega

/-- A row of parts between lo and hi, each part's ports apart. -/
def FlatQ (w : World) (lo hi : Nat) (A : Option Addr) (ms : List PartM) : Prop := Flat w lo hi 59 5 partC A ms ∧ Inner w lo hi A ms
/-- The same, by its values. -/
def FlatR (w : World) (lo hi : Nat) (A : Option Addr) (vs : List PartT) : Prop := ∃ ms : List PartM, ms.map PartM.val = vs ∧ FlatQ w lo hi A ms
section
variable {w w' : World} {lo hi lo' hi' : Nat} {A : Option Addr} {ms : List PartM} {vs : List PartT}
theorem FlatQ.only {a b : Nat} (h : FlatQ w lo hi A ms) (hb : Only a b w w') (hs : hi ≤ w.heap.size) (hd : hi ≤ a ∨ b ≤ lo) : FlatQ w' lo hi A ms :=
  ⟨h.1.only hb hs hd, fun m hm => (h.2.flat m hm).only hb hs hd, h.2.cap, h.2.far, h.2.apart⟩
theorem FlatQ.below {B : Nat} (h : FlatQ w lo hi A ms) (hb : Below B w w') (hB : hi ≤ B) : FlatQ w' lo hi A ms := ⟨h.1.below hb hB, h.2.below hb hB (Nat.le_refl _)⟩
theorem FlatQ.mono (h : FlatQ w lo hi A ms) (h1 : lo' ≤ lo) (h2 : hi ≤ hi') : FlatQ w lo' hi' A ms := ⟨h.1.mono h1 h2, fun m hm => (h.2.flat m hm).mono h1 h2, h.2.cap, h.2.far, h.2.apart⟩
theorem FlatQ.rd (h : FlatQ w lo hi A ms) : RdP w hi A ms := ⟨h.1.rd, fun m hm => ⟨(h.2.flat m hm).rd, h.2.cap m hm⟩⟩
theorem FlatR.only {a b : Nat} (h : FlatR w lo hi A vs) (hb : Only a b w w') (hs : hi ≤ w.heap.size) (hd : hi ≤ a ∨ b ≤ lo) : FlatR w' lo hi A vs := by
  obtain ⟨ms, e, h⟩ := h
  exact ⟨ms, e, h.only hb hs hd⟩
theorem FlatR.below {B : Nat} (h : FlatR w lo hi A vs) (hb : Below B w w') (hB : hi ≤ B) : FlatR w' lo hi A vs := by
  obtain ⟨ms, e, h⟩ := h
  exact ⟨ms, e, h.below hb hB⟩
theorem FlatR.mono (h : FlatR w lo hi A vs) (h1 : lo' ≤ lo) (h2 : hi ≤ hi') : FlatR w lo' hi' A vs := by
  obtain ⟨ms, e, h⟩ := h
  exact ⟨ms, e, h.mono h1 h2⟩
theorem FlatR.rd (h : FlatR w lo hi A vs) : RdV w hi A vs := by
  obtain ⟨ms, e, h⟩ := h
  exact ⟨ms, e, h.rd⟩
theorem FlatR.nil : FlatR w lo hi A [] := ⟨[], rfl, fun h => absurd h (by simp), Inner.nil⟩
end
/-- What a function gives that makes parts by append, with a code. -/
def GivesParts2 (w : World) (r : List PartT × Int) (e : Ending) (w' : World) : Prop :=
  ∃ A c, e = .returned (.tuple #[.slice A r.1.length c, .int .i64 r.2]) ∧ FlatR w' w.heap.size w'.heap.size A r.1 ∧ r.1.length ≤ c ∧ Below w.heap.size w w'

end Go.Proofs.Ytioblfbhjkkgoaa

namespace Go.Proofs.Ytioblfbhjkkgoaa
set_option maxRecDepth 100000
open Go.RowKit

def GivesCopy (w : World) (x : PartT) (e : Ending) (w' : World) : Prop :=
  ∃ A' c', e = .returned (.agg #[.string x.code, .int .i64 x.slot, .slice A' x.ports.length c', .int .i64 x.price, .int .i64 x.grams]) ∧ Flat w' w.heap.size w'.heap.size 96 3 portC A' x.ports ∧ x.ports.length ≤ c' ∧ Below w.heap.size w w'
theorem set5_heap {w : World} {g1 g : Nat} (h : g ≠ g1) (u0 u1 u2 u3 u4 : Value) : (((((w.setCell ⟨g1, 0, none⟩ u0).setCell ⟨g1, 1, none⟩ u1).setCell ⟨g1, 2, none⟩ u2).setCell ⟨g1, 3, none⟩ u3).setCell ⟨g1, 4, none⟩ u4).heap[g]? = w.heap[g]? := by
  rw [Below.heap_setCell _ _ _ _ (by exact h), Below.heap_setCell _ _ _ _ (by exact h), Below.heap_setCell _ _ _ _ (by exact h), Below.heap_setCell _ _ _ _ (by exact h), Below.heap_setCell _ _ _ _ (by exact h)]
theorem portC_one : ∀ y, ∀ u ∈ portC y, u.oneCell' = true := fun y u hu => by
  simp only [portC, List.mem_cons, List.not_mem_nil, or_false] at hu
  rcases hu with rfl | rfl | rfl <;> rfl

end Go.Proofs.Ytioblfbhjkkgoaa

namespace Go.Proofs.Ytioblfbhjkkgoaa
set_option maxRecDepth 100000
open Go.RowKit

def idP (x : PartT) : PartT := x
def notCode (code : ByteArray) (x : PartT) : Bool := decide (¬ x.code = code)
def dropR (vs : List PartT) (code : ByteArray) : List PartT × Int := if partsB vs = true then (if findI vs code < 0 then ([], 4) else (keepTo (notCode code) idP vs vs.length, 0)) else ([], 1)
theorem five_cells {w : World} {g : Nat} {v0 v1 v2 v3 v4 : Value} (h0 : w.cell? ⟨g, 0, none⟩ = some v0) (h1 : w.cell? ⟨g, 1, none⟩ = some v1) (h2 : w.cell? ⟨g, 2, none⟩ = some v2) (h3 : w.cell? ⟨g, 3, none⟩ = some v3) (h4 : w.cell? ⟨g, 4, none⟩ = some v4) :
    ∀ j u, [v0, v1, v2, v3, v4][j]? = some u → w.cell? ⟨g, j, none⟩ = some u
  | 0, u, hj => by simp at hj; rw [← hj]; exact h0
  | 1, u, hj => by simp at hj; rw [← hj]; exact h1
  | 2, u, hj => by simp at hj; rw [← hj]; exact h2
  | 3, u, hj => by simp at hj; rw [← hj]; exact h3
  | 4, u, hj => by simp at hj; rw [← hj]; exact h4
  | _ + 5, u, hj => by simp at hj
theorem partC_one (m : PartM) : ∀ u ∈ partC m, u.oneCell' = true := fun u hu => by
  simp only [partC, List.mem_cons, List.not_mem_nil, or_false] at hu
  rcases hu with rfl | rfl | rfl | rfl | rfl <;> rfl
/-- A slice of parts that grows. -/
def GrowP (base : Nat) (w : World) (A : Option Addr) (c : Nat) (ms : List PartM) : Prop := Own w base 59 5 partC A c ms ∧ Inner w base w.heap.size A ms
theorem GrowP.step {base : Nat} {w w' : World} {A : Option Addr} {c : Nat} {ms : List PartM} (h : GrowP base w A c ms) (hb : Below w.heap.size w w') : GrowP base w' A c ms := ⟨h.1.keep hb, h.2.below hb (Nat.le_refl _) hb.size⟩

end Go.Proofs.Ytioblfbhjkkgoaa

namespace Go.Proofs.Ytioblfbhjkkgoaa
set_option maxRecDepth 100000
open Go.RowKit

theorem Inner.only {w w' : World} {lo hi hi' a b : Nat} {A : Option Addr} {ms : List PartM} (h : Inner w lo hi A ms) (hb : Only a b w w') (hs : hi ≤ w.heap.size) (hd : hi ≤ a ∨ b ≤ lo) (hh : hi ≤ hi') : Inner w' lo hi' A ms :=
  ⟨fun m hm => ((h.flat m hm).only hb hs hd).mono (Nat.le_refl _) hh, h.cap, h.far, h.apart⟩
/-- One part more: its ports are new, the row has grown; a block below the base may have turned. -/
theorem Inner.appendO {wr w2 w3 w4 : World} {base n c b : Nat} {A A2 : Option Addr} {ms : List PartM} {m : PartM} {o : Obj} (h : Inner wr base wr.heap.size A ms)
    (hA : ∀ k, (Value.slice A n c).ownBlock = some k → base ≤ k ∧ k < wr.heap.size) (hbase : base ≤ wr.heap.size) (hb2 : Only b (b + 1) wr w2) (hbb : b < base) (fm : Flat w2 wr.heap.size w2.heap.size 96 3 portC m.pA m.ports) (hpc : m.ports.length ≤ m.pc)
    (e3 : w3 = w2.alloc o) (hfar : ∀ g, g < w2.heap.size + 1 → Apart A g → Apart A2 g ∧ w4.heap[g]? = w3.heap[g]?) (hs4 : w3.heap.size ≤ w4.heap.size) : Inner w4 base w4.heap.size A2 (ms ++ [m]) := by
  have hs2 := hb2.size
  have hs3 : w3.heap.size = w2.heap.size + 1 := by rw [e3]; simp
  have h32 : ∀ g, g < w2.heap.size → w3.heap[g]? = w2.heap[g]? := fun g hg => by rw [e3]; exact (balloc w2 o).block g hg
  have hold : ∀ m' ∈ ms, ∀ g, m'.pA = some ⟨g, 0, none⟩ → 0 < m'.ports.length → base ≤ g ∧ g < wr.heap.size := fun m' hm' g e hp => by
    obtain ⟨g', _, e', h1, h2, _⟩ := h.flat m' hm' hp
    rw [e] at e'
    simp only [Option.some.injEq, Addr.mk.injEq] at e'
    omega
  have hnew : ∀ g, m.pA = some ⟨g, 0, none⟩ → 0 < m.ports.length → wr.heap.size ≤ g ∧ g < w2.heap.size := fun g e hp => by
    obtain ⟨g', _, e', h1, h2, _⟩ := fm hp
    rw [e] at e'
    simp only [Option.some.injEq, Addr.mk.injEq] at e'
    omega
  have hAn : ∀ g, wr.heap.size ≤ g → Apart A g := fun g hg b o' e => by
    subst e
    have := hA b rfl
    omega
  refine ⟨fun m' hm' => ?_, fun m' hm' => ?_, fun m' hm' hp g e => ?_, ?_⟩
  · rcases List.mem_append.1 hm' with h1 | h1
    · refine ((h.flat m' h1).keepAt fun g e hp => ?_).mono (Nat.le_refl _) (by omega)
      have hg := hold m' h1 g e hp
      rw [(hfar g (by omega) (h.far m' h1 hp g e)).2, h32 g (by omega), hb2.block g hg.2 (by omega)]
    · simp only [List.mem_singleton] at h1
      subst h1
      refine (fm.keepAt fun g e hp => ?_).mono hbase (by omega)
      have hg := hnew g e hp
      rw [(hfar g (by omega) (hAn g hg.1)).2, h32 g hg.2]
  · rcases List.mem_append.1 hm' with h1 | h1
    · exact h.cap m' h1
    · simp only [List.mem_singleton] at h1
      subst h1
      exact hpc
  · rcases List.mem_append.1 hm' with h1 | h1
    · have hg := hold m' h1 g e hp
      exact (hfar g (by omega) (h.far m' h1 hp g e)).1
    · simp only [List.mem_singleton] at h1
      subst h1
      have hg := hnew g e hp
      exact (hfar g (by omega) (hAn g hg.1)).1
  · rw [List.pairwise_append]
    refine ⟨h.apart, List.pairwise_singleton _ _, fun m1 h1 m2 h2 hp1 hp2 => ?_⟩
    simp only [List.mem_singleton] at h2
    subst h2
    obtain ⟨g1, _, e1, _⟩ := h.flat m1 h1 hp1
    obtain ⟨g2, _, e2, _⟩ := fm hp2
    have a1 := hold m1 h1 g1 e1 hp1
    have a2 := hnew g2 e2 hp2
    rw [e1, e2]
    intro e
    simp only [Option.some.injEq, Addr.mk.injEq] at e
    omega

def SmallM (m : PartM) : Prop := m.code.size ≤ 64 ∧ m.ports.length ≤ 64
def PartT.at_ (x : PartT) (pA : Option Addr) (pc : Nat) : PartM := ⟨x.code, x.slot, pA, pc, x.ports, x.price, x.grams⟩
/-- A list of parts that grows, a table of texts in block nt, a source in hand. -/
structure ListSt (V w : World) (b : Nat) (A : Option Addr) (c : Nat) (xs : List Int) (nt : Nat) (tb : Array Value) (LA : Option Addr) (lc : Nat) (ms : List PartM) : Prop where
  feed : Feed w b A c xs
  own : Own w V.heap.size 59 5 partC LA lc ms
  inner : Inner w V.heap.size w.heap.size LA ms
  old : Only b (b + 1) V w
  lt : b < V.heap.size
  small : ∀ m ∈ ms, SmallM m
  tab : w.heap[nt]? = some (.cells tb 9 (0, 0))
  ntV : V.heap.size ≤ nt
section
variable {V w w' : World} {b c lc nt : Nat} {A LA : Option Addr} {xs : List Int} {tb : Array Value} {ms : List PartM}
theorem ListSt.turn (h : ListSt V w b A c xs nt tb LA lc ms) (hF : Feed w' b A c xs) (hO : Only b (b + 1) w w') : ListSt V w' b A c xs nt tb LA lc ms := by
  have := h.lt
  have := h.ntV
  have hnt := (Array.getElem?_eq_some_iff.1 h.tab).1
  exact ⟨hF, h.own.only hO (by omega), h.inner.only hO (Nat.le_refl _) (Or.inr (by omega)) hO.size, h.old.trans hO, h.lt, h.small, (hO.block nt hnt (by omega)).trans h.tab, h.ntV⟩
theorem ListSt.next (h : ListSt V w b A c xs nt tb LA lc ms) (hb : Below w.heap.size w w') : ListSt V w' b A c xs nt tb LA lc ms := h.turn (h.feed.next hb) (Only.of_below hb)
theorem ListSt.cell (h : ListSt V w b A c xs nt tb LA lc ms) {k : Nat} {v : Value} (hv : tb[k]? = some v) : w.cell? ⟨nt, k, none⟩ = some v := by
  rw [cell_of_row w nt k tb 9 (0, 0) h.tab]
  exact hv
/-- A part more. -/
theorem ListSt.grow {w2 w4 : World} {x : PartT} {pA A2 : Option Addr} {pc c2 : Nat} {o : Obj} (h : ListSt V w b A c xs nt tb LA lc ms) (hF2 : Feed w2 b A c xs) (hO2 : Only b (b + 1) w w2) (fm : Flat w2 w.heap.size w2.heap.size 96 3 portC pA x.ports) (hpc : x.ports.length ≤ pc) (h1 : x.code.size ≤ 64) (h2 : x.ports.length ≤ 64)
    (hown : Own w4 V.heap.size 59 5 partC A2 c2 (ms ++ [x.at_ pA pc])) (hb4 : Below V.heap.size (w2.alloc o) w4) (hfar : ∀ g, g < w2.heap.size + 1 → Apart LA g → Apart A2 g ∧ w4.heap[g]? = (w2.alloc o).heap[g]?) :
    ListSt V w4 b A c xs nt tb A2 c2 (ms ++ [x.at_ pA pc]) := by
  have hlt := h.lt
  have hVs := h.old.size
  have hs2 := hO2.size
  have hb24 : Below V.heap.size w2 w4 := ((balloc w2 o).mono (by omega)).trans hb4
  have ht2 := h.turn hF2 hO2
  have hrowt : Row w2 nt 9 tb.size := ⟨tb, ht2.tab, rfl⟩
  have hap : Apart LA nt := ht2.own.apartType hrowt (by decide)
  have hnt2 := hrowt.lt
  have hsz : (w2.alloc o).heap.size = w2.heap.size + 1 := by simp
  refine ⟨hF2.under hb24 hlt, hown, h.inner.appendO (h.own.lt) hVs hO2 hlt fm hpc rfl hfar hb4.size, ?_, hlt, fun m hm => ?_, ?_, h.ntV⟩
  · have ho2 := ht2.old
    exact ⟨hb24.os.trans ho2.os, hb24.tape.trans ho2.tape, hb24.output.trans ho2.output, Nat.le_trans ho2.size hb24.size, fun k hk hn => (hb24.block k hk).trans (ho2.block k hk hn)⟩
  · rcases List.mem_append.1 hm with hm | hm
    · exact h.small m hm
    · simp only [List.mem_singleton] at hm
      subst hm
      exact ⟨h1, h2⟩
  · rw [(hfar nt (by omega) hap).2, (balloc w2 o).block nt hnt2]
    exact ht2.tab
end
/-- Parts that were drawn: any parts of small size. -/
def DrawnParts (w : World) (b : Nat) (A : Option Addr) (c : Nat) (xs : List Int) (e : Ending) (w' : World) : Prop := ∃ (LA : Option Addr) (lc : Nat) (vs : List PartT), e = .returned (.slice LA vs.length lc) ∧ FlatR w' w.heap.size w'.heap.size LA vs ∧ vs.length ≤ lc ∧ vs.length ≤ 64 ∧ (∀ x ∈ vs, x.code.size ≤ 64 ∧ x.ports.length ≤ 64) ∧ Feed w' b A c xs ∧ Only b (b + 1) w w'
theorem partC_len5 (m : PartM) : (partC m).length = 5 := rfl
theorem ListSt.drawn {V w : World} {b c lc nt : Nat} {A LA : Option Addr} {xs : List Int} {tb : Array Value} {ms : List PartM} (h : ListSt V w b A c xs nt tb LA lc ms) (hl : ms.length ≤ 64) : DrawnParts V b A c xs (.returned (.slice LA ms.length lc)) w :=
  ⟨LA, lc, ms.map PartM.val, by simp, ⟨ms, rfl, h.own.flat partC_len5, h.inner⟩, by simpa using h.own.cap, by simpa using hl, fun x hx => by
    obtain ⟨m, hm, rfl⟩ := List.mem_map.1 hx
    exact h.small m hm, h.feed, h.old⟩

end Go.Proofs.Ytioblfbhjkkgoaa

namespace Go.Proofs.Ytioblfbhjkkgoaa
set_option maxRecDepth 100000
open Go.RowKit

def outLen : Value → Nat
  | .slice _ n _ => n
  | _ => 0
set_option maxHeartbeats 2000000 in
theorem l16List_any (A : Option Addr) (c b : Nat) (xs : List Int) (w : World) (hF : Feed w b A c xs) :
    Calls Try.prog 58 #[.pointer (some ⟨b, 0, none⟩)] w (DrawnParts w b A c xs) := by
  have HN : Hid (∀ (v : World) (n : Int), n < 20000 → Feed v b A c xs → Calls Try.prog 72 #[.pointer (some ⟨b, 0, none⟩), .int .i64 n] v (Drawn v b A c xs n)) := fun v n hn h => l01Next_any A c b xs n v h.src h.rd h.byte h.small (by omega)
  have HG : Hid (∀ (v : World) (code : ByteArray), code.size ≤ 64 → Feed v b A c xs → Calls Try.prog 73 #[.pointer (some ⟨b, 0, none⟩), .string code] v (DrawnPart 3 v b A c xs)) := fun v code h1 h => l16Good_any A c b xs code h1 v h
  have hlb := hF.src.lt
  have hT : ∀ k, k < 8 → ∃ t : ByteArray, t.size ≤ 64 ∧ (names.map Value.string).toArray[k]? = some (.string t) := fun k hk => by
    have hk' : k < names.length := hk
    refine ⟨names[k], ?_, by simp [hk']⟩
    have : ∀ t ∈ names, t.size ≤ 64 := by decide
    exact this _ (List.getElem_mem _)
  have HT := Lib.hid hT; clear hT
  have HF := Lib.hid hF; clear hF
  go_enter Try.func58, Try.ntmps58
  go_wp2_with fail
  refine (l16Names_any _).mono ?_
  rintro e w1 ⟨rfl, rfl⟩
  have HL : Hid (ListSt w ((w.alloc (.cells #[] 59)).alloc (.cells (names.map Value.string).toArray 9)) b A c xs (w.heap.size + 1) (names.map Value.string).toArray (some ⟨w.heap.size, 0, none⟩) 0 []) := by
    have h1 := balloc w (.cells #[] 59)
    have h2 := balloc (w.alloc (.cells #[] 59)) (.cells (names.map Value.string).toArray 9)
    have e1 : (w.alloc (.cells #[] 59)).heap.size = w.heap.size + 1 := by simp
    refine ⟨(HF.out.next h1).next h2, (Own.made _ (Nat.le_refl _) rfl).keep h2, Inner.nil, Only.of_below (bthen h1 h2), hlb, fun m hm => absurd hm (by simp), ?_, by omega⟩
    rw [← e1]
    exact heap_alloc_new _ _
  have e1 : (w.alloc (.cells #[] 59)).heap.size = w.heap.size + 1 := by simp
  rw [e1]
  clear e1
  generalize (w.alloc (.cells #[] 59)).alloc (.cells (names.map Value.string).toArray 9) = W at HL ⊢
  generalize (names.map Value.string).toArray = tb at HT HL
  generalize hnt : w.heap.size + 1 = nt at HL ⊢
  go_wp2_with fail
  go_loopw [3, 5] (fun out i wr => ∃ (k : Nat) (LA : Option Addr) (lc : Nat) (ms : List PartM), k ≤ 8 ∧ ms.length ≤ k ∧ i = .int .i64 k ∧ out = .slice LA ms.length lc ∧ ListSt w wr b A c xs nt tb LA lc ms) (fun _ i _ => 8 - (intOf i).toNat)
  case atStart => exact ⟨0, _, _, [], by omega, Nat.zero_le _, rfl, rfl, HL.out⟩
  case round =>
    obtain ⟨k, LA, lc, ms, hk, hml, rfl, rfl, hL⟩ := hrel
    have HL1 := Lib.hid hL; clear hL
    by_cases hlt : k < 8
    · go_wp2_with fail
      refine (HN.out wr 3 (by omega) HL1.out.feed).mono ?_
      rintro e w2 ⟨v2, rfl, a0, a1, _, hS, hO⟩
      have HL2 := Lib.hid (HL1.out.turn (HL1.out.feed.turn hS hO) hO)
      clear hS hO HL1
      by_cases hv : 0 < v2
      · obtain ⟨t, ht, htb⟩ := HT.out k hlt
        have q := HL2.out.cell htb
        clear htb
        go_wp2_with fail
        refine (HG.out w2 t ht HL2.out.feed).mono ?_
        rintro e w3 ⟨x, pA, pc, rfl, x1, x2, ox, hF3, hO3⟩
        have hpc := ox.cap; have Fx := Lib.hid (ox.flat portC_len3); clear ox
        have HF3 := Lib.hid hF3; clear hF3
        have HO3 := Lib.hid hO3; clear hO3
        have s2 := HL2.out.old.size
        have s3 := HO3.out.size
        have HL3 := Lib.hid (HL2.out.turn HF3.out HO3.out)
        dsimp only [argV]
        go_wp2_with (at_builtin; refine wpList_append_far rfl _ _ _ rfl w.heap.size 59 (.agg #[.string ⟨#[]⟩, .int .i64 0, .slice none 0 0, .int .i64 0, .int .i64 0]) 5 64 Try.underlying29 infoPart rfl (by omega) (by omega) partC ms ⟨x.code, x.slot, pA, pc, x.ports, x.price, x.grams⟩ LA lc rfl (HL3.out.own.keep (balloc _ _)) w3.heap.size _ rfl rfl (five_cells (by go_simp) (by go_simp) (by go_simp) (by go_simp) (by go_simp)) (partC_one _) (by omega) (by simp; omega) ?_)
        intro A2 c2 w4 hown4 hb4 hfar
        have HL4 := Lib.hid (HL2.out.grow HF3.out HO3.out Fx.out hpc x1 (Nat.le_trans x2 (by omega)) hown4 hb4 hfar)
        clear hown4 hb4 hfar
        go_wp2_with fail
        exact ⟨⟨k + 1, A2, c2, ms ++ [x.at_ pA pc], by omega, by simp; omega, by go_num, by simp, HL4.out⟩, by simp [intOf]; omega⟩
      · go_wp2_with fail
        exact ⟨⟨k + 1, LA, lc, ms, by omega, by omega, by go_num, rfl, HL2.out⟩, by simp [intOf]; omega⟩
    · go_wp2_with fail
      refine (HN.out wr 40 (by omega) HL1.out.feed).mono ?_
      rintro e w2 ⟨v2, rfl, a0, a1, _, hS, hO⟩
      have HL2 := Lib.hid (HL1.out.turn (HL1.out.feed.turn hS hO) hO)
      clear hS hO HL1
      by_cases hv : v2 = 0
      · subst hv
        go_wp2_with fail
        refine (HG.out w2 ⟨#[97, 110, 99, 104, 111, 114]⟩ (by decide) HL2.out.feed).mono ?_
        rintro e w3 ⟨x, pA, pc, rfl, x1, x2, ox, hF3, hO3⟩
        have hpc := ox.cap; have Fx := Lib.hid (ox.flat portC_len3); clear ox
        have HF3 := Lib.hid hF3; clear hF3
        have HO3 := Lib.hid hO3; clear hO3
        have s2 := HL2.out.old.size
        have s3 := HO3.out.size
        have HL3 := Lib.hid (HL2.out.turn HF3.out HO3.out)
        dsimp only [argV]
        go_wp2_with (at_builtin; refine wpList_append_far rfl _ _ _ rfl w.heap.size 59 (.agg #[.string ⟨#[]⟩, .int .i64 0, .slice none 0 0, .int .i64 0, .int .i64 0]) 5 64 Try.underlying29 infoPart rfl (by omega) (by omega) partC ms ⟨x.code, x.slot, pA, pc, x.ports, x.price, x.grams⟩ LA lc rfl (HL3.out.own.keep (balloc _ _)) w3.heap.size _ rfl rfl (five_cells (by go_simp) (by go_simp) (by go_simp) (by go_simp) (by go_simp)) (partC_one _) (by omega) (by simp; omega) ?_)
        intro A2 c2 w4 hown4 hb4 hfar
        have HL4 := Lib.hid (HL2.out.grow HF3.out HO3.out Fx.out hpc x1 (Nat.le_trans x2 (by omega)) hown4 hb4 hfar)
        clear hown4 hb4 hfar
        go_wp2_with fail
        go_ret
        have := HL4.out.drawn (by simp; omega)
        simpa using this
      · have hvb : (v2 == 0) = false := by simp [hv]
        by_cases hv1 : v2 = 1
        · subst hv1
          go_wp2_with fail
          go_loopw [3, 6] (fun out i wr => ∃ (k2 : Nat) (MA : Option Addr) (mc : Nat) (ns : List PartM), k2 ≤ ns.length ∧ ns.length ≤ 17 ∧ i = .int .i64 k2 ∧ out = .slice MA ns.length mc ∧ ListSt w wr b A c xs nt tb MA mc ns) (fun out _ _ => 17 - outLen out)
          case atStart => exact ⟨0, LA, lc, ms, Nat.zero_le _, by omega, rfl, rfl, HL2.out⟩
          case round =>
            obtain ⟨k2, MA, mc, ns, hk2, hnl, rfl, rfl, hM⟩ := hrel
            have HM1 := Lib.hid hM; clear hM
            go_wp2_with fail
            refine (HN.out _ 2 (by omega) HM1.out.feed).mono ?_
            rintro e w4 ⟨v4, rfl, c0, c1, _, hS, hO⟩
            have HM2 := Lib.hid (HM1.out.turn (HM1.out.feed.turn hS hO) hO)
            have c1 := c1 (by omega)
            clear hS hO HM1
            by_cases hlt2 : (ns.length : Int) < 16 + v4
            · have hk17 : k2 ≤ 16 := by omega
              have hnl2 : ns.length ≤ 16 := by omega
              go_wp2_with fail
              have hsz : ∀ t : ByteArray, (⟨#[120]⟩ ++ t.extract k2 (k2 + 1) : ByteArray).size ≤ 64 := fun t => by
                rw [ByteArray.size_append, ByteArray.size_extract]
                have : (⟨#[120]⟩ : ByteArray).size = 1 := rfl
                omega
              refine (HG.out w4 _ (hsz _) HM2.out.feed).mono ?_
              rintro e w5 ⟨x, pA, pc, rfl, x1, x2, ox, hF5, hO5⟩
              have hpc := ox.cap; have Fx := Lib.hid (ox.flat portC_len3); clear ox
              have HF5 := Lib.hid hF5; clear hF5
              have HO5 := Lib.hid hO5; clear hO5
              have s4 := HM2.out.old.size
              have s5 := HO5.out.size
              have HM3 := Lib.hid (HM2.out.turn HF5.out HO5.out)
              dsimp only [argV]
              go_wp2_with (at_builtin; refine wpList_append_far rfl _ _ _ rfl w.heap.size 59 (.agg #[.string ⟨#[]⟩, .int .i64 0, .slice none 0 0, .int .i64 0, .int .i64 0]) 5 64 Try.underlying29 infoPart rfl (by omega) (by omega) partC ns ⟨x.code, x.slot, pA, pc, x.ports, x.price, x.grams⟩ MA mc rfl (HM3.out.own.keep (balloc _ _)) w5.heap.size _ rfl rfl (five_cells (by go_simp) (by go_simp) (by go_simp) (by go_simp) (by go_simp)) (partC_one _) (by omega) (by simp; omega) ?_)
              intro A6 c6 w6 hown6 hb6 hfar6
              have HM4 := Lib.hid (HM2.out.grow HF5.out HO5.out Fx.out hpc x1 (Nat.le_trans x2 (by omega)) hown6 hb6 hfar6)
              clear hown6 hb6 hfar6
              go_wp2_with fail
              exact ⟨⟨k2 + 1, A6, c6, ns ++ [x.at_ pA pc], by simp; omega, by simp; omega, by go_num, by simp, HM4.out⟩, by simp [outLen]; omega⟩
            · go_wp2_with fail
              go_ret
              exact HM2.out.drawn (by omega)
        · have hvb1 : (v2 == 1) = false := by simp [hv1]
          clear hv hv1
          go_wp2_with fail
          go_ret
          exact HL2.out.drawn (by omega)

end Go.Proofs.Ytioblfbhjkkgoaa

namespace Go.Proofs.Ytioblfbhjkkgoaa
set_option maxRecDepth 100000
open Go.RowKit

def DrawnJoints : World → Nat → Option Addr → Nat → List Int → Ending → World → Prop := DrawnList 64 62 3 jointC (fun _ => True)
set_option maxHeartbeats 2000000 in
theorem l17DrawJoints_any (A : Option Addr) (c b : Nat) (xs : List Int) (w : World) (hF : Feed w b A c xs) :
    Calls Try.prog 59 #[.pointer (some ⟨b, 0, none⟩)] w (DrawnJoints w b A c xs) := by
  have HN : Hid (∀ (v : World) (n : Int), n < 20000 → Feed v b A c xs → Calls Try.prog 72 #[.pointer (some ⟨b, 0, none⟩), .int .i64 n] v (Drawn v b A c xs n)) := fun v n hn h => l01Next_any A c b xs n v h.src h.rd h.byte h.small (by omega)
  have HL : Hid (GrowSt w (w.alloc (.cells #[] 62)) b A c xs 62 3 jointC (some ⟨w.heap.size, 0, none⟩) 0 []) := GrowSt.made hF
  have hjl : ∀ j, (jointC j).length = 3 := fun j => rfl
  have hj1 : ∀ j, ∀ u ∈ jointC j, u.oneCell' = true := fun j u hu => by
    simp only [jointC, List.mem_cons, List.not_mem_nil, or_false] at hu
    rcases hu with rfl | rfl | rfl <;> rfl
  have HJL := Lib.hid hjl; clear hjl
  have HJ1 := Lib.hid hj1; clear hj1
  clear hF
  go_enter Try.func59, Try.ntmps59
  go_wp2_with fail
  generalize w.alloc (.cells #[] 62) = W at HL ⊢
  refine (HN.out W 4 (by omega) HL.out.feed).mono ?_
  rintro e w1 ⟨v, rfl, v0, v1, _, hS, hO⟩
  have HL1 := Lib.hid (HL.out.turn (HL.out.feed.turn hS hO) hO)
  have v1 := v1 (by omega)
  clear hS hO HL
  go_wp2_with fail
  go_loopw [3, 4] (fun out i wr => ∃ (q : Int) (LA : Option Addr) (lc : Nat) (ms : List (Int × Int × Int)), 0 ≤ q ∧ (ms.length : Int) + q ≤ 4 ∧ i = .int .i64 q ∧ out = .slice LA ms.length lc ∧ GrowSt w wr b A c xs 62 3 jointC LA lc ms) (fun _ i _ => (intOf i).toNat)
  case atStart => exact ⟨v, _, _, [], v0, by simp; omega, rfl, rfl, HL1.out⟩
  case round =>
    obtain ⟨q, LA, lc, ms, q0, q1, rfl, rfl, hL⟩ := hrel
    have HL1 := Lib.hid hL; clear hL
    by_cases hq : 0 < q
    · go_wp2_with fail
      refine (HN.out wr 2 (by omega) HL1.out.feed).mono ?_
      rintro e w2 ⟨a, rfl, a0, a1, _, hS, hO⟩
      have HL2 := Lib.hid (HL1.out.turn (HL1.out.feed.turn hS hO) hO)
      have a1 := a1 (by omega)
      clear hS hO HL1
      go_wp2_with fail
      refine (HN.out w2 (2 - a) (by omega) HL2.out.feed).mono ?_
      rintro e w3 ⟨d, rfl, d0, d1, d2, hS, hO⟩
      have HL3 := Lib.hid (HL2.out.turn (HL2.out.feed.turn hS hO) hO)
      have hd : d < 3 := by
        by_cases h : 1 < 2 - a
        · have := d1 h; omega
        · have := d2 (by omega); omega
      clear hS hO HL2 d1 d2
      go_wp2_with fail
      refine (HN.out w3 3 (by omega) HL3.out.feed).mono ?_
      rintro e w4 ⟨k, rfl, k0, k1, _, hS, hO⟩
      have HL4 := Lib.hid (HL3.out.turn (HL3.out.feed.turn hS hO) hO)
      have s4 := HL4.out.old.size
      clear hS hO HL3 k1
      go_wp2_with (at_builtin; refine wpList_append_far rfl _ _ _ rfl w.heap.size 62 (.agg #[.int .i64 0, .int .i64 0, .int .i64 0]) 3 24 Try.underlying31 infoJoint rfl (by omega) (by omega) jointC ms (a, a + 1 + d, k) LA lc rfl (HL4.out.own.keep (balloc _ _)) w4.heap.size _ rfl rfl (three_cells (by go_simp) (by go_simp) (by go_simp)) (HJ1.out _) (by omega) (by simp; omega) ?_)
      intro A2 c2 w5 hown5 hb5 _
      have HL5 := Lib.hid (HL4.out.grow hown5 hb5)
      clear hown5 hb5
      go_wp2_with fail
      exact ⟨⟨q - 1, A2, c2, ms ++ [(a, a + 1 + d, k)], by omega, by simp; omega, by go_num, by simp, HL5.out⟩, by simp [intOf]; omega⟩
    · go_wp2_with fail
      refine (HN.out wr 40 (by omega) HL1.out.feed).mono ?_
      rintro e w2 ⟨v2, rfl, a0, a1, _, hS, hO⟩
      have HL2 := Lib.hid (HL1.out.turn (HL1.out.feed.turn hS hO) hO)
      clear hS hO HL1 a1
      by_cases hv : v2 = 0
      · subst hv
        go_wp2_with fail
        refine (HN.out w2 9 (by omega) HL2.out.feed).mono ?_
        rintro e w3 ⟨a, rfl, a0, a1, _, hS, hO⟩
        have HL3 := Lib.hid (HL2.out.turn (HL2.out.feed.turn hS hO) hO)
        have a1 := a1 (by omega)
        clear hS hO HL2
        go_wp2_with fail
        refine (HN.out w3 9 (by omega) HL3.out.feed).mono ?_
        rintro e w4 ⟨d, rfl, d0, d1, _, hS, hO⟩
        have HL4 := Lib.hid (HL3.out.turn (HL3.out.feed.turn hS hO) hO)
        clear hS hO HL3 d1
        go_wp2_with fail
        refine (HN.out w4 11 (by omega) HL4.out.feed).mono ?_
        rintro e w5 ⟨k, rfl, k0, k1, _, hS, hO⟩
        have HL5 := Lib.hid (HL4.out.turn (HL4.out.feed.turn hS hO) hO)
        have s5 := HL5.out.old.size
        clear hS hO HL4 k1
        go_wp2_with (at_builtin; refine wpList_append_far rfl _ _ _ rfl w.heap.size 62 (.agg #[.int .i64 0, .int .i64 0, .int .i64 0]) 3 24 Try.underlying31 infoJoint rfl (by omega) (by omega) jointC ms (a - 1, d, k) LA lc rfl (HL5.out.own.keep (balloc _ _)) w5.heap.size _ rfl rfl (three_cells (by go_simp) (by go_simp) (by go_simp)) (HJ1.out _) (by omega) (by simp; omega) ?_)
        intro A2 c2 w6 hown6 hb6 _
        have HL6 := Lib.hid (HL5.out.grow hown6 hb6)
        clear hown6 hb6
        go_wp2_with fail
        go_ret
        have := HL6.out.drawn (m := 64) (G := fun _ => True) HJL.out (by simp; omega) (fun _ _ => trivial)
        simp only [List.length_append, List.length_cons, List.length_nil, Nat.zero_add] at this
        exact this
      · have hvb : (v2 == 0) = false := by simp [hv]
        by_cases hv1 : v2 = 1
        · subst hv1
          go_wp2_with fail
          go_loopw [3] (fun out wr => ∃ (MA : Option Addr) (mc : Nat) (ns : List (Int × Int × Int)), ns.length ≤ 13 ∧ out = .slice MA ns.length mc ∧ GrowSt w wr b A c xs 62 3 jointC MA mc ns) (fun out _ => 13 - lenOf out)
          case atStart => exact ⟨LA, lc, ms, by omega, rfl, HL2.out⟩
          case round =>
            obtain ⟨MA, mc, ns, hnl, rfl, hM⟩ := hrel
            have HM1 := Lib.hid hM; clear hM
            go_wp2_with fail
            refine (HN.out _ 2 (by omega) HM1.out.feed).mono ?_
            rintro e w4 ⟨v4, rfl, c0, c1, _, hS, hO⟩
            have HM2 := Lib.hid (HM1.out.turn (HM1.out.feed.turn hS hO) hO)
            have c1 := c1 (by omega)
            have s4 := HM2.out.old.size
            clear hS hO HM1
            by_cases hlt2 : (ns.length : Int) < 12 + v4
            · have hnl2 : ns.length ≤ 12 := by omega
              go_wp2_with (at_builtin; refine wpList_append_far rfl _ _ _ rfl w.heap.size 62 (.agg #[.int .i64 0, .int .i64 0, .int .i64 0]) 3 24 Try.underlying31 infoJoint rfl (by omega) (by omega) jointC ns (0, 1, 0) MA mc rfl (HM2.out.own.keep (balloc _ _)) w4.heap.size _ rfl rfl (three_cells (by go_simp) (by go_simp) (by go_simp)) (HJ1.out _) (by omega) (by simp; omega) ?_)
              intro A6 c6 w6 hown6 hb6 _
              have HM4 := Lib.hid (HM2.out.grow hown6 hb6)
              clear hown6 hb6
              go_wp2_with fail
              exact ⟨⟨A6, c6, ns ++ [(0, 1, 0)], by simp; omega, by simp, HM4.out⟩, by simp [lenOf]; omega⟩
            · go_wp2_with fail
              go_ret
              exact HM2.out.drawn HJL.out (by omega) (fun _ _ => trivial)
        · have hvb1 : (v2 == 1) = false := by simp [hv1]
          clear hv hv1
          go_wp2_with fail
          go_ret
          exact HL2.out.drawn HJL.out (by omega) (fun _ _ => trivial)

/-- Parts and joints drawn. -/
def DrawnBoth (w : World) (b : Nat) (A : Option Addr) (c : Nat) (xs : List Int) (e : Ending) (w' : World) : Prop :=
  ∃ (LA JA : Option Addr) (lc jc : Nat) (vs : List PartT) (js : List (Int × Int × Int)), e = .returned (.tuple #[.slice LA vs.length lc, .slice JA js.length jc]) ∧ FlatR w' w.heap.size w'.heap.size LA vs ∧ vs.length ≤ 64 ∧ (∀ x ∈ vs, x.code.size ≤ 64 ∧ x.ports.length ≤ 64) ∧ Flat w' w.heap.size w'.heap.size 62 3 jointC JA js ∧ js.length ≤ 64 ∧ Feed w' b A c xs ∧ Only b (b + 1) w w'
theorem l18Draw_any (A : Option Addr) (c b : Nat) (xs : List Int) (w : World) (hF : Feed w b A c xs) :
    Calls Try.prog 40 #[.pointer (some ⟨b, 0, none⟩)] w (DrawnBoth w b A c xs) := by
  have HP := Lib.hid (l16List_any A c b xs w hF)
  have HJ : Hid (∀ v : World, Feed v b A c xs → Calls Try.prog 59 #[.pointer (some ⟨b, 0, none⟩)] v (DrawnJoints v b A c xs)) := fun v h => l17DrawJoints_any A c b xs v h
  have hlb := hF.src.lt
  clear hF
  go_enter Try.func40, Try.ntmps40
  go_wp2_with fail
  refine HP.out.mono ?_
  rintro e w1 ⟨LA, lc, vs, rfl, fv, _, hvl, hvs, hF1, hO1⟩
  have HF1 := Lib.hid hF1; clear hF1
  have HVS := Lib.hid hvs; clear hvs
  go_wp2_with fail
  refine (HJ.out w1 HF1.out).mono ?_
  rintro e w2 ⟨JA, jc, js, rfl, fj, _, hjl, _, hF2, hO2⟩
  have HF2 := Lib.hid hF2; clear hF2 HF1
  have HR := Lib.hid ((fv.only hO2 (Nat.le_refl _) (Or.inr (by omega))).mono (Nat.le_refl _) hO2.size)
  have HRj := Lib.hid (fj.mono hO1.size (Nat.le_refl _))
  clear fv fj
  go_wp2_with fail
  go_ret2
  exact ⟨LA, JA, lc, jc, vs, js, rfl, HR.out, hvl, HVS.out, HRj.out, hjl, HF2.out, hO1.trans hO2⟩

end Go.Proofs.Ytioblfbhjkkgoaa

namespace Go.Proofs.Ytioblfbhjkkgoaa
set_option maxRecDepth 100000
open Go.RowKit

/-- A source over the law's code. -/
theorem feed_made {w v : World} {b c : Nat} {A : Option Addr} {xs : List Int} (hr : Rd w w.heap.size 1 uC A xs) (hx : ∀ x ∈ xs, 0 ≤ x ∧ x < 256) (hm : xs.length ≤ 4096) (h1 : Src v b A c xs) (h2 : w.heap.size ≤ b) (h3 : Below w.heap.size w v) : Feed v b A c xs :=
  ⟨h1, (hr.below h3).more h2, hx, hm⟩
theorem smallV_of {vs : List PartT} (h1 : vs.length ≤ 64) (h2 : ∀ x ∈ vs, x.code.size ≤ 64 ∧ x.ports.length ≤ 64) : SmallV vs := ⟨by omega, fun x hx => by
  have := h2 x hx
  unfold maxLen
  omega⟩
/-- Parts and joints, and a number between 0 and M. -/
def GivenBoth (M : Int) (w : World) (e : Ending) (w' : World) : Prop := ∃ (LA JA : Option Addr) (lc jc : Nat) (vs : List PartT) (js : List (Int × Int × Int)) (m : Int), e = .returned (.tuple #[.slice LA vs.length lc, .slice JA js.length jc, .int .i64 m]) ∧ RdV w' w'.heap.size LA vs ∧ SmallV vs ∧ Rd w' w'.heap.size 3 jointC JA js ∧ js.length ≤ 64 ∧ 0 ≤ m ∧ m ≤ M ∧ Below w.heap.size w w'

/-- Parts and joints. -/
def GivenJust (w : World) (e : Ending) (w' : World) : Prop := ∃ (LA JA : Option Addr) (lc jc : Nat) (vs : List PartT) (js : List (Int × Int × Int)), e = .returned (.tuple #[.slice LA vs.length lc, .slice JA js.length jc]) ∧ RdV w' w'.heap.size LA vs ∧ SmallV vs ∧ Rd w' w'.heap.size 3 jointC JA js ∧ js.length ≤ 64 ∧ Below w.heap.size w w'
theorem DrawFrontier_any (A : Option Addr) (c : Nat) (xs : List Int) (w : World) (hr : Rd w w.heap.size 1 uC A xs) (hx : ∀ x ∈ xs, 0 ≤ x ∧ x < 256) (hm : xs.length ≤ 4096) :
    Calls Try.prog 19 #[.slice A xs.length c] w (GivenJust w) := by
  have HS := Lib.hid (l01From_any A c xs w hr hx hm)
  have HFd : Hid (∀ (v : World) (b : Nat), Src v b A c xs → w.heap.size ≤ b → Below w.heap.size w v → Feed v b A c xs) := fun v b h1 h2 h3 => feed_made hr hx hm h1 h2 h3
  have HB : Hid (∀ (v : World) (b : Nat), Feed v b A c xs → Calls Try.prog 40 #[.pointer (some ⟨b, 0, none⟩)] v (DrawnBoth v b A c xs)) := fun v b h => l18Draw_any A c b xs v h
  clear hr hx
  go_enter Try.func19, Try.ntmps19
  go_wp2_with fail
  refine HS.out.mono ?_
  rintro e w1 ⟨b, rfl, hS, hbl, hb1⟩
  have HF1 := Lib.hid (HFd.out w1 b hS hbl hb1)
  clear hS HS HFd
  go_wp2_with fail
  refine (HB.out w1 b HF1.out).mono ?_
  rintro e w2 ⟨LA, JA, lc, jc, vs, js, rfl, fv, hvl, hvs, fj, hjl, hF2, hO2⟩
  have HEnd : Hid (GivenJust w (.returned (.tuple #[.slice LA vs.length lc, .slice JA js.length jc])) w2) := ⟨LA, JA, lc, jc, vs, js, rfl, fv.rd, smallV_of hvl hvs, fj.rd, hjl, hb1.trans (hO2.below hbl hb1.size)⟩
  clear fv hvl hvs fj hF2 hO2 HF1
  go_wp2_with fail
  go_ret2
  exact HEnd.out

end Go.Proofs.Ytioblfbhjkkgoaa
