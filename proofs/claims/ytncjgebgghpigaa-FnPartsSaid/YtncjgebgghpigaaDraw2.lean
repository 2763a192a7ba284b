/- DERIVED. The source that the draws read: how it is made; words drawn. -/
import Derived.Test.YtncjgebgghpigaaDraw
import Derived.Test.YtncjgebgghpigaaOwn
import Derived.StillTailTactics
namespace Go.Proofs.Ytncjgebgghpigaa
set_option maxRecDepth 100000
open Go.RowKit

/-- A source over the code, in a block of the call's own. -/
def MadeSrc (w : World) (A : Option Addr) (c : Nat) (xs : List Int) (e : Ending) (w' : World) : Prop := ∃ b, e = .returned (.pointer (some ⟨b, 0, none⟩)) ∧ Src w' b A c xs ∧ w.heap.size ≤ b ∧ Below w.heap.size w w'
theorem src_seed {w : World} {b c k : Nat} {A : Option Addr} {xs : List Int} {sd sd' : Int} (p0 : w.cell? ⟨b, 0, none⟩ = some (.slice A xs.length c)) (p1 : w.cell? ⟨b, 1, none⟩ = some (.int .i64 k)) (p2 : w.cell? ⟨b, 2, none⟩ = some (.int .i64 sd)) (hk : k ≤ xs.length) (h0 : 0 ≤ sd') (h2 : sd' < 2147483647) (hf : ∀ j, w.frozen? ⟨b, j, none⟩ = false) (hb : b < w.heap.size) : Src (w.setCell ⟨b, 2, none⟩ (.int .i64 sd')) b A c xs := by
  refine ⟨k, sd', by rw [setCell_other (by omega)]; exact p0, by rw [setCell_other (by omega)]; exact p1, setCell_same p2, hk, h0, h2, fun j => by rw [World.frozen?_setCell]; exact hf j, by simpa [World.setCell] using hb⟩
theorem Src.drew {w : World} {b c : Nat} {A : Option Addr} {xs : List Int} (h : Src w b A c xs) : Src w.drew b A c xs := by
  obtain ⟨k, sd, q0, q1, q2, hk, h0, h2, hf, hb⟩ := h
  exact ⟨k, sd, by simpa using q0, by simpa using q1, by simpa using q2, hk, h0, h2, fun j => by simpa using hf j, by simpa using hb⟩

set_option maxHeartbeats 1000000 in
theorem l01From_any (A : Option Addr) (c : Nat) (xs : List Int) (w : World) (hr : Rd w w.heap.size 1 uC A xs) (hx : ∀ x ∈ xs, 0 ≤ x ∧ x < 256) (hm : xs.length ≤ 4096) :
    Calls Try.prog 25 #[.slice A xs.length c] w (MadeSrc w A c xs) := by
  have hX := Lib.hid hx; clear hx
  go_enter Try.func25, Try.ntmps25
  go_wp2_with fail
  have hS0 : Src (w.alloc (.cells #[.slice A xs.length c, .int .i64 0, .int .i64 61043] 66)) w.heap.size A c xs := ⟨0, 61043, by go_simp, by go_simp, by go_simp, Nat.zero_le _, by omega, by omega, fun j => by go_simp, by simp⟩
  have HS0 := Lib.hid hS0; clear hS0
  go_loopw [4] (fun i wr => ∃ k : Nat, k ≤ xs.length ∧ i = .int .i64 k ∧ Src wr w.heap.size A c xs ∧ Below w.heap.size w wr) (fun i _ => xs.length - (intOf i).toNat)
  case atStart => exact ⟨0, Nat.zero_le _, rfl, HS0.out, balloc _ _⟩
  case round =>
    obtain ⟨k, hk, rfl, hS, hb⟩ := hrel
    obtain ⟨k1, sd, p0, p1, p2, hk1, h0, h2, hfz, hbw⟩ := hS
    have HT := Lib.hid hk1; clear hk1
    have f2 := hfz 2
    have Hfz := Lib.hid hfz; clear hfz
    by_cases hlt : k < xs.length
    · by_cases h64 : k < 64
      · have hxk : xs[k]? = some xs[k] := List.getElem?_eq_getElem hlt
        obtain ⟨ab, ao, rfl, hab, qv⟩ := (hr.below hb).at1 hxk rfl
        obtain ⟨v0, v1⟩ := hX.out _ (List.mem_of_getElem? hxk)
        rw [Nat.mul_one] at qv
        clear hxk
        generalize xs[k] = v at v0 v1 qv
        go_wp2_with fail
        go_still_tail 15, (by kernel_rfl)
        change wpList _ _ _ _ _ wr.drew
        have g0 : 0 ≤ (sd * 83 + v) % 2147483647 := by omega
        have g1 : (sd * 83 + v) % 2147483647 < 2147483647 := by omega
        have HS := Lib.hid (src_seed (w := wr) (sd := sd) p0 p1 p2 HT.out g0 g1 Hfz.out hbw)
        go_wp2_with fail
        exact ⟨⟨k + 1, by omega, by go_num, HS.out.drew, (hb.setCell (p := ⟨w.heap.size, 2, none⟩) (Nat.le_refl _) _).drew⟩, by simp [intOf]; omega⟩
      · go_wp2_with fail
        go_ret
        exact ⟨w.heap.size, rfl, ⟨k1, sd, p0, p1, p2, HT.out, h0, h2, Hfz.out, hbw⟩, Nat.le_refl _, hb⟩
    · go_wp2_with fail
      go_ret
      exact ⟨w.heap.size, rfl, ⟨k1, sd, p0, p1, p2, HT.out, h0, h2, Hfz.out, hbw⟩, Nat.le_refl _, hb⟩

/-- A source in hand: its block, its code and what is known of the code. -/
structure Feed (w : World) (b : Nat) (A : Option Addr) (c : Nat) (xs : List Int) : Prop where
  src : Src w b A c xs
  rd : Rd w b 1 uC A xs
  byte : ∀ x ∈ xs, 0 ≤ x ∧ x < 256
  small : xs.length ≤ 4096
section
variable {w w' : World} {b c : Nat} {A : Option Addr} {xs : List Int}
theorem Src.lt (h : Src w b A c xs) : b < w.heap.size := by
  obtain ⟨k, sd, q0, q1, q2, hk, h0, h2, hf, hb⟩ := h
  exact hb
theorem Src.next (h : Src w b A c xs) (hb : Below w.heap.size w w') : Src w' b A c xs := by
  obtain ⟨k, sd, q0, q1, q2, hk, h0, h2, hf, hl⟩ := h
  have e := hb.block b hl
  refine ⟨k, sd, (World.cell?_of_block (a := ⟨b, 0, none⟩) e).trans q0, (World.cell?_of_block (a := ⟨b, 1, none⟩) e).trans q1, (World.cell?_of_block (a := ⟨b, 2, none⟩) e).trans q2, hk, h0, h2, fun j => ?_, Nat.lt_of_lt_of_le hl hb.size⟩
  have := hf j
  unfold World.frozen? at this ⊢
  simp only [e] at this ⊢
  exact this
theorem Feed.next (h : Feed w b A c xs) (hb : Below w.heap.size w w') : Feed w' b A c xs :=
  ⟨h.src.next hb, h.rd.below ((Only.of_below (lo := b) (hi := b) hb).below (Nat.le_refl _) (Nat.le_of_lt h.src.lt)), h.byte, h.small⟩
theorem Feed.turn (h : Feed w b A c xs) (hS : Src w' b A c xs) (hO : Only b (b + 1) w w') : Feed w' b A c xs :=
  ⟨hS, h.rd.below (hO.below (Nat.le_refl _) (Nat.le_of_lt h.src.lt)), h.byte, h.small⟩
end
theorem table_at (w : World) (E : TypeId) (l : List ByteArray) (cur : Array Value) (hc : cur = (l.map Value.string).toArray) {k : Nat} (hk : k < l.length) : (w.alloc (.cells cur E)).cell? ⟨w.heap.size, k, none⟩ = some (.string l[k]) := by
  subst hc
  rw [cell_of_row _ _ _ _ E (0, 0) (heap_alloc_new w _)]
  simp [hk]

/-- A text drawn. -/
def DrawnText (w : World) (b : Nat) (A : Option Addr) (c : Nat) (xs : List Int) (e : Ending) (w' : World) : Prop := ∃ t : ByteArray, e = .returned (.string t) ∧ t.size ≤ 64 ∧ Feed w' b A c xs ∧ Only b (b + 1) w w'
def goods : List ByteArray := [⟨#[97, 100, 97]⟩, ⟨#[98, 114, 117, 110, 111]⟩, ⟨#[99, 108, 97, 114, 97]⟩, ⟨#[100, 111, 114, 97]⟩, ⟨#[101, 109, 105, 108]⟩, ⟨#[102, 114, 105, 100, 97]⟩, ⟨#[103, 117, 115, 116, 97, 118]⟩, ⟨#[104, 97, 110, 110, 97]⟩, ⟨#[105, 118, 97, 110]⟩, ⟨#[106, 97, 110, 97]⟩, ⟨#[107, 97, 114, 108]⟩, ⟨#[108, 101, 110, 97]⟩]
set_option maxHeartbeats 1000000 in
theorem l01Good_any (A : Option Addr) (c b : Nat) (xs : List Int) (w : World) (hF : Feed w b A c xs) :
    Calls Try.prog 50 #[.pointer (some ⟨b, 0, none⟩)] w (DrawnText w b A c xs) := by
  have HN : Hid (∀ v : World, Feed v b A c xs → Calls Try.prog 34 #[.pointer (some ⟨b, 0, none⟩), .int .i64 12] v (Drawn v b A c xs 12)) := fun v h => l01Next_any A c b xs 12 v h.src h.rd h.byte h.small (by omega)
  have HT : Hid (∀ (k : Nat), k < 12 → ∃ t : ByteArray, t.size ≤ 64 ∧ ∀ cur, cur = (goods.map Value.string).toArray → (w.alloc (.cells cur 9)).cell? ⟨w.heap.size, k, none⟩ = some (.string t)) := fun k hk => by
    have hk' : k < goods.length := hk
    refine ⟨goods[k], ?_, fun cur hc => table_at w _ goods cur hc hk'⟩
    have : ∀ t ∈ goods, t.size ≤ 64 := by decide
    exact this _ (List.getElem_mem _)
  have hlb := hF.src.lt
  have HF := Lib.hid hF; clear hF
  go_enter Try.func50, Try.ntmps50
  go_wp2_with fail
  have HV := Lib.hid (HF.out.next (balloc w (.cells (goods.map Value.string).toArray 9)))
  have HO : Hid (Only b (b + 1) w (w.alloc (.cells (goods.map Value.string).toArray 9))) := Only.alloc _
  have HC : Hid (∀ (k : Nat), k < 12 → ∃ t : ByteArray, t.size ≤ 64 ∧ (w.alloc (.cells (goods.map Value.string).toArray 9)).cell? ⟨w.heap.size, k, none⟩ = some (.string t)) := fun k hk => by
    obtain ⟨t, h1, h2⟩ := HT.out k hk
    exact ⟨t, h1, h2 _ rfl⟩
  change Calls Try.prog 34 _ (w.alloc (.cells (goods.map Value.string).toArray 9)) _
  have hgV : w.heap.size < (w.alloc (.cells (goods.map Value.string).toArray 9)).heap.size := by simp
  generalize w.alloc (.cells (goods.map Value.string).toArray 9) = V at HV HO HC hgV ⊢
  refine (HN.out V HV.out).mono ?_
  rintro e w1 ⟨v, rfl, v0, v1, v2, hS, hO⟩
  obtain ⟨k, rfl⟩ := Int.eq_ofNat_of_zero_le v0
  have hk : k < 12 := by omega
  obtain ⟨t, ht, q⟩ := HC.out k hk
  have q1 : w1.cell? ⟨w.heap.size, k, none⟩ = some (.string t) := (World.cell?_of_block (a := ⟨w.heap.size, k, none⟩) (hO.block w.heap.size hgV (fun h => by omega))).trans q
  have HR := Lib.hid (HV.out.turn hS hO)
  have HOO := Lib.hid (HO.out.trans hO)
  clear v1 v2 hS hO q
  go_wp2_with fail
  go_ret
  exact ⟨t, rfl, ht, HR.out, HOO.out⟩
end Go.Proofs.Ytncjgebgghpigaa
