/- DERIVED. Words for memory: a block of the call's own that is known to lie there whole, the elements of a slice that have been written so far. -/
import Derived.Test.YtioblfbhjkkgoaaBase
namespace Go.Proofs.Ytioblfbhjkkgoaa
set_option maxRecDepth 100000
open Go.RowKit

/-- Block g is a row of m cells of element type E, none of them frozen. -/
def Row (w : World) (g : Nat) (E : TypeId) (m : Nat) : Prop := ∃ cur, w.heap[g]? = some (.cells cur E (0, 0)) ∧ cur.size = m

section
variable {w w' : World} {g m : Nat} {E : TypeId}
theorem Row.lt (h : Row w g E m) : g < w.heap.size := by
  obtain ⟨cur, h, _⟩ := h
  exact (Array.getElem?_eq_some_iff.1 h).1
theorem Row.cell (h : Row w g E m) {j : Nat} (hj : j < m) : ∃ v, w.cell? ⟨g, j, none⟩ = some v := by
  obtain ⟨cur, h, e⟩ := h
  exact ⟨cur[j]'(by omega), by rw [cell_of_row w g j cur E (0, 0) h]; exact Array.getElem?_eq_getElem (by omega)⟩
theorem Row.frozen (h : Row w g E m) (j : Nat) : w.frozen? ⟨g, j, none⟩ = false := by
  obtain ⟨cur, h, e⟩ := h
  simp [World.frozen?, h]
theorem Row.new (w : World) (cur : Array Value) (E : TypeId) : Row (w.alloc (.cells cur E)) w.heap.size E cur.size := ⟨cur, heap_alloc_new w _, rfl⟩
theorem Row.alloc (h : Row w g E m) (o : Obj) : Row (w.alloc o) g E m := by
  have hl := h.lt
  obtain ⟨cur, h, e⟩ := h
  exact ⟨cur, (Below.heap_alloc w o g hl).trans h, e⟩
theorem Row.drew (h : Row w g E m) : Row w.drew g E m := h
theorem Row.setCell (h : Row w g E m) (p : Addr) (u : Value) : Row (w.setCell p u) g E m := by
  obtain ⟨cur, h, e⟩ := h
  by_cases hp : g = p.block
  · subst hp
    refine ⟨if p.spot.isSome then cur else cur.setIfInBounds p.off u, by simp [World.setCell, Array.getElem?_modify, h], ?_⟩
    split <;> simp [e]
  · exact ⟨cur, (Below.heap_setCell w p u g hp).trans h, e⟩
theorem Row.below {B : Nat} (h : Row w g E m) (hb : Below B w w') (hg : g < B) : Row w' g E m := by
  obtain ⟨cur, h, e⟩ := h
  exact ⟨cur, (hb.block g hg).trans h, e⟩
theorem Row.next (h : Row w g E m) (hb : Below w.heap.size w w') : Row w' g E m := h.below hb h.lt
theorem Row.kept (h : Row w g E m) (hb : w'.heap[g]? = w.heap[g]?) : Row w' g E m := by
  obtain ⟨cur, h, e⟩ := h
  exact ⟨cur, hb.trans h, e⟩
end

/-- Nothing has turned but blocks from lo up to (and without) hi, and what is new. -/
structure Only (lo hi : Nat) (w w' : World) : Prop where
  os : w'.os = w.os
  tape : w'.tape = w.tape
  output : w'.output = w.output
  size : w.heap.size ≤ w'.heap.size
  block : ∀ k, k < w.heap.size → ¬ (lo ≤ k ∧ k < hi) → w'.heap[k]? = w.heap[k]?
section
variable {w w' w1 w2 : World} {lo hi : Nat}
theorem Only.refl (lo hi : Nat) (w : World) : Only lo hi w w := ⟨rfl, rfl, rfl, Nat.le_refl _, fun _ _ _ => rfl⟩
theorem Only.trans (h : Only lo hi w w1) (k : Only lo hi w1 w2) : Only lo hi w w2 :=
  ⟨k.os.trans h.os, k.tape.trans h.tape, k.output.trans h.output, Nat.le_trans h.size k.size, fun i hi hn => (k.block i (Nat.lt_of_lt_of_le hi h.size) hn).trans (h.block i hi hn)⟩
theorem Only.of_below (hb : Below w.heap.size w w') : Only lo hi w w' := ⟨hb.os, hb.tape, hb.output, hb.size, fun i hi _ => hb.block i hi⟩
theorem Only.setCell {p : Addr} (hp : lo ≤ p.block ∧ p.block < hi) (u : Value) : Only lo hi w (w.setCell p u) :=
  ⟨rfl, rfl, rfl, by simp [World.setCell], fun i _ hn => Below.heap_setCell _ _ _ _ (fun e => hn (by rw [e]; exact hp))⟩
theorem Only.alloc (o : Obj) : Only lo hi w (w.alloc o) := Only.of_below (balloc _ _)
theorem Only.mono {lo' hi' : Nat} (h : Only lo hi w w') (h1 : lo' ≤ lo) (h2 : hi ≤ hi') : Only lo' hi' w w' := ⟨h.os, h.tape, h.output, h.size, fun i hi hn => h.block i hi (fun ⟨a, b⟩ => hn ⟨by omega, by omega⟩)⟩
/-- What is written lies all behind block B: below B nothing has turned. -/
theorem Only.below {B : Nat} (h : Only lo hi w w') (h1 : B ≤ lo) (h2 : B ≤ w.heap.size) : Below B w w' := ⟨h.os, h.tape, h.output, h.size, fun i hi => h.block i (by omega) (fun ⟨a, _⟩ => by omega)⟩
end

/-- A slice of the call's own: its elements are xs; they lie in one block g between lo and hi, which is a row of its element type. -/
def Flat {α : Type} (w : World) (lo hi : Nat) (E : TypeId) (sz : Nat) (f : α → List Value) (A : Option Addr) (xs : List α) : Prop :=
  0 < xs.length → ∃ g m, A = some ⟨g, 0, none⟩ ∧ lo ≤ g ∧ g < hi ∧ Row w g E m ∧ xs.length * sz ≤ m ∧ ∀ k x, xs[k]? = some x → ∀ j v, (f x)[j]? = some v → w.cell? ⟨g, k * sz + j, none⟩ = some v

section
variable {α : Type} {w w' : World} {lo hi lo' hi' sz : Nat} {E : TypeId} {f : α → List Value} {A : Option Addr} {xs ys : List α}
theorem Flat.rd (h : Flat w lo hi E sz f A xs) : Rd w hi sz f A xs := fun hx => by
  obtain ⟨g, m, e, _, hg, _, _, hc⟩ := h hx
  exact ⟨g, 0, e, hg, by simpa using hc⟩
theorem Flat.keep (h : Flat w lo hi E sz f A xs) (hb : ∀ g, lo ≤ g → g < hi → w'.heap[g]? = w.heap[g]?) : Flat w' lo hi E sz f A xs := fun hx => by
  obtain ⟨g, m, e, hl, hg, hr, hm, hc⟩ := h hx
  exact ⟨g, m, e, hl, hg, hr.kept (hb g hl hg), hm, fun k x hk j v hj => (World.cell?_of_block (a := ⟨g, _, none⟩) (hb g hl hg)).trans (hc k x hk j v hj)⟩
theorem Flat.below {B : Nat} (h : Flat w lo hi E sz f A xs) (hb : Below B w w') (hB : hi ≤ B) : Flat w' lo hi E sz f A xs := h.keep fun g _ hg => hb.block g (by omega)
theorem Flat.only {a b : Nat} (h : Flat w lo hi E sz f A xs) (hb : Only a b w w') (hs : hi ≤ w.heap.size) (hd : hi ≤ a ∨ b ≤ lo) : Flat w' lo hi E sz f A xs := h.keep fun g h1 h2 => hb.block g (by omega) (by omega)
theorem Flat.mono (h : Flat w lo hi E sz f A xs) (h1 : lo' ≤ lo) (h2 : hi ≤ hi') : Flat w lo' hi' E sz f A xs := fun hx => by
  obtain ⟨g, m, e, hl, hg, hr, hm, hc⟩ := h hx
  exact ⟨g, m, e, by omega, by omega, hr, hm, hc⟩
theorem Rd.only {a b B : Nat} (h : Rd w B sz f A xs) (hb : Only a b w w') (hs : B ≤ w.heap.size) (hd : B ≤ a) : Rd w' B sz f A xs := h.below (hb.below hd hs)
/-- The next element has been written. -/
theorem Rd.snoc {g : Nat} {k : Nat} {x : α} (h : Rd w hi sz f (some ⟨g, 0, none⟩) (ys.take k)) (hg : g < hi) (hk : ys[k]? = some x) (hc : ∀ j v, (f x)[j]? = some v → w.cell? ⟨g, k * sz + j, none⟩ = some v) :
    Rd w hi sz f (some ⟨g, 0, none⟩) (ys.take (k + 1)) := fun _ => by
  refine ⟨g, 0, rfl, hg, fun k' x' hk' j v hj => ?_⟩
  rw [List.getElem?_take] at hk'
  split at hk'
  · rename_i hlt
    rw [Nat.zero_add]
    by_cases e : k' = k
    · subst e
      rw [hk] at hk'
      obtain rfl := Option.some.inj hk'
      exact hc j v hj
    · obtain ⟨b, o, e2, _, hcell⟩ := h (by
        have := (List.getElem?_eq_some_iff.1 hk).1
        rw [List.length_take]
        omega)
      simp only [Option.some.injEq, Addr.mk.injEq] at e2
      obtain ⟨rfl, rfl, _⟩ := e2
      have := hcell k' x' (by rw [List.getElem?_take, if_pos (by omega)]; exact hk') j v hj
      simpa using this
  · cases hk'
theorem Rd.nothing : Rd w hi sz f A (ys.take 0) := fun h => absurd h (by simp)
theorem Flat.of_rd {g m : Nat} (h : Rd w hi sz f (some ⟨g, 0, none⟩) xs) (hl : lo ≤ g) (hg : g < hi) (hr : Row w g E m) (hm : xs.length * sz ≤ m) : Flat w lo hi E sz f (some ⟨g, 0, none⟩) xs := fun hx => by
  obtain ⟨b, o, e2, _, hcell⟩ := h hx
  simp only [Option.some.injEq, Addr.mk.injEq] at e2
  obtain ⟨rfl, rfl, _⟩ := e2
  exact ⟨g, m, rfl, hl, hg, hr, hm, by simpa using hcell⟩
end

theorem setCell_same {w : World} {g j : Nat} {u v : Value} (h : w.cell? ⟨g, j, none⟩ = some v) : (w.setCell ⟨g, j, none⟩ u).cell? ⟨g, j, none⟩ = some u := by
  unfold World.cell? World.setCell at *
  simp only [Array.getElem?_modify, if_true] at *
  cases hh : w.heap[g]? with
  | none => simp [hh] at h
  | some o =>
    cases o <;> simp [hh] at h ⊢
    rename_i c e fr
    obtain ⟨hj, _⟩ := Array.getElem?_eq_some_iff.1 h
    simp [hj]
theorem setCell_other {w : World} {g j g' j' : Nat} {u : Value} (h : ¬ (g' = g ∧ j' = j)) : (w.setCell ⟨g, j, none⟩ u).cell? ⟨g', j', none⟩ = w.cell? ⟨g', j', none⟩ :=
  World.cell?_setCell_other w _ _ u (fun e => h (by injection e with e1 e2; exact ⟨by omega, by omega⟩))

/-- Cells of block g are written one behind the other, from the j-th on. -/
def putAll (w : World) (g j : Nat) : List Value → World
  | [] => w
  | u :: us => putAll (w.setCell ⟨g, j, none⟩ u) g (j + 1) us
section
variable {g : Nat}
theorem putAll_row {g' m : Nat} {E : TypeId} : ∀ (us : List Value) (w : World) (j : Nat), Row w g' E m → Row (putAll w g j us) g' E m
  | [], _, _, h => h
  | _ :: us, _, _, h => putAll_row us _ _ (h.setCell _ _)
theorem putAll_only {lo hi : Nat} (h1 : lo ≤ g) (h2 : g < hi) : ∀ (us : List Value) (w : World) (j : Nat), Only lo hi w (putAll w g j us)
  | [], w, _ => Only.refl lo hi w
  | _ :: us, _, _ => (Only.setCell (p := ⟨g, _, none⟩) ⟨h1, h2⟩ _).trans (putAll_only h1 h2 us _ _)
theorem putAll_below {B : Nat} (h : B ≤ g) : ∀ (us : List Value) (w : World) (j : Nat), Below B w (putAll w g j us)
  | [], w, _ => Below.refl B w
  | _ :: us, w, _ => ((Below.refl B w).setCell (p := ⟨g, _, none⟩) h _).trans (putAll_below h us _ _)
theorem putAll_other {g' j' : Nat} : ∀ (us : List Value) (w : World) (j : Nat), (g' ≠ g ∨ j' < j ∨ j + us.length ≤ j') → (putAll w g j us).cell? ⟨g', j', none⟩ = w.cell? ⟨g', j', none⟩
  | [], _, _, _ => rfl
  | _ :: us, w, j, h => by
    simp only [List.length_cons] at h
    rw [putAll, putAll_other us _ _ (by omega), setCell_other (by omega)]
theorem putAll_here {m : Nat} {E : TypeId} : ∀ (us : List Value) (w : World) (j : Nat), Row w g E m → j + us.length ≤ m → ∀ i u, us[i]? = some u → (putAll w g j us).cell? ⟨g, j + i, none⟩ = some u
  | [], _, _, _, _, i, u, h => by simp at h
  | v :: us, w, j, hr, hm, 0, u, h => by
    simp only [List.length_cons] at hm
    simp only [List.getElem?_cons_zero, Option.some.injEq] at h
    subst h
    obtain ⟨z, hz⟩ := hr.cell (j := j) (by omega)
    rw [putAll, putAll_other us _ _ (by omega)]
    exact setCell_same hz
  | v :: us, w, j, hr, hm, i + 1, u, h => by
    simp only [List.length_cons] at hm
    have := putAll_here us (w.setCell ⟨g, j, none⟩ v) (j + 1) (hr.setCell _ _) (by omega) i u (by simpa using h)
    rw [putAll, ← this]
    congr 2
    omega
end
theorem Rd.put {α : Type} {w : World} {hi sz g k m : Nat} {E : TypeId} {f : α → List Value} {ys : List α} {x : α} (h : Rd w hi sz f (some ⟨g, 0, none⟩) (ys.take k)) (hg : g < hi) (hr : Row w g E m) (hm : k * sz + sz ≤ m)
    (hlen : ∀ x, (f x).length = sz) (hk : ys[k]? = some x) : Rd (putAll w g (k * sz) (f x)) hi sz f (some ⟨g, 0, none⟩) (ys.take (k + 1)) := by
  refine Rd.snoc (fun hx => ?_) hg hk fun j v hj => putAll_here _ _ _ hr (by rw [hlen]; exact hm) j v hj
  obtain ⟨b, o, e, hB, hc⟩ := h hx
  simp only [Option.some.injEq, Addr.mk.injEq] at e
  obtain ⟨rfl, rfl, _⟩ := e
  refine ⟨g, 0, rfl, hg, fun k' x' hk' j v hj => ?_⟩
  have hkk : k' < k := by
    have := (List.getElem?_eq_some_iff.1 hk').1
    rw [List.length_take] at this
    omega
  have hjj : j < sz := by
    have := (List.getElem?_eq_some_iff.1 hj).1
    rw [hlen] at this
    exact this
  have hmul : (k' + 1) * sz ≤ k * sz := Nat.mul_le_mul_right sz hkk
  rw [Nat.add_mul, Nat.one_mul] at hmul
  rw [putAll_other _ _ _ (by omega)]
  exact hc k' x' hk' j v hj

/-- What a function gives that makes a new slice of these elements. -/
def GivesFlat {α : Type} (w : World) (E : TypeId) (sz : Nat) (f : α → List Value) (xs : List α) (e : Ending) (w' : World) : Prop :=
  ∃ A', e = .returned (.slice A' xs.length xs.length) ∧ Flat w' w.heap.size w'.heap.size E sz f A' xs ∧ Below w.heap.size w w'
theorem Row.made {w : World} {E : TypeId} (z : Array Value) (m : Nat) : Row (w.alloc (.cells (madeCells z m) E)) w.heap.size E m := by
  have h := Row.new w (madeCells z m) E
  rwa [size_madeCells] at h

/-- make([]T, n) -/
theorem made {P : Program} {t e : TypeId} {z : Value} {sz bytes : Nat} (ht : P.underlying t = some (.slice e)) (hinfo : (P.info? e).map (fun i => (i.zero, i.size, i.bytes)) = some (some z, sz, bytes))
    (n : Nat) (hn : n ≤ 1048576) (hby : bytes ≤ 1048576) (W : World) :
    (Instr.makeSlice t (.int .i64 (n : Int)) (.int .i64 (n : Int))).run P W = .ok (.slice (some ⟨W.heap.size, 0, none⟩) n n) (W.alloc (.cells (madeCells z.cells (n * sz)) e)) := by
  obtain ⟨i, hi, hz, hs, hb⟩ := info_parts hinfo
  have h1 : (i.bytes : Int) * (n : Int) ≤ 281474976710656 := by
    have h : i.bytes * n ≤ 1048576 * 1048576 := Nat.mul_le_mul (by omega) hn
    have h2 : ((i.bytes * n : Nat) : Int) ≤ 281474976710656 := by omega
    rwa [Int.natCast_mul] at h2
  have hr := run_make (P := P) W t e i z ht hi hz .i64 .i64 (n : Int) (n : Int) (by omega) (by omega) h1 (by omega)
  simp only [Int.toNat_natCast] at hr
  rw [hr, hs]
/-- What a count leaves: too little, or the rest, and then what it speaks of is small. -/
def SzPost (w : World) (l : Int) (G : Prop) (e : Ending) (w' : World) : Prop := ∃ r : Int, e = .returned (.int .i64 r) ∧ (r = -1 ∨ 0 ≤ r ∧ r ≤ l ∧ G) ∧ Below w.heap.size w w'
/-- What a mark of an argument's copy does: the next mark, and nothing but the copy has turned. -/
def MarkedOnly (w : World) (lo hi : Nat) (k : Int) (e : Ending) (w' : World) : Prop := ∃ q : Int, e = .returned (.int .i64 q) ∧ k ≤ q ∧ q ≤ k + 8796093022208 ∧ Only lo hi w w'
/-- The worlds that come behind w0: below its heap's size nothing has turned. -/
structure Later (w0 : World) where
  w : World
  below : Below w0.heap.size w0 w
instance Later.some_ (w0 : World) : Nonempty (Later w0) := ⟨⟨w0, Below.refl _ _⟩⟩
theorem Later.call {P : Program} {f : FuncId} {args : Array Value} {w0 : World} {v : Value} {x : Later w0} (h : Calls P f args x.w fun e w' => e = .returned v ∧ Below x.w.heap.size x.w w') :
    Calls P f args x.w fun e w'' => e = .returned v ∧ ∃ y : Later w0, w'' = y.w := h.mono fun _ w' ⟨he, hb⟩ => ⟨he, ⟨w', bthen x.below hb⟩, rfl⟩
theorem Later.call_same {P : Program} {f : FuncId} {args : Array Value} {w0 : World} {v : Value} {x : Later w0} (h : Calls P f args x.w fun e w' => e = .returned v ∧ x.w = w') :
    Calls P f args x.w fun e w'' => e = .returned v ∧ ∃ y : Later w0, w'' = y.w := h.mono fun _ _ ⟨he, hb⟩ => ⟨he, x, hb.symm⟩
theorem Later.cell {w0 : World} {b o : Nat} {v : Value} (h : w0.cell? ⟨b, o, none⟩ = some v) (x : Later w0) : x.w.cell? ⟨b, o, none⟩ = some v :=
  (x.below.cell (p := ⟨b, o, none⟩) (World.block_lt_of_cell? w0 _ h)).trans h
theorem Later.rd {α : Type} {w0 : World} {sz : Nat} {f : α → List Value} {A : Option Addr} {xs : List α} (h : Rd w0 w0.heap.size sz f A xs) (x : Later w0) : Rd x.w x.w.heap.size sz f A xs := (h.below x.below).more x.below.size
/-- A region that draws its order, whose operations read and whose calls make memory of their own. -/
theorem wp_region_later {P : Program} {id : Nat} {Q : Exit → Act → World → Prop} {a : Act} {w : World} {l : List Oper} (hm : P.follows .mixedOrders = true) (hB : Region.lexB .any l.toArray = true)
    (h : wpQuiet P l.toArray (fun w' => ∃ x : Later w, w' = x.w) (fun a' => ∀ w', (∃ x : Later w, w' = x.w) → Q .normal a' w') l a) : (Code.region id l.toArray true).wp P Q a w :=
  wp_region_quiet (C := fun w' => ∃ x : Later w, w' = x.w) hm hB ⟨⟨_, (Below.refl w.heap.size w).drew⟩, rfl⟩ (by simpa using h)
end Go.Proofs.Ytioblfbhjkkgoaa
