/- DERIVED. A part copied, its ports in memory of the call's own. By program (gcopy.py). -/
import Derived.Test.YtncjgebgghpigaaInner
import Derived.Deep.RegionHeld3
namespace Go.Proofs.Ytncjgebgghpigaa
set_option maxRecDepth 100000
open Go.RowKit

def GivesCopy (w : World) (x : PartT) (e : Ending) (w' : World) : Prop :=
  ∃ A' c', e = .returned (.agg #[.string x.code, .int .i64 x.slot, .slice A' x.ports.length c', .int .i64 x.price, .int .i64 x.grams]) ∧ Flat w' w.heap.size w'.heap.size 62 3 portC A' x.ports ∧ x.ports.length ≤ c' ∧ Below w.heap.size w w'
theorem set5_heap {w : World} {g1 g : Nat} (h : g ≠ g1) (u0 u1 u2 u3 u4 : Value) : (((((w.setCell ⟨g1, 0, none⟩ u0).setCell ⟨g1, 1, none⟩ u1).setCell ⟨g1, 2, none⟩ u2).setCell ⟨g1, 3, none⟩ u3).setCell ⟨g1, 4, none⟩ u4).heap[g]? = w.heap[g]? := by
  rw [Below.heap_setCell _ _ _ _ (by exact h), Below.heap_setCell _ _ _ _ (by exact h), Below.heap_setCell _ _ _ _ (by exact h), Below.heap_setCell _ _ _ _ (by exact h), Below.heap_setCell _ _ _ _ (by exact h)]
theorem portC_one : ∀ y, ∀ u ∈ portC y, u.oneCell' = true := fun y u hu => by
  simp only [portC, List.mem_cons, List.not_mem_nil, or_false] at hu
  rcases hu with rfl | rfl | rfl <;> rfl

set_option maxHeartbeats 1000000 in
theorem copyPart_any (x : PartT) (pA : Option Addr) (pc : Nat) (w : World) (hr : Rd w w.heap.size 3 portC pA x.ports) (hm : x.ports.length ≤ 1048576) :
    Calls Try.prog 29 #[.agg #[.string x.code, .int .i64 x.slot, .slice pA x.ports.length pc, .int .i64 x.price, .int .i64 x.grams]] w (GivesCopy w x) := by
  have hb3 : Below w.heap.size w (((w.alloc (.cells #[.string x.code, .int .i64 x.slot, .slice pA x.ports.length pc, .int .i64 x.price, .int .i64 x.grams] 27)).alloc (.cells #[.string ⟨#[]⟩, .int .i64 0, .slice none 0 0, .int .i64 0, .int .i64 0] 27)).alloc (.cells #[] 62)) := bthen (bthen (balloc w _) (balloc _ _)) (balloc _ _)
  have hown0 : Own (((w.alloc (.cells #[.string x.code, .int .i64 x.slot, .slice pA x.ports.length pc, .int .i64 x.price, .int .i64 x.grams] 27)).alloc (.cells #[.string ⟨#[]⟩, .int .i64 0, .slice none 0 0, .int .i64 0, .int .i64 0] 27)).alloc (.cells #[] 62)) w.heap.size 62 3 portC (some ⟨w.heap.size + 1 + 1, 0, none⟩) 0 [] := by
    have := Own.made (w := ((w.alloc (.cells #[.string x.code, .int .i64 x.slot, .slice pA x.ports.length pc, .int .i64 x.price, .int .i64 x.grams] 27)).alloc (.cells #[.string ⟨#[]⟩, .int .i64 0, .slice none 0 0, .int .i64 0, .int .i64 0] 27))) (base := w.heap.size) (E := 62) (sz := 3) (f := portC) #[] (by simp; omega) rfl
    simpa using this
  have hrW := hr.below hb3
  go_enter Try.func29, Try.ntmps29
  go_wp2_with (at_builtin; refine wpList_append_slice rfl _ _ _ rfl w.heap.size 62 (.agg #[.int .i64 0, .int .i64 0, .bool false]) 3 24 Try.underlying25 infoPort rfl (by omega) (by omega) portC [] x.ports (some ⟨w.heap.size + 1 + 1, 0, none⟩) 0 rfl hown0 pA pc w.heap.size rfl hrW portC_len portC_one (by simp; omega) (by simp; omega) ?_)
  intro A2 c2 w4 hown4 hb4 hfar
  have hapart : ∀ g, g < w.heap.size + 2 → Apart (some ⟨w.heap.size + 1 + 1, 0, none⟩) g := fun g hg b o e => by
    simp only [Option.some.injEq, Addr.mk.injEq] at e
    omega
  have h30 : (((w.alloc (.cells #[.string x.code, .int .i64 x.slot, .slice pA x.ports.length pc, .int .i64 x.price, .int .i64 x.grams] 27)).alloc (.cells #[.string ⟨#[]⟩, .int .i64 0, .slice none 0 0, .int .i64 0, .int .i64 0] 27)).alloc (.cells #[] 62)).heap.size = w.heap.size + 3 := by simp
  have q0 := hfar w.heap.size (by omega) (hapart _ (by omega))
  have q1 := hfar (w.heap.size + 1) (by omega) (hapart _ (by omega))
  have hs4 := hb4.size
  have y0 : w4.cell? ⟨w.heap.size, 0, none⟩ = some (.string x.code) := (World.cell?_of_block (a := ⟨w.heap.size, 0, none⟩) q0.2).trans (by go_simp)
  have y1 : w4.cell? ⟨w.heap.size, 1, none⟩ = some (.int .i64 x.slot) := (World.cell?_of_block (a := ⟨w.heap.size, 1, none⟩) q0.2).trans (by go_simp)
  have y2 : w4.cell? ⟨w.heap.size, 2, none⟩ = some (.slice pA x.ports.length pc) := (World.cell?_of_block (a := ⟨w.heap.size, 2, none⟩) q0.2).trans (by go_simp)
  have y3 : w4.cell? ⟨w.heap.size, 3, none⟩ = some (.int .i64 x.price) := (World.cell?_of_block (a := ⟨w.heap.size, 3, none⟩) q0.2).trans (by go_simp)
  have y4 : w4.cell? ⟨w.heap.size, 4, none⟩ = some (.int .i64 x.grams) := (World.cell?_of_block (a := ⟨w.heap.size, 4, none⟩) q0.2).trans (by go_simp)
  have z0 : w4.cell? ⟨w.heap.size + 1, 0, none⟩ = some (.string ⟨#[]⟩) := (World.cell?_of_block (a := ⟨w.heap.size + 1, 0, none⟩) q1.2).trans (by go_simp)
  have z1 : w4.cell? ⟨w.heap.size + 1, 1, none⟩ = some (.int .i64 0) := (World.cell?_of_block (a := ⟨w.heap.size + 1, 1, none⟩) q1.2).trans (by go_simp)
  have z2 : w4.cell? ⟨w.heap.size + 1, 2, none⟩ = some (.slice none 0 0) := (World.cell?_of_block (a := ⟨w.heap.size + 1, 2, none⟩) q1.2).trans (by go_simp)
  have z3 : w4.cell? ⟨w.heap.size + 1, 3, none⟩ = some (.int .i64 0) := (World.cell?_of_block (a := ⟨w.heap.size + 1, 3, none⟩) q1.2).trans (by go_simp)
  have z4 : w4.cell? ⟨w.heap.size + 1, 4, none⟩ = some (.int .i64 0) := (World.cell?_of_block (a := ⟨w.heap.size + 1, 4, none⟩) q1.2).trans (by go_simp)
  have f0 : ∀ j, w4.frozen? ⟨w.heap.size, j, none⟩ = false := fun j => (World.frozen?_of_block (a := ⟨w.heap.size, j, none⟩) q0.2).trans (by go_simp)
  have f1 : ∀ j, w4.frozen? ⟨w.heap.size + 1, j, none⟩ = false := fun j => (World.frozen?_of_block (a := ⟨w.heap.size + 1, j, none⟩) q1.2).trans (by go_simp)
  have hcap := hown4.cap
  have HF := Lib.hid ((hown4.flat portC_len)); clear hown4
  have Q0 := Lib.hid q0.1
  have Q1 := Lib.hid q1.1
  have HB := Lib.hid (hb3.trans hb4)
  clear hfar hb4 q0 q1 hapart hown0 hrW hb3
  go_wp2_with fail
  refine bodyPost_ret (v := .agg #[.string x.code, .int .i64 x.slot, .slice A2 x.ports.length c2, .int .i64 x.price, .int .i64 x.grams]) ?_ rfl ?_
  · simp [results, Try.results29, go_sem, cell_set, z0, z1, z2, z3, z4]
  · have hk : ∀ (u0 u1 u2 u3 u4 u5 : Value) g, g ≠ w.heap.size → g ≠ w.heap.size + 1 → ((((((w4.setCell ⟨w.heap.size, 2, none⟩ u0).setCell ⟨w.heap.size + 1, 0, none⟩ u1).setCell ⟨w.heap.size + 1, 1, none⟩ u2).setCell ⟨w.heap.size + 1, 2, none⟩ u3).setCell ⟨w.heap.size + 1, 3, none⟩ u4).setCell ⟨w.heap.size + 1, 4, none⟩ u5).heap[g]? = w4.heap[g]? := fun u0 u1 u2 u3 u4 u5 g h0 h1 => by
      rw [Below.heap_setCell _ _ _ _ (by exact h1), Below.heap_setCell _ _ _ _ (by exact h1), Below.heap_setCell _ _ _ _ (by exact h1), Below.heap_setCell _ _ _ _ (by exact h1), Below.heap_setCell _ _ _ _ (by exact h1), Below.heap_setCell _ _ _ _ (by exact h0)]
    have h0 : w.heap.size ≤ w.heap.size := Nat.le_refl _
    have h1 : w.heap.size ≤ w.heap.size + 1 := by omega
    refine ⟨A2, c2, rfl, (HF.out.keepAt fun g e _ => hk _ _ _ _ _ _ g (Q0.out g 0 e) (Q1.out g 0 e)).mono (Nat.le_refl _) (by simp [World.setCell]), hcap, ?_⟩
    exact (((((HB.out.setCell (p := ⟨w.heap.size, 2, none⟩) h0 _).setCell (p := ⟨w.heap.size + 1, 0, none⟩) h1 _).setCell (p := ⟨w.heap.size + 1, 1, none⟩) h1 _).setCell (p := ⟨w.heap.size + 1, 2, none⟩) h1 _).setCell (p := ⟨w.heap.size + 1, 3, none⟩) h1 _).setCell (p := ⟨w.heap.size + 1, 4, none⟩) h1 _

set_option maxHeartbeats 400000 in
theorem l16Copy_any (x : PartT) (pA : Option Addr) (pc : Nat) (w : World) (hr : Rd w w.heap.size 3 portC pA x.ports) (hm : x.ports.length ≤ 1048576) :
    Calls Try.prog 32 #[.agg #[.string x.code, .int .i64 x.slot, .slice pA x.ports.length pc, .int .i64 x.price, .int .i64 x.grams]] w (GivesCopy w x) := by
  have hb2 : Below w.heap.size w ((w.alloc (.cells #[.string x.code, .int .i64 x.slot, .slice pA x.ports.length pc, .int .i64 x.price, .int .i64 x.grams] 27)).alloc (.cells #[.string ⟨#[]⟩, .int .i64 0, .slice none 0 0, .int .i64 0, .int .i64 0] 27)) := bthen (balloc w _) (balloc _ _)
  have hrW := hr.below hb2
  go_enter Try.func32, Try.ntmps32
  go_wp2_with fail
  have y0 : ((w.alloc (.cells #[.string x.code, .int .i64 x.slot, .slice pA x.ports.length pc, .int .i64 x.price, .int .i64 x.grams] 27)).alloc (.cells #[.string ⟨#[]⟩, .int .i64 0, .slice none 0 0, .int .i64 0, .int .i64 0] 27)).cell? ⟨w.heap.size, 0, none⟩ = some (.string x.code) := by go_simp
  have y1 : ((w.alloc (.cells #[.string x.code, .int .i64 x.slot, .slice pA x.ports.length pc, .int .i64 x.price, .int .i64 x.grams] 27)).alloc (.cells #[.string ⟨#[]⟩, .int .i64 0, .slice none 0 0, .int .i64 0, .int .i64 0] 27)).cell? ⟨w.heap.size, 1, none⟩ = some (.int .i64 x.slot) := by go_simp
  have y2 : ((w.alloc (.cells #[.string x.code, .int .i64 x.slot, .slice pA x.ports.length pc, .int .i64 x.price, .int .i64 x.grams] 27)).alloc (.cells #[.string ⟨#[]⟩, .int .i64 0, .slice none 0 0, .int .i64 0, .int .i64 0] 27)).cell? ⟨w.heap.size, 2, none⟩ = some (.slice pA x.ports.length pc) := by go_simp
  have y3 : ((w.alloc (.cells #[.string x.code, .int .i64 x.slot, .slice pA x.ports.length pc, .int .i64 x.price, .int .i64 x.grams] 27)).alloc (.cells #[.string ⟨#[]⟩, .int .i64 0, .slice none 0 0, .int .i64 0, .int .i64 0] 27)).cell? ⟨w.heap.size, 3, none⟩ = some (.int .i64 x.price) := by go_simp
  have y4 : ((w.alloc (.cells #[.string x.code, .int .i64 x.slot, .slice pA x.ports.length pc, .int .i64 x.price, .int .i64 x.grams] 27)).alloc (.cells #[.string ⟨#[]⟩, .int .i64 0, .slice none 0 0, .int .i64 0, .int .i64 0] 27)).cell? ⟨w.heap.size, 4, none⟩ = some (.int .i64 x.grams) := by go_simp
  have z0 : ((w.alloc (.cells #[.string x.code, .int .i64 x.slot, .slice pA x.ports.length pc, .int .i64 x.price, .int .i64 x.grams] 27)).alloc (.cells #[.string ⟨#[]⟩, .int .i64 0, .slice none 0 0, .int .i64 0, .int .i64 0] 27)).cell? ⟨w.heap.size + 1, 0, none⟩ = some (.string ⟨#[]⟩) := by go_simp
  have z1 : ((w.alloc (.cells #[.string x.code, .int .i64 x.slot, .slice pA x.ports.length pc, .int .i64 x.price, .int .i64 x.grams] 27)).alloc (.cells #[.string ⟨#[]⟩, .int .i64 0, .slice none 0 0, .int .i64 0, .int .i64 0] 27)).cell? ⟨w.heap.size + 1, 1, none⟩ = some (.int .i64 0) := by go_simp
  have z2 : ((w.alloc (.cells #[.string x.code, .int .i64 x.slot, .slice pA x.ports.length pc, .int .i64 x.price, .int .i64 x.grams] 27)).alloc (.cells #[.string ⟨#[]⟩, .int .i64 0, .slice none 0 0, .int .i64 0, .int .i64 0] 27)).cell? ⟨w.heap.size + 1, 2, none⟩ = some (.slice none 0 0) := by go_simp
  have z3 : ((w.alloc (.cells #[.string x.code, .int .i64 x.slot, .slice pA x.ports.length pc, .int .i64 x.price, .int .i64 x.grams] 27)).alloc (.cells #[.string ⟨#[]⟩, .int .i64 0, .slice none 0 0, .int .i64 0, .int .i64 0] 27)).cell? ⟨w.heap.size + 1, 3, none⟩ = some (.int .i64 0) := by go_simp
  have z4 : ((w.alloc (.cells #[.string x.code, .int .i64 x.slot, .slice pA x.ports.length pc, .int .i64 x.price, .int .i64 x.grams] 27)).alloc (.cells #[.string ⟨#[]⟩, .int .i64 0, .slice none 0 0, .int .i64 0, .int .i64 0] 27)).cell? ⟨w.heap.size + 1, 4, none⟩ = some (.int .i64 0) := by go_simp
  have f1 : ∀ j, ((w.alloc (.cells #[.string x.code, .int .i64 x.slot, .slice pA x.ports.length pc, .int .i64 x.price, .int .i64 x.grams] 27)).alloc (.cells #[.string ⟨#[]⟩, .int .i64 0, .slice none 0 0, .int .i64 0, .int .i64 0] 27)).frozen? ⟨w.heap.size + 1, j, none⟩ = false := fun j => by go_simp
  have hs2 : ((w.alloc (.cells #[.string x.code, .int .i64 x.slot, .slice pA x.ports.length pc, .int .i64 x.price, .int .i64 x.grams] 27)).alloc (.cells #[.string ⟨#[]⟩, .int .i64 0, .slice none 0 0, .int .i64 0, .int .i64 0] 27)).heap.size ≤ w.heap.size + 2 := by simp
  have hs3 : w.heap.size + 2 ≤ ((w.alloc (.cells #[.string x.code, .int .i64 x.slot, .slice pA x.ports.length pc, .int .i64 x.price, .int .i64 x.grams] 27)).alloc (.cells #[.string ⟨#[]⟩, .int .i64 0, .slice none 0 0, .int .i64 0, .int .i64 0] 27)).heap.size := by simp
  generalize ((w.alloc (.cells #[.string x.code, .int .i64 x.slot, .slice pA x.ports.length pc, .int .i64 x.price, .int .i64 x.grams] 27)).alloc (.cells #[.string ⟨#[]⟩, .int .i64 0, .slice none 0 0, .int .i64 0, .int .i64 0] 27)) = W at y0 y1 y2 y3 y4 z0 z1 z2 z3 z4 f1 hs2 hs3 hb2 hrW ⊢
  generalize hg1 : w.heap.size + 1 = g1 at z0 z1 z2 z3 z4 f1 ⊢
  generalize hg0 : w.heap.size = g0 at y0 y1 y2 y3 y4 hb2 hrW hs2 hs3 ⊢
  have hownE : ∀ v : World, v.heap.size = W.heap.size → Own (v.alloc (.cells #[] 62)) g0 62 3 portC (some ⟨W.heap.size, 0, none⟩) 0 [] := fun v hv => by
    have := Own.made (w := v) (base := g0) (E := 62) (sz := 3) (f := portC) #[] (by omega) rfl
    rwa [hv] at this
  have HO := Lib.hid hownE; clear hownE
  have HR : Hid (∀ v : World, Below W.heap.size W v → Rd v g0 3 portC pA x.ports) := fun v hv => hrW.below (hv.mono (by omega))
  have HS : Hid (∀ v : World, v.heap[g0]? = W.heap[g0]? → v.cell? ⟨g0, 0, none⟩ = some (.string x.code) ∧ v.cell? ⟨g0, 1, none⟩ = some (.int .i64 x.slot) ∧ v.cell? ⟨g0, 2, none⟩ = some (.slice pA x.ports.length pc) ∧ v.cell? ⟨g0, 3, none⟩ = some (.int .i64 x.price) ∧ v.cell? ⟨g0, 4, none⟩ = some (.int .i64 x.grams)) := fun v hv => ⟨(World.cell?_of_block (a := ⟨g0, 0, none⟩) hv).trans y0, (World.cell?_of_block (a := ⟨g0, 1, none⟩) hv).trans y1, (World.cell?_of_block (a := ⟨g0, 2, none⟩) hv).trans y2, (World.cell?_of_block (a := ⟨g0, 3, none⟩) hv).trans y3, (World.cell?_of_block (a := ⟨g0, 4, none⟩) hv).trans y4⟩
  have hSA := Lib.hid (fun o : Obj => HS.out (W.alloc o) ((balloc W o).block g0 (by omega)))
  have hSB := Lib.hid (fun o : Obj => HS.out (W.alloc o).drew ((balloc W o).block g0 (by omega)))
  have hg01 : g0 ≠ g1 := by omega
  have hAp : ∀ g, g < W.heap.size → Apart (some ⟨W.heap.size, 0, none⟩) g := fun g hg b o e => by
    simp only [Option.some.injEq, Addr.mk.injEq] at e
    omega
  go_region_held3 (fun w' => w'.cell? ⟨g0, 0, none⟩ = some (.string x.code) ∧ w'.cell? ⟨g0, 1, none⟩ = some (.int .i64 x.slot) ∧ w'.cell? ⟨g0, 2, none⟩ = some (.slice pA x.ports.length pc) ∧ w'.cell? ⟨g0, 3, none⟩ = some (.int .i64 x.price) ∧ w'.cell? ⟨g0, 4, none⟩ = some (.int .i64 x.grams)) (first | (with_reducible exact hS5.out _ _ _ _ _) | (with_reducible exact hSS.out) | (with_reducible exact HS.out _ rfl) | (with_reducible exact hSA.out _) | (with_reducible exact hSB.out _) | go_keep)
    ((refine step_append_slice (by rfl) _ _ _ (by rfl) g0 62 (.agg #[.int .i64 0, .int .i64 0, .bool false]) 3 24 Try.underlying25 infoPort rfl (by omega) (by omega) portC [] x.ports (some ⟨W.heap.size, 0, none⟩) 0 (by rfl) (by first | exact HO.out _ rfl | exact (HO.out _ rfl).keep (bdrew _)) pA pc g0 (by rfl) (by first | exact HR.out _ (balloc _ _) | exact HR.out _ ((balloc _ _).drew)) portC_len portC_one (by simp; omega) (by simp; omega) ?_; intro A2 c2 w4 hown4 hb4 hfar; have hp0 := hfar g0 (by first | omega | (simp; omega)) (hAp g0 (by omega)); have hp1 := hfar g1 (by first | omega | (simp; omega)) (hAp g1 (by omega)); have hq0 : w4.heap[g0]? = W.heap[g0]? := hp0.2.trans ((balloc W _).block g0 (by omega)); have hq1 : w4.heap[g1]? = W.heap[g1]? := hp1.2.trans ((balloc W _).block g1 (by omega)); have f2 : ∀ j, w4.frozen? ⟨g1, j, none⟩ = false := (fun j => (World.frozen?_of_block (a := ⟨g1, j, none⟩) hq1).trans (f1 j)); have x0 := (World.cell?_of_block (a := ⟨g1, 0, none⟩) hq1).trans z0; have x1 := (World.cell?_of_block (a := ⟨g1, 1, none⟩) hq1).trans z1; have x2 := (World.cell?_of_block (a := ⟨g1, 2, none⟩) hq1).trans z2; have x3 := (World.cell?_of_block (a := ⟨g1, 3, none⟩) hq1).trans z3; have x4 := (World.cell?_of_block (a := ⟨g1, 4, none⟩) hq1).trans z4; have hSS := Lib.hid (HS.out _ hq0); have hS5 := Lib.hid (fun u0 u1 u2 u3 u4 : Value => HS.out _ ((set5_heap hg01 u0 u1 u2 u3 u4).trans hq0)); have Q0 := Lib.hid hp0.1; have Q1 := Lib.hid hp1.1; have HF := Lib.hid (hown4.flat portC_len); have HC := Lib.hid hown4.cap; have HB := Lib.hid hb4; clear hfar hp0 hp1 hq0 hq1 hown4 hb4))
  go_wp2_with fail
  refine bodyPost_ret (v := .agg #[.string x.code, .int .i64 x.slot, .slice A2 x.ports.length c2, .int .i64 x.price, .int .i64 x.grams]) ?_ rfl ?_
  · simp [results, Try.results32, go_sem, cell_set, x0, x1, x2, x3, x4]
  · subst hg0
    have h1 : w.heap.size ≤ g1 := by omega
    refine ⟨A2, c2, rfl, (HF.out.keepAt fun g e _ => set5_heap (Q1.out g 0 e) _ _ _ _ _).mono (Nat.le_refl _) (by simp [World.setCell]), HC.out, ?_⟩
    exact ((((((hb2.trans ((balloc W _).drew.mono (by omega))).trans HB.out).setCell (p := ⟨g1, 0, none⟩) h1 _).setCell (p := ⟨g1, 1, none⟩) h1 _).setCell (p := ⟨g1, 2, none⟩) h1 _).setCell (p := ⟨g1, 3, none⟩) h1 _).setCell (p := ⟨g1, 4, none⟩) h1 _

end Go.Proofs.Ytncjgebgghpigaa
