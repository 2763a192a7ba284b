/- DERIVED. A port's text, in the program and in the reference. -/
import Derived.Test.YtlhbjgbkpjlacaaDec
import Derived.Test.YtlhbjgbkpjlacaaFlPort
namespace Go.Proofs.Ytlhbjgbkpjlacaa
set_option maxRecDepth 100000
open Go.RowKit

def portB (k s : Int) : Bool := inB k 0 9 && inB s 0 10000
def portT (k s : Int) (p : Bool) : List UInt8 := decL k.toNat ++ [58] ++ decL s.toNat ++ [if p then 112 else 115]
theorem portB_true {k s : Int} (h : portB k s = true) : 0 ≤ k ∧ k ≤ 9 ∧ 0 ≤ s ∧ s ≤ 10000 := by
  simp [portB, inB] at h
  omega

theorem isPort_impl (k s : Int) (p : Bool) (w : World) :
    Calls Try.prog 87 #[.agg #[.int .i64 k, .int .i64 s, .bool p]] w fun e w' => e = .returned (.bool (portB k s)) ∧ Below w.heap.size w w' := by
  go_enter Try.func87, Try.ntmps87
  go_wp2_with (go_at_call 106; refine (within_any _ _ _ _).mono ?_; rintro e w' ⟨rfl, rfl⟩)
  all_goals
    go_ret
    refine ⟨ret_bool ?_, balloc _ _⟩
    simp [portB, *]

theorem isPort_spec (k s : Int) (p : Bool) (w : World) :
    Calls Try.prog 83 #[.agg #[.int .i64 k, .int .i64 s, .bool p]] w fun e w' => e = .returned (.bool (portB k s)) ∧ Below w.heap.size w w' := by
  go_enter Try.func83, Try.ntmps83
  go_wp2_with (go_at_call 108; refine (l01In_any _ _ _ _).mono ?_; rintro e w' ⟨rfl, rfl⟩)
  all_goals
    go_ret
    refine ⟨ret_bool ?_, balloc _ _⟩
    simp [portB, *]

theorem portText_impl (k s : Int) (p : Bool) (r : portB k s = true) (w : World) :
    Calls Try.prog 88 #[.agg #[.int .i64 k, .int .i64 s, .bool p]] w fun e w' => e = .returned (.string (S (portT k s p))) ∧ Below w.heap.size w w' := by
  obtain ⟨r1, r2, r3, r4⟩ := portB_true r
  clear r
  have l1 := decL_len_i64 k (by omega)
  have l2 := decL_len_i64 s (by omega)
  rw [← S_size] at l1 l2
  go_enter Try.func88, Try.ntmps88
  go_wp2_with fail
  have hcc : ∀ x : Later (w.alloc (.cells #[.int .i64 k, .int .i64 s, .bool p] 23)), x.w.cell? ⟨w.heap.size, 0, none⟩ = some (.int .i64 k) := Later.cell (by go_simp)
  have hcd : ∀ x : Later (w.alloc (.cells #[.int .i64 k, .int .i64 s, .bool p] 23)), x.w.cell? ⟨w.heap.size, 1, none⟩ = some (.int .i64 s) := Later.cell (by go_simp)
  refine wp_region_later (by kernel_rfl) (by kernel_rfl) ?_
  repeat (go_big_quiet_step ((go_at_call 145; exact Later.call (decimal_any _ (by omega) (by omega) _))))
  refine wpQuiet_nil ?_
  rintro _ ⟨⟨w2, hb2⟩, rfl⟩
  have hp := hb2.cell (p := ⟨w.heap.size, 2, none⟩) (by simp)
  clear hcc hcd
  cases p
  · go_wp2_with fail
    go_ret
    refine ⟨ret_str ?_, bthen (balloc _ _) hb2⟩
    show S (decL k.toNat) ++ S [58] ++ S (decL s.toNat) ++ S [115] = _
    simp [S_append, portT]
  · go_wp2_with fail
    go_ret
    refine ⟨ret_str ?_, bthen (balloc _ _) hb2⟩
    show S (decL k.toNat) ++ S [58] ++ S (decL s.toNat) ++ S [112] = _
    simp [S_append, portT]

theorem portText_spec (k s : Int) (p : Bool) (r : portB k s = true) (w : World) :
    Calls Try.prog 84 #[.agg #[.int .i64 k, .int .i64 s, .bool p]] w fun e w' => e = .returned (.string (S (portT k s p))) ∧ Below w.heap.size w w' := by
  obtain ⟨r1, r2, r3, r4⟩ := portB_true r
  clear r
  have l1 := decL_len_i64 k (by omega)
  have l2 := decL_len_i64 s (by omega)
  rw [← S_size] at l1 l2
  have hcc : ∀ x : Later (w.alloc (.cells #[.int .i64 k, .int .i64 s, .bool p] 23)), x.w.cell? ⟨w.heap.size, 0, none⟩ = some (.int .i64 k) := Later.cell (by go_simp)
  have hcd : ∀ x : Later (w.alloc (.cells #[.int .i64 k, .int .i64 s, .bool p] 23)), x.w.cell? ⟨w.heap.size, 1, none⟩ = some (.int .i64 s) := Later.cell (by go_simp)
  cases p
  · go_enter Try.func84, Try.ntmps84
    go_wp2_with fail
    refine wp_region_later (by kernel_rfl) (by kernel_rfl) ?_
    repeat (go_big_quiet_step ((go_at_call 144; exact Later.call (l01Dec_any 4 _ (by omega) (by omega) (by omega) _))))
    refine wpQuiet_nil ?_
    rintro _ ⟨⟨w2, hb2⟩, rfl⟩
    clear hcc hcd
    go_wp2_with fail
    go_ret
    refine ⟨ret_str ?_, bthen (balloc _ _) hb2⟩
    show S (decL k.toNat) ++ S [58] ++ S (decL s.toNat) ++ S [115] = _
    simp [S_append, portT]
  · go_enter Try.func84, Try.ntmps84
    go_wp2_with fail
    refine wp_region_later (by kernel_rfl) (by kernel_rfl) ?_
    repeat (go_big_quiet_step ((go_at_call 144; exact Later.call (l01Dec_any 4 _ (by omega) (by omega) (by omega) _))))
    refine wpQuiet_nil ?_
    rintro _ ⟨⟨w2, hb2⟩, rfl⟩
    clear hcc hcd
    go_wp2_with fail
    go_ret
    refine ⟨ret_str ?_, bthen (balloc _ _) hb2⟩
    show S (decL k.toNat) ++ S [58] ++ S (decL s.toNat) ++ S [112] = _
    simp [S_append, portT]

/-- A port's text and its code. -/
def portTextR (k s : Int) (p : Bool) : ByteArray × Int := if portB k s = true then (S (portT k s p), 0) else (S [], 1)

theorem PortText_impl (k s : Int) (p : Bool) (w : World) :
    Calls Try.prog 15 #[.agg #[.int .i64 k, .int .i64 s, .bool p]] w fun e w' => e = .returned (.tuple #[.string (portTextR k s p).1, .int .i64 (portTextR k s p).2]) ∧ Below w.heap.size w w' := by
  by_cases r : portB k s = true
  · unfold portTextR
    rw [if_pos r]
    go_enter Try.func15, Try.ntmps15
    go_wp2_with fail
    refine (isPort_impl _ _ _ _).mono ?_
    rintro e w1 ⟨rfl, hb1⟩
    obtain ⟨hc, hf⟩ := bcell hb1
    go_wp2_with fail
    refine (portText_impl _ _ _ r _).mono ?_
    rintro e w2 ⟨rfl, hb2⟩
    go_wp2_with fail
    go_ret2
    exact ⟨rfl, bthen (bthen (balloc _ _) hb1) hb2⟩
  · unfold portTextR
    rw [if_neg r]
    go_enter Try.func15, Try.ntmps15
    go_wp2_with fail
    refine (isPort_impl _ _ _ _).mono ?_
    rintro e w1 ⟨rfl, hb1⟩
    go_wp2_with fail
    go_ret2
    exact ⟨rfl, bthen (balloc _ _) hb1⟩

theorem PortText_spec (k s : Int) (p : Bool) (w : World) :
    Calls Try.prog 16 #[.agg #[.int .i64 k, .int .i64 s, .bool p]] w fun e w' => e = .returned (.tuple #[.string (portTextR k s p).1, .int .i64 (portTextR k s p).2]) ∧ Below w.heap.size w w' := by
  by_cases r : portB k s = true
  · unfold portTextR
    rw [if_pos r]
    go_enter Try.func16, Try.ntmps16
    go_wp2_with fail
    refine (isPort_spec _ _ _ _).mono ?_
    rintro e w1 ⟨rfl, hb1⟩
    obtain ⟨hc, hf⟩ := bcell hb1
    go_wp2_with fail
    refine (portText_spec _ _ _ r _).mono ?_
    rintro e w2 ⟨rfl, hb2⟩
    go_wp2_with fail
    go_ret2
    exact ⟨rfl, bthen (bthen (balloc _ _) hb1) hb2⟩
  · unfold portTextR
    rw [if_neg r]
    go_enter Try.func16, Try.ntmps16
    go_wp2_with fail
    refine (isPort_spec _ _ _ _).mono ?_
    rintro e w1 ⟨rfl, hb1⟩
    go_wp2_with fail
    go_ret2
    exact ⟨rfl, bthen (balloc _ _) hb1⟩

end Go.Proofs.Ytlhbjgbkpjlacaa
