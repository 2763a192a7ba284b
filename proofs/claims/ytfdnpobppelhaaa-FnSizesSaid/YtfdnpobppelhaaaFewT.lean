/- DERIVED. The fewest sizes that suit everybody: the walk of the reference. -/
import Derived.Test.YtfdnpobppelhaaaFewS
namespace Go.Proofs.Ytfdnpobppelhaaa
set_option maxRecDepth 100000
open Go.RowKit

theorem find_drop {ok : List Int → Bool} {L : List (List Int)} {i : Nat} {x : List Int} (h : L[i]? = some x) : (L.drop i).find? ok = if ok x = true then some x else (L.drop (i + 1)).find? ok := by
  obtain ⟨hi, hx⟩ := List.getElem?_eq_some_iff.1 h
  rw [List.drop_eq_getElem_cons hi, hx, List.find?_cons]
  cases ok x <;> rfl

set_option maxHeartbeats 2000000 in
theorem FewestSizes_spec (A : Option Addr) (c : Nat) (rs : List RidT) (S : Option Addr) (sc : Nat) (xs : List SizT) (w : World) (hr : Rd w w.heap.size 3 ridrC A rs) (hm : rs.length ≤ 1048576) (hs : Rd w w.heap.size 4 sizeC S xs) (hsm : xs.length ≤ 1048576) (hg : ∀ x ∈ xs, x.1.size ≤ maxLen) :
    Calls Try.prog 44 #[.slice A rs.length c, .slice S xs.length sc] w (GivesRes w 2 1 nC (fewR rs xs)) := by
  have HT := Lib.hid (l19Table_any A c rs S sc xs w hr hm hs hsm hg)
  clear hr hs hg
  by_cases z : ridersB rs = true ∧ sizesB xs = true
  · have h12 := sizesB_len z.2
    have h60 := ridersB_len z.1
    have HF : Hid (fewR rs xs = fewOf (firstFrom (meetAll (rs.map (rowOf xs))) xs.length (xs.length + 1) 0)) := by unfold Hid fewR; rw [if_pos z]
    have HTR : tableR rs xs = (rs.map (rowOf xs), 0) := by unfold tableR; rw [if_pos z]
    rw [HTR] at HT
    have hrl : (rs.map (rowOf xs)).length ≤ 60 := by rw [List.length_map]; exact h60
    have HBd : Hid (∀ r ∈ rs.map (rowOf xs), r.length ≤ 12) := fun r hr => by
      obtain ⟨q, _, rfl⟩ := List.mem_map.1 hr
      have := idxTo_le (suitT q.1 q.2.1 q.2.2) xs xs.length
      unfold rowOf
      omega
    clear HTR z
    generalize rs.map (rowOf xs) = rows at HF HT hrl HBd
    generalize fewR rs xs = res at HF ⊢
    go_enter Try.func44, Try.ntmps44
    go_wp2_with fail
    refine HT.out.mono ?_
    rintro e w1 ⟨A1, c1, rfl, ⟨ms, hms, hfj⟩, hc1, hb1⟩
    have HJ : Hid (RdJ w1 w1.heap.size A1 ms) := hfj.rd
    simp only at hms
    have HQ : Hid (∀ (k : Nat) (r : List Int), rows[k]? = some r → ∃ q : RowI, ms[k]? = some q ∧ q.ns = r) := fun k r h => by
      rw [← hms, List.getElem?_map, Option.map_eq_some_iff] at h
      exact h
    have hs1 := hb1.size
    clear hms hfj hc1 HT
    go_wp2_with fail
    go_loopw [8] (fun x wr => ∃ (f k : Nat), f + k = xs.length + 1 ∧ x = .int .i64 k ∧ Hid (firstFrom (meetAll rows) xs.length (xs.length + 1) 0 = firstFrom (meetAll rows) xs.length f k) ∧ Below w1.heap.size w1 wr) (fun x _ => xs.length + 1 - (intOf x).toNat)
    case atStart => exact ⟨xs.length + 1, 0, rfl, rfl, rfl, Below.refl _ _⟩
    case round =>
      obtain ⟨f, k, hfk, rfl, HE, hb⟩ := hrel
      have hsw := hb.size
      by_cases hlt : k ≤ xs.length
      · obtain ⟨f', rfl⟩ : ∃ q, f = q + 1 := ⟨f - 1, by omega⟩
        have HC : Hid (Calls Try.prog 91 #[.int .i64 xs.length, .int .i64 0, .int .i64 k, .slice (some ⟨wr.heap.size, 0, none⟩) 0 0] (wr.alloc (.cells #[] 2)) (GivesLists (wr.alloc (.cells #[] 2)) w.heap.size (combs xs.length 0 k []))) :=
          l19Lists_any xs.length h12 w.heap.size (xs.length + 1) xs.length 0 k [] (some ⟨wr.heap.size, 0, none⟩) 0 _ (by omega) (by omega) (by omega) (UpTo.nil 0) (by simp; omega) flat_nil (Nat.le_refl _)
        have HLe := Lib.hid (combs_le xs.length 0 k [])
        have HPw : Hid (2 ^ xs.length ≤ 4096) := by
          have := Nat.pow_le_pow_right (n := 2) (by omega) h12
          unfold Hid
          omega
        have HLn : Hid (∀ r ∈ combs xs.length 0 k [], r.length ≤ 12) := fun r h => by
          have := (combs_up xs.length 0 k [] r (UpTo.nil 0) h).1.len
          omega
        have HHit : Hid (∀ r, (combs xs.length 0 k []).find? (meetAll rows) = some r → res = (r, 0)) := fun r h => by
          rw [HF.out, HE.out, firstFrom_hit h]
          rfl
        have HMiss : Hid ((combs xs.length 0 k []).find? (meetAll rows) = none → firstFrom (meetAll rows) xs.length (xs.length + 1) 0 = firstFrom (meetAll rows) xs.length f' (k + 1)) := fun h => by
          rw [HE.out, firstFrom_miss h]
        generalize combs xs.length 0 k [] = L at HC HLe HLn HHit HMiss
        have hbA := balloc wr (.cells #[] 2)
        go_wp2_with fail
        refine HC.out.mono ?_
        rintro e w3 ⟨A3, c3, ns, rfl, hns, hf3, hc3, hr3, hb3⟩
        have hnl : ns.length ≤ 4096 := by
          have h1 := HLe.out
          have h2 := HPw.out
          rw [← hns, List.length_map] at h1
          omega
        have HF3 : Hid (Rd w3 w3.heap.size 1 rowI A3 ns) := hf3.rd
        have HR3 := Lib.hid hr3
        have HLi : Hid (∀ (i : Nat) (q : RowI), ns[i]? = some q → L[i]? = some q.ns) := fun i q h => by rw [← hns, List.getElem?_map, h]; rfl
        have HLe2 : Hid (L.length ≤ ns.length) := by
          unfold Hid
          rw [← hns, List.length_map]
          exact Nat.le_refl _
        have hb13 : Below w1.heap.size w1 w3 := bthen' (bthen' hb hbA) hb3
        clear hns hf3 hr3 hc3 hb3 HC hbA
        go_wp2_with fail
        go_loopw [10] (fun x wr => ∃ i : Nat, i ≤ ns.length ∧ x = .int .i64 i ∧ Hid (L.find? (meetAll rows) = (L.drop i).find? (meetAll rows)) ∧ Below w3.heap.size w3 wr) (fun x _ => ns.length - (intOf x).toNat)
        case atStart => exact ⟨0, Nat.zero_le _, rfl, rfl, Below.refl _ _⟩
        case round =>
          obtain ⟨i, hi, rfl, HD, hbi⟩ := hrel
          by_cases hil : i < ns.length
          · have hx : ns[i]? = some ns[i] := List.getElem?_eq_getElem hil
            have HM := Lib.hid (HLi.out i _ hx)
            obtain ⟨gb, go, e3, hgB, _⟩ := HF3.out.at1 hx rfl
            have HCell : Hid (∀ v : World, Below w3.heap.size w3 v → v.cell? ⟨gb, go + i, none⟩ = some (.slice ns[i].A ns[i].ns.length ns[i].c)) := fun v hv => by
              obtain ⟨gb', go', e4, _, h0⟩ := (HF3.out.next hv).at1 hx rfl
              rw [e3] at e4
              simp only [Option.some.injEq, Addr.mk.injEq] at e4
              obtain ⟨rfl, rfl, _⟩ := e4
              rw [Nat.mul_one] at h0
              exact h0
            have HRow := Lib.hid (HR3.out _ (List.mem_of_getElem? hx))
            generalize ns[i] = m0 at HM HCell HRow
            subst e3
            have HFd := Lib.hid (find_drop (ok := meetAll rows) HM.out)
            have hml := HLn.out _ (List.mem_of_getElem? HM.out)
            clear hx
            go_wp2_with fail
            go_loopw [11, 12] (fun all x wr => ∃ j : Nat, j ≤ rows.length ∧ x = .int .i64 j ∧ all = .bool ((rows.take j).all fun r => meetsB r m0.ns) ∧ Below w3.heap.size w3 wr) (fun _ x _ => rows.length - (intOf x).toNat)
            case atStart => exact ⟨0, Nat.zero_le _, rfl, rfl, hbi⟩
            case round =>
              obtain ⟨j, hj, rfl, rfl, hbj⟩ := hrel
              have hb1j : Below w1.heap.size w1 wr := bthen' hb13 hbj
              by_cases hjl : j < rows.length
              · have hx : rows[j]? = some rows[j] := List.getElem?_eq_getElem hjl
                obtain ⟨q, hq, hqr⟩ := HQ.out j _ hx
                have hrl2 := HBd.out _ (List.mem_of_getElem? hx)
                have HA : Hid (((rows.take (j + 1)).all fun r => meetsB r m0.ns) = (((rows.take j).all fun r => meetsB r m0.ns) && meetsB q.ns m0.ns)) := by
                  unfold Hid
                  rw [all_snoc hjl, hqr]
                rw [← hqr] at hrl2
                obtain ⟨tb, to, rfl, htB, h0⟩ := (HJ.out.1.next hb1j).at1 hq rfl
                rw [Nat.mul_one] at h0
                have Hq := Lib.hid ((HJ.out.2 _ (List.mem_of_getElem? hq)).next hb1j)
                have h1 := HCell.out wr hbj
                have Hm := Lib.hid ((HRow.out.1.rd.next hbj))
                have Hc : Hid (∀ v : Later wr, Calls Try.prog 92 #[.slice q.A q.ns.length q.c, .slice m0.A m0.ns.length m0.c] v.w fun e w' => e = .returned (.bool (meetsB q.ns m0.ns)) ∧ Below v.w.heap.size v.w w') := fun v => l19Meets_any q.A m0.A q.c m0.c q.ns m0.ns v.w (Hq.out.next v.below) (Hm.out.next v.below) (by omega) (by omega)
                generalize ((rows.take j).all fun r => meetsB r m0.ns) = al at HA ⊢
                generalize meetsB q.ns m0.ns = mt at HA Hc
                clear hx hq hqr Hq Hm
                have d0 : ∀ v : Later wr, v.w.cell? ⟨tb, to + j, none⟩ = some (.slice q.A q.ns.length q.c) := Later.cell h0
                have d1 : ∀ v : Later wr, v.w.cell? ⟨gb, go + i, none⟩ = some (.slice m0.A m0.ns.length m0.c) := Later.cell h1
                cases al with
                | false =>
                  go_wp2_with fail
                  refine wp_region_later (by kernel_rfl) (by kernel_rfl) ?_
                  repeat (go_big_quiet_step (fail))
                  refine wpQuiet_nil ?_
                  rintro w2 ⟨⟨_, hb2⟩, rfl⟩
                  have hbb := bthen' hbj hb2
                  go_wp2_with fail
                  exact ⟨⟨j + 1, by omega, by go_num, by rw [HA.out]; rfl, hbb⟩, by simp [intOf]; omega⟩
                | true =>
                  go_wp2_with fail
                  refine wp_region_later (by kernel_rfl) (by kernel_rfl) ?_
                  repeat (go_big_quiet_step ((go_at_call 92; exact Later.call (Hc.out _))))
                  refine wpQuiet_nil ?_
                  rintro w2 ⟨⟨_, hb2⟩, rfl⟩
                  have hbb := bthen' hbj hb2
                  go_wp2_with fail
                  exact ⟨⟨j + 1, by omega, by go_num, by rw [HA.out]; rfl, hbb⟩, by simp [intOf]; omega⟩
              · have HOk : Hid (meetAll rows m0.ns = ((rows.take j).all fun r => meetsB r m0.ns)) := by
                  unfold Hid meetAll
                  rw [List.take_of_length_le (by omega)]
                generalize ((rows.take j).all fun r => meetsB r m0.ns) = al at HOk ⊢
                rw [HOk.out] at HFd
                cases al with
                | true =>
                  have HR : Hid (res = (m0.ns, 0)) := HHit.out m0.ns (by rw [HD.out, HFd.out]; rfl)
                  have h1 := HCell.out wr hbj
                  clear HD HFd
                  go_wp2_with fail
                  go_ret2
                  exact ⟨m0.A, m0.c, by rw [HR.out]; rfl, by rw [HR.out]; exact (HRow.out.1.below hbj (Nat.le_refl _)).mono (Nat.le_refl _) hbj.size, by rw [HR.out]; exact HRow.out.2, bthen hb1 (bthen' hb13 hbj)⟩
                | false =>
                  have HD2 : Hid (L.find? (meetAll rows) = (L.drop (i + 1)).find? (meetAll rows)) := by
                    unfold Hid
                    rw [HD.out, HFd.out]
                    rfl
                  clear HD HFd
                  go_wp2_with fail
                  exact ⟨⟨i + 1, by omega, by go_num, HD2.out, hbj⟩, by simp [intOf]; omega⟩
          · have HN : Hid (L.find? (meetAll rows) = none) := by
              unfold Hid
              rw [HD.out, List.drop_of_length_le (by have := HLe2.out; omega)]
              rfl
            have HE2 := Lib.hid (HMiss.out HN.out)
            clear HD HN HE HMiss HHit
            go_wp2_with fail
            exact ⟨⟨f', k + 1, by omega, by go_num, HE2.out, bthen' hb13 hbi⟩, by simp [intOf]; omega⟩
      · obtain rfl : k = xs.length + 1 := by omega
        obtain rfl : f = 0 := by omega
        have HR : Hid (res = ([], 4)) := by
          unfold Hid
          rw [HF.out, HE.out]
          rfl
        clear HE
        go_wp2_with fail
        go_ret2
        exact ⟨none, 0, by rw [HR.out]; rfl, by rw [HR.out]; exact flat_nil, by rw [HR.out]; exact Nat.le_refl _, bthen hb1 hb⟩
  · have HF : Hid (fewR rs xs = ([], 1)) := by unfold Hid fewR; rw [if_neg z]
    have HTR : tableR rs xs = ([], 1) := by unfold tableR; rw [if_neg z]
    rw [HTR] at HT
    generalize fewR rs xs = res at HF ⊢
    clear z HTR
    go_enter Try.func44, Try.ntmps44
    go_wp2_with fail
    refine HT.out.mono ?_
    rintro e w1 ⟨A1, c1, rfl, _, _, hb1⟩
    go_wp2_with fail
    go_ret2
    exact ⟨none, 0, by rw [HF.out]; rfl, by rw [HF.out]; exact flat_nil, by rw [HF.out]; exact Nat.le_refl _, hb1⟩
end Go.Proofs.Ytfdnpobppelhaaa
