/- The walks of shape.twice, with the names of functions, and of blocks. -/
import Derived.Test.YtdefooailcbnlaaG09
import Derived.Test.YtdefooailcbnlaaG04
import Derived.Laws.EntriesVeiled
namespace Go.Proofs.Ytdefooailcbnlaa
open Go.RowKit
set_option linter.unusedVariables false
set_option linter.unusedSimpArgs false
/-- A name is none, or one ahead has it. -/
def twiceB (nm : Nat → ByteArray) (n : Nat) : Bool := ((List.range n).any fun i => nm i == nm n) || !nameB (nm n).data.toList
theorem range_any_no {k : Nat} {f : Nat → Bool} (h : (List.range k).any f = false) (hk : f k = false) : (List.range (k + 1)).any f = false := by
  rw [List.range_succ, List.any_append, h]; simp [hk]
set_option maxHeartbeats 1000000 in
theorem twice_head (nm : Nat → ByteArray) (n N : Nat) (hn : n < N) (hN : N ≤ 140737488352000) (hz : (nm n).size ≤ 140737488352000) (B : Nat) (w : World)
    (HC : Hid (∀ i : Nat, i < N → Calls Try.prog 58 #[.int .i64 i, .pointer (some ⟨B, 0, none⟩)] w fun e w' => e = .returned (.string (nm i)) ∧ w = w')) :
    Calls Try.prog 57 #[.int .i64 n, .func (.func 58) #[] #[.pointer (some ⟨B, 0, none⟩)]] w fun e w' => e = .returned (.bool (twiceB nm n)) ∧ w = w' := by
  have HB := shid (show twiceB nm n = (((List.range n).any fun i => nm i == nm n) || !nameB (nm n).data.toList) from rfl)
  have HN := shid (name_any (nm n) hz w)
  generalize hnn : nm n = s at *
  have HS := shid hnn
  have HCn := shid (by have h := HC.out n hn; rw [hnn] at h; exact h)
  clear hnn
  go_enter Try.func57, Try.ntmps57
  go_wp2_with fail
  go_loop [7] (fun i => ∃ k : Nat, k ≤ n ∧ i = .int .i64 k ∧ ((List.range k).any fun i => nm i == s) = false) (fun i => n - (intOf i).toNat)
  case atStart => exact ⟨0, Nat.zero_le _, rfl, by simp⟩
  case round =>
    obtain ⟨k, hk, rfl, hf⟩ := hrel
    have HF := shid hf
    clear hf
    by_cases hlt : k < n
    · have HCk := shid (HC.out k (by omega))
      have HR := shid (show ((List.range n).any fun i => nm i == s) = true → nm k == s → True from fun _ _ => trivial)
      generalize hnk : nm k = t at HCk
      have HT := shid hnk
      clear hnk
      cases hts : (t == s)
      case false =>
        have htl : (t.toList == s.toList) = false := by rw [← beq_toListBytes]; exact hts
        have HE := shid (show ((List.range (k + 1)).any fun i => nm i == s) = false from range_any_no HF.out (by rw [HT.out]; exact hts))
        go_wp2_with (first | (go_at_call 58; (with_reducible refine HCk.out.mono ?_); rintro e w7 ⟨rfl, rfl⟩) | (go_at_call 58; (with_reducible refine HCn.out.mono ?_); rintro e w7 ⟨rfl, rfl⟩))
        go_round
        case rel => exact ⟨k + 1, by omega, by go_num, HE.out⟩
        case measure => simp [intOf]; omega
      case true =>
        have htl : (t.toList == s.toList) = true := by rw [← beq_toListBytes]; exact hts
        have HE := shid (show twiceB nm n = true by
          rw [HB.out]
          have : ((List.range n).any fun i => nm i == s) = true := List.any_eq_true.2 ⟨k, List.mem_range.2 hlt, by rw [HT.out]; exact hts⟩
          rw [this]; rfl)
        go_wp2_with (first | (go_at_call 58; (with_reducible refine HCk.out.mono ?_); rintro e w7 ⟨rfl, rfl⟩) | (go_at_call 58; (with_reducible refine HCn.out.mono ?_); rintro e w7 ⟨rfl, rfl⟩))
        go_ret
        exact ⟨sret_val (by rw [HE.out]; rfl), rfl⟩
    · obtain rfl : k = n := by omega
      have HE := shid (show twiceB nm k = !nameB s.data.toList by rw [HB.out, HF.out]; rfl)
      clear HF
      generalize nameB s.data.toList = b at HE HN
      go_wp2_with (first | (go_at_call 58; (with_reducible refine HCn.out.mono ?_); rintro e w7 ⟨rfl, rfl⟩) | (go_at_call 74; (with_reducible refine HN.out.mono ?_); rintro e w7 ⟨rfl, rfl⟩))
      go_ret
      exact ⟨sret_val (by rw [HE.out]; rfl), rfl⟩
set_option maxHeartbeats 1000000 in
theorem twice_block (nm : Nat → ByteArray) (n N : Nat) (hn : n < N) (hN : N ≤ 140737488352000) (hz : (nm n).size ≤ 140737488352000) (B : Nat) (w : World)
    (HC : Hid (∀ i : Nat, i < N → Calls Try.prog 60 #[.int .i64 i, .pointer (some ⟨B, 0, none⟩)] w fun e w' => e = .returned (.string (nm i)) ∧ w = w')) :
    Calls Try.prog 57 #[.int .i64 n, .func (.func 60) #[] #[.pointer (some ⟨B, 0, none⟩)]] w fun e w' => e = .returned (.bool (twiceB nm n)) ∧ w = w' := by
  have HB := shid (show twiceB nm n = (((List.range n).any fun i => nm i == nm n) || !nameB (nm n).data.toList) from rfl)
  have HN := shid (name_any (nm n) hz w)
  generalize hnn : nm n = s at *
  have HS := shid hnn
  have HCn := shid (by have h := HC.out n hn; rw [hnn] at h; exact h)
  clear hnn
  go_enter Try.func57, Try.ntmps57
  go_wp2_with fail
  go_loop [7] (fun i => ∃ k : Nat, k ≤ n ∧ i = .int .i64 k ∧ ((List.range k).any fun i => nm i == s) = false) (fun i => n - (intOf i).toNat)
  case atStart => exact ⟨0, Nat.zero_le _, rfl, by simp⟩
  case round =>
    obtain ⟨k, hk, rfl, hf⟩ := hrel
    have HF := shid hf
    clear hf
    by_cases hlt : k < n
    · have HCk := shid (HC.out k (by omega))
      have HR := shid (show ((List.range n).any fun i => nm i == s) = true → nm k == s → True from fun _ _ => trivial)
      generalize hnk : nm k = t at HCk
      have HT := shid hnk
      clear hnk
      cases hts : (t == s)
      case false =>
        have htl : (t.toList == s.toList) = false := by rw [← beq_toListBytes]; exact hts
        have HE := shid (show ((List.range (k + 1)).any fun i => nm i == s) = false from range_any_no HF.out (by rw [HT.out]; exact hts))
        go_wp2_with (first | (go_at_call 60; (with_reducible refine HCk.out.mono ?_); rintro e w7 ⟨rfl, rfl⟩) | (go_at_call 60; (with_reducible refine HCn.out.mono ?_); rintro e w7 ⟨rfl, rfl⟩))
        go_round
        case rel => exact ⟨k + 1, by omega, by go_num, HE.out⟩
        case measure => simp [intOf]; omega
      case true =>
        have htl : (t.toList == s.toList) = true := by rw [← beq_toListBytes]; exact hts
        have HE := shid (show twiceB nm n = true by
          rw [HB.out]
          have : ((List.range n).any fun i => nm i == s) = true := List.any_eq_true.2 ⟨k, List.mem_range.2 hlt, by rw [HT.out]; exact hts⟩
          rw [this]; rfl)
        go_wp2_with (first | (go_at_call 60; (with_reducible refine HCk.out.mono ?_); rintro e w7 ⟨rfl, rfl⟩) | (go_at_call 60; (with_reducible refine HCn.out.mono ?_); rintro e w7 ⟨rfl, rfl⟩))
        go_ret
        exact ⟨sret_val (by rw [HE.out]; rfl), rfl⟩
    · obtain rfl : k = n := by omega
      have HE := shid (show twiceB nm k = !nameB s.data.toList by rw [HB.out, HF.out]; rfl)
      clear HF
      generalize nameB s.data.toList = b at HE HN
      go_wp2_with (first | (go_at_call 60; (with_reducible refine HCn.out.mono ?_); rintro e w7 ⟨rfl, rfl⟩) | (go_at_call 74; (with_reducible refine HN.out.mono ?_); rintro e w7 ⟨rfl, rfl⟩))
      go_ret
      exact ⟨sret_val (by rw [HE.out]; rfl), rfl⟩
end Go.Proofs.Ytdefooailcbnlaa
