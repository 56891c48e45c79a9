/- The document's windows (muntinref04). -/
import Derived.Test.YtilegepenibeoaaDoorPsrRes
import Derived.Test.YtilegepenibeoaaDoorPsrRef
namespace Go.Proofs.YtilegepenibeoaaDoor
open Go.RowKit
set_option linter.unusedVariables false
set_option linter.unusedSimpArgs false
/-- Whether one may ask for a window: three ways. -/
theorem okW_cases (x nw : Int) : (¬ winP nw ∧ ¬ okW x nw) ∨ (winP nw ∧ x < 0 ∧ ¬ okW x nw) ∨ (winP nw ∧ 0 ≤ x ∧ nw ≤ x ∧ ¬ okW x nw) ∨ (winP nw ∧ 0 ≤ x ∧ x < nw ∧ okW x nw) := by
  by_cases hw : winP nw
  · by_cases h0 : x < 0
    · exact .inr (.inl ⟨hw, h0, fun h => by have := h.2.1; omega⟩)
    · by_cases h1 : nw ≤ x
      · exact .inr (.inr (.inl ⟨hw, by omega, h1, fun h => by have := h.2.2; omega⟩))
      · exact .inr (.inr (.inr ⟨hw, by omega, by omega, hw, by omega, by omega⟩))
  · exact .inl ⟨hw, fun h => hw h.1⟩
set_option maxHeartbeats 1000000 in
theorem rnext_any (x nw by' : Int) (hby : winP nw → 0 ≤ by' ∧ by' ≤ 32) (w : World) : Calls Tryd.prog 24 #[.int .i64 x, .int .i64 nw, .int .i64 by'] w fun e w' => e = .returned (.tuple #[.int .i64 (stepV x by' nw), .int .i64 (okE x nw)]) ∧ w = w' := by
  have hq := rwindows_any nw
  rcases okW_cases x nw with ⟨hw, hn⟩ | ⟨hw, hx, hn⟩ | ⟨hw, hx, hx2, hn⟩ | ⟨hw, hx, hx2, hn⟩
  · rw [decide_eq_false hw] at hq
    have H1 := phid hq
    have E := phid (show stepV x by' nw = 0 ∧ okE x nw = 2 from ⟨if_neg hn, if_neg hn⟩)
    clear hq hw hn hby
    go_enter Tryd.func24, Tryd.ntmps24
    go_wp2_with fail
    refine (H1.out _).mono ?_
    rintro e w' ⟨rfl, rfl⟩
    go_wp2_with fail
    go_ret2
    exact ⟨pret2 E.out.1.symm E.out.2.symm, rfl⟩
  · rw [decide_eq_true hw] at hq
    have H1 := phid hq
    have E := phid (show stepV x by' nw = 0 ∧ okE x nw = 2 from ⟨if_neg hn, if_neg hn⟩)
    have d1 : decide (x < 0) = true := by simpa using hx
    clear hq hw hn hby hx
    go_enter Tryd.func24, Tryd.ntmps24
    go_wp2_with fail
    refine (H1.out _).mono ?_
    rintro e w' ⟨rfl, rfl⟩
    go_wp2_with fail
    go_ret2
    exact ⟨pret2 E.out.1.symm E.out.2.symm, rfl⟩
  · rw [decide_eq_true hw] at hq
    have H1 := phid hq
    have E := phid (show stepV x by' nw = 0 ∧ okE x nw = 2 from ⟨if_neg hn, if_neg hn⟩)
    have d1 : decide (x < 0) = false := by simp; omega
    have d2 : decide (nw ≤ x) = true := by simpa using hx2
    clear hq hw hn hby hx hx2
    go_enter Tryd.func24, Tryd.ntmps24
    go_wp2_with fail
    refine (H1.out _).mono ?_
    rintro e w' ⟨rfl, rfl⟩
    go_wp2_with fail
    go_ret2
    exact ⟨pret2 E.out.1.symm E.out.2.symm, rfl⟩
  · rw [decide_eq_true hw] at hq
    have H1 := phid hq
    have E := phid (show stepV x by' nw = (x + by') % nw ∧ okE x nw = 0 from ⟨if_pos hn, if_pos hn⟩)
    have d1 : decide (x < 0) = false := by simp; omega
    have d2 : decide (nw ≤ x) = false := by simp; omega
    have hb := hby hw
    obtain ⟨hw1, hw2⟩ := hw
    have hs : 0 ≤ x + by' ∧ x + by' ≤ 64 := by omega
    clear hq hn hby
    go_enter Tryd.func24, Tryd.ntmps24
    go_wp2_with fail
    refine (H1.out _).mono ?_
    rintro e w' ⟨rfl, rfl⟩
    go_wp2_with fail
    go_ret2
    exact ⟨pret2 E.out.1.symm E.out.2.symm, rfl⟩
theorem rahead_any (x nw : Int) (w : World) : Calls Tryd.prog 26 #[.int .i64 x, .int .i64 nw] w fun e w' => e = .returned (.tuple #[.int .i64 (stepV x (nw - 1) nw), .int .i64 (okE x nw)]) ∧ w = w' := by
  have hin : winP nw → wrap64 (nw - 1) = nw - 1 := fun h => by have h1 := h.1; have h2 := h.2; rw [IntWalk.wrap64_in _ (by omega)]
  have hs := rnext_any x nw (wrap64 (nw - 1)) (fun h => by have h1 := h.1; have h2 := h.2; rw [hin h]; omega)
  have he : stepV x (wrap64 (nw - 1)) nw = stepV x (nw - 1) nw := by
    unfold stepV
    by_cases h : okW x nw
    · rw [if_pos h, if_pos h, hin h.1]
    · rw [if_neg h, if_neg h]
  rw [he] at hs
  have H := phid hs
  clear hs he hin
  go_enter Tryd.func26, Tryd.ntmps26
  go_wp2_with fail
  refine (H.out _).mono ?_
  rintro e w' ⟨rfl, rfl⟩
  go_wp2_with fail
  go_ret2
  exact ⟨rfl, rfl⟩
set_option maxHeartbeats 1000000 in
theorem rwim_any (x nw : Int) (w : World) : Calls Tryd.prog 28 #[.int .i64 x, .int .i64 nw] w fun e w' => e = .returned (.tuple #[.int .u32 (wimV x nw), .int .i64 (okE x nw)]) ∧ w = w' := by
  have hq := rwindows_any nw
  rcases okW_cases x nw with ⟨hw, hn⟩ | ⟨hw, hx, hn⟩ | ⟨hw, hx, hx2, hn⟩ | ⟨hw, hx, hx2, hn⟩
  · rw [decide_eq_false hw] at hq
    have H1 := phid hq
    have E := phid (show wimV x nw = 0 ∧ okE x nw = 2 from ⟨if_neg hn, if_neg hn⟩)
    clear hq hw hn
    go_enter Tryd.func28, Tryd.ntmps28
    go_wp2_with fail
    refine (H1.out _).mono ?_
    rintro e w' ⟨rfl, rfl⟩
    go_wp2_with fail
    go_ret2
    exact ⟨pret2 E.out.1.symm E.out.2.symm, rfl⟩
  · rw [decide_eq_true hw] at hq
    have H1 := phid hq
    have E := phid (show wimV x nw = 0 ∧ okE x nw = 2 from ⟨if_neg hn, if_neg hn⟩)
    have d1 : decide (x < 0) = true := by simpa using hx
    clear hq hw hn hx
    go_enter Tryd.func28, Tryd.ntmps28
    go_wp2_with fail
    refine (H1.out _).mono ?_
    rintro e w' ⟨rfl, rfl⟩
    go_wp2_with fail
    go_ret2
    exact ⟨pret2 E.out.1.symm E.out.2.symm, rfl⟩
  · rw [decide_eq_true hw] at hq
    have H1 := phid hq
    have E := phid (show wimV x nw = 0 ∧ okE x nw = 2 from ⟨if_neg hn, if_neg hn⟩)
    have d1 : decide (x < 0) = false := by simp; omega
    have d2 : decide (nw ≤ x) = true := by simpa using hx2
    clear hq hw hn hx hx2
    go_enter Tryd.func28, Tryd.ntmps28
    go_wp2_with fail
    refine (H1.out _).mono ?_
    rintro e w' ⟨rfl, rfl⟩
    go_wp2_with fail
    go_ret2
    exact ⟨pret2 E.out.1.symm E.out.2.symm, rfl⟩
  · rw [decide_eq_true hw] at hq
    have H1 := phid hq
    have E := phid (show wimV x nw = 2 ^ x.toNat ∧ okE x nw = 0 from ⟨if_pos hn, if_pos hn⟩)
    have d1 : decide (x < 0) = false := by simp; omega
    have d2 : decide (nw ≤ x) = false := by simp; omega
    obtain ⟨hw1, hw2⟩ := hw
    obtain ⟨K, rfl⟩ := Int.eq_ofNat_of_zero_le hx
    rw [Int.toNat_natCast] at E
    clear hq hn
    go_enter Tryd.func28, Tryd.ntmps28
    go_wp2_with fail
    refine (H1.out _).mono ?_
    rintro e w' ⟨rfl, rfl⟩
    go_wp2_with fail
    go_loop [6, 7] (fun n i => ∃ k : Nat, k ≤ K ∧ i = .int .i64 k ∧ n = .int .u32 (2 ^ k)) (fun _ i => K - (intOf i).toNat)
    case atStart => exact ⟨0, Nat.zero_le _, rfl, rfl⟩
    case round =>
      obtain ⟨k, hk, rfl, rfl⟩ := hrel
      by_cases hlt : k < K
      · have hp : (2 : Int) ^ (k + 1) = 2 * 2 ^ k := by rw [Int.pow_succ]; omega
        have hp0 : (1 : Int) ≤ 2 ^ k ∧ (2 : Int) ^ k ≤ 1073741824 := by
          have h1 : 2 ^ k ≤ 2 ^ 30 := Nat.pow_le_pow_right (by omega) (by omega)
          have h2 : (2 : Int) ^ k = ((2 ^ k : Nat) : Int) := by simp
          have h3 := Nat.one_le_two_pow (n := k)
          rw [h2]
          generalize 2 ^ k = p at h1 h3 ⊢
          omega
        have HP := phid hp
        have hkk : (k : Int) < K := by omega
        clear hp
        generalize (2 : Int) ^ k = p at hp0 HP ⊢
        go_wp2_with fail
        go_round
        case rel => exact ⟨k + 1, by omega, by go_num, by rw [HP.out]⟩
        case measure => simp [intOf] <;> omega
      · obtain rfl : k = K := by omega
        go_wp2_with fail
        go_ret2
        exact ⟨pret2 E.out.1.symm E.out.2.symm, rfl⟩
end Go.Proofs.YtilegepenibeoaaDoor
