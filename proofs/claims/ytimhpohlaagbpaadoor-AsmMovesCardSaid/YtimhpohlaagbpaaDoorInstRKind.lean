/- Walks of the document's Kind and May (muntinref02). -/
import Derived.Test.YtimhpohlaagbpaaDoorInstEnc
import Derived.Outline
namespace Go.Proofs.YtimhpohlaagbpaaDoor
open Go.RowKit
set_option linter.unusedVariables false
set_option linter.unusedSimpArgs false
set_option maxHeartbeats 1000000 in
theorem rkind_one (op : Int) (h : (1 ≤ op ∧ op ≤ 14) ∨ (19 ≤ op ∧ op ≤ 25)) (w : World) : Calls Tryd.prog 40 #[.int .u8 op] w fun e w' => e = .returned (.int .i64 1) ∧ w = w' := by
  rcases h with ⟨h1, h2⟩ | ⟨h1, h2⟩
  · have g1 : decide (1 ≤ op) = true := by simpa using h1
    have g2 : decide (op ≤ 14) = true := by simpa using h2
    go_enter Tryd.func40, Tryd.ntmps40
    go_wp2
    go_ret
    exact ⟨rfl, rfl⟩
  · have g0 : decide (1 ≤ op) = true := by simp; omega
    have g1 : decide (op ≤ 14) = false := by simp; omega
    have g2 : decide (19 ≤ op) = true := by simpa using h1
    have g3 : decide (op ≤ 25) = true := by simpa using h2
    go_enter Tryd.func40, Tryd.ntmps40
    go_wp2
    go_ret
    exact ⟨rfl, rfl⟩
set_option maxHeartbeats 1000000 in
theorem rkind_far (op : Int) (h : 37 < op) (w : World) : Calls Tryd.prog 40 #[.int .u8 op] w fun e w' => e = .returned (.int .i64 0) ∧ w = w' := by
  have g0 : decide (1 ≤ op) = true := by simp; omega
  have g1 : decide (op ≤ 14) = false := by simp; omega
  have g2 : decide (19 ≤ op) = true := by simp; omega
  have g3 : decide (op ≤ 25) = false := by simp; omega
  have e15 : (op == 15) = false := by simp; omega
  have e16 : (op == 16) = false := by simp; omega
  have e17 : (op == 17) = false := by simp; omega
  have e18 : (op == 18) = false := by simp; omega
  have e26 : (op == 26) = false := by simp; omega
  have e27 : (op == 27) = false := by simp; omega
  have e28 : (op == 28) = false := by simp; omega
  have e29 : (op == 29) = false := by simp; omega
  have e30 : (op == 30) = false := by simp; omega
  have e31 : (op == 31) = false := by simp; omega
  have e32 : (op == 32) = false := by simp; omega
  have e33 : (op == 33) = false := by simp; omega
  have e34 : (op == 34) = false := by simp; omega
  have e35 : (op == 35) = false := by simp; omega
  have e36 : (op == 36) = false := by simp; omega
  have e37 : (op == 37) = false := by simp; omega
  go_enter Tryd.func40, Tryd.ntmps40
  go_wp2
  go_ret
  exact ⟨rfl, rfl⟩
set_option maxHeartbeats 4000000 in
theorem rkind_lit (op : Int) (h : op = 0 ∨ op = 15 ∨ op = 16 ∨ op = 17 ∨ op = 18 ∨ op = 26 ∨ op = 27 ∨ op = 28 ∨ op = 29 ∨ op = 30 ∨ op = 31 ∨ op = 32 ∨ op = 33 ∨ op = 34 ∨ op = 35 ∨ op = 36 ∨ op = 37) (w : World) : Calls Tryd.prog 40 #[.int .u8 op] w fun e w' => e = .returned (.int .i64 (kindS op)) ∧ w = w' := by
  rcases h with rfl | rfl | rfl | rfl | rfl | rfl | rfl | rfl | rfl | rfl | rfl | rfl | rfl | rfl | rfl | rfl | rfl
  all_goals
    go_enter Tryd.func40, Tryd.ntmps40
    go_wp2
    go_ret
    exact ⟨iret (by decide), rfl⟩
theorem rkind_any (op k : Int) (h0 : 0 ≤ op) (hk : kindS op = k) (w : World) : Calls Tryd.prog 40 #[.int .u8 op] w fun e w' => e = .returned (.int .i64 k) ∧ w = w' := by
  subst hk
  by_cases h1 : (1 ≤ op ∧ op ≤ 14) ∨ (19 ≤ op ∧ op ≤ 25)
  · rw [show kindS op = 1 from if_pos h1]; exact rkind_one op h1 w
  · by_cases h2 : 37 < op
    · rw [kind_no (.inr h2)]; exact rkind_far op h2 w
    · exact rkind_lit op (by omega) w
set_option maxHeartbeats 1000000 in
theorem rbetween_any (n low high : Int) (w : World) : Calls Tryd.prog 41 #[.int .i32 n, .int .i32 low, .int .i32 high] w fun e w' => e = .returned (.bool (decide (low ≤ n ∧ n ≤ high))) ∧ w = w' := by
  by_cases h1 : low ≤ n
  · by_cases h2 : n ≤ high
    · have g1 : decide (low ≤ n) = true := by simpa using h1
      have g2 : decide (n ≤ high) = true := by simpa using h2
      have E := ihid (show decide (low ≤ n ∧ n ≤ high) = true from decide_eq_true ⟨h1, h2⟩)
      clear h1 h2
      go_enter Tryd.func41, Tryd.ntmps41
      go_wp2
      go_ret
      exact ⟨iretb E.out.symm, rfl⟩
    · have g1 : decide (low ≤ n) = true := by simpa using h1
      have g2 : decide (n ≤ high) = false := by simpa using h2
      have E := ihid (show decide (low ≤ n ∧ n ≤ high) = false from decide_eq_false (fun h => h2 h.2))
      clear h1 h2
      go_enter Tryd.func41, Tryd.ntmps41
      go_wp2
      go_ret
      exact ⟨iretb E.out.symm, rfl⟩
  · have g1 : decide (low ≤ n) = false := by simpa using h1
    have E := ihid (show decide (low ≤ n ∧ n ≤ high) = false from decide_eq_false (fun h => h1 h.1))
    clear h1
    go_enter Tryd.func41, Tryd.ntmps41
    go_wp2
    go_ret
    exact ⟨iretb E.out.symm, rfl⟩
end Go.Proofs.YtimhpohlaagbpaaDoor
