/- The walk of word.Do: what any operation makes of any words. -/
import Derived.Test.YtdefooailcbnlaaG39
import Derived.Handy
import Derived.Laws.EntriesVeiled
namespace Go.Proofs.Ytdefooailcbnlaa
open Go.RowKit
set_option linter.unusedVariables false
/-- The table of the operations, laid when n blocks are there. -/
abbrev opsRow (n : Nat) : Array Value := #[.func (.func 82) #[] #[], .func (.func 83) #[] #[], .func (.func 84) #[] #[], .func (.func 98) #[] #[.pointer (some ⟨n + 1, 0, none⟩)], .func (.func 98) #[] #[.pointer (some ⟨n + 2, 0, none⟩)], .func (.func 88) #[] #[], .func (.func 89) #[] #[], .func (.func 90) #[] #[], .func (.func 91) #[] #[], .func (.func 92) #[] #[], .func (.func 93) #[] #[], .func (.func 94) #[] #[], .func (.func 96) #[] #[], .func (.func 97) #[] #[]]
abbrev opsWorld (w : World) : World := ((w.alloc (.cells (opsRow w.heap.size) 134)).alloc (.cells #[.func (.func 86) #[] #[]] 140)).alloc (.cells #[.func (.func 87) #[] #[]] 140)
set_option maxHeartbeats 400000 in
theorem operations_any (w : World) : Calls Try.prog 77 #[] w fun e w' => e = .returned (.agg (opsRow w.heap.size)) ∧ opsWorld w = w' := by
  go_enter Try.func77, Try.ntmps77
  go_wp2
  go_returns
  exact ⟨rfl, rfl⟩
theorem opsWorld_below (w : World) : Below w.heap.size w (opsWorld w) := (((Below.refl _ _).alloc (Nat.le_refl _) _).alloc (by simp) _).alloc (by simp; omega) _
theorem opsWorld_c3 (w : World) (o : Obj) : ((opsWorld w).alloc o).cell? ⟨w.heap.size + 1, 0, none⟩ = some (.func (.func 86) #[] #[]) := by
  simp [go_sem, opsWorld]
theorem opsWorld_c4 (w : World) (o : Obj) : ((opsWorld w).alloc o).cell? ⟨w.heap.size + 2, 0, none⟩ = some (.func (.func 87) #[] #[]) := by
  simp [go_sem, opsWorld]

set_option maxHeartbeats 400000 in
theorem do0_any (a b : Int) (ha : 0 ≤ a) (ha2 : a < 4294967296) (hb : 0 ≤ b) (hb2 : b < 4294967296) (w : World) : Ret Try.prog 68 #[.int .u8 0, .int .u32 a, .int .u32 b] w (.tuple #[.int .u32 (doW 0 a b), .bool (doB 0 b)]) := by
  unfold Ret
  go_enter Try.func68, Try.ntmps68
  go_wp2_with (first | (go_at_call 77; refine (operations_any _).mono ?_; rintro e w' ⟨rfl, rfl⟩) | (go_at_call 82; refine (op0_any _ _ ha ha2 hb hb2 _).mono ?_; rintro e w' ⟨rfl, rfl⟩))
  go_ret2
  exact ⟨ret_ub rfl rfl, (opsWorld_below w).alloc (by simp; omega) _⟩

set_option maxHeartbeats 400000 in
theorem do1_any (a b : Int) (ha : 0 ≤ a) (ha2 : a < 4294967296) (hb : 0 ≤ b) (hb2 : b < 4294967296) (w : World) : Ret Try.prog 68 #[.int .u8 1, .int .u32 a, .int .u32 b] w (.tuple #[.int .u32 (doW 1 a b), .bool (doB 1 b)]) := by
  unfold Ret
  go_enter Try.func68, Try.ntmps68
  go_wp2_with (first | (go_at_call 77; refine (operations_any _).mono ?_; rintro e w' ⟨rfl, rfl⟩) | (go_at_call 83; refine (op1_any _ _ ha ha2 hb hb2 _).mono ?_; rintro e w' ⟨rfl, rfl⟩))
  go_ret2
  exact ⟨ret_ub rfl rfl, (opsWorld_below w).alloc (by simp; omega) _⟩

set_option maxHeartbeats 400000 in
theorem do2_any (a b : Int) (ha : 0 ≤ a) (ha2 : a < 4294967296) (hb : 0 ≤ b) (hb2 : b < 4294967296) (w : World) : Ret Try.prog 68 #[.int .u8 2, .int .u32 a, .int .u32 b] w (.tuple #[.int .u32 (doW 2 a b), .bool (doB 2 b)]) := by
  unfold Ret
  go_enter Try.func68, Try.ntmps68
  go_wp2_with (first | (go_at_call 77; refine (operations_any _).mono ?_; rintro e w' ⟨rfl, rfl⟩) | (go_at_call 84; refine (op2_any _ _ ha ha2 hb hb2 _).mono ?_; rintro e w' ⟨rfl, rfl⟩))
  go_ret2
  exact ⟨ret_ub rfl rfl, (opsWorld_below w).alloc (by simp; omega) _⟩

set_option maxHeartbeats 400000 in
theorem do3_zero (a : Int) (ha : 0 ≤ a) (ha2 : a < 4294967296) (w : World) : Ret Try.prog 68 #[.int .u8 3, .int .u32 a, .int .u32 0] w (.tuple #[.int .u32 (doW 3 a 0), .bool (doB 3 0)]) := by
  unfold Ret
  go_enter Try.func68, Try.ntmps68
  go_wp2_with (first | (go_at_call 77; refine (operations_any _).mono ?_; rintro e w' ⟨rfl, rfl⟩) | (go_at_call 98; refine (op3_zero _ _ ha ha2 _ (opsWorld_c3 _ _)).mono ?_; rintro e w' ⟨rfl, rfl⟩))
  go_ret2
  exact ⟨ret_ub rfl rfl, (opsWorld_below w).alloc (by simp; omega) _⟩

set_option maxHeartbeats 400000 in
theorem do3_some (a b : Int) (ha : 0 ≤ a) (ha2 : a < 4294967296) (hb : 0 ≤ b) (hb2 : b < 4294967296) (w : World) (h0 : b ≠ 0) : Ret Try.prog 68 #[.int .u8 3, .int .u32 a, .int .u32 b] w (.tuple #[.int .u32 (doW 3 a b), .bool (doB 3 b)]) := by
  unfold Ret
  go_enter Try.func68, Try.ntmps68
  go_wp2_with (first | (go_at_call 77; refine (operations_any _).mono ?_; rintro e w' ⟨rfl, rfl⟩) | (go_at_call 98; refine (op3_some _ _ _ ha ha2 hb hb2 _ h0 (opsWorld_c3 _ _)).mono ?_; rintro e w' ⟨rfl, rfl⟩))
  go_ret2
  exact ⟨ret_ub rfl rfl, (opsWorld_below w).alloc (by simp; omega) _⟩

set_option maxHeartbeats 400000 in
theorem do4_zero (a : Int) (ha : 0 ≤ a) (ha2 : a < 4294967296) (w : World) : Ret Try.prog 68 #[.int .u8 4, .int .u32 a, .int .u32 0] w (.tuple #[.int .u32 (doW 4 a 0), .bool (doB 4 0)]) := by
  unfold Ret
  go_enter Try.func68, Try.ntmps68
  go_wp2_with (first | (go_at_call 77; refine (operations_any _).mono ?_; rintro e w' ⟨rfl, rfl⟩) | (go_at_call 98; refine (op4_zero _ _ ha ha2 _ (opsWorld_c4 _ _)).mono ?_; rintro e w' ⟨rfl, rfl⟩))
  go_ret2
  exact ⟨ret_ub rfl rfl, (opsWorld_below w).alloc (by simp; omega) _⟩

set_option maxHeartbeats 400000 in
theorem do4_some (a b : Int) (ha : 0 ≤ a) (ha2 : a < 4294967296) (hb : 0 ≤ b) (hb2 : b < 4294967296) (w : World) (h0 : b ≠ 0) : Ret Try.prog 68 #[.int .u8 4, .int .u32 a, .int .u32 b] w (.tuple #[.int .u32 (doW 4 a b), .bool (doB 4 b)]) := by
  unfold Ret
  go_enter Try.func68, Try.ntmps68
  go_wp2_with (first | (go_at_call 77; refine (operations_any _).mono ?_; rintro e w' ⟨rfl, rfl⟩) | (go_at_call 98; refine (op4_some _ _ _ ha ha2 hb hb2 _ h0 (opsWorld_c4 _ _)).mono ?_; rintro e w' ⟨rfl, rfl⟩))
  go_ret2
  exact ⟨ret_ub rfl rfl, (opsWorld_below w).alloc (by simp; omega) _⟩

set_option maxHeartbeats 400000 in
theorem do5_any (a b : Int) (ha : 0 ≤ a) (ha2 : a < 4294967296) (hb : 0 ≤ b) (hb2 : b < 4294967296) (w : World) : Ret Try.prog 68 #[.int .u8 5, .int .u32 a, .int .u32 b] w (.tuple #[.int .u32 (doW 5 a b), .bool (doB 5 b)]) := by
  unfold Ret
  go_enter Try.func68, Try.ntmps68
  go_wp2_with (first | (go_at_call 77; refine (operations_any _).mono ?_; rintro e w' ⟨rfl, rfl⟩) | (go_at_call 88; refine (op5_any _ _ ha ha2 hb hb2 _).mono ?_; rintro e w' ⟨rfl, rfl⟩))
  go_ret2
  exact ⟨ret_ub rfl rfl, (opsWorld_below w).alloc (by simp; omega) _⟩

set_option maxHeartbeats 400000 in
theorem do6_any (a b : Int) (ha : 0 ≤ a) (ha2 : a < 4294967296) (hb : 0 ≤ b) (hb2 : b < 4294967296) (w : World) : Ret Try.prog 68 #[.int .u8 6, .int .u32 a, .int .u32 b] w (.tuple #[.int .u32 (doW 6 a b), .bool (doB 6 b)]) := by
  unfold Ret
  go_enter Try.func68, Try.ntmps68
  go_wp2_with (first | (go_at_call 77; refine (operations_any _).mono ?_; rintro e w' ⟨rfl, rfl⟩) | (go_at_call 89; refine (op6_any _ _ ha ha2 hb hb2 _).mono ?_; rintro e w' ⟨rfl, rfl⟩))
  go_ret2
  exact ⟨ret_ub rfl rfl, (opsWorld_below w).alloc (by simp; omega) _⟩

set_option maxHeartbeats 400000 in
theorem do7_any (a b : Int) (ha : 0 ≤ a) (ha2 : a < 4294967296) (hb : 0 ≤ b) (hb2 : b < 4294967296) (w : World) : Ret Try.prog 68 #[.int .u8 7, .int .u32 a, .int .u32 b] w (.tuple #[.int .u32 (doW 7 a b), .bool (doB 7 b)]) := by
  unfold Ret
  go_enter Try.func68, Try.ntmps68
  go_wp2_with (first | (go_at_call 77; refine (operations_any _).mono ?_; rintro e w' ⟨rfl, rfl⟩) | (go_at_call 90; refine (op7_any _ _ ha ha2 hb hb2 _).mono ?_; rintro e w' ⟨rfl, rfl⟩))
  go_ret2
  exact ⟨ret_ub rfl rfl, (opsWorld_below w).alloc (by simp; omega) _⟩

set_option maxHeartbeats 400000 in
theorem do8_any (a b : Int) (ha : 0 ≤ a) (ha2 : a < 4294967296) (hb : 0 ≤ b) (hb2 : b < 4294967296) (w : World) : Ret Try.prog 68 #[.int .u8 8, .int .u32 a, .int .u32 b] w (.tuple #[.int .u32 (doW 8 a b), .bool (doB 8 b)]) := by
  unfold Ret
  go_enter Try.func68, Try.ntmps68
  go_wp2_with (first | (go_at_call 77; refine (operations_any _).mono ?_; rintro e w' ⟨rfl, rfl⟩) | (go_at_call 91; refine (op8_any _ _ ha ha2 hb hb2 _).mono ?_; rintro e w' ⟨rfl, rfl⟩))
  go_ret2
  exact ⟨ret_ub rfl rfl, (opsWorld_below w).alloc (by simp; omega) _⟩

set_option maxHeartbeats 400000 in
theorem do9_any (a b : Int) (ha : 0 ≤ a) (ha2 : a < 4294967296) (hb : 0 ≤ b) (hb2 : b < 4294967296) (w : World) : Ret Try.prog 68 #[.int .u8 9, .int .u32 a, .int .u32 b] w (.tuple #[.int .u32 (doW 9 a b), .bool (doB 9 b)]) := by
  unfold Ret
  go_enter Try.func68, Try.ntmps68
  go_wp2_with (first | (go_at_call 77; refine (operations_any _).mono ?_; rintro e w' ⟨rfl, rfl⟩) | (go_at_call 92; refine (op9_any _ _ ha ha2 hb hb2 _).mono ?_; rintro e w' ⟨rfl, rfl⟩))
  go_ret2
  exact ⟨ret_ub rfl rfl, (opsWorld_below w).alloc (by simp; omega) _⟩

set_option maxHeartbeats 400000 in
theorem do10_any (a b : Int) (ha : 0 ≤ a) (ha2 : a < 4294967296) (hb : 0 ≤ b) (hb2 : b < 4294967296) (w : World) : Ret Try.prog 68 #[.int .u8 10, .int .u32 a, .int .u32 b] w (.tuple #[.int .u32 (doW 10 a b), .bool (doB 10 b)]) := by
  unfold Ret
  go_enter Try.func68, Try.ntmps68
  go_wp2_with (first | (go_at_call 77; refine (operations_any _).mono ?_; rintro e w' ⟨rfl, rfl⟩) | (go_at_call 93; refine (op10_any _ _ ha ha2 hb hb2 _).mono ?_; rintro e w' ⟨rfl, rfl⟩))
  go_ret2
  exact ⟨ret_ub rfl rfl, (opsWorld_below w).alloc (by simp; omega) _⟩

set_option maxHeartbeats 400000 in
theorem do11_any (a b : Int) (ha : 0 ≤ a) (ha2 : a < 4294967296) (hb : 0 ≤ b) (hb2 : b < 4294967296) (w : World) : Ret Try.prog 68 #[.int .u8 11, .int .u32 a, .int .u32 b] w (.tuple #[.int .u32 (doW 11 a b), .bool (doB 11 b)]) := by
  unfold Ret
  go_enter Try.func68, Try.ntmps68
  go_wp2_with (first | (go_at_call 77; refine (operations_any _).mono ?_; rintro e w' ⟨rfl, rfl⟩) | (go_at_call 94; refine (op11_any _ _ ha ha2 hb hb2 _).mono ?_; rintro e w' ⟨rfl, rfl⟩))
  go_ret2
  exact ⟨ret_ub rfl rfl, (opsWorld_below w).alloc (by simp; omega) _⟩

set_option maxHeartbeats 400000 in
theorem do12_any (a b : Int) (ha : 0 ≤ a) (ha2 : a < 4294967296) (hb : 0 ≤ b) (hb2 : b < 4294967296) (w : World) : Ret Try.prog 68 #[.int .u8 12, .int .u32 a, .int .u32 b] w (.tuple #[.int .u32 (doW 12 a b), .bool (doB 12 b)]) := by
  unfold Ret
  go_enter Try.func68, Try.ntmps68
  go_wp2_with (first | (go_at_call 77; refine (operations_any _).mono ?_; rintro e w' ⟨rfl, rfl⟩) | (go_at_call 96; refine (op12_any _ _ ha ha2 hb hb2 _).mono ?_; rintro e w' ⟨rfl, rfl⟩))
  go_ret2
  exact ⟨ret_ub rfl rfl, (opsWorld_below w).alloc (by simp; omega) _⟩

set_option maxHeartbeats 400000 in
theorem do13_any (a b : Int) (ha : 0 ≤ a) (ha2 : a < 4294967296) (hb : 0 ≤ b) (hb2 : b < 4294967296) (w : World) : Ret Try.prog 68 #[.int .u8 13, .int .u32 a, .int .u32 b] w (.tuple #[.int .u32 (doW 13 a b), .bool (doB 13 b)]) := by
  unfold Ret
  go_enter Try.func68, Try.ntmps68
  go_wp2_with (first | (go_at_call 77; refine (operations_any _).mono ?_; rintro e w' ⟨rfl, rfl⟩) | (go_at_call 97; refine (op13_any _ _ ha ha2 hb hb2 _).mono ?_; rintro e w' ⟨rfl, rfl⟩))
  go_ret2
  exact ⟨ret_ub rfl rfl, (opsWorld_below w).alloc (by simp; omega) _⟩

set_option maxHeartbeats 400000 in
theorem do_none (op : Int) (h1 : 14 ≤ op) (h2 : op < 256) (a b : Int) (w : World) : Ret Try.prog 68 #[.int .u8 op, .int .u32 a, .int .u32 b] w (.tuple #[.int .u32 0, .bool false]) := by
  unfold Ret
  go_enter Try.func68, Try.ntmps68
  go_wp2_with (go_at_call 77; refine (operations_any _).mono ?_; rintro e w' ⟨rfl, rfl⟩)
  go_ret2
  exact ⟨ret_ub rfl rfl, (opsWorld_below w).alloc (by simp; omega) _⟩
theorem doW_none (n : Nat) (h : 14 ≤ n) (a b : Int) : doW n a b = 0 := by
  obtain ⟨m, rfl⟩ := Nat.exists_eq_add_of_le h
  unfold doW; split <;> first | omega | rfl
theorem doB_none (n : Nat) (h : 14 ≤ n) (b : Int) : doB n b = false := by
  obtain ⟨m, rfl⟩ := Nat.exists_eq_add_of_le h
  unfold doB; split <;> first | omega | simp
/-- **What word.Do makes, whatever the operation and the words.** -/
theorem do_any (op : Int) (h1 : 0 ≤ op) (h2 : op < 256) (a b : Int) (ha : 0 ≤ a) (ha2 : a < 4294967296) (hb : 0 ≤ b) (hb2 : b < 4294967296) (w : World) :
    Ret Try.prog 68 #[.int .u8 op, .int .u32 a, .int .u32 b] w (.tuple #[.int .u32 (doW op.toNat a b), .bool (doB op.toNat b)]) := by
  by_cases h : 14 ≤ op
  · rw [doW_none _ (by omega), doB_none _ (by omega)]; exact do_none op h h2 a b w
  · have hc : op = 0 ∨ op = 1 ∨ op = 2 ∨ op = 3 ∨ op = 4 ∨ op = 5 ∨ op = 6 ∨ op = 7 ∨ op = 8 ∨ op = 9 ∨ op = 10 ∨ op = 11 ∨ op = 12 ∨ op = 13 := by omega
    rcases hc with rfl | rfl | rfl | rfl | rfl | rfl | rfl | rfl | rfl | rfl | rfl | rfl | rfl | rfl
    · exact do0_any a b ha ha2 hb hb2 w
    · exact do1_any a b ha ha2 hb hb2 w
    · exact do2_any a b ha ha2 hb hb2 w
    · by_cases h0 : b = 0
      · subst h0; exact do3_zero a ha ha2 w
      · exact do3_some a b ha ha2 hb hb2 w h0
    · by_cases h0 : b = 0
      · subst h0; exact do4_zero a ha ha2 w
      · exact do4_some a b ha ha2 hb hb2 w h0
    · exact do5_any a b ha ha2 hb hb2 w
    · exact do6_any a b ha ha2 hb hb2 w
    · exact do7_any a b ha ha2 hb hb2 w
    · exact do8_any a b ha ha2 hb hb2 w
    · exact do9_any a b ha ha2 hb hb2 w
    · exact do10_any a b ha ha2 hb hb2 w
    · exact do11_any a b ha ha2 hb hb2 w
    · exact do12_any a b ha ha2 hb hb2 w
    · exact do13_any a b ha ha2 hb hb2 w
end Go.Proofs.Ytdefooailcbnlaa
