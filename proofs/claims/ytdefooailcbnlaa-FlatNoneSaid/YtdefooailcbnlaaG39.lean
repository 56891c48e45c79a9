/- Walks of the package word: what each function of it returns, whatever the words are. -/
import Derived.Test.YtdefooailcbnlaaG23
import Derived.Test.YtdefooailcbnlaaProg
import Derived.WalkSpells
import Derived.WalkLawsBesides
namespace Go.Proofs.Ytdefooailcbnlaa
open Go.RowKit
set_option linter.unusedVariables false
/-- A call that returns a value, and leaves all memory that was there as it was. -/
def Ret (P : Program) (f : FuncId) (args : Array Value) (w : World) (v : Value) : Prop := Calls P f args w fun e w' => e = .returned v ∧ Below w.heap.size w w'
theorem wrap32_bd (n : Int) : -2147483648 ≤ wrap32 n ∧ wrap32 n ≤ 2147483647 := by rw [s32_eq]; unfold s32; omega
theorem tdiv_small (x y : Int) (hx : -2147483648 ≤ x) (hx2 : x ≤ 2147483647) : -2147483648 ≤ x.tdiv y ∧ x.tdiv y ≤ 2147483648 := by
  have h : (x.tdiv y).natAbs ≤ x.natAbs := by rw [Int.natAbs_tdiv]; exact Nat.div_le_self _ _
  omega
theorem tmod_small (x y : Int) (hx : -2147483648 ≤ x) (hx2 : x ≤ 2147483647) : -2147483648 ≤ x.tmod y ∧ x.tmod y ≤ 2147483648 := by
  have h : (x.tmod y).natAbs ≤ x.natAbs := by rw [Int.natAbs_tmod]; exact Nat.mod_le _ _
  omega
theorem hid {p : Prop} (h : p) : Hid p := h
theorem ret_val {a b : Value} (h : a = b) : Ending.returned a = .returned b := by rw [h]
theorem ret_u {k : IntKind} {a b : Int} (h : a = b) : Ending.returned (.int k a) = .returned (.int k b) := by rw [h]
theorem ret_ub {k : IntKind} {a b : Int} {p q : Bool} (h : a = b) (g : p = q) : Ending.returned (.tuple #[.int k a, .bool p]) = .returned (.tuple #[.int k b, .bool q]) := by rw [h, g]

theorem truth_any (p : Bool) (w : World) : Calls Try.prog 95 #[.bool p] w fun e w' => e = .returned (.tuple #[.int .u32 (truthS p), .bool true]) ∧ w = w' := by
  cases p
  all_goals
    go_enter Try.func95, Try.ntmps95
    go_wp2
    go_ret2
    exact ⟨ret_ub rfl rfl, rfl⟩

theorem op0_any (a b : Int) (ha : 0 ≤ a) (ha2 : a < 4294967296) (hb : 0 ≤ b) (hb2 : b < 4294967296) (w : World) : Calls Try.prog 82 #[.int .u32 a, .int .u32 b] w fun e w' => e = .returned (.tuple #[.int .u32 (doW 0 a b), .bool (doB 0 b)]) ∧ w = w' := by
  go_enter Try.func82, Try.ntmps82
  go_wp2
  go_ret2
  exact ⟨ret_ub rfl rfl, rfl⟩

theorem op1_any (a b : Int) (ha : 0 ≤ a) (ha2 : a < 4294967296) (hb : 0 ≤ b) (hb2 : b < 4294967296) (w : World) : Calls Try.prog 83 #[.int .u32 a, .int .u32 b] w fun e w' => e = .returned (.tuple #[.int .u32 (doW 1 a b), .bool (doB 1 b)]) ∧ w = w' := by
  go_enter Try.func83, Try.ntmps83
  go_wp2
  go_ret2
  exact ⟨ret_ub rfl rfl, rfl⟩

theorem op2_any (a b : Int) (ha : 0 ≤ a) (ha2 : a < 4294967296) (hb : 0 ≤ b) (hb2 : b < 4294967296) (w : World) : Calls Try.prog 84 #[.int .u32 a, .int .u32 b] w fun e w' => e = .returned (.tuple #[.int .u32 (doW 2 a b), .bool (doB 2 b)]) ∧ w = w' := by
  go_enter Try.func84, Try.ntmps84
  go_wp2
  go_ret2
  exact ⟨ret_ub rfl rfl, rfl⟩

theorem op5_any (a b : Int) (ha : 0 ≤ a) (ha2 : a < 4294967296) (hb : 0 ≤ b) (hb2 : b < 4294967296) (w : World) : Calls Try.prog 88 #[.int .u32 a, .int .u32 b] w fun e w' => e = .returned (.tuple #[.int .u32 (doW 5 a b), .bool (doB 5 b)]) ∧ w = w' := by
  go_enter Try.func88, Try.ntmps88
  go_wp2
  go_ret2
  exact ⟨ret_ub (bits_and ha ha2 hb hb2) rfl, rfl⟩

theorem op6_any (a b : Int) (ha : 0 ≤ a) (ha2 : a < 4294967296) (hb : 0 ≤ b) (hb2 : b < 4294967296) (w : World) : Calls Try.prog 89 #[.int .u32 a, .int .u32 b] w fun e w' => e = .returned (.tuple #[.int .u32 (doW 6 a b), .bool (doB 6 b)]) ∧ w = w' := by
  go_enter Try.func89, Try.ntmps89
  go_wp2
  go_ret2
  exact ⟨ret_ub (bits_or ha ha2 hb hb2) rfl, rfl⟩

theorem op7_any (a b : Int) (ha : 0 ≤ a) (ha2 : a < 4294967296) (hb : 0 ≤ b) (hb2 : b < 4294967296) (w : World) : Calls Try.prog 90 #[.int .u32 a, .int .u32 b] w fun e w' => e = .returned (.tuple #[.int .u32 (doW 7 a b), .bool (doB 7 b)]) ∧ w = w' := by
  go_enter Try.func90, Try.ntmps90
  go_wp2
  go_ret2
  exact ⟨ret_ub (bits_xor ha ha2 hb hb2) rfl, rfl⟩

theorem op8_any (a b : Int) (ha : 0 ≤ a) (ha2 : a < 4294967296) (hb : 0 ≤ b) (hb2 : b < 4294967296) (w : World) : Calls Try.prog 91 #[.int .u32 a, .int .u32 b] w fun e w' => e = .returned (.tuple #[.int .u32 (doW 8 a b), .bool (doB 8 b)]) ∧ w = w' := by
  have e1 : bits .and .u32 b 31 = b % 32 := by rw [u32_and b 31 hb hb2 (by omega) (by omega)]; show ((b.toNat &&& 31 : Nat) : Int) = b % 32; rw [nat_mask5]; omega
  have e2 : 0 ≤ b % 32 := by omega
  go_enter Try.func91, Try.ntmps91
  go_wp2
  go_ret2
  exact ⟨ret_ub rfl rfl, rfl⟩

theorem op9_any (a b : Int) (ha : 0 ≤ a) (ha2 : a < 4294967296) (hb : 0 ≤ b) (hb2 : b < 4294967296) (w : World) : Calls Try.prog 92 #[.int .u32 a, .int .u32 b] w fun e w' => e = .returned (.tuple #[.int .u32 (doW 9 a b), .bool (doB 9 b)]) ∧ w = w' := by
  have e1 : bits .and .u32 b 31 = b % 32 := by rw [u32_and b 31 hb hb2 (by omega) (by omega)]; show ((b.toNat &&& 31 : Nat) : Int) = b % 32; rw [nat_mask5]; omega
  have e2 : 0 ≤ b % 32 := by omega
  go_enter Try.func92, Try.ntmps92
  go_wp2
  go_ret2
  exact ⟨ret_ub rfl rfl, rfl⟩

theorem op10_any (a b : Int) (ha : 0 ≤ a) (ha2 : a < 4294967296) (hb : 0 ≤ b) (hb2 : b < 4294967296) (w : World) : Calls Try.prog 93 #[.int .u32 a, .int .u32 b] w fun e w' => e = .returned (.tuple #[.int .u32 (doW 10 a b), .bool (doB 10 b)]) ∧ w = w' := by
  have e1 : bits .and .u32 b 31 = b % 32 := by rw [u32_and b 31 hb hb2 (by omega) (by omega)]; show ((b.toNat &&& 31 : Nat) : Int) = b % 32; rw [nat_mask5]; omega
  have e2 : 0 ≤ b % 32 := by omega
  go_enter Try.func93, Try.ntmps93
  go_wp2
  go_ret2
  exact ⟨ret_ub (by rw [s32_eq]; rfl) rfl, rfl⟩

theorem op11_any (a b : Int) (ha : 0 ≤ a) (ha2 : a < 4294967296) (hb : 0 ≤ b) (hb2 : b < 4294967296) (w : World) : Calls Try.prog 94 #[.int .u32 a, .int .u32 b] w fun e w' => e = .returned (.tuple #[.int .u32 (doW 11 a b), .bool (doB 11 b)]) ∧ w = w' := by
  go_enter Try.func94, Try.ntmps94
  go_wp2_with (go_at_call 95; refine (truth_any _ _).mono ?_; rintro e w' ⟨rfl, rfl⟩)
  go_ret2
  exact ⟨ret_ub (by rw [s32_eq, s32_eq]; rfl) rfl, rfl⟩

theorem op12_any (a b : Int) (ha : 0 ≤ a) (ha2 : a < 4294967296) (hb : 0 ≤ b) (hb2 : b < 4294967296) (w : World) : Calls Try.prog 96 #[.int .u32 a, .int .u32 b] w fun e w' => e = .returned (.tuple #[.int .u32 (doW 12 a b), .bool (doB 12 b)]) ∧ w = w' := by
  go_enter Try.func96, Try.ntmps96
  go_wp2_with (go_at_call 95; refine (truth_any _ _).mono ?_; rintro e w' ⟨rfl, rfl⟩)
  go_ret2
  exact ⟨ret_ub rfl rfl, rfl⟩

theorem op13_any (a b : Int) (ha : 0 ≤ a) (ha2 : a < 4294967296) (hb : 0 ≤ b) (hb2 : b < 4294967296) (w : World) : Calls Try.prog 97 #[.int .u32 a, .int .u32 b] w fun e w' => e = .returned (.tuple #[.int .u32 (doW 13 a b), .bool (doB 13 b)]) ∧ w = w' := by
  go_enter Try.func97, Try.ntmps97
  go_wp2_with (go_at_call 95; refine (truth_any _ _).mono ?_; rintro e w' ⟨rfl, rfl⟩)
  go_ret2
  exact ⟨ret_ub rfl rfl, rfl⟩

theorem fn3_any (x y : Int) (hx : -2147483648 ≤ x) (hx2 : x ≤ 2147483647) (hy : -2147483648 ≤ y) (hy2 : y ≤ 2147483647) (h0 : (y == 0) = false) (w : World) :
    Calls Try.prog 86 #[.int .i64 x, .int .i64 y] w fun e w' => e = .returned (.int .i64 (x.tdiv y)) ∧ w = w' := by
  have h1 : ¬ y = 0 := by simpa using h0
  have hq := tdiv_small x y hx hx2
  have hw : IntKind.i64.wrap (x.tdiv y) = x.tdiv y := IntWalk.i64_in _ (by omega)
  have hw2 : wrap64 (x.tdiv y) = x.tdiv y := by rw [IntWalk.wrap64_in _ (by omega)]
  go_enter Try.func86, Try.ntmps86
  go_wp2
  go_ret
  exact ⟨ret_u rfl, rfl⟩
theorem op3_zero (g : Nat) (a : Int) (ha : 0 ≤ a) (ha2 : a < 4294967296) (w : World) (hc : w.cell? ⟨g, 0, none⟩ = some (.func (.func 86) #[] #[])) :
    Calls Try.prog 98 #[.int .u32 a, .int .u32 0, .pointer (some ⟨g, 0, none⟩)] w fun e w' => e = .returned (.tuple #[.int .u32 (doW 3 a 0), .bool (doB 3 0)]) ∧ w = w' := by
  go_enter Try.func98, Try.ntmps98
  go_wp2
  go_ret2
  exact ⟨ret_ub (by simp [doW]) (by simp [doB]), rfl⟩
set_option maxHeartbeats 400000 in
theorem op3_some (g : Nat) (a b : Int) (ha : 0 ≤ a) (ha2 : a < 4294967296) (hb : 0 ≤ b) (hb2 : b < 4294967296) (w : World) (hb1 : b ≠ 0) (hc : w.cell? ⟨g, 0, none⟩ = some (.func (.func 86) #[] #[])) :
    Calls Try.prog 98 #[.int .u32 a, .int .u32 b, .pointer (some ⟨g, 0, none⟩)] w fun e w' => e = .returned (.tuple #[.int .u32 (doW 3 a b), .bool (doB 3 b)]) ∧ w = w' := by
  have hb3 : (b == 0) = false := by simpa using hb1
  have h1 := wrap32_bd a
  have h2 := wrap32_bd b
  have hs : (wrap32 b == 0) = false := by rw [s32_eq]; unfold s32; simp; omega
  go_enter Try.func98, Try.ntmps98
  go_wp2_with (go_at_call 86; refine (fn3_any _ _ h1.1 h1.2 h2.1 h2.2 hs _).mono ?_; rintro e w' ⟨rfl, rfl⟩)
  go_ret2
  exact ⟨ret_ub (by simp [doW, hb1, s32_eq]; rfl) (by simp [doB, hb1]), rfl⟩

theorem fn4_any (x y : Int) (hx : -2147483648 ≤ x) (hx2 : x ≤ 2147483647) (hy : -2147483648 ≤ y) (hy2 : y ≤ 2147483647) (h0 : (y == 0) = false) (w : World) :
    Calls Try.prog 87 #[.int .i64 x, .int .i64 y] w fun e w' => e = .returned (.int .i64 (x.tmod y)) ∧ w = w' := by
  have h1 : ¬ y = 0 := by simpa using h0
  have hq := tmod_small x y hx hx2
  have hw : IntKind.i64.wrap (x.tmod y) = x.tmod y := IntWalk.i64_in _ (by omega)
  have hw2 : wrap64 (x.tmod y) = x.tmod y := by rw [IntWalk.wrap64_in _ (by omega)]
  go_enter Try.func87, Try.ntmps87
  go_wp2
  go_ret
  exact ⟨ret_u rfl, rfl⟩
theorem op4_zero (g : Nat) (a : Int) (ha : 0 ≤ a) (ha2 : a < 4294967296) (w : World) (hc : w.cell? ⟨g, 0, none⟩ = some (.func (.func 87) #[] #[])) :
    Calls Try.prog 98 #[.int .u32 a, .int .u32 0, .pointer (some ⟨g, 0, none⟩)] w fun e w' => e = .returned (.tuple #[.int .u32 (doW 4 a 0), .bool (doB 4 0)]) ∧ w = w' := by
  go_enter Try.func98, Try.ntmps98
  go_wp2
  go_ret2
  exact ⟨ret_ub (by simp [doW]) (by simp [doB]), rfl⟩
set_option maxHeartbeats 400000 in
theorem op4_some (g : Nat) (a b : Int) (ha : 0 ≤ a) (ha2 : a < 4294967296) (hb : 0 ≤ b) (hb2 : b < 4294967296) (w : World) (hb1 : b ≠ 0) (hc : w.cell? ⟨g, 0, none⟩ = some (.func (.func 87) #[] #[])) :
    Calls Try.prog 98 #[.int .u32 a, .int .u32 b, .pointer (some ⟨g, 0, none⟩)] w fun e w' => e = .returned (.tuple #[.int .u32 (doW 4 a b), .bool (doB 4 b)]) ∧ w = w' := by
  have hb3 : (b == 0) = false := by simpa using hb1
  have h1 := wrap32_bd a
  have h2 := wrap32_bd b
  have hs : (wrap32 b == 0) = false := by rw [s32_eq]; unfold s32; simp; omega
  go_enter Try.func98, Try.ntmps98
  go_wp2_with (go_at_call 87; refine (fn4_any _ _ h1.1 h1.2 h2.1 h2.2 hs _).mono ?_; rintro e w' ⟨rfl, rfl⟩)
  go_ret2
  exact ⟨ret_ub (by simp [doW, hb1, s32_eq]; rfl) (by simp [doB, hb1]), rfl⟩
end Go.Proofs.Ytdefooailcbnlaa
