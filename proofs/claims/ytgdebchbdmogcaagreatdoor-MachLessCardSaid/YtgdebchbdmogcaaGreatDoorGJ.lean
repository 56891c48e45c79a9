/- Several texts in one: WordWalks, WordFlags, WordDo. -/
import Derived.Test.YtgdebchbdmogcaaGreatDoorGB
import Derived.Test.YtgdebchbdmogcaaGreatDoorProg
import Derived.WalkSpells
import Derived.WalkLawsBesides
import Derived.Handy
import Derived.Laws.EntriesVeiled
/- Walks of the package word: what each function of it returns, whatever the words are. -/
namespace Go.Proofs.YtgdebchbdmogcaaGreatDoor
open Go.RowKit
set_option linter.unusedVariables false
/-- A call that returns a value, and leaves all memory that was there as it was. -/
def Ret (P : Program) (f : FuncId) (args : Array Value) (w : World) (v : Value) : Prop := Calls P f args w fun e w' => e = .returned v ∧ Below w.heap.size w w'
theorem wrap32_bd (n : Int) : -2147483648 ≤ wrap32 n ∧ wrap32 n ≤ 2147483647 := by rw [s32_eq]; unfold s32; omega
theorem tdiv_small (x y : Int) (hx : -2147483648 ≤ x) (hx2 : x ≤ 2147483647) : -2147483648 ≤ x.tdiv y ∧ x.tdiv y ≤ 2147483648 := by
  have h : (x.tdiv y).natAbs ≤ x.natAbs := by rw [Int.natAbs_tdiv]; exact Nat.div_le_self _ _
  omega
theorem tmod_small (x y : Int) (hx : -2147483648 ≤ x) (hx2 : x ≤ 2147483647) : -2147483648 ≤ x.tmod y ∧ x.tmod y ≤ 2147483648 := by
  have h : (x.tmod y).natAbs ≤ x.natAbs := by rw [Int.natAbs_tmod]; exact Nat.mod_le _ _
  omega
theorem hid {p : Prop} (h : p) : Hid p := h
theorem ret_val {a b : Value} (h : a = b) : Ending.returned a = .returned b := by rw [h]
theorem ret_u {k : IntKind} {a b : Int} (h : a = b) : Ending.returned (.int k a) = .returned (.int k b) := by rw [h]
theorem ret_ub {k : IntKind} {a b : Int} {p q : Bool} (h : a = b) (g : p = q) : Ending.returned (.tuple #[.int k a, .bool p]) = .returned (.tuple #[.int k b, .bool q]) := by rw [h, g]

theorem truth_any (p : Bool) (w : World) : Calls Tryz.prog 134 #[.bool p] w fun e w' => e = .returned (.tuple #[.int .u32 (truthS p), .bool true]) ∧ w = w' := by
  cases p
  all_goals
    go_enter Tryz.func134, Tryz.ntmps134
    go_wp2
    go_ret2
    exact ⟨ret_ub rfl rfl, rfl⟩

theorem op0_any (a b : Int) (ha : 0 ≤ a) (ha2 : a < 4294967296) (hb : 0 ≤ b) (hb2 : b < 4294967296) (w : World) : Calls Tryz.prog 121 #[.int .u32 a, .int .u32 b] w fun e w' => e = .returned (.tuple #[.int .u32 (doW 0 a b), .bool (doB 0 b)]) ∧ w = w' := by
  go_enter Tryz.func121, Tryz.ntmps121
  go_wp2
  go_ret2
  exact ⟨ret_ub rfl rfl, rfl⟩

theorem op1_any (a b : Int) (ha : 0 ≤ a) (ha2 : a < 4294967296) (hb : 0 ≤ b) (hb2 : b < 4294967296) (w : World) : Calls Tryz.prog 122 #[.int .u32 a, .int .u32 b] w fun e w' => e = .returned (.tuple #[.int .u32 (doW 1 a b), .bool (doB 1 b)]) ∧ w = w' := by
  go_enter Tryz.func122, Tryz.ntmps122
  go_wp2
  go_ret2
  exact ⟨ret_ub rfl rfl, rfl⟩

theorem op2_any (a b : Int) (ha : 0 ≤ a) (ha2 : a < 4294967296) (hb : 0 ≤ b) (hb2 : b < 4294967296) (w : World) : Calls Tryz.prog 123 #[.int .u32 a, .int .u32 b] w fun e w' => e = .returned (.tuple #[.int .u32 (doW 2 a b), .bool (doB 2 b)]) ∧ w = w' := by
  go_enter Tryz.func123, Tryz.ntmps123
  go_wp2
  go_ret2
  exact ⟨ret_ub rfl rfl, rfl⟩

theorem op5_any (a b : Int) (ha : 0 ≤ a) (ha2 : a < 4294967296) (hb : 0 ≤ b) (hb2 : b < 4294967296) (w : World) : Calls Tryz.prog 127 #[.int .u32 a, .int .u32 b] w fun e w' => e = .returned (.tuple #[.int .u32 (doW 5 a b), .bool (doB 5 b)]) ∧ w = w' := by
  go_enter Tryz.func127, Tryz.ntmps127
  go_wp2
  go_ret2
  exact ⟨ret_ub (bits_and ha ha2 hb hb2) rfl, rfl⟩

theorem op6_any (a b : Int) (ha : 0 ≤ a) (ha2 : a < 4294967296) (hb : 0 ≤ b) (hb2 : b < 4294967296) (w : World) : Calls Tryz.prog 128 #[.int .u32 a, .int .u32 b] w fun e w' => e = .returned (.tuple #[.int .u32 (doW 6 a b), .bool (doB 6 b)]) ∧ w = w' := by
  go_enter Tryz.func128, Tryz.ntmps128
  go_wp2
  go_ret2
  exact ⟨ret_ub (bits_or ha ha2 hb hb2) rfl, rfl⟩

theorem op7_any (a b : Int) (ha : 0 ≤ a) (ha2 : a < 4294967296) (hb : 0 ≤ b) (hb2 : b < 4294967296) (w : World) : Calls Tryz.prog 129 #[.int .u32 a, .int .u32 b] w fun e w' => e = .returned (.tuple #[.int .u32 (doW 7 a b), .bool (doB 7 b)]) ∧ w = w' := by
  go_enter Tryz.func129, Tryz.ntmps129
  go_wp2
  go_ret2
  exact ⟨ret_ub (bits_xor ha ha2 hb hb2) rfl, rfl⟩

theorem op8_any (a b : Int) (ha : 0 ≤ a) (ha2 : a < 4294967296) (hb : 0 ≤ b) (hb2 : b < 4294967296) (w : World) : Calls Tryz.prog 130 #[.int .u32 a, .int .u32 b] w fun e w' => e = .returned (.tuple #[.int .u32 (doW 8 a b), .bool (doB 8 b)]) ∧ w = w' := by
  have e1 : bits .and .u32 b 31 = b % 32 := by rw [u32_and b 31 hb hb2 (by omega) (by omega)]; show ((b.toNat &&& 31 : Nat) : Int) = b % 32; rw [nat_mask5]; omega
  have e2 : 0 ≤ b % 32 := by omega
  go_enter Tryz.func130, Tryz.ntmps130
  go_wp2
  go_ret2
  exact ⟨ret_ub rfl rfl, rfl⟩

theorem op9_any (a b : Int) (ha : 0 ≤ a) (ha2 : a < 4294967296) (hb : 0 ≤ b) (hb2 : b < 4294967296) (w : World) : Calls Tryz.prog 131 #[.int .u32 a, .int .u32 b] w fun e w' => e = .returned (.tuple #[.int .u32 (doW 9 a b), .bool (doB 9 b)]) ∧ w = w' := by
  have e1 : bits .and .u32 b 31 = b % 32 := by rw [u32_and b 31 hb hb2 (by omega) (by omega)]; show ((b.toNat &&& 31 : Nat) : Int) = b % 32; rw [nat_mask5]; omega
  have e2 : 0 ≤ b % 32 := by omega
  go_enter Tryz.func131, Tryz.ntmps131
  go_wp2
  go_ret2
  exact ⟨ret_ub rfl rfl, rfl⟩

theorem op10_any (a b : Int) (ha : 0 ≤ a) (ha2 : a < 4294967296) (hb : 0 ≤ b) (hb2 : b < 4294967296) (w : World) : Calls Tryz.prog 132 #[.int .u32 a, .int .u32 b] w fun e w' => e = .returned (.tuple #[.int .u32 (doW 10 a b), .bool (doB 10 b)]) ∧ w = w' := by
  have e1 : bits .and .u32 b 31 = b % 32 := by rw [u32_and b 31 hb hb2 (by omega) (by omega)]; show ((b.toNat &&& 31 : Nat) : Int) = b % 32; rw [nat_mask5]; omega
  have e2 : 0 ≤ b % 32 := by omega
  go_enter Tryz.func132, Tryz.ntmps132
  go_wp2
  go_ret2
  exact ⟨ret_ub (by rw [s32_eq]; rfl) rfl, rfl⟩

theorem op11_any (a b : Int) (ha : 0 ≤ a) (ha2 : a < 4294967296) (hb : 0 ≤ b) (hb2 : b < 4294967296) (w : World) : Calls Tryz.prog 133 #[.int .u32 a, .int .u32 b] w fun e w' => e = .returned (.tuple #[.int .u32 (doW 11 a b), .bool (doB 11 b)]) ∧ w = w' := by
  go_enter Tryz.func133, Tryz.ntmps133
  go_wp2_with (go_at_call 134; refine (truth_any _ _).mono ?_; rintro e w' ⟨rfl, rfl⟩)
  go_ret2
  exact ⟨ret_ub (by rw [s32_eq, s32_eq]; rfl) rfl, rfl⟩

theorem op12_any (a b : Int) (ha : 0 ≤ a) (ha2 : a < 4294967296) (hb : 0 ≤ b) (hb2 : b < 4294967296) (w : World) : Calls Tryz.prog 135 #[.int .u32 a, .int .u32 b] w fun e w' => e = .returned (.tuple #[.int .u32 (doW 12 a b), .bool (doB 12 b)]) ∧ w = w' := by
  go_enter Tryz.func135, Tryz.ntmps135
  go_wp2_with (go_at_call 134; refine (truth_any _ _).mono ?_; rintro e w' ⟨rfl, rfl⟩)
  go_ret2
  exact ⟨ret_ub rfl rfl, rfl⟩

theorem op13_any (a b : Int) (ha : 0 ≤ a) (ha2 : a < 4294967296) (hb : 0 ≤ b) (hb2 : b < 4294967296) (w : World) : Calls Tryz.prog 136 #[.int .u32 a, .int .u32 b] w fun e w' => e = .returned (.tuple #[.int .u32 (doW 13 a b), .bool (doB 13 b)]) ∧ w = w' := by
  go_enter Tryz.func136, Tryz.ntmps136
  go_wp2_with (go_at_call 134; refine (truth_any _ _).mono ?_; rintro e w' ⟨rfl, rfl⟩)
  go_ret2
  exact ⟨ret_ub rfl rfl, rfl⟩

theorem fn3_any (x y : Int) (hx : -2147483648 ≤ x) (hx2 : x ≤ 2147483647) (hy : -2147483648 ≤ y) (hy2 : y ≤ 2147483647) (h0 : (y == 0) = false) (w : World) :
    Calls Tryz.prog 125 #[.int .i64 x, .int .i64 y] w fun e w' => e = .returned (.int .i64 (x.tdiv y)) ∧ w = w' := by
  have h1 : ¬ y = 0 := by simpa using h0
  have hq := tdiv_small x y hx hx2
  have hw : IntKind.i64.wrap (x.tdiv y) = x.tdiv y := IntWalk.i64_in _ (by omega)
  have hw2 : wrap64 (x.tdiv y) = x.tdiv y := by rw [IntWalk.wrap64_in _ (by omega)]
  go_enter Tryz.func125, Tryz.ntmps125
  go_wp2
  go_ret
  exact ⟨ret_u rfl, rfl⟩
theorem op3_zero (g : Nat) (a : Int) (ha : 0 ≤ a) (ha2 : a < 4294967296) (w : World) (hc : w.cell? ⟨g, 0, none⟩ = some (.func (.func 125) #[] #[])) :
    Calls Tryz.prog 139 #[.int .u32 a, .int .u32 0, .pointer (some ⟨g, 0, none⟩)] w fun e w' => e = .returned (.tuple #[.int .u32 (doW 3 a 0), .bool (doB 3 0)]) ∧ w = w' := by
  go_enter Tryz.func139, Tryz.ntmps139
  go_wp2
  go_ret2
  exact ⟨ret_ub (by simp [doW]) (by simp [doB]), rfl⟩
set_option maxHeartbeats 400000 in
theorem op3_some (g : Nat) (a b : Int) (ha : 0 ≤ a) (ha2 : a < 4294967296) (hb : 0 ≤ b) (hb2 : b < 4294967296) (w : World) (hb1 : b ≠ 0) (hc : w.cell? ⟨g, 0, none⟩ = some (.func (.func 125) #[] #[])) :
    Calls Tryz.prog 139 #[.int .u32 a, .int .u32 b, .pointer (some ⟨g, 0, none⟩)] w fun e w' => e = .returned (.tuple #[.int .u32 (doW 3 a b), .bool (doB 3 b)]) ∧ w = w' := by
  have hb3 : (b == 0) = false := by simpa using hb1
  have h1 := wrap32_bd a
  have h2 := wrap32_bd b
  have hs : (wrap32 b == 0) = false := by rw [s32_eq]; unfold s32; simp; omega
  go_enter Tryz.func139, Tryz.ntmps139
  go_wp2_with (go_at_call 125; refine (fn3_any _ _ h1.1 h1.2 h2.1 h2.2 hs _).mono ?_; rintro e w' ⟨rfl, rfl⟩)
  go_ret2
  exact ⟨ret_ub (by simp [doW, hb1, s32_eq]; rfl) (by simp [doB, hb1]), rfl⟩

theorem fn4_any (x y : Int) (hx : -2147483648 ≤ x) (hx2 : x ≤ 2147483647) (hy : -2147483648 ≤ y) (hy2 : y ≤ 2147483647) (h0 : (y == 0) = false) (w : World) :
    Calls Tryz.prog 126 #[.int .i64 x, .int .i64 y] w fun e w' => e = .returned (.int .i64 (x.tmod y)) ∧ w = w' := by
  have h1 : ¬ y = 0 := by simpa using h0
  have hq := tmod_small x y hx hx2
  have hw : IntKind.i64.wrap (x.tmod y) = x.tmod y := IntWalk.i64_in _ (by omega)
  have hw2 : wrap64 (x.tmod y) = x.tmod y := by rw [IntWalk.wrap64_in _ (by omega)]
  go_enter Tryz.func126, Tryz.ntmps126
  go_wp2
  go_ret
  exact ⟨ret_u rfl, rfl⟩
theorem op4_zero (g : Nat) (a : Int) (ha : 0 ≤ a) (ha2 : a < 4294967296) (w : World) (hc : w.cell? ⟨g, 0, none⟩ = some (.func (.func 126) #[] #[])) :
    Calls Tryz.prog 139 #[.int .u32 a, .int .u32 0, .pointer (some ⟨g, 0, none⟩)] w fun e w' => e = .returned (.tuple #[.int .u32 (doW 4 a 0), .bool (doB 4 0)]) ∧ w = w' := by
  go_enter Tryz.func139, Tryz.ntmps139
  go_wp2
  go_ret2
  exact ⟨ret_ub (by simp [doW]) (by simp [doB]), rfl⟩
set_option maxHeartbeats 400000 in
theorem op4_some (g : Nat) (a b : Int) (ha : 0 ≤ a) (ha2 : a < 4294967296) (hb : 0 ≤ b) (hb2 : b < 4294967296) (w : World) (hb1 : b ≠ 0) (hc : w.cell? ⟨g, 0, none⟩ = some (.func (.func 126) #[] #[])) :
    Calls Tryz.prog 139 #[.int .u32 a, .int .u32 b, .pointer (some ⟨g, 0, none⟩)] w fun e w' => e = .returned (.tuple #[.int .u32 (doW 4 a b), .bool (doB 4 b)]) ∧ w = w' := by
  have hb3 : (b == 0) = false := by simpa using hb1
  have h1 := wrap32_bd a
  have h2 := wrap32_bd b
  have hs : (wrap32 b == 0) = false := by rw [s32_eq]; unfold s32; simp; omega
  go_enter Tryz.func139, Tryz.ntmps139
  go_wp2_with (go_at_call 126; refine (fn4_any _ _ h1.1 h1.2 h2.1 h2.2 hs _).mono ?_; rintro e w' ⟨rfl, rfl⟩)
  go_ret2
  exact ⟨ret_ub (by simp [doW, hb1, s32_eq]; rfl) (by simp [doB, hb1]), rfl⟩
end Go.Proofs.YtgdebchbdmogcaaGreatDoor
/- The walks of word.Flags and word.Holds. -/
namespace Go.Proofs.YtgdebchbdmogcaaGreatDoor
open Go.RowKit
set_option linter.unusedVariables false
def preS (bs : List Bool) : Nat → Int
  | 0 => 0
  | k + 1 => 2 * preS bs k + truthS (bs.getD k false)
theorem preS_bd (bs : List Bool) : ∀ k, k ≤ 4 → 0 ≤ preS bs k ∧ preS bs k < 16 ∧ (k ≤ 3 → preS bs k < 8) := by
  intro k hk
  have h : ∀ j, 0 ≤ truthS (bs.getD j false) ∧ truthS (bs.getD j false) ≤ 1 := by intro j; unfold truthS; split <;> omega
  have h0 := h 0; have h1 := h 1; have h2 := h 2; have h3 := h 3
  have hc : k = 0 ∨ k = 1 ∨ k = 2 ∨ k = 3 ∨ k = 4 := by omega
  rcases hc with rfl | rfl | rfl | rfl | rfl <;> simp only [preS] <;> omega
set_option maxHeartbeats 400000 in
theorem wput_any (B : Nat) (bs : List Bool) (w : World) (hc : ∀ k, k < 4 → w.cell? ⟨B, k, none⟩ = some (.bool (bs[k]?.getD false))) :
    Calls Tryz.prog 118 #[.slice (some ⟨B, 0, none⟩) 4 4] w fun e w' => e = .returned (.int .u8 (preS bs 4)) ∧ w = w' := by
  go_enter Tryz.func118, Tryz.ntmps118
  go_wp2
  go_loop [3, 5, 8] (fun n _ i => ∃ k : Nat, k ≤ 4 ∧ i = .int .i64 k ∧ n = .int .u8 (preS bs k)) (fun _ _ i => 4 - (intOf i).toNat)
  case atStart => exact ⟨0, Nat.zero_le _, rfl, rfl⟩
  case round =>
    obtain ⟨k, hk, rfl, rfl⟩ := hrel
    have hb := preS_bd bs k hk
    by_cases hlt : k < 4
    · have hcell := hc k hlt
      have hb2 := hb.2.2 (by omega)
      clear hc
      go_wp2
      all_goals
        refine ⟨⟨k + 1, by omega, by go_num, ?_⟩, by simp [intOf]; omega⟩
        rw [show preS bs (k + 1) = 2 * preS bs k + truthS (bs[k]?.getD false) from by simp [preS]]
        first | (have ht : bs[k]?.getD false = true := by assumption); rw [ht]; simp [truthS]; omega | (have ht : bs[k]?.getD false = false := by assumption); rw [ht]; simp [truthS]; omega
    · obtain rfl : k = 4 := by omega
      go_wp2
      go_ret
      exact ⟨rfl, rfl⟩

theorem over_bit (a b : Int) (ha : 0 ≤ a) (ha2 : a < 4294967296) (hb : 0 ≤ b) (hb2 : b < 4294967296) :
    (andS (xorS a b) (xorS a (u32 (a - b))) / 2147483648 == 1) = !decide (s32 a - s32 b = s32 (a - b)) := by
  have hd := u32_bd (a - b)
  obtain ⟨A, rfl⟩ := Int.eq_ofNat_of_zero_le ha
  obtain ⟨B, rfl⟩ := Int.eq_ofNat_of_zero_le hb
  obtain ⟨D, hD⟩ := Int.eq_ofNat_of_zero_le hd.1
  rw [hD] at hd ⊢
  have e : andS (xorS A B) (xorS A D) / 2147483648 = (((A / 2147483648 ^^^ B / 2147483648) &&& (A / 2147483648 ^^^ D / 2147483648) : Nat) : Int) := by
    unfold andS xorS
    simp only [Int.toNat_natCast]
    rw [show (2147483648 : Int) = ((2 ^ 31 : Nat) : Int) from rfl, ← Int.natCast_ediv, Nat.and_div_two_pow, Nat.xor_div_two_pow, Nat.xor_div_two_pow]
  rw [e]
  have hA : A / 2147483648 = 0 ∨ A / 2147483648 = 1 := by omega
  have hB : B / 2147483648 = 0 ∨ B / 2147483648 = 1 := by omega
  have hDD : D / 2147483648 = 0 ∨ D / 2147483648 = 1 := by omega
  unfold u32 at hD
  unfold s32
  rcases hA with hA | hA <;> rcases hB with hB | hB <;> rcases hDD with hDD | hDD <;> rw [hA, hB, hDD] <;> simp <;> omega
theorem flags_eq (a b : Int) (p q r s : Bool) (hp : p = decide (s32 (a - b) < 0)) (hq : q = decide (a = b)) (hr : r = !decide (s32 a - s32 b = s32 (a - b))) (hs : s = decide (a < b)) :
    preS [p, q, r, s] 4 = flagsS a b := by
  subst hp hq hr hs
  simp only [preS, flagsS, List.getD_cons_zero, List.getD_cons_succ]; omega
theorem cells_four (w : World) (p q r s : Bool) : ∀ k, k < 4 → (w.alloc (.cells #[.bool p, .bool q, .bool r, .bool s] 4)).cell? ⟨w.heap.size, k, none⟩ = some (.bool ([p, q, r, s][k]?.getD false)) := by
  intro k hk
  have hc : k = 0 ∨ k = 1 ∨ k = 2 ∨ k = 3 := by omega
  rcases hc with rfl | rfl | rfl | rfl <;> simp
set_option maxHeartbeats 400000 in
theorem flags_any (a b : Int) (ha : 0 ≤ a) (ha2 : a < 4294967296) (hb : 0 ≤ b) (hb2 : b < 4294967296) (w : World) :
    Ret Tryz.prog 100 #[.int .u32 a, .int .u32 b] w (.int .u8 (flagsS a b)) := by
  unfold Ret
  have hd := u32_bd (a - b)
  unfold u32 at hd
  have hx1 := xorS_bd ha2 hb2
  have hx2 := xorS_bd ha2 hd.2
  have e1 := bits_xor ha ha2 hb hb2
  have e2 := bits_xor ha ha2 hd.1 hd.2
  have e3 := bits_and hx1.1 hx1.2 hx2.1 hx2.2
  go_enter Tryz.func100, Tryz.ntmps100
  go_wp2_with fail
  refine (wput_any _ [_, _, _, _] _ (cells_four _ _ _ _ _)).mono ?_
  rintro e w' ⟨rfl, rfl⟩
  go_wp2
  go_ret
  refine ⟨ret_u (flags_eq a b _ _ _ _ ?_ ?_ ?_ rfl), (Below.refl _ _).alloc (Nat.le_refl _) _⟩
  · rw [s32_eq, ← s32_u32 (a - b)]; rfl
  · rw [Bool.eq_iff_iff]; simp; omega
  · exact over_bit a b ha ha2 hb hb2
theorem has_bit (f : Int) (i : Nat) (h : 0 ≤ f) (h2 : f < 256) (hi : i < 8) : (bits .and .u8 f ((2 ^ i : Nat) : Int) != 0) = whasS f ((2 ^ i : Nat) : Int) := by
  have hp : 2 ^ i < 256 := by have := Nat.pow_lt_pow_right (a := 2) (by omega) hi; omega
  rw [u8_and f _ h h2 (Int.natCast_nonneg _) (Int.ofNat_lt.2 hp)]
  obtain ⟨F, rfl⟩ := Int.eq_ofNat_of_zero_le h
  simp only [Int.toNat_natCast]
  rw [nat_bit]
  have hpos : 0 < 2 ^ i := Nat.two_pow_pos i
  generalize 2 ^ i = m at hpos ⊢
  unfold whasS
  rw [← Int.natCast_ediv]
  have h3 : F / m % 2 = 0 ∨ F / m % 2 = 1 := by omega
  have h4 : ((F / m : Nat) : Int) % 2 = ((F / m % 2 : Nat) : Int) := by simp
  rw [h4]
  rcases h3 with h3 | h3
  · rw [h3]; simp
  · rw [h3, Nat.one_mul]; rw [show decide (((1 : Nat) : Int) = 1) = true from rfl, bne_iff_ne]; omega
set_option maxHeartbeats 400000 in
theorem has_any (g : Nat) (f : Int) (h : 0 ≤ f) (h2 : f < 256) (n : Int) (hn : n = 1 ∨ n = 2 ∨ n = 4 ∨ n = 8) (w : World) (hc : w.cell? ⟨g, 0, none⟩ = some (.int .u8 f)) :
    Calls Tryz.prog 119 #[.int .u8 n, .pointer (some ⟨g, 0, none⟩)] w fun e w' => e = .returned (.bool (whasS f n)) ∧ w = w' := by
  have hb : (bits .and .u8 f n != 0) = whasS f n := by
    rcases hn with rfl | rfl | rfl | rfl
    · exact has_bit f 0 h h2 (by omega)
    · exact has_bit f 1 h h2 (by omega)
    · exact has_bit f 2 h h2 (by omega)
    · exact has_bit f 3 h h2 (by omega)
  clear hn
  go_enter Tryz.func119, Tryz.ntmps119
  go_wp2
  go_ret
  exact ⟨rfl, rfl⟩

set_option maxHeartbeats 400000 in
theorem holds0_any (f : Int) (h : 0 ≤ f) (h2 : f < 256) (w : World) : Ret Tryz.prog 101 #[.int .u8 0, .int .u8 f] w (.bool (holdsS 0 f)) := by
  unfold Ret
  have hc : (w.alloc (.cells #[.int .u8 f] 5)).cell? ⟨w.heap.size, 0, none⟩ = some (.int .u8 f) := by simp
  go_enter Tryz.func101, Tryz.ntmps101
  go_wp2_with fail
  go_ret
  exact ⟨ret_val (by simp [holdsS]), (Below.refl _ _).alloc (Nat.le_refl _) _⟩

set_option maxHeartbeats 400000 in
theorem holds1_any (f : Int) (h : 0 ≤ f) (h2 : f < 256) (w : World) : Ret Tryz.prog 101 #[.int .u8 1, .int .u8 f] w (.bool (holdsS 1 f)) := by
  unfold Ret
  have hc : (w.alloc (.cells #[.int .u8 f] 5)).cell? ⟨w.heap.size, 0, none⟩ = some (.int .u8 f) := by simp
  go_enter Tryz.func101, Tryz.ntmps101
  go_wp2_with fail
  refine (has_any _ f h h2 4 (by simp) _ hc).mono ?_
  rintro e w' ⟨rfl, rfl⟩
  go_wp2_with fail
  go_ret
  exact ⟨ret_val (by simp [holdsS]), (Below.refl _ _).alloc (Nat.le_refl _) _⟩

set_option maxHeartbeats 400000 in
theorem holds2_any (f : Int) (h : 0 ≤ f) (h2 : f < 256) (w : World) : Ret Tryz.prog 101 #[.int .u8 2, .int .u8 f] w (.bool (holdsS 2 f)) := by
  unfold Ret
  have hc : (w.alloc (.cells #[.int .u8 f] 5)).cell? ⟨w.heap.size, 0, none⟩ = some (.int .u8 f) := by simp
  go_enter Tryz.func101, Tryz.ntmps101
  go_wp2_with fail
  refine (has_any _ f h h2 4 (by simp) _ hc).mono ?_
  rintro e w' ⟨rfl, rfl⟩
  go_wp2_with fail
  go_ret
  exact ⟨ret_val (by simp [holdsS]), (Below.refl _ _).alloc (Nat.le_refl _) _⟩

set_option maxHeartbeats 400000 in
theorem holds3_any (f : Int) (h : 0 ≤ f) (h2 : f < 256) (w : World) : Ret Tryz.prog 101 #[.int .u8 3, .int .u8 f] w (.bool (holdsS 3 f)) := by
  unfold Ret
  have hc : (w.alloc (.cells #[.int .u8 f] 5)).cell? ⟨w.heap.size, 0, none⟩ = some (.int .u8 f) := by simp
  go_enter Tryz.func101, Tryz.ntmps101
  go_wp2_with fail
  refine (has_any _ f h h2 8 (by simp) _ hc).mono ?_
  rintro e w' ⟨rfl, rfl⟩
  go_wp2_with fail
  refine (has_any _ f h h2 2 (by simp) _ hc).mono ?_
  rintro e w' ⟨rfl, rfl⟩
  go_wp2_with fail
  go_ret
  exact ⟨ret_val (by simp [holdsS]; cases whasS f 8 <;> cases whasS f 2 <;> rfl), (Below.refl _ _).alloc (Nat.le_refl _) _⟩

set_option maxHeartbeats 400000 in
theorem holds4_any (f : Int) (h : 0 ≤ f) (h2 : f < 256) (w : World) : Ret Tryz.prog 101 #[.int .u8 4, .int .u8 f] w (.bool (holdsS 4 f)) := by
  unfold Ret
  have hc : (w.alloc (.cells #[.int .u8 f] 5)).cell? ⟨w.heap.size, 0, none⟩ = some (.int .u8 f) := by simp
  go_enter Tryz.func101, Tryz.ntmps101
  go_wp2_with fail
  refine (has_any _ f h h2 8 (by simp) _ hc).mono ?_
  rintro e w' ⟨rfl, rfl⟩
  go_wp2_with fail
  refine (has_any _ f h h2 2 (by simp) _ hc).mono ?_
  rintro e w' ⟨rfl, rfl⟩
  go_wp2_with fail
  go_ret
  exact ⟨ret_val (by simp [holdsS]; cases whasS f 8 <;> cases whasS f 2 <;> rfl), (Below.refl _ _).alloc (Nat.le_refl _) _⟩

set_option maxHeartbeats 400000 in
theorem holds5_any (f : Int) (h : 0 ≤ f) (h2 : f < 256) (w : World) : Ret Tryz.prog 101 #[.int .u8 5, .int .u8 f] w (.bool (holdsS 5 f)) := by
  unfold Ret
  have hc : (w.alloc (.cells #[.int .u8 f] 5)).cell? ⟨w.heap.size, 0, none⟩ = some (.int .u8 f) := by simp
  go_enter Tryz.func101, Tryz.ntmps101
  go_wp2_with fail
  refine (has_any _ f h h2 1 (by simp) _ hc).mono ?_
  rintro e w' ⟨rfl, rfl⟩
  go_wp2_with fail
  go_ret
  exact ⟨ret_val (by simp [holdsS]), (Below.refl _ _).alloc (Nat.le_refl _) _⟩

set_option maxHeartbeats 400000 in
theorem holds6_any (f : Int) (h : 0 ≤ f) (h2 : f < 256) (w : World) : Ret Tryz.prog 101 #[.int .u8 6, .int .u8 f] w (.bool (holdsS 6 f)) := by
  unfold Ret
  have hc : (w.alloc (.cells #[.int .u8 f] 5)).cell? ⟨w.heap.size, 0, none⟩ = some (.int .u8 f) := by simp
  go_enter Tryz.func101, Tryz.ntmps101
  go_wp2_with fail
  refine (has_any _ f h h2 1 (by simp) _ hc).mono ?_
  rintro e w' ⟨rfl, rfl⟩
  go_wp2_with fail
  go_ret
  exact ⟨ret_val (by simp [holdsS]), (Below.refl _ _).alloc (Nat.le_refl _) _⟩

set_option maxHeartbeats 400000 in
theorem holds_none (c : Int) (hc : 7 ≤ c) (f : Int) (w : World) : Ret Tryz.prog 101 #[.int .u8 c, .int .u8 f] w (.bool false) := by
  unfold Ret
  go_enter Tryz.func101, Tryz.ntmps101
  go_wp2_with fail
  go_ret
  exact ⟨rfl, (Below.refl _ _).alloc (Nat.le_refl _) _⟩
theorem holds_any (c : Int) (h1 : 0 ≤ c) (f : Int) (h : 0 ≤ f) (h2 : f < 256) (w : World) : Ret Tryz.prog 101 #[.int .u8 c, .int .u8 f] w (.bool (holdsS c.toNat f)) := by
  by_cases h7 : 7 ≤ c
  · have e : holdsS c.toNat f = false := by
      obtain ⟨m, hm⟩ := Nat.exists_eq_add_of_le (show 7 ≤ c.toNat by omega)
      rw [hm]; unfold holdsS; split <;> first | omega | rfl
    rw [e]; exact holds_none c h7 f w
  · have hc : c = 0 ∨ c = 1 ∨ c = 2 ∨ c = 3 ∨ c = 4 ∨ c = 5 ∨ c = 6 := by omega
    rcases hc with rfl | rfl | rfl | rfl | rfl | rfl | rfl
    · exact holds0_any f h h2 w
    · exact holds1_any f h h2 w
    · exact holds2_any f h h2 w
    · exact holds3_any f h h2 w
    · exact holds4_any f h h2 w
    · exact holds5_any f h h2 w
    · exact holds6_any f h h2 w
end Go.Proofs.YtgdebchbdmogcaaGreatDoor
/- The walk of word.Do: what any operation makes of any words. -/
namespace Go.Proofs.YtgdebchbdmogcaaGreatDoor
open Go.RowKit
set_option linter.unusedVariables false
/-- The table of the operations, laid when n blocks are there. -/
abbrev opsRow (n : Nat) : Array Value := #[.func (.func 121) #[] #[], .func (.func 122) #[] #[], .func (.func 123) #[] #[], .func (.func 139) #[] #[.pointer (some ⟨n + 1, 0, none⟩)], .func (.func 139) #[] #[.pointer (some ⟨n + 2, 0, none⟩)], .func (.func 127) #[] #[], .func (.func 128) #[] #[], .func (.func 129) #[] #[], .func (.func 130) #[] #[], .func (.func 131) #[] #[], .func (.func 132) #[] #[], .func (.func 133) #[] #[], .func (.func 135) #[] #[], .func (.func 136) #[] #[]]
abbrev opsWorld (w : World) : World := ((w.alloc (.cells (opsRow w.heap.size) 162)).alloc (.cells #[.func (.func 125) #[] #[]] 177)).alloc (.cells #[.func (.func 126) #[] #[]] 177)
set_option maxHeartbeats 400000 in
theorem operations_any (w : World) : Calls Tryz.prog 111 #[] w fun e w' => e = .returned (.agg (opsRow w.heap.size)) ∧ opsWorld w = w' := by
  go_enter Tryz.func111, Tryz.ntmps111
  go_wp2
  go_returns
  exact ⟨rfl, rfl⟩
theorem opsWorld_below (w : World) : Below w.heap.size w (opsWorld w) := (((Below.refl _ _).alloc (Nat.le_refl _) _).alloc (by simp) _).alloc (by simp; omega) _
theorem opsWorld_c3 (w : World) (o : Obj) : ((opsWorld w).alloc o).cell? ⟨w.heap.size + 1, 0, none⟩ = some (.func (.func 125) #[] #[]) := by
  simp [go_sem, opsWorld]
theorem opsWorld_c4 (w : World) (o : Obj) : ((opsWorld w).alloc o).cell? ⟨w.heap.size + 2, 0, none⟩ = some (.func (.func 126) #[] #[]) := by
  simp [go_sem, opsWorld]

set_option maxHeartbeats 400000 in
theorem do0_any (a b : Int) (ha : 0 ≤ a) (ha2 : a < 4294967296) (hb : 0 ≤ b) (hb2 : b < 4294967296) (w : World) : Ret Tryz.prog 87 #[.int .u8 0, .int .u32 a, .int .u32 b] w (.tuple #[.int .u32 (doW 0 a b), .bool (doB 0 b)]) := by
  unfold Ret
  go_enter Tryz.func87, Tryz.ntmps87
  go_wp2_with (first | (go_at_call 111; refine (operations_any _).mono ?_; rintro e w' ⟨rfl, rfl⟩) | (go_at_call 121; refine (op0_any _ _ ha ha2 hb hb2 _).mono ?_; rintro e w' ⟨rfl, rfl⟩))
  go_ret2
  exact ⟨ret_ub rfl rfl, (opsWorld_below w).alloc (by simp; omega) _⟩

set_option maxHeartbeats 400000 in
theorem do1_any (a b : Int) (ha : 0 ≤ a) (ha2 : a < 4294967296) (hb : 0 ≤ b) (hb2 : b < 4294967296) (w : World) : Ret Tryz.prog 87 #[.int .u8 1, .int .u32 a, .int .u32 b] w (.tuple #[.int .u32 (doW 1 a b), .bool (doB 1 b)]) := by
  unfold Ret
  go_enter Tryz.func87, Tryz.ntmps87
  go_wp2_with (first | (go_at_call 111; refine (operations_any _).mono ?_; rintro e w' ⟨rfl, rfl⟩) | (go_at_call 122; refine (op1_any _ _ ha ha2 hb hb2 _).mono ?_; rintro e w' ⟨rfl, rfl⟩))
  go_ret2
  exact ⟨ret_ub rfl rfl, (opsWorld_below w).alloc (by simp; omega) _⟩

set_option maxHeartbeats 400000 in
theorem do2_any (a b : Int) (ha : 0 ≤ a) (ha2 : a < 4294967296) (hb : 0 ≤ b) (hb2 : b < 4294967296) (w : World) : Ret Tryz.prog 87 #[.int .u8 2, .int .u32 a, .int .u32 b] w (.tuple #[.int .u32 (doW 2 a b), .bool (doB 2 b)]) := by
  unfold Ret
  go_enter Tryz.func87, Tryz.ntmps87
  go_wp2_with (first | (go_at_call 111; refine (operations_any _).mono ?_; rintro e w' ⟨rfl, rfl⟩) | (go_at_call 123; refine (op2_any _ _ ha ha2 hb hb2 _).mono ?_; rintro e w' ⟨rfl, rfl⟩))
  go_ret2
  exact ⟨ret_ub rfl rfl, (opsWorld_below w).alloc (by simp; omega) _⟩

set_option maxHeartbeats 400000 in
theorem do3_zero (a : Int) (ha : 0 ≤ a) (ha2 : a < 4294967296) (w : World) : Ret Tryz.prog 87 #[.int .u8 3, .int .u32 a, .int .u32 0] w (.tuple #[.int .u32 (doW 3 a 0), .bool (doB 3 0)]) := by
  unfold Ret
  go_enter Tryz.func87, Tryz.ntmps87
  go_wp2_with (first | (go_at_call 111; refine (operations_any _).mono ?_; rintro e w' ⟨rfl, rfl⟩) | (go_at_call 139; refine (op3_zero _ _ ha ha2 _ (opsWorld_c3 _ _)).mono ?_; rintro e w' ⟨rfl, rfl⟩))
  go_ret2
  exact ⟨ret_ub rfl rfl, (opsWorld_below w).alloc (by simp; omega) _⟩

set_option maxHeartbeats 400000 in
theorem do3_some (a b : Int) (ha : 0 ≤ a) (ha2 : a < 4294967296) (hb : 0 ≤ b) (hb2 : b < 4294967296) (w : World) (h0 : b ≠ 0) : Ret Tryz.prog 87 #[.int .u8 3, .int .u32 a, .int .u32 b] w (.tuple #[.int .u32 (doW 3 a b), .bool (doB 3 b)]) := by
  unfold Ret
  go_enter Tryz.func87, Tryz.ntmps87
  go_wp2_with (first | (go_at_call 111; refine (operations_any _).mono ?_; rintro e w' ⟨rfl, rfl⟩) | (go_at_call 139; refine (op3_some _ _ _ ha ha2 hb hb2 _ h0 (opsWorld_c3 _ _)).mono ?_; rintro e w' ⟨rfl, rfl⟩))
  go_ret2
  exact ⟨ret_ub rfl rfl, (opsWorld_below w).alloc (by simp; omega) _⟩

set_option maxHeartbeats 400000 in
theorem do4_zero (a : Int) (ha : 0 ≤ a) (ha2 : a < 4294967296) (w : World) : Ret Tryz.prog 87 #[.int .u8 4, .int .u32 a, .int .u32 0] w (.tuple #[.int .u32 (doW 4 a 0), .bool (doB 4 0)]) := by
  unfold Ret
  go_enter Tryz.func87, Tryz.ntmps87
  go_wp2_with (first | (go_at_call 111; refine (operations_any _).mono ?_; rintro e w' ⟨rfl, rfl⟩) | (go_at_call 139; refine (op4_zero _ _ ha ha2 _ (opsWorld_c4 _ _)).mono ?_; rintro e w' ⟨rfl, rfl⟩))
  go_ret2
  exact ⟨ret_ub rfl rfl, (opsWorld_below w).alloc (by simp; omega) _⟩

set_option maxHeartbeats 400000 in
theorem do4_some (a b : Int) (ha : 0 ≤ a) (ha2 : a < 4294967296) (hb : 0 ≤ b) (hb2 : b < 4294967296) (w : World) (h0 : b ≠ 0) : Ret Tryz.prog 87 #[.int .u8 4, .int .u32 a, .int .u32 b] w (.tuple #[.int .u32 (doW 4 a b), .bool (doB 4 b)]) := by
  unfold Ret
  go_enter Tryz.func87, Tryz.ntmps87
  go_wp2_with (first | (go_at_call 111; refine (operations_any _).mono ?_; rintro e w' ⟨rfl, rfl⟩) | (go_at_call 139; refine (op4_some _ _ _ ha ha2 hb hb2 _ h0 (opsWorld_c4 _ _)).mono ?_; rintro e w' ⟨rfl, rfl⟩))
  go_ret2
  exact ⟨ret_ub rfl rfl, (opsWorld_below w).alloc (by simp; omega) _⟩

set_option maxHeartbeats 400000 in
theorem do5_any (a b : Int) (ha : 0 ≤ a) (ha2 : a < 4294967296) (hb : 0 ≤ b) (hb2 : b < 4294967296) (w : World) : Ret Tryz.prog 87 #[.int .u8 5, .int .u32 a, .int .u32 b] w (.tuple #[.int .u32 (doW 5 a b), .bool (doB 5 b)]) := by
  unfold Ret
  go_enter Tryz.func87, Tryz.ntmps87
  go_wp2_with (first | (go_at_call 111; refine (operations_any _).mono ?_; rintro e w' ⟨rfl, rfl⟩) | (go_at_call 127; refine (op5_any _ _ ha ha2 hb hb2 _).mono ?_; rintro e w' ⟨rfl, rfl⟩))
  go_ret2
  exact ⟨ret_ub rfl rfl, (opsWorld_below w).alloc (by simp; omega) _⟩

set_option maxHeartbeats 400000 in
theorem do6_any (a b : Int) (ha : 0 ≤ a) (ha2 : a < 4294967296) (hb : 0 ≤ b) (hb2 : b < 4294967296) (w : World) : Ret Tryz.prog 87 #[.int .u8 6, .int .u32 a, .int .u32 b] w (.tuple #[.int .u32 (doW 6 a b), .bool (doB 6 b)]) := by
  unfold Ret
  go_enter Tryz.func87, Tryz.ntmps87
  go_wp2_with (first | (go_at_call 111; refine (operations_any _).mono ?_; rintro e w' ⟨rfl, rfl⟩) | (go_at_call 128; refine (op6_any _ _ ha ha2 hb hb2 _).mono ?_; rintro e w' ⟨rfl, rfl⟩))
  go_ret2
  exact ⟨ret_ub rfl rfl, (opsWorld_below w).alloc (by simp; omega) _⟩

set_option maxHeartbeats 400000 in
theorem do7_any (a b : Int) (ha : 0 ≤ a) (ha2 : a < 4294967296) (hb : 0 ≤ b) (hb2 : b < 4294967296) (w : World) : Ret Tryz.prog 87 #[.int .u8 7, .int .u32 a, .int .u32 b] w (.tuple #[.int .u32 (doW 7 a b), .bool (doB 7 b)]) := by
  unfold Ret
  go_enter Tryz.func87, Tryz.ntmps87
  go_wp2_with (first | (go_at_call 111; refine (operations_any _).mono ?_; rintro e w' ⟨rfl, rfl⟩) | (go_at_call 129; refine (op7_any _ _ ha ha2 hb hb2 _).mono ?_; rintro e w' ⟨rfl, rfl⟩))
  go_ret2
  exact ⟨ret_ub rfl rfl, (opsWorld_below w).alloc (by simp; omega) _⟩

set_option maxHeartbeats 400000 in
theorem do8_any (a b : Int) (ha : 0 ≤ a) (ha2 : a < 4294967296) (hb : 0 ≤ b) (hb2 : b < 4294967296) (w : World) : Ret Tryz.prog 87 #[.int .u8 8, .int .u32 a, .int .u32 b] w (.tuple #[.int .u32 (doW 8 a b), .bool (doB 8 b)]) := by
  unfold Ret
  go_enter Tryz.func87, Tryz.ntmps87
  go_wp2_with (first | (go_at_call 111; refine (operations_any _).mono ?_; rintro e w' ⟨rfl, rfl⟩) | (go_at_call 130; refine (op8_any _ _ ha ha2 hb hb2 _).mono ?_; rintro e w' ⟨rfl, rfl⟩))
  go_ret2
  exact ⟨ret_ub rfl rfl, (opsWorld_below w).alloc (by simp; omega) _⟩

set_option maxHeartbeats 400000 in
theorem do9_any (a b : Int) (ha : 0 ≤ a) (ha2 : a < 4294967296) (hb : 0 ≤ b) (hb2 : b < 4294967296) (w : World) : Ret Tryz.prog 87 #[.int .u8 9, .int .u32 a, .int .u32 b] w (.tuple #[.int .u32 (doW 9 a b), .bool (doB 9 b)]) := by
  unfold Ret
  go_enter Tryz.func87, Tryz.ntmps87
  go_wp2_with (first | (go_at_call 111; refine (operations_any _).mono ?_; rintro e w' ⟨rfl, rfl⟩) | (go_at_call 131; refine (op9_any _ _ ha ha2 hb hb2 _).mono ?_; rintro e w' ⟨rfl, rfl⟩))
  go_ret2
  exact ⟨ret_ub rfl rfl, (opsWorld_below w).alloc (by simp; omega) _⟩

set_option maxHeartbeats 400000 in
theorem do10_any (a b : Int) (ha : 0 ≤ a) (ha2 : a < 4294967296) (hb : 0 ≤ b) (hb2 : b < 4294967296) (w : World) : Ret Tryz.prog 87 #[.int .u8 10, .int .u32 a, .int .u32 b] w (.tuple #[.int .u32 (doW 10 a b), .bool (doB 10 b)]) := by
  unfold Ret
  go_enter Tryz.func87, Tryz.ntmps87
  go_wp2_with (first | (go_at_call 111; refine (operations_any _).mono ?_; rintro e w' ⟨rfl, rfl⟩) | (go_at_call 132; refine (op10_any _ _ ha ha2 hb hb2 _).mono ?_; rintro e w' ⟨rfl, rfl⟩))
  go_ret2
  exact ⟨ret_ub rfl rfl, (opsWorld_below w).alloc (by simp; omega) _⟩

set_option maxHeartbeats 400000 in
theorem do11_any (a b : Int) (ha : 0 ≤ a) (ha2 : a < 4294967296) (hb : 0 ≤ b) (hb2 : b < 4294967296) (w : World) : Ret Tryz.prog 87 #[.int .u8 11, .int .u32 a, .int .u32 b] w (.tuple #[.int .u32 (doW 11 a b), .bool (doB 11 b)]) := by
  unfold Ret
  go_enter Tryz.func87, Tryz.ntmps87
  go_wp2_with (first | (go_at_call 111; refine (operations_any _).mono ?_; rintro e w' ⟨rfl, rfl⟩) | (go_at_call 133; refine (op11_any _ _ ha ha2 hb hb2 _).mono ?_; rintro e w' ⟨rfl, rfl⟩))
  go_ret2
  exact ⟨ret_ub rfl rfl, (opsWorld_below w).alloc (by simp; omega) _⟩

set_option maxHeartbeats 400000 in
theorem do12_any (a b : Int) (ha : 0 ≤ a) (ha2 : a < 4294967296) (hb : 0 ≤ b) (hb2 : b < 4294967296) (w : World) : Ret Tryz.prog 87 #[.int .u8 12, .int .u32 a, .int .u32 b] w (.tuple #[.int .u32 (doW 12 a b), .bool (doB 12 b)]) := by
  unfold Ret
  go_enter Tryz.func87, Tryz.ntmps87
  go_wp2_with (first | (go_at_call 111; refine (operations_any _).mono ?_; rintro e w' ⟨rfl, rfl⟩) | (go_at_call 135; refine (op12_any _ _ ha ha2 hb hb2 _).mono ?_; rintro e w' ⟨rfl, rfl⟩))
  go_ret2
  exact ⟨ret_ub rfl rfl, (opsWorld_below w).alloc (by simp; omega) _⟩

set_option maxHeartbeats 400000 in
theorem do13_any (a b : Int) (ha : 0 ≤ a) (ha2 : a < 4294967296) (hb : 0 ≤ b) (hb2 : b < 4294967296) (w : World) : Ret Tryz.prog 87 #[.int .u8 13, .int .u32 a, .int .u32 b] w (.tuple #[.int .u32 (doW 13 a b), .bool (doB 13 b)]) := by
  unfold Ret
  go_enter Tryz.func87, Tryz.ntmps87
  go_wp2_with (first | (go_at_call 111; refine (operations_any _).mono ?_; rintro e w' ⟨rfl, rfl⟩) | (go_at_call 136; refine (op13_any _ _ ha ha2 hb hb2 _).mono ?_; rintro e w' ⟨rfl, rfl⟩))
  go_ret2
  exact ⟨ret_ub rfl rfl, (opsWorld_below w).alloc (by simp; omega) _⟩

set_option maxHeartbeats 400000 in
theorem do_none (op : Int) (h1 : 14 ≤ op) (h2 : op < 256) (a b : Int) (w : World) : Ret Tryz.prog 87 #[.int .u8 op, .int .u32 a, .int .u32 b] w (.tuple #[.int .u32 0, .bool false]) := by
  unfold Ret
  go_enter Tryz.func87, Tryz.ntmps87
  go_wp2_with (go_at_call 111; refine (operations_any _).mono ?_; rintro e w' ⟨rfl, rfl⟩)
  go_ret2
  exact ⟨ret_ub rfl rfl, (opsWorld_below w).alloc (by simp; omega) _⟩
theorem doW_none (n : Nat) (h : 14 ≤ n) (a b : Int) : doW n a b = 0 := by
  obtain ⟨m, rfl⟩ := Nat.exists_eq_add_of_le h
  unfold doW; split <;> first | omega | rfl
theorem doB_none (n : Nat) (h : 14 ≤ n) (b : Int) : doB n b = false := by
  obtain ⟨m, rfl⟩ := Nat.exists_eq_add_of_le h
  unfold doB; split <;> first | omega | simp
/-- **What word.Do makes, whatever the operation and the words.** -/
theorem do_any (op : Int) (h1 : 0 ≤ op) (h2 : op < 256) (a b : Int) (ha : 0 ≤ a) (ha2 : a < 4294967296) (hb : 0 ≤ b) (hb2 : b < 4294967296) (w : World) :
    Ret Tryz.prog 87 #[.int .u8 op, .int .u32 a, .int .u32 b] w (.tuple #[.int .u32 (doW op.toNat a b), .bool (doB op.toNat b)]) := by
  by_cases h : 14 ≤ op
  · rw [doW_none _ (by omega), doB_none _ (by omega)]; exact do_none op h h2 a b w
  · have hc : op = 0 ∨ op = 1 ∨ op = 2 ∨ op = 3 ∨ op = 4 ∨ op = 5 ∨ op = 6 ∨ op = 7 ∨ op = 8 ∨ op = 9 ∨ op = 10 ∨ op = 11 ∨ op = 12 ∨ op = 13 := by omega
    rcases hc with rfl | rfl | rfl | rfl | rfl | rfl | rfl | rfl | rfl | rfl | rfl | rfl | rfl | rfl
    · exact do0_any a b ha ha2 hb hb2 w
    · exact do1_any a b ha ha2 hb hb2 w
    · exact do2_any a b ha ha2 hb hb2 w
    · by_cases h0 : b = 0
      · subst h0; exact do3_zero a ha ha2 w
      · exact do3_some a b ha ha2 hb hb2 w h0
    · by_cases h0 : b = 0
      · subst h0; exact do4_zero a ha ha2 w
      · exact do4_some a b ha ha2 hb hb2 w h0
    · exact do5_any a b ha ha2 hb hb2 w
    · exact do6_any a b ha ha2 hb hb2 w
    · exact do7_any a b ha ha2 hb hb2 w
    · exact do8_any a b ha ha2 hb hb2 w
    · exact do9_any a b ha ha2 hb hb2 w
    · exact do10_any a b ha ha2 hb hb2 w
    · exact do11_any a b ha ha2 hb hb2 w
    · exact do12_any a b ha ha2 hb hb2 w
    · exact do13_any a b ha ha2 hb hb2 w
end Go.Proofs.YtgdebchbdmogcaaGreatDoor
