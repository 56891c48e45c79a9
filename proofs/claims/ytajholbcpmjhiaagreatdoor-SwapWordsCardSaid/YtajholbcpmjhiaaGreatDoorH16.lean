/- Several texts in one: WordWalks, WordFlags, MachOpA. -/
import Derived.Test.YtajholbcpmjhiaaGreatDoorH02
import Derived.Test.YtajholbcpmjhiaaGreatDoorH01
import Derived.Test.YtajholbcpmjhiaaGreatDoorH03
import Derived.Test.YtajholbcpmjhiaaGreatDoorH04
import Derived.Test.YtajholbcpmjhiaaGreatDoorH09
import Derived.Test.YtajholbcpmjhiaaGreatDoorH10
import Derived.Test.YtajholbcpmjhiaaGreatDoorH11
import Derived.Test.YtajholbcpmjhiaaGreatDoorH14
import Derived.Test.YtajholbcpmjhiaaGreatDoorH15
import Derived.WalkKit
import Derived.Test.YtajholbcpmjhiaaGreatDoorProg
import Derived.WalkSpells
import Derived.WalkLawsBesides
import Derived.Handy
import Derived.Laws.EntriesVeiled
import Derived.Laws.AppendOwn
import Derived.Below
import Derived.Deep.QuietTactic
import Derived.BigQuiet
import Derived.RegionTactic
import Derived.Outline
import Derived.Lib.BitFns
import Derived.Laws.Rows
import Derived.IntWalk
import Derived.Laws.CopyOwn
import Derived.Great.Ranges
import Derived.RangeFuncNested
import Derived.RangeFuncBound
import Derived.RangeFuncCalls
import Derived.RangeFuncLeaves
import Derived.Shelf.Abstract
import Derived.Shelf.RegionOpen
import Derived.OwnWalkIn
import Derived.TacticsInMore
import Derived.LoopNIn
import Derived.LoopIn
import Derived.RegionIn
import Derived.Deep.RegionHeld
import Derived.StillTailTactics
import Derived.BigRegion
import Derived.Deep.RegionHeld3
import Derived.Deep.Cut
/- Walks of the package word: what each function of it returns, whatever the words are. -/
namespace Go.Proofs.YtajholbcpmjhiaaGreatDoor
open Go.RowKit
set_option linter.unusedVariables false
/-- A call that returns a value, and leaves all memory that was there as it was. -/
def Ret (P : Program) (f : FuncId) (args : Array Value) (w : World) (v : Value) : Prop := Calls P f args w fun e w' => e = .returned v ∧ Below w.heap.size w w'
theorem wrap32_bd (n : Int) : -2147483648 ≤ wrap32 n ∧ wrap32 n ≤ 2147483647 := by rw [s32_eq]; unfold s32; omega
theorem tdiv_small (x y : Int) (hx : -2147483648 ≤ x) (hx2 : x ≤ 2147483647) : -2147483648 ≤ x.tdiv y ∧ x.tdiv y ≤ 2147483648 := by
  have h : (x.tdiv y).natAbs ≤ x.natAbs := by rw [Int.natAbs_tdiv]; exact Nat.div_le_self _ _
  omega
theorem tmod_small (x y : Int) (hx : -2147483648 ≤ x) (hx2 : x ≤ 2147483647) : -2147483648 ≤ x.tmod y ∧ x.tmod y ≤ 2147483648 := by
  have h : (x.tmod y).natAbs ≤ x.natAbs := by rw [Int.natAbs_tmod]; exact Nat.mod_le _ _
  omega
theorem ret_val {a b : Value} (h : a = b) : Ending.returned a = .returned b := by rw [h]
theorem ret_u {k : IntKind} {a b : Int} (h : a = b) : Ending.returned (.int k a) = .returned (.int k b) := by rw [h]
theorem ret_ub {k : IntKind} {a b : Int} {p q : Bool} (h : a = b) (g : p = q) : Ending.returned (.tuple #[.int k a, .bool p]) = .returned (.tuple #[.int k b, .bool q]) := by rw [h, g]

theorem truth_any (p : Bool) (w : World) : Calls Tryz.prog 227 #[.bool p] w fun e w' => e = .returned (.tuple #[.int .u32 (truthS p), .bool true]) ∧ w = w' := by
  cases p
  all_goals
    go_enter Tryz.func227, Tryz.ntmps227
    go_wp2
    go_ret2
    exact ⟨ret_ub rfl rfl, rfl⟩

theorem op0_any (a b : Int) (ha : 0 ≤ a) (ha2 : a < 4294967296) (hb : 0 ≤ b) (hb2 : b < 4294967296) (w : World) : Calls Tryz.prog 214 #[.int .u32 a, .int .u32 b] w fun e w' => e = .returned (.tuple #[.int .u32 (doW 0 a b), .bool (doB 0 b)]) ∧ w = w' := by
  go_enter Tryz.func214, Tryz.ntmps214
  go_wp2
  go_ret2
  exact ⟨ret_ub rfl rfl, rfl⟩

theorem op1_any (a b : Int) (ha : 0 ≤ a) (ha2 : a < 4294967296) (hb : 0 ≤ b) (hb2 : b < 4294967296) (w : World) : Calls Tryz.prog 215 #[.int .u32 a, .int .u32 b] w fun e w' => e = .returned (.tuple #[.int .u32 (doW 1 a b), .bool (doB 1 b)]) ∧ w = w' := by
  go_enter Tryz.func215, Tryz.ntmps215
  go_wp2
  go_ret2
  exact ⟨ret_ub rfl rfl, rfl⟩

theorem op2_any (a b : Int) (ha : 0 ≤ a) (ha2 : a < 4294967296) (hb : 0 ≤ b) (hb2 : b < 4294967296) (w : World) : Calls Tryz.prog 216 #[.int .u32 a, .int .u32 b] w fun e w' => e = .returned (.tuple #[.int .u32 (doW 2 a b), .bool (doB 2 b)]) ∧ w = w' := by
  go_enter Tryz.func216, Tryz.ntmps216
  go_wp2
  go_ret2
  exact ⟨ret_ub rfl rfl, rfl⟩

theorem op5_any (a b : Int) (ha : 0 ≤ a) (ha2 : a < 4294967296) (hb : 0 ≤ b) (hb2 : b < 4294967296) (w : World) : Calls Tryz.prog 220 #[.int .u32 a, .int .u32 b] w fun e w' => e = .returned (.tuple #[.int .u32 (doW 5 a b), .bool (doB 5 b)]) ∧ w = w' := by
  go_enter Tryz.func220, Tryz.ntmps220
  go_wp2
  go_ret2
  exact ⟨ret_ub (bits_and ha ha2 hb hb2) rfl, rfl⟩

theorem op6_any (a b : Int) (ha : 0 ≤ a) (ha2 : a < 4294967296) (hb : 0 ≤ b) (hb2 : b < 4294967296) (w : World) : Calls Tryz.prog 221 #[.int .u32 a, .int .u32 b] w fun e w' => e = .returned (.tuple #[.int .u32 (doW 6 a b), .bool (doB 6 b)]) ∧ w = w' := by
  go_enter Tryz.func221, Tryz.ntmps221
  go_wp2
  go_ret2
  exact ⟨ret_ub (bits_or ha ha2 hb hb2) rfl, rfl⟩

theorem op7_any (a b : Int) (ha : 0 ≤ a) (ha2 : a < 4294967296) (hb : 0 ≤ b) (hb2 : b < 4294967296) (w : World) : Calls Tryz.prog 222 #[.int .u32 a, .int .u32 b] w fun e w' => e = .returned (.tuple #[.int .u32 (doW 7 a b), .bool (doB 7 b)]) ∧ w = w' := by
  go_enter Tryz.func222, Tryz.ntmps222
  go_wp2
  go_ret2
  exact ⟨ret_ub (bits_xor ha ha2 hb hb2) rfl, rfl⟩

theorem op8_any (a b : Int) (ha : 0 ≤ a) (ha2 : a < 4294967296) (hb : 0 ≤ b) (hb2 : b < 4294967296) (w : World) : Calls Tryz.prog 223 #[.int .u32 a, .int .u32 b] w fun e w' => e = .returned (.tuple #[.int .u32 (doW 8 a b), .bool (doB 8 b)]) ∧ w = w' := by
  have e1 : bits .and .u32 b 31 = b % 32 := by rw [u32_and b 31 hb hb2 (by omega) (by omega)]; show ((b.toNat &&& 31 : Nat) : Int) = b % 32; rw [nat_mask5]; omega
  have e2 : 0 ≤ b % 32 := by omega
  go_enter Tryz.func223, Tryz.ntmps223
  go_wp2
  go_ret2
  exact ⟨ret_ub rfl rfl, rfl⟩

theorem op9_any (a b : Int) (ha : 0 ≤ a) (ha2 : a < 4294967296) (hb : 0 ≤ b) (hb2 : b < 4294967296) (w : World) : Calls Tryz.prog 224 #[.int .u32 a, .int .u32 b] w fun e w' => e = .returned (.tuple #[.int .u32 (doW 9 a b), .bool (doB 9 b)]) ∧ w = w' := by
  have e1 : bits .and .u32 b 31 = b % 32 := by rw [u32_and b 31 hb hb2 (by omega) (by omega)]; show ((b.toNat &&& 31 : Nat) : Int) = b % 32; rw [nat_mask5]; omega
  have e2 : 0 ≤ b % 32 := by omega
  go_enter Tryz.func224, Tryz.ntmps224
  go_wp2
  go_ret2
  exact ⟨ret_ub rfl rfl, rfl⟩

theorem op10_any (a b : Int) (ha : 0 ≤ a) (ha2 : a < 4294967296) (hb : 0 ≤ b) (hb2 : b < 4294967296) (w : World) : Calls Tryz.prog 225 #[.int .u32 a, .int .u32 b] w fun e w' => e = .returned (.tuple #[.int .u32 (doW 10 a b), .bool (doB 10 b)]) ∧ w = w' := by
  have e1 : bits .and .u32 b 31 = b % 32 := by rw [u32_and b 31 hb hb2 (by omega) (by omega)]; show ((b.toNat &&& 31 : Nat) : Int) = b % 32; rw [nat_mask5]; omega
  have e2 : 0 ≤ b % 32 := by omega
  go_enter Tryz.func225, Tryz.ntmps225
  go_wp2
  go_ret2
  exact ⟨ret_ub (by rw [s32_eq]; rfl) rfl, rfl⟩

theorem op11_any (a b : Int) (ha : 0 ≤ a) (ha2 : a < 4294967296) (hb : 0 ≤ b) (hb2 : b < 4294967296) (w : World) : Calls Tryz.prog 226 #[.int .u32 a, .int .u32 b] w fun e w' => e = .returned (.tuple #[.int .u32 (doW 11 a b), .bool (doB 11 b)]) ∧ w = w' := by
  go_enter Tryz.func226, Tryz.ntmps226
  go_wp2_with (go_at_call 227; refine (truth_any _ _).mono ?_; rintro e w' ⟨rfl, rfl⟩)
  go_ret2
  exact ⟨ret_ub (by rw [s32_eq, s32_eq]; rfl) rfl, rfl⟩

theorem op12_any (a b : Int) (ha : 0 ≤ a) (ha2 : a < 4294967296) (hb : 0 ≤ b) (hb2 : b < 4294967296) (w : World) : Calls Tryz.prog 228 #[.int .u32 a, .int .u32 b] w fun e w' => e = .returned (.tuple #[.int .u32 (doW 12 a b), .bool (doB 12 b)]) ∧ w = w' := by
  go_enter Tryz.func228, Tryz.ntmps228
  go_wp2_with (go_at_call 227; refine (truth_any _ _).mono ?_; rintro e w' ⟨rfl, rfl⟩)
  go_ret2
  exact ⟨ret_ub rfl rfl, rfl⟩

theorem op13_any (a b : Int) (ha : 0 ≤ a) (ha2 : a < 4294967296) (hb : 0 ≤ b) (hb2 : b < 4294967296) (w : World) : Calls Tryz.prog 229 #[.int .u32 a, .int .u32 b] w fun e w' => e = .returned (.tuple #[.int .u32 (doW 13 a b), .bool (doB 13 b)]) ∧ w = w' := by
  go_enter Tryz.func229, Tryz.ntmps229
  go_wp2_with (go_at_call 227; refine (truth_any _ _).mono ?_; rintro e w' ⟨rfl, rfl⟩)
  go_ret2
  exact ⟨ret_ub rfl rfl, rfl⟩

theorem fn3_any (x y : Int) (hx : -2147483648 ≤ x) (hx2 : x ≤ 2147483647) (hy : -2147483648 ≤ y) (hy2 : y ≤ 2147483647) (h0 : (y == 0) = false) (w : World) :
    Calls Tryz.prog 218 #[.int .i64 x, .int .i64 y] w fun e w' => e = .returned (.int .i64 (x.tdiv y)) ∧ w = w' := by
  have h1 : ¬ y = 0 := by simpa using h0
  have hq := tdiv_small x y hx hx2
  have hw : IntKind.i64.wrap (x.tdiv y) = x.tdiv y := IntWalk.i64_in _ (by omega)
  have hw2 : wrap64 (x.tdiv y) = x.tdiv y := by rw [IntWalk.wrap64_in _ (by omega)]
  go_enter Tryz.func218, Tryz.ntmps218
  go_wp2
  go_ret
  exact ⟨ret_u rfl, rfl⟩
theorem op3_zero (g : Nat) (a : Int) (ha : 0 ≤ a) (ha2 : a < 4294967296) (w : World) (hc : w.cell? ⟨g, 0, none⟩ = some (.func (.func 218) #[] #[])) :
    Calls Tryz.prog 235 #[.int .u32 a, .int .u32 0, .pointer (some ⟨g, 0, none⟩)] w fun e w' => e = .returned (.tuple #[.int .u32 (doW 3 a 0), .bool (doB 3 0)]) ∧ w = w' := by
  go_enter Tryz.func235, Tryz.ntmps235
  go_wp2
  go_ret2
  exact ⟨ret_ub (by simp [doW]) (by simp [doB]), rfl⟩
set_option maxHeartbeats 400000 in
theorem op3_some (g : Nat) (a b : Int) (ha : 0 ≤ a) (ha2 : a < 4294967296) (hb : 0 ≤ b) (hb2 : b < 4294967296) (w : World) (hb1 : b ≠ 0) (hc : w.cell? ⟨g, 0, none⟩ = some (.func (.func 218) #[] #[])) :
    Calls Tryz.prog 235 #[.int .u32 a, .int .u32 b, .pointer (some ⟨g, 0, none⟩)] w fun e w' => e = .returned (.tuple #[.int .u32 (doW 3 a b), .bool (doB 3 b)]) ∧ w = w' := by
  have hb3 : (b == 0) = false := by simpa using hb1
  have h1 := wrap32_bd a
  have h2 := wrap32_bd b
  have hs : (wrap32 b == 0) = false := by rw [s32_eq]; unfold s32; simp; omega
  go_enter Tryz.func235, Tryz.ntmps235
  go_wp2_with (go_at_call 218; refine (fn3_any _ _ h1.1 h1.2 h2.1 h2.2 hs _).mono ?_; rintro e w' ⟨rfl, rfl⟩)
  go_ret2
  exact ⟨ret_ub (by simp [doW, hb1, s32_eq]; rfl) (by simp [doB, hb1]), rfl⟩

theorem fn4_any (x y : Int) (hx : -2147483648 ≤ x) (hx2 : x ≤ 2147483647) (hy : -2147483648 ≤ y) (hy2 : y ≤ 2147483647) (h0 : (y == 0) = false) (w : World) :
    Calls Tryz.prog 219 #[.int .i64 x, .int .i64 y] w fun e w' => e = .returned (.int .i64 (x.tmod y)) ∧ w = w' := by
  have h1 : ¬ y = 0 := by simpa using h0
  have hq := tmod_small x y hx hx2
  have hw : IntKind.i64.wrap (x.tmod y) = x.tmod y := IntWalk.i64_in _ (by omega)
  have hw2 : wrap64 (x.tmod y) = x.tmod y := by rw [IntWalk.wrap64_in _ (by omega)]
  go_enter Tryz.func219, Tryz.ntmps219
  go_wp2
  go_ret
  exact ⟨ret_u rfl, rfl⟩
theorem op4_zero (g : Nat) (a : Int) (ha : 0 ≤ a) (ha2 : a < 4294967296) (w : World) (hc : w.cell? ⟨g, 0, none⟩ = some (.func (.func 219) #[] #[])) :
    Calls Tryz.prog 235 #[.int .u32 a, .int .u32 0, .pointer (some ⟨g, 0, none⟩)] w fun e w' => e = .returned (.tuple #[.int .u32 (doW 4 a 0), .bool (doB 4 0)]) ∧ w = w' := by
  go_enter Tryz.func235, Tryz.ntmps235
  go_wp2
  go_ret2
  exact ⟨ret_ub (by simp [doW]) (by simp [doB]), rfl⟩
set_option maxHeartbeats 400000 in
theorem op4_some (g : Nat) (a b : Int) (ha : 0 ≤ a) (ha2 : a < 4294967296) (hb : 0 ≤ b) (hb2 : b < 4294967296) (w : World) (hb1 : b ≠ 0) (hc : w.cell? ⟨g, 0, none⟩ = some (.func (.func 219) #[] #[])) :
    Calls Tryz.prog 235 #[.int .u32 a, .int .u32 b, .pointer (some ⟨g, 0, none⟩)] w fun e w' => e = .returned (.tuple #[.int .u32 (doW 4 a b), .bool (doB 4 b)]) ∧ w = w' := by
  have hb3 : (b == 0) = false := by simpa using hb1
  have h1 := wrap32_bd a
  have h2 := wrap32_bd b
  have hs : (wrap32 b == 0) = false := by rw [s32_eq]; unfold s32; simp; omega
  go_enter Tryz.func235, Tryz.ntmps235
  go_wp2_with (go_at_call 219; refine (fn4_any _ _ h1.1 h1.2 h2.1 h2.2 hs _).mono ?_; rintro e w' ⟨rfl, rfl⟩)
  go_ret2
  exact ⟨ret_ub (by simp [doW, hb1, s32_eq]; rfl) (by simp [doB, hb1]), rfl⟩
end Go.Proofs.YtajholbcpmjhiaaGreatDoor
/- The walks of word.Flags and word.Holds. -/
namespace Go.Proofs.YtajholbcpmjhiaaGreatDoor
open Go.RowKit
set_option linter.unusedVariables false
def preS (bs : List Bool) : Nat → Int
  | 0 => 0
  | k + 1 => 2 * preS bs k + truthS (bs.getD k false)
theorem preS_bd (bs : List Bool) : ∀ k, k ≤ 4 → 0 ≤ preS bs k ∧ preS bs k < 16 ∧ (k ≤ 3 → preS bs k < 8) := by
  intro k hk
  have h : ∀ j, 0 ≤ truthS (bs.getD j false) ∧ truthS (bs.getD j false) ≤ 1 := by intro j; unfold truthS; split <;> omega
  have h0 := h 0; have h1 := h 1; have h2 := h 2; have h3 := h 3
  have hc : k = 0 ∨ k = 1 ∨ k = 2 ∨ k = 3 ∨ k = 4 := by omega
  rcases hc with rfl | rfl | rfl | rfl | rfl <;> simp only [preS] <;> omega
set_option maxHeartbeats 400000 in
theorem wput_any (B : Nat) (bs : List Bool) (w : World) (hc : ∀ k, k < 4 → w.cell? ⟨B, k, none⟩ = some (.bool (bs[k]?.getD false))) :
    Calls Tryz.prog 211 #[.slice (some ⟨B, 0, none⟩) 4 4] w fun e w' => e = .returned (.int .u8 (preS bs 4)) ∧ w = w' := by
  go_enter Tryz.func211, Tryz.ntmps211
  go_wp2
  go_loop [3, 5, 8] (fun n _ i => ∃ k : Nat, k ≤ 4 ∧ i = .int .i64 k ∧ n = .int .u8 (preS bs k)) (fun _ _ i => 4 - (intOf i).toNat)
  case atStart => exact ⟨0, Nat.zero_le _, rfl, rfl⟩
  case round =>
    obtain ⟨k, hk, rfl, rfl⟩ := hrel
    have hb := preS_bd bs k hk
    by_cases hlt : k < 4
    · have hcell := hc k hlt
      have hb2 := hb.2.2 (by omega)
      clear hc
      go_wp2
      all_goals
        refine ⟨⟨k + 1, by omega, by go_num, ?_⟩, by simp [intOf]; omega⟩
        rw [show preS bs (k + 1) = 2 * preS bs k + truthS (bs[k]?.getD false) from by simp [preS]]
        first | (have ht : bs[k]?.getD false = true := by assumption); rw [ht]; simp [truthS]; omega | (have ht : bs[k]?.getD false = false := by assumption); rw [ht]; simp [truthS]; omega
    · obtain rfl : k = 4 := by omega
      go_wp2
      go_ret
      exact ⟨rfl, rfl⟩

theorem over_bit (a b : Int) (ha : 0 ≤ a) (ha2 : a < 4294967296) (hb : 0 ≤ b) (hb2 : b < 4294967296) :
    (andS (xorS a b) (xorS a (u32 (a - b))) / 2147483648 == 1) = !decide (s32 a - s32 b = s32 (a - b)) := by
  have hd := u32_bd (a - b)
  obtain ⟨A, rfl⟩ := Int.eq_ofNat_of_zero_le ha
  obtain ⟨B, rfl⟩ := Int.eq_ofNat_of_zero_le hb
  obtain ⟨D, hD⟩ := Int.eq_ofNat_of_zero_le hd.1
  rw [hD] at hd ⊢
  have e : andS (xorS A B) (xorS A D) / 2147483648 = (((A / 2147483648 ^^^ B / 2147483648) &&& (A / 2147483648 ^^^ D / 2147483648) : Nat) : Int) := by
    unfold andS xorS
    simp only [Int.toNat_natCast]
    rw [show (2147483648 : Int) = ((2 ^ 31 : Nat) : Int) from rfl, ← Int.natCast_ediv, Nat.and_div_two_pow, Nat.xor_div_two_pow, Nat.xor_div_two_pow]
  rw [e]
  have hA : A / 2147483648 = 0 ∨ A / 2147483648 = 1 := by omega
  have hB : B / 2147483648 = 0 ∨ B / 2147483648 = 1 := by omega
  have hDD : D / 2147483648 = 0 ∨ D / 2147483648 = 1 := by omega
  unfold u32 at hD
  unfold s32
  rcases hA with hA | hA <;> rcases hB with hB | hB <;> rcases hDD with hDD | hDD <;> rw [hA, hB, hDD] <;> simp <;> omega
theorem flags_eq (a b : Int) (p q r s : Bool) (hp : p = decide (s32 (a - b) < 0)) (hq : q = decide (a = b)) (hr : r = !decide (s32 a - s32 b = s32 (a - b))) (hs : s = decide (a < b)) :
    preS [p, q, r, s] 4 = flagsS a b := by
  subst hp hq hr hs
  simp only [preS, flagsS, List.getD_cons_zero, List.getD_cons_succ]; omega
theorem cells_four (w : World) (p q r s : Bool) : ∀ k, k < 4 → (w.alloc (.cells #[.bool p, .bool q, .bool r, .bool s] 4)).cell? ⟨w.heap.size, k, none⟩ = some (.bool ([p, q, r, s][k]?.getD false)) := by
  intro k hk
  have hc : k = 0 ∨ k = 1 ∨ k = 2 ∨ k = 3 := by omega
  rcases hc with rfl | rfl | rfl | rfl <;> simp
set_option maxHeartbeats 400000 in
theorem flags_any (a b : Int) (ha : 0 ≤ a) (ha2 : a < 4294967296) (hb : 0 ≤ b) (hb2 : b < 4294967296) (w : World) :
    Ret Tryz.prog 195 #[.int .u32 a, .int .u32 b] w (.int .u8 (flagsS a b)) := by
  unfold Ret
  have hd := u32_bd (a - b)
  unfold u32 at hd
  have hx1 := xorS_bd ha2 hb2
  have hx2 := xorS_bd ha2 hd.2
  have e1 := bits_xor ha ha2 hb hb2
  have e2 := bits_xor ha ha2 hd.1 hd.2
  have e3 := bits_and hx1.1 hx1.2 hx2.1 hx2.2
  go_enter Tryz.func195, Tryz.ntmps195
  go_wp2_with fail
  refine (wput_any _ [_, _, _, _] _ (cells_four _ _ _ _ _)).mono ?_
  rintro e w' ⟨rfl, rfl⟩
  go_wp2
  go_ret
  refine ⟨ret_u (flags_eq a b _ _ _ _ ?_ ?_ ?_ rfl), (Below.refl _ _).alloc (Nat.le_refl _) _⟩
  · rw [s32_eq, ← s32_u32 (a - b)]; rfl
  · rw [Bool.eq_iff_iff]; simp; omega
  · exact over_bit a b ha ha2 hb hb2
theorem has_bit (f : Int) (i : Nat) (h : 0 ≤ f) (h2 : f < 256) (hi : i < 8) : (bits .and .u8 f ((2 ^ i : Nat) : Int) != 0) = whasS f ((2 ^ i : Nat) : Int) := by
  have hp : 2 ^ i < 256 := by have := Nat.pow_lt_pow_right (a := 2) (by omega) hi; omega
  rw [u8_and f _ h h2 (Int.natCast_nonneg _) (Int.ofNat_lt.2 hp)]
  obtain ⟨F, rfl⟩ := Int.eq_ofNat_of_zero_le h
  simp only [Int.toNat_natCast]
  rw [nat_bit]
  have hpos : 0 < 2 ^ i := Nat.two_pow_pos i
  generalize 2 ^ i = m at hpos ⊢
  unfold whasS
  rw [← Int.natCast_ediv]
  have h3 : F / m % 2 = 0 ∨ F / m % 2 = 1 := by omega
  have h4 : ((F / m : Nat) : Int) % 2 = ((F / m % 2 : Nat) : Int) := by simp
  rw [h4]
  rcases h3 with h3 | h3
  · rw [h3]; simp
  · rw [h3, Nat.one_mul]; rw [show decide (((1 : Nat) : Int) = 1) = true from rfl, bne_iff_ne]; omega
set_option maxHeartbeats 400000 in
theorem has_any (g : Nat) (f : Int) (h : 0 ≤ f) (h2 : f < 256) (n : Int) (hn : n = 1 ∨ n = 2 ∨ n = 4 ∨ n = 8) (w : World) (hc : w.cell? ⟨g, 0, none⟩ = some (.int .u8 f)) :
    Calls Tryz.prog 212 #[.int .u8 n, .pointer (some ⟨g, 0, none⟩)] w fun e w' => e = .returned (.bool (whasS f n)) ∧ w = w' := by
  have hb : (bits .and .u8 f n != 0) = whasS f n := by
    rcases hn with rfl | rfl | rfl | rfl
    · exact has_bit f 0 h h2 (by omega)
    · exact has_bit f 1 h h2 (by omega)
    · exact has_bit f 2 h h2 (by omega)
    · exact has_bit f 3 h h2 (by omega)
  clear hn
  go_enter Tryz.func212, Tryz.ntmps212
  go_wp2
  go_ret
  exact ⟨rfl, rfl⟩

set_option maxHeartbeats 400000 in
theorem holds0_any (f : Int) (h : 0 ≤ f) (h2 : f < 256) (w : World) : Ret Tryz.prog 196 #[.int .u8 0, .int .u8 f] w (.bool (holdsS 0 f)) := by
  unfold Ret
  have hc : (w.alloc (.cells #[.int .u8 f] 5)).cell? ⟨w.heap.size, 0, none⟩ = some (.int .u8 f) := by simp
  go_enter Tryz.func196, Tryz.ntmps196
  go_wp2_with fail
  go_ret
  exact ⟨ret_val (by simp [holdsS]), (Below.refl _ _).alloc (Nat.le_refl _) _⟩

set_option maxHeartbeats 400000 in
theorem holds1_any (f : Int) (h : 0 ≤ f) (h2 : f < 256) (w : World) : Ret Tryz.prog 196 #[.int .u8 1, .int .u8 f] w (.bool (holdsS 1 f)) := by
  unfold Ret
  have hc : (w.alloc (.cells #[.int .u8 f] 5)).cell? ⟨w.heap.size, 0, none⟩ = some (.int .u8 f) := by simp
  go_enter Tryz.func196, Tryz.ntmps196
  go_wp2_with fail
  refine (has_any _ f h h2 4 (by simp) _ hc).mono ?_
  rintro e w' ⟨rfl, rfl⟩
  go_wp2_with fail
  go_ret
  exact ⟨ret_val (by simp [holdsS]), (Below.refl _ _).alloc (Nat.le_refl _) _⟩

set_option maxHeartbeats 400000 in
theorem holds2_any (f : Int) (h : 0 ≤ f) (h2 : f < 256) (w : World) : Ret Tryz.prog 196 #[.int .u8 2, .int .u8 f] w (.bool (holdsS 2 f)) := by
  unfold Ret
  have hc : (w.alloc (.cells #[.int .u8 f] 5)).cell? ⟨w.heap.size, 0, none⟩ = some (.int .u8 f) := by simp
  go_enter Tryz.func196, Tryz.ntmps196
  go_wp2_with fail
  refine (has_any _ f h h2 4 (by simp) _ hc).mono ?_
  rintro e w' ⟨rfl, rfl⟩
  go_wp2_with fail
  go_ret
  exact ⟨ret_val (by simp [holdsS]), (Below.refl _ _).alloc (Nat.le_refl _) _⟩

set_option maxHeartbeats 400000 in
theorem holds3_any (f : Int) (h : 0 ≤ f) (h2 : f < 256) (w : World) : Ret Tryz.prog 196 #[.int .u8 3, .int .u8 f] w (.bool (holdsS 3 f)) := by
  unfold Ret
  have hc : (w.alloc (.cells #[.int .u8 f] 5)).cell? ⟨w.heap.size, 0, none⟩ = some (.int .u8 f) := by simp
  go_enter Tryz.func196, Tryz.ntmps196
  go_wp2_with fail
  refine (has_any _ f h h2 8 (by simp) _ hc).mono ?_
  rintro e w' ⟨rfl, rfl⟩
  go_wp2_with fail
  refine (has_any _ f h h2 2 (by simp) _ hc).mono ?_
  rintro e w' ⟨rfl, rfl⟩
  go_wp2_with fail
  go_ret
  exact ⟨ret_val (by simp [holdsS]; cases whasS f 8 <;> cases whasS f 2 <;> rfl), (Below.refl _ _).alloc (Nat.le_refl _) _⟩

set_option maxHeartbeats 400000 in
theorem holds4_any (f : Int) (h : 0 ≤ f) (h2 : f < 256) (w : World) : Ret Tryz.prog 196 #[.int .u8 4, .int .u8 f] w (.bool (holdsS 4 f)) := by
  unfold Ret
  have hc : (w.alloc (.cells #[.int .u8 f] 5)).cell? ⟨w.heap.size, 0, none⟩ = some (.int .u8 f) := by simp
  go_enter Tryz.func196, Tryz.ntmps196
  go_wp2_with fail
  refine (has_any _ f h h2 8 (by simp) _ hc).mono ?_
  rintro e w' ⟨rfl, rfl⟩
  go_wp2_with fail
  refine (has_any _ f h h2 2 (by simp) _ hc).mono ?_
  rintro e w' ⟨rfl, rfl⟩
  go_wp2_with fail
  go_ret
  exact ⟨ret_val (by simp [holdsS]; cases whasS f 8 <;> cases whasS f 2 <;> rfl), (Below.refl _ _).alloc (Nat.le_refl _) _⟩

set_option maxHeartbeats 400000 in
theorem holds5_any (f : Int) (h : 0 ≤ f) (h2 : f < 256) (w : World) : Ret Tryz.prog 196 #[.int .u8 5, .int .u8 f] w (.bool (holdsS 5 f)) := by
  unfold Ret
  have hc : (w.alloc (.cells #[.int .u8 f] 5)).cell? ⟨w.heap.size, 0, none⟩ = some (.int .u8 f) := by simp
  go_enter Tryz.func196, Tryz.ntmps196
  go_wp2_with fail
  refine (has_any _ f h h2 1 (by simp) _ hc).mono ?_
  rintro e w' ⟨rfl, rfl⟩
  go_wp2_with fail
  go_ret
  exact ⟨ret_val (by simp [holdsS]), (Below.refl _ _).alloc (Nat.le_refl _) _⟩

set_option maxHeartbeats 400000 in
theorem holds6_any (f : Int) (h : 0 ≤ f) (h2 : f < 256) (w : World) : Ret Tryz.prog 196 #[.int .u8 6, .int .u8 f] w (.bool (holdsS 6 f)) := by
  unfold Ret
  have hc : (w.alloc (.cells #[.int .u8 f] 5)).cell? ⟨w.heap.size, 0, none⟩ = some (.int .u8 f) := by simp
  go_enter Tryz.func196, Tryz.ntmps196
  go_wp2_with fail
  refine (has_any _ f h h2 1 (by simp) _ hc).mono ?_
  rintro e w' ⟨rfl, rfl⟩
  go_wp2_with fail
  go_ret
  exact ⟨ret_val (by simp [holdsS]), (Below.refl _ _).alloc (Nat.le_refl _) _⟩

set_option maxHeartbeats 400000 in
theorem holds_none (c : Int) (hc : 7 ≤ c) (f : Int) (w : World) : Ret Tryz.prog 196 #[.int .u8 c, .int .u8 f] w (.bool false) := by
  unfold Ret
  go_enter Tryz.func196, Tryz.ntmps196
  go_wp2_with fail
  go_ret
  exact ⟨rfl, (Below.refl _ _).alloc (Nat.le_refl _) _⟩
theorem holds_any (c : Int) (h1 : 0 ≤ c) (f : Int) (h : 0 ≤ f) (h2 : f < 256) (w : World) : Ret Tryz.prog 196 #[.int .u8 c, .int .u8 f] w (.bool (holdsS c.toNat f)) := by
  by_cases h7 : 7 ≤ c
  · have e : holdsS c.toNat f = false := by
      obtain ⟨m, hm⟩ := Nat.exists_eq_add_of_le (show 7 ≤ c.toNat by omega)
      rw [hm]; unfold holdsS; split <;> first | omega | rfl
    rw [e]; exact holds_none c h7 f w
  · have hc : c = 0 ∨ c = 1 ∨ c = 2 ∨ c = 3 ∨ c = 4 ∨ c = 5 ∨ c = 6 := by omega
    rcases hc with rfl | rfl | rfl | rfl | rfl | rfl | rfl
    · exact holds0_any f h h2 w
    · exact holds1_any f h h2 w
    · exact holds2_any f h h2 w
    · exact holds3_any f h h2 w
    · exact holds4_any f h h2 w
    · exact holds5_any f h h2 w
    · exact holds6_any f h h2 w
end Go.Proofs.YtajholbcpmjhiaaGreatDoor
/- The walks of the machine's instructions: sethi, jmpl, call, rdwim, cmp, br. -/
namespace Go.Proofs.YtajholbcpmjhiaaGreatDoor
open Go.RowKit
set_option linter.unusedVariables false
set_option linter.unusedSimpArgs false
theorem fin_on {m m1 : Mx} {n : Int} (hk : m1.kind = 0) (hp : m1.pc = m.pc) (hn : n = u32 (m.pc + 4)) : finM m1 n = onM m1 := by
  unfold finM onM; rw [if_pos hk, hp, hn]
theorem own_drew (w : World) (G : MG) (D : Nat) : Only (fun k => G.own k ∨ k = D) w w.drew := (Only.refl _ w).drew
theorem uw (n : Int) : IntKind.u32.wrap n = u32 n := by rw [IntKind.wrap_u32]; rfl
theorem DoIn.ownS {w : World} {G : MG} {M : Nat} {m : Mx} {D : Nat} {x : Ix} {a b n : Int} (h : DoIn w G M m D x a b n) : ∀ k, k = G.F ∨ k = G.Wb → G.own k := fun k hk => by
  rcases hk with e | e
  · exact e ▸ h.mach.ownF
  · exact e ▸ h.mach.ownW
/-- A register is set by the call at the end. -/
theorem DoIn.set {w w0 : World} {G : MG} {M : Nat} {m : Mx} {D : Nat} {x : Ix} {a b n : Int} (h : DoIn w G M m D x a b n) (o0 : Only (fun k => G.own k ∨ k = D) w0 w) (r v : Int) (h0 : 0 ≤ r) (h1 : r < 32) (hv : 0 ≤ v ∧ v < 4294967296) {q : Mx} (hf : finM (setM m r v) n = q) :
    Calls Tryz.prog 182 #[.pointer (some ⟨M, 0, none⟩), .int .u8 r, .int .u32 v] w fun e w' => e = .returned (.tuple #[]) ∧ DoEnd w0 G M D x a b q w' :=
  (mset_any w G M m h.mach r v h0 h1 hv).mono fun e w' ⟨he, hm, ho⟩ => ⟨he, h.fin o0 hm ho h.ownS hf⟩
/-- The place where the PC goes is stored at the end. -/
theorem DoEnd.next {w w1 : World} {G : MG} {M D : Nat} {x : Ix} {a b n n' : Int} {m1 r : Mx} (hm : MachAt w1 G M m1) (hd : DAt w1 D M x a b n) (rD : G.R D = .none) (o : Only (fun k => G.own k ∨ k = D) w w1) (hn : 0 ≤ n' ∧ n' < 4294967296) (hf : finM m1 n' = r) : DoEnd w G M D x a b r (w1.setCell ⟨D, 9, none⟩ (.int .u32 n')) :=
  DoEnd.of (hm.keep ((Only.refl (fun k => k = D) w1).setCell (p := ⟨D, 9, none⟩) rfl _) (fun k hk e => hk (by rw [e]; exact rD))) (hd.setNext n') (o.setCell (p := ⟨D, 9, none⟩) (.inr rfl) _) hn hf
theorem DoEnd.drew {w w1 : World} {G : MG} {M D : Nat} {x : Ix} {a b : Int} {r : Mx} (h : DoEnd w G M D x a b r w1) : DoEnd w G M D x a b r w1.drew := by
  obtain ⟨G', m1, n1, h1, h2, h3, h4, h5, h6⟩ := h
  exact ⟨G', m1, n1, h1.keepb ((Below.refl _ _).drew), h2.keep (Only.of_below (S := fun _ => False) ((Below.refl _ _).drew)) id, h3.drew, h4, h5, h6⟩
/-- Behind a register's setting the instruction stands as it stood. -/
theorem DoIn.after {w w1 : World} {G : MG} {M : Nat} {m m1 : Mx} {D : Nat} {x : Ix} {a b n : Int} {C : Nat → Prop} (h : DoIn w G M m D x a b n) (hm : MachAt w1 G M m1) (ho : Only C w w1) (hC : ∀ k, C k → G.own k) (hk : m1.kind = 0) : DoIn w1 G M m1 D x a b n :=
  ⟨hm, h.d.keep ho (fun hc => (hC D hc).1 h.rD), h.rD, h.fits, h.ha, h.hb, h.hn, hk⟩
theorem opS15 {m : Mx} {x : Ix} {a b : Int} (h : x.op = 15) : opS m x a b = onM (setM m x.rd (u32 (b * 2048))) := by unfold opS; rw [h]; rfl
set_option maxRecDepth 100000 in
set_option maxHeartbeats 2000000 in
theorem do_sethi (w : World) (G : MG) (M : Nat) (m : Mx) (D : Nat) (x : Ix) (a b n : Int) (h : DoIn w G M m D x a b n) (hop : x.op = 15) (hn : n = u32 (m.pc + 4)) :
    Calls Tryz.prog 158 #[.pointer (some ⟨D, 0, none⟩)] w fun e w' => e = .returned (.tuple #[]) ∧ DoEnd w G M D x a b (opS m x a b) w' := by
  rw [opS15 hop]
  have HS := mhid (h.drew.set (own_drew w G D) x.rd (u32 (b * 2048)) h.fits.rd0 h.fits.rd1 (u32_bd _) (fin_on h.run rfl hn))
  have ha := h.ha
  have hb := h.hb
  have d0 := h.dc.d0
  have d2 := h.dc.d2
  have d8 := h.dc.d8
  clear h hn
  have u1 := uw (b * 2048)
  go_enter Tryz.func158, Tryz.ntmps158
  go_wp2_with fail
  go_still_tail 14, (by kernel_rfl)
  change wpList _ _ _ _ _ w.drew
  go_wp2_with fail
  refine HS.out.mono ?_
  rintro e w' ⟨rfl, he⟩
  go_wp2_with fail
  go_returns
  exact ⟨rfl, he⟩
theorem opS28 {m : Mx} {x : Ix} {a b : Int} (h : x.op = 28) : opS m x a b = onM (setM m x.rd m.wim) := by unfold opS; rw [h]; rfl
set_option maxRecDepth 100000 in
set_option maxHeartbeats 2000000 in
theorem do_rdwim (w : World) (G : MG) (M : Nat) (m : Mx) (D : Nat) (x : Ix) (a b n : Int) (h : DoIn w G M m D x a b n) (hop : x.op = 28) (hn : n = u32 (m.pc + 4)) :
    Calls Tryz.prog 171 #[.pointer (some ⟨D, 0, none⟩)] w fun e w' => e = .returned (.tuple #[]) ∧ DoEnd w G M D x a b (opS m x a b) w' := by
  rw [opS28 hop]
  have HS := mhid (h.drew.set (own_drew w G D) x.rd (m.wim) h.fits.rd0 h.fits.rd1 (⟨h.mach.ok.wim0, h.mach.ok.wim1⟩) (fin_on h.run rfl hn))
  have ha := h.ha
  have hb := h.hb
  have d0 := h.dc.d0
  have d2 := h.dc.d2
  have c4 := h.mach.mc.wim
  clear h hn
  go_enter Tryz.func171, Tryz.ntmps171
  go_wp2_with fail
  go_still_tail 16, (by kernel_rfl)
  change wpList _ _ _ _ _ w.drew
  go_wp2_with fail
  refine HS.out.mono ?_
  rintro e w' ⟨rfl, he⟩
  go_wp2_with fail
  go_returns
  exact ⟨rfl, he⟩
theorem opS19 {m : Mx} {x : Ix} {a b : Int} (h : x.op = 19) : opS m x a b = { setM m x.rd m.pc with pc := u32 (a + b) } := by unfold opS; rw [h]; rfl
set_option maxRecDepth 100000 in
set_option maxHeartbeats 2000000 in
theorem do_jmpl (w : World) (G : MG) (M : Nat) (m : Mx) (D : Nat) (x : Ix) (a b n : Int) (h : DoIn w G M m D x a b n) (hop : x.op = 19) (hn : n = u32 (m.pc + 4)) :
    Calls Tryz.prog 162 #[.pointer (some ⟨D, 0, none⟩)] w fun e w' => e = .returned (.tuple #[]) ∧ DoEnd w G M D x a b (opS m x a b) w' := by
  rw [opS19 hop]
  have HS := mhid (mset_any w.drew G M m h.drew.mach (x.rd) (m.pc) h.fits.rd0 h.fits.rd1 (⟨h.mach.ok.pc0, h.mach.ok.pc1⟩))
  have H := mhid h
  have ha := h.ha
  have hb := h.hb
  have d0 := h.dc.d0
  have d2 := h.dc.d2
  have c3 := h.mach.mc.pc
  clear h hn
  go_enter Tryz.func162, Tryz.ntmps162
  go_wp2_with fail
  go_still_tail 16, (by kernel_rfl)
  change wpList _ _ _ _ _ w.drew
  go_wp2_with fail
  refine HS.out.mono ?_
  rintro e w1 ⟨rfl, hm, ho⟩
  have h1 := H.out.drew.after hm ho H.out.ownS (H.out.run)
  have o1 : Only (fun k => G.own k ∨ k = D) w w1 := (own_drew w G D).trans (ho.mono (fun k _ hk => .inl (H.out.ownS k hk)))
  clear hm ho d0 d2 c3 HS
  have H1 := mhid (And.intro h1 o1)
  have d7 := h1.dc.d7
  have d8 := h1.dc.d8
  have d9 := h1.dc.d9
  have fd := h1.dc.fd
  clear h1 o1
  have u1 := uw (a + b)
  go_wp2_with fail
  go_still_tail 12, (by kernel_rfl)
  change wpList _ _ _ _ _ w1.drew
  go_wp2_with fail
  go_returns
  exact ⟨rfl, (DoEnd.next H1.out.1.mach H1.out.1.d H.out.rD H1.out.2 (u32_bd _) (finM_run H.out.run)).drew⟩
theorem opS18 {m : Mx} {x : Ix} {a b : Int} (h : x.op = 18) : opS m x a b = { setM m 15 m.pc with pc := u32 (m.pc + 4 * b) } := by unfold opS; rw [h]; rfl
set_option maxRecDepth 100000 in
set_option maxHeartbeats 2000000 in
theorem do_call (w : World) (G : MG) (M : Nat) (m : Mx) (D : Nat) (x : Ix) (a b n : Int) (h : DoIn w G M m D x a b n) (hop : x.op = 18) (hn : n = u32 (m.pc + 4)) :
    Calls Tryz.prog 161 #[.pointer (some ⟨D, 0, none⟩)] w fun e w' => e = .returned (.tuple #[]) ∧ DoEnd w G M D x a b (opS m x a b) w' := by
  rw [opS18 hop]
  have HS := mhid (mset_any w.drew G M m h.drew.mach (15) (m.pc) (by omega) (by omega) (⟨h.mach.ok.pc0, h.mach.ok.pc1⟩))
  have H := mhid h
  have ha := h.ha
  have hb := h.hb
  have d0 := h.dc.d0
  have c3 := h.mach.mc.pc
  clear h hn
  go_enter Tryz.func161, Tryz.ntmps161
  go_wp2_with fail
  go_still_tail 11, (by kernel_rfl)
  change wpList _ _ _ _ _ w.drew
  go_wp2_with fail
  refine HS.out.mono ?_
  rintro e w1 ⟨rfl, hm, ho⟩
  have h1 := H.out.drew.after hm ho H.out.ownS (H.out.run)
  have o1 : Only (fun k => G.own k ∨ k = D) w w1 := (own_drew w G D).trans (ho.mono (fun k _ hk => .inl (H.out.ownS k hk)))
  clear hm ho d0 c3 HS
  have H1 := mhid (And.intro h1 o1)
  have d0 := h1.dc.d0
  have d8 := h1.dc.d8
  have d9 := h1.dc.d9
  have c3 := h1.mach.mc.pc
  have fd := h1.dc.fd
  clear h1 o1
  have hpc : 0 ≤ m.pc ∧ m.pc < 4294967296 := ⟨H.out.mach.ok.pc0, H.out.mach.ok.pc1⟩
  replace c3 : w1.cell? ⟨M, 3, none⟩ = some (.int .u32 m.pc) := c3
  have u0 := uw (4 * b)
  have u1 := uw (m.pc + u32 (4 * b))
  have u2 : u32 (m.pc + u32 (4 * b)) = u32 (m.pc + 4 * b) := by unfold u32; omega
  go_wp2_with fail
  go_still_tail 16, (by kernel_rfl)
  change wpList _ _ _ _ _ w1.drew
  go_wp2_with fail
  go_returns
  exact ⟨rfl, (DoEnd.next H1.out.1.mach H1.out.1.d H.out.rD H1.out.2 (u32_bd _) (finM_run H.out.run)).drew⟩
end Go.Proofs.YtajholbcpmjhiaaGreatDoor
