/- The walk of muntinlaw01.WordShifts: shifts, one by one. -/
import Derived.Test.YtkokdcbnnihkaaaWordHead
import Derived.Test.YtkokdcbnnihkaaaWordRef
import Derived.Handy
namespace Go.Proofs.Ytkokdcbnnihkaaa
open Go.RowKit
set_option linter.unusedVariables false

theorem pow_le_pow_r {b : Int} (hb : 1 ≤ b) {m n : Nat} (h : m ≤ n) : b ^ m ≤ b ^ n := by
  obtain ⟨k, rfl⟩ := Nat.exists_eq_add_of_le h
  rw [Int.pow_add]
  have h1 : 0 < b ^ m := Int.pow_pos (by omega)
  have h2 : 0 < b ^ k := Int.pow_pos (by omega)
  have := Int.mul_le_mul_of_nonneg_left (show 1 ≤ b ^ k by omega) (show 0 ≤ b ^ m by omega)
  omega
theorem sh_one : shS 1 = 1 := rfl
theorem shl_one (x : Int) : doW 8 x 1 = u32 (2 * x) := by show u32 (x * 2 ^ 1) = _; rw [Int.pow_one, Int.mul_comm]
theorem shr_one (x : Int) : doW 9 x 1 = x / 2 := by show x / 2 ^ 1 = _; rw [Int.pow_one]
theorem sar_one (x : Int) (h : 0 ≤ x) (h2 : x < 4294967296) : doW 10 x 1 = x / 2 + x / 2147483648 * 2147483648 := by
  show u32 (s32 x / 2 ^ 1) = _; rw [Int.pow_one]; unfold u32 s32; omega
theorem sh_mod (b : Int) : shS (b % 32) = shS b := by unfold shS; omega
/-- The quotient, rounded down. -/
theorem down_eq (q p : Int) (hp : 1 ≤ p) : q / p = if q.tmod p < 0 then q.tdiv p - 1 else q.tdiv p := by
  have h1 := Int.mul_tdiv_add_tmod q p
  have h2 := Int.mul_ediv_add_emod q p
  have h3 := Int.emod_nonneg q (by omega : p ≠ 0)
  have h4 := Int.emod_lt_of_pos q (by omega : 0 < p)
  have h5 : (q.tmod p).natAbs < p.natAbs := by rw [Int.natAbs_tmod]; exact Nat.mod_lt _ (by omega)
  by_cases hq : 0 ≤ q
  · have h6 := Int.tmod_nonneg p hq
    rw [if_neg (by omega), Int.tdiv_eq_ediv_of_nonneg hq]
  · have h6 : q.tmod p ≤ 0 := by
      have := Int.tmod_nonneg p (a := -q) (by omega)
      rw [Int.neg_tmod] at this; omega
    by_cases h7 : q.tmod p < 0
    · rw [if_pos h7]
      have h8 : p * (q / p - (q.tdiv p - 1)) = q.tmod p + p - q % p := by rw [Int.mul_sub, Int.mul_sub]; omega
      have h9 : -p < p * (q / p - (q.tdiv p - 1)) ∧ p * (q / p - (q.tdiv p - 1)) < p := by omega
      have h10 : q / p - (q.tdiv p - 1) = 0 := by
        generalize q / p - (q.tdiv p - 1) = z at *
        rcases Int.lt_trichotomy z 0 with hz | hz | hz
        · have := Int.mul_le_mul_of_nonneg_left (show z ≤ -1 by omega) (show 0 ≤ p by omega); omega
        · exact hz
        · have := Int.mul_le_mul_of_nonneg_left (show 1 ≤ z by omega) (show 0 ≤ p by omega); omega
      omega
    · rw [if_neg h7]
      have h8 : p * (q / p - q.tdiv p) = q.tmod p - q % p := by rw [Int.mul_sub]; omega
      have h9 : -p < p * (q / p - q.tdiv p) ∧ p * (q / p - q.tdiv p) < p := by omega
      have h10 : q / p - q.tdiv p = 0 := by
        generalize q / p - q.tdiv p = z at *
        rcases Int.lt_trichotomy z 0 with hz | hz | hz
        · have := Int.mul_le_mul_of_nonneg_left (show z ≤ -1 by omega) (show 0 ≤ p by omega); omega
        · exact hz
        · have := Int.mul_le_mul_of_nonneg_left (show 1 ≤ z by omega) (show 0 ≤ p by omega); omega
      omega
theorem sar_down (a b : Int) : doW 10 a b = (if (wrap32 a).tmod ((2 : Int) ^ (b % 32).toNat) < 0 then (wrap32 a).tdiv ((2 : Int) ^ (b % 32).toNat) - 1 else (wrap32 a).tdiv ((2 : Int) ^ (b % 32).toNat)) % 4294967296 := by
  rw [← down_eq _ _ (two_pow_pos _), s32_eq]; rfl
set_option maxHeartbeats 1000000 in
theorem walk_WordShifts (a0 a1 : Int) (w0 : (Lit.int .u32 a0).wf = true) (w1 : (Lit.int .u32 a1).wf = true) (w : World) :
    Calls Try.prog 10 #[.int .u32 a0, .int .u32 a1] w fun e w' => e = .returned (.bool true) ∧ Below w.heap.size w w' := by
  have b1 := int_u32 w0
  have b2 := int_u32 w1
  clear w0 w1
  have hs : (shS a1 : Int) = a1 % 32 := by unfold shS; omega
  have HS := hid hs
  clear hs
  go_enter Try.func10, Try.ntmps10
  go_wp2_with fail
  go_loopw [5, 6, 7, 8] (fun l r s i wr => ∃ j : Nat, j ≤ shS a1 ∧ i = .int .u32 j ∧ l = .int .u32 (onesS 8 a0 j) ∧ r = .int .u32 (onesS 9 a0 j) ∧ s = .int .u32 (onesS 10 a0 j) ∧ Below w.heap.size w wr) (fun _ _ _ i _ => shS a1 - (intOf i).toNat)
  case atStart => exact ⟨0, Nat.zero_le _, rfl, rfl, rfl, rfl, Below.refl _ _⟩
  case round =>
    obtain ⟨j, hj, rfl, rfl, rfl, rfl, hbl⟩ := hrel
    have x8 := onesS_bd 8 a0 b1.1 b1.2 j
    have x9 := onesS_bd 9 a0 b1.1 b1.2 j
    have x10 := onesS_bd 10 a0 b1.1 b1.2 j
    by_cases hlt : j < shS a1
    · have h1 : (j : Int) < a1 % 32 := by rw [← HS.out]; omega
      go_wp2_with fail
      refine (do8_any (onesS 8 a0 j) 1 x8.1 x8.2 (by omega) (by omega) _).mono ?_
      rw [shl_one]
      rintro e w1 ⟨rfl, hb1⟩
      go_wp2_with fail
      refine (do9_any (onesS 9 a0 j) 1 x9.1 x9.2 (by omega) (by omega) _).mono ?_
      rw [shr_one]
      rintro e w2 ⟨rfl, hb2⟩
      go_wp2_with fail
      refine (do10_any (onesS 10 a0 j) 1 x10.1 x10.2 (by omega) (by omega) _).mono ?_
      rw [sar_one _ x10.1 x10.2]
      rintro e w3 ⟨rfl, hb3⟩
      go_wp2_with fail
      go_roundw
      case rel => exact ⟨j + 1, by omega, by go_num, rfl, rfl, rfl, hbl.trans ((bt (bt hb1 hb2) hb3).mono hbl.size)⟩
      case measure => simp [intOf] <;> omega
    · have h1 : ¬ (j : Int) < a1 % 32 := by rw [← HS.out]; omega
      obtain rfl : j = shS a1 := by omega
      rw [shift_doW 8 (by simp) a0 a1 b1.1 b1.2, shift_doW 9 (by simp) a0 a1 b1.1 b1.2, shift_doW 10 (by simp) a0 a1 b1.1 b1.2]
      have e8 : doW 8 a0 (a1 % 32) = doW 8 a0 a1 := by show shlS a0 (a1 % 32) = shlS a0 a1; unfold shlS; rw [sh_mod]
      have hm1 : (0 : Int) ≤ a1 % 32 := by omega
      have hm2 : a1 % 32 < 32 := by omega
      have hp1 : (1 : Int) ≤ (2 : Int) ^ (a1 % 32).toNat := two_pow_pos _
      have hp2 : (2 : Int) ^ (a1 % 32).toNat ≤ 2147483648 := by
        have : (2 : Int) ^ (a1 % 32).toNat ≤ 2 ^ 31 := pow_le_pow_r (by decide) (by omega)
        omega
      have hw := wrap32_bd a0
      have ht := tdiv_small (wrap32 a0) ((2 : Int) ^ (a1 % 32).toNat) hw.1 hw.2
      have HD := hid (sar_down a0 a1)
      clear x8 x9 x10
      go_wp2_with fail
      refine (do8_any a0 a1 b1.1 b1.2 b2.1 b2.2 _).mono ?_
      rintro e w1 ⟨rfl, hb1⟩
      go_wp2_with fail
      refine (do9_any a0 a1 b1.1 b1.2 b2.1 b2.2 _).mono ?_
      rintro e w2 ⟨rfl, hb2⟩
      go_wp2_with fail
      refine (do10_any a0 a1 b1.1 b1.2 b2.1 b2.2 _).mono ?_
      rintro e w3 ⟨rfl, hb3⟩
      go_wp2_with fail
      refine (do8_any a0 (a1 % 32) b1.1 b1.2 hm1 (by omega) _).mono ?_
      rw [e8]
      rintro e w4 ⟨rfl, hb4⟩
      clear e8
      by_cases hneg : (wrap32 a0).tmod ((2 : Int) ^ (a1 % 32).toNat) < 0
      · have hq : ((wrap32 a0).tdiv ((2 : Int) ^ (a1 % 32).toNat) - 1) % 4294967296 = doW 10 a0 a1 := by rw [HD.out, if_pos hneg]
        clear HD
        go_wp2_with fail
        refine (head_any _).mono ?_
        rintro e w5 ⟨rfl, hb5⟩
        go_wp2_with fail
        go_ret
        exact ⟨rfl, hbl.trans ((bt (bt (bt (bt hb1 hb2) hb3) hb4) hb5).mono hbl.size)⟩
      · have hq : (wrap32 a0).tdiv ((2 : Int) ^ (a1 % 32).toNat) % 4294967296 = doW 10 a0 a1 := by rw [HD.out, if_neg hneg]
        clear HD
        go_wp2_with fail
        refine (head_any _).mono ?_
        rintro e w5 ⟨rfl, hb5⟩
        go_wp2_with fail
        go_ret
        exact ⟨rfl, hbl.trans ((bt (bt (bt (bt hb1 hb2) hb3) hb4) hb5).mono hbl.size)⟩
end Go.Proofs.Ytkokdcbnnihkaaa
