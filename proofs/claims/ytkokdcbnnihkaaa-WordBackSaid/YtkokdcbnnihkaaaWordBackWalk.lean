/- The walk of muntinlaw01.WordBack: there and back. -/
import Derived.Test.YtkokdcbnnihkaaaWordHead
import Derived.Test.YtkokdcbnnihkaaaWordRef
import Derived.Handy
namespace Go.Proofs.Ytkokdcbnnihkaaa
open Go.RowKit
set_option linter.unusedVariables false

theorem add_back (a b : Int) (ha : 0 ≤ a) (ha2 : a < 4294967296) : doW 1 (doW 0 a b) b = a := by
  show u32 (u32 (a + b) - b) = a; unfold u32; omega
theorem xor_back (a b : Int) (ha : 0 ≤ a) (ha2 : a < 4294967296) : doW 7 (doW 7 a b) b = a := by
  show xorS (xorS a b) b = a
  unfold xorS; simp only [Int.toNat_natCast]
  rw [Nat.xor_assoc, Nat.xor_self, Nat.xor_zero]; omega
/-- What the low bits of a word are, by how far it was shifted. -/
theorem shl_back (a b : Int) (ha : 0 ≤ a) (ha2 : a < 4294967296) : doW 9 (doW 8 a b) b = andS a (4294967295 / 2 ^ shS b) := by
  show u32 (a * 2 ^ shS b) / 2 ^ shS b = _
  have hs : shS b < 32 := by unfold shS; omega
  generalize shS b = s at *
  obtain ⟨A, rfl⟩ := Int.eq_ofNat_of_zero_le ha
  have e1 : u32 ((A : Int) * 2 ^ s) / 2 ^ s = ((A * 2 ^ s % 4294967296 / 2 ^ s : Nat) : Int) := by unfold u32; simp only [Int.natCast_ediv, Int.natCast_emod, Int.natCast_mul, Int.natCast_pow]; rfl
  have e2 : (4294967295 : Int) / 2 ^ s = ((2 ^ (32 - s) - 1 : Nat) : Int) := by
    have : (4294967295 : Int) / 2 ^ s = ((4294967295 / 2 ^ s : Nat) : Int) := by simp only [Int.natCast_ediv, Int.natCast_pow]; rfl
    rw [this]
    have h3 : 4294967295 / 2 ^ s = 2 ^ (32 - s) - 1 := by
      have h4 : (4294967296 : Nat) = 2 ^ (32 - s) * 2 ^ s := by rw [← Nat.pow_add, show 32 - s + s = 32 by omega]
      have hp : 0 < 2 ^ (32 - s) := Nat.two_pow_pos _
      have hq : 0 < 2 ^ s := Nat.two_pow_pos _
      have h5 : 4294967295 = (2 ^ (32 - s) - 1) * 2 ^ s + (2 ^ s - 1) := by
        rw [Nat.sub_mul, ← h4]; 
        have : 2 ^ s ≤ 4294967296 := by rw [h4]; exact Nat.le_mul_of_pos_left _ hp
        omega
      rw [h5, Nat.mul_comm, Nat.mul_add_div hq, Nat.div_eq_of_lt (by omega), Nat.add_zero]
    rw [h3]
  rw [e1, e2]
  unfold andS
  simp only [Int.toNat_natCast]
  rw [Nat.and_two_pow_sub_one_eq_mod]
  have h6 : (4294967296 : Nat) = 2 ^ (32 - s) * 2 ^ s := by rw [← Nat.pow_add, show 32 - s + s = 32 by omega]
  rw [h6, Nat.mul_mod_mul_right, Nat.mul_div_cancel _ (Nat.two_pow_pos _)]
theorem quo_back (a b : Int) (ha : 0 ≤ a) (ha2 : a < 4294967296) (hb : 0 ≤ b) (hb2 : b < 4294967296) (h0 : b ≠ 0) : doW 0 (doW 2 (doW 3 a b) b) (doW 4 a b) = a := by
  have e3 : doW 3 a b = u32 ((s32 a).tdiv (s32 b)) := by show (if b = 0 then 0 else _) = _; rw [if_neg h0]
  have e4 : doW 4 a b = u32 ((s32 a).tmod (s32 b)) := by show (if b = 0 then 0 else _) = _; rw [if_neg h0]
  rw [e3, e4]
  show u32 (u32 (u32 ((s32 a).tdiv (s32 b)) * b) + u32 ((s32 a).tmod (s32 b))) = a
  have hm := Int.mul_tdiv_add_tmod (s32 a) (s32 b)
  have h1 : u32 (u32 ((s32 a).tdiv (s32 b)) * b) = u32 ((s32 a).tdiv (s32 b) * s32 b) := by
    unfold u32
    rw [Int.mul_emod, Int.emod_emod, ← Int.mul_emod]
    rw [Int.mul_emod ((s32 a).tdiv (s32 b)) (s32 b), show s32 b % 4294967296 = b % 4294967296 by unfold s32; omega, ← Int.mul_emod]
  rw [h1, Int.mul_comm]
  generalize s32 b * (s32 a).tdiv (s32 b) = x at *
  generalize (s32 a).tmod (s32 b) = y at *
  unfold u32; unfold s32 at hm; omega
set_option maxHeartbeats 1000000 in
theorem walk_WordBack (a0 a1 : Int) (w0 : (Lit.int .u32 a0).wf = true) (w1 : (Lit.int .u32 a1).wf = true) (w : World) :
    Calls Try.prog 9 #[.int .u32 a0, .int .u32 a1] w fun e w' => e = .returned (.bool true) ∧ Below w.heap.size w w' := by
  have b1 := int_u32 w0
  have b2 := int_u32 w1
  clear w0 w1
  have B0 := doW_bd 0 b1.1 b1.2 b2.2
  have B7 := doW_bd 7 b1.1 b1.2 b2.2
  have B8 := doW_bd 8 b1.1 b1.2 b2.2
  have hm3 : (0 : Int) ≤ a1 % 32 := by omega
  have hm4 : a1 % 32 < 32 := by omega
  have hsh : (0 : Int) ≤ (4294967295 : Int) / 2 ^ (a1 % 32).toNat ∧ (4294967295 : Int) / 2 ^ (a1 % 32).toNat < 4294967296 := by
    have h1 := Int.ediv_nonneg (a := (4294967295 : Int)) (b := (2 : Int) ^ (a1 % 32).toNat) (by omega) (Int.le_of_lt (Int.pow_pos (by decide)))
    have h2 := Int.ediv_le_self (a := (4294967295 : Int)) ((2 : Int) ^ (a1 % 32).toNat) (by omega)
    omega
  have e1 : bits .and .u32 a0 ((4294967295 : Int) / 2 ^ (a1 % 32).toNat) = andS a0 ((4294967295 : Int) / 2 ^ (a1 % 32).toNat) := bits_and b1.1 b1.2 hsh.1 hsh.2
  have sb := shl_back a0 a1 b1.1 b1.2
  unfold shS at sb
  have SB := hid sb; clear sb
  go_enter Try.func9, Try.ntmps9
  go_wp2_with fail
  refine (do0_any a0 a1 b1.1 b1.2 b2.1 b2.2 _).mono ?_
  rintro e w1 ⟨rfl, hb1⟩
  go_wp2_with fail
  refine (do1_any (doW 0 a0 a1) a1 B0.1 B0.2 b2.1 b2.2 _).mono ?_
  rw [add_back a0 a1 b1.1 b1.2]
  rintro e w2 ⟨rfl, hb2⟩
  go_wp2_with fail
  refine (do7_any a0 a1 b1.1 b1.2 b2.1 b2.2 _).mono ?_
  rintro e w3 ⟨rfl, hb3⟩
  go_wp2_with fail
  refine (do7_any (doW 7 a0 a1) a1 B7.1 B7.2 b2.1 b2.2 _).mono ?_
  rw [xor_back a0 a1 b1.1 b1.2]
  rintro e w4 ⟨rfl, hb4⟩
  go_wp2_with fail
  refine (do8_any a0 a1 b1.1 b1.2 b2.1 b2.2 _).mono ?_
  rintro e w5 ⟨rfl, hb5⟩
  go_wp2_with fail
  refine (do9_any (doW 8 a0 a1) a1 B8.1 B8.2 b2.1 b2.2 _).mono ?_
  rw [SB.out]
  rintro e w6 ⟨rfl, hb6⟩
  go_wp2_with fail
  by_cases h0 : a1 = 0
  · subst h0
    refine (do3_zero a0 b1.1 b1.2 _).mono ?_
    rw [show doW 3 a0 0 = 0 from rfl, show doB 3 0 = false from rfl]
    rintro e w7 ⟨rfl, hb7⟩
    go_wp2_with fail
    refine (do4_zero a0 b1.1 b1.2 _).mono ?_
    rw [show doW 4 a0 0 = 0 from rfl, show doB 4 0 = false from rfl]
    rintro e w8 ⟨rfl, hb8⟩
    go_wp2_with fail
    refine (head_any _).mono ?_
    rintro e w9 ⟨rfl, hb9⟩
    go_wp2_with fail
    go_ret
    exact ⟨rfl, bt (bt (bt (bt (bt (bt (bt (bt hb1 hb2) hb3) hb4) hb5) hb6) hb7) hb8) hb9⟩
  · have hz : (a1 == 0) = false := by simpa using h0
    have t3 : doB 3 a1 = true := by simp [doB, h0]
    have t4 : doB 4 a1 = true := by simp [doB, h0]
    have B3 := doW_bd 3 b1.1 b1.2 b2.2
    have B4 := doW_bd 4 b1.1 b1.2 b2.2
    have B2 := doW_bd 2 B3.1 B3.2 b2.2
    refine (do3_some a0 a1 b1.1 b1.2 b2.1 b2.2 _ h0).mono ?_
    rintro e w7 ⟨rfl, hb7⟩
    go_wp2_with fail
    refine (do4_some a0 a1 b1.1 b1.2 b2.1 b2.2 _ h0).mono ?_
    rintro e w8 ⟨rfl, hb8⟩
    go_wp2_with fail
    refine (do2_any (doW 3 a0 a1) a1 B3.1 B3.2 b2.1 b2.2 _).mono ?_
    rintro e w9 ⟨rfl, hb9⟩
    go_wp2_with fail
    refine (do0_any (doW 2 (doW 3 a0 a1) a1) (doW 4 a0 a1) B2.1 B2.2 B4.1 B4.2 _).mono ?_
    rw [quo_back a0 a1 b1.1 b1.2 b2.1 b2.2 h0]
    rintro e w10 ⟨rfl, hb10⟩
    go_wp2_with fail
    refine (head_any _).mono ?_
    rintro e w11 ⟨rfl, hb11⟩
    go_wp2_with fail
    go_ret
    exact ⟨rfl, bt (bt (bt (bt (bt (bt (bt (bt (bt (bt hb1 hb2) hb3) hb4) hb5) hb6) hb7) hb8) hb9) hb10) hb11⟩
end Go.Proofs.Ytkokdcbnnihkaaa
