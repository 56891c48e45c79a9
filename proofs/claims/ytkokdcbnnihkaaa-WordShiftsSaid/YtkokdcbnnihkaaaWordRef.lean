/- The walks of the document's answer for the words (muntinref01). -/
import Derived.Test.YtkokdcbnnihkaaaWordWalks
import Derived.Handy
namespace Go.Proofs.Ytkokdcbnnihkaaa
open Go.RowKit
set_option linter.unusedVariables false

theorem mul_small (x y : Int) (hx : -2147483648 ≤ x) (hx2 : x < 2147483648) (hy : -2147483648 ≤ y) (hy2 : y < 2147483648) : -4611686018427387904 ≤ x * y ∧ x * y ≤ 4611686018427387904 := by
  have h : (x * y).natAbs ≤ 2147483648 * 2147483648 := by rw [Int.natAbs_mul]; exact Nat.mul_le_mul (by omega) (by omega)
  omega
theorem u32_mul (a b : Int) : u32 (s32 a * s32 b) = u32 (a * b) := by
  have h : ∀ x, s32 x % 4294967296 = x % 4294967296 := by intro x; unfold s32; omega
  unfold u32; rw [Int.mul_emod, h a, h b, ← Int.mul_emod]
theorem tmod_u32 (n : Int) : n.tmod 4294967296 = if 0 ≤ n then n % 4294967296 else -((-n) % 4294967296) := by
  split
  · rename_i h; exact Int.tmod_eq_emod_of_nonneg h
  · rename_i h
    rw [show n.tmod 4294967296 = -((-n).tmod 4294967296) from by rw [Int.neg_tmod, Int.neg_neg], Int.tmod_eq_emod_of_nonneg (by omega)]
set_option maxHeartbeats 400000 in
theorem rword_any (n : Int) (h1 : -9223372036854775808 ≤ n) (h2 : n ≤ 9223372036854775807) (w : World) :
    Calls Try.prog 40 #[.int .i64 n] w fun e w' => e = .returned (.int .u32 (u32 n)) ∧ w = w' := by
  obtain ⟨t, ht⟩ : ∃ t, t = n.tmod 4294967296 := ⟨_, rfl⟩
  have hv := tmod_u32 n
  rw [← ht] at hv
  have HT : Hid (n.tmod 4294967296 = t) := ht.symm
  have hT := HT.out
  have hb : -4294967296 < t ∧ t < 4294967296 := by rw [hv]; split <;> omega
  have hu : u32 n = if t < 0 then t + 4294967296 else t := by rw [hv]; unfold u32; split <;> split <;> omega
  have HU := hid hu
  clear hv ht hu
  by_cases h0 : t < 0
  · have e2 : u32 n = t + 4294967296 := by rw [HU.out, if_pos h0]
    have E2 := hid e2
    clear HU e2
    go_enter Try.func40, Try.ntmps40
    go_wp2
    go_ret
    exact ⟨ret_u E2.out.symm, rfl⟩
  · have e2 : u32 n = t := by rw [HU.out, if_neg h0]
    have E2 := hid e2
    clear HU e2
    go_enter Try.func40, Try.ntmps40
    go_wp2
    go_ret
    exact ⟨ret_u E2.out.symm, rfl⟩
set_option maxHeartbeats 400000 in
theorem rsigned_any (a : Int) (ha : 0 ≤ a) (ha2 : a < 4294967296) (w : World) :
    Calls Try.prog 41 #[.int .u32 a] w fun e w' => e = .returned (.int .i64 (s32 a)) ∧ w = w' := by
  by_cases h : 2147483648 ≤ a
  · go_enter Try.func41, Try.ntmps41
    go_wp2
    go_ret
    exact ⟨ret_u (by unfold s32; omega), rfl⟩
  · go_enter Try.func41, Try.ntmps41
    go_wp2
    go_ret
    exact ⟨ret_u (by unfold s32; omega), rfl⟩
theorem rtruth_any (p : Bool) (w : World) : Calls Try.prog 44 #[.bool p] w fun e w' => e = .returned (.int .u32 (truthS p)) ∧ w = w' := by
  cases p
  all_goals
    go_enter Try.func44, Try.ntmps44
    go_wp2
    go_ret
    exact ⟨ret_u rfl, rfl⟩

theorem tmod_two (A i : Nat) : ((A : Int) / 2 ^ i).tmod 2 = ((A / 2 ^ i % 2 : Nat) : Int) := by
  rw [Int.tmod_eq_emod_of_nonneg (Int.ediv_nonneg (Int.natCast_nonneg _) (Int.le_of_lt (Int.pow_pos (by decide))))]
  push_cast; rfl
theorem bit_01 (A i : Nat) : A / 2 ^ i % 2 = 0 ∨ A / 2 ^ i % 2 = 1 := by omega
theorem bits_fin (op : Nat) (A B i : Nat) (ha : A < 4294967296) (hb : B < 4294967296) (o : Int) (h : o = oneS op ((A / 2 ^ i % 2 : Nat) : Int) ((B / 2 ^ i % 2 : Nat) : Int)) :
    (2 * bitS op ((A : Int) / 2 ^ (i + 1)) ((B : Int) / 2 ^ (i + 1)) % 4294967296 + o) % 4294967296 = bitS op ((A / 2 ^ i : Nat) : Int) ((B / 2 ^ i : Nat) : Int) := by
  have h1 := bitS_step op A B i
  have ea : ((A : Int) / 2 ^ (i + 1)) = ((A / 2 ^ (i + 1) : Nat) : Int) := by push_cast; rfl
  have eb : ((B : Int) / 2 ^ (i + 1)) = ((B / 2 ^ (i + 1) : Nat) : Int) := by push_cast; rfl
  rw [ea, eb]
  have l1 : A / 2 ^ i ≤ A := Nat.div_le_self _ _
  have l2 : B / 2 ^ i ≤ B := Nat.div_le_self _ _
  have l3 : A / 2 ^ (i + 1) ≤ A := Nat.div_le_self _ _
  have l4 : B / 2 ^ (i + 1) ≤ B := Nat.div_le_self _ _
  have b1 := bitS_bd op (a := ((A / 2 ^ i : Nat) : Int)) (b := ((B / 2 ^ i : Nat) : Int)) (by omega) (by omega)
  have b2 := bitS_bd op (a := ((A / 2 ^ (i + 1) : Nat) : Int)) (b := ((B / 2 ^ (i + 1) : Nat) : Int)) (by omega) (by omega)
  rw [← h] at h1
  omega

set_option maxHeartbeats 400000 in
theorem rbits5_any (A B : Nat) (ha : A < 4294967296) (hb : B < 4294967296) (w : World) :
    Calls Try.prog 42 #[.int .u8 5, .int .u32 A, .int .u32 B] w fun e w' => e = .returned (.int .u32 (bitS 5 A B)) ∧ w = w' := by
  have htop := bitS_top 5 A B ha hb
  go_enter Try.func42, Try.ntmps42
  go_wp2
  go_loop [7, 8, 9, 10, 11] (fun n i _ _ _ => ∃ j : Nat, j ≤ 32 ∧ i = .int .i64 ((j : Int) - 1) ∧ n = .int .u32 (bitS 5 ((A / 2 ^ j : Nat) : Int) ((B / 2 ^ j : Nat) : Int))) (fun _ i _ _ _ => (intOf i + 1).toNat)
  case atStart => exact ⟨32, Nat.le_refl _, rfl, by rw [htop]⟩
  case round =>
    obtain ⟨j, hj, rfl, rfl⟩ := hrel
    clear htop
    rcases j with _ | i
    · go_wp2
      go_ret
      exact ⟨rfl, rfl⟩
    · go_wp2
      refine ⟨⟨i, by omega, rfl, ?_⟩, by simp [intOf] <;> omega⟩
      rw [tmod_two, tmod_two]
      refine congrArg _ (bits_fin 5 A B i ha hb _ ?_)
      unfold oneS
      rcases bit_01 A i with hx | hx <;> rcases bit_01 B i with hy | hy <;> rw [hx, hy] <;> rfl

set_option maxHeartbeats 400000 in
theorem rbits6_any (A B : Nat) (ha : A < 4294967296) (hb : B < 4294967296) (w : World) :
    Calls Try.prog 42 #[.int .u8 6, .int .u32 A, .int .u32 B] w fun e w' => e = .returned (.int .u32 (bitS 6 A B)) ∧ w = w' := by
  have htop := bitS_top 6 A B ha hb
  go_enter Try.func42, Try.ntmps42
  go_wp2
  go_loop [7, 8, 9, 10, 11] (fun n i _ _ _ => ∃ j : Nat, j ≤ 32 ∧ i = .int .i64 ((j : Int) - 1) ∧ n = .int .u32 (bitS 6 ((A / 2 ^ j : Nat) : Int) ((B / 2 ^ j : Nat) : Int))) (fun _ i _ _ _ => (intOf i + 1).toNat)
  case atStart => exact ⟨32, Nat.le_refl _, rfl, by rw [htop]⟩
  case round =>
    obtain ⟨j, hj, rfl, rfl⟩ := hrel
    clear htop
    rcases j with _ | i
    · go_wp2
      go_ret
      exact ⟨rfl, rfl⟩
    · go_wp2
      refine ⟨⟨i, by omega, rfl, ?_⟩, by simp [intOf] <;> omega⟩
      rw [tmod_two, tmod_two]
      refine congrArg _ (bits_fin 6 A B i ha hb _ ?_)
      unfold oneS
      rcases bit_01 A i with hx | hx <;> rcases bit_01 B i with hy | hy <;> rw [hx, hy] <;> rfl

set_option maxHeartbeats 400000 in
theorem rbits7_any (A B : Nat) (ha : A < 4294967296) (hb : B < 4294967296) (w : World) :
    Calls Try.prog 42 #[.int .u8 7, .int .u32 A, .int .u32 B] w fun e w' => e = .returned (.int .u32 (bitS 7 A B)) ∧ w = w' := by
  have htop := bitS_top 7 A B ha hb
  go_enter Try.func42, Try.ntmps42
  go_wp2
  go_loop [7, 8, 9, 10, 11] (fun n i _ _ _ => ∃ j : Nat, j ≤ 32 ∧ i = .int .i64 ((j : Int) - 1) ∧ n = .int .u32 (bitS 7 ((A / 2 ^ j : Nat) : Int) ((B / 2 ^ j : Nat) : Int))) (fun _ i _ _ _ => (intOf i + 1).toNat)
  case atStart => exact ⟨32, Nat.le_refl _, rfl, by rw [htop]⟩
  case round =>
    obtain ⟨j, hj, rfl, rfl⟩ := hrel
    clear htop
    rcases j with _ | i
    · go_wp2
      go_ret
      exact ⟨rfl, rfl⟩
    · go_wp2
      refine ⟨⟨i, by omega, rfl, ?_⟩, by simp [intOf] <;> omega⟩
      rw [tmod_two, tmod_two]
      have hf := bits_fin 7 A B i ha hb _ rfl
      refine congrArg _ (Eq.trans ?_ hf)
      rcases bit_01 A i with hx | hx <;> rcases bit_01 B i with hy | hy <;> rw [hx, hy] <;> simp [oneS] <;> omega

/-- Shifts by one, so often. -/
def onesS (op : Nat) (a : Int) : Nat → Int
  | 0 => a
  | j + 1 => if op = 8 then u32 (2 * onesS op a j) else if op = 10 then onesS op a j / 2 + onesS op a j / 2147483648 * 2147483648 else onesS op a j / 2
theorem onesS_bd (op : Nat) (a : Int) (ha : 0 ≤ a) (ha2 : a < 4294967296) : ∀ j, 0 ≤ onesS op a j ∧ onesS op a j < 4294967296 := by
  intro j
  induction j with
  | zero => exact ⟨ha, ha2⟩
  | succ j ih =>
    unfold onesS; split
    · exact u32_bd _
    · split <;> omega

set_option maxHeartbeats 400000 in
theorem rshift8_any (a b : Int) (ha : 0 ≤ a) (ha2 : a < 4294967296) (hb : 0 ≤ b) (hb2 : b < 4294967296) (w : World) :
    Calls Try.prog 43 #[.int .u8 8, .int .u32 a, .int .u32 b] w fun e w' => e = .returned (.int .u32 (onesS 8 a (shS b))) ∧ w = w' := by
  have hs : (shS b : Int) = b % 32 := by unfold shS; omega
  have HS := hid hs
  clear hs
  go_enter Try.func43, Try.ntmps43
  go_wp2
  go_loop [1, 7, 8] (fun x i _ => ∃ j : Nat, j ≤ shS b ∧ i = .int .u32 j ∧ x = .int .u32 (onesS 8 a j)) (fun _ i _ => shS b - (intOf i).toNat)
  case atStart => exact ⟨0, Nat.zero_le _, rfl, rfl⟩
  case round =>
    obtain ⟨j, hj, rfl, rfl⟩ := hrel
    have hbd := onesS_bd 8 a ha ha2 j
    by_cases hlt : j < shS b
    · have h1 : (j : Int) < b % 32 := by rw [← HS.out]; omega
      go_wp2_with (go_at_call 40; refine (rword_any _ (by omega) (by omega) _).mono ?_; rintro e w' ⟨rfl, rfl⟩)
      refine ⟨⟨j + 1, by omega, by go_num, ?_⟩, by simp [intOf] <;> omega⟩
      rfl
    · have h1 : ¬ (j : Int) < b % 32 := by rw [← HS.out]; omega
      obtain rfl : j = shS b := by omega
      go_wp2
      go_ret
      exact ⟨rfl, rfl⟩

set_option maxHeartbeats 400000 in
theorem rshift9_any (a b : Int) (ha : 0 ≤ a) (ha2 : a < 4294967296) (hb : 0 ≤ b) (hb2 : b < 4294967296) (w : World) :
    Calls Try.prog 43 #[.int .u8 9, .int .u32 a, .int .u32 b] w fun e w' => e = .returned (.int .u32 (onesS 9 a (shS b))) ∧ w = w' := by
  have hs : (shS b : Int) = b % 32 := by unfold shS; omega
  have HS := hid hs
  clear hs
  go_enter Try.func43, Try.ntmps43
  go_wp2
  go_loop [1, 7, 8] (fun x i _ => ∃ j : Nat, j ≤ shS b ∧ i = .int .u32 j ∧ x = .int .u32 (onesS 9 a j)) (fun _ i _ => shS b - (intOf i).toNat)
  case atStart => exact ⟨0, Nat.zero_le _, rfl, rfl⟩
  case round =>
    obtain ⟨j, hj, rfl, rfl⟩ := hrel
    have hbd := onesS_bd 9 a ha ha2 j
    by_cases hlt : j < shS b
    · have h1 : (j : Int) < b % 32 := by rw [← HS.out]; omega
      go_wp2_with (go_at_call 40; refine (rword_any _ (by omega) (by omega) _).mono ?_; rintro e w' ⟨rfl, rfl⟩)
      refine ⟨⟨j + 1, by omega, by go_num, ?_⟩, by simp [intOf] <;> omega⟩
      rfl
    · have h1 : ¬ (j : Int) < b % 32 := by rw [← HS.out]; omega
      obtain rfl : j = shS b := by omega
      go_wp2
      go_ret
      exact ⟨rfl, rfl⟩

set_option maxHeartbeats 400000 in
theorem rshift10_any (a b : Int) (ha : 0 ≤ a) (ha2 : a < 4294967296) (hb : 0 ≤ b) (hb2 : b < 4294967296) (w : World) :
    Calls Try.prog 43 #[.int .u8 10, .int .u32 a, .int .u32 b] w fun e w' => e = .returned (.int .u32 (onesS 10 a (shS b))) ∧ w = w' := by
  have hs : (shS b : Int) = b % 32 := by unfold shS; omega
  have HS := hid hs
  clear hs
  go_enter Try.func43, Try.ntmps43
  go_wp2
  go_loop [1, 7, 8] (fun x i _ => ∃ j : Nat, j ≤ shS b ∧ i = .int .u32 j ∧ x = .int .u32 (onesS 10 a j)) (fun _ i _ => shS b - (intOf i).toNat)
  case atStart => exact ⟨0, Nat.zero_le _, rfl, rfl⟩
  case round =>
    obtain ⟨j, hj, rfl, rfl⟩ := hrel
    have hbd := onesS_bd 10 a ha ha2 j
    by_cases hlt : j < shS b
    · have h1 : (j : Int) < b % 32 := by rw [← HS.out]; omega
      go_wp2_with (go_at_call 40; refine (rword_any _ (by omega) (by omega) _).mono ?_; rintro e w' ⟨rfl, rfl⟩)
      refine ⟨⟨j + 1, by omega, by go_num, ?_⟩, by simp [intOf] <;> omega⟩
      rfl
    · have h1 : ¬ (j : Int) < b % 32 := by rw [← HS.out]; omega
      obtain rfl : j = shS b := by omega
      go_wp2
      go_ret
      exact ⟨rfl, rfl⟩

theorem div_pow_succ (s : Int) (j : Nat) : s / 2 ^ (j + 1) = s / 2 ^ j / 2 := by
  rw [Int.pow_succ, Int.ediv_ediv_of_nonneg (Int.le_of_lt (Int.pow_pos (by decide)))]
theorem ones_shl (a : Int) : ∀ j, u32 (onesS 8 a j) = u32 (a * 2 ^ j) := by
  intro j
  induction j with
  | zero => simp [onesS]
  | succ j ih =>
    have e : onesS 8 a (j + 1) = u32 (2 * onesS 8 a j) := rfl
    rw [e, Int.pow_succ, ← Int.mul_assoc]
    generalize a * 2 ^ j = z at *
    generalize onesS 8 a j = y at *
    unfold u32 at *; omega
theorem ones_shr (a : Int) : ∀ j, onesS 9 a j = a / 2 ^ j := by
  intro j
  induction j with
  | zero => simp [onesS]
  | succ j ih => rw [div_pow_succ, ← ih]; rfl
theorem ones_sar (a : Int) (ha : 0 ≤ a) (ha2 : a < 4294967296) : ∀ j, onesS 10 a j = u32 (s32 a / 2 ^ j) ∧ -2147483648 ≤ s32 a / 2 ^ j ∧ s32 a / 2 ^ j < 2147483648 := by
  intro j
  induction j with
  | zero => have := s32_bd a; simp [onesS, u32_s32, u32_id ha ha2]; omega
  | succ j ih =>
    have e : onesS 10 a (j + 1) = onesS 10 a j / 2 + onesS 10 a j / 2147483648 * 2147483648 := rfl
    rw [e, div_pow_succ]
    obtain ⟨i1, i2, i3⟩ := ih
    rw [i1]
    generalize s32 a / 2 ^ j = y at *
    unfold u32; omega
theorem shift_doW (op : Nat) (hop : op = 8 ∨ op = 9 ∨ op = 10) (a b : Int) (ha : 0 ≤ a) (ha2 : a < 4294967296) : onesS op a (shS b) = doW op a b := by
  rcases hop with rfl | rfl | rfl
  · have := ones_shl a (shS b); rw [u32_id (onesS_bd 8 a ha ha2 _).1 (onesS_bd 8 a ha ha2 _).2] at this; exact this
  · exact ones_shr a _
  · exact (ones_sar a ha ha2 _).1

set_option maxHeartbeats 400000 in
theorem rdo0_any (a b : Int) (ha : 0 ≤ a) (ha2 : a < 4294967296) (hb : 0 ≤ b) (hb2 : b < 4294967296) (w : World) : Calls Try.prog 22 #[.int .u8 0, .int .u32 a, .int .u32 b] w fun e w' => e = .returned (.tuple #[.int .u32 (doW 0 a b), .bool (doB 0 b)]) ∧ w = w' := by
  go_enter Try.func22, Try.ntmps22
  go_wp2_with (go_at_call 40; refine (rword_any _ (by omega) (by omega) _).mono ?_; rintro e w' ⟨rfl, rfl⟩)
  go_ret2
  exact ⟨ret_ub rfl rfl, rfl⟩

set_option maxHeartbeats 400000 in
theorem rdo1_any (a b : Int) (ha : 0 ≤ a) (ha2 : a < 4294967296) (hb : 0 ≤ b) (hb2 : b < 4294967296) (w : World) : Calls Try.prog 22 #[.int .u8 1, .int .u32 a, .int .u32 b] w fun e w' => e = .returned (.tuple #[.int .u32 (doW 1 a b), .bool (doB 1 b)]) ∧ w = w' := by
  go_enter Try.func22, Try.ntmps22
  go_wp2_with (go_at_call 40; refine (rword_any _ (by omega) (by omega) _).mono ?_; rintro e w' ⟨rfl, rfl⟩)
  go_ret2
  exact ⟨ret_ub rfl rfl, rfl⟩

set_option maxHeartbeats 400000 in
theorem rdo2_any (a b : Int) (ha : 0 ≤ a) (ha2 : a < 4294967296) (hb : 0 ≤ b) (hb2 : b < 4294967296) (w : World) : Calls Try.prog 22 #[.int .u8 2, .int .u32 a, .int .u32 b] w fun e w' => e = .returned (.tuple #[.int .u32 (doW 2 a b), .bool (doB 2 b)]) ∧ w = w' := by
  have h1 := s32_bd a
  have h2 := s32_bd b
  have hm := mul_small _ _ h1.1 h1.2 h2.1 h2.2
  go_enter Try.func22, Try.ntmps22
  go_wp2_with fail
  refine (rsigned_any a ha ha2 _).mono ?_
  rintro e w' ⟨rfl, rfl⟩
  go_wp2_with fail
  refine (rsigned_any b hb hb2 _).mono ?_
  rintro e w' ⟨rfl, rfl⟩
  go_wp2_with fail
  refine (rword_any _ (by omega) (by omega) _).mono ?_
  rintro e w' ⟨rfl, rfl⟩
  go_wp2_with fail
  go_ret2
  exact ⟨ret_ub (u32_mul a b) rfl, rfl⟩

set_option maxHeartbeats 400000 in
theorem rdo3_some (a b : Int) (ha : 0 ≤ a) (ha2 : a < 4294967296) (hb : 0 ≤ b) (hb2 : b < 4294967296) (w : World) (h0 : b ≠ 0) : Calls Try.prog 22 #[.int .u8 3, .int .u32 a, .int .u32 b] w fun e w' => e = .returned (.tuple #[.int .u32 (doW 3 a b), .bool (doB 3 b)]) ∧ w = w' := by
  have h1 := s32_bd a
  have h2 := s32_bd b
  have hs : ¬ s32 b = 0 := by unfold s32; omega
  have hz : (b == 0) = false := by simpa using h0
  have hq := tdiv_small (s32 a) (s32 b) h1.1 (by omega)
  have hwq : wrap64 ((s32 a).tdiv (s32 b)) = (s32 a).tdiv (s32 b) := IntWalk.wrap64_in ((s32 a).tdiv (s32 b)) (by omega)
  go_enter Try.func22, Try.ntmps22
  go_wp2_with fail
  refine (rsigned_any a ha ha2 _).mono ?_
  rintro e w' ⟨rfl, rfl⟩
  go_wp2_with fail
  refine (rsigned_any b hb hb2 _).mono ?_
  rintro e w' ⟨rfl, rfl⟩
  go_wp2_with fail
  refine (rword_any ((s32 a).tdiv (s32 b)) (by omega) (by omega) _).mono ?_
  rintro e w' ⟨rfl, rfl⟩
  go_wp2_with fail
  go_ret2
  exact ⟨ret_ub (by simp [doW, h0]) (by simp [doB, h0]), rfl⟩

set_option maxHeartbeats 400000 in
theorem rdo3_zero (a : Int) (w : World) : Calls Try.prog 22 #[.int .u8 3, .int .u32 a, .int .u32 0] w fun e w' => e = .returned (.tuple #[.int .u32 (doW 3 a 0), .bool (doB 3 0)]) ∧ w = w' := by
  go_enter Try.func22, Try.ntmps22
  go_wp2
  go_ret2
  exact ⟨ret_ub (by simp [doW]) (by simp [doB]), rfl⟩

set_option maxHeartbeats 400000 in
theorem rdo4_some (a b : Int) (ha : 0 ≤ a) (ha2 : a < 4294967296) (hb : 0 ≤ b) (hb2 : b < 4294967296) (w : World) (h0 : b ≠ 0) : Calls Try.prog 22 #[.int .u8 4, .int .u32 a, .int .u32 b] w fun e w' => e = .returned (.tuple #[.int .u32 (doW 4 a b), .bool (doB 4 b)]) ∧ w = w' := by
  have h1 := s32_bd a
  have h2 := s32_bd b
  have hs : ¬ s32 b = 0 := by unfold s32; omega
  have hz : (b == 0) = false := by simpa using h0
  have hq := tmod_small (s32 a) (s32 b) h1.1 (by omega)
  have hwq : wrap64 ((s32 a).tmod (s32 b)) = (s32 a).tmod (s32 b) := IntWalk.wrap64_in ((s32 a).tmod (s32 b)) (by omega)
  go_enter Try.func22, Try.ntmps22
  go_wp2_with fail
  refine (rsigned_any a ha ha2 _).mono ?_
  rintro e w' ⟨rfl, rfl⟩
  go_wp2_with fail
  refine (rsigned_any b hb hb2 _).mono ?_
  rintro e w' ⟨rfl, rfl⟩
  go_wp2_with fail
  refine (rword_any ((s32 a).tmod (s32 b)) (by omega) (by omega) _).mono ?_
  rintro e w' ⟨rfl, rfl⟩
  go_wp2_with fail
  go_ret2
  exact ⟨ret_ub (by simp [doW, h0]) (by simp [doB, h0]), rfl⟩

set_option maxHeartbeats 400000 in
theorem rdo4_zero (a : Int) (w : World) : Calls Try.prog 22 #[.int .u8 4, .int .u32 a, .int .u32 0] w fun e w' => e = .returned (.tuple #[.int .u32 (doW 4 a 0), .bool (doB 4 0)]) ∧ w = w' := by
  go_enter Try.func22, Try.ntmps22
  go_wp2
  go_ret2
  exact ⟨ret_ub (by simp [doW]) (by simp [doB]), rfl⟩

set_option maxHeartbeats 400000 in
theorem rdo5_any (a b : Int) (ha : 0 ≤ a) (ha2 : a < 4294967296) (hb : 0 ≤ b) (hb2 : b < 4294967296) (w : World) : Calls Try.prog 22 #[.int .u8 5, .int .u32 a, .int .u32 b] w fun e w' => e = .returned (.tuple #[.int .u32 (doW 5 a b), .bool (doB 5 b)]) ∧ w = w' := by
  obtain ⟨A, rfl⟩ := Int.eq_ofNat_of_zero_le ha
  obtain ⟨B, rfl⟩ := Int.eq_ofNat_of_zero_le hb
  go_enter Try.func22, Try.ntmps22
  go_wp2_with (go_at_call 42; refine (rbits5_any A B (by omega) (by omega) _).mono ?_; rintro e w' ⟨rfl, rfl⟩)
  go_ret2
  exact ⟨ret_ub rfl rfl, rfl⟩

set_option maxHeartbeats 400000 in
theorem rdo6_any (a b : Int) (ha : 0 ≤ a) (ha2 : a < 4294967296) (hb : 0 ≤ b) (hb2 : b < 4294967296) (w : World) : Calls Try.prog 22 #[.int .u8 6, .int .u32 a, .int .u32 b] w fun e w' => e = .returned (.tuple #[.int .u32 (doW 6 a b), .bool (doB 6 b)]) ∧ w = w' := by
  obtain ⟨A, rfl⟩ := Int.eq_ofNat_of_zero_le ha
  obtain ⟨B, rfl⟩ := Int.eq_ofNat_of_zero_le hb
  go_enter Try.func22, Try.ntmps22
  go_wp2_with (go_at_call 42; refine (rbits6_any A B (by omega) (by omega) _).mono ?_; rintro e w' ⟨rfl, rfl⟩)
  go_ret2
  exact ⟨ret_ub rfl rfl, rfl⟩

set_option maxHeartbeats 400000 in
theorem rdo7_any (a b : Int) (ha : 0 ≤ a) (ha2 : a < 4294967296) (hb : 0 ≤ b) (hb2 : b < 4294967296) (w : World) : Calls Try.prog 22 #[.int .u8 7, .int .u32 a, .int .u32 b] w fun e w' => e = .returned (.tuple #[.int .u32 (doW 7 a b), .bool (doB 7 b)]) ∧ w = w' := by
  obtain ⟨A, rfl⟩ := Int.eq_ofNat_of_zero_le ha
  obtain ⟨B, rfl⟩ := Int.eq_ofNat_of_zero_le hb
  go_enter Try.func22, Try.ntmps22
  go_wp2_with (go_at_call 42; refine (rbits7_any A B (by omega) (by omega) _).mono ?_; rintro e w' ⟨rfl, rfl⟩)
  go_ret2
  exact ⟨ret_ub rfl rfl, rfl⟩

set_option maxHeartbeats 400000 in
theorem rdo8_any (a b : Int) (ha : 0 ≤ a) (ha2 : a < 4294967296) (hb : 0 ≤ b) (hb2 : b < 4294967296) (w : World) : Calls Try.prog 22 #[.int .u8 8, .int .u32 a, .int .u32 b] w fun e w' => e = .returned (.tuple #[.int .u32 (doW 8 a b), .bool (doB 8 b)]) ∧ w = w' := by
  go_enter Try.func22, Try.ntmps22
  go_wp2_with (go_at_call 43; refine (rshift8_any a b ha ha2 hb hb2 _).mono ?_; rintro e w' ⟨rfl, rfl⟩)
  go_ret2
  exact ⟨ret_ub (shift_doW 8 (by simp) a b ha ha2) rfl, rfl⟩

set_option maxHeartbeats 400000 in
theorem rdo9_any (a b : Int) (ha : 0 ≤ a) (ha2 : a < 4294967296) (hb : 0 ≤ b) (hb2 : b < 4294967296) (w : World) : Calls Try.prog 22 #[.int .u8 9, .int .u32 a, .int .u32 b] w fun e w' => e = .returned (.tuple #[.int .u32 (doW 9 a b), .bool (doB 9 b)]) ∧ w = w' := by
  go_enter Try.func22, Try.ntmps22
  go_wp2_with (go_at_call 43; refine (rshift9_any a b ha ha2 hb hb2 _).mono ?_; rintro e w' ⟨rfl, rfl⟩)
  go_ret2
  exact ⟨ret_ub (shift_doW 9 (by simp) a b ha ha2) rfl, rfl⟩

set_option maxHeartbeats 400000 in
theorem rdo10_any (a b : Int) (ha : 0 ≤ a) (ha2 : a < 4294967296) (hb : 0 ≤ b) (hb2 : b < 4294967296) (w : World) : Calls Try.prog 22 #[.int .u8 10, .int .u32 a, .int .u32 b] w fun e w' => e = .returned (.tuple #[.int .u32 (doW 10 a b), .bool (doB 10 b)]) ∧ w = w' := by
  go_enter Try.func22, Try.ntmps22
  go_wp2_with (go_at_call 43; refine (rshift10_any a b ha ha2 hb hb2 _).mono ?_; rintro e w' ⟨rfl, rfl⟩)
  go_ret2
  exact ⟨ret_ub (shift_doW 10 (by simp) a b ha ha2) rfl, rfl⟩

set_option maxHeartbeats 400000 in
theorem rdo11_any (a b : Int) (ha : 0 ≤ a) (ha2 : a < 4294967296) (hb : 0 ≤ b) (hb2 : b < 4294967296) (w : World) : Calls Try.prog 22 #[.int .u8 11, .int .u32 a, .int .u32 b] w fun e w' => e = .returned (.tuple #[.int .u32 (doW 11 a b), .bool (doB 11 b)]) ∧ w = w' := by
  have h1 := s32_bd a
  have h2 := s32_bd b
  go_enter Try.func22, Try.ntmps22
  go_wp2_with fail
  refine (rsigned_any a ha ha2 _).mono ?_
  rintro e w' ⟨rfl, rfl⟩
  go_wp2_with fail
  refine (rsigned_any b hb hb2 _).mono ?_
  rintro e w' ⟨rfl, rfl⟩
  go_wp2_with fail
  refine (rtruth_any _ _).mono ?_
  rintro e w' ⟨rfl, rfl⟩
  go_wp2_with fail
  go_ret2
  exact ⟨ret_ub rfl rfl, rfl⟩

set_option maxHeartbeats 400000 in
theorem rdo12_any (a b : Int) (ha : 0 ≤ a) (ha2 : a < 4294967296) (hb : 0 ≤ b) (hb2 : b < 4294967296) (w : World) : Calls Try.prog 22 #[.int .u8 12, .int .u32 a, .int .u32 b] w fun e w' => e = .returned (.tuple #[.int .u32 (doW 12 a b), .bool (doB 12 b)]) ∧ w = w' := by
  go_enter Try.func22, Try.ntmps22
  go_wp2_with (go_at_call 44; refine (rtruth_any _ _).mono ?_; rintro e w' ⟨rfl, rfl⟩)
  go_ret2
  exact ⟨ret_ub rfl rfl, rfl⟩

set_option maxHeartbeats 400000 in
theorem rdo13_any (a b : Int) (ha : 0 ≤ a) (ha2 : a < 4294967296) (hb : 0 ≤ b) (hb2 : b < 4294967296) (w : World) : Calls Try.prog 22 #[.int .u8 13, .int .u32 a, .int .u32 b] w fun e w' => e = .returned (.tuple #[.int .u32 (doW 13 a b), .bool (doB 13 b)]) ∧ w = w' := by
  go_enter Try.func22, Try.ntmps22
  go_wp2_with (go_at_call 44; refine (rtruth_any _ _).mono ?_; rintro e w' ⟨rfl, rfl⟩)
  go_ret2
  exact ⟨ret_ub rfl rfl, rfl⟩

set_option maxHeartbeats 400000 in
theorem rdo_none (op : Int) (h1 : 14 ≤ op) (a b : Int) (w : World) : Calls Try.prog 22 #[.int .u8 op, .int .u32 a, .int .u32 b] w fun e w' => e = .returned (.tuple #[.int .u32 0, .bool false]) ∧ w = w' := by
  go_enter Try.func22, Try.ntmps22
  go_wp2
  go_ret2
  exact ⟨rfl, rfl⟩
end Go.Proofs.Ytkokdcbnnihkaaa
