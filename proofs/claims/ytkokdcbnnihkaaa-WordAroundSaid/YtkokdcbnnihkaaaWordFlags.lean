/- The walks of word.Flags and word.Holds. -/
import Derived.Test.YtkokdcbnnihkaaaWordWalks
import Derived.Handy
import Derived.Laws.EntriesVeiled
namespace Go.Proofs.Ytkokdcbnnihkaaa
open Go.RowKit
set_option linter.unusedVariables false
def preS (bs : List Bool) : Nat → Int
  | 0 => 0
  | k + 1 => 2 * preS bs k + truthS (bs.getD k false)
theorem preS_bd (bs : List Bool) : ∀ k, k ≤ 4 → 0 ≤ preS bs k ∧ preS bs k < 16 ∧ (k ≤ 3 → preS bs k < 8) := by
  intro k hk
  have h : ∀ j, 0 ≤ truthS (bs.getD j false) ∧ truthS (bs.getD j false) ≤ 1 := by intro j; unfold truthS; split <;> omega
  have h0 := h 0; have h1 := h 1; have h2 := h 2; have h3 := h 3
  have hc : k = 0 ∨ k = 1 ∨ k = 2 ∨ k = 3 ∨ k = 4 := by omega
  rcases hc with rfl | rfl | rfl | rfl | rfl <;> simp only [preS] <;> omega
set_option maxHeartbeats 400000 in
theorem put_any (B : Nat) (bs : List Bool) (w : World) (hc : ∀ k, k < 4 → w.cell? ⟨B, k, none⟩ = some (.bool (bs[k]?.getD false))) :
    Calls Try.prog 46 #[.slice (some ⟨B, 0, none⟩) 4 4] w fun e w' => e = .returned (.int .u8 (preS bs 4)) ∧ w = w' := by
  go_enter Try.func46, Try.ntmps46
  go_wp2
  go_loop [3, 5, 8] (fun n _ i => ∃ k : Nat, k ≤ 4 ∧ i = .int .i64 k ∧ n = .int .u8 (preS bs k)) (fun _ _ i => 4 - (intOf i).toNat)
  case atStart => exact ⟨0, Nat.zero_le _, rfl, rfl⟩
  case round =>
    obtain ⟨k, hk, rfl, rfl⟩ := hrel
    have hb := preS_bd bs k hk
    by_cases hlt : k < 4
    · have hcell := hc k hlt
      have hb2 := hb.2.2 (by omega)
      clear hc
      go_wp2
      all_goals
        refine ⟨⟨k + 1, by omega, by go_num, ?_⟩, by simp [intOf]; omega⟩
        rw [show preS bs (k + 1) = 2 * preS bs k + truthS (bs[k]?.getD false) from by simp [preS]]
        first | (have ht : bs[k]?.getD false = true := by assumption); rw [ht]; simp [truthS]; omega | (have ht : bs[k]?.getD false = false := by assumption); rw [ht]; simp [truthS]; omega
    · obtain rfl : k = 4 := by omega
      go_wp2
      go_ret
      exact ⟨rfl, rfl⟩

theorem over_bit (a b : Int) (ha : 0 ≤ a) (ha2 : a < 4294967296) (hb : 0 ≤ b) (hb2 : b < 4294967296) :
    (andS (xorS a b) (xorS a (u32 (a - b))) / 2147483648 == 1) = !decide (s32 a - s32 b = s32 (a - b)) := by
  have hd := u32_bd (a - b)
  obtain ⟨A, rfl⟩ := Int.eq_ofNat_of_zero_le ha
  obtain ⟨B, rfl⟩ := Int.eq_ofNat_of_zero_le hb
  obtain ⟨D, hD⟩ := Int.eq_ofNat_of_zero_le hd.1
  rw [hD] at hd ⊢
  have e : andS (xorS A B) (xorS A D) / 2147483648 = (((A / 2147483648 ^^^ B / 2147483648) &&& (A / 2147483648 ^^^ D / 2147483648) : Nat) : Int) := by
    unfold andS xorS
    simp only [Int.toNat_natCast]
    rw [show (2147483648 : Int) = ((2 ^ 31 : Nat) : Int) from rfl, ← Int.natCast_ediv, Nat.and_div_two_pow, Nat.xor_div_two_pow, Nat.xor_div_two_pow]
  rw [e]
  have hA : A / 2147483648 = 0 ∨ A / 2147483648 = 1 := by omega
  have hB : B / 2147483648 = 0 ∨ B / 2147483648 = 1 := by omega
  have hDD : D / 2147483648 = 0 ∨ D / 2147483648 = 1 := by omega
  unfold u32 at hD
  unfold s32
  rcases hA with hA | hA <;> rcases hB with hB | hB <;> rcases hDD with hDD | hDD <;> rw [hA, hB, hDD] <;> simp <;> omega
theorem flags_eq (a b : Int) (p q r s : Bool) (hp : p = decide (s32 (a - b) < 0)) (hq : q = decide (a = b)) (hr : r = !decide (s32 a - s32 b = s32 (a - b))) (hs : s = decide (a < b)) :
    preS [p, q, r, s] 4 = flagsS a b := by
  subst hp hq hr hs
  simp only [preS, flagsS, List.getD_cons_zero, List.getD_cons_succ]; omega
theorem cells_four (w : World) (p q r s : Bool) : ∀ k, k < 4 → (w.alloc (.cells #[.bool p, .bool q, .bool r, .bool s] 4)).cell? ⟨w.heap.size, k, none⟩ = some (.bool ([p, q, r, s][k]?.getD false)) := by
  intro k hk
  have hc : k = 0 ∨ k = 1 ∨ k = 2 ∨ k = 3 := by omega
  rcases hc with rfl | rfl | rfl | rfl <;> simp
set_option maxHeartbeats 400000 in
theorem flags_any (a b : Int) (ha : 0 ≤ a) (ha2 : a < 4294967296) (hb : 0 ≤ b) (hb2 : b < 4294967296) (w : World) :
    Ret Try.prog 24 #[.int .u32 a, .int .u32 b] w (.int .u8 (flagsS a b)) := by
  unfold Ret
  have hd := u32_bd (a - b)
  unfold u32 at hd
  have hx1 := xorS_bd ha2 hb2
  have hx2 := xorS_bd ha2 hd.2
  have e1 := bits_xor ha ha2 hb hb2
  have e2 := bits_xor ha ha2 hd.1 hd.2
  have e3 := bits_and hx1.1 hx1.2 hx2.1 hx2.2
  go_enter Try.func24, Try.ntmps24
  go_wp2_with fail
  refine (put_any _ [_, _, _, _] _ (cells_four _ _ _ _ _)).mono ?_
  rintro e w' ⟨rfl, rfl⟩
  go_wp2
  go_ret
  refine ⟨ret_u (flags_eq a b _ _ _ _ ?_ ?_ ?_ rfl), (Below.refl _ _).alloc (Nat.le_refl _) _⟩
  · rw [s32_eq, ← s32_u32 (a - b)]; rfl
  · rw [Bool.eq_iff_iff]; simp; omega
  · exact over_bit a b ha ha2 hb hb2
theorem has_bit (f : Int) (i : Nat) (h : 0 ≤ f) (h2 : f < 256) (hi : i < 8) : (bits .and .u8 f ((2 ^ i : Nat) : Int) != 0) = hasS f ((2 ^ i : Nat) : Int) := by
  have hp : 2 ^ i < 256 := by have := Nat.pow_lt_pow_right (a := 2) (by omega) hi; omega
  rw [u8_and f _ h h2 (Int.natCast_nonneg _) (Int.ofNat_lt.2 hp)]
  obtain ⟨F, rfl⟩ := Int.eq_ofNat_of_zero_le h
  simp only [Int.toNat_natCast]
  rw [nat_bit]
  have hpos : 0 < 2 ^ i := Nat.two_pow_pos i
  generalize 2 ^ i = m at hpos ⊢
  unfold hasS
  rw [← Int.natCast_ediv]
  have h3 : F / m % 2 = 0 ∨ F / m % 2 = 1 := by omega
  have h4 : ((F / m : Nat) : Int) % 2 = ((F / m % 2 : Nat) : Int) := by simp
  rw [h4]
  rcases h3 with h3 | h3
  · rw [h3]; simp
  · rw [h3, Nat.one_mul]; rw [show decide (((1 : Nat) : Int) = 1) = true from rfl, bne_iff_ne]; omega
set_option maxHeartbeats 400000 in
theorem has_any (g : Nat) (f : Int) (h : 0 ≤ f) (h2 : f < 256) (n : Int) (hn : n = 1 ∨ n = 2 ∨ n = 4 ∨ n = 8) (w : World) (hc : w.cell? ⟨g, 0, none⟩ = some (.int .u8 f)) :
    Calls Try.prog 47 #[.int .u8 n, .pointer (some ⟨g, 0, none⟩)] w fun e w' => e = .returned (.bool (hasS f n)) ∧ w = w' := by
  have hb : (bits .and .u8 f n != 0) = hasS f n := by
    rcases hn with rfl | rfl | rfl | rfl
    · exact has_bit f 0 h h2 (by omega)
    · exact has_bit f 1 h h2 (by omega)
    · exact has_bit f 2 h h2 (by omega)
    · exact has_bit f 3 h h2 (by omega)
  clear hn
  go_enter Try.func47, Try.ntmps47
  go_wp2
  go_ret
  exact ⟨rfl, rfl⟩

set_option maxHeartbeats 400000 in
theorem holds0_any (f : Int) (h : 0 ≤ f) (h2 : f < 256) (w : World) : Ret Try.prog 26 #[.int .u8 0, .int .u8 f] w (.bool (holdsS 0 f)) := by
  unfold Ret
  have hc : (w.alloc (.cells #[.int .u8 f] 5)).cell? ⟨w.heap.size, 0, none⟩ = some (.int .u8 f) := by simp
  go_enter Try.func26, Try.ntmps26
  go_wp2_with fail
  go_ret
  exact ⟨ret_val (by simp [holdsS]), (Below.refl _ _).alloc (Nat.le_refl _) _⟩

set_option maxHeartbeats 400000 in
theorem holds1_any (f : Int) (h : 0 ≤ f) (h2 : f < 256) (w : World) : Ret Try.prog 26 #[.int .u8 1, .int .u8 f] w (.bool (holdsS 1 f)) := by
  unfold Ret
  have hc : (w.alloc (.cells #[.int .u8 f] 5)).cell? ⟨w.heap.size, 0, none⟩ = some (.int .u8 f) := by simp
  go_enter Try.func26, Try.ntmps26
  go_wp2_with fail
  refine (has_any _ f h h2 4 (by simp) _ hc).mono ?_
  rintro e w' ⟨rfl, rfl⟩
  go_wp2_with fail
  go_ret
  exact ⟨ret_val (by simp [holdsS]), (Below.refl _ _).alloc (Nat.le_refl _) _⟩

set_option maxHeartbeats 400000 in
theorem holds2_any (f : Int) (h : 0 ≤ f) (h2 : f < 256) (w : World) : Ret Try.prog 26 #[.int .u8 2, .int .u8 f] w (.bool (holdsS 2 f)) := by
  unfold Ret
  have hc : (w.alloc (.cells #[.int .u8 f] 5)).cell? ⟨w.heap.size, 0, none⟩ = some (.int .u8 f) := by simp
  go_enter Try.func26, Try.ntmps26
  go_wp2_with fail
  refine (has_any _ f h h2 4 (by simp) _ hc).mono ?_
  rintro e w' ⟨rfl, rfl⟩
  go_wp2_with fail
  go_ret
  exact ⟨ret_val (by simp [holdsS]), (Below.refl _ _).alloc (Nat.le_refl _) _⟩

set_option maxHeartbeats 400000 in
theorem holds3_any (f : Int) (h : 0 ≤ f) (h2 : f < 256) (w : World) : Ret Try.prog 26 #[.int .u8 3, .int .u8 f] w (.bool (holdsS 3 f)) := by
  unfold Ret
  have hc : (w.alloc (.cells #[.int .u8 f] 5)).cell? ⟨w.heap.size, 0, none⟩ = some (.int .u8 f) := by simp
  go_enter Try.func26, Try.ntmps26
  go_wp2_with fail
  refine (has_any _ f h h2 8 (by simp) _ hc).mono ?_
  rintro e w' ⟨rfl, rfl⟩
  go_wp2_with fail
  refine (has_any _ f h h2 2 (by simp) _ hc).mono ?_
  rintro e w' ⟨rfl, rfl⟩
  go_wp2_with fail
  go_ret
  exact ⟨ret_val (by simp [holdsS]; cases hasS f 8 <;> cases hasS f 2 <;> rfl), (Below.refl _ _).alloc (Nat.le_refl _) _⟩

set_option maxHeartbeats 400000 in
theorem holds4_any (f : Int) (h : 0 ≤ f) (h2 : f < 256) (w : World) : Ret Try.prog 26 #[.int .u8 4, .int .u8 f] w (.bool (holdsS 4 f)) := by
  unfold Ret
  have hc : (w.alloc (.cells #[.int .u8 f] 5)).cell? ⟨w.heap.size, 0, none⟩ = some (.int .u8 f) := by simp
  go_enter Try.func26, Try.ntmps26
  go_wp2_with fail
  refine (has_any _ f h h2 8 (by simp) _ hc).mono ?_
  rintro e w' ⟨rfl, rfl⟩
  go_wp2_with fail
  refine (has_any _ f h h2 2 (by simp) _ hc).mono ?_
  rintro e w' ⟨rfl, rfl⟩
  go_wp2_with fail
  go_ret
  exact ⟨ret_val (by simp [holdsS]; cases hasS f 8 <;> cases hasS f 2 <;> rfl), (Below.refl _ _).alloc (Nat.le_refl _) _⟩

set_option maxHeartbeats 400000 in
theorem holds5_any (f : Int) (h : 0 ≤ f) (h2 : f < 256) (w : World) : Ret Try.prog 26 #[.int .u8 5, .int .u8 f] w (.bool (holdsS 5 f)) := by
  unfold Ret
  have hc : (w.alloc (.cells #[.int .u8 f] 5)).cell? ⟨w.heap.size, 0, none⟩ = some (.int .u8 f) := by simp
  go_enter Try.func26, Try.ntmps26
  go_wp2_with fail
  refine (has_any _ f h h2 1 (by simp) _ hc).mono ?_
  rintro e w' ⟨rfl, rfl⟩
  go_wp2_with fail
  go_ret
  exact ⟨ret_val (by simp [holdsS]), (Below.refl _ _).alloc (Nat.le_refl _) _⟩

set_option maxHeartbeats 400000 in
theorem holds6_any (f : Int) (h : 0 ≤ f) (h2 : f < 256) (w : World) : Ret Try.prog 26 #[.int .u8 6, .int .u8 f] w (.bool (holdsS 6 f)) := by
  unfold Ret
  have hc : (w.alloc (.cells #[.int .u8 f] 5)).cell? ⟨w.heap.size, 0, none⟩ = some (.int .u8 f) := by simp
  go_enter Try.func26, Try.ntmps26
  go_wp2_with fail
  refine (has_any _ f h h2 1 (by simp) _ hc).mono ?_
  rintro e w' ⟨rfl, rfl⟩
  go_wp2_with fail
  go_ret
  exact ⟨ret_val (by simp [holdsS]), (Below.refl _ _).alloc (Nat.le_refl _) _⟩

set_option maxHeartbeats 400000 in
theorem holds_none (c : Int) (hc : 7 ≤ c) (f : Int) (w : World) : Ret Try.prog 26 #[.int .u8 c, .int .u8 f] w (.bool false) := by
  unfold Ret
  go_enter Try.func26, Try.ntmps26
  go_wp2_with fail
  go_ret
  exact ⟨rfl, (Below.refl _ _).alloc (Nat.le_refl _) _⟩
theorem holds_any (c : Int) (h1 : 0 ≤ c) (f : Int) (h : 0 ≤ f) (h2 : f < 256) (w : World) : Ret Try.prog 26 #[.int .u8 c, .int .u8 f] w (.bool (holdsS c.toNat f)) := by
  by_cases h7 : 7 ≤ c
  · have e : holdsS c.toNat f = false := by
      obtain ⟨m, hm⟩ := Nat.exists_eq_add_of_le (show 7 ≤ c.toNat by omega)
      rw [hm]; unfold holdsS; split <;> first | omega | rfl
    rw [e]; exact holds_none c h7 f w
  · have hc : c = 0 ∨ c = 1 ∨ c = 2 ∨ c = 3 ∨ c = 4 ∨ c = 5 ∨ c = 6 := by omega
    rcases hc with rfl | rfl | rfl | rfl | rfl | rfl | rfl
    · exact holds0_any f h h2 w
    · exact holds1_any f h h2 w
    · exact holds2_any f h h2 w
    · exact holds3_any f h h2 w
    · exact holds4_any f h h2 w
    · exact holds5_any f h h2 w
    · exact holds6_any f h h2 w
end Go.Proofs.Ytkokdcbnnihkaaa
