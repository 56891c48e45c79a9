/- The walk of muntinlaw01.WordFlags. -/
import Derived.Test.YtkokdcbnnihkaaaWordHead
import Derived.Test.YtkokdcbnnihkaaaWordRef
import Derived.Handy
namespace Go.Proofs.Ytkokdcbnnihkaaa
open Go.RowKit
set_option linter.unusedVariables false

theorem rhas_any (f n : Int) (h : 0 ≤ f) (h2 : f < 256) (hn : n = 1 ∨ n = 2 ∨ n = 4 ∨ n = 8) (w : World) : Calls Try.prog 48 #[.int .u8 f, .int .u8 n] w fun e w' => e = .returned (.bool (hasS f n)) ∧ w = w' := by
  have h3 : 0 ≤ f / n := Int.ediv_nonneg h (by omega)
  have h4 : f / n ≤ f := Int.ediv_le_self _ h
  have h5 : 1 ≤ n := by omega
  have h6 : ¬ n = 0 := by omega
  clear hn
  go_enter Try.func48, Try.ntmps48
  go_wp2
  go_ret
  exact ⟨ret_val (by unfold hasS; rfl), rfl⟩

set_option maxHeartbeats 400000 in
theorem rholds0_any (f : Int) (h : 0 ≤ f) (h2 : f < 256) (w : World) : Calls Try.prog 27 #[.int .u8 0, .int .u8 f] w fun e w' => e = .returned (.bool (holdsS 0 f)) ∧ w = w' := by
  go_enter Try.func27, Try.ntmps27
  go_wp2_with fail
  go_ret
  exact ⟨ret_val (by simp [holdsS]), rfl⟩

set_option maxHeartbeats 400000 in
theorem rholds1_any (f : Int) (h : 0 ≤ f) (h2 : f < 256) (w : World) : Calls Try.prog 27 #[.int .u8 1, .int .u8 f] w fun e w' => e = .returned (.bool (holdsS 1 f)) ∧ w = w' := by
  go_enter Try.func27, Try.ntmps27
  go_wp2_with fail
  refine (rhas_any f 4 h h2 (by simp) _).mono ?_
  rintro e w' ⟨rfl, rfl⟩
  go_wp2_with fail
  go_ret
  exact ⟨ret_val (by simp [holdsS]), rfl⟩

set_option maxHeartbeats 400000 in
theorem rholds2_any (f : Int) (h : 0 ≤ f) (h2 : f < 256) (w : World) : Calls Try.prog 27 #[.int .u8 2, .int .u8 f] w fun e w' => e = .returned (.bool (holdsS 2 f)) ∧ w = w' := by
  go_enter Try.func27, Try.ntmps27
  go_wp2_with fail
  refine (rhas_any f 4 h h2 (by simp) _).mono ?_
  rintro e w' ⟨rfl, rfl⟩
  go_wp2_with fail
  go_ret
  exact ⟨ret_val (by simp [holdsS]), rfl⟩

set_option maxHeartbeats 400000 in
theorem rholds3_any (f : Int) (h : 0 ≤ f) (h2 : f < 256) (w : World) : Calls Try.prog 27 #[.int .u8 3, .int .u8 f] w fun e w' => e = .returned (.bool (holdsS 3 f)) ∧ w = w' := by
  go_enter Try.func27, Try.ntmps27
  go_wp2_with fail
  refine (rhas_any f 8 h h2 (by simp) _).mono ?_
  rintro e w' ⟨rfl, rfl⟩
  go_wp2_with fail
  refine (rhas_any f 2 h h2 (by simp) _).mono ?_
  rintro e w' ⟨rfl, rfl⟩
  go_wp2_with fail
  go_ret
  exact ⟨ret_val (by simp [holdsS]; cases hasS f 8 <;> cases hasS f 2 <;> rfl), rfl⟩

set_option maxHeartbeats 400000 in
theorem rholds4_any (f : Int) (h : 0 ≤ f) (h2 : f < 256) (w : World) : Calls Try.prog 27 #[.int .u8 4, .int .u8 f] w fun e w' => e = .returned (.bool (holdsS 4 f)) ∧ w = w' := by
  go_enter Try.func27, Try.ntmps27
  go_wp2_with fail
  refine (rhas_any f 8 h h2 (by simp) _).mono ?_
  rintro e w' ⟨rfl, rfl⟩
  go_wp2_with fail
  refine (rhas_any f 2 h h2 (by simp) _).mono ?_
  rintro e w' ⟨rfl, rfl⟩
  go_wp2_with fail
  go_ret
  exact ⟨ret_val (by simp [holdsS]; cases hasS f 8 <;> cases hasS f 2 <;> rfl), rfl⟩

set_option maxHeartbeats 400000 in
theorem rholds5_any (f : Int) (h : 0 ≤ f) (h2 : f < 256) (w : World) : Calls Try.prog 27 #[.int .u8 5, .int .u8 f] w fun e w' => e = .returned (.bool (holdsS 5 f)) ∧ w = w' := by
  go_enter Try.func27, Try.ntmps27
  go_wp2_with fail
  refine (rhas_any f 1 h h2 (by simp) _).mono ?_
  rintro e w' ⟨rfl, rfl⟩
  go_wp2_with fail
  go_ret
  exact ⟨ret_val (by simp [holdsS]), rfl⟩

set_option maxHeartbeats 400000 in
theorem rholds6_any (f : Int) (h : 0 ≤ f) (h2 : f < 256) (w : World) : Calls Try.prog 27 #[.int .u8 6, .int .u8 f] w fun e w' => e = .returned (.bool (holdsS 6 f)) ∧ w = w' := by
  go_enter Try.func27, Try.ntmps27
  go_wp2_with fail
  refine (rhas_any f 1 h h2 (by simp) _).mono ?_
  rintro e w' ⟨rfl, rfl⟩
  go_wp2_with fail
  go_ret
  exact ⟨ret_val (by simp [holdsS]), rfl⟩

set_option maxHeartbeats 400000 in
theorem rholds_none (c : Int) (hc : 7 ≤ c) (f : Int) (w : World) : Calls Try.prog 27 #[.int .u8 c, .int .u8 f] w fun e w' => e = .returned (.bool false) ∧ w = w' := by
  go_enter Try.func27, Try.ntmps27
  go_wp2_with fail
  go_ret
  exact ⟨rfl, rfl⟩
theorem rholds_any (c : Int) (h1 : 0 ≤ c) (f : Int) (h : 0 ≤ f) (h2 : f < 256) (w : World) : Calls Try.prog 27 #[.int .u8 c, .int .u8 f] w fun e w' => e = .returned (.bool (holdsS c.toNat f)) ∧ w = w' := by
  by_cases h7 : 7 ≤ c
  · have e : holdsS c.toNat f = false := by
      obtain ⟨m, hm⟩ := Nat.exists_eq_add_of_le (show 7 ≤ c.toNat by omega)
      rw [hm]; unfold holdsS; split <;> first | omega | rfl
    rw [e]; exact rholds_none c h7 f w
  · have hc : c = 0 ∨ c = 1 ∨ c = 2 ∨ c = 3 ∨ c = 4 ∨ c = 5 ∨ c = 6 := by omega
    rcases hc with rfl | rfl | rfl | rfl | rfl | rfl | rfl
    · exact rholds0_any f h h2 w
    · exact rholds1_any f h h2 w
    · exact rholds2_any f h h2 w
    · exact rholds3_any f h h2 w
    · exact rholds4_any f h h2 w
    · exact rholds5_any f h h2 w
    · exact rholds6_any f h h2 w

set_option maxHeartbeats 1000000 in
theorem rflags_any (a b : Int) (ha : 0 ≤ a) (ha2 : a < 4294967296) (hb : 0 ≤ b) (hb2 : b < 4294967296) (w : World) :
    Calls Try.prog 25 #[.int .u32 a, .int .u32 b] w fun e w' => e = .returned (.int .u8 (flagsS a b)) ∧ w = w' := by
  have h1 := s32_bd a
  have h2 := s32_bd b
  have h3 := s32_bd (u32 (a - b))
  have h4 := u32_bd (a - b)
  have hz : (u32 (a - b) = 0) ↔ a = b := by unfold u32; omega
  have hs : s32 (u32 (a - b)) = s32 (a - b) := s32_u32 _
  have H := hid (And.intro hz hs)
  clear hz hs
  go_enter Try.func25, Try.ntmps25
  go_wp2_with fail
  refine (rword_any _ (by omega) (by omega) _).mono ?_
  rintro e w' ⟨rfl, rfl⟩
  go_wp2_with fail
  refine (rsigned_any a ha ha2 _).mono ?_
  rintro e w' ⟨rfl, rfl⟩
  go_wp2_with fail
  refine (rsigned_any b hb hb2 _).mono ?_
  rintro e w' ⟨rfl, rfl⟩
  go_wp2_with fail
  all_goals
    refine (rsigned_any _ h4.1 h4.2 _).mono ?_
    rintro e w' ⟨rfl, rfl⟩
    go_wp2_with fail
  all_goals
    refine (rsigned_any _ h4.1 h4.2 _).mono ?_
    rintro e w' ⟨rfl, rfl⟩
    go_wp2_with fail
  all_goals
    go_ret
    refine ⟨ret_u ?_, rfl⟩
    obtain ⟨k1, k2⟩ := H.out
    clear H
    simp only [beq_iff_eq, beq_eq_false_iff_ne, bne_iff_ne, ne_eq, bne_eq_false_iff_eq] at *
    unfold flagsS truthS
    simp only [decide_eq_true_eq, Bool.not_eq_true', decide_eq_false_iff_not]
    generalize s32 (u32 (a - b)) = z at *
    generalize s32 (a - b) = y at *
    generalize s32 a = p at *
    generalize s32 b = q at *
    generalize u32 (a - b) = d at *
    (repeat' split) <;> omega
set_option maxHeartbeats 400000 in
theorem walk_WordFlags (a0 a1 a2 : Int) (w0 : (Lit.int .u8 a0).wf = true) (w1 : (Lit.int .u32 a1).wf = true) (w2 : (Lit.int .u32 a2).wf = true) (w : World) :
    Calls Try.prog 7 #[.int .u8 a0, .int .u32 a1, .int .u32 a2] w fun e w' => e = .returned (.bool true) ∧ Below w.heap.size w w' := by
  have b0 := int_u8 w0
  have b1 := int_u32 w1
  have b2 := int_u32 w2
  have b3 := flagsS_bd a1 a2
  have e8 : IntKind.u8.wrap a1 = a1 % 256 := IntKind.wrap_u8' a1
  have e9 : bits .xor .u8 a0 (a1 % 256) = ((a0.toNat ^^^ (a1 % 256).toNat : Nat) : Int) := u8_xor a0 (a1 % 256) b0.1 b0.2 (by omega) (by omega)
  have hx : a0.toNat ^^^ (a1 % 256).toNat < 2 ^ 8 := Nat.xor_lt_two_pow (by omega) (by omega)
  have hx0 : (0 : Int) ≤ ((a0.toNat ^^^ (a1 % 256).toNat : Nat) : Int) := Int.natCast_nonneg _
  have hx1 : ((a0.toNat ^^^ (a1 % 256).toNat : Nat) : Int) < 256 := by omega
  generalize ((a0.toNat ^^^ (a1 % 256).toNat : Nat) : Int) = fl at e9 hx0 hx1
  clear w0 w1 w2 hx
  go_enter Try.func7, Try.ntmps7
  go_wp2_with fail
  refine (flags_any a1 a2 b1.1 b1.2 b2.1 b2.2 _).mono ?_
  rintro e w1 ⟨rfl, hb1⟩
  go_wp2_with fail
  refine (rflags_any a1 a2 b1.1 b1.2 b2.1 b2.2 _).mono ?_
  rintro e w' ⟨rfl, rfl⟩
  go_wp2_with fail
  refine (holds_any a0 b0.1 _ b3.1 (by omega) _).mono ?_
  rintro e w2 ⟨rfl, hb2⟩
  go_wp2_with fail
  refine (rholds_any a0 b0.1 _ b3.1 (by omega) _).mono ?_
  rintro e w' ⟨rfl, rfl⟩
  go_wp2_with fail
  refine (holds_any _ (by omega) fl hx0 hx1 _).mono ?_
  rintro e w3 ⟨rfl, hb3⟩
  go_wp2_with fail
  refine (rholds_any _ (by omega) fl hx0 hx1 _).mono ?_
  rintro e w' ⟨rfl, rfl⟩
  go_wp2_with fail
  refine (head_any _).mono ?_
  rintro e w4 ⟨rfl, hb4⟩
  go_wp2_with fail
  go_ret
  exact ⟨rfl, bt (bt (bt hb1 hb2) hb3) hb4⟩
end Go.Proofs.Ytkokdcbnnihkaaa
