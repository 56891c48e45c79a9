/- Digits and what they come to: plain laws. -/
import Derived.Test.YthnfkecbgfcipaaDoorLexSpec
import Derived.Lib.ParseIntB
import Derived.Lib.ItoaNum
namespace Go.Proofs.YthnfkecbgfcipaaDoor
open Go.RowKit
set_option linter.unusedVariables false
def foldV (a : Nat) (l : List UInt8) : Nat := l.foldl (fun a c => 10 * a + (c.toNat - 48)) a
theorem foldV_cons (a : Nat) (c : UInt8) (l : List UInt8) : foldV a (c :: l) = foldV (10 * a + (c.toNat - 48)) l := by unfold foldV; rw [List.foldl_cons]
theorem foldV_append (a : Nat) (l m : List UInt8) : foldV a (l ++ m) = foldV (foldV a l) m := by unfold foldV; rw [List.foldl_append]
theorem foldV_ge : ∀ (l : List UInt8) (a : Nat), a * 10 ^ l.length ≤ foldV a l
  | [], a => by simp [foldV]
  | c :: l, a => by
    rw [foldV_cons]
    refine Nat.le_trans ?_ (foldV_ge l _)
    rw [List.length_cons, Nat.pow_succ, show a * (10 ^ l.length * 10) = (10 * a) * 10 ^ l.length by rw [Nat.mul_comm (10 ^ l.length) 10, ← Nat.mul_assoc, Nat.mul_comm a 10]]
    exact Nat.mul_le_mul_right _ (Nat.le_add_right _ _)
theorem foldV_self (l : List UInt8) (a : Nat) : a ≤ foldV a l :=
  Nat.le_trans (Nat.le_mul_of_pos_right a (Nat.pow_pos (by decide))) (foldV_ge l a)
theorem alldB_cons (c : UInt8) (l : List UInt8) : alldB (c :: l) = (decide (digP c.toNat) && alldB l) := rfl
theorem digP_nat {c : UInt8} (h : digP (c.toNat : Int)) : 48 ≤ c.toNat ∧ c.toNat ≤ 57 := by unfold digP at h; omega
theorem parse_digits (l : List UInt8) : ∀ (a : Nat), a ≤ 18446744073709551615 → alldB l = true →
    (Lib.parseUintM 18446744073709551615 a l = .ok (foldV a l) ∧ foldV a l ≤ 18446744073709551615) ∨ (Lib.parseUintM 18446744073709551615 a l = .range ∧ 18446744073709551615 < foldV a l) := by
  generalize hM : 18446744073709551615 = M
  induction l with
  | nil => exact fun a ha _ => .inl ⟨rfl, ha⟩
  | cons c l ih =>
    intro a ha h
    rw [alldB_cons, Bool.and_eq_true] at h
    have hc := digP_nat (of_decide_eq_true h.1)
    rw [foldV_cons]
    simp only [Lib.parseUintM]
    rw [if_pos hc]
    have hs := foldV_self l (10 * a + (c.toNat - 48))
    by_cases h1 : 1844674407370955162 ≤ a
    · rw [if_pos h1]
      exact .inr ⟨rfl, by omega⟩
    · rw [if_neg h1]
      by_cases h2 : M < a * 10 + (c.toNat - 48)
      · rw [if_pos h2]
        exact .inr ⟨rfl, by omega⟩
      · rw [if_neg h2, show a * 10 + (c.toNat - 48) = 10 * a + (c.toNat - 48) by omega]
        exact ih _ (by omega) h.2
theorem parse_all (l : List UInt8) (h0 : l ≠ []) (h : alldB l = true) :
    (Lib.parseUintB 64 l = .ok (valS l) ∧ valS l ≤ 18446744073709551615) ∨ (Lib.parseUintB 64 l = .range ∧ 18446744073709551615 < valS l) := by
  have h1 := parse_digits l 0 (Nat.zero_le _) h
  unfold Lib.parseUintB
  rw [if_neg h0]
  exact h1
/-- Without a leading zero a long row of digits is a great number. -/
theorem val_great (c : UInt8) (r : List UInt8) (hd : alldB (c :: r) = true) (hc : c.toNat ≠ 48) : 10 ^ r.length ≤ valS (c :: r) := by
  rw [alldB_cons, Bool.and_eq_true] at hd
  have h1 := digP_nat (of_decide_eq_true hd.1)
  have h2 := foldV_ge r (10 * 0 + (c.toNat - 48))
  refine Nat.le_trans ?_ h2
  exact Nat.le_mul_of_pos_left _ (by omega)
theorem numOk_long (most : Nat) (hm : most < 1000000000000) (s : List UInt8) (h : 12 < s.length) : numOk most s = false := by
  cases s with
  | nil => simp at h
  | cons c r =>
    unfold numOk
    by_cases hd : alldB (c :: r) = true
    · by_cases hc : c.toNat = 48
      · have : decide (1 < (c :: r).length) = true := decide_eq_true (by simp at h ⊢; omega)
        simp [head48, hc]
        intro _ e
        simp [e] at h
      · have h1 := val_great c r hd hc
        have h2 : 10 ^ 12 ≤ 10 ^ r.length := Nat.pow_le_pow_right (by decide) (by simp at h; omega)
        have : decide (valS (c :: r) ≤ most) = false := decide_eq_false (by omega)
        rw [this, Bool.and_false]
    · have : alldB (c :: r) = false := by simpa using hd
      rw [this]; simp
theorem foldV_lt : ∀ (l : List UInt8) (a : Nat), alldB l = true → foldV a l < (a + 1) * 10 ^ l.length
  | [], a, _ => by simp [foldV]
  | c :: l, a, h => by
    rw [alldB_cons, Bool.and_eq_true] at h
    have h1 := digP_nat (of_decide_eq_true h.1)
    rw [foldV_cons]
    refine Nat.lt_of_lt_of_le (foldV_lt l _ h.2) ?_
    rw [List.length_cons, Nat.pow_succ, show (a + 1) * (10 ^ l.length * 10) = (10 * (a + 1)) * 10 ^ l.length by rw [Nat.mul_comm (10 ^ l.length) 10, ← Nat.mul_assoc, Nat.mul_comm (a + 1) 10]]
    exact Nat.mul_le_mul_right _ (by omega)
end Go.Proofs.YthnfkecbgfcipaaDoor
