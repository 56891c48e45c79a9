/- Lines and words of sources: plain laws. -/
import Derived.Test.YthnfkecbgfcipaaDoorLexSpec
import Derived.Lib.IndexMore
namespace Go.Proofs.YthnfkecbgfcipaaDoor
open Go.RowKit
set_option linter.unusedVariables false
theorem linesS_eq (c : UInt8) (r : List UInt8) : linesS (c :: r) = if c.toNat = 10 then [] :: linesS r else match linesS r with
    | [] => [[c]]
    | l :: ls => (c :: l) :: ls := rfl
theorem linesS_one : ∀ (a : List UInt8), a ≠ [] → (∀ c ∈ a, c.toNat ≠ 10) → linesS a = [a]
  | [], h, _ => (h rfl).elim
  | c :: r, _, hn => by
    have hc : c.toNat ≠ 10 := hn c (by simp)
    rw [linesS_eq, if_neg hc]
    cases r with
    | nil => rfl
    | cons d r => rw [linesS_one (d :: r) (by simp) (fun x hx => hn x (by simp_all))]
theorem linesS_cons : ∀ (a b : List UInt8), (∀ c ∈ a, c.toNat ≠ 10) → linesS (a ++ 10 :: b) = a :: linesS b
  | [], b, _ => by show linesS (10 :: b) = _; rw [linesS_eq, if_pos (by decide)]
  | c :: r, b, hn => by
    have hc : c.toNat ≠ 10 := hn c (by simp)
    show linesS (c :: (r ++ 10 :: b)) = _
    rw [linesS_eq, if_neg hc, linesS_cons r b (fun x hx => hn x (by simp_all))]
theorem index_ten : ∀ (s : List UInt8), (∃ a b, s = a ++ 10 :: b ∧ (∀ c ∈ a, c.toNat ≠ 10) ∧ Lib.index s [10] = a.length) ∨ ((∀ c ∈ s, c.toNat ≠ 10) ∧ Lib.index s [10] = -1)
  | [] => .inr ⟨by simp, rfl⟩
  | c :: r => by
    by_cases hc : c.toNat = 10
    · have hc2 : c = 10 := UInt8.toNat_inj.1 hc
      subst hc2
      exact .inl ⟨[], r, rfl, by simp, by unfold Lib.index; rfl⟩
    · have hp : ([10] : List UInt8).isPrefixOf (c :: r) = false := by
        have : (10 == c) = false := by rw [beq_eq_false_iff_ne]; rintro rfl; exact hc rfl
        simp [List.isPrefixOf, this]
      rcases index_ten r with ⟨a, b, h1, h2, h3⟩ | ⟨h1, h2⟩
      · refine .inl ⟨c :: a, b, by simp [h1], fun x hx => ?_, ?_⟩
        · rcases List.mem_cons.1 hx with rfl | hx
          · exact hc
          · exact h2 x hx
        · unfold Lib.index
          rw [hp, h3]
          have : ((a.length : Int) == -1) = false := by rw [beq_eq_false_iff_ne]; omega
          simp [this]
      · refine .inr ⟨fun x hx => ?_, ?_⟩
        · rcases List.mem_cons.1 hx with rfl | hx
          · exact hc
          · exact h1 x hx
        · unfold Lib.index
          rw [hp, h2]
          rfl
/-- What strings.Cut makes of a source. -/
theorem cut_ten (s : List UInt8) : (∃ a b, s = a ++ 10 :: b ∧ (∀ c ∈ a, c.toNat ≠ 10) ∧ Lib.cut s [10] = (a, b, true)) ∨ ((∀ c ∈ s, c.toNat ≠ 10) ∧ Lib.cut s [10] = (s, [], false)) := by
  rcases index_ten s with ⟨a, b, h1, h2, h3⟩ | ⟨h1, h2⟩
  · refine .inl ⟨a, b, h1, h2, ?_⟩
    unfold Lib.cut
    rw [h3, if_pos (by omega), h1]
    simp
  · refine .inr ⟨h1, ?_⟩
    unfold Lib.cut
    rw [h2, if_neg (by omega)]
/-- The first line and the others. -/
theorem lines_cut (s : List UInt8) (h : s ≠ []) : linesS s = (Lib.cut s [10]).1 :: linesS (Lib.cut s [10]).2.1 ∧ (Lib.cut s [10]).2.1.length < s.length ∧ (Lib.cut s [10]).1.length ≤ s.length := by
  rcases cut_ten s with ⟨a, b, h1, h2, h3⟩ | ⟨h1, h2⟩
  · rw [h3, h1]; exact ⟨linesS_cons a b h2, by simp; omega, by simp⟩
  · rw [h2]; exact ⟨linesS_one s h h1, by simp; exact List.length_pos_iff.2 h, by simp⟩
theorem wordsS_eq (k : Nat) (c : UInt8) (r : List UInt8) : wordsS k (c :: r) = if nonw c then
      (match r with
       | [] => [(k, [c])]
       | d :: r' => if nonw d then (match wordsS (k + 1) r with
          | [] => [(k, [c])]
          | (_, w) :: ws => (k, c :: w) :: ws) else (k, [c]) :: wordsS (k + 1) r)
    else wordsS (k + 1) r := by
  cases r <;> rfl
theorem wordsS_white (k : Nat) (c : UInt8) (r : List UInt8) (h : nonw c = false) : wordsS k (c :: r) = wordsS (k + 1) r := by
  rw [wordsS_eq, h]; simp
/-- Does a text begin with none of a word's bytes? -/
def ends (r : List UInt8) : Prop := r = [] ∨ ∃ c r', r = c :: r' ∧ nonw c = false
theorem wordsS_word : ∀ (w : List UInt8) (k : Nat) (r : List UInt8), w ≠ [] → (∀ c ∈ w, nonw c = true) → ends r → wordsS k (w ++ r) = (k, w) :: wordsS (k + w.length) r
  | [], _, _, h, _, _ => (h rfl).elim
  | [c], k, r, _, hn, he => by
    have hc := hn c (by simp)
    show wordsS k (c :: r) = _
    rw [wordsS_eq, if_pos hc]
    rcases he with rfl | ⟨d, r', rfl, hd⟩
    · rfl
    · simp only [hd]
      rfl
  | c :: d :: w, k, r, _, hn, he => by
    have hc := hn c (by simp)
    have hd := hn d (by simp)
    have ih := wordsS_word (d :: w) (k + 1) r (by simp) (fun x hx => hn x (by simp_all)) he
    show wordsS k (c :: d :: (w ++ r)) = _
    rw [wordsS_eq, if_pos hc]
    simp only
    rw [if_pos hd]
    rw [show d :: (w ++ r) = (d :: w) ++ r from rfl, ih]
    simp only [List.length_cons]
    rw [show k + 1 + (w.length + 1) = k + (w.length + 1 + 1) by omega]
end Go.Proofs.YthnfkecbgfcipaaDoor
