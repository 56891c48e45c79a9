/- Lines and words put behind; how long they are: plain laws. -/
import Derived.Test.YthnfkecbgfcipaaDoorLexLines
namespace Go.Proofs.YthnfkecbgfcipaaDoor
open Go.RowKit
set_option linter.unusedVariables false
theorem linesT_snoc : ∀ (ls : List (List UInt8)) (ln : Nat) (l : List UInt8), linesT ln (ls ++ [l]) = match linesT ln ls with
    | .error p => .error p
    | .ok a => match lineT (ln + ls.length) l with
      | .error p => .error p
      | .ok b => .ok (a ++ b)
  | [], ln, l => by
    show linesT ln [l] = _
    unfold linesT
    cases lineT ln l <;> simp [linesT]
  | x :: ls, ln, l => by
    show linesT ln (x :: (ls ++ [l])) = _
    unfold linesT
    cases lineT ln x with
    | error p => rfl
    | ok a =>
      simp only
      rw [linesT_snoc ls (ln + 1) l, show ln + 1 + ls.length = ln + (x :: ls).length by simp; omega]
      cases linesT (ln + 1) ls with
      | error p => rfl
      | ok b =>
        simp only
        cases lineT (ln + (x :: ls).length) l with
        | error p => rfl
        | ok c => simp
theorem linesT_err : ∀ (ls ms : List (List UInt8)) (ln : Nat) (p : Nat × Nat), linesT ln ls = .error p → linesT ln (ls ++ ms) = .error p
  | [], ms, ln, p, h => by cases h
  | x :: ls, ms, ln, p, h => by
    show linesT ln (x :: (ls ++ ms)) = _
    unfold linesT at h ⊢
    cases hx : lineT ln x with
    | error q => rw [hx] at h; exact h
    | ok a =>
      rw [hx] at h
      simp only at h ⊢
      cases hl : linesT (ln + 1) ls with
      | error q => rw [hl] at h; cases h; rw [linesT_err ls ms (ln + 1) p hl]
      | ok b => rw [hl] at h; cases h
theorem toksW_snoc : ∀ (ws : List (Nat × List UInt8)) (ln : Nat) (a : Nat) (w : List UInt8), toksW ln (ws ++ [(a, w)]) = match toksW ln ws with
    | .error p => .error p
    | .ok r => match tokB w with
      | none => .error (ln, a + 1)
      | some (k, t, n) => .ok (r ++ [⟨k, t, n, ln, a + 1⟩])
  | [], ln, a, w => by
    show toksW ln [(a, w)] = _
    unfold toksW
    cases tokB w with
    | none => rfl
    | some x => rfl
  | (b, v) :: ws, ln, a, w => by
    show toksW ln ((b, v) :: (ws ++ [(a, w)])) = _
    unfold toksW
    cases tokB v with
    | none => rfl
    | some x =>
      obtain ⟨k, t, n⟩ := x
      simp only
      rw [toksW_snoc ws ln a w]
      cases toksW ln ws with
      | error p => rfl
      | ok r =>
        simp only
        cases tokB w with
        | none => rfl
        | some y => rfl
theorem toksW_err : ∀ (ws vs : List (Nat × List UInt8)) (ln : Nat) (p : Nat × Nat), toksW ln ws = .error p → toksW ln (ws ++ vs) = .error p
  | [], vs, ln, p, h => by cases h
  | (a, w) :: ws, vs, ln, p, h => by
    show toksW ln ((a, w) :: (ws ++ vs)) = _
    unfold toksW at h ⊢
    cases hx : tokB w with
    | none => rw [hx] at h; exact h
    | some x =>
      obtain ⟨k, t, n⟩ := x
      rw [hx] at h
      simp only at h ⊢
      cases hl : toksW ln ws with
      | error q => rw [hl] at h; cases h; rw [toksW_err ws vs ln p hl]
      | ok b => rw [hl] at h; cases h
theorem line_le : ∀ (s : List UInt8), (∀ x ∈ linesS s, x.length ≤ s.length) ∧ (linesS s).length ≤ s.length
  | [] => ⟨by simp [linesS], by simp [linesS]⟩
  | c :: r => by
    obtain ⟨h1, h2⟩ := line_le r
    rw [linesS_eq]
    by_cases hc : c.toNat = 10
    · rw [if_pos hc]
      exact ⟨fun x hx => by
        rcases List.mem_cons.1 hx with rfl | hx
        · simp
        · have := h1 x hx; simp; omega, by simp; omega⟩
    · rw [if_neg hc]
      cases hl : linesS r with
      | nil => exact ⟨fun x hx => by simp at hx; subst hx; simp, by simp⟩
      | cons l ls =>
        rw [hl] at h1 h2
        exact ⟨fun x hx => by
          rcases List.mem_cons.1 hx with rfl | hx
          · have := h1 l (by simp); simp; omega
          · have := h1 x (by simp [hx]); simp; omega, by simp at h2 ⊢; omega⟩
theorem wordsS_first (l : List UInt8) (k q : Nat) (w : List UInt8) (ws : List (Nat × List UInt8)) (h : nonw (l.headD 0) = true) (hw : wordsS k l = (q, w) :: ws) : q = k := by
  cases l with
  | nil => simp [wordsS] at hw
  | cons c r =>
    rw [wordsS_eq, if_pos (show nonw c = true from h)] at hw
    cases r with
    | nil => cases hw; rfl
    | cons d r' =>
      simp only at hw
      split at hw
      · split at hw
        · cases hw; rfl
        · cases hw; rfl
      · cases hw; rfl
theorem wordsS_bd : ∀ (l : List UInt8) (k : Nat), ∀ p ∈ wordsS k l, p.2 ≠ [] ∧ p.1 + p.2.length ≤ k + l.length
  | [], k, p, h => by simp [wordsS] at h
  | c :: r, k, p, h => by
    have ih := wordsS_bd r (k + 1)
    rw [wordsS_eq] at h
    cases hc : nonw c with
    | false =>
      rw [hc, if_neg (by simp)] at h
      have := ih p h
      exact ⟨this.1, by simp; omega⟩
    | true =>
      rw [hc, if_pos rfl] at h
      cases r with
      | nil => simp at h; subst h; exact ⟨by simp, by simp⟩
      | cons d r' =>
        simp only at h
        cases hd : nonw d with
        | false =>
          rw [hd, if_neg (by simp)] at h
          rcases List.mem_cons.1 h with rfl | h
          · exact ⟨by simp, by simp⟩
          · have := ih p h
            exact ⟨this.1, by simp at this ⊢; omega⟩
        | true =>
          rw [hd, if_pos rfl] at h
          cases hw : wordsS (k + 1) (d :: r') with
          | nil => rw [hw] at h; simp at h; subst h; exact ⟨by simp, by simp⟩
          | cons x ws =>
            obtain ⟨q, w⟩ := x
            rw [hw] at h ih
            rcases List.mem_cons.1 h with rfl | h
            · have h2 := wordsS_first (d :: r') (k + 1) q w ws hd hw
              have := ih (q, w) (by simp)
              exact ⟨by simp, by simp at this ⊢; omega⟩
            · have := ih p (by simp [h])
              exact ⟨this.1, by simp at this ⊢; omega⟩
theorem toksW_len : ∀ (ws : List (Nat × List UInt8)) (ln : Nat) (r : List Tok), toksW ln ws = .ok r → r.length = ws.length
  | [], ln, r, h => by cases h; rfl
  | (a, w) :: ws, ln, r, h => by
    unfold toksW at h
    cases hx : tokB w with
    | none => rw [hx] at h; cases h
    | some x =>
      obtain ⟨k, t, n⟩ := x
      rw [hx] at h
      simp only at h
      cases hl : toksW ln ws with
      | error q => rw [hl] at h; cases h
      | ok b => rw [hl] at h; cases h; simp [toksW_len ws ln b hl]
theorem wordsS_len : ∀ (l : List UInt8) (k : Nat), (wordsS k l).length ≤ l.length
  | [], k => by simp [wordsS]
  | c :: r, k => by
    have ih := wordsS_len r (k + 1)
    rw [wordsS_eq]
    cases nonw c with
    | false => rw [if_neg (by simp)]; simp; omega
    | true =>
      rw [if_pos rfl]
      cases r with
      | nil => simp
      | cons d r' =>
        simp only
        cases nonw d with
        | false => rw [if_neg (by simp)]; simp at ih ⊢; omega
        | true =>
          rw [if_pos rfl]
          cases hw : wordsS (k + 1) (d :: r') with
          | nil => simp
          | cons x ws => rw [hw] at ih; simp at ih ⊢; omega
theorem lineT_len (ln : Nat) (l : List UInt8) (r : List Tok) (h : lineT ln l = .ok r) : r.length ≤ l.length + 1 := by
  unfold lineT at h
  have hl := wordsS_len l 0
  cases hw : wordsS 0 l with
  | nil => rw [hw] at h; cases h; simp
  | cons x ws =>
    obtain ⟨a, w⟩ := x
    rw [hw] at h hl
    simp only at h
    split at h
    · cases h; simp
    · cases ht : toksW ln ((a, w) :: ws) with
      | error p => rw [ht] at h; cases h
      | ok b =>
        rw [ht] at h
        cases h
        have := toksW_len _ _ _ ht
        simp at this hl ⊢
        omega
theorem linesT_len (M : Nat) : ∀ (ls : List (List UInt8)) (ln : Nat) (r : List Tok), linesT ln ls = .ok r → (∀ l ∈ ls, l.length ≤ M) → r.length ≤ ls.length * (M + 1)
  | [], ln, r, h, _ => by cases h; simp
  | l :: ls, ln, r, h, hm => by
    unfold linesT at h
    cases hl : lineT ln l with
    | error p => rw [hl] at h; cases h
    | ok a =>
      rw [hl] at h
      simp only at h
      cases hr : linesT (ln + 1) ls with
      | error p => rw [hr] at h; cases h
      | ok b =>
        rw [hr] at h
        cases h
        have h1 := lineT_len _ _ _ hl
        have h2 := linesT_len M ls (ln + 1) b hr (fun x hx => hm x (by simp [hx]))
        have h3 := hm l (by simp)
        rw [List.length_append, List.length_cons, Nat.succ_mul]
        omega
end Go.Proofs.YthnfkecbgfcipaaDoor
