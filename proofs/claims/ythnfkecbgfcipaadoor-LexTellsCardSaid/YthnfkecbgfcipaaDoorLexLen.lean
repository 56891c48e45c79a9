/- How long the text of tokens is: plain laws. -/
import Derived.Test.YthnfkecbgfcipaaDoorLexBare
namespace Go.Proofs.YthnfkecbgfcipaaDoor
set_option linter.unusedVariables false
theorem textS_len (M : Nat) : ∀ (ts : List Tok), (∀ t ∈ ts, t.text.length ≤ M) → (textS ts).length ≤ ts.length * (M + 3)
  | [], _ => by simp [textS]
  | t :: r, h => by
    have ih := textS_len M r (fun x hx => h x (by simp [hx]))
    have ht := h t (by simp)
    have hn : (nextS r).length ≤ 1 := by
      cases r with
      | nil => simp [nextS]
      | cons u r => show (if u.kind = 6 then ([] : List UInt8) else [32]).length ≤ 1; split <;> simp
    rw [textS_eq, List.length_append, List.length_cons, Nat.succ_mul]
    split
    · simp; omega
    · split <;> simp <;> omega
theorem wordsS_each : ∀ (l : List UInt8) (k : Nat), ∀ x ∈ wordsS k l, x.2.length ≤ l.length
  | [], k => by simp [wordsS]
  | c :: r, k => by
    have ih := wordsS_each r (k + 1)
    intro x hx
    rw [wordsS_eq] at hx
    cases hc : nonw c with
    | false =>
      rw [hc, if_neg (by simp)] at hx
      have := ih x hx
      simp; omega
    | true =>
      rw [hc, if_pos rfl] at hx
      cases r with
      | nil => simp at hx; subst hx; simp
      | cons d r' =>
        simp only at hx
        cases hd : nonw d with
        | false =>
          rw [hd, if_neg (by simp)] at hx
          rcases List.mem_cons.1 hx with rfl | hx
          · simp
          · have := ih x hx; simp at this ⊢; omega
        | true =>
          rw [hd, if_pos rfl] at hx
          cases hw : wordsS (k + 1) (d :: r') with
          | nil => rw [hw] at hx; simp at hx; subst hx; simp
          | cons y ws =>
            obtain ⟨a, w⟩ := y
            rw [hw] at hx ih
            simp only at hx
            rcases List.mem_cons.1 hx with rfl | hx
            · have := ih (a, w) (by simp); simp at this ⊢; omega
            · have := ih x (by simp [hx]); simp at this ⊢; omega
theorem tokB_text {w : List UInt8} {k : Nat} {t : List UInt8} {n : Nat} (h : tokB w = some (k, t, n)) : t.length ≤ w.length := by
  unfold tokB at h
  repeat' split at h
  all_goals first | (cases h; simp) | (cases h)
theorem toksW_text (M : Nat) : ∀ (ws : List (Nat × List UInt8)) (ln : Nat) (r : List Tok), toksW ln ws = .ok r → (∀ x ∈ ws, x.2.length ≤ M) → ∀ t ∈ r, t.text.length ≤ M
  | [], ln, r, h, _ => by cases h; simp
  | (a, w) :: ws, ln, r, h, hm => by
    unfold toksW at h
    cases hx : tokB w with
    | none => rw [hx] at h; cases h
    | some x =>
      obtain ⟨k, t, n⟩ := x
      rw [hx] at h
      simp only at h
      cases hl : toksW ln ws with
      | error q => rw [hl] at h; cases h
      | ok b =>
        rw [hl] at h
        cases h
        intro u hu
        rcases List.mem_cons.1 hu with rfl | hu
        · exact Nat.le_trans (tokB_text hx) (hm (a, w) (by simp))
        · exact toksW_text M ws ln b hl (fun x hx => hm x (by simp [hx])) u hu
theorem lineT_text (M ln : Nat) (l : List UInt8) (r : List Tok) (h : lineT ln l = .ok r) (hm : l.length ≤ M) : ∀ t ∈ r, t.text.length ≤ M := by
  unfold lineT at h
  have hl := wordsS_each l 0
  cases hw : wordsS 0 l with
  | nil => rw [hw] at h; cases h; simp
  | cons x ws =>
    obtain ⟨a, w⟩ := x
    rw [hw] at h hl
    simp only at h
    split at h
    · cases h; simp
    · cases ht : toksW ln ((a, w) :: ws) with
      | error p => rw [ht] at h; cases h
      | ok b =>
        rw [ht] at h
        cases h
        intro t hu
        rcases List.mem_append.1 hu with hu | hu
        · exact toksW_text M _ ln b ht (fun x hx => Nat.le_trans (hl x hx) hm) t hu
        · simp at hu; subst hu; simp
theorem linesT_text (M : Nat) : ∀ (ls : List (List UInt8)) (ln : Nat) (r : List Tok), linesT ln ls = .ok r → (∀ l ∈ ls, l.length ≤ M) → ∀ t ∈ r, t.text.length ≤ M
  | [], ln, r, h, _ => by cases h; simp
  | l :: ls, ln, r, h, hm => by
    unfold linesT at h
    cases hl : lineT ln l with
    | error p => rw [hl] at h; cases h
    | ok a =>
      rw [hl] at h
      simp only at h
      cases hr : linesT (ln + 1) ls with
      | error p => rw [hr] at h; cases h
      | ok b =>
        rw [hr] at h
        cases h
        intro t hu
        rcases List.mem_append.1 hu with hu | hu
        · exact lineT_text M ln l a hl (hm l (by simp)) t hu
        · exact linesT_text M ls (ln + 1) b hr (fun x hx => hm x (by simp [hx])) t hu
theorem lexS_sizes (M : Nat) (s : List UInt8) (ts : List Tok) (h : lexS s = .ok ts) (hs : s.length ≤ M) : ts.length ≤ M * (M + 1) ∧ (textS ts).length ≤ M * (M + 1) * (M + 3) := by
  have hl := line_le s
  have hm : ∀ l ∈ linesS s, l.length ≤ M := fun l hx => Nat.le_trans (hl.1 l hx) hs
  have h1 := linesT_len M _ _ _ h hm
  have h2 : (linesS s).length * (M + 1) ≤ M * (M + 1) := Nat.mul_le_mul_right _ (by omega)
  have h3 := textS_len M ts (linesT_text M _ _ _ h hm)
  have h4 : ts.length * (M + 3) ≤ M * (M + 1) * (M + 3) := Nat.mul_le_mul_right _ (by omega)
  exact ⟨by omega, by omega⟩
end Go.Proofs.YthnfkecbgfcipaaDoor
