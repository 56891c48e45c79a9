/- Tokens but for their places; two sources one behind the other: plain laws. -/
import Derived.Test.YthnfkecbgfcipaaDoorLexFacts
namespace Go.Proofs.YthnfkecbgfcipaaDoor
set_option linter.unusedVariables false
def bare (t : Tok) : Nat × List UInt8 × Nat := (t.kind, t.text, t.n)
def toksB : List (List UInt8) → Option (List (Nat × List UInt8 × Nat))
  | [] => some []
  | w :: ws => match tokB w with
    | none => none
    | some x => (toksB ws).map (x :: ·)
def lineB : List (List UInt8) → Option (List (Nat × List UInt8 × Nat))
  | [] => some []
  | w :: ws => if begins 35 w then some [] else (toksB (w :: ws)).map (· ++ [(6, [], 0)])
def linesB : List (List (List UInt8)) → Option (List (Nat × List UInt8 × Nat))
  | [] => some []
  | l :: ls => match lineB l with
    | none => none
    | some a => (linesB ls).map (a ++ ·)
def toB : Except (Nat × Nat) (List Tok) → Option (List (Nat × List UInt8 × Nat))
  | .ok ts => some (ts.map bare)
  | .error _ => none
/-- A line's words alone. -/
def wordsT (l : List UInt8) : List (List UInt8) := (wordsS 0 l).map (·.2)
theorem toksW_bare (ln : Nat) : ∀ ws : List (Nat × List UInt8), toB (toksW ln ws) = toksB (ws.map (·.2))
  | [] => rfl
  | (a, w) :: ws => by
    have ih := toksW_bare ln ws
    show toB (toksW ln ((a, w) :: ws)) = toksB (w :: ws.map (·.2))
    unfold toksW toksB
    cases tokB w with
    | none => rfl
    | some x =>
      obtain ⟨k, t, n⟩ := x
      simp only
      rw [← ih]
      cases toksW ln ws <;> rfl
theorem lineT_bare (ln : Nat) (l : List UInt8) : toB (lineT ln l) = lineB (wordsT l) := by
  unfold lineT wordsT
  cases hw : wordsS 0 l with
  | nil => rfl
  | cons x ws =>
    obtain ⟨a, w⟩ := x
    have ih := toksW_bare ln ((a, w) :: ws)
    show _ = (if begins 35 w then some [] else (toksB (w :: ws.map (·.2))).map (· ++ [(6, [], 0)]))
    simp only
    cases begins 35 w with
    | true => rfl
    | false =>
      simp only [Bool.false_eq_true, if_false]
      rw [show w :: ws.map (·.2) = ((a, w) :: ws).map (·.2) from rfl, ← ih]
      cases toksW ln ((a, w) :: ws) with
      | error p => rfl
      | ok r => simp [toB, bare]
theorem linesT_bare : ∀ (ls : List (List UInt8)) (ln : Nat), toB (linesT ln ls) = linesB (ls.map wordsT)
  | [], ln => rfl
  | l :: ls, ln => by
    have ih := linesT_bare ls (ln + 1)
    have h1 := lineT_bare ln l
    show toB (linesT ln (l :: ls)) = linesB (wordsT l :: ls.map wordsT)
    unfold linesT linesB
    rw [← h1, ← ih]
    cases lineT ln l with
    | error p => rfl
    | ok a =>
      simp only [toB]
      cases linesT (ln + 1) ls with
      | error p => rfl
      | ok b => simp
theorem lexS_bare (s : List UInt8) : toB (lexS s) = linesB ((linesS s).map wordsT) := linesT_bare _ _
theorem linesB_cons (l : List (List UInt8)) (ls : List (List (List UInt8))) : linesB (l :: ls) = match lineB l with
    | none => none
    | some a => (linesB ls).map (a ++ ·) := rfl
theorem linesB_append : ∀ (a b : List (List (List UInt8))), linesB (a ++ b) = match linesB a with
    | none => none
    | some x => (linesB b).map (x ++ ·)
  | [], b => by
    show linesB b = (linesB b).map (fun y => [] ++ y)
    cases linesB b <;> rfl
  | l :: ls, b => by
    have ih := linesB_append ls b
    show linesB (l :: (ls ++ b)) = _
    rw [linesB_cons, linesB_cons, ih]
    cases lineB l with
    | none => rfl
    | some x =>
      simp only
      cases linesB ls with
      | none => rfl
      | some y =>
        simp only [Option.map_some]
        cases linesB b with
        | none => rfl
        | some z => simp
/-- One source behind another. -/
theorem join_lines (b : List UInt8) : ∀ (n : Nat) (a : List UInt8), a.length ≤ n → linesB ((linesS (a ++ 10 :: b)).map wordsT) = linesB ((linesS a).map wordsT ++ (linesS b).map wordsT)
  | n, [], _ => by
    have e := linesS_cons [] b (by simp)
    show linesB ((linesS ([] ++ 10 :: b)).map wordsT) = linesB ((linesS b).map wordsT)
    rw [e]
    show linesB (wordsT [] :: (linesS b).map wordsT) = _
    show (match lineB [] with
      | none => none
      | some x => (linesB ((linesS b).map wordsT)).map (x ++ ·)) = _
    show (linesB ((linesS b).map wordsT)).map (fun y => [] ++ y) = _
    cases linesB ((linesS b).map wordsT) <;> rfl
  | 0, c :: a, h => by simp at h
  | n + 1, c :: a, h => by
    rcases cut_ten (c :: a) with ⟨a1, a2, e, hn, _⟩ | ⟨hn, _⟩
    · have hl := congrArg List.length e
      have ih := join_lines b n a2 (by simp at hl h; omega)
      rw [e, linesS_cons a1 a2 hn, List.append_assoc]
      show linesB ((linesS (a1 ++ 10 :: (a2 ++ 10 :: b))).map wordsT) = _
      rw [linesS_cons a1 _ hn]
      show linesB (wordsT a1 :: (linesS (a2 ++ 10 :: b)).map wordsT) = linesB (wordsT a1 :: ((linesS a2).map wordsT ++ (linesS b).map wordsT))
      rw [linesB_cons, linesB_cons, ih]
    · rw [linesS_cons (c :: a) b hn, linesS_one (c :: a) (by simp) hn]
      rfl
theorem join_lex (a b : List UInt8) : toB (lexS (a ++ 10 :: b)) = match toB (lexS a) with
    | none => none
    | some x => (toB (lexS b)).map (x ++ ·) := by
  rw [lexS_bare, lexS_bare, lexS_bare, join_lines b a.length a (Nat.le_refl _), linesB_append]
def nextS : List Tok → List UInt8
  | [] => []
  | u :: _ => if u.kind = 6 then [] else [32]
theorem textS_eq (t : Tok) (r : List Tok) : textS (t :: r) = (if t.kind = 6 then [10] else t.text ++ (if t.kind = 1 then [58] else []) ++ nextS r) ++ textS r := by
  cases r <;> rfl
theorem nextS_bare : ∀ (a b : List Tok), a.map bare = b.map bare → nextS a = nextS b
  | [], [], _ => rfl
  | [], _ :: _, h => by simp at h
  | _ :: _, [], h => by simp at h
  | x :: a, y :: b, h => by
    simp only [List.map_cons, List.cons.injEq, bare, Prod.mk.injEq] at h
    show (if x.kind = 6 then ([] : List UInt8) else [32]) = (if y.kind = 6 then [] else [32])
    rw [h.1.1]
theorem textS_bare : ∀ (a b : List Tok), a.map bare = b.map bare → textS a = textS b
  | [], [], _ => rfl
  | [], _ :: _, h => by simp at h
  | _ :: _, [], h => by simp at h
  | x :: a, y :: b, h => by
    have h0 := h
    simp only [List.map_cons, List.cons.injEq, bare, Prod.mk.injEq] at h
    have ih := textS_bare a b h.2
    rw [textS_eq, textS_eq, ih, nextS_bare a b h.2, h.1.1, h.1.2.1]
/-- Tokens of a source are none, or end with an end. -/
def endsOk (ts : List Tok) : Prop := ts = [] ∨ ∃ r t, ts = r ++ [t] ∧ t.kind = 6
theorem endsOk_append {a b : List Tok} (ha : endsOk a) (hb : endsOk b) : endsOk (a ++ b) := by
  rcases hb with rfl | ⟨r, t, rfl, h⟩
  · rw [List.append_nil]; exact ha
  · exact .inr ⟨a ++ r, t, by simp, h⟩
theorem lineT_ends (ln : Nat) (l : List UInt8) (r : List Tok) (h : lineT ln l = .ok r) : endsOk r := by
  unfold lineT at h
  cases hw : wordsS 0 l with
  | nil => rw [hw] at h; cases h; exact .inl rfl
  | cons x ws =>
    obtain ⟨a, w⟩ := x
    rw [hw] at h
    simp only at h
    split at h
    · cases h; exact .inl rfl
    · cases ht : toksW ln ((a, w) :: ws) with
      | error p => rw [ht] at h; cases h
      | ok b => rw [ht] at h; cases h; exact .inr ⟨_, _, rfl, rfl⟩
theorem linesT_ends : ∀ (ls : List (List UInt8)) (ln : Nat) (r : List Tok), linesT ln ls = .ok r → endsOk r
  | [], ln, r, h => by cases h; exact .inl rfl
  | l :: ls, ln, r, h => by
    unfold linesT at h
    cases hl : lineT ln l with
    | error p => rw [hl] at h; cases h
    | ok a =>
      rw [hl] at h
      simp only at h
      cases hr : linesT (ln + 1) ls with
      | error p => rw [hr] at h; cases h
      | ok b => rw [hr] at h; cases h; exact endsOk_append (lineT_ends _ _ _ hl) (linesT_ends ls _ _ hr)
theorem textS_append : ∀ (a b : List Tok), endsOk a → textS (a ++ b) = textS a ++ textS b
  | [], b, _ => rfl
  | [t], b, h => by
    have ht : t.kind = 6 := by
      rcases h with h | ⟨r, u, h, hu⟩
      · cases h
      · cases r with
        | nil => cases h; exact hu
        | cons x r => simp at h
    show textS (t :: b) = textS [t] ++ textS b
    have e1 : ∀ r : List Tok, textS (t :: r) = [10] ++ textS r := fun r => by
      show (if t.kind = 6 then [10] else _) ++ textS r = _
      rw [if_pos ht]
    rw [e1, e1]
    show [10] ++ textS b = [10] ++ [] ++ textS b
    simp
  | t :: u :: a, b, h => by
    have h2 : endsOk (u :: a) := by
      rcases h with h | ⟨r, v, h, hv⟩
      · cases h
      · cases r with
        | nil => simp at h
        | cons x r => simp only [List.cons_append, List.cons.injEq] at h; exact .inr ⟨r, v, h.2, hv⟩
    have ih := textS_append (u :: a) b h2
    show textS (t :: (u :: a ++ b)) = _
    have e1 : textS (t :: (u :: a ++ b)) = (if t.kind = 6 then [10] else t.text ++ (if t.kind = 1 then [58] else []) ++ (if u.kind = 6 then [] else [32])) ++ textS (u :: a ++ b) := rfl
    have e2 : textS (t :: u :: a) = (if t.kind = 6 then [10] else t.text ++ (if t.kind = 1 then [58] else []) ++ (if u.kind = 6 then [] else [32])) ++ textS (u :: a) := rfl
    rw [e1, e2, ih]; simp only [List.append_assoc]
end Go.Proofs.YthnfkecbgfcipaaDoor
