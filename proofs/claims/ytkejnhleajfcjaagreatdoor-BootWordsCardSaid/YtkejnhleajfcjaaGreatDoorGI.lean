/- Several texts in one: LexSpec, LexNum, LexCut, LexCutP, LexCutS, LexPu, LexSmall, LexLines, LexRGo, LexIter, LexRange. -/
import Derived.Test.YtkejnhleajfcjaaGreatDoorGH
import Derived.Test.YtkejnhleajfcjaaGreatDoorGA
import Derived.Lib.ParseIntB
import Derived.Lib.ItoaNum
import Derived.Shelf.Strings.Cut
import Derived.Test.YtkejnhleajfcjaaGreatDoorProg
import Derived.Shelf.Small.Wraps
import Derived.Shelf.Pu.ParseUintPublic10
import Derived.Shelf.Strconv.Itoa3
import Derived.WalkSmall
import Derived.Lib.IndexMore
import Derived.RangeFuncNested
import Derived.RangeFuncBound
import Derived.RangeFuncCalls
import Derived.RangeFuncLeaves
import Derived.Shelf.Abstract
import Derived.Shelf.RegionOpen
import Derived.OwnWalkIn
import Derived.TacticsInMore
import Derived.LoopNIn
import Derived.LoopIn
import Derived.RegionIn
/- Sources, their lines, their words and their tokens, in plain Lean. No function of the program is walked here. -/
namespace Go.Proofs.YtkejnhleajfcjaaGreatDoor
open Go.RowKit
set_option linter.unusedVariables false
def whiteP (c : Int) : Prop := c = 32 ∨ c = 9 ∨ c = 13
instance (c : Int) : Decidable (whiteP c) := by unfold whiteP; infer_instance
/-- A token. -/
structure Tok where
  kind : Nat
  text : List UInt8
  n : Nat
  line : Nat
  col : Nat
/-- What digits come to. -/
def valS (l : List UInt8) : Nat := l.foldl (fun a c => 10 * a + (c.toNat - 48)) 0
def head48 : List UInt8 → Bool
  | c :: _ => decide (c.toNat = 48)
  | [] => false
/-- Are they the digits of a number of at most so much? -/
def numOk (most : Nat) (s : List UInt8) : Bool := !s.isEmpty && alldB s && !(head48 s && decide (1 < s.length)) && decide (valS s ≤ most)
def endsColon (s : List UInt8) : Bool := match s.getLast? with
  | some c => decide (c.toNat = 58)
  | none => false
def begins (k : Nat) : List UInt8 → Bool
  | c :: _ => decide (c.toNat = k)
  | [] => false
def numT (s : List UInt8) : Option Nat :=
  if begins 45 s then (if numOk 2147483648 s.tail && decide (0 < valS s.tail) then some (4294967296 - valS s.tail) else none)
  else if numOk 4294967295 s then some (valS s) else none
/-- A word's kind, text and number. -/
def tokB (s : List UInt8) : Option (Nat × List UInt8 × Nat) :=
  if s = [123] then some (4, s, 0) else if s = [125] then some (5, s, 0)
  else if begins 118 s && numOk 4095 s.tail then some (2, s, valS s.tail)
  else match numT s with
    | some n => some (3, s, n)
    | none => if endsColon s && nameB s.dropLast then some (1, s.dropLast, 0) else if nameB s then some (0, s, 0) else none
/-- A source's lines. -/
def linesS : List UInt8 → List (List UInt8)
  | [] => []
  | c :: r => if c.toNat = 10 then [] :: linesS r else match linesS r with
    | [] => [[c]]
    | l :: ls => (c :: l) :: ls
def nonw (c : UInt8) : Bool := !decide (whiteP c.toNat)
/-- A line's words, and where they begin. -/
def wordsS : Nat → List UInt8 → List (Nat × List UInt8)
  | _, [] => []
  | at', c :: r => if nonw c then
      (match r with
       | [] => [(at', [c])]
       | d :: r' => if nonw d then (match wordsS (at' + 1) r with
          | [] => [(at', [c])]
          | (_, w) :: ws => (at', c :: w) :: ws) else (at', [c]) :: wordsS (at' + 1) r)
    else wordsS (at' + 1) r
/-- The tokens of words, or the place of the first that is none. -/
def toksW (ln : Nat) : List (Nat × List UInt8) → Except (Nat × Nat) (List Tok)
  | [] => .ok []
  | (a, w) :: ws => match tokB w with
    | none => .error (ln, a + 1)
    | some (k, t, n) => match toksW ln ws with
      | .ok r => .ok (⟨k, t, n, ln, a + 1⟩ :: r)
      | .error p => .error p
def lineT (ln : Nat) (line : List UInt8) : Except (Nat × Nat) (List Tok) := match wordsS 0 line with
  | [] => .ok []
  | (a, w) :: ws => if begins 35 w then .ok [] else match toksW ln ((a, w) :: ws) with
    | .ok r => .ok (r ++ [⟨6, [], 0, ln, line.length + 1⟩])
    | .error p => .error p
def linesT : Nat → List (List UInt8) → Except (Nat × Nat) (List Tok)
  | _, [] => .ok []
  | ln, l :: ls => match lineT ln l with
    | .error p => .error p
    | .ok a => match linesT (ln + 1) ls with
      | .ok b => .ok (a ++ b)
      | .error p => .error p
def lexS (src : List UInt8) : Except (Nat × Nat) (List Tok) := linesT 1 (linesS src)
/-- Tokens as a text. -/
def textS : List Tok → List UInt8
  | [] => []
  | t :: r => (if t.kind = 6 then [10] else t.text ++ (if t.kind = 1 then [58] else []) ++ (match r with
    | [] => []
    | u :: _ => if u.kind = 6 then [] else [32])) ++ textS r
end Go.Proofs.YtkejnhleajfcjaaGreatDoor
/- Digits and what they come to: plain laws. -/
namespace Go.Proofs.YtkejnhleajfcjaaGreatDoor
open Go.RowKit
set_option linter.unusedVariables false
def foldV (a : Nat) (l : List UInt8) : Nat := l.foldl (fun a c => 10 * a + (c.toNat - 48)) a
theorem foldV_cons (a : Nat) (c : UInt8) (l : List UInt8) : foldV a (c :: l) = foldV (10 * a + (c.toNat - 48)) l := by unfold foldV; rw [List.foldl_cons]
theorem foldV_append (a : Nat) (l m : List UInt8) : foldV a (l ++ m) = foldV (foldV a l) m := by unfold foldV; rw [List.foldl_append]
theorem foldV_ge : ∀ (l : List UInt8) (a : Nat), a * 10 ^ l.length ≤ foldV a l
  | [], a => by simp [foldV]
  | c :: l, a => by
    rw [foldV_cons]
    refine Nat.le_trans ?_ (foldV_ge l _)
    rw [List.length_cons, Nat.pow_succ, show a * (10 ^ l.length * 10) = (10 * a) * 10 ^ l.length by rw [Nat.mul_comm (10 ^ l.length) 10, ← Nat.mul_assoc, Nat.mul_comm a 10]]
    exact Nat.mul_le_mul_right _ (Nat.le_add_right _ _)
theorem foldV_self (l : List UInt8) (a : Nat) : a ≤ foldV a l :=
  Nat.le_trans (Nat.le_mul_of_pos_right a (Nat.pow_pos (by decide))) (foldV_ge l a)
theorem alldB_cons (c : UInt8) (l : List UInt8) : alldB (c :: l) = (decide (digP c.toNat) && alldB l) := rfl
theorem digP_nat {c : UInt8} (h : digP (c.toNat : Int)) : 48 ≤ c.toNat ∧ c.toNat ≤ 57 := by unfold digP at h; omega
theorem parse_digits (l : List UInt8) : ∀ (a : Nat), a ≤ 18446744073709551615 → alldB l = true →
    (Lib.parseUintM 18446744073709551615 a l = .ok (foldV a l) ∧ foldV a l ≤ 18446744073709551615) ∨ (Lib.parseUintM 18446744073709551615 a l = .range ∧ 18446744073709551615 < foldV a l) := by
  generalize hM : 18446744073709551615 = M
  induction l with
  | nil => exact fun a ha _ => .inl ⟨rfl, ha⟩
  | cons c l ih =>
    intro a ha h
    rw [alldB_cons, Bool.and_eq_true] at h
    have hc := digP_nat (of_decide_eq_true h.1)
    rw [foldV_cons]
    simp only [Lib.parseUintM]
    rw [if_pos hc]
    have hs := foldV_self l (10 * a + (c.toNat - 48))
    by_cases h1 : 1844674407370955162 ≤ a
    · rw [if_pos h1]
      exact .inr ⟨rfl, by omega⟩
    · rw [if_neg h1]
      by_cases h2 : M < a * 10 + (c.toNat - 48)
      · rw [if_pos h2]
        exact .inr ⟨rfl, by omega⟩
      · rw [if_neg h2, show a * 10 + (c.toNat - 48) = 10 * a + (c.toNat - 48) by omega]
        exact ih _ (by omega) h.2
theorem parse_all (l : List UInt8) (h0 : l ≠ []) (h : alldB l = true) :
    (Lib.parseUintB 64 l = .ok (valS l) ∧ valS l ≤ 18446744073709551615) ∨ (Lib.parseUintB 64 l = .range ∧ 18446744073709551615 < valS l) := by
  have h1 := parse_digits l 0 (Nat.zero_le _) h
  unfold Lib.parseUintB
  rw [if_neg h0]
  exact h1
/-- Without a leading zero a long row of digits is a great number. -/
theorem val_great (c : UInt8) (r : List UInt8) (hd : alldB (c :: r) = true) (hc : c.toNat ≠ 48) : 10 ^ r.length ≤ valS (c :: r) := by
  rw [alldB_cons, Bool.and_eq_true] at hd
  have h1 := digP_nat (of_decide_eq_true hd.1)
  have h2 := foldV_ge r (10 * 0 + (c.toNat - 48))
  refine Nat.le_trans ?_ h2
  exact Nat.le_mul_of_pos_left _ (by omega)
theorem numOk_long (most : Nat) (hm : most < 1000000000000) (s : List UInt8) (h : 12 < s.length) : numOk most s = false := by
  cases s with
  | nil => simp at h
  | cons c r =>
    unfold numOk
    by_cases hd : alldB (c :: r) = true
    · by_cases hc : c.toNat = 48
      · have : decide (1 < (c :: r).length) = true := decide_eq_true (by simp at h ⊢; omega)
        simp [head48, hc]
        intro _ e
        simp [e] at h
      · have h1 := val_great c r hd hc
        have h2 : 10 ^ 12 ≤ 10 ^ r.length := Nat.pow_le_pow_right (by decide) (by simp at h; omega)
        have : decide (valS (c :: r) ≤ most) = false := decide_eq_false (by omega)
        rw [this, Bool.and_false]
    · have : alldB (c :: r) = false := by simpa using hd
      rw [this]; simp
theorem foldV_lt : ∀ (l : List UInt8) (a : Nat), alldB l = true → foldV a l < (a + 1) * 10 ^ l.length
  | [], a, _ => by simp [foldV]
  | c :: l, a, h => by
    rw [alldB_cons, Bool.and_eq_true] at h
    have h1 := digP_nat (of_decide_eq_true h.1)
    rw [foldV_cons]
    refine Nat.lt_of_lt_of_le (foldV_lt l _ h.2) ?_
    rw [List.length_cons, Nat.pow_succ, show (a + 1) * (10 ^ l.length * 10) = (10 * (a + 1)) * 10 ^ l.length by rw [Nat.mul_comm (10 ^ l.length) 10, ← Nat.mul_assoc, Nat.mul_comm (a + 1) 10]]
    exact Nat.mul_le_mul_right _ (by omega)
end Go.Proofs.YtkejnhleajfcjaaGreatDoor
/- The shelf's contract of the library function number 145, laid here by explicit terms (printed by genshelf.py). No condition. -/
namespace Go.Proofs.YtkejnhleajfcjaaGreatDoor
open Go Go.Shelf
set_option linter.unusedVariables false
end Go.Proofs.YtkejnhleajfcjaaGreatDoor
/- The shelf's contract of the library function number 103, laid here by explicit terms (printed by genshelf.py). No condition. -/
namespace Go.Proofs.YtkejnhleajfcjaaGreatDoor
open Go Go.Shelf
set_option linter.unusedVariables false
end Go.Proofs.YtkejnhleajfcjaaGreatDoor
/- The shelf's contract of the library function number 104, laid here by explicit terms (printed by genshelf.py). No condition. -/
namespace Go.Proofs.YtkejnhleajfcjaaGreatDoor
open Go Go.Shelf
set_option linter.unusedVariables false
end Go.Proofs.YtkejnhleajfcjaaGreatDoor
/- The shelf's contract of the library function number 14, laid here by explicit terms (printed by genshelf.py). No condition. -/
namespace Go.Proofs.YtkejnhleajfcjaaGreatDoor
open Go Go.Shelf
set_option linter.unusedVariables false
end Go.Proofs.YtkejnhleajfcjaaGreatDoor
/- The lexer's small functions: white, the library's cuts in plain words, number. -/
namespace Go.Proofs.YtkejnhleajfcjaaGreatDoor
open Go.RowKit
set_option linter.unusedVariables false
set_option linter.unusedSimpArgs false
theorem drewN_below (w : World) (n : Nat) : Below w.heap.size w (w.drewN n) := ⟨rfl, rfl, rfl, Nat.le_refl _, fun _ _ => rfl⟩
end Go.Proofs.YtkejnhleajfcjaaGreatDoor
/- Lines and words of sources: plain laws. -/
namespace Go.Proofs.YtkejnhleajfcjaaGreatDoor
open Go.RowKit
set_option linter.unusedVariables false
theorem linesS_eq (c : UInt8) (r : List UInt8) : linesS (c :: r) = if c.toNat = 10 then [] :: linesS r else match linesS r with
    | [] => [[c]]
    | l :: ls => (c :: l) :: ls := rfl
theorem linesS_one : ∀ (a : List UInt8), a ≠ [] → (∀ c ∈ a, c.toNat ≠ 10) → linesS a = [a]
  | [], h, _ => (h rfl).elim
  | c :: r, _, hn => by
    have hc : c.toNat ≠ 10 := hn c (by simp)
    rw [linesS_eq, if_neg hc]
    cases r with
    | nil => rfl
    | cons d r => rw [linesS_one (d :: r) (by simp) (fun x hx => hn x (by simp_all))]
theorem linesS_cons : ∀ (a b : List UInt8), (∀ c ∈ a, c.toNat ≠ 10) → linesS (a ++ 10 :: b) = a :: linesS b
  | [], b, _ => by show linesS (10 :: b) = _; rw [linesS_eq, if_pos (by decide)]
  | c :: r, b, hn => by
    have hc : c.toNat ≠ 10 := hn c (by simp)
    show linesS (c :: (r ++ 10 :: b)) = _
    rw [linesS_eq, if_neg hc, linesS_cons r b (fun x hx => hn x (by simp_all))]
theorem index_ten : ∀ (s : List UInt8), (∃ a b, s = a ++ 10 :: b ∧ (∀ c ∈ a, c.toNat ≠ 10) ∧ Lib.index s [10] = a.length) ∨ ((∀ c ∈ s, c.toNat ≠ 10) ∧ Lib.index s [10] = -1)
  | [] => .inr ⟨by simp, rfl⟩
  | c :: r => by
    by_cases hc : c.toNat = 10
    · have hc2 : c = 10 := UInt8.toNat_inj.1 hc
      subst hc2
      exact .inl ⟨[], r, rfl, by simp, by unfold Lib.index; rfl⟩
    · have hp : ([10] : List UInt8).isPrefixOf (c :: r) = false := by
        have : (10 == c) = false := by rw [beq_eq_false_iff_ne]; rintro rfl; exact hc rfl
        simp [List.isPrefixOf, this]
      rcases index_ten r with ⟨a, b, h1, h2, h3⟩ | ⟨h1, h2⟩
      · refine .inl ⟨c :: a, b, by simp [h1], fun x hx => ?_, ?_⟩
        · rcases List.mem_cons.1 hx with rfl | hx
          · exact hc
          · exact h2 x hx
        · unfold Lib.index
          rw [hp, h3]
          have : ((a.length : Int) == -1) = false := by rw [beq_eq_false_iff_ne]; omega
          simp [this]
      · refine .inr ⟨fun x hx => ?_, ?_⟩
        · rcases List.mem_cons.1 hx with rfl | hx
          · exact hc
          · exact h1 x hx
        · unfold Lib.index
          rw [hp, h2]
          rfl
/-- What strings.Cut makes of a source. -/
theorem cut_ten (s : List UInt8) : (∃ a b, s = a ++ 10 :: b ∧ (∀ c ∈ a, c.toNat ≠ 10) ∧ Lib.cut s [10] = (a, b, true)) ∨ ((∀ c ∈ s, c.toNat ≠ 10) ∧ Lib.cut s [10] = (s, [], false)) := by
  rcases index_ten s with ⟨a, b, h1, h2, h3⟩ | ⟨h1, h2⟩
  · refine .inl ⟨a, b, h1, h2, ?_⟩
    unfold Lib.cut
    rw [h3, if_pos (by omega), h1]
    simp
  · refine .inr ⟨h1, ?_⟩
    unfold Lib.cut
    rw [h2, if_neg (by omega)]
/-- The first line and the others. -/
theorem lines_cut (s : List UInt8) (h : s ≠ []) : linesS s = (Lib.cut s [10]).1 :: linesS (Lib.cut s [10]).2.1 ∧ (Lib.cut s [10]).2.1.length < s.length ∧ (Lib.cut s [10]).1.length ≤ s.length := by
  rcases cut_ten s with ⟨a, b, h1, h2, h3⟩ | ⟨h1, h2⟩
  · rw [h3, h1]; exact ⟨linesS_cons a b h2, by simp; omega, by simp⟩
  · rw [h2]; exact ⟨linesS_one s h h1, by simp; exact List.length_pos_iff.2 h, by simp⟩
theorem wordsS_eq (k : Nat) (c : UInt8) (r : List UInt8) : wordsS k (c :: r) = if nonw c then
      (match r with
       | [] => [(k, [c])]
       | d :: r' => if nonw d then (match wordsS (k + 1) r with
          | [] => [(k, [c])]
          | (_, w) :: ws => (k, c :: w) :: ws) else (k, [c]) :: wordsS (k + 1) r)
    else wordsS (k + 1) r := by
  cases r <;> rfl
theorem wordsS_white (k : Nat) (c : UInt8) (r : List UInt8) (h : nonw c = false) : wordsS k (c :: r) = wordsS (k + 1) r := by
  rw [wordsS_eq, h]; simp
/-- Does a text begin with none of a word's bytes? -/
def ends (r : List UInt8) : Prop := r = [] ∨ ∃ c r', r = c :: r' ∧ nonw c = false
theorem wordsS_word : ∀ (w : List UInt8) (k : Nat) (r : List UInt8), w ≠ [] → (∀ c ∈ w, nonw c = true) → ends r → wordsS k (w ++ r) = (k, w) :: wordsS (k + w.length) r
  | [], _, _, h, _, _ => (h rfl).elim
  | [c], k, r, _, hn, he => by
    have hc := hn c (by simp)
    show wordsS k (c :: r) = _
    rw [wordsS_eq, if_pos hc]
    rcases he with rfl | ⟨d, r', rfl, hd⟩
    · rfl
    · simp only [hd]
      rfl
  | c :: d :: w, k, r, _, hn, he => by
    have hc := hn c (by simp)
    have hd := hn d (by simp)
    have ih := wordsS_word (d :: w) (k + 1) r (by simp) (fun x hx => hn x (by simp_all)) he
    show wordsS k (c :: d :: (w ++ r)) = _
    rw [wordsS_eq, if_pos hc]
    simp only
    rw [if_pos hd]
    rw [show d :: (w ++ r) = (d :: w) ++ r from rfl, ih]
    simp only [List.length_cons]
    rw [show k + 1 + (w.length + 1) = k + (w.length + 1 + 1) by omega]
end Go.Proofs.YtkejnhleajfcjaaGreatDoor
/- A source gone over byte by byte comes to the same tokens as by lines and words: plain laws. -/
namespace Go.Proofs.YtkejnhleajfcjaaGreatDoor
open Go.RowKit
set_option linter.unusedVariables false
def inword (c : UInt8) : Bool := nonw c && decide (c.toNat ≠ 10)
def endT (some' : Bool) (ln col : Nat) : List Tok := if some' then [⟨6, [], 0, ln, col⟩] else []
def joinE (a : List Tok) : Except (Nat × Nat) (List Tok) → Except (Nat × Nat) (List Tok)
  | .ok b => .ok (a ++ b)
  | .error p => .error p
theorem joinE_nil (x : Except (Nat × Nat) (List Tok)) : joinE [] x = x := by cases x <;> rfl
theorem joinE_joinE (a b : List Tok) (x : Except (Nat × Nat) (List Tok)) : joinE a (joinE b x) = joinE (a ++ b) x := by cases x <;> simp [joinE]
def rgo (ln col : Nat) (some' nothing inw : Bool) : List UInt8 → Except (Nat × Nat) (List Tok)
  | [] => .ok (endT some' ln col)
  | c :: r => if c.toNat = 10 then joinE (endT some' ln col) (rgo (ln + 1) 1 false false false r)
    else if (!nonw c || nothing) || inw then rgo ln (col + 1) some' nothing (nonw c) r
    else if !some' && decide (c.toNat = 35) then rgo ln (col + 1) some' true (nonw c) r
    else match tokB ((c :: r).takeWhile inword) with
      | none => .error (ln, col)
      | some (k, t, n) => joinE [⟨k, t, n, ln, col⟩] (rgo ln (col + 1) true nothing (nonw c) r)
theorem rgo_cons (ln col : Nat) (some' nothing inw : Bool) (c : UInt8) (r : List UInt8) : rgo ln col some' nothing inw (c :: r) = if c.toNat = 10 then joinE (endT some' ln col) (rgo (ln + 1) 1 false false false r)
    else if (!nonw c || nothing) || inw then rgo ln (col + 1) some' nothing (nonw c) r
    else if !some' && decide (c.toNat = 35) then rgo ln (col + 1) some' true (nonw c) r
    else match tokB ((c :: r).takeWhile inword) with
      | none => .error (ln, col)
      | some (k, t, n) => joinE [⟨k, t, n, ln, col⟩] (rgo ln (col + 1) true nothing (nonw c) r) := rfl
/-- What is left: nothing, or another line. -/
def tailP (t : List UInt8) : Prop := t = [] ∨ ∃ b, t = 10 :: b
theorem rgo_tail (ln col : Nat) (s a b c d : Bool) {t : List UInt8} (h : tailP t) : rgo ln col s a b t = rgo ln col s c d t := by
  rcases h with rfl | ⟨b, rfl⟩
  · rfl
  · rw [rgo_cons, rgo_cons, if_pos (by decide), if_pos (by decide)]
theorem rgo_in (ln : Nat) (s a : Bool) (r : List UInt8) : ∀ (w : List UInt8) (col : Nat), (∀ c ∈ w, inword c = true) → rgo ln col s a true (w ++ r) = rgo ln (col + w.length) s a true r
  | [], _, _ => rfl
  | c :: w, col, h => by
    have hc := h c (by simp)
    simp only [inword, Bool.and_eq_true, decide_eq_true_eq] at hc
    show rgo ln col s a true (c :: (w ++ r)) = _
    rw [rgo_cons, if_neg hc.2, if_pos (by simp), hc.1, rgo_in ln s a r w (col + 1) (fun x hx => h x (by simp_all))]
    simp only [List.length_cons]
    rw [show col + 1 + w.length = col + (w.length + 1) by omega]
theorem rgo_no (ln : Nat) (s : Bool) {t : List UInt8} (ht : tailP t) : ∀ (a : List UInt8) (col : Nat) (inw : Bool), (∀ c ∈ a, c.toNat ≠ 10) → rgo ln col s true inw (a ++ t) = rgo ln (col + a.length) s false false t
  | [], col, inw, _ => rgo_tail _ _ _ _ _ _ _ ht
  | c :: a, col, inw, h => by
    show rgo ln col s true inw (c :: (a ++ t)) = _
    rw [rgo_cons, if_neg (h c (by simp)), if_pos (by simp), rgo_no ln s ht a (col + 1) _ (fun x hx => h x (by simp_all))]
    simp only [List.length_cons]
    rw [show col + 1 + a.length = col + (a.length + 1) by omega]
theorem tw_all (p : UInt8 → Bool) : ∀ (l : List UInt8), ∀ x ∈ l.takeWhile p, p x = true
  | [], x, h => by simp at h
  | c :: l, x, h => by
    cases hc : p c with
    | false => simp [List.takeWhile, hc] at h
    | true =>
      simp only [List.takeWhile, hc, List.mem_cons] at h
      rcases h with rfl | h
      · exact hc
      · exact tw_all p l x h
theorem dw_head (p : UInt8 → Bool) : ∀ (l : List UInt8) (d : UInt8) (r : List UInt8), l.dropWhile p = d :: r → p d = false
  | [], _, _, h => by simp at h
  | c :: l, d, r, h => by
    cases hc : p c with
    | false => simp only [List.dropWhile, hc] at h; cases h; exact hc
    | true => simp only [List.dropWhile, hc] at h; exact dw_head p l d r h
/-- A word at the head of a line. -/
theorem word_split (c : UInt8) (r : List UInt8) (hc : nonw c = true) (hn : ∀ x ∈ c :: r, x.toNat ≠ 10) :
    ∃ w r', c :: r = w ++ r' ∧ (∃ w', w = c :: w') ∧ (∀ x ∈ w, inword x = true) ∧ (∀ x ∈ r', x.toNat ≠ 10) ∧ ends r' := by
  refine ⟨(c :: r).takeWhile nonw, (c :: r).dropWhile nonw, (List.takeWhile_append_dropWhile).symm, ⟨r.takeWhile nonw, by simp [hc]⟩, fun x hx => ?_, fun x hx => ?_, ?_⟩
  · have h1 := tw_all nonw _ x hx
    have h2 := hn x ((List.takeWhile_sublist _).mem hx)
    simp [inword, h1, h2]
  · exact hn x ((List.dropWhile_sublist _).mem hx)
  · cases hd : (c :: r).dropWhile nonw with
    | nil => exact .inl rfl
    | cons d r' =>
      exact .inr ⟨d, r', rfl, dw_head nonw _ d r' hd⟩
theorem take_word (w r t : List UInt8) (hw : ∀ x ∈ w, inword x = true) (he : ends r) (hnr : ∀ x ∈ r, x.toNat ≠ 10) (ht : tailP t) : (w ++ (r ++ t)).takeWhile inword = w := by
  rw [List.takeWhile_append_of_pos hw]
  have : (r ++ t).takeWhile inword = [] := by
    rcases he with rfl | ⟨c, r', rfl, hc⟩
    · rcases ht with rfl | ⟨b, rfl⟩
      · rfl
      · rfl
    · simp [inword, hc]
  rw [this, List.append_nil]
theorem rgo_some (ln : Nat) {t : List UInt8} (ht : tailP t) : ∀ (n : Nat) (a : List UInt8) (k : Nat) (inw : Bool), a.length ≤ n → (∀ c ∈ a, c.toNat ≠ 10) → (inw = true → ends a) →
    rgo ln (k + 1) true false inw (a ++ t) = match toksW ln (wordsS k a) with
      | .error p => .error p
      | .ok ts => joinE ts (rgo ln (k + a.length + 1) true false false t)
  | _, [], k, inw, _, _, _ => by
    show rgo ln (k + 1) true false inw t = joinE [] _
    rw [joinE_nil]; exact rgo_tail _ _ _ _ _ _ _ ht
  | 0, c :: a, _, _, h, _, _ => by simp at h
  | n + 1, c :: a, k, inw, hl, hn, hi => by
    have hc10 := hn c (by simp)
    cases hw : nonw c with
    | false =>
      show rgo ln (k + 1) true false inw (c :: (a ++ t)) = _
      rw [rgo_cons, if_neg hc10, if_pos (by simp [hw]), wordsS_white k c a hw, hw, rgo_some ln ht n a (k + 1) false (by simp at hl; omega) (fun x hx => hn x (by simp_all)) (by simp)]
      simp only [List.length_cons]
      rw [show k + 1 + a.length = k + (a.length + 1) by omega]
    | true =>
      have hinw : inw = false := by
        cases inw with
        | false => rfl
        | true => rcases hi rfl with h | ⟨d, r', h, hd⟩
                  · cases h
                  · cases h; rw [hw] at hd; cases hd
      subst hinw
      obtain ⟨w, r, e, ⟨w', e2⟩, h1, h2, h3⟩ := word_split c a hw hn
      rw [e]
      have hws : wordsS k (w ++ r) = (k, w) :: wordsS (k + w.length) r := wordsS_word w k r (by simp [e2]) (fun x hx => by have := h1 x hx; simp [inword] at this; exact this.1) h3
      have hlen : (w ++ r).length ≤ n + 1 := by rw [← e]; exact hl
      rw [hws, List.append_assoc]
      have htk := take_word w r t h1 h3 h2 ht
      have hstep : ∀ (X : List UInt8), rgo ln (k + 1) true false false (c :: X) = match tokB ((c :: X).takeWhile inword) with
          | none => .error (ln, k + 1)
          | some (kk, tx, nn) => joinE [⟨kk, tx, nn, ln, k + 1⟩] (rgo ln (k + 1 + 1) true false true X) := fun X => by
        rw [rgo_cons, if_neg hc10, if_neg (by simp [hw]), if_neg (by simp), hw]
      have hcw : w ++ (r ++ t) = c :: (w' ++ (r ++ t)) := by rw [e2]; rfl
      rw [hcw, hstep, ← hcw, htk]
      unfold toksW
      cases htb : tokB w with
      | none => rfl
      | some x =>
        obtain ⟨kk, tx, nn⟩ := x
        simp only
        have hwl : w.length = w'.length + 1 := by rw [e2]; rfl
        rw [rgo_in ln true false (r ++ t) w' (k + 1 + 1) (fun x hx => h1 x (by rw [e2]; simp [hx])), show k + 1 + 1 + w'.length = k + w.length + 1 by omega,
          rgo_some ln ht n r (k + w.length) true (by rw [List.length_append] at hlen; omega) h2 (fun _ => h3)]
        cases toksW ln (wordsS (k + w.length) r) with
        | error p => rfl
        | ok ts =>
          simp only
          rw [joinE_joinE, List.length_append, show k + w.length + r.length + 1 = k + (w.length + r.length) + 1 by omega]
          rfl
theorem rgo_line (ln : Nat) {t : List UInt8} (ht : tailP t) : ∀ (a : List UInt8) (k : Nat), (∀ c ∈ a, c.toNat ≠ 10) →
    rgo ln (k + 1) false false false (a ++ t) = match wordsS k a with
      | [] => rgo ln (k + a.length + 1) false false false t
      | (p, w) :: ws => if begins 35 w then rgo ln (k + a.length + 1) false false false t else match toksW ln ((p, w) :: ws) with
        | .error p => .error p
        | .ok ts => joinE ts (rgo ln (k + a.length + 1) true false false t)
  | [], k, _ => rfl
  | c :: a, k, hn => by
    have hc10 := hn c (by simp)
    cases hw : nonw c with
    | false =>
      show rgo ln (k + 1) false false false (c :: (a ++ t)) = _
      rw [rgo_cons, if_neg hc10, if_pos (by simp [hw]), wordsS_white k c a hw, hw, rgo_line ln ht a (k + 1) (fun x hx => hn x (by simp_all))]
      simp only [List.length_cons]
      rw [show k + 1 + a.length = k + (a.length + 1) by omega]
    | true =>
      have e := rgo_some ln ht (c :: a).length (c :: a) k false (Nat.le_refl _) hn (by simp)
      obtain ⟨w, r, e1, ⟨w', e2⟩, h1, h2, h3⟩ := word_split c a hw hn
      have hws : wordsS k (c :: a) = (k, w) :: wordsS (k + w.length) r := by
        rw [e1]; exact wordsS_word w k r (by simp [e2]) (fun x hx => by have := h1 x hx; simp [inword] at this; exact this.1) h3
      rw [hws] at e ⊢
      have hb : begins 35 w = decide (c.toNat = 35) := by rw [e2]; rfl
      simp only [hb]
      by_cases h35 : c.toNat = 35
      · rw [if_pos (by simp [h35])]
        show rgo ln (k + 1) false false false (c :: (a ++ t)) = _
        rw [rgo_cons, if_neg hc10, if_neg (by simp [hw]), if_pos (by simp [h35]), rgo_no ln false ht a (k + 1 + 1) _ (fun x hx => hn x (by simp_all))]
        simp only [List.length_cons]
        rw [show k + 1 + 1 + a.length = k + (a.length + 1) + 1 by omega]
      · rw [if_neg (by simp [h35]), ← e]
        show rgo ln (k + 1) false false false (c :: (a ++ t)) = rgo ln (k + 1) true false false (c :: (a ++ t))
        rw [rgo_cons, rgo_cons, if_neg hc10, if_neg hc10]
        simp [hw, h35]
theorem rgo_lines : ∀ (n : Nat) (s : List UInt8) (ln : Nat), s.length ≤ n → rgo ln 1 false false false s = linesT ln (linesS s)
  | _, [], ln, _ => rfl
  | 0, c :: s, _, h => by simp at h
  | n + 1, c :: s, ln, h => by
    rcases cut_ten (c :: s) with ⟨a, b, e, hn, _⟩ | ⟨hn, _⟩
    · rw [e, linesS_cons a b hn, show (1 : Nat) = 0 + 1 from rfl, rgo_line ln (.inr ⟨b, rfl⟩) a 0 hn]
      have ih : ∀ s', rgo ln (0 + a.length + 1) s' false false (10 :: b) = joinE (endT s' ln (a.length + 1)) (linesT (ln + 1) (linesS b)) := fun s' => by
        rw [rgo_cons, if_pos (by decide), rgo_lines n b (ln + 1) (by have := congrArg List.length e; simp at this h; omega), Nat.zero_add]
      show _ = linesT ln (a :: linesS b)
      unfold linesT lineT
      cases hws : wordsS 0 a with
      | nil => simp only [ih]; unfold endT; rw [if_neg (by simp), joinE_nil]; cases linesT (ln + 1) (linesS b) <;> rfl
      | cons x ws =>
        obtain ⟨p, w⟩ := x
        simp only [ih]
        cases hb : begins 35 w with
        | true => simp only [if_true]; unfold endT; rw [if_neg (by simp), joinE_nil]; cases linesT (ln + 1) (linesS b) <;> rfl
        | false =>
          simp only [Bool.false_eq_true, if_false]
          cases toksW ln ((p, w) :: ws) with
          | error q => rfl
          | ok ts =>
            simp only
            rw [joinE_joinE]
            unfold endT
            rw [if_pos rfl]
            cases linesT (ln + 1) (linesS b) <;> rfl
    · rw [linesS_one (c :: s) (by simp) hn]
      have e0 : c :: s = (c :: s) ++ [] := by simp
      rw [show (1 : Nat) = 0 + 1 from rfl, show rgo ln (0 + 1) false false false (c :: s) = rgo ln (0 + 1) false false false ((c :: s) ++ []) by rw [List.append_nil], rgo_line ln (.inl rfl) (c :: s) 0 hn]
      have ih : ∀ s', rgo ln (0 + (c :: s).length + 1) s' false false [] = .ok (endT s' ln ((c :: s).length + 1)) := fun s' => by rw [Nat.zero_add]; rfl
      unfold linesT lineT
      cases hws : wordsS 0 (c :: s) with
      | nil => simp only [ih]; rfl
      | cons x ws =>
        obtain ⟨p, w⟩ := x
        simp only [ih]
        cases hb : begins 35 w with
        | true => simp only [if_true]; rfl
        | false =>
          simp only [Bool.false_eq_true, if_false]
          cases toksW ln ((p, w) :: ws) with
          | error q => rfl
          | ok ts => simp [joinE, endT, linesT]
theorem rgo_lexS (s : List UInt8) : rgo 1 1 false false false s = lexS s := rgo_lines s.length s 1 (Nat.le_refl _)
end Go.Proofs.YtkejnhleajfcjaaGreatDoor
/- The lexer's two iterators: a source's lines, a line's words. -/
namespace Go.Proofs.YtkejnhleajfcjaaGreatDoor
open Go.RowKit Go.Shelf
set_option linter.unusedVariables false
set_option linter.unusedSimpArgs false
attribute [local go_sem] Oper.semAt_some
theorem data_mk (l : List UInt8) : (⟨l.toArray⟩ : ByteArray).data.toList = l := rfl
/-- What a round that goes on leaves of the iterator's own variable. -/
def KeptAt (b : Nat) (w w' : World) : Prop := (∀ v, w.cell? ⟨b, 0, none⟩ = some v → w'.cell? ⟨b, 0, none⟩ = some v) ∧ (w.frozen? ⟨b, 0, none⟩ = false → w'.frozen? ⟨b, 0, none⟩ = false)
theorem ba_index (l : List UInt8) (i : Nat) (h : i < (⟨l.toArray⟩ : ByteArray).size) : (⟨l.toArray⟩ : ByteArray)[i] = l[i]'(by simpa [ByteArray.size] using h) := rfl
theorem ba_slice (l : List UInt8) (a b : Nat) : (⟨l.toArray⟩ : ByteArray).extract a b = ⟨((l.drop a).take (b - a)).toArray⟩ := by
  apply ByteArray.ext
  rw [ByteArray.data_extract]
  simp
end Go.Proofs.YtkejnhleajfcjaaGreatDoor
/- Ranges over functions, met by hand: the statement, and one round. No function of the program is walked here. -/
namespace Go.Proofs.YtkejnhleajfcjaaGreatDoor
open Go.RowKit Go.Shelf
set_option linter.unusedVariables false
/-- The record of a loop. -/
def RecOf (rec : LoopState → Option Code → Loop) (fn : FuncId) (tmps : Array Value) (ps : Array Tmp) (assign body : Code) (D : Nat) : Prop :=
  ∀ st pe, rec st pe = { state := st, pending := pe, fn := fn, tmps := tmps, params := ps, assign := assign, body := body, defers := D }
theorem range_outer {F : Fence} {n : Nat} {P : Program} {g : Operand} {ps : Array Tmp} {assign body : Code} {Q : Exit → Act → World → Prop} {a : Act} {w : World} (hro : F.round = none) (h1 : 1 ≤ n) {gf : Nat} {lb : Array Value}
    (hg : a.eval g = .func (.func gf) #[] lb) (hF : F.fn gf) (eg : ∀ args w, (callFunc gf args).run P w = .ok (.enter gf args) w)
    (h : ∀ fn rec, F.fn fn → RecOf rec fn a.tmps ps assign body w.heap.size →
      CallsIn F (n - 1) P gf (#[.func (.yield (w.heap.size + 1)) #[] #[]] ++ lb) ((w.alloc (.deferred (some []))).alloc (.loop (rec .ready none))) (rangePost F n P (w.heap.size + 1) Q { a with defers := { target := .collected w.heap.size, args := #[] } :: a.defers })) :
    (Code.rangeFunc g ps assign body).wpIn F n P Q a w := by
  refine wpIn_rangeFunc fun fn hfn => ?_
  rw [hro]
  have h2 := h fn (fun st pe => { state := st, pending := pe, fn := fn, tmps := a.tmps, params := ps, assign := assign, body := body, defers := w.heap.size }) hfn (fun _ _ => rfl)
  obtain ⟨W1, hW1⟩ : ∃ W1, ((w.alloc (.deferred (some []))).alloc (.loop { state := .ready, pending := none, fn := fn, tmps := a.tmps, params := ps, assign := assign, body := body, defers := w.heap.size })) = W1 := ⟨_, rfl⟩
  refine ⟨w.heap.size + 1, [{ target := .collected w.heap.size, args := #[] }], W1, { target := .fn (.func gf) lb, args := #[.func (.yield (w.heap.size + 1)) #[] #[]] }, W1, gf, #[.func (.yield (w.heap.size + 1)) #[] #[]] ++ lb, W1, ?_, ?_, fun f' hf' => ?_, ?_, fun _ => h1, ?_⟩
  · rw [← hW1]; exact run_enterLoop_outer _ _ _ _ _
  · simp only [resolve, hg]
    simp [go_sem]
  · simp [Target.leads] at hf'
    subst hf'
    exact hF
  · simp [invoke, go_sem, eg]
  · rw [← hW1]; exact h2
theorem range_inner {F : Fence} {n : Nat} {P : Program} {g : Operand} {ps : Array Tmp} {assign body : Code} {Q : Exit → Act → World → Prop} {a : Act} {w : World} {l₀ : Nat} {r₀ : Loop} (hro : F.round = some l₀) (hl₀ : w.heap[l₀]? = some (.loop r₀)) (h1 : 1 ≤ n) {gf : Nat} {lb : Array Value}
    (hg : a.eval g = .func (.func gf) #[] lb) (hF : F.fn gf) (eg : ∀ args w, (callFunc gf args).run P w = .ok (.enter gf args) w)
    (h : ∀ fn rec, F.fn fn → RecOf rec fn a.tmps ps assign body r₀.defers →
      CallsIn F (n - 1) P gf (#[.func (.yield w.heap.size) #[] #[]] ++ lb) (w.alloc (.loop (rec .ready none))) (rangePost F n P w.heap.size Q a)) :
    (Code.rangeFunc g ps assign body).wpIn F n P Q a w := by
  refine wpIn_rangeFunc fun fn hfn => ?_
  rw [hro]
  have h2 := h fn (fun st pe => { state := st, pending := pe, fn := fn, tmps := a.tmps, params := ps, assign := assign, body := body, defers := r₀.defers }) hfn (fun _ _ => rfl)
  obtain ⟨W1, hW1⟩ : ∃ W1, (w.alloc (.loop { state := .ready, pending := none, fn := fn, tmps := a.tmps, params := ps, assign := assign, body := body, defers := r₀.defers })) = W1 := ⟨_, rfl⟩
  refine ⟨w.heap.size, [], W1, { target := .fn (.func gf) lb, args := #[.func (.yield w.heap.size) #[] #[]] }, W1, gf, #[.func (.yield w.heap.size) #[] #[]] ++ lb, W1, ?_, ?_, fun f' hf' => ?_, ?_, fun _ => h1, ?_⟩
  · rw [← hW1]; exact run_enterLoop_inner hl₀ _ _ _ _ _
  · simp only [resolve, hg]
    simp [go_sem]
  · simp [Target.leads] at hf'
    subst hf'
    exact hF
  · simp [invoke, go_sem, eg]
  · rw [← hW1]; exact h2
/-- How a round may end: R says of what world. -/
def roundEnd (rec : LoopState → Option Code → Loop) (l : Nat) (R : Ending → World → Prop) : Exit → Act → World → Prop
  | .normal, _, w => w.heap[l]? = some (.loop (rec .busy none)) ∧ R (.returned (.bool true)) (w.putObj l (.loop (rec .ready none)))
  | .ret, _, w => w.heap[l]? = some (.loop (rec .busy none)) ∧ R (.returned (.bool false)) (w.putObj l (.loop (rec .done (some .ret))))
  | .exit id, _, w => w.heap[l]? = some (.loop (rec .busy none)) ∧ R (.returned (.bool false)) (w.putObj l (.loop (rec .done (some (.exit id)))))
  | .goto t, _, w => w.heap[l]? = some (.loop (rec .busy none)) ∧ R (.returned (.bool false)) (w.putObj l (.loop (rec .done (some (.goto t)))))
  | .panic _, _, _ => False
  | .outgrown, _, _ => False
theorem one_round {F : Fence} {n : Nat} {P : Program} {l D : Nat} {rec : LoopState → Option Code → Loop} {fn : FuncId} {tmps args : Array Value} {ps : Array Tmp} {assign body : Code} {W : World} {R : Ending → World → Prop}
    (hfn : F.fn fn) (hrec : RecOf rec fn tmps ps assign body D) (hl : W.heap[l]? = some (.loop (rec .ready none))) (hs : args.size = ps.size)
    (h : assign.wpIn (F.inRound l) n P (Exit.then (fun a₁ w₁ => w₁.heap[l]? = some (.loop (rec .ready none)) ∧ body.wpIn (F.inRound l) n P (roundEnd rec l R) a₁ (w₁.putObj l (.loop (rec .busy none)))) (fun _ _ _ => False))
      { tmps := (ps.zip args).foldl (fun t (p, v) => t.setIfInBounds p v) tmps, defers := [] } W) : YieldAt F n P l args W R := by
  have hy := run_yield (P := P) (args := args) hl (by rw [hrec]; exact hs)
  rw [hrec] at hy
  refine ⟨fn, _, assign, body, hy, roundIn_of_wpIn hfn (wpIn_mono h ?_)⟩
  rintro e a1 w1 hp
  cases e with
  | normal =>
    obtain ⟨hl1, hb⟩ := hp
    have h2 := run_beginRound (P := P) hl1 (by rw [hrec])
    have e1 : ({ rec .ready none with state := .busy } : Loop) = rec .busy none := by rw [hrec, hrec]
    rw [e1] at h2
    refine ⟨_, h2, wpIn_mono hb ?_⟩
    have fin : ∀ (jump : Option Code) (W3 : World), W3.heap[l]? = some (.loop (rec .busy none)) →
        (Instr.endRound l jump).run P W3 = .ok (.bool jump.isNone) (W3.putObj l (.loop (rec (if jump.isNone then .ready else .done) jump))) := fun jump W3 h3 => by
      have h4 := run_endRound (P := P) jump h3
      rw [hrec] at h4 ⊢
      exact h4
    rintro e a3 W3 hq
    cases e with
    | normal => exact ⟨_, _, fin none W3 hq.1, hq.2⟩
    | ret => exact ⟨_, _, fin (some .ret) W3 hq.1, hq.2⟩
    | exit id => exact ⟨_, _, fin (some (.exit id)) W3 hq.1, hq.2⟩
    | goto t => exact ⟨_, _, fin (some (.goto t)) W3 hq.1, hq.2⟩
    | panic c => exact hq.elim
    | outgrown => exact hq.elim
  | ret => exact hp.elim
  | exit id => exact hp.elim
  | goto t => exact hp.elim
  | panic c => exact hp.elim
  | outgrown => exact hp.elim
/-- Behind the loop. -/
theorem range_done {F : Fence} {n : Nat} {P : Program} {l D : Nat} {rec : LoopState → Option Code → Loop} {fn : FuncId} {tmps : Array Value} {ps : Array Tmp} {assign body : Code} {Q : Exit → Act → World → Prop} {a : Act} {v : Value} {W : World}
    (hrec : RecOf rec fn tmps ps assign body D) (hl : W.heap[l]? = some (.loop (rec .ready none))) (h : Q .normal a (W.putObj l (.loop (rec .exhausted none)))) : rangePost F n P l Q a (.returned v) W := by
  have h2 := run_endLoop (P := P) hl (by rw [hrec]; simp)
  rw [hrec] at h2
  refine ⟨none, _, h2, ?_⟩
  rw [hrec] at h
  exact h
theorem range_left {F : Fence} {n : Nat} {P : Program} {l D : Nat} {rec : LoopState → Option Code → Loop} {fn : FuncId} {tmps : Array Value} {ps : Array Tmp} {assign body : Code} {Q : Exit → Act → World → Prop} {a : Act} {v : Value} {W : World} {c : Code}
    (hrec : RecOf rec fn tmps ps assign body D) (hl : W.heap[l]? = some (.loop (rec .done (some c)))) (h : c.wpIn F n P Q a (W.putObj l (.loop (rec .exhausted (some c))))) : rangePost F n P l Q a (.returned v) W := by
  have h2 := run_endLoop (P := P) hl (by rw [hrec]; simp)
  rw [hrec] at h2
  refine ⟨some c, _, h2, ?_⟩
  rw [hrec] at h
  exact h
end Go.Proofs.YtkejnhleajfcjaaGreatDoor
