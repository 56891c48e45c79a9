/- Sources, their lines, their words and their tokens, in plain Lean. No function of the program is walked here. -/
import Derived.Test.YthnfkecbgfcipaaDoorShapeName
namespace Go.Proofs.YthnfkecbgfcipaaDoor
open Go.RowKit
set_option linter.unusedVariables false
def whiteP (c : Int) : Prop := c = 32 ∨ c = 9 ∨ c = 13
instance (c : Int) : Decidable (whiteP c) := by unfold whiteP; infer_instance
/-- A token. -/
structure Tok where
  kind : Nat
  text : List UInt8
  n : Nat
  line : Nat
  col : Nat
/-- What digits come to. -/
def valS (l : List UInt8) : Nat := l.foldl (fun a c => 10 * a + (c.toNat - 48)) 0
def head48 : List UInt8 → Bool
  | c :: _ => decide (c.toNat = 48)
  | [] => false
/-- Are they the digits of a number of at most so much? -/
def numOk (most : Nat) (s : List UInt8) : Bool := !s.isEmpty && alldB s && !(head48 s && decide (1 < s.length)) && decide (valS s ≤ most)
def endsColon (s : List UInt8) : Bool := match s.getLast? with
  | some c => decide (c.toNat = 58)
  | none => false
def begins (k : Nat) : List UInt8 → Bool
  | c :: _ => decide (c.toNat = k)
  | [] => false
def numT (s : List UInt8) : Option Nat :=
  if begins 45 s then (if numOk 2147483648 s.tail && decide (0 < valS s.tail) then some (4294967296 - valS s.tail) else none)
  else if numOk 4294967295 s then some (valS s) else none
/-- A word's kind, text and number. -/
def tokB (s : List UInt8) : Option (Nat × List UInt8 × Nat) :=
  if s = [123] then some (4, s, 0) else if s = [125] then some (5, s, 0)
  else if begins 118 s && numOk 4095 s.tail then some (2, s, valS s.tail)
  else match numT s with
    | some n => some (3, s, n)
    | none => if endsColon s && nameB s.dropLast then some (1, s.dropLast, 0) else if nameB s then some (0, s, 0) else none
/-- A source's lines. -/
def linesS : List UInt8 → List (List UInt8)
  | [] => []
  | c :: r => if c.toNat = 10 then [] :: linesS r else match linesS r with
    | [] => [[c]]
    | l :: ls => (c :: l) :: ls
def nonw (c : UInt8) : Bool := !decide (whiteP c.toNat)
/-- A line's words, and where they begin. -/
def wordsS : Nat → List UInt8 → List (Nat × List UInt8)
  | _, [] => []
  | at', c :: r => if nonw c then
      (match r with
       | [] => [(at', [c])]
       | d :: r' => if nonw d then (match wordsS (at' + 1) r with
          | [] => [(at', [c])]
          | (_, w) :: ws => (at', c :: w) :: ws) else (at', [c]) :: wordsS (at' + 1) r)
    else wordsS (at' + 1) r
/-- The tokens of words, or the place of the first that is none. -/
def toksW (ln : Nat) : List (Nat × List UInt8) → Except (Nat × Nat) (List Tok)
  | [] => .ok []
  | (a, w) :: ws => match tokB w with
    | none => .error (ln, a + 1)
    | some (k, t, n) => match toksW ln ws with
      | .ok r => .ok (⟨k, t, n, ln, a + 1⟩ :: r)
      | .error p => .error p
def lineT (ln : Nat) (line : List UInt8) : Except (Nat × Nat) (List Tok) := match wordsS 0 line with
  | [] => .ok []
  | (a, w) :: ws => if begins 35 w then .ok [] else match toksW ln ((a, w) :: ws) with
    | .ok r => .ok (r ++ [⟨6, [], 0, ln, line.length + 1⟩])
    | .error p => .error p
def linesT : Nat → List (List UInt8) → Except (Nat × Nat) (List Tok)
  | _, [] => .ok []
  | ln, l :: ls => match lineT ln l with
    | .error p => .error p
    | .ok a => match linesT (ln + 1) ls with
      | .ok b => .ok (a ++ b)
      | .error p => .error p
def lexS (src : List UInt8) : Except (Nat × Nat) (List Tok) := linesT 1 (linesS src)
/-- Tokens as a text. -/
def textS : List Tok → List UInt8
  | [] => []
  | t :: r => (if t.kind = 6 then [10] else t.text ++ (if t.kind = 1 then [58] else []) ++ (match r with
    | [] => []
    | u :: _ => if u.kind = 6 then [] else [32])) ++ textS r
end Go.Proofs.YthnfkecbgfcipaaDoor
