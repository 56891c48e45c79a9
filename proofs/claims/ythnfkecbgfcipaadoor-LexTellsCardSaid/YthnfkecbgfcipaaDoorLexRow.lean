/- Rows of tokens, read; lex.Lex in plain words. -/
import Derived.Test.YthnfkecbgfcipaaDoorLexLex
namespace Go.Proofs.YthnfkecbgfcipaaDoor
open Go.RowKit
set_option linter.unusedVariables false
set_option linter.unusedSimpArgs false
structure TokAt (w : World) (b o : Nat) (t : Tok) : Prop where
  c0 : w.cell? ⟨b, o, none⟩ = some (.int .u8 (t.kind : Int))
  c1 : w.cell? ⟨b, o + 1, none⟩ = some (.string ⟨t.text.toArray⟩)
  c2 : w.cell? ⟨b, o + 2, none⟩ = some (.int .u32 (t.n : Int))
  c3 : w.cell? ⟨b, o + 3, none⟩ = some (.int .i64 (t.line : Int))
  c4 : w.cell? ⟨b, o + 4, none⟩ = some (.int .i64 (t.col : Int))
theorem TokAt.keep {w w' : World} {b o : Nat} {x : Tok} (h : TokAt w b o x) (hb : Below w.heap.size w w') : TokAt w' b o x := by
  have hl := World.block_lt_of_cell? _ _ h.c0
  exact ⟨(hb.cell (p := ⟨b, o, none⟩) hl).trans h.c0, (hb.cell (p := ⟨b, o + 1, none⟩) hl).trans h.c1, (hb.cell (p := ⟨b, o + 2, none⟩) hl).trans h.c2, (hb.cell (p := ⟨b, o + 3, none⟩) hl).trans h.c3, (hb.cell (p := ⟨b, o + 4, none⟩) hl).trans h.c4⟩
abbrev TokIn := RowIn TokAt 5 48
theorem TokIn.keepB {w w' : World} {v : Value} {ts : List Tok} (h : TokIn w v ts) (hb : Below w.heap.size w w') : TokIn w' v ts := h.keep fun _ _ _ _ hh => hh.keep hb
theorem toksC_length (ts : List Tok) : (toksC ts).length = ts.length * 5 := by
  induction ts with
  | nil => rfl
  | cons t ts ih =>
    show (tokC t ++ toksC ts).length = _
    rw [List.length_append, ih, List.length_cons, Nat.succ_mul]
    show 5 + ts.length * 5 = _
    omega
theorem toksC_get : ∀ (ts : List Tok) (k : Nat) (t : Tok), ts[k]? = some t → ∀ j, j < 5 → (toksC ts)[k * 5 + j]? = (tokC t)[j]?
  | [], k, t, h, j, hj => by simp at h
  | x :: ts, 0, t, h, j, hj => by
    simp at h
    subst h
    show (tokC x ++ toksC ts)[0 * 5 + j]? = _
    rw [Nat.zero_mul, Nat.zero_add, List.getElem?_append_left (by show j < 5; exact hj)]
  | x :: ts, k + 1, t, h, j, hj => by
    show (tokC x ++ toksC ts)[(k + 1) * 5 + j]? = _
    rw [List.getElem?_append_right (by show 5 ≤ _; omega)]
    have e : (k + 1) * 5 + j - (tokC x).length = k * 5 + j := by show (k + 1) * 5 + j - 5 = _; omega
    rw [e]
    exact toksC_get ts k t (by simpa using h) j hj
theorem tok_in {w : World} {base : Nat} {v : Value} {ts : List Tok} (h : w.ownsRow base 41 5 v ts.length (toksC ts)) (hb : ts.length ≤ 2000000000000) : TokIn w v ts := by
  refine ⟨by omega, ?_⟩
  rcases h.2 with ⟨rfl, e⟩ | ⟨g, cap, cur, rfl, _, h2, h3, _, h5, h6⟩
  · have : ts = [] := List.length_eq_zero_iff.1 e
    subst this
    exact ⟨none, 0, 0, 0, rfl, ⟨by simp, fun _ => rfl⟩, by simp⟩
  · refine ⟨some ⟨g, 0, none⟩, cap, g, 0, rfl, ⟨fun _ => rfl, by simp⟩, fun k x hx => ?_⟩
    have hk := (List.getElem?_eq_some_iff.1 hx).1
    have cell : ∀ j (u : Value), j < 5 → (tokC x)[j]? = some u → w.cell? ⟨g, 0 + k * 5 + j, none⟩ = some u := fun j u hj hu => by
      have h7 : (toksC ts)[k * 5 + j]? = some u := (toksC_get ts k x hx j hj).trans hu
      rw [← h6, List.getElem?_take] at h7
      split at h7
      · refine blk_cell h2 ?_
        rw [Nat.zero_add]
        simpa using h7
      · cases h7
    exact ⟨cell 0 _ (by omega) rfl, cell 1 _ (by omega) rfl, cell 2 _ (by omega) rfl, cell 3 _ (by omega) rfl, cell 4 _ (by omega) rfl⟩
/-- lex.Lex, whatever the source is. -/
theorem lex_ok (s ts) (hs : s.length ≤ 65536) (h : lexS s = .ok ts) (w : World) (hW : LexW w) : Calls Tryd.prog 7 #[.string ⟨s.toArray⟩] w fun e w' => (∃ v, e = .returned (.tuple #[v, .agg #[.int .i64 0, .int .i64 0], .int .i64 0]) ∧ TokIn w' v ts) ∧ Below w.heap.size w w' := by
  refine (lex_any s hs w hW).mono ?_
  rintro e w' ⟨h1, h2⟩
  rw [h] at h1
  obtain ⟨v, h3, h4⟩ := h1
  refine ⟨⟨v, h3, tok_in h4 ?_⟩, h2⟩
  have hl := line_le s
  have h5 := linesT_len 65536 _ _ _ h (fun l hx => by have := hl.1 l hx; omega)
  have h6 : (linesS s).length * (65536 + 1) ≤ 65536 * 65537 := Nat.mul_le_mul (by omega) (by omega)
  omega
theorem lex_err (s p) (hs : s.length ≤ 65536) (h : lexS s = .error p) (w : World) (hW : LexW w) : Calls Tryd.prog 7 #[.string ⟨s.toArray⟩] w fun e w' => e = .returned (.tuple #[.slice none 0 0, .agg #[.int .i64 p.1, .int .i64 p.2], .int .i64 120]) ∧ Below w.heap.size w w' := by
  refine (lex_any s hs w hW).mono ?_
  rintro e w' ⟨h1, h2⟩
  rw [h] at h1
  exact ⟨h1, h2⟩
end Go.Proofs.YthnfkecbgfcipaaDoor
