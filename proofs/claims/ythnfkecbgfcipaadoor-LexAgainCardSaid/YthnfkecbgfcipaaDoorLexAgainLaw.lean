/- A source's tokens are those of their own text; white and lines that are nothing change none: plain laws. -/
import Derived.Test.YthnfkecbgfcipaaDoorLexBare
import Derived.Test.YthnfkecbgfcipaaDoorLexRGo
namespace Go.Proofs.YthnfkecbgfcipaaDoor
open Go.RowKit
set_option linter.unusedVariables false
/-- Words, one blank between two. -/
def joinW : List (List UInt8) → List UInt8
  | [] => []
  | [w] => w
  | w :: v :: ws => w ++ 32 :: joinW (v :: ws)
theorem joinW_ne : ∀ (ws : List (List UInt8)), ws ≠ [] → (∀ w ∈ ws, w ≠ []) → joinW ws ≠ []
  | [], h, _ => (h rfl).elim
  | [w], _, h => h w (by simp)
  | w :: v :: ws, _, h => by simp [joinW]
theorem joinW_mem : ∀ (ws : List (List UInt8)) (c : UInt8), c ∈ joinW ws → c = 32 ∨ ∃ w ∈ ws, c ∈ w
  | [], c, h => by simp [joinW] at h
  | [w], c, h => .inr ⟨w, by simp, h⟩
  | w :: v :: ws, c, h => by
    simp only [joinW, List.mem_append, List.mem_cons] at h
    rcases h with h | h | h
    · exact .inr ⟨w, by simp, h⟩
    · exact .inl h
    · rcases joinW_mem (v :: ws) c h with h | ⟨x, hx, hc⟩
      · exact .inl h
      · exact .inr ⟨x, by simp at hx ⊢; exact .inr hx, hc⟩
theorem words_joinW : ∀ (ws : List (List UInt8)) (k : Nat), (∀ w ∈ ws, w ≠ [] ∧ ∀ c ∈ w, nonw c = true) → (wordsS k (joinW ws)).map (·.2) = ws
  | [], k, _ => rfl
  | [w], k, h => by
    have h1 := h w (by simp)
    have e := wordsS_word w k [] h1.1 h1.2 (.inl rfl)
    rw [List.append_nil] at e
    show (wordsS k w).map (·.2) = _
    rw [e]; rfl
  | w :: v :: ws, k, h => by
    have h1 := h w (by simp)
    show (wordsS k (w ++ 32 :: joinW (v :: ws))).map (·.2) = _
    rw [wordsS_word w k _ h1.1 h1.2 (.inr ⟨32, _, rfl, by decide⟩), wordsS_white _ 32 _ (by decide), List.map_cons, words_joinW (v :: ws) _ (fun x hx => h x (by simp at hx ⊢; exact .inr hx))]
/-- A word's bytes. -/
theorem words_mem : ∀ (n : Nat) (l : List UInt8) (k : Nat), l.length ≤ n → (∀ c ∈ l, c.toNat ≠ 10) → ∀ x ∈ wordsS k l, x.2 ≠ [] ∧ ∀ c ∈ x.2, nonw c = true ∧ c.toNat ≠ 10
  | _, [], k, _, _, x, hx => by simp [wordsS] at hx
  | 0, c :: l, _, h, _, _, _ => by simp at h
  | n + 1, c :: l, k, h, hn, x, hx => by
    cases hw : nonw c with
    | false =>
      rw [wordsS_white k c l hw] at hx
      exact words_mem n l (k + 1) (by simp at h; omega) (fun d hd => hn d (by simp [hd])) x hx
    | true =>
      obtain ⟨w, r, e, ⟨w', e2⟩, h1, h2, h3⟩ := word_split c l hw hn
      rw [e, wordsS_word w k r (by simp [e2]) (fun d hd => by have := h1 d hd; simp [inword] at this; exact this.1) h3] at hx
      rcases List.mem_cons.1 hx with rfl | hx
      · exact ⟨by simp [e2], fun d hd => by have := h1 d hd; simpa [inword] using this⟩
      · have hl := congrArg List.length e
        rw [e2] at hl
        exact words_mem n r _ (by simp at hl h; omega) h2 x hx
/-- A word by its token. -/
theorem tokB_word {w : List UInt8} {k : Nat} {t : List UInt8} {n : Nat} (h : tokB w = some (k, t, n)) : w = t ++ (if k = 1 then [58] else []) ∧ k ≠ 6 := by
  unfold tokB at h
  repeat' split at h
  all_goals first
    | (cases h; simp; done)
    | (cases h)
  rename_i hc
  simp only [Bool.and_eq_true] at hc
  have hc := hc.1
  unfold endsColon at hc
  cases hl : w.getLast? with
  | none => rw [hl] at hc; cases hc
  | some c =>
    rw [hl] at hc
    have hc2 : c = 58 := UInt8.toNat_inj.1 (by simpa using hc)
    refine ⟨?_, by omega⟩
    rw [if_pos rfl]
    cases w with
    | nil => cases hl
    | cons a r =>
      have h2 := List.dropLast_concat_getLast (l := a :: r) (by simp)
      rw [List.getLast?_eq_some_getLast (by simp)] at hl
      rw [Option.some.inj hl, hc2] at h2
      exact h2.symm
/-- The text of a line's tokens. -/
theorem textS_line (ln : Nat) (e : Tok) (he : e.kind = 6) : ∀ (ws : List (Nat × List UInt8)) (r : List Tok), toksW ln ws = .ok r → textS (r ++ [e]) = joinW (ws.map (·.2)) ++ [10]
  | [], r, h => by
    cases h
    show textS [e] = _
    rw [textS_eq, if_pos he]; rfl
  | (a, w) :: ws, r, h => by
    unfold toksW at h
    cases ht : tokB w with
    | none => rw [ht] at h; cases h
    | some x =>
      obtain ⟨k, t, n⟩ := x
      rw [ht] at h
      simp only at h
      cases hr : toksW ln ws with
      | error p => rw [hr] at h; cases h
      | ok b =>
        rw [hr] at h
        cases h
        have ih := textS_line ln e he ws b hr
        obtain ⟨hw, hk⟩ := tokB_word ht
        show textS (⟨k, t, n, ln, a + 1⟩ :: (b ++ [e])) = _
        rw [textS_eq, if_neg hk, ih]
        show t ++ (if k = 1 then [58] else []) ++ nextS (b ++ [e]) ++ (joinW (ws.map (·.2)) ++ [10]) = _
        rw [← hw]
        cases ws with
        | nil =>
          cases hr
          show w ++ (if e.kind = 6 then ([] : List UInt8) else [32]) ++ ([] ++ [10]) = w ++ [10]
          rw [if_pos he]; simp
        | cons y ws =>
          obtain ⟨a2, w2⟩ := y
          have hnx : nextS (b ++ [e]) = [32] := by
            unfold toksW at hr
            cases ht2 : tokB w2 with
            | none => rw [ht2] at hr; cases hr
            | some x2 =>
              obtain ⟨k2, t2, n2⟩ := x2
              rw [ht2] at hr
              simp only at hr
              cases hr2 : toksW ln ws with
              | error p => rw [hr2] at hr; cases hr
              | ok b2 =>
                rw [hr2] at hr
                cases hr
                show (if k2 = 6 then ([] : List UInt8) else [32]) = [32]
                rw [if_neg (tokB_word ht2).2]
          rw [hnx]
          show _ = w ++ 32 :: joinW (w2 :: ws.map (·.2)) ++ [10]
          simp
theorem joinW_len : ∀ (n : Nat) (l : List UInt8) (k : Nat), l.length ≤ n → (joinW ((wordsS k l).map (·.2))).length ≤ l.length
  | _, [], k, _ => by simp [wordsS, joinW]
  | 0, c :: l, _, h => by simp at h
  | n + 1, c :: l, k, h => by
    cases hw : nonw c with
    | false =>
      rw [wordsS_white k c l hw]
      have := joinW_len n l (k + 1) (by simp at h; omega)
      simp; omega
    | true =>
      have hsp : ∃ w r, c :: l = w ++ r ∧ (∃ w', w = c :: w') ∧ (∀ x ∈ w, nonw x = true) ∧ ends r := by
        refine ⟨(c :: l).takeWhile nonw, (c :: l).dropWhile nonw, (List.takeWhile_append_dropWhile).symm, ⟨l.takeWhile nonw, by simp [hw]⟩, fun x hx => tw_all nonw _ x hx, ?_⟩
        cases hd : (c :: l).dropWhile nonw with
        | nil => exact .inl rfl
        | cons d r' => exact .inr ⟨d, r', rfl, dw_head nonw _ d r' hd⟩
      obtain ⟨w, r, e, ⟨w', e2⟩, h1, h3⟩ := hsp
      have hl := congrArg List.length e
      rw [e, wordsS_word w k r (by simp [e2]) h1 h3, List.map_cons, List.length_append]
      rcases h3 with rfl | ⟨d, r', rfl, hd⟩
      · simp [wordsS, joinW]
      · rw [wordsS_white _ d r' hd]
        have ih := joinW_len n r' (k + w.length + 1) (by rw [e2] at hl; simp at hl h; omega)
        cases hm : (wordsS (k + w.length + 1) r').map (·.2) with
        | nil => simp [joinW]
        | cons v vs =>
          rw [hm] at ih
          show (w ++ 32 :: joinW (v :: vs)).length ≤ _
          simp at ih ⊢; omega
theorem lineB_line (s : List UInt8) (h : ∀ c ∈ s, c.toNat ≠ 10) : toB (lexS s) = lineB (wordsT s) := by
  rw [lexS_bare]
  cases s with
  | nil => rfl
  | cons c r =>
    rw [linesS_one (c :: r) (by simp) h]
    show linesB [wordsT (c :: r)] = _
    rw [linesB_cons]
    cases lineB (wordsT (c :: r)) with
    | none => rfl
    | some x => show some (x ++ []) = _; rw [List.append_nil]
/-- Lines' lengths. -/
def sumL : List (List UInt8) → Nat
  | [] => 0
  | l :: ls => l.length + 1 + sumL ls
theorem sumL_lines : ∀ (n : Nat) (s : List UInt8), s.length ≤ n → sumL (linesS s) ≤ s.length + 1
  | _, [], _ => by simp [linesS, sumL]
  | 0, c :: s, h => by simp at h
  | n + 1, c :: s, h => by
    rcases cut_ten (c :: s) with ⟨a, b, e, hn, _⟩ | ⟨hn, _⟩
    · have hl := congrArg List.length e
      rw [e, linesS_cons a b hn]
      have ih := sumL_lines n b (by simp at hl h; omega)
      simp [sumL] at ih ⊢; omega
    · rw [linesS_one (c :: s) (by simp) hn]; simp [sumL]
/-- A source's lines have no newline. -/
theorem lines_no : ∀ (n : Nat) (s : List UInt8), s.length ≤ n → ∀ l ∈ linesS s, ∀ c ∈ l, c.toNat ≠ 10
  | _, [], _, l, h, _, _ => by simp [linesS] at h
  | 0, c :: s, h, _, _, _, _ => by simp at h
  | n + 1, c :: s, h, l, hl, d, hd => by
    rcases cut_ten (c :: s) with ⟨a, b, e, hn, _⟩ | ⟨hn, _⟩
    · have he := congrArg List.length e
      rw [e, linesS_cons a b hn] at hl
      rcases List.mem_cons.1 hl with rfl | hl
      · exact hn d hd
      · exact lines_no n b (by simp at he h; omega) l hl d hd
    · rw [linesS_one (c :: s) (by simp) hn] at hl
      rw [List.mem_singleton.1 hl] at hd
      exact hn d hd
theorem again_lines : ∀ (ls : List (List UInt8)) (ln : Nat) (ts : List Tok), linesT ln ls = .ok ts → (∀ l ∈ ls, ∀ c ∈ l, c.toNat ≠ 10) → toB (lexS (textS ts)) = some (ts.map bare) ∧ (textS ts).length ≤ sumL ls
  | [], ln, ts, h, _ => by cases h; exact ⟨rfl, Nat.zero_le _⟩
  | l :: ls, ln, ts, h, hn => by
    unfold linesT at h
    cases hl : lineT ln l with
    | error p => rw [hl] at h; cases h
    | ok a =>
      rw [hl] at h
      simp only at h
      cases hr : linesT (ln + 1) ls with
      | error p => rw [hr] at h; cases h
      | ok b =>
        rw [hr] at h
        cases h
        obtain ⟨i1, i2⟩ := again_lines ls (ln + 1) b hr (fun x hx => hn x (by simp [hx]))
        rw [textS_append a b (lineT_ends _ _ _ hl)]
        have hbare := lineT_bare ln l
        rw [hl] at hbare
        have hl0 := hl
        unfold lineT at hl
        have hwm := words_mem l.length l 0 (Nat.le_refl _) (hn l (by simp))
        have hjl := joinW_len l.length l 0 (Nat.le_refl _)
        cases hw : wordsS 0 l with
        | nil => rw [hw] at hl; cases hl; exact ⟨i1, by show (textS b).length ≤ _; simp [sumL]; omega⟩
        | cons x ws =>
          obtain ⟨p, w⟩ := x
          rw [hw] at hl hwm hjl
          simp only at hl
          cases hb : begins 35 w with
          | true => rw [hb] at hl; cases hl; exact ⟨i1, by show (textS b).length ≤ _; simp [sumL]; omega⟩
          | false =>
            rw [hb] at hl
            simp only [Bool.false_eq_true, if_false] at hl
            cases ht : toksW ln ((p, w) :: ws) with
            | error q => rw [ht] at hl; cases hl
            | ok r =>
              rw [ht] at hl
              cases hl
              have hall : ∀ y ∈ ((p, w) :: ws).map (·.2), y ≠ [] ∧ ∀ c ∈ y, nonw c = true := fun y hy => by
                obtain ⟨z, hz, rfl⟩ := List.mem_map.1 hy
                exact ⟨(hwm z hz).1, fun c hc => ((hwm z hz).2 c hc).1⟩
              have hno : ∀ c ∈ joinW (((p, w) :: ws).map (·.2)), c.toNat ≠ 10 := fun c hc => by
                rcases joinW_mem _ c hc with rfl | ⟨y, hy, hcy⟩
                · decide
                · obtain ⟨z, hz, rfl⟩ := List.mem_map.1 hy
                  exact ((hwm z hz).2 c hcy).2
              have htx := textS_line ln ⟨6, [], 0, ln, l.length + 1⟩ rfl _ _ ht
              rw [htx]
              constructor
              · rw [List.append_assoc]
                show toB (lexS (joinW _ ++ 10 :: textS b)) = _
                rw [join_lex, i1, lineB_line _ hno]
                have hwt : wordsT (joinW (((p, w) :: ws).map (·.2))) = wordsT l := by
                  unfold wordsT
                  rw [words_joinW _ 0 hall, hw]
                rw [hwt, ← hbare]
                rw [List.map_append, List.map_append]
                show some (_ ++ _) = _
                rw [List.map_append]
              · simp [sumL] at hjl i2 ⊢; omega
/-- Once is as twice. -/
theorem again_lex (s : List UInt8) (ts : List Tok) (h : lexS s = .ok ts) : toB (lexS (textS ts)) = some (ts.map bare) ∧ (textS ts).length ≤ s.length + 1 := by
  obtain ⟨h1, h2⟩ := again_lines _ _ _ h (lines_no s.length s (Nat.le_refl _))
  exact ⟨h1, Nat.le_trans h2 (sumL_lines s.length s (Nat.le_refl _))⟩
/-- What a byte becomes: more white, and lines that are nothing. -/
def moreC (g : List UInt8) (c : UInt8) : List UInt8 := if c.toNat = 10 then g ++ [10, 10, 32, 35, 32, 123, 32, 63, 10] else if c.toNat = 32 then g else [c]
def moreT (g : List UInt8) (s : List UInt8) : List UInt8 := s.flatMap (moreC g)
def whiteG (g : List UInt8) : Prop := g ≠ [] ∧ ∀ c ∈ g, nonw c = false ∧ c.toNat ≠ 10
theorem words_gap : ∀ (g : List UInt8) (k : Nat) (r : List UInt8), (∀ c ∈ g, nonw c = false) → wordsS k (g ++ r) = wordsS (k + g.length) r
  | [], k, r, _ => rfl
  | c :: g, k, r, h => by
    show wordsS k (c :: (g ++ r)) = _
    rw [wordsS_white k c _ (h c (by simp)), words_gap g (k + 1) r (fun x hx => h x (by simp [hx])), List.length_cons, show k + 1 + g.length = k + (g.length + 1) by omega]
theorem moreT_word (g : List UInt8) : ∀ (w : List UInt8), (∀ c ∈ w, inword c = true) → moreT g w = w
  | [], _ => rfl
  | c :: w, h => by
    have hc := h c (by simp)
    have ih := moreT_word g w (fun x hx => h x (by simp [hx]))
    have h32 : c.toNat ≠ 32 := fun h2 => by
      have : c = 32 := UInt8.toNat_inj.1 h2
      subst this
      exact absurd hc (by decide)
    simp only [inword, Bool.and_eq_true, decide_eq_true_eq] at hc
    show moreC g c ++ moreT g w = _
    rw [ih]
    unfold moreC
    rw [if_neg hc.2, if_neg h32]; rfl
theorem words_more (g : List UInt8) (hg : whiteG g) (t : List UInt8) (htt : t = [] ∨ t = g) : ∀ (n : Nat) (l : List UInt8) (k k' : Nat), l.length ≤ n → (∀ c ∈ l, c.toNat ≠ 10) → (wordsS k (moreT g l ++ t)).map (·.2) = (wordsS k' l).map (·.2) ∧ (∀ c ∈ moreT g l ++ t, c.toNat ≠ 10)
  | _, [], k, k', _, _ => by
    rcases htt with rfl | rfl
    · exact ⟨rfl, fun c hc => by simp [moreT] at hc⟩
    · have e := words_gap t k [] (fun c hc => (hg.2 c hc).1)
      rw [List.append_nil] at e
      show (wordsS k t).map (·.2) = _ ∧ ∀ c ∈ t, _
      rw [e]
      exact ⟨rfl, fun c hc => (hg.2 c hc).2⟩
  | 0, c :: l, _, _, h, _ => by simp at h
  | n + 1, c :: l, k, k', h, hn => by
    have hc10 := hn c (by simp)
    cases hw : nonw c with
    | false =>
      rw [wordsS_white k' c l hw]
      show (wordsS k (moreC g c ++ moreT g l ++ t)).map (·.2) = _ ∧ ∀ d ∈ moreC g c ++ moreT g l ++ t, _
      have hm : ∀ d ∈ moreC g c, nonw d = false ∧ d.toNat ≠ 10 := by
        unfold moreC
        rw [if_neg hc10]
        split
        · exact hg.2
        · intro d hd
          rw [List.mem_singleton.1 hd]
          exact ⟨hw, hc10⟩
      obtain ⟨i1, i2⟩ := words_more g hg t htt n l (k + (moreC g c).length) (k' + 1) (by simp at h; omega) (fun d hd => hn d (by simp [hd]))
      rw [List.append_assoc, words_gap _ k _ (fun d hd => (hm d hd).1)]
      exact ⟨i1, fun d hd => by
        rcases List.mem_append.1 hd with hd | hd
        · exact (hm d hd).2
        · exact i2 d hd⟩
    | true =>
      obtain ⟨w, r, e, ⟨w', e2⟩, h1, h2, h3⟩ := word_split c l hw hn
      have hl := congrArg List.length e
      have hw1 : ∀ d ∈ w, nonw d = true := fun d hd => by have := h1 d hd; simp [inword] at this; exact this.1
      have hne : w ≠ [] := by simp [e2]
      obtain ⟨i1, i2⟩ := words_more g hg t htt n r (k + w.length) (k' + w.length) (by rw [e2] at hl; simp at hl h; omega) h2
      have hends : ends (moreT g r ++ t) := by
        rcases h3 with rfl | ⟨d, r', rfl, hd⟩
        · rcases htt with rfl | rfl
          · exact .inl rfl
          · cases t with
            | nil => exact .inl rfl
            | cons x g' => exact .inr ⟨x, g', rfl, (hg.2 x (by simp)).1⟩
        · have hd10 := h2 d (by simp)
          show ends (moreC g d ++ moreT g r' ++ t)
          unfold moreC
          rw [if_neg hd10]
          split
          · cases g with
            | nil => exact (hg.1 rfl).elim
            | cons x g' => exact .inr ⟨x, _, rfl, (hg.2 x (by simp)).1⟩
          · exact .inr ⟨d, _, rfl, hd⟩
      have hmw : moreT g (w ++ r) = w ++ moreT g r := by
        show (w ++ r).flatMap (moreC g) = _
        rw [List.flatMap_append]
        show moreT g w ++ moreT g r = _
        rw [moreT_word g w h1]
      rw [e, hmw, List.append_assoc, wordsS_word w k _ hne hw1 hends, wordsS_word w k' r hne hw1 h3, List.map_cons, List.map_cons, i1]
      exact ⟨rfl, fun d hd => by
        rcases List.mem_append.1 hd with hd | hd
        · have := h1 d hd; simp [inword] at this; exact this.2
        · exact i2 d hd⟩
theorem opt_nil (x : Option (List (Nat × List UInt8 × Nat))) : x.map (fun y => [] ++ y) = x := by cases x <;> rfl
theorem join_nil (a b : List UInt8) (h : toB (lexS a) = some []) : toB (lexS (a ++ 10 :: b)) = toB (lexS b) := by
  rw [join_lex, h]; exact opt_nil _
theorem more_lines (g : List UInt8) (hg : whiteG g) : ∀ (n : Nat) (s : List UInt8), s.length ≤ n → toB (lexS (moreT g s ++ [10, 35])) = toB (lexS s)
  | _, [], _ => by
    show toB (lexS ([] ++ 10 :: [35])) = _
    rw [join_nil [] [35] rfl]
    rw [lineB_line [35] (by decide)]
    rfl
  | 0, c :: s, h => by simp at h
  | n + 1, c :: s, h => by
    rcases cut_ten (c :: s) with ⟨a, b, e, hn, _⟩ | ⟨hn, _⟩
    · have hl := congrArg List.length e
      have ih := more_lines g hg n b (by simp at hl h; omega)
      obtain ⟨w1, w2⟩ := words_more g hg g (.inr rfl) a.length a 0 0 (Nat.le_refl _) hn
      have hm : moreT g (a ++ 10 :: b) ++ [10, 35] = (moreT g a ++ g) ++ 10 :: ([] ++ 10 :: ([32, 35, 32, 123, 32, 63] ++ 10 :: (moreT g b ++ [10, 35]))) := by
        show (a ++ 10 :: b).flatMap (moreC g) ++ [10, 35] = _
        rw [List.flatMap_append, List.flatMap_cons]
        show moreT g a ++ (moreC g 10 ++ moreT g b) ++ [10, 35] = _
        unfold moreC
        rw [if_pos (by decide)]
        simp
      rw [e, hm, join_lex (moreT g a ++ g), join_nil [] _ rfl, join_nil [32, 35, 32, 123, 32, 63] _ (by rw [lineB_line _ (by decide)]; rfl), ih, lineB_line _ w2, join_lex a b, lineB_line a hn]
      unfold wordsT
      rw [w1]
    · obtain ⟨w1, w2⟩ := words_more g hg [] (.inl rfl) (c :: s).length (c :: s) 0 0 (Nat.le_refl _) hn
      rw [List.append_nil] at w1 w2
      have hT : toB (lexS (moreT g (c :: s))) = toB (lexS (c :: s)) := by
        rw [lineB_line (c :: s) hn]
        rw [lineB_line _ w2]
        unfold wordsT
        rw [w1]
      show toB (lexS (moreT g (c :: s) ++ 10 :: [35])) = _
      rw [join_lex, hT, lineB_line [35] (by decide)]
      show (match toB (lexS (c :: s)) with
        | none => none
        | some x => (some []).map (fun y => x ++ y)) = _
      cases toB (lexS (c :: s)) with
      | none => rfl
      | some x => show some (x ++ []) = _; rw [List.append_nil]
end Go.Proofs.YthnfkecbgfcipaaDoor
