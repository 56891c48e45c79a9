/- A source gone over byte by byte comes to the same tokens as by lines and words: plain laws. -/
import Derived.Test.YthnfkecbgfcipaaDoorLexLines
namespace Go.Proofs.YthnfkecbgfcipaaDoor
open Go.RowKit
set_option linter.unusedVariables false
def inword (c : UInt8) : Bool := nonw c && decide (c.toNat ≠ 10)
def endT (some' : Bool) (ln col : Nat) : List Tok := if some' then [⟨6, [], 0, ln, col⟩] else []
def joinE (a : List Tok) : Except (Nat × Nat) (List Tok) → Except (Nat × Nat) (List Tok)
  | .ok b => .ok (a ++ b)
  | .error p => .error p
theorem joinE_nil (x : Except (Nat × Nat) (List Tok)) : joinE [] x = x := by cases x <;> rfl
theorem joinE_joinE (a b : List Tok) (x : Except (Nat × Nat) (List Tok)) : joinE a (joinE b x) = joinE (a ++ b) x := by cases x <;> simp [joinE]
def rgo (ln col : Nat) (some' nothing inw : Bool) : List UInt8 → Except (Nat × Nat) (List Tok)
  | [] => .ok (endT some' ln col)
  | c :: r => if c.toNat = 10 then joinE (endT some' ln col) (rgo (ln + 1) 1 false false false r)
    else if (!nonw c || nothing) || inw then rgo ln (col + 1) some' nothing (nonw c) r
    else if !some' && decide (c.toNat = 35) then rgo ln (col + 1) some' true (nonw c) r
    else match tokB ((c :: r).takeWhile inword) with
      | none => .error (ln, col)
      | some (k, t, n) => joinE [⟨k, t, n, ln, col⟩] (rgo ln (col + 1) true nothing (nonw c) r)
theorem rgo_cons (ln col : Nat) (some' nothing inw : Bool) (c : UInt8) (r : List UInt8) : rgo ln col some' nothing inw (c :: r) = if c.toNat = 10 then joinE (endT some' ln col) (rgo (ln + 1) 1 false false false r)
    else if (!nonw c || nothing) || inw then rgo ln (col + 1) some' nothing (nonw c) r
    else if !some' && decide (c.toNat = 35) then rgo ln (col + 1) some' true (nonw c) r
    else match tokB ((c :: r).takeWhile inword) with
      | none => .error (ln, col)
      | some (k, t, n) => joinE [⟨k, t, n, ln, col⟩] (rgo ln (col + 1) true nothing (nonw c) r) := rfl
/-- What is left: nothing, or another line. -/
def tailP (t : List UInt8) : Prop := t = [] ∨ ∃ b, t = 10 :: b
theorem rgo_tail (ln col : Nat) (s a b c d : Bool) {t : List UInt8} (h : tailP t) : rgo ln col s a b t = rgo ln col s c d t := by
  rcases h with rfl | ⟨b, rfl⟩
  · rfl
  · rw [rgo_cons, rgo_cons, if_pos (by decide), if_pos (by decide)]
theorem rgo_in (ln : Nat) (s a : Bool) (r : List UInt8) : ∀ (w : List UInt8) (col : Nat), (∀ c ∈ w, inword c = true) → rgo ln col s a true (w ++ r) = rgo ln (col + w.length) s a true r
  | [], _, _ => rfl
  | c :: w, col, h => by
    have hc := h c (by simp)
    simp only [inword, Bool.and_eq_true, decide_eq_true_eq] at hc
    show rgo ln col s a true (c :: (w ++ r)) = _
    rw [rgo_cons, if_neg hc.2, if_pos (by simp), hc.1, rgo_in ln s a r w (col + 1) (fun x hx => h x (by simp_all))]
    simp only [List.length_cons]
    rw [show col + 1 + w.length = col + (w.length + 1) by omega]
theorem rgo_no (ln : Nat) (s : Bool) {t : List UInt8} (ht : tailP t) : ∀ (a : List UInt8) (col : Nat) (inw : Bool), (∀ c ∈ a, c.toNat ≠ 10) → rgo ln col s true inw (a ++ t) = rgo ln (col + a.length) s false false t
  | [], col, inw, _ => rgo_tail _ _ _ _ _ _ _ ht
  | c :: a, col, inw, h => by
    show rgo ln col s true inw (c :: (a ++ t)) = _
    rw [rgo_cons, if_neg (h c (by simp)), if_pos (by simp), rgo_no ln s ht a (col + 1) _ (fun x hx => h x (by simp_all))]
    simp only [List.length_cons]
    rw [show col + 1 + a.length = col + (a.length + 1) by omega]
theorem tw_all (p : UInt8 → Bool) : ∀ (l : List UInt8), ∀ x ∈ l.takeWhile p, p x = true
  | [], x, h => by simp at h
  | c :: l, x, h => by
    cases hc : p c with
    | false => simp [List.takeWhile, hc] at h
    | true =>
      simp only [List.takeWhile, hc, List.mem_cons] at h
      rcases h with rfl | h
      · exact hc
      · exact tw_all p l x h
theorem dw_head (p : UInt8 → Bool) : ∀ (l : List UInt8) (d : UInt8) (r : List UInt8), l.dropWhile p = d :: r → p d = false
  | [], _, _, h => by simp at h
  | c :: l, d, r, h => by
    cases hc : p c with
    | false => simp only [List.dropWhile, hc] at h; cases h; exact hc
    | true => simp only [List.dropWhile, hc] at h; exact dw_head p l d r h
/-- A word at the head of a line. -/
theorem word_split (c : UInt8) (r : List UInt8) (hc : nonw c = true) (hn : ∀ x ∈ c :: r, x.toNat ≠ 10) :
    ∃ w r', c :: r = w ++ r' ∧ (∃ w', w = c :: w') ∧ (∀ x ∈ w, inword x = true) ∧ (∀ x ∈ r', x.toNat ≠ 10) ∧ ends r' := by
  refine ⟨(c :: r).takeWhile nonw, (c :: r).dropWhile nonw, (List.takeWhile_append_dropWhile).symm, ⟨r.takeWhile nonw, by simp [hc]⟩, fun x hx => ?_, fun x hx => ?_, ?_⟩
  · have h1 := tw_all nonw _ x hx
    have h2 := hn x ((List.takeWhile_sublist _).mem hx)
    simp [inword, h1, h2]
  · exact hn x ((List.dropWhile_sublist _).mem hx)
  · cases hd : (c :: r).dropWhile nonw with
    | nil => exact .inl rfl
    | cons d r' =>
      exact .inr ⟨d, r', rfl, dw_head nonw _ d r' hd⟩
theorem take_word (w r t : List UInt8) (hw : ∀ x ∈ w, inword x = true) (he : ends r) (hnr : ∀ x ∈ r, x.toNat ≠ 10) (ht : tailP t) : (w ++ (r ++ t)).takeWhile inword = w := by
  rw [List.takeWhile_append_of_pos hw]
  have : (r ++ t).takeWhile inword = [] := by
    rcases he with rfl | ⟨c, r', rfl, hc⟩
    · rcases ht with rfl | ⟨b, rfl⟩
      · rfl
      · rfl
    · simp [inword, hc]
  rw [this, List.append_nil]
theorem rgo_some (ln : Nat) {t : List UInt8} (ht : tailP t) : ∀ (n : Nat) (a : List UInt8) (k : Nat) (inw : Bool), a.length ≤ n → (∀ c ∈ a, c.toNat ≠ 10) → (inw = true → ends a) →
    rgo ln (k + 1) true false inw (a ++ t) = match toksW ln (wordsS k a) with
      | .error p => .error p
      | .ok ts => joinE ts (rgo ln (k + a.length + 1) true false false t)
  | _, [], k, inw, _, _, _ => by
    show rgo ln (k + 1) true false inw t = joinE [] _
    rw [joinE_nil]; exact rgo_tail _ _ _ _ _ _ _ ht
  | 0, c :: a, _, _, h, _, _ => by simp at h
  | n + 1, c :: a, k, inw, hl, hn, hi => by
    have hc10 := hn c (by simp)
    cases hw : nonw c with
    | false =>
      show rgo ln (k + 1) true false inw (c :: (a ++ t)) = _
      rw [rgo_cons, if_neg hc10, if_pos (by simp [hw]), wordsS_white k c a hw, hw, rgo_some ln ht n a (k + 1) false (by simp at hl; omega) (fun x hx => hn x (by simp_all)) (by simp)]
      simp only [List.length_cons]
      rw [show k + 1 + a.length = k + (a.length + 1) by omega]
    | true =>
      have hinw : inw = false := by
        cases inw with
        | false => rfl
        | true => rcases hi rfl with h | ⟨d, r', h, hd⟩
                  · cases h
                  · cases h; rw [hw] at hd; cases hd
      subst hinw
      obtain ⟨w, r, e, ⟨w', e2⟩, h1, h2, h3⟩ := word_split c a hw hn
      rw [e]
      have hws : wordsS k (w ++ r) = (k, w) :: wordsS (k + w.length) r := wordsS_word w k r (by simp [e2]) (fun x hx => by have := h1 x hx; simp [inword] at this; exact this.1) h3
      have hlen : (w ++ r).length ≤ n + 1 := by rw [← e]; exact hl
      rw [hws, List.append_assoc]
      have htk := take_word w r t h1 h3 h2 ht
      have hstep : ∀ (X : List UInt8), rgo ln (k + 1) true false false (c :: X) = match tokB ((c :: X).takeWhile inword) with
          | none => .error (ln, k + 1)
          | some (kk, tx, nn) => joinE [⟨kk, tx, nn, ln, k + 1⟩] (rgo ln (k + 1 + 1) true false true X) := fun X => by
        rw [rgo_cons, if_neg hc10, if_neg (by simp [hw]), if_neg (by simp), hw]
      have hcw : w ++ (r ++ t) = c :: (w' ++ (r ++ t)) := by rw [e2]; rfl
      rw [hcw, hstep, ← hcw, htk]
      unfold toksW
      cases htb : tokB w with
      | none => rfl
      | some x =>
        obtain ⟨kk, tx, nn⟩ := x
        simp only
        have hwl : w.length = w'.length + 1 := by rw [e2]; rfl
        rw [rgo_in ln true false (r ++ t) w' (k + 1 + 1) (fun x hx => h1 x (by rw [e2]; simp [hx])), show k + 1 + 1 + w'.length = k + w.length + 1 by omega,
          rgo_some ln ht n r (k + w.length) true (by rw [List.length_append] at hlen; omega) h2 (fun _ => h3)]
        cases toksW ln (wordsS (k + w.length) r) with
        | error p => rfl
        | ok ts =>
          simp only
          rw [joinE_joinE, List.length_append, show k + w.length + r.length + 1 = k + (w.length + r.length) + 1 by omega]
          rfl
theorem rgo_line (ln : Nat) {t : List UInt8} (ht : tailP t) : ∀ (a : List UInt8) (k : Nat), (∀ c ∈ a, c.toNat ≠ 10) →
    rgo ln (k + 1) false false false (a ++ t) = match wordsS k a with
      | [] => rgo ln (k + a.length + 1) false false false t
      | (p, w) :: ws => if begins 35 w then rgo ln (k + a.length + 1) false false false t else match toksW ln ((p, w) :: ws) with
        | .error p => .error p
        | .ok ts => joinE ts (rgo ln (k + a.length + 1) true false false t)
  | [], k, _ => rfl
  | c :: a, k, hn => by
    have hc10 := hn c (by simp)
    cases hw : nonw c with
    | false =>
      show rgo ln (k + 1) false false false (c :: (a ++ t)) = _
      rw [rgo_cons, if_neg hc10, if_pos (by simp [hw]), wordsS_white k c a hw, hw, rgo_line ln ht a (k + 1) (fun x hx => hn x (by simp_all))]
      simp only [List.length_cons]
      rw [show k + 1 + a.length = k + (a.length + 1) by omega]
    | true =>
      have e := rgo_some ln ht (c :: a).length (c :: a) k false (Nat.le_refl _) hn (by simp)
      obtain ⟨w, r, e1, ⟨w', e2⟩, h1, h2, h3⟩ := word_split c a hw hn
      have hws : wordsS k (c :: a) = (k, w) :: wordsS (k + w.length) r := by
        rw [e1]; exact wordsS_word w k r (by simp [e2]) (fun x hx => by have := h1 x hx; simp [inword] at this; exact this.1) h3
      rw [hws] at e ⊢
      have hb : begins 35 w = decide (c.toNat = 35) := by rw [e2]; rfl
      simp only [hb]
      by_cases h35 : c.toNat = 35
      · rw [if_pos (by simp [h35])]
        show rgo ln (k + 1) false false false (c :: (a ++ t)) = _
        rw [rgo_cons, if_neg hc10, if_neg (by simp [hw]), if_pos (by simp [h35]), rgo_no ln false ht a (k + 1 + 1) _ (fun x hx => hn x (by simp_all))]
        simp only [List.length_cons]
        rw [show k + 1 + 1 + a.length = k + (a.length + 1) + 1 by omega]
      · rw [if_neg (by simp [h35]), ← e]
        show rgo ln (k + 1) false false false (c :: (a ++ t)) = rgo ln (k + 1) true false false (c :: (a ++ t))
        rw [rgo_cons, rgo_cons, if_neg hc10, if_neg hc10]
        simp [hw, h35]
theorem rgo_lines : ∀ (n : Nat) (s : List UInt8) (ln : Nat), s.length ≤ n → rgo ln 1 false false false s = linesT ln (linesS s)
  | _, [], ln, _ => rfl
  | 0, c :: s, _, h => by simp at h
  | n + 1, c :: s, ln, h => by
    rcases cut_ten (c :: s) with ⟨a, b, e, hn, _⟩ | ⟨hn, _⟩
    · rw [e, linesS_cons a b hn, show (1 : Nat) = 0 + 1 from rfl, rgo_line ln (.inr ⟨b, rfl⟩) a 0 hn]
      have ih : ∀ s', rgo ln (0 + a.length + 1) s' false false (10 :: b) = joinE (endT s' ln (a.length + 1)) (linesT (ln + 1) (linesS b)) := fun s' => by
        rw [rgo_cons, if_pos (by decide), rgo_lines n b (ln + 1) (by have := congrArg List.length e; simp at this h; omega), Nat.zero_add]
      show _ = linesT ln (a :: linesS b)
      unfold linesT lineT
      cases hws : wordsS 0 a with
      | nil => simp only [ih]; unfold endT; rw [if_neg (by simp), joinE_nil]; cases linesT (ln + 1) (linesS b) <;> rfl
      | cons x ws =>
        obtain ⟨p, w⟩ := x
        simp only [ih]
        cases hb : begins 35 w with
        | true => simp only [if_true]; unfold endT; rw [if_neg (by simp), joinE_nil]; cases linesT (ln + 1) (linesS b) <;> rfl
        | false =>
          simp only [Bool.false_eq_true, if_false]
          cases toksW ln ((p, w) :: ws) with
          | error q => rfl
          | ok ts =>
            simp only
            rw [joinE_joinE]
            unfold endT
            rw [if_pos rfl]
            cases linesT (ln + 1) (linesS b) <;> rfl
    · rw [linesS_one (c :: s) (by simp) hn]
      have e0 : c :: s = (c :: s) ++ [] := by simp
      rw [show (1 : Nat) = 0 + 1 from rfl, show rgo ln (0 + 1) false false false (c :: s) = rgo ln (0 + 1) false false false ((c :: s) ++ []) by rw [List.append_nil], rgo_line ln (.inl rfl) (c :: s) 0 hn]
      have ih : ∀ s', rgo ln (0 + (c :: s).length + 1) s' false false [] = .ok (endT s' ln ((c :: s).length + 1)) := fun s' => by rw [Nat.zero_add]; rfl
      unfold linesT lineT
      cases hws : wordsS 0 (c :: s) with
      | nil => simp only [ih]; rfl
      | cons x ws =>
        obtain ⟨p, w⟩ := x
        simp only [ih]
        cases hb : begins 35 w with
        | true => simp only [if_true]; rfl
        | false =>
          simp only [Bool.false_eq_true, if_false]
          cases toksW ln ((p, w) :: ws) with
          | error q => rfl
          | ok ts => simp [joinE, endT, linesT]
theorem rgo_lexS (s : List UInt8) : rgo 1 1 false false false s = lexS s := rgo_lines s.length s 1 (Nat.le_refl _)
end Go.Proofs.YthnfkecbgfcipaaDoor
