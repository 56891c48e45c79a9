/- Where words stand in a source: plain laws. -/
import Derived.Test.YthnfkecbgfcipaaDoorLexRAt
namespace Go.Proofs.YthnfkecbgfcipaaDoor
open Go.RowKit
set_option linter.unusedVariables false
/-- Where the line of place b ends. -/
def nlS (l : List UInt8) (b : Nat) : Nat := b + ((l.drop b).takeWhile fun c => decide (c.toNat ≠ 10)).length
/-- Where line n + 1 begins. -/
def lineS (l : List UInt8) : Nat → Nat
  | 0 => 0
  | n + 1 => nlS l (lineS l n) + 1
theorem tw_to {p : UInt8 → Bool} {l : List UInt8} {k e : Nat} (hk : k ≤ e) (hin : ∀ j c, k ≤ j → j < e → l[j]? = some c → p c = true) (hend : ∀ c, l[e]? = some c → p c = false) :
    (l.drop k).takeWhile p = (l.drop k).take (e - k) := by
  have h1 : l.drop k = (l.drop k).take (e - k) ++ l.drop e := by
    rw [← List.take_append_drop (e - k) (l.drop k)]
    congr 1
    · rw [List.take_append_drop]
    · rw [List.drop_drop, show k + (e - k) = e by omega]
  have h2 : ∀ x ∈ (l.drop k).take (e - k), p x = true := fun x hx => by
    obtain ⟨j, hj⟩ := List.getElem?_of_mem hx
    rw [List.getElem?_take] at hj
    split at hj
    · rw [List.getElem?_drop] at hj
      exact hin (k + j) x (by omega) (by omega) hj
    · cases hj
  have h3 : (l.drop e).takeWhile p = [] := by
    cases hd : l.drop e with
    | nil => rfl
    | cons d r =>
      have hde : l[e]? = some d := by
        have := congrArg (fun z => z[0]?) hd
        simpa [List.getElem?_drop] using this
      simp [hend d hde]
  generalize hW : (l.drop k).take (e - k) = W at h1 h2 ⊢
  rw [h1, List.takeWhile_append_of_pos h2, h3, List.append_nil]
/-- The line ends at e. -/
theorem nl_to {l : List UInt8} {b e : Nat} (he : e ≤ l.length) (hb : b ≤ e) (hin : ∀ j c, b ≤ j → j < e → l[j]? = some c → c.toNat ≠ 10) (hend : ∀ c, l[e]? = some c → c.toNat = 10) : nlS l b = e := by
  unfold nlS
  rw [tw_to hb (fun j c h1 h2 h3 => decide_eq_true (hin j c h1 h2 h3)) (fun c h => by simp [hend c h]), List.length_take, List.length_drop]
  omega
/-- Line ln begins at bg, and place k stands in it. -/
structure LAt (l : List UInt8) (k ln bg : Nat) : Prop where
  le : k ≤ l.length
  bk : bg ≤ k
  pos : 0 < ln
  eq : lineS l (ln - 1) = bg
  no : ∀ j c, bg ≤ j → j < k → l[j]? = some c → c.toNat ≠ 10
theorem LAt.start (l : List UInt8) : LAt l 0 1 0 := ⟨Nat.zero_le _, Nat.le_refl _, Nat.one_pos, rfl, fun j c _ h => by omega⟩
theorem LAt.next {l : List UInt8} {k ln bg : Nat} {c : UInt8} (h : LAt l k ln bg) (hc : l[k]? = some c) (h10 : c.toNat ≠ 10) : LAt l (k + 1) ln bg := by
  have hlt := (List.getElem?_eq_some_iff.1 hc).1
  refine ⟨hlt, by have := h.bk; omega, h.pos, h.eq, fun j d h1 h2 h3 => ?_⟩
  by_cases hj : j = k
  · subst hj; rw [hc] at h3; cases h3; exact h10
  · exact h.no j d h1 (by omega) h3
theorem LAt.line {l : List UInt8} {k ln bg : Nat} {c : UInt8} (h : LAt l k ln bg) (hc : l[k]? = some c) (h10 : c.toNat = 10) : LAt l (k + 1) (ln + 1) (k + 1) := by
  have hlt := (List.getElem?_eq_some_iff.1 hc).1
  refine ⟨hlt, Nat.le_refl _, Nat.succ_pos _, ?_, fun j d h1 h2 => by omega⟩
  obtain ⟨n, rfl⟩ : ∃ n, ln = n + 1 := ⟨ln - 1, by have := h.pos; omega⟩
  have he := h.eq
  rw [Nat.add_sub_cancel] at he
  show nlS l (lineS l n) + 1 = k + 1
  rw [he, nl_to h.le h.bk h.no (fun d hd => by rw [hc] at hd; cases hd; exact h10)]
theorem LAt.off {l : List UInt8} {k ln bg : Nat} (h : LAt l k ln bg) : lineS l (ln - 1) + (k - bg + 1) - 1 = k := by
  have := h.bk
  rw [h.eq]
  omega
/-- Tokens that stand where they say, from place k on. -/
def PlacedFrom (l : List UInt8) : Nat → List Tok → Prop
  | _, [] => True
  | k, t :: r => 0 < t.line ∧ 0 < t.col ∧ k ≤ lineS l (t.line - 1) + t.col - 1 ∧ lineS l (t.line - 1) + t.col - 1 + t.text.length ≤ l.length ∧
      (l.drop (lineS l (t.line - 1) + t.col - 1)).take t.text.length = t.text ∧ PlacedFrom l (lineS l (t.line - 1) + t.col - 1 + 1) r
theorem PlacedFrom.mono {l : List UInt8} {k k' : Nat} (h : k ≤ k') : ∀ {ts : List Tok}, PlacedFrom l k' ts → PlacedFrom l k ts
  | [], _ => trivial
  | t :: r, ⟨a, b, c, d⟩ => ⟨a, b, Nat.le_trans h c, d⟩
theorem tokB_pre {w : List UInt8} {x : Nat × List UInt8 × Nat} (h : tokB w = some x) : ∃ r, w = x.2.1 ++ r := by
  unfold tokB at h
  have hd : ∃ r, w = w.dropLast ++ r := by
    cases w with
    | nil => exact ⟨[], rfl⟩
    | cons c r => exact ⟨[(c :: r).getLast (by simp)], (List.dropLast_concat_getLast (by simp)).symm⟩
  repeat' split at h
  all_goals first
    | (cases h; refine ⟨[], ?_⟩; simp; done)
    | (cases h; exact hd)
    | (cases h)
theorem end_placed {l : List UInt8} {k ln bg : Nat} (h : LAt l k ln bg) (sm : Bool) {ts : List Tok} (ht : PlacedFrom l (k + 1) ts) : PlacedFrom l k (endT sm ln (k - bg + 1) ++ ts) := by
  cases sm with
  | false => exact ht.mono (by omega)
  | true =>
    show PlacedFrom l k (⟨6, [], 0, ln, k - bg + 1⟩ :: ts)
    have ho := h.off
    have hl := h.le
    refine ⟨h.pos, Nat.succ_pos _, ?_, ?_, ?_, ?_⟩
    · show k ≤ lineS l (ln - 1) + (k - bg + 1) - 1; omega
    · show lineS l (ln - 1) + (k - bg + 1) - 1 + 0 ≤ _; omega
    · rfl
    · show PlacedFrom l (lineS l (ln - 1) + (k - bg + 1) - 1 + 1) ts; rw [ho]; exact ht
theorem joinE_ok {a : List Tok} {x : Except (Nat × Nat) (List Tok)} {ts : List Tok} (h : joinE a x = .ok ts) : ∃ b, x = .ok b ∧ ts = a ++ b := by
  cases x with
  | ok b => exact ⟨b, rfl, by cases h; rfl⟩
  | error p => cases h
theorem joinE_err {a : List Tok} {x : Except (Nat × Nat) (List Tok)} {p : Nat × Nat} (h : joinE a x = .error p) : x = .error p := by
  cases x with
  | ok b => cases h
  | error q => cases h; rfl
theorem drop_head {l : List UInt8} {k : Nat} {c : UInt8} {r : List UInt8} (h : l.drop k = c :: r) : l[k]? = some c ∧ l.drop (k + 1) = r := by
  constructor
  · have := congrArg (fun z => z[0]?) h
    simpa [List.getElem?_drop] using this
  · rw [← List.tail_drop, h]; rfl
theorem col_next {k bg : Nat} (h : bg ≤ k) : k - bg + 1 + 1 = k + 1 - bg + 1 := by omega
theorem rgo_placed (l : List UInt8) : ∀ (r : List UInt8) (k ln bg : Nat) (sm no inw : Bool) (ts : List Tok), l.drop k = r → LAt l k ln bg → rgo ln (k - bg + 1) sm no inw r = .ok ts → PlacedFrom l k ts
  | [], k, ln, bg, sm, no, inw, ts, hr, hL, h => by
    cases h
    have := end_placed hL sm (ts := []) trivial
    rwa [List.append_nil] at this
  | c :: r, k, ln, bg, sm, no, inw, ts, hr, hL, h => by
    obtain ⟨hc, hr'⟩ := drop_head hr
    rw [rgo_cons] at h
    by_cases h10 : c.toNat = 10
    · rw [if_pos h10] at h
      obtain ⟨b, hb, rfl⟩ := joinE_ok h
      have ih := rgo_placed l r (k + 1) (ln + 1) (k + 1) false false false b hr' (hL.line hc h10) (by rw [Nat.sub_self]; exact hb)
      exact end_placed hL sm ih
    · rw [if_neg h10, col_next hL.bk] at h
      have hN := hL.next hc h10
      split at h
      · exact (rgo_placed l r (k + 1) ln bg sm no (nonw c) ts hr' hN h).mono (by omega)
      · split at h
        · exact (rgo_placed l r (k + 1) ln bg sm true (nonw c) ts hr' hN h).mono (by omega)
        · split at h
          · cases h
          · rename_i kk tx nn htb
            obtain ⟨b, hb, rfl⟩ := joinE_ok h
            have ih := rgo_placed l r (k + 1) ln bg true no (nonw c) b hr' hN hb
            obtain ⟨q, hq⟩ := tokB_pre htb
            have ho := hL.off
            have hpre : l.drop k = tx ++ (q ++ (c :: r).dropWhile inword) := by
              rw [hr, ← List.append_assoc, ← hq]
              exact List.takeWhile_append_dropWhile.symm
            show PlacedFrom l k (⟨kk, tx, nn, ln, k - bg + 1⟩ :: b)
            refine ⟨hL.pos, Nat.succ_pos _, ?_, ?_, ?_, ?_⟩
            · show k ≤ lineS l (ln - 1) + (k - bg + 1) - 1; omega
            · show lineS l (ln - 1) + (k - bg + 1) - 1 + tx.length ≤ _
              have := congrArg List.length hpre
              rw [List.length_drop, List.length_append] at this
              have := hL.le
              omega
            · show (l.drop (lineS l (ln - 1) + (k - bg + 1) - 1)).take tx.length = tx
              rw [ho, hpre]; simp
            · show PlacedFrom l (lineS l (ln - 1) + (k - bg + 1) - 1 + 1) b; rw [ho]; exact ih
/-- The tokens of a source stand where they say. -/
theorem lex_placed (l : List UInt8) (ts : List Tok) (h : lexS l = .ok ts) : PlacedFrom l 0 ts :=
  rgo_placed l l 0 1 0 false false false ts rfl (LAt.start l) (by rw [← rgo_lexS] at h; exact h)
theorem tw_take {p : UInt8 → Bool} : ∀ (l : List UInt8) (m : Nat), (l.takeWhile p).length < m → (l.take m).takeWhile p = l.takeWhile p
  | [], m, _ => by simp
  | c :: l, 0, h => by omega
  | c :: l, m + 1, h => by
    cases hc : p c with
    | false => simp [List.takeWhile, hc]
    | true =>
      simp only [List.takeWhile, hc, List.take_succ_cons, List.length_cons] at h ⊢
      rw [tw_take l m (by omega)]
/-- What is ahead of an error's place. -/
theorem rgo_err (l : List UInt8) : ∀ (r : List UInt8) (k ln bg : Nat) (sm no inw : Bool) (a b : Nat), l.drop k = r → LAt l k ln bg → rgo ln (k - bg + 1) sm no inw r = .error (a, b) →
    ∃ m ts', k + m < l.length ∧ 0 < a ∧ 0 < b ∧ lineS l (a - 1) + b - 1 = k + m ∧ rgo ln (k - bg + 1) sm no inw (r.take m) = .ok ts' ∧ ts'.length ≤ m + (if sm && !inw then 1 else 0) ∧
      (inw = true → (r.takeWhile inword).length < m)
  | [], k, ln, bg, sm, no, inw, a, b, hr, hL, h => by cases h
  | c :: r, k, ln, bg, sm, no, inw, a, b, hr, hL, h => by
    obtain ⟨hc, hr'⟩ := drop_head hr
    have hlt := (List.getElem?_eq_some_iff.1 hc).1
    rw [rgo_cons] at h
    by_cases h10 : c.toNat = 10
    · rw [if_pos h10] at h
      obtain ⟨m, ts, h1, h2, h3, h4, h5, h6, h7⟩ := rgo_err l r (k + 1) (ln + 1) (k + 1) false false false a b hr' (hL.line hc h10) (by rw [Nat.sub_self]; exact joinE_err h)
      rw [Nat.sub_self] at h5
      refine ⟨m + 1, endT sm ln (k - bg + 1) ++ ts, by omega, h2, h3, by omega, ?_, ?_, fun _ => ?_⟩
      · rw [List.take_succ_cons, rgo_cons, if_pos h10, h5]; rfl
      · rw [List.length_append]
        simp at h6
        unfold endT
        cases sm <;> simp <;> omega
      · simp [List.takeWhile, inword, h10]
    · rw [if_neg h10, col_next hL.bk] at h
      have hN := hL.next hc h10
      split at h
      · rename_i hg
        obtain ⟨m, ts, h1, h2, h3, h4, h5, h6, h7⟩ := rgo_err l r (k + 1) ln bg sm no (nonw c) a b hr' hN h
        refine ⟨m + 1, ts, by omega, h2, h3, by omega, ?_, ?_, fun hi => ?_⟩
        · rw [List.take_succ_cons, rgo_cons, if_neg h10, if_pos hg, col_next hL.bk]; exact h5
        · revert h6; cases sm <;> cases inw <;> cases nonw c <;> simp <;> omega
        · cases hw : nonw c with
          | false => simp [List.takeWhile, inword, hw]
          | true =>
            have := h7 hw
            simp [List.takeWhile, inword, hw, h10]
            simpa [inword] using this
      · rename_i hg
        split at h
        · rename_i hg2
          obtain ⟨m, ts, h1, h2, h3, h4, h5, h6, h7⟩ := rgo_err l r (k + 1) ln bg sm true (nonw c) a b hr' hN h
          refine ⟨m + 1, ts, by omega, h2, h3, by omega, ?_, ?_, fun hi => ?_⟩
          · rw [List.take_succ_cons, rgo_cons, if_neg h10, if_neg hg, if_pos hg2, col_next hL.bk]; exact h5
          · revert h6; cases sm <;> cases inw <;> cases nonw c <;> simp <;> omega
          · subst hi; simp at hg
        · rename_i hg2
          have hwc : nonw c = true := by
            cases hw : nonw c with
            | true => rfl
            | false => rw [hw] at hg; simp at hg
          split at h
          · cases h
            refine ⟨0, endT sm ln (k - bg + 1), by omega, hL.pos, Nat.succ_pos _, hL.off, rfl, ?_, fun hi => ?_⟩
            · have : inw = false := by cases inw with
                | false => rfl
                | true => simp at hg
              subst this
              unfold endT
              cases sm <;> simp
            · subst hi; simp at hg
          · rename_i kk tx nn htb
            obtain ⟨m, ts, h1, h2, h3, h4, h5, h6, h7⟩ := rgo_err l r (k + 1) ln bg true no (nonw c) a b hr' hN (joinE_err h)
            have h8 := h7 hwc
            refine ⟨m + 1, [⟨kk, tx, nn, ln, k - bg + 1⟩] ++ ts, by omega, h2, h3, by omega, ?_, ?_, fun hi => ?_⟩
            · have htk : (c :: r.take m).takeWhile inword = (c :: r).takeWhile inword := by
                rw [← List.take_succ_cons]
                apply tw_take
                simp [List.takeWhile, inword, hwc, h10]
                simpa [inword] using h8
              rw [List.take_succ_cons, rgo_cons, if_neg h10, if_neg hg, if_neg hg2, htk, htb]
              simp only
              rw [col_next hL.bk, h5]
              rfl
            · rw [hwc] at h6
              simp at h6 ⊢
              omega
            · subst hi; simp at hg
/-- What is ahead of a source's error. -/
theorem lex_err_place (l : List UInt8) (p : Nat × Nat) (h : lexS l = .error p) : 0 < p.1 ∧ 0 < p.2 ∧ lineS l (p.1 - 1) + p.2 - 1 < l.length ∧
    ∃ ts, lexS (l.take (lineS l (p.1 - 1) + p.2 - 1)) = .ok ts ∧ ts.length < l.length := by
  obtain ⟨a, b⟩ := p
  obtain ⟨m, ts, h1, h2, h3, h4, h5, h6, _⟩ := rgo_err l l 0 1 0 false false false a b rfl (LAt.start l) (by rw [← rgo_lexS] at h; exact h)
  rw [Nat.zero_add] at h1 h4
  refine ⟨h2, h3, ?_, ts, ?_, ?_⟩
  · show lineS l (a - 1) + b - 1 < _; omega
  · show lexS (l.take (lineS l (a - 1) + b - 1)) = _
    rw [h4, ← rgo_lexS]; exact h5
  · simp at h6; omega
theorem nl_facts (l : List UInt8) (b : Nat) (hb : b ≤ l.length) : b ≤ nlS l b ∧ nlS l b ≤ l.length ∧ (∀ j d, b ≤ j → j < nlS l b → l[j]? = some d → d.toNat ≠ 10) ∧ (∀ d, l[nlS l b]? = some d → d.toNat = 10) := by
  obtain ⟨h1, h2, h3, _⟩ := tw_len (p := fun c => decide (c.toNat ≠ 10)) (l.drop b)
  unfold nlS
  generalize ((l.drop b).takeWhile fun c => decide (c.toNat ≠ 10)).length = n at h1 h2 h3 ⊢
  rw [List.length_drop] at h2
  refine ⟨by omega, by omega, fun j d hj1 hj2 hd => ?_, fun d hd => ?_⟩
  · have := h1 (j - b) d (by omega) (by rw [List.getElem?_drop, show b + (j - b) = j by omega]; exact hd)
    exact of_decide_eq_true this
  · have := h3 d (by rw [List.getElem?_drop]; exact hd)
    simpa using this
theorem lineS_up (l : List UInt8) : ∀ (m n : Nat), n ≤ m → lineS l n + (m - n) ≤ lineS l m
  | 0, n, h => by rw [show n = 0 by omega]; exact Nat.le_refl _
  | m + 1, n, h => by
    by_cases e : n = m + 1
    · subst e; omega
    · have ih := lineS_up l m n (by omega)
      have : lineS l m + 1 ≤ lineS l (m + 1) := by
        show lineS l m + 1 ≤ nlS l (lineS l m) + 1
        unfold nlS; omega
      omega
end Go.Proofs.YthnfkecbgfcipaaDoor
