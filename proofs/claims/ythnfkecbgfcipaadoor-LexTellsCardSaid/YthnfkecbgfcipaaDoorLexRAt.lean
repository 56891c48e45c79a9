/- How far muntinref12.Lex has gone over a source: plain laws. -/
import Derived.Test.YthnfkecbgfcipaaDoorLexRGo
namespace Go.Proofs.YthnfkecbgfcipaaDoor
open Go.RowKit
set_option linter.unusedVariables false
/-- Is the byte ahead of place k part of a word of the same line? -/
def inwAt (l : List UInt8) (k bg : Nat) : Bool := decide (bg < k) && (match l[k - 1]? with
  | some c => nonw c
  | none => false)
/-- ts are the tokens ahead of place k; line ln began at bg. -/
structure RAt (l : List UInt8) (k ln bg : Nat) (sm no : Bool) (ts : List Tok) : Prop where
  le : k ≤ l.length
  bk : bg ≤ k
  lk : ln ≤ k + 1
  tk : ts.length ≤ k
  go : joinE ts (rgo ln (k - bg + 1) sm no (inwAt l k bg) (l.drop k)) = lexS l
theorem RAt.start (l : List UInt8) : RAt l 0 1 0 false false [] := ⟨Nat.zero_le _, Nat.le_refl _, Nat.le_refl _, Nat.le_refl _, by
  rw [joinE_nil]; exact rgo_lexS l⟩
theorem drop_at {α : Type} {l : List α} {k : Nat} {c : α} (h : l[k]? = some c) : l.drop k = c :: l.drop (k + 1) := by
  have hlt := (List.getElem?_eq_some_iff.1 h).1
  rw [List.drop_eq_getElem_cons hlt, (List.getElem?_eq_some_iff.1 h).2]
theorem inwAt_next {l : List UInt8} {k bg : Nat} {c : UInt8} (h : l[k]? = some c) (hb : bg ≤ k) : inwAt l (k + 1) bg = nonw c := by
  unfold inwAt
  rw [Nat.add_sub_cancel, h, decide_eq_true (show bg < k + 1 by omega)]
  simp
theorem inwAt_self (l : List UInt8) (k : Nat) : inwAt l k k = false := by
  unfold inwAt
  rw [decide_eq_false (Nat.lt_irrefl k)]
  rfl
theorem RAt.line {l : List UInt8} {k ln bg : Nat} {sm no : Bool} {ts : List Tok} {c : UInt8} (h : RAt l k ln bg sm no ts) (hc : l[k]? = some c) (h10 : c.toNat = 10) :
    RAt l (k + 1) (ln + 1) (k + 1) false false (ts ++ endT sm ln (k - bg + 1)) := by
  have hlt := (List.getElem?_eq_some_iff.1 hc).1
  refine ⟨hlt, Nat.le_refl _, by have := h.lk; omega, ?_, ?_⟩
  · have := h.tk
    rw [List.length_append]
    unfold endT
    split <;> simp <;> omega
  · have e := h.go
    rw [drop_at hc, rgo_cons, if_pos h10, joinE_joinE] at e
    rw [Nat.sub_self, inwAt_self]
    exact e
theorem RAt.skip {l : List UInt8} {k ln bg : Nat} {sm no : Bool} {ts : List Tok} {c : UInt8} (h : RAt l k ln bg sm no ts) (hc : l[k]? = some c) (h10 : c.toNat ≠ 10) (hs : ((!nonw c || no) || inwAt l k bg) = true) :
    RAt l (k + 1) ln bg sm no ts := by
  have hlt := (List.getElem?_eq_some_iff.1 hc).1
  refine ⟨hlt, by have := h.bk; omega, by have := h.lk; omega, by have := h.tk; omega, ?_⟩
  have e := h.go
  rw [drop_at hc, rgo_cons, if_neg h10, if_pos hs] at e
  rw [inwAt_next hc h.bk, show k + 1 - bg + 1 = k - bg + 1 + 1 by have := h.bk; omega]
  exact e
theorem RAt.hash {l : List UInt8} {k ln bg : Nat} {no : Bool} {ts : List Tok} {c : UInt8} (h : RAt l k ln bg false no ts) (hc : l[k]? = some c) (h10 : c.toNat ≠ 10) (hs : ((!nonw c || no) || inwAt l k bg) = false) (h35 : c.toNat = 35) :
    RAt l (k + 1) ln bg false true ts := by
  have hlt := (List.getElem?_eq_some_iff.1 hc).1
  refine ⟨hlt, by have := h.bk; omega, by have := h.lk; omega, by have := h.tk; omega, ?_⟩
  have e := h.go
  rw [drop_at hc, rgo_cons, if_neg h10, hs, if_neg (by simp), if_pos (by simp [h35])] at e
  rw [inwAt_next hc h.bk, show k + 1 - bg + 1 = k - bg + 1 + 1 by have := h.bk; omega]
  exact e
theorem RAt.tok {l : List UInt8} {k ln bg : Nat} {sm no : Bool} {ts : List Tok} {c : UInt8} {x : Nat × List UInt8 × Nat} (h : RAt l k ln bg sm no ts) (hc : l[k]? = some c) (h10 : c.toNat ≠ 10) (hs : ((!nonw c || no) || inwAt l k bg) = false) (h35 : (!sm && decide (c.toNat = 35)) = false)
    (ht : tokB ((l.drop k).takeWhile inword) = some x) : RAt l (k + 1) ln bg true no (ts ++ [⟨x.1, x.2.1, x.2.2, ln, k - bg + 1⟩]) := by
  have hlt := (List.getElem?_eq_some_iff.1 hc).1
  refine ⟨hlt, by have := h.bk; omega, by have := h.lk; omega, by have := h.tk; simp; omega, ?_⟩
  have e := h.go
  rw [drop_at hc] at ht
  rw [drop_at hc, rgo_cons, if_neg h10, hs, if_neg (by simp), h35, if_neg (by simp), ht] at e
  obtain ⟨a, b, d⟩ := x
  simp only at e
  rw [joinE_joinE] at e
  rw [inwAt_next hc h.bk, show k + 1 - bg + 1 = k - bg + 1 + 1 by have := h.bk; omega]
  exact e
theorem RAt.err {l : List UInt8} {k ln bg : Nat} {sm no : Bool} {ts : List Tok} {c : UInt8} (h : RAt l k ln bg sm no ts) (hc : l[k]? = some c) (h10 : c.toNat ≠ 10) (hs : ((!nonw c || no) || inwAt l k bg) = false) (h35 : (!sm && decide (c.toNat = 35)) = false)
    (ht : tokB ((l.drop k).takeWhile inword) = none) : lexS l = .error (ln, k - bg + 1) := by
  have e := h.go
  rw [drop_at hc] at ht
  rw [drop_at hc, rgo_cons, if_neg h10, hs, if_neg (by simp), h35, if_neg (by simp), ht] at e
  exact e.symm
theorem RAt.fin {l : List UInt8} {ln bg : Nat} {sm no : Bool} {ts : List Tok} (h : RAt l l.length ln bg sm no ts) : lexS l = .ok (ts ++ endT sm ln (l.length - bg + 1)) := by
  have e := h.go
  rw [List.drop_length] at e
  exact e.symm
/-- The word at place k. -/
theorem word_to {l : List UInt8} {k e : Nat} (he : e ≤ l.length) (hk : k ≤ e) (hin : ∀ j c, k ≤ j → j < e → l[j]? = some c → inword c = true) (hend : ∀ c, l[e]? = some c → inword c = false) :
    (l.drop k).takeWhile inword = (l.drop k).take (e - k) := by
  have h1 : l.drop k = (l.drop k).take (e - k) ++ l.drop e := by
    rw [← List.take_append_drop (e - k) (l.drop k)]
    congr 1
    · rw [List.take_append_drop]
    · rw [List.drop_drop, show k + (e - k) = e by omega]
  have h2 : ∀ x ∈ (l.drop k).take (e - k), inword x = true := fun x hx => by
    obtain ⟨j, hj⟩ := List.getElem?_of_mem hx
    rw [List.getElem?_take] at hj
    split at hj
    · rw [List.getElem?_drop] at hj
      exact hin (k + j) x (by omega) (by omega) hj
    · cases hj
  have h3 : (l.drop e).takeWhile inword = [] := by
    cases hd : l.drop e with
    | nil => rfl
    | cons d r =>
      have hde : l[e]? = some d := by
        have := congrArg (fun z => z[0]?) hd
        simpa [List.getElem?_drop] using this
      simp [hend d hde]
  generalize hW : (l.drop k).take (e - k) = W at h1 h2 ⊢
  rw [h1, List.takeWhile_append_of_pos h2, h3, List.append_nil]
theorem tw_len {p : UInt8 → Bool} : ∀ (l : List UInt8), (∀ j d, j < (l.takeWhile p).length → l[j]? = some d → p d = true) ∧ (l.takeWhile p).length ≤ l.length ∧ (∀ d, l[(l.takeWhile p).length]? = some d → p d = false) ∧ l.takeWhile p = l.take (l.takeWhile p).length
  | [] => ⟨fun j d h => by simp at h, by simp, by simp, rfl⟩
  | c :: l => by
    obtain ⟨h1, h2, h3, h4⟩ := tw_len (p := p) l
    cases hc : p c with
    | false =>
      have e : (c :: l).takeWhile p = [] := by simp [List.takeWhile, hc]
      rw [e]
      exact ⟨fun j d h => by simp at h, by simp, fun d hd => by simp at hd; subst hd; exact hc, rfl⟩
    | true =>
      have e : (c :: l).takeWhile p = c :: l.takeWhile p := by simp [List.takeWhile, hc]
      rw [e]
      refine ⟨fun j d hj hd => ?_, by simp; omega, fun d hd => h3 d (by simpa using hd), ?_⟩
      · cases j with
        | zero => simp at hd; subst hd; exact hc
        | succ j => exact h1 j d (by simpa using hj) (by simpa using hd)
      · rw [List.length_cons, List.take_succ_cons, ← h4]
end Go.Proofs.YthnfkecbgfcipaaDoor
