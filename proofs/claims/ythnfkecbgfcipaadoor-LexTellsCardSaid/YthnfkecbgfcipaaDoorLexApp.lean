/- A row of tokens put behind another: what append comes to. No function of the program is walked here. -/
import Derived.Test.YthnfkecbgfcipaaDoorLexRow
import Derived.Test.YthnfkecbgfcipaaDoorAppGuard
namespace Go.Proofs.YthnfkecbgfcipaaDoor
open Go.RowKit
set_option linter.unusedVariables false
theorem addr_add (b o j : Nat) : (⟨b, o, none⟩ : Addr).add j = ⟨b, o + j, none⟩ := by
  cases j with
  | zero => rfl
  | succ j => simp [Addr.add]
theorem toks_cells {w : World} {b o : Nat} {ts : List Tok} (h : ∀ (k : Nat) (x : Tok), ts[k]? = some x → TokAt w b (o + k * 5) x) (j : Nat) (u : Value) (hj : (toksC ts)[j]? = some u) : w.cell? ⟨b, o + j, none⟩ = some u := by
  have hlt := (List.getElem?_eq_some_iff.1 hj).1
  rw [toksC_length] at hlt
  obtain ⟨x, hx⟩ : ∃ x, ts[j / 5]? = some x := ⟨_, List.getElem?_eq_getElem (by omega)⟩
  have h1 := toksC_get ts (j / 5) x hx (j % 5) (by omega)
  rw [show j / 5 * 5 + j % 5 = j by omega, hj] at h1
  have hA := h (j / 5) x hx
  have hr : j % 5 = 0 ∨ j % 5 = 1 ∨ j % 5 = 2 ∨ j % 5 = 3 ∨ j % 5 = 4 := by omega
  rcases hr with e | e | e | e | e
  · rw [e] at h1; have := hA.c0; rw [show o + j = o + j / 5 * 5 by omega, this]; exact h1.symm
  · rw [e] at h1; have := hA.c1; rw [show o + j = o + j / 5 * 5 + 1 by omega, this]; exact h1.symm
  · rw [e] at h1; have := hA.c2; rw [show o + j = o + j / 5 * 5 + 2 by omega, this]; exact h1.symm
  · rw [e] at h1; have := hA.c3; rw [show o + j = o + j / 5 * 5 + 3 by omega, this]; exact h1.symm
  · rw [e] at h1; have := hA.c4; rw [show o + j = o + j / 5 * 5 + 4 by omega, this]; exact h1.symm
theorem toksC_one (ts : List Tok) : ∀ u ∈ toksC ts, u.oneCell' = true := by
  intro u hu
  unfold toksC at hu
  obtain ⟨t, _, h⟩ := List.mem_flatMap.1 hu
  simp only [tokC, List.mem_cons, List.not_mem_nil, or_false] at h
  rcases h with rfl | rfl | rfl | rfl | rfl <;> rfl
theorem app_toks {W : World} {base : Nat} {v : Value} {n : Nat} {xs : List Value} (hrow : W.ownsRow base 41 5 v n xs) {u : Value} {ts : List Tok} (hu : TokIn W u ts) (hn : n + ts.length ≤ 5000000000) (hb : base ≤ W.heap.size) :
    ∃ v' W', (Builtin.append_ #[23, 23] 23 #[v, u]).run Tryd.prog W = .ok v' W' ∧ W'.ownsRow base 41 5 v' (n + ts.length) (xs ++ toksC ts) ∧ Below base W W' := by
  obtain ⟨i0, hi, hz0, hz1, hz2⟩ := info_parts infoTok
  obtain ⟨_, p, c, b, o, rfl, ⟨h2, h3⟩, h4⟩ := hu
  cases p with
  | none =>
    have hl : ts = [] := by
      cases ts with
      | nil => rfl
      | cons t ts => have := h2 (by simp); cases this
    subst hl
    obtain rfl := h3 rfl
    have hr := run_append_owned_none (P := Tryd.prog) (w := W) base 23 23 41 i0 5 Tryd.underlying23 hi v n xs hrow
    exact ⟨v, W, hr, by rw [show toksC [] = [] from rfl, List.append_nil]; exact hrow, Below.refl _ _⟩
  | some ad =>
    have hnews : ∀ (j : Nat) (u : Value), (toksC ts)[j]? = some u → W.cell? (ad.add j) = some u := fun j u hj => by
      have hlt := (List.getElem?_eq_some_iff.1 hj).1
      rw [toksC_length] at hlt
      have e := h2 (by omega)
      cases e
      rw [addr_add]
      exact toks_cells h4 j u hj
    have hbd := lapp_bounds (n + ts.length) hn
    obtain ⟨v', W', hr, h5, h6, _⟩ := run_append_own (P := Tryd.prog) W base 23 23 41 i0 _ 5 48 Tryd.underlying23 hi hz0 hz1 hz2 rfl (by decide) v n xs hrow ad ts.length c (toksC ts) (toksC_length ts) hnews (toksC_one ts) (by omega) (by omega) hb
    refine ⟨v', W', hr, h5, (Below.refl _ W).grown h6 hb fun k hk => ?_⟩
    rcases hrow.2 with ⟨rfl, _⟩ | ⟨g, cap, cur, rfl, hg, _⟩
    · simp [Value.ownBlock] at hk
    · simp [Value.ownBlock] at hk
      omega
/-- Two rows behind each other in a new row. -/
theorem app_two {W : World} {v u : Value} {xs ys : List Tok} (hx : TokIn W v xs) (hy : TokIn W u ys) (hn : xs.length + ys.length ≤ 1000000000) :
    ∃ v1 W1 v2 W2, (Builtin.append_ #[23, 23] 23 #[.slice (some ⟨W.heap.size, 0, none⟩) 0 0, v]).run Tryd.prog (W.alloc (.cells #[] 41)) = .ok v1 W1 ∧ (Builtin.append_ #[23, 23] 23 #[v1, u]).run Tryd.prog W1 = .ok v2 W2 ∧ TokIn W2 v2 (xs ++ ys) ∧ Below W.heap.size W W2 := by
  have hbase : W.heap.size ≤ (W.alloc (.cells #[] 41)).heap.size := by simp
  have hk7 : Below W.heap.size W (W.alloc (.cells #[] 41)) := (Below.refl _ _).alloc (Nat.le_refl _) _
  have hr0 : (W.alloc (.cells #[] 41)).ownsRow W.heap.size 41 5 (.slice (some ⟨W.heap.size, 0, none⟩) 0 0) 0 [] := by
    refine ⟨rfl, .inr ⟨W.heap.size, 0, #[], rfl, Nat.le_refl _, by show (W.heap.push _)[W.heap.size]? = _; exact Array.getElem?_push_size, Nat.le_refl _, Nat.zero_le _, rfl, rfl⟩⟩
  obtain ⟨v1, W1, hrun1, row1, hbl1⟩ := app_toks hr0 (hx.keepB hk7) (by omega) hbase
  obtain ⟨v2, W2, hrun2, row2, hbl2⟩ := app_toks row1 (hy.keepB (hk7.trans (hbl1.mono (Nat.le_refl _)))) (by omega) (Nat.le_trans hbase hbl1.size)
  refine ⟨v1, W1, v2, W2, hrun1, hrun2, tok_in (base := W.heap.size) ?_ (by rw [List.length_append]; omega), (hk7.trans hbl1).trans hbl2⟩
  have e : toksC (xs ++ ys) = toksC xs ++ toksC ys := List.flatMap_append
  rw [e, List.length_append]
  have := row2
  rwa [Nat.zero_add, List.nil_append] at this
end Go.Proofs.YthnfkecbgfcipaaDoor
