/- Ranges over functions, met by hand: the statement, and one round. No function of the program is walked here. -/
import Derived.Test.YthnfkecbgfcipaaDoorLexIter
namespace Go.Proofs.YthnfkecbgfcipaaDoor
open Go.RowKit Go.Shelf
set_option linter.unusedVariables false
/-- The record of a loop. -/
def RecOf (rec : LoopState → Option Code → Loop) (fn : FuncId) (tmps : Array Value) (ps : Array Tmp) (assign body : Code) (D : Nat) : Prop :=
  ∀ st pe, rec st pe = { state := st, pending := pe, fn := fn, tmps := tmps, params := ps, assign := assign, body := body, defers := D }
theorem range_outer {F : Fence} {n : Nat} {P : Program} {g : Operand} {ps : Array Tmp} {assign body : Code} {Q : Exit → Act → World → Prop} {a : Act} {w : World} (hro : F.round = none) (h1 : 1 ≤ n) {gf : Nat} {lb : Array Value}
    (hg : a.eval g = .func (.func gf) #[] lb) (hF : F.fn gf) (eg : ∀ args w, (callFunc gf args).run P w = .ok (.enter gf args) w)
    (h : ∀ fn rec, F.fn fn → RecOf rec fn a.tmps ps assign body w.heap.size →
      CallsIn F (n - 1) P gf (#[.func (.yield (w.heap.size + 1)) #[] #[]] ++ lb) ((w.alloc (.deferred (some []))).alloc (.loop (rec .ready none))) (rangePost F n P (w.heap.size + 1) Q { a with defers := { target := .collected w.heap.size, args := #[] } :: a.defers })) :
    (Code.rangeFunc g ps assign body).wpIn F n P Q a w := by
  refine wpIn_rangeFunc fun fn hfn => ?_
  rw [hro]
  have h2 := h fn (fun st pe => { state := st, pending := pe, fn := fn, tmps := a.tmps, params := ps, assign := assign, body := body, defers := w.heap.size }) hfn (fun _ _ => rfl)
  obtain ⟨W1, hW1⟩ : ∃ W1, ((w.alloc (.deferred (some []))).alloc (.loop { state := .ready, pending := none, fn := fn, tmps := a.tmps, params := ps, assign := assign, body := body, defers := w.heap.size })) = W1 := ⟨_, rfl⟩
  refine ⟨w.heap.size + 1, [{ target := .collected w.heap.size, args := #[] }], W1, { target := .fn (.func gf) lb, args := #[.func (.yield (w.heap.size + 1)) #[] #[]] }, W1, gf, #[.func (.yield (w.heap.size + 1)) #[] #[]] ++ lb, W1, ?_, ?_, fun f' hf' => ?_, ?_, fun _ => h1, ?_⟩
  · rw [← hW1]; exact run_enterLoop_outer _ _ _ _ _
  · simp only [resolve, hg]
    simp [go_sem]
  · simp [Target.leads] at hf'
    subst hf'
    exact hF
  · simp [invoke, go_sem, eg]
  · rw [← hW1]; exact h2
theorem range_inner {F : Fence} {n : Nat} {P : Program} {g : Operand} {ps : Array Tmp} {assign body : Code} {Q : Exit → Act → World → Prop} {a : Act} {w : World} {l₀ : Nat} {r₀ : Loop} (hro : F.round = some l₀) (hl₀ : w.heap[l₀]? = some (.loop r₀)) (h1 : 1 ≤ n) {gf : Nat} {lb : Array Value}
    (hg : a.eval g = .func (.func gf) #[] lb) (hF : F.fn gf) (eg : ∀ args w, (callFunc gf args).run P w = .ok (.enter gf args) w)
    (h : ∀ fn rec, F.fn fn → RecOf rec fn a.tmps ps assign body r₀.defers →
      CallsIn F (n - 1) P gf (#[.func (.yield w.heap.size) #[] #[]] ++ lb) (w.alloc (.loop (rec .ready none))) (rangePost F n P w.heap.size Q a)) :
    (Code.rangeFunc g ps assign body).wpIn F n P Q a w := by
  refine wpIn_rangeFunc fun fn hfn => ?_
  rw [hro]
  have h2 := h fn (fun st pe => { state := st, pending := pe, fn := fn, tmps := a.tmps, params := ps, assign := assign, body := body, defers := r₀.defers }) hfn (fun _ _ => rfl)
  obtain ⟨W1, hW1⟩ : ∃ W1, (w.alloc (.loop { state := .ready, pending := none, fn := fn, tmps := a.tmps, params := ps, assign := assign, body := body, defers := r₀.defers })) = W1 := ⟨_, rfl⟩
  refine ⟨w.heap.size, [], W1, { target := .fn (.func gf) lb, args := #[.func (.yield w.heap.size) #[] #[]] }, W1, gf, #[.func (.yield w.heap.size) #[] #[]] ++ lb, W1, ?_, ?_, fun f' hf' => ?_, ?_, fun _ => h1, ?_⟩
  · rw [← hW1]; exact run_enterLoop_inner hl₀ _ _ _ _ _
  · simp only [resolve, hg]
    simp [go_sem]
  · simp [Target.leads] at hf'
    subst hf'
    exact hF
  · simp [invoke, go_sem, eg]
  · rw [← hW1]; exact h2
/-- How a round may end: R says of what world. -/
def roundEnd (rec : LoopState → Option Code → Loop) (l : Nat) (R : Ending → World → Prop) : Exit → Act → World → Prop
  | .normal, _, w => w.heap[l]? = some (.loop (rec .busy none)) ∧ R (.returned (.bool true)) (w.putObj l (.loop (rec .ready none)))
  | .ret, _, w => w.heap[l]? = some (.loop (rec .busy none)) ∧ R (.returned (.bool false)) (w.putObj l (.loop (rec .done (some .ret))))
  | .exit id, _, w => w.heap[l]? = some (.loop (rec .busy none)) ∧ R (.returned (.bool false)) (w.putObj l (.loop (rec .done (some (.exit id)))))
  | .goto t, _, w => w.heap[l]? = some (.loop (rec .busy none)) ∧ R (.returned (.bool false)) (w.putObj l (.loop (rec .done (some (.goto t)))))
  | .panic _, _, _ => False
  | .outgrown, _, _ => False
theorem one_round {F : Fence} {n : Nat} {P : Program} {l D : Nat} {rec : LoopState → Option Code → Loop} {fn : FuncId} {tmps args : Array Value} {ps : Array Tmp} {assign body : Code} {W : World} {R : Ending → World → Prop}
    (hfn : F.fn fn) (hrec : RecOf rec fn tmps ps assign body D) (hl : W.heap[l]? = some (.loop (rec .ready none))) (hs : args.size = ps.size)
    (h : assign.wpIn (F.inRound l) n P (Exit.then (fun a₁ w₁ => w₁.heap[l]? = some (.loop (rec .ready none)) ∧ body.wpIn (F.inRound l) n P (roundEnd rec l R) a₁ (w₁.putObj l (.loop (rec .busy none)))) (fun _ _ _ => False))
      { tmps := (ps.zip args).foldl (fun t (p, v) => t.setIfInBounds p v) tmps, defers := [] } W) : YieldAt F n P l args W R := by
  have hy := run_yield (P := P) (args := args) hl (by rw [hrec]; exact hs)
  rw [hrec] at hy
  refine ⟨fn, _, assign, body, hy, roundIn_of_wpIn hfn (wpIn_mono h ?_)⟩
  rintro e a1 w1 hp
  cases e with
  | normal =>
    obtain ⟨hl1, hb⟩ := hp
    have h2 := run_beginRound (P := P) hl1 (by rw [hrec])
    have e1 : ({ rec .ready none with state := .busy } : Loop) = rec .busy none := by rw [hrec, hrec]
    rw [e1] at h2
    refine ⟨_, h2, wpIn_mono hb ?_⟩
    have fin : ∀ (jump : Option Code) (W3 : World), W3.heap[l]? = some (.loop (rec .busy none)) →
        (Instr.endRound l jump).run P W3 = .ok (.bool jump.isNone) (W3.putObj l (.loop (rec (if jump.isNone then .ready else .done) jump))) := fun jump W3 h3 => by
      have h4 := run_endRound (P := P) jump h3
      rw [hrec] at h4 ⊢
      exact h4
    rintro e a3 W3 hq
    cases e with
    | normal => exact ⟨_, _, fin none W3 hq.1, hq.2⟩
    | ret => exact ⟨_, _, fin (some .ret) W3 hq.1, hq.2⟩
    | exit id => exact ⟨_, _, fin (some (.exit id)) W3 hq.1, hq.2⟩
    | goto t => exact ⟨_, _, fin (some (.goto t)) W3 hq.1, hq.2⟩
    | panic c => exact hq.elim
    | outgrown => exact hq.elim
  | ret => exact hp.elim
  | exit id => exact hp.elim
  | goto t => exact hp.elim
  | panic c => exact hp.elim
  | outgrown => exact hp.elim
/-- Behind the loop. -/
theorem range_done {F : Fence} {n : Nat} {P : Program} {l D : Nat} {rec : LoopState → Option Code → Loop} {fn : FuncId} {tmps : Array Value} {ps : Array Tmp} {assign body : Code} {Q : Exit → Act → World → Prop} {a : Act} {v : Value} {W : World}
    (hrec : RecOf rec fn tmps ps assign body D) (hl : W.heap[l]? = some (.loop (rec .ready none))) (h : Q .normal a (W.putObj l (.loop (rec .exhausted none)))) : rangePost F n P l Q a (.returned v) W := by
  have h2 := run_endLoop (P := P) hl (by rw [hrec]; simp)
  rw [hrec] at h2
  refine ⟨none, _, h2, ?_⟩
  rw [hrec] at h
  exact h
theorem range_left {F : Fence} {n : Nat} {P : Program} {l D : Nat} {rec : LoopState → Option Code → Loop} {fn : FuncId} {tmps : Array Value} {ps : Array Tmp} {assign body : Code} {Q : Exit → Act → World → Prop} {a : Act} {v : Value} {W : World} {c : Code}
    (hrec : RecOf rec fn tmps ps assign body D) (hl : W.heap[l]? = some (.loop (rec .done (some c)))) (h : c.wpIn F n P Q a (W.putObj l (.loop (rec .exhausted (some c))))) : rangePost F n P l Q a (.returned v) W := by
  have h2 := run_endLoop (P := P) hl (by rw [hrec]; simp)
  rw [hrec] at h2
  refine ⟨some c, _, h2, ?_⟩
  rw [hrec] at h
  exact h
end Go.Proofs.YthnfkecbgfcipaaDoor
