/- Choices that were not asked for change nothing. Plain; no function of the program is walked here. -/
import Derived.Test.YtdefooailcbnlaaG24
namespace Go.Proofs.Ytdefooailcbnlaa
open Go.RowKit
set_option linter.unusedVariables false
set_option linter.unusedSimpArgs false
/-- A step without, and with a look at the choices. -/
def Blind (p : Prg) (s : Mdl) (t : Mdl) (f : List Int → Mdl) : Prop := (t.ch = s.ch ∧ ∀ x, f x = { t with ch := x }) ∨ (t.ch = s.ch.tail ∧ ∀ x, x.headD 0 = s.ch.headD 0 → f x = { t with ch := x.tail })
theorem choose_ch (p : Prg) (s : Mdl) : Blind p s (choose s) (fun x => choose { s with ch := x }) := .inr ⟨rfl, fun x hx => by unfold choose; dsimp only; rw [hx]⟩
theorem ret_ch (p : Prg) (s : Mdl) (up : List Fr) (v : Int) : Blind p s (retS p s up v) (fun x => retS p { s with ch := x } up v) := by
  unfold retS
  cases up.getLast? with
  | some g => exact .inl ⟨rfl, fun x => rfl⟩
  | none =>
    dsimp only
    by_cases h : s.cur = 0
    · simp only [if_pos h]
      exact .inl ⟨rfl, fun x => rfl⟩
    · simp only [if_neg h]
      exact choose_ch p (put s [])
theorem act_ch (p : Prg) (s : Mdl) (up : List Fr) (f : Fr) (x : Insx) : Blind p s (actS p s up f x) (fun c => actS p { s with ch := c } up f x) := by
  unfold actS
  dsimp only
  by_cases h0 : x.op = 0
  · simp only [if_pos h0]; exact .inl ⟨rfl, fun _ => rfl⟩
  simp only [if_neg h0]
  by_cases h1 : x.op = 1
  · simp only [if_pos h1]
    by_cases hb : doB x.n.toNat (regAt f.regs x.b) = true
    · simp only [if_pos hb]; exact .inl ⟨rfl, fun _ => rfl⟩
    · simp only [if_neg hb]; exact .inl ⟨rfl, fun _ => rfl⟩
  simp only [if_neg h1]
  by_cases h2 : x.op = 2
  · simp only [if_pos h2]; exact .inl ⟨rfl, fun _ => rfl⟩
  simp only [if_neg h2]
  by_cases h3 : x.op = 3
  · simp only [if_pos h3]
    by_cases hb : (regAt f.regs x.a).toNat < s.heap.length
    · simp only [if_pos hb]; exact .inl ⟨rfl, fun _ => rfl⟩
    · simp only [if_neg hb]; exact .inl ⟨rfl, fun _ => rfl⟩
  simp only [if_neg h3]
  by_cases h4 : x.op = 4
  · simp only [if_pos h4]
    by_cases hb : (regAt f.regs x.a).toNat < s.heap.length
    · simp only [if_pos hb]; exact .inl ⟨rfl, fun _ => rfl⟩
    · simp only [if_neg hb]; exact .inl ⟨rfl, fun _ => rfl⟩
  simp only [if_neg h4]
  by_cases h5 : x.op = 5
  · simp only [if_pos h5]; exact .inl ⟨rfl, fun _ => rfl⟩
  simp only [if_neg h5]
  by_cases h6 : x.op = 6
  · simp only [if_pos h6]; exact .inl ⟨rfl, fun _ => rfl⟩
  simp only [if_neg h6]
  by_cases h7 : x.op = 7
  · simp only [if_pos h7]; exact choose_ch p (put s (up ++ [f.next]))
  simp only [if_neg h7]
  by_cases h8 : x.op = 8
  · simp only [if_pos h8]; exact .inl ⟨rfl, fun _ => rfl⟩
  simp only [if_neg h8]
  by_cases h9 : x.op = 9
  · simp only [if_pos h9]; exact .inl ⟨rfl, fun _ => rfl⟩
  simp only [if_neg h9]
  exact ret_ch p s up _
theorem step_ch (p : Prg) (s : Mdl) : Blind p s (step p s) (fun c => step p { s with ch := c }) := by
  unfold step
  dsimp only
  cases s.thr[s.cur]? with
  | none => exact .inl ⟨rfl, fun _ => rfl⟩
  | some l =>
    dsimp only
    cases l.getLast? with
    | none => exact .inl ⟨rfl, fun _ => rfl⟩
    | some f =>
      dsimp only
      cases insOf p f with
      | none => exact .inl ⟨rfl, fun _ => rfl⟩
      | some x => exact act_ch p s _ f x
theorem run_chlen (p : Prg) : ∀ (n : Nat) (s : Mdl), (run p n s).ch.length ≤ s.ch.length
  | 0, _ => Nat.le_refl _
  | n + 1, s => by
    rw [run_one]
    split
    · refine Nat.le_trans (run_chlen p n _) ?_
      rcases step_ch p s with ⟨h, _⟩ | ⟨h, _⟩ <;> rw [h]
      · exact Nat.le_refl _
      · rw [List.length_tail]; omega
    · exact Nat.le_refl _
/-- Where choices are left, others behind those that were used do the same. -/
theorem run_more (p : Prg) (more : List Int) : ∀ (n : Nat) (s : Mdl), 0 < (run p n s).ch.length → run p n { s with ch := s.ch.take (s.ch.length - (run p n s).ch.length) ++ more } = { run p n s with ch := more }
  | 0, s, h => by simp [run]
  | n + 1, s, h => by
    rw [run_one] at h ⊢
    rw [run_one]
    dsimp only
    by_cases hk : s.kind = 0
    · rw [if_pos hk] at h ⊢
      rw [if_pos hk]
      have hl := run_chlen p n (step p s)
      rcases step_ch p s with ⟨hc, hx⟩ | ⟨hc, hx⟩
      · have e1 : step p { s with ch := s.ch.take (s.ch.length - (run p n (step p s)).ch.length) ++ more } = { step p s with ch := s.ch.take (s.ch.length - (run p n (step p s)).ch.length) ++ more } := hx _
        rw [e1]
        have ih := run_more p more n (step p s) h
        rw [hc] at ih
        exact ih
      · rw [hc] at hl
        cases hs : s.ch with
        | nil => rw [hs] at hl; simp at hl; rw [hl] at h; simp at h
        | cons c tl =>
          rw [hs] at hl hx hc
          rw [List.tail_cons] at hl hc
          have e : (c :: tl).take ((c :: tl).length - (run p n (step p s)).ch.length) = c :: tl.take (tl.length - (run p n (step p s)).ch.length) := by
            rw [List.length_cons, show tl.length + 1 - (run p n (step p s)).ch.length = (tl.length - (run p n (step p s)).ch.length) + 1 by omega]; rfl
          rw [e]
          have e1 : step p { s with ch := c :: tl.take (tl.length - (run p n (step p s)).ch.length) ++ more } = { step p s with ch := tl.take (tl.length - (run p n (step p s)).ch.length) ++ more } := hx _ rfl
          rw [e1]
          have ih := run_more p more n (step p s) h
          rw [hc] at ih
          exact ih
    · rw [if_neg hk] at h ⊢
      rw [if_neg hk]
      simp
/-- No yield, the first thread: no look at the choices. -/
theorem ret_cur (p : Prg) (s : Mdl) (up : List Fr) (v : Int) (h : s.cur = 0) : (retS p s up v).cur = 0 ∧ (retS p s up v).ch = s.ch ∧ ∀ x, retS p { s with ch := x } up v = { retS p s up v with ch := x } := by
  unfold retS
  cases up.getLast? with
  | some g => exact ⟨h, rfl, fun x => rfl⟩
  | none =>
    dsimp only
    simp only [if_pos h]
    exact ⟨h, rfl, fun x => rfl⟩
theorem act_cur (p : Prg) (s : Mdl) (up : List Fr) (f : Fr) (x : Insx) (h : s.cur = 0) (h7 : x.op ≠ 7) : (actS p s up f x).cur = 0 ∧ (actS p s up f x).ch = s.ch ∧ ∀ c, actS p { s with ch := c } up f x = { actS p s up f x with ch := c } := by
  unfold actS
  dsimp only
  by_cases h0 : x.op = 0
  · simp only [if_pos h0]; exact ⟨h, rfl, fun _ => rfl⟩
  simp only [if_neg h0]
  by_cases h1 : x.op = 1
  · simp only [if_pos h1]
    by_cases hb : doB x.n.toNat (regAt f.regs x.b) = true
    · simp only [if_pos hb]; exact ⟨h, rfl, fun _ => rfl⟩
    · simp only [if_neg hb]; exact ⟨h, rfl, fun _ => rfl⟩
  simp only [if_neg h1]
  by_cases h2 : x.op = 2
  · simp only [if_pos h2]; exact ⟨h, rfl, fun _ => rfl⟩
  simp only [if_neg h2]
  by_cases h3 : x.op = 3
  · simp only [if_pos h3]
    by_cases hb : (regAt f.regs x.a).toNat < s.heap.length
    · simp only [if_pos hb]; exact ⟨h, rfl, fun _ => rfl⟩
    · simp only [if_neg hb]; exact ⟨h, rfl, fun _ => rfl⟩
  simp only [if_neg h3]
  by_cases h4 : x.op = 4
  · simp only [if_pos h4]
    by_cases hb : (regAt f.regs x.a).toNat < s.heap.length
    · simp only [if_pos hb]; exact ⟨h, rfl, fun _ => rfl⟩
    · simp only [if_neg hb]; exact ⟨h, rfl, fun _ => rfl⟩
  simp only [if_neg h4]
  by_cases h5 : x.op = 5
  · simp only [if_pos h5]; exact ⟨h, rfl, fun _ => rfl⟩
  simp only [if_neg h5]
  by_cases h6 : x.op = 6
  · simp only [if_pos h6]; exact ⟨h, rfl, fun _ => rfl⟩
  simp only [if_neg h6, if_neg h7]
  by_cases h8 : x.op = 8
  · simp only [if_pos h8]; exact ⟨h, rfl, fun _ => rfl⟩
  simp only [if_neg h8]
  by_cases h9 : x.op = 9
  · simp only [if_pos h9]; exact ⟨h, rfl, fun _ => rfl⟩
  simp only [if_neg h9]
  exact ret_cur p s up _ h
def NoYield (p : Prg) : Prop := ∀ f x, insOf p f = some x → x.op ≠ 7
theorem step_cur {p : Prg} (hn : NoYield p) (s : Mdl) (h : s.cur = 0) : (step p s).cur = 0 ∧ (step p s).ch = s.ch ∧ ∀ c, step p { s with ch := c } = { step p s with ch := c } := by
  unfold step
  dsimp only
  cases s.thr[s.cur]? with
  | none => exact ⟨h, rfl, fun _ => rfl⟩
  | some l =>
    dsimp only
    cases l.getLast? with
    | none => exact ⟨h, rfl, fun _ => rfl⟩
    | some f =>
      dsimp only
      cases hx : insOf p f with
      | none => exact ⟨h, rfl, fun _ => rfl⟩
      | some x => exact act_cur p s _ f x h (hn f x hx)
theorem run_cur {p : Prg} (hn : NoYield p) : ∀ (n : Nat) (s : Mdl), s.cur = 0 → (run p n s).ch = s.ch ∧ ∀ c, run p n { s with ch := c } = { run p n s with ch := c }
  | 0, s, h => ⟨rfl, fun _ => rfl⟩
  | n + 1, s, h => by
    obtain ⟨h1, h2, h3⟩ := step_cur hn s h
    obtain ⟨i1, i2⟩ := run_cur hn n (step p s) h1
    simp only [run_one]
    by_cases hk : s.kind = 0
    · simp only [if_pos hk]
      exact ⟨i1.trans h2, fun c => by rw [h3]; exact i2 c⟩
    · simp only [if_neg hk]
      exact ⟨trivial, fun _ => trivial⟩
end Go.Proofs.Ytdefooailcbnlaa
