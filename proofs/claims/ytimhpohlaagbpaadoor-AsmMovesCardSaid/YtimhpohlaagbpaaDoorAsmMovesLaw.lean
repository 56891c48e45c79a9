/- AsmMoves: words do not hang on what stands ahead; two lists side by side. No function of the program is walked here. -/
import Derived.Test.YtimhpohlaagbpaaDoorAsmPlaysLaw
import Derived.Test.YtimhpohlaagbpaaDoorAsmHead
namespace Go.Proofs.YtimhpohlaagbpaaDoor
open Go.RowKit Go.Maps
set_option linter.unusedVariables false
set_option linter.unusedSimpArgs false
/-- Marks behind n instructions more. -/
def shiftM (n : Nat) (M : List (List UInt8 × Int)) : List (List UInt8 × Int) := M.map fun e => (e.1, e.2 + n)
theorem look_shift (n : Nat) (M : List (List UInt8 × Int)) (nm : List UInt8) : look (shiftM n M) nm = (look M nm).map (· + (n : Int)) := by
  unfold look shiftM
  rw [List.find?_map]
  have e : ((fun e : List UInt8 × Int => e.1 == nm) ∘ fun e : List UInt8 × Int => (e.1, e.2 + (n : Int))) = fun e => e.1 == nm := rfl
  rw [e]
  cases List.find? (fun e => e.1 == nm) M <;> rfl
theorem SameNames.shift (n : Nat) (M : List (List UInt8 × Int)) : SameNames (shiftM n M) M := fun nm => by rw [look_shift]; cases look M nm <;> rfl
theorem putL_app (A L : List It) (l : List Ix) : putL (A ++ L) l = A ++ putL L l := by unfold putL; split <;> simp
theorem jumpL_app (A L : List It) (op c : Int) (nm : ByteArray) : jumpL (A ++ L) op c nm = A ++ jumpL L op c nm := by unfold jumpL; split <;> simp
theorem Actx.L_app (x : Actx) (A L : List It) : x.L (A ++ L) = A ++ x.L L := by
  unfold Actx.L
  split
  · exact putL_app A L _
  · split
    · rfl
    · split
      · exact jumpL_app A L _ _ _
      · split
        · exact jumpL_app A L _ _ _
        · exact putL_app A L _
theorem Actx.M_shift (x : Actx) (A L : List It) (M : List (List UInt8 × Int)) : x.M (A ++ L) (shiftM A.length M) = shiftM A.length (x.M L M) := by
  unfold Actx.M markM
  split
  · rw [look_shift]
    cases h : look M x.nm.data.toList with
    | some n => simp
    | none => simp [shiftM]; omega
  · rfl
theorem words_shift (n : Nat) (M : List (List UInt8 × Int)) : ∀ (L : List It) (i : Nat), wordsE (shiftM n M) (n + i) L = wordsE M i L ∧ wordsL (shiftM n M) (n + i) L = wordsL M i L := by
  intro L
  induction L with
  | nil => intro i; exact ⟨rfl, rfl⟩
  | cons it L ih =>
    intro i
    have h := ih (i + 1)
    rw [show n + (i + 1) = n + i + 1 by omega] at h
    have e : itE (shiftM n M) ((n + i : Nat) : Int) it = itE M i it ∧ itW (shiftM n M) ((n + i : Nat) : Int) it = itW M i it := by
      cases it with
      | put x => exact ⟨rfl, rfl⟩
      | far x nm =>
        simp only [itE, itW, look_shift]
        cases look M nm.data.toList with
        | none => exact ⟨rfl, rfl⟩
        | some t =>
          simp only [Option.map_some]
          rw [show t + (n : Int) - ((n + i : Nat) : Int) = t - i by omega]
          exact ⟨rfl, rfl⟩
    simp only [wordsE, wordsL]
    rw [e.1, e.2, h.1, h.2]
    exact ⟨rfl, rfl⟩
theorem words_puts (M : List (List UInt8 × Int)) : ∀ (l : List Ix) (i : Nat), wordsE M i (l.map .put) = 0 ∧ wordsL M i (l.map .put) = l.map encS := by
  intro l
  induction l with
  | nil => intro i; exact ⟨rfl, rfl⟩
  | cons x l ih =>
    intro i
    simp only [List.map_cons, wordsE, wordsL, itE, itW]
    rw [(ih (i + 1)).1, (ih (i + 1)).2]
    exact ⟨rfl, rfl⟩
theorem wordsL_app (M : List (List UInt8 × Int)) : ∀ (L L2 : List It) (i : Nat), wordsL M i (L ++ L2) = wordsL M i L ++ wordsL M (i + L.length) L2 := by
  intro L
  induction L with
  | nil => intro L2 i; rfl
  | cons x L ih => intro L2 i; simp only [List.cons_append, wordsL, ih, List.length_cons]; rw [show i + 1 + L.length = i + (L.length + 1) by omega]
theorem words_behind (l : List Ix) (L : List It) (M : List (List UInt8 × Int)) : wordsE (shiftM l.length M) 0 (l.map .put ++ L) = wordsE M 0 L ∧ wordsL (shiftM l.length M) 0 (l.map .put ++ L) = l.map encS ++ wordsL M 0 L := by
  have h := words_shift l.length M L 0
  have hp := words_puts (shiftM l.length M) l 0
  rw [wordsE_append, wordsL_app, hp.1, hp.2, if_pos rfl, List.length_map, show 0 + l.length = l.length + 0 by omega, h.1, h.2]
  exact ⟨rfl, rfl⟩
/-- Two lists, and the document's of each, in boxes Q1 and Q2. -/
structure Two (w0 : Nat) (w : World) (Q1 Q2 pa pb : Nat) (sva : Value) (ma : Nat) (Ka : Nat → Prop) (svb : Value) (mb : Nat) (Kb : Nat → Prop) (lq mq lp mp : Value) (La : List It) (Ma : List (List UInt8 × Int)) (Lb : List It) (Mb : List (List UInt8 × Int)) (Lq : List It) (Mq : List (List UInt8 × Int)) (Lp : List It) (Mp : List (List UInt8 × Int)) : Prop where
  A : AsmAt w pa sva ma Ka La Ma
  B : AsmAt w pb svb mb Kb Lb Mb
  q : Box2 w Q1 lq mq
  p : Box2 w Q2 lp mp
  iq : ItemsAt w lq Lq
  kq : MarksAt w mq Mq
  ip : ItemsAt w lp Lp
  kp : MarksAt w mp Mp
  ab : ∀ k, Own pa sva ma k → ¬ Own pb svb mb k ∧ ¬ Kb k
  ba : ∀ k, Own pb svb mb k → ¬ Ka k
  oa : ∀ k, Own pa sva ma k → w0 ≤ k ∧ k ≠ Q1 ∧ k ≠ Q2 ∧ lq.ownBlock ≠ some k ∧ mq.ownBlock ≠ some k ∧ lp.ownBlock ≠ some k ∧ mp.ownBlock ≠ some k
  ob : ∀ k, Own pb svb mb k → w0 ≤ k ∧ k ≠ Q1 ∧ k ≠ Q2 ∧ lq.ownBlock ≠ some k ∧ mq.ownBlock ≠ some k ∧ lp.ownBlock ≠ some k ∧ mp.ownBlock ≠ some k
  ka : ∀ k, Ka k → k < w.heap.size ∧ k ≠ Q1 ∧ k ≠ Q2
  kb : ∀ k, Kb k → k < w.heap.size ∧ k ≠ Q1 ∧ k ≠ Q2
  rq : ∀ k, lq.ownBlock = some k ∨ mq.ownBlock = some k ∨ lp.ownBlock = some k ∨ mp.ownBlock = some k → k ≠ Q1 ∧ k ≠ Q2
  qq : Q1 ≠ Q2
  q1 : w0 ≤ Q1
  q2 : w0 ≤ Q2
theorem Two.swap {w0 : Nat} {w : World} {Q1 Q2 pa pb ma mb : Nat} {sva svb lq mq lp mp : Value} {Ka Kb : Nat → Prop} {La Lb Lq Lp : List It} {Ma Mb Mq Mp : List (List UInt8 × Int)} (h : Two w0 w Q1 Q2 pa pb sva ma Ka svb mb Kb lq mq lp mp La Ma Lb Mb Lq Mq Lp Mp) :
    Two w0 w Q2 Q1 pb pa svb mb Kb sva ma Ka lp mp lq mq Lb Mb La Ma Lp Mp Lq Mq :=
  ⟨h.B, h.A, h.p, h.q, h.ip, h.kp, h.iq, h.kq, fun k hk => ⟨fun ha => (h.ab k ha).1 hk, h.ba k hk⟩, fun k hk => (h.ab k hk).2,
    fun k hk => by obtain ⟨a, b, c, d, e, f, g⟩ := h.ob k hk; exact ⟨a, c, b, f, g, d, e⟩, fun k hk => by obtain ⟨a, b, c, d, e, f, g⟩ := h.oa k hk; exact ⟨a, c, b, f, g, d, e⟩,
    fun k hk => by obtain ⟨a, b, c⟩ := h.kb k hk; exact ⟨a, c, b⟩, fun k hk => by obtain ⟨a, b, c⟩ := h.ka k hk; exact ⟨a, c, b⟩,
    fun k hk => by
      have := h.rq k (by rcases hk with h1 | h1 | h1 | h1 <;> simp [h1])
      exact ⟨this.2, this.1⟩, fun e => h.qq e.symm, h.q2, h.q1⟩
theorem Two.keepb {w0 : Nat} {w w2 : World} {Q1 Q2 pa pb ma mb : Nat} {sva svb lq mq lp mp : Value} {Ka Kb : Nat → Prop} {La Lb Lq Lp : List It} {Ma Mb Mq Mp : List (List UInt8 × Int)} (h : Two w0 w Q1 Q2 pa pb sva ma Ka svb mb Kb lq mq lp mp La Ma Lb Mb Lq Mq Lp Mp) (hb : Below w.heap.size w w2) :
    Two w0 w2 Q1 Q2 pa pb sva ma Ka svb mb Kb lq mq lp mp La Ma Lb Mb Lq Mq Lp Mp :=
  ⟨h.A.keep (Only.of_below (S := fun _ => False) hb) (fun _ _ h => h) (fun _ _ h => h), h.B.keep (Only.of_below (S := fun _ => False) hb) (fun _ _ h => h) (fun _ _ h => h), h.q.keepB hb h.q.lt, h.p.keepB hb h.p.lt, h.iq.keep hb, h.kq.keep hb, h.ip.keep hb, h.kp.keep hb, h.ab, h.ba, h.oa, h.ob,
    fun k hk => ⟨Nat.lt_of_lt_of_le (h.ka k hk).1 hb.size, (h.ka k hk).2⟩, fun k hk => ⟨Nat.lt_of_lt_of_le (h.kb k hk).1 hb.size, (h.kb k hk).2⟩, h.rq, h.qq, h.q1, h.q2⟩
theorem Two.step {w0 : Nat} {w w2 : World} {Q1 Q2 pa pb ma mb : Nat} {sva svb lq mq lp mp lq' mq' : Value} {Ka Kb : Nat → Prop} {La Lb Lq Lp : List It} {Ma Mb Mq Mp : List (List UInt8 × Int)} {x : Actx} {b : Bool} (h : Two w0 w Q1 Q2 pa pb sva ma Ka svb mb Kb lq mq lp mp La Ma Lb Mb Lq Mq Lp Mp) (hw : w0 ≤ w.heap.size)
    (hd : DoesOk w pa sva ma Ka x La Ma lq mq Lq Mq (.returned (.tuple #[.agg #[lq', mq'], .bool b])) w2) :
    ∃ sva' Ka', Two w0 ((w2.setCell ⟨Q1, 0, none⟩ lq').setCell ⟨Q1, 1, none⟩ mq') Q1 Q2 pa pb sva' ma Ka' svb mb Kb lq' mq' lp mp (x.L La) (x.M La Ma) Lb Mb (x.L Lq) (x.M Lq Mq) Lp Mp ∧ Below w0 w ((w2.setCell ⟨Q1, 0, none⟩ lq').setCell ⟨Q1, 1, none⟩ mq') := by
  obtain ⟨lvd, mvd, bd, v', K', he, _, g1, g2, g3, g4, g5, g6, g7, g8, g9⟩ := hd
  simp only [Ending.returned.injEq, Value.tuple.injEq, Array.mk.injEq, List.cons.injEq, Value.agg.injEq, Value.bool.injEq, and_true] at he
  obtain ⟨⟨rfl, rfl⟩, rfl⟩ := he
  have hs2 := g2.size
  have hAl := h.A.ownlt
  have hBl := h.B.ownlt
  have hql := h.q.lt
  have hpl := h.p.lt
  have hown := g1.ownlt
  have l1 : ∀ k, lp.ownBlock = some k → k < w.heap.size := RowC.lt (cs := Lp.flatMap It.cells) h.ip
  have l2 : ∀ k, mp.ownBlock = some k → k < w.heap.size := RowC.lt (cs := Mp.flatMap markC) h.kp
  have l3 : ∀ k, lq'.ownBlock = some k → k < w2.heap.size := RowC.lt (cs := (x.L Lq).flatMap It.cells) g5
  have l4 : ∀ k, mq'.ownBlock = some k → k < w2.heap.size := RowC.lt (cs := (x.M Lq Mq).flatMap markC) g6
  have hO : ∀ k, Own pa v' ma k → (k < w.heap.size ∧ Own pa sva ma k) ∨ w.heap.size ≤ k := fun k hk => by
    rcases Nat.lt_or_ge k w.heap.size with h1 | h1
    · exact .inl ⟨h1, g3 k h1 hk⟩
    · exact .inr h1
  have hK : ∀ k, K' k → (k < w.heap.size ∧ Ka k) ∨ w.heap.size ≤ k := fun k hk => by
    rcases Nat.lt_or_ge k w.heap.size with h1 | h1
    · exact .inl ⟨h1, g4 k h1 hk⟩
    · exact .inr h1
  have hOQ : ∀ k, Own pa v' ma k → w0 ≤ k ∧ k ≠ Q1 ∧ k ≠ Q2 := fun k hk => by
    rcases hO k hk with ⟨h1, h2⟩ | h1
    · have := h.oa k h2; exact ⟨this.1, this.2.1, this.2.2.1⟩
    · omega
  have hlQ : ∀ k, lq'.ownBlock = some k → k ≠ Q1 ∧ k ≠ Q2 := fun k hk => by
    rcases g8 k hk with h1 | h1
    · exact h.rq k (.inl h1)
    · omega
  have hmQ : ∀ k, mq'.ownBlock = some k → k ≠ Q1 ∧ k ≠ Q2 := fun k hk => by
    rcases g9 k hk with h1 | h1
    · exact h.rq k (.inr (.inl h1))
    · omega
  have h9 : Only (fun k => k = Q1) w2 ((w2.setCell ⟨Q1, 0, none⟩ lq').setCell ⟨Q1, 1, none⟩ mq') := Box2.only (S := fun k => k = Q1) (Only.refl _ w2) rfl _ _
  have hqb : Box2 w2 Q1 lq mq := h.q.keepO g2 (fun ho => (h.oa _ ho).2.1 rfl)
  have hpb : Box2 w2 Q2 lp mp := h.p.keepO g2 (fun ho => (h.oa _ ho).2.2.1 rfl)
  refine ⟨v', fun k => K' k ∧ k < w2.heap.size, ⟨g1.trim.keep h9 (fun k hk e => (hOQ k hk).2.1 e) (fun k hk e => ?_), (h.B.keep g2 (fun k hk ho => (h.ab k ho).1 hk) (fun k hk ho => (h.ab k ho).2 hk)).keep h9 (fun k hk e => (h.ob k hk).2.1 e) (fun k hk e => (h.kb k hk).2.1 e), hqb.set _ _, hpb.keepO h9 (fun e => h.qq e.symm),
    g5.keepO h9 (fun k hk e => (hlQ k hk).1 e), g6.keepO h9 (fun k hk e => (hmQ k hk).1 e), (h.ip.keepO g2 (fun k hk ho => (h.oa k ho).2.2.2.2.2.1 hk)).keepO h9 (fun k hk e => (h.rq k (.inr (.inr (.inl hk)))).1 e), (h.kp.keepO g2 (fun k hk ho => (h.oa k ho).2.2.2.2.2.2 hk)).keepO h9 (fun k hk e => (h.rq k (.inr (.inr (.inr hk)))).1 e), ?_, ?_, ?_, ?_, ?_, ?_, ?_, h.qq, h.q1, h.q2⟩, ?_⟩
  · rcases hK k hk.1 with ⟨h1, h2⟩ | h1
    · exact (h.ka k h2).2.1 e
    · omega
  · intro k hk
    rcases hO k hk with ⟨h1, h2⟩ | h1
    · exact h.ab k h2
    · exact ⟨fun ho => by have := hBl k ho; omega, fun ho => by have := (h.kb k ho).1; omega⟩
  · intro k hk hk2
    have := hBl k hk
    rcases hK k hk2.1 with ⟨h1, h2⟩ | h1
    · exact h.ba k hk h2
    · omega
  · intro k hk
    have h7 := g7 k hk
    refine ⟨(hOQ k hk).1, (hOQ k hk).2.1, (hOQ k hk).2.2, h7.1, h7.2, fun e => ?_, fun e => ?_⟩
    · rcases hO k hk with ⟨h1, h2⟩ | h1
      · exact (h.oa k h2).2.2.2.2.2.1 e
      · have := l1 k e; omega
    · rcases hO k hk with ⟨h1, h2⟩ | h1
      · exact (h.oa k h2).2.2.2.2.2.2 e
      · have := l2 k e; omega
  · intro k hk
    have hb := h.ob k hk
    have hlt := hBl k hk
    refine ⟨hb.1, hb.2.1, hb.2.2.1, fun e => ?_, fun e => ?_, hb.2.2.2.2.2.1, hb.2.2.2.2.2.2⟩
    · rcases g8 k e with h1 | h1
      · exact hb.2.2.2.1 h1
      · omega
    · rcases g9 k e with h1 | h1
      · exact hb.2.2.2.2.1 h1
      · omega
  · intro k hk
    have hsz := h9.size
    rcases hK k hk.1 with ⟨h1, h2⟩ | h1
    · have := h.ka k h2; omega
    · omega
  · intro k hk
    have hsz := h9.size
    have := h.kb k hk
    omega
  · rintro k (hk | hk | hk | hk)
    · exact hlQ k hk
    · exact hmQ k hk
    · exact h.rq k (.inr (.inr (.inl hk)))
    · exact h.rq k (.inr (.inr (.inr hk)))
  · exact (g2.below hw (fun k hk ho => by have := (h.oa k ho).1; omega)).trans (h9.below (by omega) (fun k hk e => by have := h.q1; omega))
end Go.Proofs.YtimhpohlaagbpaaDoor
