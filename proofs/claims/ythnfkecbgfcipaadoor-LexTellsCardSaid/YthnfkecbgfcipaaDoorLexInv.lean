/- What a call of lex.Lex holds while it goes on, and how steps leave it. No function of the program is walked here. -/
import Derived.Test.YthnfkecbgfcipaaDoorLexIter
import Derived.Test.YthnfkecbgfcipaaDoorLexToken
namespace Go.Proofs.YthnfkecbgfcipaaDoor
open Go.RowKit Go.Shelf
set_option linter.unusedVariables false
set_option linter.unusedSimpArgs false
def tokC (t : Tok) : List Value := [.int .u8 t.kind, .string ⟨t.text.toArray⟩, .int .u32 t.n, .int .i64 t.line, .int .i64 t.col]
def toksC (ts : List Tok) : List Value := ts.flatMap tokC
theorem toksC_snoc (ts : List Tok) (t : Tok) : toksC (ts ++ [t]) = toksC ts ++ tokC t := by simp [toksC]
/-- ts are the tokens so far. kb: the kinds' block. -/
structure LInv (w : World) (kb : Nat) (ts : List Tok) (W : World) : Prop where
  bel : Below w.heap.size w W
  r0 : Boxed W w.heap.size 23 (.slice none 0 0)
  r1 : W.heap[w.heap.size + 1]? = some (.cells #[.int .i64 0, .int .i64 0] 25 (0, 0))
  r2 : Boxed W (w.heap.size + 2) 26 (.int .i64 0)
  out : ∃ v, Boxed W (w.heap.size + 3) 23 v ∧ W.ownsRow w.heap.size 41 5 v ts.length (toksC ts)
  ks : W.heap[kb]? = some (.cells kindsC 47 (0, 0))
theorem blk_below {B : Nat} {w w' : World} (hb : Below B w w') {k : Nat} {o : Obj} (hk : k < B) (h : w.heap[k]? = some o) : w'.heap[k]? = some o := (hb.block k hk).trans h
theorem blk_all {w w' : World} (hb : Below w.heap.size w w') {k : Nat} {o : Obj} (h : w.heap[k]? = some o) : w'.heap[k]? = some o := (hb.block k (Array.getElem?_eq_some_iff.1 h).1).trans h
theorem blk_alloc {w : World} {k : Nat} {o : Obj} (h : w.heap[k]? = some o) (o' : Obj) : (w.alloc o').heap[k]? = some o := (Below.heap_alloc _ _ _ (Array.getElem?_eq_some_iff.1 h).1).trans h
/-- A step that changes at most one block, which is none of the call's own. -/
theorem LInv.kept {w : World} {kb : Nat} {ts : List Tok} {W W' : World} {row : Option Nat} (h : LInv w kb ts W) (hg : W.grownBy W' row) (hrow : ∀ k, row = some k → w.heap.size + 4 ≤ k ∧ k ≠ kb ∧ (∀ cs fr, W.heap[k]? ≠ some (.cells cs 41 fr))) : LInv w kb ts W' := by
  have hlt : w.heap.size + 3 < W.heap.size := by obtain ⟨v, hv, _⟩ := h.out; exact hv.lt
  have keep : ∀ k o, W.heap[k]? = some o → (∀ j, row = some j → j ≠ k) → W'.heap[k]? = some o := fun k o hk hj => (hg.block k (Array.getElem?_eq_some_iff.1 hk).1 (fun e => hj _ e.symm rfl)).trans hk
  obtain ⟨v, hv, hr⟩ := h.out
  refine ⟨h.bel.grown hg (by omega) (fun k e => by have := (hrow k e).1; omega), keep _ _ h.r0 (fun j e => by have := (hrow j e).1; omega), keep _ _ h.r1 (fun j e => by have := (hrow j e).1; omega), keep _ _ h.r2 (fun j e => by have := (hrow j e).1; omega), ⟨v, keep _ _ hv (fun j e => by have := (hrow j e).1; omega), hr.kept hg ?_⟩, keep _ _ h.ks (fun j e => (hrow j e).2.1)⟩
  rcases hr.2 with ⟨rfl, _⟩ | ⟨g, cap, cur, rfl, _, hgb, _⟩
  · exact .inl rfl
  · refine .inr fun e => ?_
    exact (hrow g (by simpa [Value.ownBlock] using e.symm)).2.2 _ _ hgb
theorem LInv.lt {w : World} {kb : Nat} {ts : List Tok} {W : World} (h : LInv w kb ts W) : w.heap.size + 4 ≤ W.heap.size ∧ kb < W.heap.size := by
  obtain ⟨v, hv, _⟩ := h.out
  have := hv.lt
  exact ⟨by omega, (Array.getElem?_eq_some_iff.1 h.ks).1⟩
/-- With boxes and records beside it. -/
structure RInv (w : World) (kb : Nat) (ts : List Tok) (bx : List (Nat × TypeId × Value)) (rs : List (Nat × Obj)) (W : World) : Prop where
  inv : LInv w kb ts W
  bx : ∀ p ∈ bx, Boxed W p.1 p.2.1 p.2.2 ∧ w.heap.size + 4 ≤ p.1 ∧ p.1 ≠ kb ∧ p.2.1 ≠ 41
  rs : ∀ p ∈ rs, W.heap[p.1]? = some p.2 ∧ p.2.isCells = false ∧ w.heap.size + 4 ≤ p.1
theorem RInv.mono {w : World} {kb : Nat} {ts : List Tok} {bx bx' : List (Nat × TypeId × Value)} {rs rs' : List (Nat × Obj)} {W : World} (h : RInv w kb ts bx rs W) (h1 : ∀ p ∈ bx', p ∈ bx) (h2 : ∀ p ∈ rs', p ∈ rs) : RInv w kb ts bx' rs' W :=
  ⟨h.inv, fun p hp => h.bx p (h1 p hp), fun p hp => h.rs p (h2 p hp)⟩
theorem RInv.kept {w : World} {kb : Nat} {ts : List Tok} {bx : List (Nat × TypeId × Value)} {rs : List (Nat × Obj)} {W W' : World} {row : Option Nat} (h : RInv w kb ts bx rs W) (hg : W.grownBy W' row)
    (hrow : ∀ k, row = some k → w.heap.size + 4 ≤ k ∧ k ≠ kb ∧ (∀ cs fr, W.heap[k]? ≠ some (.cells cs 41 fr)) ∧ (∀ p ∈ bx, p.1 ≠ k) ∧ (∀ p ∈ rs, p.1 ≠ k)) : RInv w kb ts bx rs W' := by
  refine ⟨h.inv.kept hg fun k e => ⟨(hrow k e).1, (hrow k e).2.1, (hrow k e).2.2.1⟩, fun p hp => ⟨(h.bx p hp).1.kept hg (fun e => (hrow _ e.symm).2.2.2.1 p hp rfl), (h.bx p hp).2⟩, fun p hp => ⟨?_, (h.rs p hp).2⟩⟩
  have := (h.rs p hp).1
  exact (hg.block p.1 (Array.getElem?_eq_some_iff.1 this).1 (fun e => (hrow _ e.symm).2.2.2.2 p hp rfl)).trans this
theorem RInv.alloc {w : World} {kb : Nat} {ts : List Tok} {bx : List (Nat × TypeId × Value)} {rs : List (Nat × Obj)} {W : World} (h : RInv w kb ts bx rs W) (o : Obj) : RInv w kb ts bx rs (W.alloc o) :=
  h.kept (World.grownBy_alloc W o none) (fun k e => by cases e)
theorem lgrown_below {W W' : World} (hb : Below W.heap.size W W') : W.grownBy W' none := ⟨hb.os, hb.tape, hb.output, hb.size, fun k hk _ => hb.block k hk⟩
theorem RInv.below {w : World} {kb : Nat} {ts : List Tok} {bx : List (Nat × TypeId × Value)} {rs : List (Nat × Obj)} {W W' : World} (h : RInv w kb ts bx rs W) (hb : Below W.heap.size W W') : RInv w kb ts bx rs W' :=
  h.kept (lgrown_below hb) (fun k e => by cases e)
/-- A new box. -/
theorem RInv.box {w : World} {kb : Nat} {ts : List Tok} {bx : List (Nat × TypeId × Value)} {rs : List (Nat × Obj)} {W : World} (h : RInv w kb ts bx rs W) (t : TypeId) (v : Value) (ht : t ≠ 41) : RInv w kb ts ((W.heap.size, t, v) :: bx) rs (W.alloc (.cells #[v] t)) := by
  have h2 := h.alloc (.cells #[v] t)
  refine ⟨h2.inv, fun p hp => ?_, h2.rs⟩
  rcases List.mem_cons.1 hp with rfl | hp
  · exact ⟨Boxed.new W t v, h.inv.lt.1, by have := h.inv.lt.2; show W.heap.size ≠ kb; omega, ht⟩
  · exact h2.bx p hp
/-- A new record. -/
theorem RInv.newrec {w : World} {kb : Nat} {ts : List Tok} {bx : List (Nat × TypeId × Value)} {rs : List (Nat × Obj)} {W : World} (h : RInv w kb ts bx rs W) (o : Obj) (ho : o.isCells = false) : RInv w kb ts bx ((W.heap.size, o) :: rs) (W.alloc o) := by
  have h2 := h.alloc o
  refine ⟨h2.inv, h2.bx, fun p hp => ?_⟩
  rcases List.mem_cons.1 hp with rfl | hp
  · exact ⟨World.alloc_heap_new W o, ho, h.inv.lt.1⟩
  · exact h2.rs p hp
theorem Boxed.no_tok {W : World} {B : Nat} {t : TypeId} {v : Value} (h : Boxed W B t v) (ht : t ≠ 41) : ∀ cs fr, W.heap[B]? ≠ some (.cells cs 41 fr) := fun cs fr e => by
  rw [show W.heap[B]? = _ from h] at e; cases e; exact ht rfl
/-- A box is set anew. -/
theorem RInv.set {w : World} {kb : Nat} {ts : List Tok} {bx : List (Nat × TypeId × Value)} {rs : List (Nat × Obj)} {W : World} {k : Nat} {t : TypeId} {v : Value} (h : RInv w kb ts ((k, t, v) :: bx) rs W) (hd : ∀ p ∈ bx, p.1 ≠ k) (v' : Value) : RInv w kb ts ((k, t, v') :: bx) rs (W.setCell ⟨k, 0, none⟩ v') := by
  have h0 := h.bx (k, t, v) (by simp)
  have h1 : RInv w kb ts bx rs W := h.mono (fun p hp => by simp [hp]) (fun p hp => hp)
  have h2 := h1.kept (grownBy_setCell' W k v') (fun j e => by
    cases e
    refine ⟨h0.2.1, h0.2.2.1, Boxed.no_tok (t := t) (v := v) h0.1 h0.2.2.2, hd, fun p hp e => ?_⟩
    have h5 := h.rs p hp
    have h3 := h5.1
    rw [e, show W.heap[k]? = some (.cells #[v] t (0, 0)) from h0.1] at h3
    have h4 := h5.2.1
    rw [← Option.some.inj h3] at h4
    cases h4)
  refine ⟨h2.inv, fun p hp => ?_, h2.rs⟩
  rcases List.mem_cons.1 hp with rfl | hp
  · exact ⟨h0.1.set v', h0.2⟩
  · exact h2.bx p hp
/-- A record turns. -/
theorem RInv.put {w : World} {kb : Nat} {ts : List Tok} {bx : List (Nat × TypeId × Value)} {rs : List (Nat × Obj)} {W : World} {k : Nat} {o : Obj} (h : RInv w kb ts bx ((k, o) :: rs) W) (hd : ∀ p ∈ rs, p.1 ≠ k) (o' : Obj) (ho : o'.isCells = false) : RInv w kb ts bx ((k, o') :: rs) (W.putObj k o') := by
  have h0 := h.rs (k, o) (by simp)
  have h1 : RInv w kb ts bx rs W := h.mono (fun p hp => hp) (fun p hp => by simp [hp])
  have h2 := h1.kept (grownBy_putObj' W k o') (fun j e => by
    cases e
    refine ⟨h0.2.2, fun e => ?_, fun cs fr e => ?_, fun p hp e => ?_, hd⟩
    · have h3 := h0.1; have h4 := h0.2.1
      rw [show (k, o).1 = kb from e, h.inv.ks] at h3; cases h3; cases h4
    · have h3 := h0.1; have h4 := h0.2.1
      rw [e] at h3; cases h3; cases h4
    · have h5 := h.bx p hp
      have h3 := h0.1; have h4 := h0.2.1
      rw [← e, show W.heap[p.1]? = _ from h5.1] at h3; cases h3; cases h4)
  refine ⟨h2.inv, h2.bx, fun p hp => ?_⟩
  rcases List.mem_cons.1 hp with rfl | hp
  · exact ⟨World.putObj_heap_same (Array.getElem?_eq_some_iff.1 h0.1).1, ho, h0.2.2⟩
  · exact h2.rs p hp
/-- A cell of another block is set. -/
theorem RInv.other {w : World} {kb : Nat} {ts : List Tok} {bx : List (Nat × TypeId × Value)} {rs : List (Nat × Obj)} {W W' : World} (h : RInv w kb ts bx rs W) {B : Nat} (hbx : ∀ p ∈ bx, p.1 < B) (hrs : ∀ p ∈ rs, p.1 < B) (hB : w.heap.size + 4 ≤ B) (hk : kb < B) (hg : Below B W W') (hrow : ∀ v, W.cell? ⟨w.heap.size + 3, 0, none⟩ = some v → ∀ g, v.ownBlock = some g → g < B) : RInv w kb ts bx rs W' := by
  obtain ⟨v, hv, hr⟩ := h.inv.out
  refine ⟨⟨h.inv.bel.trans (hg.mono (by omega)), blk_below hg (by omega) h.inv.r0, blk_below hg (by omega) h.inv.r1, blk_below hg (by omega) h.inv.r2, ⟨v, blk_below hg (by omega) hv, hr.1, ?_⟩, blk_below hg hk h.inv.ks⟩, fun p hp => ⟨blk_below hg (hbx p hp) (h.bx p hp).1, (h.bx p hp).2⟩, fun p hp => ⟨blk_below hg (hrs p hp) (h.rs p hp).1, (h.rs p hp).2⟩⟩
  rcases hr.2 with ⟨rfl, e⟩ | ⟨g, cap, cur, rfl, h1, h2, h3⟩
  · exact .inl ⟨rfl, e⟩
  · exact .inr ⟨g, cap, cur, rfl, h1, blk_below hg (hrow _ hv.cell g rfl) h2, h3⟩
theorem RInv.row_lt {w : World} {kb : Nat} {ts : List Tok} {bx : List (Nat × TypeId × Value)} {rs : List (Nat × Obj)} {W : World} (h : RInv w kb ts bx rs W) : ∀ v, W.cell? ⟨w.heap.size + 3, 0, none⟩ = some v → ∀ g, v.ownBlock = some g → g < W.heap.size := by
  intro v hv g hg
  obtain ⟨v', hv', hr⟩ := h.inv.out
  have e := hv'.cell.symm.trans hv
  cases e
  rcases hr.2 with ⟨rfl, _⟩ | ⟨g', cap, cur, rfl, _, hgb, _⟩
  · simp [Value.ownBlock] at hg
  · simp [Value.ownBlock] at hg
    subst hg
    exact (Array.getElem?_eq_some_iff.1 hgb).1
/-- A token is put behind. -/
theorem RInv.app {w : World} {kb : Nat} {ts : List Tok} {bx : List (Nat × TypeId × Value)} {rs : List (Nat × Obj)} {W w1 : World} (h : RInv w kb ts bx rs W) {v v' : Value} {t : Tok} (hv : Boxed W (w.heap.size + 3) 23 v)
    (hr : W.ownsRow w.heap.size 41 5 v ts.length (toksC ts)) (hown : w1.ownsRow w.heap.size 41 5 v' (ts.length + 1) (toksC ts ++ tokC t)) (hg : W.grownBy w1 v.ownBlock) :
    Boxed w1 (w.heap.size + 3) 23 v ∧ RInv w kb (ts ++ [t]) bx rs (w1.setCell ⟨w.heap.size + 3, 0, none⟩ v') ∧ ∀ p ∈ bx, Boxed w1 p.1 p.2.1 p.2.2 := by
  have keep : ∀ (k : Nat) (o : Obj), W.heap[k]? = some o → (∀ cs fr, o ≠ .cells cs 41 fr) → w1.heap[k]? = some o := fun k o hk ho => (hg.block k (Array.getElem?_eq_some_iff.1 hk).1 (fun e => by
    rcases hr.2 with ⟨rfl, _⟩ | ⟨g, cap, cur, rfl, _, hgb, _⟩
    · simp [Value.ownBlock] at e
    · simp [Value.ownBlock] at e
      subst e
      rw [hgb] at hk
      exact ho _ _ (Option.some.inj hk).symm)).trans hk
  have hb1 : Boxed w1 (w.heap.size + 3) 23 v := keep _ _ hv (fun cs fr e => by cases e)
  have keep2 : ∀ (k : Nat) (o : Obj), w1.heap[k]? = some o → k ≠ w.heap.size + 3 → (w1.setCell ⟨w.heap.size + 3, 0, none⟩ v').heap[k]? = some o := fun k o hk hne => ((grownBy_setCell' w1 (w.heap.size + 3) v').block k (Array.getElem?_eq_some_iff.1 hk).1 (fun e => hne (Option.some.inj e))).trans hk
  have hlt := h.inv.lt
  have hkb : kb ≠ w.heap.size + 3 := fun e => by have h1 := h.inv.ks; rw [e, show W.heap[w.heap.size + 3]? = _ from hv] at h1; cases h1
  have hbx1 : ∀ p ∈ bx, Boxed w1 p.1 p.2.1 p.2.2 := fun p hp => keep _ _ (h.bx p hp).1 (fun cs fr e => by
    have h2 := (h.bx p hp).2.2.2
    injection e with e1 e2 e3; exact h2 e2)
  refine ⟨hb1, ⟨⟨?_, keep2 _ _ (keep _ _ h.inv.r0 (fun cs fr e => by cases e)) (by omega), keep2 _ _ (keep _ _ h.inv.r1 (fun cs fr e => by cases e)) (by omega), keep2 _ _ (keep _ _ h.inv.r2 (fun cs fr e => by cases e)) (by omega), ⟨v', hb1.set v', ?_⟩, keep2 _ _ (keep _ _ h.inv.ks (fun cs fr e => by cases e)) hkb⟩, fun p hp => ⟨keep2 _ _ (hbx1 p hp) (by have := (h.bx p hp).2.1; omega), (h.bx p hp).2⟩, fun p hp => ⟨keep2 _ _ (keep _ _ (h.rs p hp).1 (fun cs fr e => ?_)) (by have := (h.rs p hp).2.2; omega), (h.rs p hp).2⟩⟩, hbx1⟩
  · refine (h.inv.bel.grown hg (by omega) (fun k e => ?_)).setCell (p := ⟨w.heap.size + 3, 0, none⟩) (by simp) _
    rcases hr.2 with ⟨rfl, _⟩ | ⟨g, cap, cur, rfl, hgl, hgb, _⟩
    · simp [Value.ownBlock] at e
    · simp [Value.ownBlock] at e
      omega
  · rw [toksC_snoc, List.length_append]
    refine hown.kept (grownBy_setCell' w1 (w.heap.size + 3) v') (.inr ?_)
    intro e
    rcases hown.2 with ⟨rfl, _⟩ | ⟨g, cap, cur, rfl, _, hgb, _⟩
    · simp [Value.ownBlock] at e
    · simp [Value.ownBlock] at e
      subst e
      rw [show w1.heap[w.heap.size + 3]? = _ from hb1] at hgb
      cases hgb
  · have h2 := (h.rs p hp).2.1
    rw [e] at h2; cases h2
/-- The call gives up: what it will return, and the records beside it. -/
structure FInv (w : World) (v0 : Value) (p : Nat × Nat) (er : Int) (rs : List (Nat × Obj)) (W : World) : Prop where
  bel : Below w.heap.size w W
  r0 : W.cell? ⟨w.heap.size, 0, none⟩ = some v0
  r1 : W.cell? ⟨w.heap.size + 1, 0, none⟩ = some (.int .i64 p.1)
  r1b : W.cell? ⟨w.heap.size + 1, 1, none⟩ = some (.int .i64 p.2)
  r2 : W.cell? ⟨w.heap.size + 2, 0, none⟩ = some (.int .i64 er)
  rs : ∀ q ∈ rs, W.heap[q.1]? = some q.2 ∧ q.2.isCells = false ∧ w.heap.size + 4 ≤ q.1
theorem lcells_new (W : World) (cs : List Value) (t : TypeId) : ∀ (j : Nat) (u : Value), cs[j]? = some u → (W.alloc (.cells cs.toArray t)).cell? ((⟨W.heap.size, 0, none⟩ : Addr).add j) = some u := by
  intro j u h
  have h2 := World.alloc_heap_new W (.cells cs.toArray t)
  have e : ((⟨W.heap.size, 0, none⟩ : Addr).add j) = ⟨W.heap.size, j, none⟩ := by
    cases j with
    | zero => rfl
    | succ j => simp [Addr.add]
  rw [e]
  unfold World.cell?
  show (match (W.alloc (.cells cs.toArray t)).heap[W.heap.size]? with
    | some (.cells c elem frozen) => if (none : Option Nat).isSome then none else c[j]?
    | x => none) = some u
  rw [h2]
  simpa using h
theorem lapp_bounds (n : Nat) (h : n ≤ 5000000000) : n + 1 ≤ maxLen ∧ (n + 1) * 48 ≤ 140737488355328 := by unfold maxLen; omega
theorem infoTok : (Tryd.prog.info? 41).map (fun i => (i.zero, i.size, i.bytes)) = some (some (.agg #[.int .u8 0, .string ⟨#[]⟩, .int .u32 0, .int .i64 0, .int .i64 0]), 5, 48) := by kernel_rfl
theorem lcell_alloc {w : World} {a : Addr} {v : Value} (o : Obj) (h : w.cell? a = some v) : (w.alloc o).cell? a = some v :=
  (((Below.refl w.heap.size w).alloc (Nat.le_refl _) o).cell (World.block_lt_of_cell? _ _ h)).trans h
theorem lfrozen_alloc {w : World} {k j : Nat} {v : Value} (o : Obj) (hc : w.cell? ⟨k, j, none⟩ = some v) (h : w.frozen? ⟨k, j, none⟩ = false) : (w.alloc o).frozen? ⟨k, j, none⟩ = false := by
  simp only [World.frozen?] at h ⊢
  rw [Below.heap_alloc w o k (World.block_lt_of_cell? _ _ hc)]
  exact h
theorem blk_cell {w : World} {k : Nat} {cs : Array Value} {t : TypeId} {fr : Nat × Nat} (h : w.heap[k]? = some (.cells cs t fr)) {j : Nat} {v : Value} (hj : cs[j]? = some v) : w.cell? ⟨k, j, none⟩ = some v := by
  simp [World.cell?, h, hj]
theorem blk_frozen {w : World} {k : Nat} {cs : Array Value} {t : TypeId} (h : w.heap[k]? = some (.cells cs t (0, 0))) (j : Nat) : w.frozen? ⟨k, j, none⟩ = false := by
  simp [World.frozen?, h]
/-- The four stores by which a call gives up. -/
theorem RInv.fin {w : World} {kb : Nat} {ts : List Tok} {bx : List (Nat × TypeId × Value)} {rs : List (Nat × Obj)} {W : World} (h : RInv w kb ts bx rs W) (v0 : Value) (p : Nat × Nat) (er : Int) :
    FInv w v0 p er rs ((((W.setCell ⟨w.heap.size, 0, none⟩ v0).setCell ⟨w.heap.size + 1, 0, none⟩ (.int .i64 p.1)).setCell ⟨w.heap.size + 1, 1, none⟩ (.int .i64 p.2)).setCell ⟨w.heap.size + 2, 0, none⟩ (.int .i64 er)) := by
  have hlt := h.inv.lt
  have e0 := h.inv.r0.cell
  have e1 := blk_cell h.inv.r1 (j := 0) rfl
  have e2 := blk_cell h.inv.r1 (j := 1) rfl
  have e3 := h.inv.r2.cell
  refine ⟨(((h.inv.bel.setCell (p := ⟨w.heap.size, 0, none⟩) (Nat.le_refl _) _).setCell (p := ⟨w.heap.size + 1, 0, none⟩) (by simp) _).setCell (p := ⟨w.heap.size + 1, 1, none⟩) (by simp) _).setCell (p := ⟨w.heap.size + 2, 0, none⟩) (by simp) _, ?_, ?_, ?_, ?_, fun q hq => ⟨?_, (h.rs q hq).2⟩⟩
  · simp [go_sem, e0, e1, e2, e3]
  · simp [go_sem, e0, e1, e2, e3]
  · simp [go_sem, e0, e1, e2, e3]
  · simp [go_sem, e0, e1, e2, e3]
  · have h1 := h.rs q hq
    have hne := h1.2.2
    rw [Below.heap_setCell _ _ _ _ (show q.1 ≠ w.heap.size + 2 by omega), Below.heap_setCell _ _ _ _ (show q.1 ≠ w.heap.size + 1 by omega), Below.heap_setCell _ _ _ _ (show q.1 ≠ w.heap.size + 1 by omega), Below.heap_setCell _ _ _ _ (show q.1 ≠ w.heap.size by omega)]
    exact h1.1
theorem FInv.put {w : World} {v0 : Value} {p : Nat × Nat} {er : Int} {rs : List (Nat × Obj)} {W : World} {k : Nat} {o : Obj} (h : FInv w v0 p er ((k, o) :: rs) W) (hd : ∀ q ∈ rs, q.1 ≠ k) (o' : Obj) (ho : o'.isCells = false) : FInv w v0 p er ((k, o') :: rs) (W.putObj k o') := by
  have h0 := h.rs (k, o) (by simp)
  have hk : w.heap.size + 4 ≤ k := h0.2.2
  have keep : ∀ (j : Nat) (off : Nat) (v : Value), j ≠ k → W.cell? ⟨j, off, none⟩ = some v → (W.putObj k o').cell? ⟨j, off, none⟩ = some v := fun j off v hj hc => by
    rw [← hc]
    simp [World.cell?, World.putObj_heap_other (show j ≠ k from hj)]
  refine ⟨h.bel.grown (grownBy_putObj' W k o') (by have := (Array.getElem?_eq_some_iff.1 h0.1).1; show w.heap.size ≤ W.heap.size; have h3 : (k, o).1 < W.heap.size := this; simp at h3; omega) (fun j e => by cases e; omega), keep _ _ _ (by omega) h.r0, keep _ _ _ (by omega) h.r1, keep _ _ _ (by omega) h.r1b, keep _ _ _ (by omega) h.r2, fun q hq => ?_⟩
  rcases List.mem_cons.1 hq with rfl | hq
  · exact ⟨World.putObj_heap_same (Array.getElem?_eq_some_iff.1 h0.1).1, ho, hk⟩
  · have h2 := h.rs q (by simp [hq])
    exact ⟨(World.putObj_heap_other (hd q hq)).trans h2.1, h2.2⟩
theorem FInv.drew {w : World} {v0 : Value} {p : Nat × Nat} {er : Int} {rs : List (Nat × Obj)} {W : World} (h : FInv w v0 p er rs W) : FInv w v0 p er rs W.drew :=
  ⟨h.bel.trans ⟨rfl, rfl, rfl, Nat.le_refl _, fun _ _ => rfl⟩, h.r0, h.r1, h.r1b, h.r2, h.rs⟩
theorem FInv.mono {w : World} {v0 : Value} {p : Nat × Nat} {er : Int} {rs rs' : List (Nat × Obj)} {W : World} (h : FInv w v0 p er rs W) (h2 : ∀ q ∈ rs', q ∈ rs) : FInv w v0 p er rs' W := ⟨h.bel, h.r0, h.r1, h.r1b, h.r2, fun q hq => h.rs q (h2 q hq)⟩
abbrev EInv (w : World) (p : Nat × Nat) (rs : List (Nat × Obj)) (W : World) : Prop := FInv w (.slice none 0 0) p 120 rs W
theorem RInv.err {w : World} {kb : Nat} {ts : List Tok} {bx : List (Nat × TypeId × Value)} {rs : List (Nat × Obj)} {W : World} (h : RInv w kb ts bx rs W) (p : Nat × Nat) :
    EInv w p rs ((((W.setCell ⟨w.heap.size, 0, none⟩ (.slice none 0 0)).setCell ⟨w.heap.size + 1, 0, none⟩ (.int .i64 p.1)).setCell ⟨w.heap.size + 1, 1, none⟩ (.int .i64 p.2)).setCell ⟨w.heap.size + 2, 0, none⟩ (.int .i64 120)) := h.fin _ p 120
/-- The tokens' row behind these stores. -/
theorem RInv.row_fin {w : World} {kb : Nat} {ts : List Tok} {bx : List (Nat × TypeId × Value)} {rs : List (Nat × Obj)} {W : World} (h : RInv w kb ts bx rs W) {v : Value} {n : Nat} {xs : List Value} (hr : W.ownsRow w.heap.size 41 5 v n xs) (a b c d : Value) :
    ((((W.setCell ⟨w.heap.size, 0, none⟩ a).setCell ⟨w.heap.size + 1, 0, none⟩ b).setCell ⟨w.heap.size + 1, 1, none⟩ c).setCell ⟨w.heap.size + 2, 0, none⟩ d).ownsRow w.heap.size 41 5 v n xs := by
  refine ⟨hr.1, ?_⟩
  rcases hr.2 with ⟨rfl, e⟩ | ⟨g, cap, cur, rfl, h1, h2, h3⟩
  · exact .inl ⟨rfl, e⟩
  · refine .inr ⟨g, cap, cur, rfl, h1, ?_, h3⟩
    have n0 : g ≠ w.heap.size := fun e => by
      have h4 := h.inv.r0; rw [← e, show Boxed W g 23 (.slice none 0 0) = (W.heap[g]? = some (.cells #[.slice none 0 0] 23 (0, 0))) from rfl, h2] at h4; cases h4
    have n1 : g ≠ w.heap.size + 1 := fun e => by
      have h4 := h.inv.r1; rw [← e, h2] at h4; cases h4
    have n2 : g ≠ w.heap.size + 2 := fun e => by
      have h4 := h.inv.r2; rw [← e, show Boxed W g 26 (.int .i64 0) = (W.heap[g]? = some (.cells #[.int .i64 0] 26 (0, 0))) from rfl, h2] at h4; cases h4
    rw [Below.heap_setCell _ _ _ _ n2, Below.heap_setCell _ _ _ _ n1, Below.heap_setCell _ _ _ _ n1, Below.heap_setCell _ _ _ _ n0]
    exact h2
end Go.Proofs.YthnfkecbgfcipaaDoor
