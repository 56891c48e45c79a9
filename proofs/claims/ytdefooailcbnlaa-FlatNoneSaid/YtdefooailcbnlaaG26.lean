/- Several texts in one: FlatAt, FlatTop, FlatOps. -/
import Derived.Test.YtdefooailcbnlaaG24
import Derived.Test.YtdefooailcbnlaaG09
import Derived.Test.YtdefooailcbnlaaG25
import Derived.Test.YtdefooailcbnlaaG03
import Derived.RegionTactic
import Derived.Deep.QuietTactic
import Derived.BigQuiet
/- How a model lies in the world; what stays when some of its blocks change. No function of the program is walked here. -/
namespace Go.Proofs.Ytdefooailcbnlaa
open Go.RowKit
set_option linter.unusedVariables false
set_option linter.unusedSimpArgs false
/-- What a block is to a model: nothing; what never changes; the model itself; its heap; its output; its threads; a thread's frames; a frame's registers. -/
inductive Role
  | none
  | fixed
  | model
  | heap
  | out
  | thr
  | frs (t : Nat)
  | regs (t j : Nat)
/-- Blocks' roles, and the slices that the model holds. -/
structure Gh where
  R : Nat → Role
  hb : Nat
  tb : Nat
  tc : Nat
  pv : Value
  fv : Value
  outv : Value
  chv : Value
  vs : List Value
abbrev RegsAt (w : World) (k : Nat) (l : List Int) : Prop := VRow w k 31 (u32s l)
/-- The cells of a frame whose registers lie in block k. -/
def frC (x : Fr × Nat) : List Value := [.int .i64 x.1.f, .int .i64 x.1.b, .int .i64 x.1.i, .slice (some ⟨x.2, 0, none⟩) x.1.regs.length x.1.regs.length]
theorem frC_len (x : Fr × Nat) : (frC x).length = 4 := rfl
/-- A thread's frames. -/
structure FrsAt (w : World) (R : Nat → Role) (t : Nat) (v : Value) (l : List Fr) : Prop where
  ex : ∃ (g cap : Nat) (c : List (Fr × Nat)), v = .slice (some ⟨g, 0, none⟩) l.length cap ∧ R g = .frs t ∧ c.map (·.1) = l ∧ w.ownsRow 0 78 4 v l.length (c.flatMap frC) ∧ ∀ (j : Nat) x, c[j]? = some x → R x.2 = .regs t j ∧ RegsAt w x.2 x.1.regs
theorem FrsAt.keep {C : Nat → Prop} {w w' : World} {R R' : Nat → Role} {t : Nat} {v : Value} {l : List Fr} (h : FrsAt w R t v l) (o : Only C w w') (hR : ∀ k, R k ≠ .none → R' k = R k) (hC : ∀ k, C k → R k ≠ .frs t ∧ ∀ j, R k ≠ .regs t j) : FrsAt w' R' t v l := by
  obtain ⟨g, cap, c, rfl, h1, h2, h3, h4⟩ := h.ex
  refine ⟨g, cap, c, rfl, (hR g (by rw [h1]; simp)).trans h1, h2, h3.keepw o (fun k hk hc => ?_), fun j x hx => ?_⟩
  · simp [Value.ownBlock] at hk
    subst hk
    exact (hC _ hc).1 h1
  · obtain ⟨k1, k2⟩ := h4 j x hx
    exact ⟨(hR _ (by rw [k1]; simp)).trans k1, k2.of_block (o.block _ k2.lt (fun hc => (hC _ hc).2 j k1))⟩
/-- The choices that are left. -/
def ChAt (w : World) (v : Value) (l : List Int) : Prop := Reads32 w v l ∧ ∀ p n c, v = .slice p n c → n ≤ c
/-- The model at block m. -/
structure MdlAt (w : World) (p : Prg) (G : Gh) (m : Nat) (s : Mdl) : Prop where
  ptr : w.heap[m]? = some (.cells #[.int .i64 p.heap, G.pv, G.fv, .slice (some ⟨G.hb, 0, none⟩) s.heap.length s.heap.length, G.outv, .slice (some ⟨G.tb, 0, none⟩) s.thr.length G.tc, .int .i64 s.cur, G.chv, .int .u8 s.kind, .int .u32 s.v] 62 (0, 0))
  rm : G.R m = .model
  rh : G.R G.hb = .heap
  rt : G.R G.tb = .thr
  ro : ∀ k, G.outv.ownBlock = some k → G.R k = .out
  lt : ∀ k, G.R k ≠ .none → k < w.heap.size
  heap : RegsAt w G.hb s.heap
  out : w.ownsRow 0 31 1 G.outv s.out.length (u32s s.out)
  thr : VRow w G.tb 84 G.vs
  vl : G.vs.length = s.thr.length
  frs : ∀ (t : Nat) v l, G.vs[t]? = some v → s.thr[t]? = some l → FrsAt w G.R t v l
  fix : ∀ W : World, (∀ k, G.R k = .fixed → W.heap[k]? = w.heap[k]?) → IntsIn W G.pv p.threads ∧ FnsIn W G.fv p.funcs ∧ ChAt W G.chv s.ch
def Gh.own (G : Gh) (k : Nat) : Prop := G.R k ≠ .none ∧ G.R k ≠ .fixed
theorem MdlAt.prog {w : World} {p : Prg} {G : Gh} {m : Nat} {s : Mdl} (h : MdlAt w p G m s) : IntsIn w G.pv p.threads ∧ FnsIn w G.fv p.funcs ∧ ChAt w G.chv s.ch := h.fix w (fun _ _ => rfl)
/-- The world in which only some blocks hold anything. -/
noncomputable def wiped (w : World) (F : Nat → Prop) : World := { w with heap := w.heap.mapIdx fun k o => @ite _ (F k) (Classical.propDecidable (F k)) o (.cells #[] 0 (0, 0)) }
theorem wiped_at {w : World} {F : Nat → Prop} {k : Nat} (h : F k) : (wiped w F).heap[k]? = w.heap[k]? := by
  unfold wiped
  simp only [Array.getElem?_mapIdx, if_pos h]
  cases w.heap[k]? <;> rfl
theorem wiped_cell {w : World} {F : Nat → Prop} {q : Addr} {v : Value} (h : (wiped w F).cell? q = some v) : F q.block ∧ w.cell? q = some v := by
  by_cases hf : F q.block
  · exact ⟨hf, by rw [← h]; exact (World.cell?_of_block (wiped_at hf)).symm⟩
  · exfalso
    unfold World.cell? wiped at h
    simp only [Array.getElem?_mapIdx, if_neg hf] at h
    cases hb : w.heap[q.block]? with
    | none => rw [hb] at h; simp at h
    | some o => rw [hb] at h; simp at h
/-- What is not the model's may change. -/
theorem MdlAt.keep {C : Nat → Prop} {w w' : World} {p : Prg} {G : Gh} {m : Nat} {s : Mdl} (h : MdlAt w p G m s) (o : Only C w w') (hC : ∀ k, G.R k ≠ .none → ¬ C k) : MdlAt w' p G m s := by
  have ob : ∀ k, G.R k ≠ .none → w'.heap[k]? = w.heap[k]? := fun k hk => o.block k (h.lt k hk) (hC k hk)
  refine ⟨(ob m (by rw [h.rm]; simp)).trans h.ptr, h.rm, h.rh, h.rt, h.ro, fun k hk => Nat.lt_of_lt_of_le (h.lt k hk) o.size, h.heap.of_block (ob _ (by rw [h.rh]; simp)), h.out.keepw o (fun k hk => hC k (by rw [h.ro k hk]; simp)),
    h.thr.of_block (ob _ (by rw [h.rt]; simp)), h.vl, fun t v l hv hl => (h.frs t v l hv hl).keep o (fun _ _ => rfl) (fun k hk => ?_), fun W hW => h.fix W (fun k hk => (hW k hk).trans (ob k (by rw [hk]; simp)))⟩
  refine ⟨fun e => hC k (by rw [e]; simp) hk, fun j e => hC k (by rw [e]; simp) hk⟩
theorem MdlAt.keepb {w w' : World} {p : Prg} {G : Gh} {m : Nat} {s : Mdl} (h : MdlAt w p G m s) (hb : Below w.heap.size w w') : MdlAt w' p G m s := h.keep (Only.of_below (S := fun _ => False) hb) (fun _ _ hf => hf)
/-- Roles that were given stay. -/
def Ext (w : World) (R R' : Nat → Role) : Prop := ∀ k, R k ≠ .none → R' k = R k
/-- One thread's frames change. -/
theorem MdlAt.thr1 {C : Nat → Prop} {w w' : World} {p : Prg} {G : Gh} {m : Nat} {s : Mdl} (h : MdlAt w p G m s) {t : Nat} (ht : t < s.thr.length) (o : Only C w w') (R' : Nat → Role) (hR : ∀ k, G.R k ≠ .none → R' k = G.R k) (hlt : ∀ k, R' k ≠ .none → k < w'.heap.size)
    (hC : ∀ k, C k → G.R k = .thr ∨ G.R k = .frs t ∨ ∃ j, G.R k = .regs t j) {v' : Value} {l' : List Fr} (hv : VRow w' G.tb 84 (G.vs.set t v')) (hf : FrsAt w' R' t v' l') (hfix : ∀ k, R' k = .fixed → G.R k = .fixed) :
    MdlAt w' p { G with R := R', vs := G.vs.set t v' } m { s with thr := s.thr.set t l' } := by
  have ob : ∀ k, G.R k ≠ .none → ¬ C k → w'.heap[k]? = w.heap[k]? := fun k hk hc => o.block k (h.lt k hk) hc
  have nc : ∀ k, G.R k ≠ .thr → G.R k ≠ .frs t → (∀ j, G.R k ≠ .regs t j) → ¬ C k := fun k a b c hk => by
    rcases hC k hk with e | e | ⟨j, e⟩
    · exact a e
    · exact b e
    · exact c j e
  have cm : ¬ C m := nc m (by rw [h.rm]; simp) (by rw [h.rm]; simp) (fun j => by rw [h.rm]; simp)
  have ch : ¬ C G.hb := nc _ (by rw [h.rh]; simp) (by rw [h.rh]; simp) (fun j => by rw [h.rh]; simp)
  refine ⟨?_, (hR m (by rw [h.rm]; simp)).trans h.rm, (hR _ (by rw [h.rh]; simp)).trans h.rh, (hR _ (by rw [h.rt]; simp)).trans h.rt, fun k hk => (hR k (by rw [h.ro k hk]; simp)).trans (h.ro k hk), hlt, h.heap.of_block (ob _ (by rw [h.rh]; simp) ch),
    h.out.keepw o (fun k hk => nc k (by rw [h.ro k hk]; simp) (by rw [h.ro k hk]; simp) (fun j => by rw [h.ro k hk]; simp)), hv, by simp [h.vl], fun u v l hv' hl => ?_, fun W hW => h.fix W (fun k hk => ?_)⟩
  · have := (ob m (by rw [h.rm]; simp) cm).trans h.ptr
    simpa using this
  · by_cases e : t = u
    · subst e
      dsimp only at hv' hl
      rw [List.getElem?_set_self (by rw [h.vl]; exact ht)] at hv'
      rw [List.getElem?_set_self ht] at hl
      cases hv'; cases hl
      exact hf
    · dsimp only at hv' hl
      rw [List.getElem?_set_ne e] at hv' hl
      refine (h.frs u v l hv' hl).keep o hR (fun k hk => ?_)
      rcases hC k hk with a | a | ⟨j, a⟩
      · rw [a]; simp
      · rw [a]; simpa using e
      · rw [a]
        exact ⟨by simp, fun j' => by simp; intro e2; exact absurd e2 e⟩
  · have hk' : G.R k ≠ .none := by rw [hk]; simp
    exact (hW k (show R' k = _ from (hR k hk').trans hk)).trans (ob k hk' (nc k (by rw [hk]; simp) (by rw [hk]; simp) (fun j => by rw [hk]; simp)))
/-- The model's own cells change. -/
theorem MdlAt.cells {w w' : World} {p : Prg} {G : Gh} {m : Nat} {s : Mdl} (h : MdlAt w p G m s) (o : Only (fun k => k = m) w w') (cur : Nat) (chv : Value) (ch : List Int) (kind v : Int)
    (hp : w'.heap[m]? = some (.cells #[.int .i64 p.heap, G.pv, G.fv, .slice (some ⟨G.hb, 0, none⟩) s.heap.length s.heap.length, G.outv, .slice (some ⟨G.tb, 0, none⟩) s.thr.length G.tc, .int .i64 cur, chv, .int .u8 kind, .int .u32 v] 62 (0, 0)))
    (hch : ∀ W : World, ChAt W G.chv s.ch → ChAt W chv ch) : MdlAt w' p { G with chv := chv } m { s with cur := cur, ch := ch, kind := kind, v := v } := by
  have ob : ∀ k, G.R k ≠ .none → G.R k ≠ .model → w'.heap[k]? = w.heap[k]? := fun k hk hm => o.block k (h.lt k hk) (fun e => hm (by rw [e]; exact h.rm))
  refine ⟨hp, h.rm, h.rh, h.rt, h.ro, fun k hk => Nat.lt_of_lt_of_le (h.lt k hk) o.size, h.heap.of_block (ob _ (by rw [h.rh]; simp) (by rw [h.rh]; simp)), h.out.keepw o (fun k hk e => by have := h.ro k hk; rw [e, h.rm] at this; cases this),
    h.thr.of_block (ob _ (by rw [h.rt]; simp) (by rw [h.rt]; simp)), h.vl, fun t v l hv hl => (h.frs t v l hv hl).keep o (fun _ _ => rfl) (fun k hk => by rw [hk, h.rm]; simp), fun W hW => ?_⟩
  obtain ⟨a, b, c⟩ := h.fix W (fun k hk => (hW k hk).trans (ob k (by rw [hk]; simp) (by rw [hk]; simp)))
  exact ⟨a, b, hch W c⟩
/-- The heap changes. -/
theorem MdlAt.heap' {w w' : World} {p : Prg} {G : Gh} {m : Nat} {s : Mdl} (h : MdlAt w p G m s) (o : Only (fun k => k = G.hb) w w') (l : List Int) (hl : l.length = s.heap.length) (hr : RegsAt w' G.hb l) : MdlAt w' p G m { s with heap := l } := by
  have ob : ∀ k, G.R k ≠ .none → G.R k ≠ .heap → w'.heap[k]? = w.heap[k]? := fun k hk hm => o.block k (h.lt k hk) (fun e => hm (by rw [e]; exact h.rh))
  refine ⟨?_, h.rm, h.rh, h.rt, h.ro, fun k hk => Nat.lt_of_lt_of_le (h.lt k hk) o.size, hr, h.out.keepw o (fun k hk e => by have := h.ro k hk; rw [e, h.rh] at this; cases this),
    h.thr.of_block (ob _ (by rw [h.rt]; simp) (by rw [h.rt]; simp)), h.vl, fun t v l hv hl => (h.frs t v l hv hl).keep o (fun _ _ => rfl) (fun k hk => by rw [hk, h.rh]; simp), fun W hW => ?_⟩
  · have := (ob m (by rw [h.rm]; simp) (by rw [h.rm]; simp)).trans h.ptr
    simpa [hl] using this
  · exact h.fix W (fun k hk => (hW k hk).trans (ob k (by rw [hk]; simp) (by rw [hk]; simp)))
/-- The output has changed. -/
theorem MdlAt.out' {C : Nat → Prop} {w w' : World} {p : Prg} {G : Gh} {m : Nat} {s : Mdl} (h : MdlAt w p G m s) (o : Only C w w') (hC : ∀ k, C k → G.R k = .model ∨ G.R k = .out) (outv : Value) (l : List Int) (R' : Nat → Role) (hR : ∀ k, G.R k ≠ .none → R' k = G.R k) (hlt : ∀ k, R' k ≠ .none → k < w'.heap.size) (hfix : ∀ k, R' k = .fixed → G.R k = .fixed)
    (hro : ∀ k, outv.ownBlock = some k → R' k = .out) (hout : w'.ownsRow 0 31 1 outv l.length (u32s l))
    (hp : w'.heap[m]? = some (.cells #[.int .i64 p.heap, G.pv, G.fv, .slice (some ⟨G.hb, 0, none⟩) s.heap.length s.heap.length, outv, .slice (some ⟨G.tb, 0, none⟩) s.thr.length G.tc, .int .i64 s.cur, G.chv, .int .u8 s.kind, .int .u32 s.v] 62 (0, 0))) :
    MdlAt w' p { G with R := R', outv := outv } m { s with out := l } := by
  have ob : ∀ k, G.R k ≠ .none → G.R k ≠ .model → G.R k ≠ .out → w'.heap[k]? = w.heap[k]? := fun k hk hm ho => o.block k (h.lt k hk) (fun hc => by rcases hC k hc with e | e; exact hm e; exact ho e)
  refine ⟨hp, (hR m (by rw [h.rm]; simp)).trans h.rm, (hR _ (by rw [h.rh]; simp)).trans h.rh, (hR _ (by rw [h.rt]; simp)).trans h.rt, hro, hlt, h.heap.of_block (ob _ (by rw [h.rh]; simp) (by rw [h.rh]; simp) (by rw [h.rh]; simp)), hout,
    h.thr.of_block (ob _ (by rw [h.rt]; simp) (by rw [h.rt]; simp) (by rw [h.rt]; simp)), h.vl, fun t v l hv hl => (h.frs t v l hv hl).keep o hR (fun k hk => ?_), fun W hW => ?_⟩
  · rcases hC k hk with e | e <;> rw [e] <;> simp
  · exact h.fix W (fun k hk => (hW k (show R' k = _ by rw [hR k (by rw [hk]; simp)]; exact hk)).trans (ob k (by rw [hk]; simp) (by rw [hk]; simp) (by rw [hk]; simp)))
/-- A step of a model: of the old blocks only its own changed, and those that are its own now were, or are new. -/
def Goes (w : World) (p : Prg) (G : Gh) (m : Nat) (s : Mdl) (w' : World) : Prop :=
  ∃ G' : Gh, MdlAt w' p G' m s ∧ Only G.own w w' ∧ (∀ k, k < w.heap.size → G'.R k = G.R k)
theorem Goes.same {w w' : World} {p : Prg} {G : Gh} {m : Nat} {s : Mdl} (h : MdlAt w' p G m s) (o : Only G.own w w') : Goes w p G m s w' := ⟨G, h, o, fun _ _ => rfl⟩
theorem Goes.trans {w w1 w2 : World} {p : Prg} {G : Gh} {m : Nat} {s s' : Mdl} (h : Goes w p G m s w1) (k : ∀ G', MdlAt w1 p G' m s → Goes w1 p G' m s' w2) : Goes w p G m s' w2 := by
  obtain ⟨G1, h1, o1, r1⟩ := h
  obtain ⟨G2, h2, o2, r2⟩ := k G1 h1
  exact ⟨G2, h2, o1.fresh o2 (fun i hi hk => by unfold Gh.own at hk ⊢; rw [r1 i hi] at hk; exact hk), fun k hk => (r2 k (Nat.lt_of_lt_of_le hk o1.size)).trans (r1 k hk)⟩
theorem Goes.below {w w1 w2 : World} {p : Prg} {G : Gh} {m : Nat} {s : Mdl} (h : Goes w p G m s w1) (hb : Below w1.heap.size w1 w2) : Goes w p G m s w2 := by
  obtain ⟨G1, h1, o1, r1⟩ := h
  exact ⟨G1, h1.keepb hb, o1.fresh (Only.of_below (S := fun _ => False) hb) (fun _ _ hf => hf.elim), r1⟩
end Go.Proofs.Ytdefooailcbnlaa
/- A model's frames: what their cells hold, and what a store into them makes. No function of the program is walked here. -/
namespace Go.Proofs.Ytdefooailcbnlaa
open Go.RowKit
set_option linter.unusedVariables false
set_option linter.unusedSimpArgs false
theorem ownsRow_set {w : World} {base : Nat} {e : TypeId} {size g cap n : Nat} {xs : List Value} (h : w.ownsRow base e size (.slice (some ⟨g, 0, none⟩) n cap) n xs) {i : Nat} (hi : i < n * size) (u : Value) : (w.setCell ⟨g, i, none⟩ u).ownsRow base e size (.slice (some ⟨g, 0, none⟩) n cap) n (xs.set i u) := by
  obtain ⟨h1, h2⟩ := h
  refine ⟨by simpa using h1, ?_⟩
  rcases h2 with ⟨h3, _⟩ | ⟨g', cap', cur, h3, h4, h5, h6, h7, h8, h9⟩
  · cases h3
  · cases h3
    refine .inr ⟨g, cap, cur.setIfInBounds i u, rfl, h4, obj_setCell h5 u, h6, h7, by simpa using h8, ?_⟩
    rw [Array.toList_setIfInBounds, ← h9, List.take_set]
theorem ownsRow_less {w : World} {base : Nat} {e : TypeId} {size g cap n : Nat} {xs : List Value} (h : w.ownsRow base e size (.slice (some ⟨g, 0, none⟩) n cap) n xs) {m : Nat} (hm : m ≤ n) : w.ownsRow base e size (.slice (some ⟨g, 0, none⟩) m cap) m (xs.take (m * size)) := by
  obtain ⟨h1, h2⟩ := h
  have hms : m * size ≤ n * size := Nat.mul_le_mul_right _ hm
  refine ⟨by rw [List.length_take, h1]; omega, ?_⟩
  rcases h2 with ⟨h3, _⟩ | ⟨g', cap', cur, h3, h4, h5, h6, h7, h8, h9⟩
  · cases h3
  · cases h3
    refine .inr ⟨g, cap, cur, rfl, h4, h5, by omega, h7, h8, ?_⟩
    rw [← h9, List.take_take, Nat.min_eq_left hms]
theorem flat_set {α : Type} (f : α → List Value) (s : Nat) (hs : ∀ x, (f x).length = s) : ∀ (l : List α) (k j : Nat) (x y : α) (u : Value), l[k]? = some x → j < s → f y = (f x).set j u → (l.flatMap f).set (k * s + j) u = (l.set k y).flatMap f := by
  intro l
  induction l with
  | nil => intro k j x y u h; simp at h
  | cons z l ih =>
    intro k j x y u h hj hy
    cases k with
    | zero =>
      simp only [List.getElem?_cons_zero, Option.some.injEq] at h
      subst h
      rw [Nat.zero_mul, Nat.zero_add, List.flatMap_cons, List.set_cons_zero, List.flatMap_cons, hy, List.set_append_left _ _ (by rw [hs]; exact hj)]
    | succ k =>
      rw [List.getElem?_cons_succ] at h
      rw [List.flatMap_cons, List.set_cons_succ, List.flatMap_cons, List.set_append_right _ _ (by rw [hs, Nat.succ_mul]; omega), hs, show (k + 1) * s + j - s = k * s + j by rw [Nat.succ_mul]; omega, ih k j x y u h hj hy]
theorem flat_take {α : Type} (f : α → List Value) (s : Nat) (hs : ∀ x, (f x).length = s) : ∀ (l : List α) (k : Nat), (l.flatMap f).take (k * s) = (l.take k).flatMap f := by
  intro l
  induction l with
  | nil => intro k; simp
  | cons z l ih =>
    intro k
    cases k with
    | zero => simp
    | succ k =>
      rw [List.flatMap_cons, List.take_succ_cons, List.flatMap_cons, List.take_append, hs, List.take_of_length_le (by rw [hs, Nat.succ_mul]; omega), show (k + 1) * s - s = k * s by rw [Nat.succ_mul]; omega, ih]
/-- A frame of thread t: its block, its registers' block. -/
structure FrAt (w : World) (G : Gh) (t j n : Nat) (f : Fr) (g k : Nat) : Prop where
  v : ∃ cap, G.vs[t]? = some (.slice (some ⟨g, 0, none⟩) n cap)
  rg : G.R g = .frs t
  rk : G.R k = .regs t j
  c0 : w.cell? ⟨g, j * 4, none⟩ = some (.int .i64 f.f)
  c1 : w.cell? ⟨g, j * 4 + 1, none⟩ = some (.int .i64 f.b)
  c2 : w.cell? ⟨g, j * 4 + 2, none⟩ = some (.int .i64 f.i)
  c3 : w.cell? ⟨g, j * 4 + 3, none⟩ = some (.slice (some ⟨k, 0, none⟩) f.regs.length f.regs.length)
  fz : ∀ i, w.frozen? ⟨g, i, none⟩ = false
  regs : RegsAt w k f.regs
theorem ownsRow_free {w : World} {base : Nat} {e : TypeId} {size g cap n : Nat} {xs : List Value} (h : w.ownsRow base e size (.slice (some ⟨g, 0, none⟩) n cap) n xs) (i : Nat) : w.frozen? ⟨g, i, none⟩ = false := by
  obtain ⟨h1, h2⟩ := h
  rcases h2 with ⟨h3, _⟩ | ⟨g', cap', cur, h3, h4, h5, h6, h7, h8, h9⟩
  · cases h3
  · cases h3; exact free_of_obj h5
theorem ownsRow_cell {w : World} {base : Nat} {e : TypeId} {size g cap n : Nat} {xs : List Value} (h : w.ownsRow base e size (.slice (some ⟨g, 0, none⟩) n cap) n xs) {i : Nat} {u : Value} (hu : xs[i]? = some u) : w.cell? ⟨g, i, none⟩ = some u := by
  have := h.cells (g := g) rfl i u hu
  rw [addr_add0] at this; exact this
theorem MdlAt.frame {w : World} {p : Prg} {G : Gh} {m : Nat} {s : Mdl} (h : MdlAt w p G m s) {t j : Nat} {l : List Fr} {f : Fr} (hl : s.thr[t]? = some l) (hf : l[j]? = some f) : ∃ g k, FrAt w G t j l.length f g k := by
  have ht : t < G.vs.length := by rw [h.vl]; exact (List.getElem?_eq_some_iff.1 hl).1
  have hv := List.getElem?_eq_getElem ht
  obtain ⟨g, cap, c, he, h1, h2, h3, h4⟩ := (h.frs t _ l hv hl).ex
  rw [he] at hv h3
  have hc : ∃ k, c[j]? = some (f, k) := by
    have : (c.map (·.1))[j]? = some f := by rw [h2]; exact hf
    rw [List.getElem?_map] at this
    cases hcj : c[j]? with
    | none => rw [hcj] at this; cases this
    | some y => rw [hcj] at this; simp at this; exact ⟨y.2, by rw [← this]⟩
  obtain ⟨k, hk⟩ := hc
  obtain ⟨r1, r2⟩ := h4 j _ hk
  have cc : ∀ q u, q < 4 → (frC (f, k))[q]? = some u → w.cell? ⟨g, j * 4 + q, none⟩ = some u := fun q u hq hu => ownsRow_cell h3 (by rw [flat_get frC 4 frC_len c j q (f, k) hk hq]; exact hu)
  exact ⟨g, k, ⟨cap, hv⟩, h1, r1, cc 0 _ (by omega) rfl, cc 1 _ (by omega) rfl, cc 2 _ (by omega) rfl, cc 3 _ (by omega) rfl, ownsRow_free h3, r2⟩
theorem Gh.vs_same {G : Gh} {t : Nat} {v : Value} (h : G.vs[t]? = some v) : { G with R := G.R, vs := G.vs.set t v } = G := by
  have : G.vs.set t v = G.vs := by
    obtain ⟨ht, rfl⟩ := List.getElem?_eq_some_iff.1 h
    exact List.set_getElem_self ht
  rw [this]
/-- A frame's block, or its number of an instruction, is written. -/
theorem MdlAt.setFrame {w : World} {p : Prg} {G : Gh} {m : Nat} {s : Mdl} (h : MdlAt w p G m s) {t j : Nat} {l : List Fr} {f f' : Fr} {g k : Nat} (hl : s.thr[t]? = some l) (hf : l[j]? = some f) (hF : FrAt w G t j l.length f g k) {q : Nat} {u : Value} (hq : q < 3)
    (hu : frC (f', k) = (frC (f, k)).set q u) (hr : f'.regs = f.regs) : MdlAt (w.setCell ⟨g, j * 4 + q, none⟩ u) p G m { s with thr := s.thr.set t (l.set j f') } := by
  obtain ⟨ht, _⟩ := List.getElem?_eq_some_iff.1 hl
  obtain ⟨cap, hv⟩ := hF.v
  obtain ⟨g', cap', c, he, h1, h2, h3, h4⟩ := (h.frs t _ l hv hl).ex
  cases he
  have hjl : j < l.length := (List.getElem?_eq_some_iff.1 hf).1
  have hcl : c.length = l.length := by rw [← h2, List.length_map]
  have hc : c[j]? = some (f, k) := by
    have hjc : j < c.length := by omega
    have e1 : c[j].1 = f := by
      have : (c.map (·.1))[j]? = some f := by rw [h2]; exact hf
      rw [List.getElem?_map, List.getElem?_eq_getElem hjc] at this
      simpa using this
    have e3 := ownsRow_cell h3 (i := j * 4 + 3) (by rw [flat_get frC 4 frC_len c j 3 c[j] (List.getElem?_eq_getElem hjc) (by omega)]; rfl)
    rw [hF.c3] at e3
    have e4 : k = c[j].2 := by simp at e3; exact e3.1
    rw [List.getElem?_eq_getElem hjc, ← e1, e4]
  have hon : Only (fun b => b = g) w (w.setCell ⟨g, j * 4 + q, none⟩ u) := (Only.refl (fun b => b = g) w).setCell (p := ⟨g, j * 4 + q, none⟩) rfl u
  have hbase := h.thr1 ht hon G.R (fun _ _ => rfl) (fun b hb => Nat.lt_of_lt_of_le (h.lt b hb) hon.size) (fun b hb => .inr (.inl (by rw [hb]; exact h1))) (v' := .slice (some ⟨g, 0, none⟩) l.length cap) (l' := l.set j f')
    (by
      have : G.vs.set t (.slice (some ⟨g, 0, none⟩) l.length cap) = G.vs := by
        obtain ⟨ht', he'⟩ := List.getElem?_eq_some_iff.1 hv
        rw [← he']; exact List.set_getElem_self ht'
      rw [this]
      refine h.thr.of_block (hon.block _ h.thr.lt (fun e => ?_))
      have := h.rt; rw [e, h1] at this; cases this)
    ⟨⟨g, cap, c.set j (f', k), by rw [List.length_set], h1, by rw [List.map_set, h2], ?_, fun i x hx => ?_⟩⟩ (fun _ hk => hk)
  · rw [Gh.vs_same hv] at hbase
    exact hbase
  · rw [List.length_set, ← flat_set frC 4 frC_len c j q (f, k) (f', k) u hc (by omega) hu]
    exact ownsRow_set h3 (by have : (j + 1) * 4 ≤ l.length * 4 := Nat.mul_le_mul_right 4 hjl; omega) u
  · have keep : ∀ b, G.R b = .regs t i → ∀ r : List Int, RegsAt w b r → RegsAt (w.setCell ⟨g, j * 4 + q, none⟩ u) b r := fun b hb r hr' => hr'.other (fun e => by
      have e' : b = g := e
      rw [e', h1] at hb; cases hb) u
    by_cases e : j = i
    · subst e
      rw [List.getElem?_set_self (by omega)] at hx
      cases hx
      exact ⟨hF.rk, by dsimp only; rw [hr]; exact keep k hF.rk _ hF.regs⟩
    · rw [List.getElem?_set_ne e] at hx
      obtain ⟨a, b⟩ := h4 i x hx
      exact ⟨a, keep _ a _ b⟩
/-- A register is written. -/
theorem MdlAt.setReg {w : World} {p : Prg} {G : Gh} {m : Nat} {s : Mdl} (h : MdlAt w p G m s) {t j : Nat} {l : List Fr} {f : Fr} {g k : Nat} (hl : s.thr[t]? = some l) (hf : l[j]? = some f) (hF : FrAt w G t j l.length f g k) {d : Nat} (hd : d < f.regs.length) (x : Int) :
    MdlAt (w.setCell ⟨k, d, none⟩ (.int .u32 x)) p G m { s with thr := s.thr.set t (l.set j { f with regs := f.regs.set d x }) } := by
  obtain ⟨ht, _⟩ := List.getElem?_eq_some_iff.1 hl
  obtain ⟨cap, hv⟩ := hF.v
  obtain ⟨g', cap', c, he, h1, h2, h3, h4⟩ := (h.frs t _ l hv hl).ex
  cases he
  have hjl : j < l.length := (List.getElem?_eq_some_iff.1 hf).1
  have hcl : c.length = l.length := by rw [← h2, List.length_map]
  have hc : c[j]? = some (f, k) := by
    have hjc : j < c.length := by omega
    have e1 : c[j].1 = f := by
      have : (c.map (·.1))[j]? = some f := by rw [h2]; exact hf
      rw [List.getElem?_map, List.getElem?_eq_getElem hjc] at this
      simpa using this
    have e3 := ownsRow_cell h3 (i := j * 4 + 3) (by rw [flat_get frC 4 frC_len c j 3 c[j] (List.getElem?_eq_getElem hjc) (by omega)]; rfl)
    rw [hF.c3] at e3
    have e4 : k = c[j].2 := by simp at e3; exact e3.1
    rw [List.getElem?_eq_getElem hjc, ← e1, e4]
  have hon : Only (fun b => b = k) w (w.setCell ⟨k, d, none⟩ (.int .u32 x)) := (Only.refl (fun b => b = k) w).setCell (p := ⟨k, d, none⟩) rfl _
  have hkg : k ≠ g := fun e => by have := hF.rk; rw [e, h1] at this; cases this
  have hbase := h.thr1 ht hon G.R (fun _ _ => rfl) (fun b hb => Nat.lt_of_lt_of_le (h.lt b hb) hon.size) (fun b hb => .inr (.inr ⟨j, by rw [hb]; exact hF.rk⟩)) (v' := .slice (some ⟨g, 0, none⟩) l.length cap) (l' := l.set j { f with regs := f.regs.set d x })
    (by
      have : G.vs.set t (.slice (some ⟨g, 0, none⟩) l.length cap) = G.vs := by
        obtain ⟨ht', he'⟩ := List.getElem?_eq_some_iff.1 hv
        rw [← he']; exact List.set_getElem_self ht'
      rw [this]
      refine h.thr.of_block (hon.block _ h.thr.lt (fun e => ?_))
      have := h.rt; rw [e, hF.rk] at this; cases this)
    ⟨⟨g, cap, c.set j ({ f with regs := f.regs.set d x }, k), by rw [List.length_set], h1, by rw [List.map_set, h2], ?_, fun i y hy => ?_⟩⟩ (fun _ hk => hk)
  · rw [Gh.vs_same hv] at hbase
    exact hbase
  · have e : (c.set j ({ f with regs := f.regs.set d x }, k)).flatMap frC = c.flatMap frC := by
      rw [← flat_set frC 4 frC_len c j 0 (f, k) ({ f with regs := f.regs.set d x }, k) (.int .i64 f.f) hc (by omega) (by simp [frC])]
      have hg0 := flat_get frC 4 frC_len c j 0 (f, k) hc (by omega)
      obtain ⟨hlt, he0⟩ := List.getElem?_eq_some_iff.1 (hg0.trans (show (frC (f, k))[0]? = some (Value.int .i64 f.f) from rfl))
      rw [← he0]; exact List.set_getElem_self hlt
    rw [List.length_set, e]
    exact h3.keepw hon (fun b hb e => by
      simp [Value.ownBlock] at hb
      exact hkg (e.symm.trans hb.symm))
  · by_cases e : j = i
    · subst e
      rw [List.getElem?_set_self (by omega)] at hy
      cases hy
      refine ⟨hF.rk, ?_⟩
      have := hF.regs.set (k := d) (by simpa [u32s] using hd) (.int .u32 x)
      rw [show (u32s f.regs).set d (Value.int .u32 x) = u32s (f.regs.set d x) by unfold u32s; rw [List.map_set]] at this
      exact this
    · rw [List.getElem?_set_ne e] at hy
      obtain ⟨a, b⟩ := h4 i y hy
      exact ⟨a, b.other (fun e2 => by
        have e' : y.2 = k := e2
        rw [e', hF.rk] at a
        simp at a; exact e a) _⟩
end Go.Proofs.Ytdefooailcbnlaa
/- Walks of the package flat: what single instructions do to the innermost frame. -/
namespace Go.Proofs.Ytdefooailcbnlaa
open Go.RowKit
set_option linter.unusedVariables false
set_option linter.unusedSimpArgs false
theorem fhid {p : Prop} (h : p) : Hid p := h
theorem words_at {l : List Int} {k : Nat} (h : k < l.length) : (u32s l)[k]? = some (.int .u32 (l.getD k 0)) := by
  simp [u32s, h, List.getD_eq_getElem?_getD]
/-- What an instruction is given: the model, its innermost frame. -/
structure OpIn (w : World) (p : Prg) (G : Gh) (m : Nat) (s : Mdl) (up : List Fr) (f : Fr) (g k : Nat) : Prop where
  at' : MdlAt w p G m s
  thr : s.thr[s.cur]? = some (up ++ [f])
  fr : FrAt w G s.cur up.length (up.length + 1) f g k
theorem FrAt.keepo {C : Nat → Prop} {w w' : World} {G : Gh} {t j n : Nat} {f : Fr} {g k : Nat} (h : FrAt w G t j n f g k) (o : Only C w w') (hg : ¬ C g) (hk : ¬ C k) : FrAt w' G t j n f g k := by
  obtain ⟨a, b, c, d, e, f', g', i, q⟩ := h
  have lt := World.block_lt_of_cell? _ _ d
  have cc : ∀ i, w'.cell? ⟨g, i, none⟩ = w.cell? ⟨g, i, none⟩ := fun i => o.cell (p := ⟨g, i, none⟩) lt hg
  exact ⟨a, b, c, (cc _).trans d, (cc _).trans e, (cc _).trans f', (cc _).trans g', fun i' => (World.frozen?_of_block (w := w) (a := ⟨g, i', none⟩) (o.block g lt hg)).trans (i i'), q.of_block (o.block k q.lt hk)⟩
theorem OpIn.keepb {w w' : World} {p : Prg} {G : Gh} {m : Nat} {s : Mdl} {up : List Fr} {f : Fr} {g k : Nat} (h : OpIn w p G m s up f g k) (hb : Below w.heap.size w w') : OpIn w' p G m s up f g k :=
  ⟨h.at'.keepb hb, h.thr, h.fr.keepo (Only.of_below (S := fun _ => False) hb) id id⟩
theorem OpIn.get {w : World} {p : Prg} {G : Gh} {m : Nat} {s : Mdl} {up : List Fr} {f : Fr} (h : MdlAt w p G m s) (ht : s.thr[s.cur]? = some (up ++ [f])) : ∃ g k, OpIn w p G m s up f g k := by
  obtain ⟨g, k, hF⟩ := h.frame (j := up.length) (f := f) ht (by simp)
  exact ⟨g, k, h, ht, by simpa using hF⟩
theorem set_last {up : List Fr} {f f' : Fr} : (up ++ [f]).set up.length f' = up ++ [f'] := by simp
theorem OpIn.reg {w : World} {p : Prg} {G : Gh} {m : Nat} {s : Mdl} {up : List Fr} {f : Fr} {g k : Nat} (h : OpIn w p G m s up f g k) {d : Int} (hd : 0 ≤ d ∧ d < f.regs.length) (x : Int) : MdlAt (w.setCell ⟨k, d.toNat, none⟩ (.int .u32 x)) p G m (put s (up ++ [f.wr d x])) := by
  have := h.at'.setReg (j := up.length) (f := f) h.thr (by simp) (by simpa using h.fr) (d := d.toNat) (by omega) x
  rw [set_last] at this
  exact this
theorem OpIn.own {w : World} {p : Prg} {G : Gh} {m : Nat} {s : Mdl} {up : List Fr} {f : Fr} {g k : Nat} (h : OpIn w p G m s up f g k) : G.own g ∧ G.own k ∧ G.own m := by
  refine ⟨⟨?_, ?_⟩, ⟨?_, ?_⟩, ⟨?_, ?_⟩⟩ <;> first | (rw [h.fr.rg]; simp; done) | (rw [h.fr.rk]; simp; done) | (rw [h.at'.rm]; simp; done)
theorem OpIn.goReg {w w0 : World} {p : Prg} {G : Gh} {m : Nat} {s : Mdl} {up : List Fr} {f : Fr} {g k : Nat} (h : OpIn w p G m s up f g k) (hb : Below w0.heap.size w0 w) {d : Int} (hd : 0 ≤ d ∧ d < f.regs.length) (x : Int) : Goes w0 p G m (put s (up ++ [f.wr d x])) (w.setCell ⟨k, d.toNat, none⟩ (.int .u32 x)).drew :=
  Goes.same ((h.reg hd x).keepb ((Below.refl _ _).drew)) (((Only.of_below hb).setCell (p := ⟨k, d.toNat, none⟩) h.own.2.1 _).drew)
/-- The innermost frame's place is written: its block, its number of an instruction. -/
theorem OpIn.setB {w : World} {p : Prg} {G : Gh} {m : Nat} {s : Mdl} {up : List Fr} {f : Fr} {g k : Nat} (h : OpIn w p G m s up f g k) (b : Nat) : OpIn (w.setCell ⟨g, up.length * 4 + 1, none⟩ (.int .i64 b)) p G m (put s (up ++ [{ f with b := b }])) up { f with b := b } g k := by
  have hc := (List.getElem?_eq_some_iff.1 h.thr).1
  have h1 := h.at'.setFrame (j := up.length) (f := f) (f' := { f with b := b }) h.thr (by simp) (by simpa using h.fr) (q := 1) (u := .int .i64 b) (by omega) rfl rfl
  rw [set_last] at h1
  obtain ⟨a, e, c, d, e', f', g', i, q⟩ := h.fr
  refine ⟨h1, by show (s.thr.set s.cur _)[s.cur]? = _; rw [List.getElem?_set_self hc], ⟨a, e, c, (World.cell?_setCell_other _ _ _ _ (by simp)).trans d, World.cell?_setCell_same _ _ _ e', (World.cell?_setCell_other _ _ _ _ (by simp)).trans f', (World.cell?_setCell_other _ _ _ _ (by simp)).trans g', fun i' => by simpa using i i', q.other (fun e2 => by
    have e3 : k = g := e2
    rw [e3] at c; rw [e] at c; cases c) _⟩⟩
theorem OpIn.setI {w : World} {p : Prg} {G : Gh} {m : Nat} {s : Mdl} {up : List Fr} {f : Fr} {g k : Nat} (h : OpIn w p G m s up f g k) (n : Nat) : OpIn (w.setCell ⟨g, up.length * 4 + 2, none⟩ (.int .i64 n)) p G m (put s (up ++ [{ f with i := n }])) up { f with i := n } g k := by
  have hc := (List.getElem?_eq_some_iff.1 h.thr).1
  have h1 := h.at'.setFrame (j := up.length) (f := f) (f' := { f with i := n }) h.thr (by simp) (by simpa using h.fr) (q := 2) (u := .int .i64 n) (by omega) rfl rfl
  rw [set_last] at h1
  obtain ⟨a, e, c, d, e', f', g', i, q⟩ := h.fr
  refine ⟨h1, by show (s.thr.set s.cur _)[s.cur]? = _; rw [List.getElem?_set_self hc], ⟨a, e, c, (World.cell?_setCell_other _ _ _ _ (by simp)).trans d, (World.cell?_setCell_other _ _ _ _ (by simp)).trans e', World.cell?_setCell_same _ _ _ f', (World.cell?_setCell_other _ _ _ _ (by simp)).trans g', fun i' => by simpa using i i', q.other (fun e2 => by
    have e3 : k = g := e2
    rw [e3] at c; rw [e] at c; cases c) _⟩⟩
theorem put_put (s : Mdl) (a b : List Fr) : put (put s a) b = put s b := by
  unfold put; simp
theorem MdlAt.cellsm {w : World} {p : Prg} {G : Gh} {m : Nat} {s : Mdl} (h : MdlAt w p G m s) : (w.cell? ⟨m, 3, none⟩ = some (.slice (some ⟨G.hb, 0, none⟩) s.heap.length s.heap.length) ∧ w.cell? ⟨m, 4, none⟩ = some G.outv ∧ w.cell? ⟨m, 5, none⟩ = some (.slice (some ⟨G.tb, 0, none⟩) s.thr.length G.tc) ∧ w.cell? ⟨m, 6, none⟩ = some (.int .i64 s.cur) ∧ w.cell? ⟨m, 7, none⟩ = some G.chv ∧ w.cell? ⟨m, 8, none⟩ = some (.int .u8 s.kind) ∧ w.cell? ⟨m, 9, none⟩ = some (.int .u32 s.v)) ∧
    (w.cell? ⟨m, 0, none⟩ = some (.int .i64 p.heap) ∧ w.cell? ⟨m, 1, none⟩ = some G.pv ∧ w.cell? ⟨m, 2, none⟩ = some G.fv) ∧ ∀ i, w.frozen? ⟨m, i, none⟩ = false := by
  have c := fun i => cell_of_obj (i := i) h.ptr
  exact ⟨⟨c 3, c 4, c 5, c 6, c 7, c 8, c 9⟩, ⟨c 0, c 1, c 2⟩, fun i => free_of_obj h.ptr⟩
theorem MdlAt.setStop {w : World} {p : Prg} {G : Gh} {m : Nat} {s : Mdl} (h : MdlAt w p G m s) (kind v : Int) : MdlAt ((w.setCell ⟨m, 8, none⟩ (.int .u8 kind)).setCell ⟨m, 9, none⟩ (.int .u32 v)) p G m { s with kind := kind, v := v } := by
  have hp := obj_setCell (obj_setCell (i := 8) h.ptr (.int .u8 kind)) (i := 9) (.int .u32 v)
  exact h.cells (w' := (w.setCell ⟨m, 8, none⟩ (.int .u8 kind)).setCell ⟨m, 9, none⟩ (.int .u32 v)) (((Only.refl (fun k => k = m) w).setCell (p := ⟨m, 8, none⟩) rfl _).setCell (p := ⟨m, 9, none⟩) rfl _) s.cur G.chv s.ch kind v (by rw [hp]; simp) (fun _ h => h)
theorem fault_any (w : World) (p : Prg) (G : Gh) (m : Nat) (s : Mdl) (h : MdlAt w p G m s) (why : Int) :
    Calls Try.prog 69 #[.pointer (some ⟨m, 0, none⟩), .int .u32 why] w fun e w' => e = .returned (.tuple #[]) ∧ MdlAt w' p G m (fault s why) ∧ Only (fun k => k = m) w w' := by
  obtain ⟨⟨c3, c4, c5, c6, c7, c8, c9⟩, _, fz⟩ := h.cellsm
  have f8 := fz 8
  have f9 := fz 9
  have H := fhid (h.setStop 2 why)
  clear h
  go_enter Try.func69, Try.ntmps69
  go_wp2_with fail
  go_returns
  exact ⟨rfl, H.out, ((Only.refl (fun k => k = m) w).setCell (p := ⟨m, 8, none⟩) rfl _).setCell (p := ⟨m, 9, none⟩) rfl _⟩
set_option maxRecDepth 100000 in
set_option maxHeartbeats 2000000 in
theorem konst_any (x : Insx) (pa : Option Addr) (na ca : Nat) (w : World) (p : Prg) (G : Gh) (m : Nat) (s : Mdl) (up : List Fr) (f : Fr) (g k : Nat) (h : OpIn w p G m s up f g k) (hd : 0 ≤ x.d ∧ x.d < f.regs.length) :
    Calls Try.prog 42 #[.pointer (some ⟨m, 0, none⟩), .pointer (some ⟨g, up.length * 4, none⟩), x.agg (.slice pa na ca)] w fun e w' => e = .returned (.tuple #[]) ∧ Goes w p G m (put s (up ++ [f.wr x.d x.n])) w' := by
  have HB := fhid (IBox.new w x (.slice pa na ca) 44)
  have HW := fhid (show Below w.heap.size w (w.alloc (.cells #[.int .u8 x.op, .int .i64 x.d, .int .i64 x.a, .int .i64 x.b, .int .u32 x.n, .int .i64 x.f, .slice pa na ca, .int .i64 x.l1, .int .i64 x.l2] 44)) from (Below.refl _ _).alloc (Nat.le_refl _) _)
  have HN := fhid (h.keepb HW.out)
  clear h
  go_enter Try.func42, Try.ntmps42
  go_wp2_with fail
  generalize w.alloc (.cells #[.int .u8 x.op, .int .i64 x.d, .int .i64 x.a, .int .i64 x.b, .int .u32 x.n, .int .i64 x.f, .slice pa na ca, .int .i64 x.l1, .int .i64 x.l2] 44) = W at *
  obtain ⟨_, b0, b1, b2, b3, b4, b5, b6, b7, b8⟩ := HB.out
  obtain ⟨_, _, _, c0, c1, c2, c3, fz, rg⟩ := HN.out.fr
  have Hd := fhid hd
  obtain ⟨hd0, hd1⟩ := hd
  have r1 := rg.cell (words_at (k := x.d.toNat) (by omega))
  have rf := rg.frozen x.d.toNat
  clear rg
  go_region
  all_goals
    go_wp2_with fail
    go_returns
    exact ⟨rfl, HN.out.goReg HW.out Hd.out _⟩
set_option maxRecDepth 100000 in
set_option maxHeartbeats 2000000 in
theorem mov_any (x : Insx) (pa : Option Addr) (na ca : Nat) (w : World) (p : Prg) (G : Gh) (m : Nat) (s : Mdl) (up : List Fr) (f : Fr) (g k : Nat) (h : OpIn w p G m s up f g k) (hd : 0 ≤ x.d ∧ x.d < f.regs.length) (ha : 0 ≤ x.a ∧ x.a < f.regs.length) :
    Calls Try.prog 44 #[.pointer (some ⟨m, 0, none⟩), .pointer (some ⟨g, up.length * 4, none⟩), x.agg (.slice pa na ca)] w fun e w' => e = .returned (.tuple #[]) ∧ Goes w p G m (put s (up ++ [f.wr x.d (regAt f.regs x.a)])) w' := by
  have HB := fhid (IBox.new w x (.slice pa na ca) 44)
  have HW := fhid (show Below w.heap.size w (w.alloc (.cells #[.int .u8 x.op, .int .i64 x.d, .int .i64 x.a, .int .i64 x.b, .int .u32 x.n, .int .i64 x.f, .slice pa na ca, .int .i64 x.l1, .int .i64 x.l2] 44)) from (Below.refl _ _).alloc (Nat.le_refl _) _)
  have HN := fhid (h.keepb HW.out)
  clear h
  go_enter Try.func44, Try.ntmps44
  go_wp2_with fail
  generalize w.alloc (.cells #[.int .u8 x.op, .int .i64 x.d, .int .i64 x.a, .int .i64 x.b, .int .u32 x.n, .int .i64 x.f, .slice pa na ca, .int .i64 x.l1, .int .i64 x.l2] 44) = W at *
  obtain ⟨_, b0, b1, b2, b3, b4, b5, b6, b7, b8⟩ := HB.out
  obtain ⟨_, _, _, c0, c1, c2, c3, fz, rg⟩ := HN.out.fr
  obtain ⟨ha0, ha1⟩ := ha
  have ra : W.cell? ⟨k, x.a.toNat, none⟩ = some (.int .u32 (regAt f.regs x.a)) := rg.cell (words_at (k := x.a.toNat) (by omega))
  have Hd := fhid hd
  obtain ⟨hd0, hd1⟩ := hd
  have r1 := rg.cell (words_at (k := x.d.toNat) (by omega))
  have rf := rg.frozen x.d.toNat
  clear rg
  generalize hav : regAt f.regs x.a = av at ra
  have Hav := fhid hav
  clear hav
  go_region
  all_goals
    go_wp2_with fail
    go_returns
    rw [Hav.out]
    exact ⟨rfl, HN.out.goReg HW.out Hd.out _⟩
set_option maxRecDepth 100000 in
set_option maxHeartbeats 2000000 in
theorem jmp_any (x : Insx) (pa : Option Addr) (na ca : Nat) (w : World) (p : Prg) (G : Gh) (m : Nat) (s : Mdl) (up : List Fr) (f : Fr) (g k : Nat) (h : OpIn w p G m s up f g k) (hl : 0 ≤ x.l1) :
    Calls Try.prog 50 #[.pointer (some ⟨m, 0, none⟩), .pointer (some ⟨g, up.length * 4, none⟩), x.agg (.slice pa na ca)] w fun e w' => e = .returned (.tuple #[]) ∧ Goes w p G m (put s (up ++ [f.to x.l1])) w' := by
  have HB := fhid (IBox.new w x (.slice pa na ca) 44)
  have HW := fhid (show Below w.heap.size w (w.alloc (.cells #[.int .u8 x.op, .int .i64 x.d, .int .i64 x.a, .int .i64 x.b, .int .u32 x.n, .int .i64 x.f, .slice pa na ca, .int .i64 x.l1, .int .i64 x.l2] 44)) from (Below.refl _ _).alloc (Nat.le_refl _) _)
  have HN := fhid (h.keepb HW.out)
  have H := fhid h
  obtain ⟨_, _, _, c0, c1, c2, c3, fz, rg⟩ := h.fr
  have hlt := World.block_lt_of_cell? _ _ c0
  have hltk := rg.lt
  have f1 := fz (up.length * 4 + 1)
  have f2 := fz (up.length * 4 + 2)
  clear h fz
  clear rg
  go_enter Try.func50, Try.ntmps50
  go_wp2_with fail
  go_returns
  have h2 := ((H.out.setB x.l1.toNat).setI 0).at'
  rw [put_put, show ((x.l1.toNat : Nat) : Int) = x.l1 by omega] at h2
  exact ⟨rfl, Goes.same (h2.keepb ((Below.refl _ _).alloc (Nat.le_refl _) _)) ((((Only.refl G.own w).setCell (p := ⟨g, up.length * 4 + 1, none⟩) H.out.own.1 _).setCell (p := ⟨g, up.length * 4 + 2, none⟩) H.out.own.1 _).alloc _)⟩
set_option maxRecDepth 100000 in
set_option maxHeartbeats 2000000 in
theorem br_any (x : Insx) (pa : Option Addr) (na ca : Nat) (w : World) (p : Prg) (G : Gh) (m : Nat) (s : Mdl) (up : List Fr) (f : Fr) (g k : Nat) (h : OpIn w p G m s up f g k) (hl : 0 ≤ x.l1) (hl2 : 0 ≤ x.l2) (ha : 0 ≤ x.a ∧ x.a < f.regs.length) :
    Calls Try.prog 51 #[.pointer (some ⟨m, 0, none⟩), .pointer (some ⟨g, up.length * 4, none⟩), x.agg (.slice pa na ca)] w fun e w' => e = .returned (.tuple #[]) ∧ Goes w p G m (put s (up ++ [f.to (if regAt f.regs x.a = 0 then x.l2 else x.l1)])) w' := by
  have H2 := fhid (show MdlAt ((w.setCell ⟨g, up.length * 4 + 1, none⟩ (.int .i64 x.l1)).setCell ⟨g, up.length * 4 + 2, none⟩ (.int .i64 0)) p G m (put s (up ++ [f.to x.l1])) ∧ OpIn ((w.setCell ⟨g, up.length * 4 + 1, none⟩ (.int .i64 x.l1)).setCell ⟨g, up.length * 4 + 2, none⟩ (.int .i64 0)) p G m (put s (up ++ [f.to x.l1])) up (f.to x.l1) g k from by
    have h2 := (h.setB x.l1.toNat).setI 0
    rw [put_put, show ((x.l1.toNat : Nat) : Int) = x.l1 by omega] at h2
    exact ⟨h2.at', h2⟩)
  have HO := fhid (show Only G.own w ((w.setCell ⟨g, up.length * 4 + 1, none⟩ (.int .i64 x.l1)).setCell ⟨g, up.length * 4 + 2, none⟩ (.int .i64 0)) from ((Only.refl G.own w).setCell (p := ⟨g, up.length * 4 + 1, none⟩) h.own.1 _).setCell (p := ⟨g, up.length * 4 + 2, none⟩) h.own.1 _)
  obtain ⟨_, _, _, c0, c1, c2, c3, fz, rg⟩ := h.fr
  have hlt := World.block_lt_of_cell? _ _ c0
  have hltk := rg.lt
  have f1 := fz (up.length * 4 + 1)
  have f2 := fz (up.length * 4 + 2)
  clear h fz
  go_enter Try.func51, Try.ntmps51
  go_wp2_with fail
  have hsz : ((w.setCell ⟨g, up.length * 4 + 1, none⟩ (.int .i64 x.l1)).setCell ⟨g, up.length * 4 + 2, none⟩ (.int .i64 0)).heap.size = w.heap.size := by simp [World.setCell]
  generalize ((w.setCell ⟨g, up.length * 4 + 1, none⟩ (.int .i64 x.l1)).setCell ⟨g, up.length * 4 + 2, none⟩ (.int .i64 0)) = w2 at *
  have HB := fhid (IBox.new w2 x (.slice pa na ca) 44)
  rw [hsz] at HB
  have HW := fhid (show Below w2.heap.size w2 (w2.alloc (.cells #[.int .u8 x.op, .int .i64 x.d, .int .i64 x.a, .int .i64 x.b, .int .u32 x.n, .int .i64 x.f, .slice pa na ca, .int .i64 x.l1, .int .i64 x.l2] 44)) from (Below.refl _ _).alloc (Nat.le_refl _) _)
  have HN := fhid (H2.out.2.keepb HW.out)
  generalize w2.alloc (.cells #[.int .u8 x.op, .int .i64 x.d, .int .i64 x.a, .int .i64 x.b, .int .u32 x.n, .int .i64 x.f, .slice pa na ca, .int .i64 x.l1, .int .i64 x.l2] 44) = W at *
  obtain ⟨_, b0, b1, b2, b3, b4, b5, b6, b7, b8⟩ := HB.out
  obtain ⟨_, _, _, c0, c1, c2, c3, fz, rg⟩ := HN.out.fr
  obtain ⟨ha0, ha1⟩ := ha
  have ra : W.cell? ⟨k, x.a.toNat, none⟩ = some (.int .u32 (regAt f.regs x.a)) := rg.cell (words_at (k := x.a.toNat) (by show x.a.toNat < f.regs.length; omega))
  have ha1' : x.a < (f.to x.l1).regs.length := ha1
  have fz1 := fz (up.length * 4 + 1)
  clear rg fz
  by_cases hz : regAt f.regs x.a = 0
  · rw [hz] at ra
    have Hz := fhid hz
    clear hz
    go_quiet (fail)
    go_wp2_with fail
    go_returns
    try rw [if_pos Hz.out]
    have h3 := ((HN.out.keepb (below_drewN (Below.refl _ _) nq)).setB x.l2.toNat).at'
    rw [put_put, show ((x.l2.toNat : Nat) : Int) = x.l2 by omega] at h3
    exact ⟨rfl, Goes.same h3 (((HO.out.fresh (Only.of_below (S := fun _ => False) HW.out) (fun _ _ h => h.elim)).drewN nq).setCell (p := ⟨g, up.length * 4 + 1, none⟩) HN.out.own.1 _)⟩
  · have hz2 : (regAt f.regs x.a == 0) = false := by simpa using hz
    generalize hav : regAt f.regs x.a = av at ra hz2
    have Hz := fhid hz
    have Hav := fhid hav
    clear hz hav
    go_quiet (fail)
    go_wp2_with fail
    go_returns
    try rw [if_neg Hz.out]
    exact ⟨rfl, Goes.same (HN.out.at'.keepb (below_drewN (Below.refl _ _) nq)) ((HO.out.fresh (Only.of_below (S := fun _ => False) HW.out) (fun _ _ h => h.elim)).drewN nq)⟩
end Go.Proofs.Ytdefooailcbnlaa
