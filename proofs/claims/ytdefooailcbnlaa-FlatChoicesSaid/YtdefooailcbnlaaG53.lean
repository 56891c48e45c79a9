/- append(own, s...) at a step of a region that draws its order, where s may be nil; a box that may be made at any time meanwhile. No function of the program is walked here. -/
import Derived.Test.YtdefooailcbnlaaG30
import Derived.Test.YtdefooailcbnlaaG35
import Derived.Test.YtdefooailcbnlaaG09
namespace Go.Proofs.Ytdefooailcbnlaa
open Go Go.RowKit
set_option linter.unusedVariables false
theorem step_append_plus (P : Program) {w : World} {ops : Array Oper} {o : Oper} {a : Act} {K : Act → World → Prop} {Q : Exit → Act → World → Prop} {E : Prop} (hgd : o.guard = none) (s x : Operand) (t : TypeId)
    (ho : o.op = .call { callee := .builtin .append, args := #[s, x], argTypes := #[t, t] })
    (e : TypeId) (i : TypeInfo) (z : Value) (bytes : Nat) (ht : P.underlying t = some (.slice e)) (hi : P.info? e = some i) (hz : i.zero = some z)
    (hsize : i.size = 1) (hby : i.bytes = bytes) (hzs : z.cells.size = 1)
    (g0 n c0 : Nat) (xs : List Value) (hs : a.eval s = .slice (some ⟨g0, 0, none⟩) n c0) (hown : w.ownsRow 0 e 1 (.slice (some ⟨g0, 0, none⟩) n c0) n xs)
    (pp : Option Addr) (m c : Nat) (news : List Value) (hx : a.eval x = .slice pp m c) (hl : news.length = m * 1) (hnil : pp = none → m = 0 ∧ c = 0) (hnews : ∀ ad, pp = some ad → ∀ (j : Nat) u, news[j]? = some u → w.cell? (ad.add j) = some u) (h1 : ∀ u ∈ news, u.oneCell' = true)
    (h63 : n + m ≤ maxLen) (hbytes : (n + m) * bytes ≤ 140737488355328) (r : Nat) (hr : n + m = r)
    (h : ∀ g cap w', w'.ownsRow 0 e 1 (.slice (some ⟨g, 0, none⟩) r cap) r (xs ++ news) → w.grownBy w' (some g0) → (g = g0 ∨ w.heap.size ≤ g) → K (a.put o.dst (.slice (some ⟨g, 0, none⟩) r cap)) w') :
    if Region.wanted o (yielded ops a.tmps) = true then Oper.wp P o a w K Q else E := by
  subst hr
  cases pp with
  | none =>
    obtain ⟨rfl, rfl⟩ := hnil rfl
    obtain rfl : news = [] := List.eq_nil_of_length_eq_zero (by omega)
    have h' := h g0 c0 w (by rw [Nat.add_zero, List.append_nil]; exact hown) (World.grownBy.refl w _) (.inl rfl)
    rw [Nat.add_zero] at h'
    exact step_append_none (P := P) _ hgd s x t ho 0 e i 1 ht hi _ n xs hs hown hx h'
  | some ad =>
    have hw : Region.wanted o (yielded ops a.tmps) = true := by simp [Region.wanted, hgd]
    rw [if_pos hw]
    obtain ⟨v', w', hrun, r1, r2, r3⟩ := run_append_place (P := P) w t o.type e i z bytes ht hi hz hsize hby hzs _ n xs hown ad m c news hl (hnews ad rfl) h1 h63 hbytes
    have hr2 : w.grownBy w' (some g0) := r2
    rcases r1.2 with ⟨rfl, hn⟩ | ⟨g, cap, cur, rfl, _⟩
    · exfalso
      obtain ⟨v2, w2, hrun2, _, _, h4⟩ := run_append_own (P := P) w 0 t o.type e i z 1 bytes ht hi hz hsize hby hzs (by decide) _ n xs hown ad m c news hl (hnews ad rfl) h1 h63 hbytes (Nat.zero_le _)
      rw [hrun] at hrun2
      cases hrun2
      exact absurd (h4.1 rfl).1 (by simp)
    · unfold Oper.wp execOp
      simp only [ho, resolve, invoke, builtin, Sem.run_bind, Sem.run_pure, Result.andThen_ok, List.map_toArray, List.map_cons, List.map_nil, hs, hx, hrun]
      refine h g cap w' r1 hr2 ?_
      rcases r3 with h | h
      · exact .inl (by simpa [Value.ownBlock] using h)
      · exact .inr (h g rfl)
theorem vrow_new' (w : World) (cs : Array Value) (t : TypeId) : VRow (w.alloc (.cells cs t)) w.heap.size t cs.toList := ⟨cs, heap_alloc_new w _, fun k x hx => by simpa using hx⟩
/-- A row of one's own in block g, that grows; a box that was made meanwhile, or is not made yet. -/
structure Bx (W5 : World) (T : TypeId) (zs : List Value) (W : World) (g : Nat) (b : Option Nat) : Prop where
  hb : Below W5.heap.size W5 W
  gl : W5.heap.size ≤ g
  gw : g < W.heap.size
  bx : ∀ k, b = some k → W5.heap.size ≤ k ∧ k ≠ g ∧ VRow W k T zs
section
variable {W5 W : World} {T : TypeId} {zs : List Value} {g : Nat} {b : Option Nat}
theorem Bx.app (h : Bx W5 T zs W g b) {w' : World} {g' : Nat} (hg : W.grownBy w' (some g)) (hp : g' = g ∨ W.heap.size ≤ g') (hl : g' < w'.heap.size) : Bx W5 T zs w' g' b := by
  refine ⟨h.hb.grown hg h.hb.size (fun k hk => by cases hk; exact h.gl), ?_, hl, fun k hk => ?_⟩
  · rcases hp with rfl | h2
    · exact h.gl
    · have := h.hb.size; omega
  · obtain ⟨b1, b2, b3⟩ := h.bx k hk
    refine ⟨b1, ?_, b3.of_block (hg.block k b3.lt (fun e => b2 (by cases e; rfl)))⟩
    rcases hp with rfl | h2
    · exact b2
    · have := b3.lt; omega
theorem Bx.drew (h : Bx W5 T zs W g b) : Bx W5 T zs W.drew g b := ⟨h.hb.drew, h.gl, h.gw, fun k hk => ⟨(h.bx k hk).1, (h.bx k hk).2.1, (h.bx k hk).2.2.of_block rfl⟩⟩
theorem Bx.box (h : Bx W5 T zs W g none) {cs : Array Value} (hz : cs.toList = zs) : Bx W5 T zs (W.alloc (.cells cs T)) g (some W.heap.size) := by
  refine ⟨h.hb.alloc h.hb.size _, h.gl, by have := h.gw; simp; omega, fun k hk => ?_⟩
  cases hk
  exact ⟨h.hb.size, by have := h.gw; omega, by have := vrow_new' W cs T; rwa [hz] at this⟩
theorem Bx.one (W5 : World) (T : TypeId) (zs : List Value) (o : Obj) : Bx W5 T zs (W5.alloc o) W5.heap.size none := ⟨(Below.refl _ _).alloc (Nat.le_refl _) _, Nat.le_refl _, by simp, fun k hk => by cases hk⟩
theorem Bx.two (W5 : World) (T : TypeId) (zs : List Value) {cs : Array Value} (hz : cs.toList = zs) (o : Obj) : Bx W5 T zs ((W5.alloc (.cells cs T)).alloc o) (W5.heap.size + 1) (some W5.heap.size) := by
  refine ⟨((Below.refl _ _).alloc (Nat.le_refl _) _).alloc (by simp) _, by omega, by simp, fun k hk => ?_⟩
  cases hk
  exact ⟨Nat.le_refl _, by omega, by have := (vrow_new' W5 cs T).alloc o; rwa [hz] at this⟩
theorem Bx.call (h : Bx W5 T zs W g b) {w' : World} (hb : Below W.heap.size W w') : Bx W5 T zs w' g b := ⟨h.hb.trans (hb.mono h.hb.size), h.gl, Nat.lt_of_lt_of_le h.gw hb.size, fun k hk => ⟨(h.bx k hk).1, (h.bx k hk).2.1, (h.bx k hk).2.2.below hb⟩⟩
/-- Four stores into the box. -/
theorem Bx.fill {X : Nat} {z0 z1 z2 z3 : Value} (hb : Below W5.heap.size W5 W) (hX : W5.heap.size ≤ X) (hq : VRow W X T [z0, z1, z2, z3]) (a0 a1 a2 a3 : Value) :
    VRow ((((W.setCell ⟨X, 0, none⟩ a0).setCell ⟨X, 1, none⟩ a1).setCell ⟨X, 2, none⟩ a2).setCell ⟨X, 3, none⟩ a3) X T [a0, a1, a2, a3] ∧ Below W5.heap.size W5 ((((W.setCell ⟨X, 0, none⟩ a0).setCell ⟨X, 1, none⟩ a1).setCell ⟨X, 2, none⟩ a2).setCell ⟨X, 3, none⟩ a3) ∧ Only (fun k => k = X) W ((((W.setCell ⟨X, 0, none⟩ a0).setCell ⟨X, 1, none⟩ a1).setCell ⟨X, 2, none⟩ a2).setCell ⟨X, 3, none⟩ a3) := by
  refine ⟨?_, (((hb.setCell (p := ⟨X, 0, none⟩) hX a0).setCell (p := ⟨X, 1, none⟩) hX a1).setCell (p := ⟨X, 2, none⟩) hX a2).setCell (p := ⟨X, 3, none⟩) hX a3, ((((Only.refl (fun k => k = X) W).setCell (p := ⟨X, 0, none⟩) rfl a0).setCell (p := ⟨X, 1, none⟩) rfl a1).setCell (p := ⟨X, 2, none⟩) rfl a2).setCell (p := ⟨X, 3, none⟩) rfl a3⟩
  have h := (((hq.set (k := 0) (by simp) a0).set (k := 1) (by simp) a1).set (k := 2) (by simp) a2).set (k := 3) (by simp) a3
  exact h
end
end Go.Proofs.Ytdefooailcbnlaa
