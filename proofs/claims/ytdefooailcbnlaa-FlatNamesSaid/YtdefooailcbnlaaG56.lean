/- The walk of ShapeHeaps. -/
import Derived.Test.YtdefooailcbnlaaG49
import Derived.Test.YtdefooailcbnlaaG31
import Derived.RegionTactic
import Derived.BigRegion
import Derived.ChangeAlike
namespace Go.Proofs.Ytdefooailcbnlaa
open Go.RowKit Go.Deep
set_option linter.unusedVariables false
set_option linter.unusedSimpArgs false
/-- Three boxes, one for each of three variables. -/
structure Three (W w : World) (ga gb gc : Nat) (a b c : Value) : Prop where
  ba : TBox w ga a b c
  bb : TBox w gb a b c
  bc : TBox w gc a b c
  ab : ga ≠ gb
  ac : ga ≠ gc
  bc' : gb ≠ gc
  lo : W.heap.size ≤ ga ∧ W.heap.size ≤ gb ∧ W.heap.size ≤ gc
  bel : Below W.heap.size W w
theorem TBox.set0 {w : World} {g : Nat} {a b c : Value} (h : TBox w g a b c) (u : Value) : TBox (w.setCell ⟨g, 0, none⟩ u) g u b c :=
  ⟨World.cell?_setCell_same _ _ _ h.c0, (World.cell?_setCell_other _ _ _ _ (by simp)).trans h.c1, (World.cell?_setCell_other _ _ _ _ (by simp)).trans h.c2, by simpa using h.f0, by simpa using h.f1, by simpa using h.f2⟩
theorem TBox.far {w : World} {g : Nat} {a b c : Value} (k : TBox w g a b c) {p : Addr} (hp : p.block ≠ g) (u : Value) : TBox (w.setCell p u) g a b c :=
  ⟨(World.cell?_setCell_other _ _ _ _ (fun e => hp (congrArg Addr.block e))).trans k.c0, (World.cell?_setCell_other _ _ _ _ (fun e => hp (congrArg Addr.block e))).trans k.c1, (World.cell?_setCell_other _ _ _ _ (fun e => hp (congrArg Addr.block e))).trans k.c2, by simpa using k.f0, by simpa using k.f1, by simpa using k.f2⟩
theorem three_boxes (W : World) (a b c : Value) (t : TypeId) : TBox (((W.alloc (.cells #[a, b, c] t)).alloc (.cells #[a, b, c] t)).alloc (.cells #[a, b, c] t)).drew W.heap.size a b c ∧ TBox (((W.alloc (.cells #[a, b, c] t)).alloc (.cells #[a, b, c] t)).alloc (.cells #[a, b, c] t)).drew (W.heap.size + 1) a b c ∧ TBox (((W.alloc (.cells #[a, b, c] t)).alloc (.cells #[a, b, c] t)).alloc (.cells #[a, b, c] t)).drew (W.heap.size + 1 + 1) a b c ∧ Below W.heap.size W (((W.alloc (.cells #[a, b, c] t)).alloc (.cells #[a, b, c] t)).alloc (.cells #[a, b, c] t)).drew := by
  have h1 := ((TBox.new W a b c t).keep (al1 _ (.cells #[a, b, c] t))).keep (al1 _ (.cells #[a, b, c] t))
  have h2 := (TBox.new (W.alloc (.cells #[a, b, c] t)) a b c t).keep (al1 _ (.cells #[a, b, c] t))
  have h3 := TBox.new ((W.alloc (.cells #[a, b, c] t)).alloc (.cells #[a, b, c] t)) a b c t
  simp only [World.size_alloc] at h2 h3
  have hd : ∀ w : World, Below w.heap.size w w.drew := fun w => (Below.refl _ _).drew
  exact ⟨h1.keep (hd _), h2.keep (hd _), h3.keep (hd _), (al3 W _ _ _).drew⟩
/-- append(made, s...) onto an empty row of one's own: s may be nil. -/
theorem step_append_copy (P : Program) {w : World} {ops : Array Oper} {o : Oper} {a : Act} {K : Act → World → Prop} {Q : Exit → Act → World → Prop} {E : Prop} (hgd : o.guard = none) (s x : Operand) (t : TypeId)
    (ho : o.op = .call { callee := .builtin .append, args := #[s, x], argTypes := #[t, t] })
    (base : Nat) (e : TypeId) (i : TypeInfo) (z : Value) (size bytes : Nat) (ht : P.underlying t = some (.slice e)) (hi : P.info? e = some i) (hz : i.zero = some z)
    (hsize : i.size = size) (hby : i.bytes = bytes) (hzs : z.cells.size = size) (hsz : 0 < size)
    (g0 c0 : Nat) (hs : a.eval s = .slice (some ⟨g0, 0, none⟩) 0 c0) (hown : w.ownsRow base e size (.slice (some ⟨g0, 0, none⟩) 0 c0) 0 [])
    (pp : Option Addr) (m c : Nat) (news : List Value) (hx : a.eval x = .slice pp m c) (hl : news.length = m * size) (hnil : pp = none → m = 0 ∧ c = 0) (hnews : ∀ ad, pp = some ad → ∀ (j : Nat) u, news[j]? = some u → w.cell? (ad.add j) = some u) (h1 : ∀ u ∈ news, u.oneCell' = true)
    (h63 : m ≤ maxLen) (hbytes : m * bytes ≤ 140737488355328) (hbase : base ≤ w.heap.size) (hg0 : base ≤ g0)
    (h : ∀ g cap w', w'.ownsRow base e size (.slice (some ⟨g, 0, none⟩) m cap) m news → Below base w w' → K (a.put o.dst (.slice (some ⟨g, 0, none⟩) m cap)) w') :
    if Region.wanted o (yielded ops a.tmps) = true then Oper.wp P o a w K Q else E := by
  cases pp with
  | none =>
    obtain ⟨rfl, rfl⟩ := hnil rfl
    obtain rfl : news = [] := List.eq_nil_of_length_eq_zero (by omega)
    exact step_append_none (P := P) _ hgd s x t ho base e i size ht hi _ 0 [] hs hown hx (h g0 c0 w hown (Below.refl _ _))
  | some ad =>
    refine step_append_some (P := P) _ hgd s x t ho base e i z size bytes ht hi hz hsize hby hzs hsz g0 0 c0 [] hs hown ad m c news hx hl (hnews ad rfl) h1 (by omega) (by rw [Nat.zero_add]; exact hbytes) hbase ?_
    intro g cap w' hw' hg
    rw [Nat.zero_add, List.nil_append] at hw'
    rw [Nat.zero_add]
    exact h g cap w' hw' ((Below.refl _ _).grown hg hbase (fun k hk => by cases hk; exact hg0))
theorem wpList_append_copy (P : Program) {w : World} {ops : Array Oper} {rest : List Oper} {o : Oper} {a : Act} {Q : Exit → Act → World → Prop} (hgd : o.guard = none) (s x : Operand) (t : TypeId)
    (ho : o.op = .call { callee := .builtin .append, args := #[s, x], argTypes := #[t, t] })
    (base : Nat) (e : TypeId) (i : TypeInfo) (z : Value) (size bytes : Nat) (ht : P.underlying t = some (.slice e)) (hi : P.info? e = some i) (hz : i.zero = some z)
    (hsize : i.size = size) (hby : i.bytes = bytes) (hzs : z.cells.size = size) (hsz : 0 < size)
    (g0 c0 : Nat) (hs : a.eval s = .slice (some ⟨g0, 0, none⟩) 0 c0) (hown : w.ownsRow base e size (.slice (some ⟨g0, 0, none⟩) 0 c0) 0 [])
    (pp : Option Addr) (m c : Nat) (news : List Value) (hx : a.eval x = .slice pp m c) (hl : news.length = m * size) (hnil : pp = none → m = 0 ∧ c = 0) (hnews : ∀ ad, pp = some ad → ∀ (j : Nat) u, news[j]? = some u → w.cell? (ad.add j) = some u) (h1 : ∀ u ∈ news, u.oneCell' = true)
    (h63 : m ≤ maxLen) (hbytes : m * bytes ≤ 140737488355328) (hbase : base ≤ w.heap.size) (hg0 : base ≤ g0)
    (h : ∀ g cap w', w'.ownsRow base e size (.slice (some ⟨g, 0, none⟩) m cap) m news → Below base w w' → wpList P ops Q rest (a.put o.dst (.slice (some ⟨g, 0, none⟩) m cap)) w') :
    wpList P ops Q (o :: rest) a w := by
  refine wpList_plain hgd fun K hK => ?_
  have h' := step_append_copy P (Q := Q) (E := False) (K := K) (ops := ops) hgd s x t ho base e i z size bytes ht hi hz hsize hby hzs hsz g0 c0 hs hown pp m c news hx hl hnil hnews h1 h63 hbytes hbase hg0 (fun g cap w' e1 e2 => hK _ _ (h g cap w' e1 e2))
  rwa [if_pos (by simp [Region.wanted, hgd])] at h'
end Go.Proofs.Ytdefooailcbnlaa
