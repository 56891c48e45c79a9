/- A list of instructions with marks, as it lies in the world; what stays when some blocks may change. No function of the program is walked here. -/
import Derived.Test.YtfbbodaapkfbdaaDoorG03
import Derived.Test.YtfbbodaapkfbdaaDoorG01
import Derived.Maps.OwnSet
import Derived.Maps.Views
import Derived.Laws.AppendOwnNone
namespace Go.Proofs.YtfbbodaapkfbdaaDoor
open Go.RowKit Go.Maps
set_option linter.unusedVariables false

/-- An instruction that was put, or one that goes to a name. -/
inductive It
  | put (x : Ix)
  | far (x : Ix) (name : ByteArray)
/-- A function value that makes an instruction whole; what it captured lies in blocks of K. -/
def CloAt (w : World) (K : Nat → Prop) (v : Value) : It → Prop
  | .put x => ∃ c, v = .func (.func 71) #[] #[.pointer (some ⟨c, 0, none⟩)] ∧ K c ∧ w.cell? ⟨c, 0, none⟩ = some (.int .u32 (encS x))
  | .far x name => ∃ c d, v = .func (.func 83) #[] #[.pointer (some ⟨c, 0, none⟩), .pointer (some ⟨d, 0, none⟩)] ∧ K c ∧ K d ∧ w.cell? ⟨c, 0, none⟩ = some (.string name) ∧
      (∀ (i : Nat) (u : Value), x.agg.cells[i]? = some u → w.cell? ⟨d, i, none⟩ = some u) ∧ name.size ≤ maxLen ∧ x.bd
theorem CloAt.keep {S K K' : Nat → Prop} {a b : World} {v : Value} {it : It} (h : CloAt a K v it) (o : Only S a b) (hs : ∀ k, K k → ¬ S k) (hk : ∀ k, k < a.heap.size → K k → K' k) : CloAt b K' v it := by
  cases it with
  | put x =>
    obtain ⟨c, h1, h2, h3⟩ := h
    have hc : c < a.heap.size := World.block_lt_of_cell? _ _ h3
    exact ⟨c, h1, hk c hc h2, (o.cell (p := ⟨c, 0, none⟩) hc (hs c h2)).trans h3⟩
  | far x name =>
    obtain ⟨c, d, h1, h2, h3, h4, h5, h6, h7⟩ := h
    have hc : c < a.heap.size := World.block_lt_of_cell? _ _ h4
    have hd : d < a.heap.size := World.block_lt_of_cell? _ _ (h5 0 (.int .u8 x.op) (by simp [Value.cells]))
    exact ⟨c, d, h1, hk c hc h2, hk d hd h3, (o.cell (p := ⟨c, 0, none⟩) hc (hs c h2)).trans h4, fun i u hu => (o.cell (p := ⟨d, i, none⟩) hd (hs d h3)).trans (h5 i u hu), h6, h7⟩

/-- Where a name stands. -/
def look (M : List (List UInt8 × Int)) (nm : List UInt8) : Option Int := (M.find? (fun e => e.1 == nm)).map (·.2)
/-- A map's reading has the marks. -/
structure MarkD (D : DataW Unit) (M : List (List UInt8 × Int)) : Prop where
  map : IsMap D
  has : ∀ nm, Maps.has D (.string nm) = (look M nm).isSome
  at' : ∀ nm z, D.atKey (.string nm) z = match look M nm with | some n => .lit (.int .i64 n) | none => z
theorem MarkD.nil : MarkD (.map []) [] := ⟨isMap_empty, fun nm => rfl, fun nm z => rfl⟩
theorem look_snoc (M : List (List UInt8 × Int)) (nm nm' : List UInt8) (n : Int) : look (M ++ [(nm, n)]) nm' = match look M nm' with | some k => some k | none => if nm = nm' then some n else none := by
  unfold look
  rw [List.find?_append]
  cases h : M.find? (fun e => e.1 == nm') with
  | some e => simp
  | none => by_cases he : nm = nm' <;> simp [he]
theorem MarkD.put {D : DataW Unit} {M : List (List UInt8 × Int)} (h : MarkD D M) (nm : List UInt8) (n : Int) (hn : look M nm = none) : MarkD (D.put (.string nm) (.lit (.int .i64 n))) (M ++ [(nm, n)]) := by
  refine ⟨h.map.put _ _, fun nm' => ?_, fun nm' z => ?_⟩
  · rw [look_snoc]
    by_cases he : nm = nm'
    · subst he
      rw [has_put_same h.map (by trivial), hn]; simp
    · rw [has_put_other (by intro e; exact he (by cases e; rfl)), h.has, if_neg he]
      cases look M nm' <;> rfl
  · rw [look_snoc]
    by_cases he : nm = nm'
    · subst he
      rw [atKey_put_same h.map (by trivial), hn]; simp
    · rw [atKey_put_other (by intro e; exact he (by cases e; rfl)), h.at', if_neg he]
      cases look M nm' <;> rfl

/-- The list at block p: its row is the slice sv, its marks lie at block m; what its function values captured lies in blocks of K. -/
structure AsmAt (w : World) (p : Nat) (sv : Value) (m : Nat) (K : Nat → Prop) (L : List It) (M : List (List UInt8 × Int)) : Prop where
  ptr : w.heap[p]? = some (.cells #[sv, .map (some m)] 81 (0, 0))
  row : ∃ vs : List Value, w.ownsRow 0 96 1 sv L.length vs ∧ vs.length = L.length ∧ ∀ (i : Nat) (v : Value) (it : It), vs[i]? = some v → L[i]? = some it → CloAt w K v it
  marks : ∃ D : DataW Unit, w.ownsMap Tryd.prog 9 (plainElem Tryd.prog 3) m M.length D ∧ MarkD D M
  ne : p ≠ m ∧ sv.ownBlock ≠ some p ∧ sv.ownBlock ≠ some m
  apart : ∀ k, K k → k ≠ p ∧ sv.ownBlock ≠ some k ∧ k ≠ m
/-- A list's own blocks. -/
def Own (p : Nat) (sv : Value) (m : Nat) (k : Nat) : Prop := k = p ∨ sv.ownBlock = some k ∨ k = m
theorem AsmAt.keep {S : Nat → Prop} {a b : World} {p m : Nat} {sv : Value} {K : Nat → Prop} {L : List It} {M : List (List UInt8 × Int)} (h : AsmAt a p sv m K L M) (o : Only S a b) (hs : ∀ k, Own p sv m k → ¬ S k) (hk : ∀ k, K k → ¬ S k) : AsmAt b p sv m K L M := by
  obtain ⟨h1, ⟨vs, h2, h3, h4⟩, ⟨D, ⟨es, cl, hb, F, hz, hD⟩, h6⟩, h7, h8⟩ := h
  refine ⟨o.obj h1 (hs p (.inl rfl)), ⟨vs, ⟨h2.1, ?_⟩, h3, fun i v it hv hi => (h4 i v it hv hi).keep o hk (fun _ _ h => h)⟩, ⟨D, ⟨es, cl, o.obj hb (hs m (.inr (.inr rfl))), F, hz, hD⟩, h6⟩, h7, h8⟩
  rcases h2.2 with h | ⟨g, cap, cur, e1, e2, e3, e4⟩
  · exact .inl h
  · refine .inr ⟨g, cap, cur, e1, e2, o.obj e3 (hs g (.inr (.inl ?_))), e4⟩
    rw [e1]; rfl
/-- What lies beyond the heap is no captured block. -/
theorem AsmAt.trim {w : World} {p m : Nat} {sv : Value} {K : Nat → Prop} {L : List It} {M : List (List UInt8 × Int)} (h : AsmAt w p sv m K L M) : AsmAt w p sv m (fun k => K k ∧ k < w.heap.size) L M := by
  obtain ⟨h1, ⟨vs, h2, h3, h4⟩, h5, h7, h8⟩ := h
  exact ⟨h1, ⟨vs, h2, h3, fun i v it hv hi => (h4 i v it hv hi).keep (Only.refl (fun _ => False) w) (fun _ _ h => h) (fun k hl hk => ⟨hk, hl⟩)⟩, h5, h7, fun k hk => h8 k hk.1⟩
theorem AsmAt.blocks {w : World} {p m : Nat} {sv : Value} {K : Nat → Prop} {L : List It} {M : List (List UInt8 × Int)} (h : AsmAt w p sv m K L M) : p < w.heap.size ∧ m < w.heap.size ∧ ∀ k, sv.ownBlock = some k → k < w.heap.size := by
  obtain ⟨h1, ⟨vs, h2, h3, h4⟩, ⟨D, ⟨es, cl, hb, F, hz, hD⟩, h6⟩, h7, h8⟩ := h
  exact ⟨lt_of_block h1, lt_of_block hb, fun k hk => (h2.lt k hk).2⟩
end Go.Proofs.YtfbbodaapkfbdaaDoor
