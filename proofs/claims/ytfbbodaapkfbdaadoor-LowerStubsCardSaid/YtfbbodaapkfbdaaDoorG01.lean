/- Several texts in one: Only, ShapeSpec, VRow. -/
import Derived.WalkKit
import Derived.Laws.AppendOwn
import Derived.Below
import Derived.Deep.QuietTactic
import Derived.BigQuiet
/- What stays when some blocks may change; rows of cells. No function of the program is walked here. -/
namespace Go.Proofs.YtfbbodaapkfbdaaDoor
open Go.RowKit
set_option linter.unusedVariables false

/-- Of the blocks that were there only those of S may have changed. -/
structure Only (S : Nat → Prop) (w w' : World) : Prop where
  os : w'.os = w.os
  tape : w'.tape = w.tape
  output : w'.output = w.output
  size : w.heap.size ≤ w'.heap.size
  block : ∀ k, k < w.heap.size → ¬ S k → w'.heap[k]? = w.heap[k]?
theorem Only.refl (S : Nat → Prop) (w : World) : Only S w w := ⟨rfl, rfl, rfl, Nat.le_refl _, fun _ _ _ => rfl⟩
theorem Only.trans {S : Nat → Prop} {a b c : World} (h : Only S a b) (k : Only S b c) : Only S a c :=
  ⟨k.os.trans h.os, k.tape.trans h.tape, k.output.trans h.output, Nat.le_trans h.size k.size, fun i hi hs => (k.block i (Nat.lt_of_lt_of_le hi h.size) hs).trans (h.block i hi hs)⟩
theorem Only.mono {S S' : Nat → Prop} {a b : World} (h : Only S a b) (hs : ∀ k, k < a.heap.size → S k → S' k) : Only S' a b :=
  ⟨h.os, h.tape, h.output, h.size, fun i hi hn => h.block i hi (fun hk => hn (hs i hi hk))⟩
theorem Only.of_below {S : Nat → Prop} {a b : World} (h : Below a.heap.size a b) : Only S a b := ⟨h.os, h.tape, h.output, h.size, fun i hi _ => h.block i hi⟩
theorem Only.below {S : Nat → Prop} {B : Nat} {a b : World} (h : Only S a b) (hB : B ≤ a.heap.size) (hs : ∀ k, k < B → ¬ S k) : Below B a b :=
  ⟨h.os, h.tape, h.output, h.size, fun i hi => h.block i (Nat.lt_of_lt_of_le hi hB) (hs i hi)⟩
theorem Only.cell {S : Nat → Prop} {a b : World} (h : Only S a b) {p : Addr} (hp : p.block < a.heap.size) (hs : ¬ S p.block) : b.cell? p = a.cell? p := World.cell?_of_block (h.block p.block hp hs)
theorem Only.setCell {S : Nat → Prop} {a b : World} (h : Only S a b) {p : Addr} (hp : S p.block) (u : Value) : Only S a (b.setCell p u) :=
  h.trans ⟨rfl, rfl, rfl, by simp [World.setCell], fun k _ hk => Below.heap_setCell _ _ _ _ (fun e => hk (e ▸ hp))⟩
theorem Only.alloc {S : Nat → Prop} {a b : World} (h : Only S a b) (o : Obj) : Only S a (b.alloc o) :=
  h.trans ⟨rfl, rfl, rfl, by simp, fun k hk _ => Below.heap_alloc _ _ _ hk⟩
theorem Only.drew {S : Nat → Prop} {a b : World} (h : Only S a b) : Only S a b.drew := h.trans ⟨rfl, rfl, rfl, Nat.le_refl _, fun _ _ _ => rfl⟩
theorem Only.drewN {S : Nat → Prop} {a b : World} (h : Only S a b) (n : Nat) : Only S a (b.drewN n) := h.trans ⟨rfl, rfl, rfl, Nat.le_refl _, fun _ _ _ => rfl⟩
theorem Only.grown {S : Nat → Prop} {a b c : World} {row : Option Nat} (h : Only S a b) (g : b.grownBy c row) (hr : ∀ k, row = some k → k < a.heap.size → S k) : Only S a c :=
  ⟨g.os.trans h.os, g.tape.trans h.tape, g.output.trans h.output, Nat.le_trans h.size g.size, fun k hk hs =>
    (g.block k (Nat.lt_of_lt_of_le hk h.size) (fun e => hs (hr k e.symm hk))).trans (h.block k hk hs)⟩
/-- What was laid since may change too. -/
theorem Only.fresh {S T : Nat → Prop} {a b c : World} (h : Only S a b) (k : Only T b c) (ht : ∀ i, i < a.heap.size → T i → S i) : Only S a c :=
  ⟨k.os.trans h.os, k.tape.trans h.tape, k.output.trans h.output, Nat.le_trans h.size k.size, fun i hi hs =>
    (k.block i (Nat.lt_of_lt_of_le hi h.size) (fun e => hs (ht i hi e))).trans (h.block i hi hs)⟩

theorem lt_of_block {w : World} {k : Nat} {o : Obj} (h : w.heap[k]? = some o) : k < w.heap.size := (Array.getElem?_eq_some_iff.1 h).1
theorem Only.obj {S : Nat → Prop} {a b : World} (h : Only S a b) {k : Nat} {o : Obj} (hk : a.heap[k]? = some o) (hs : ¬ S k) : b.heap[k]? = some o := (h.block k (lt_of_block hk) hs).trans hk

/-- A row of cells of a block, and a store into it. -/
theorem cell_of_obj {w : World} {g i : Nat} {c : Array Value} {t : TypeId} {fz : Nat × Nat} (h : w.heap[g]? = some (.cells c t fz)) : w.cell? ⟨g, i, none⟩ = c[i]? := by
  simp [World.cell?, h]
theorem free_of_obj {w : World} {g i : Nat} {c : Array Value} {t : TypeId} (h : w.heap[g]? = some (.cells c t (0, 0))) : w.frozen? ⟨g, i, none⟩ = false := by
  simp [World.frozen?, h]
theorem obj_setCell {w : World} {g i : Nat} {c : Array Value} {t : TypeId} {fz : Nat × Nat} (h : w.heap[g]? = some (.cells c t fz)) (v : Value) :
    (w.setCell ⟨g, i, none⟩ v).heap[g]? = some (.cells (c.setIfInBounds i v) t fz) := by
  simp [World.setCell, Array.getElem?_modify, h]
theorem obj_setCell_ne {w : World} {g k i : Nat} (hne : k ≠ g) (v : Value) : (w.setCell ⟨g, i, none⟩ v).heap[k]? = w.heap[k]? := Below.heap_setCell _ _ _ _ hne

theorem _root_.Go.World.ownsRow.keepw {S : Nat → Prop} {a b : World} {e : TypeId} {size n : Nat} {v : Value} {xs : List Value} (h : a.ownsRow 0 e size v n xs) (o : Only S a b) (hs : ∀ k, v.ownBlock = some k → ¬ S k) : b.ownsRow 0 e size v n xs := by
  refine ⟨h.1, ?_⟩
  rcases h.2 with h | ⟨g, cap, cur, e1, e2, e3, e4⟩
  · exact .inl h
  · exact .inr ⟨g, cap, cur, e1, e2, o.obj e3 (hs g (by rw [e1]; rfl)), e4⟩
/-- What lies in a row of equally long things. -/
theorem flat_get {α : Type} (f : α → List Value) (s : Nat) (hs : ∀ x, (f x).length = s) : ∀ (l : List α) (k j : Nat) (x : α), l[k]? = some x → j < s → (l.flatMap f)[k * s + j]? = (f x)[j]? := by
  intro l
  induction l with
  | nil => intro k j x h; simp at h
  | cons y l ih =>
    intro k j x h hj
    rw [List.flatMap_cons]
    cases k with
    | zero =>
      simp only [List.getElem?_cons_zero, Option.some.injEq] at h
      subst h
      rw [Nat.zero_mul, Nat.zero_add, List.getElem?_append_left (by rw [hs]; exact hj)]
    | succ k =>
      rw [List.getElem?_cons_succ] at h
      rw [List.getElem?_append_right (by rw [hs, Nat.succ_mul]; omega), hs, show (k + 1) * s + j - s = k * s + j by rw [Nat.succ_mul]; omega]
      exact ih k j x h hj
theorem flat_len {α : Type} (f : α → List Value) (s : Nat) (hs : ∀ x, (f x).length = s) (l : List α) : (l.flatMap f).length = l.length * s := by
  induction l with
  | nil => simp
  | cons y l ih => rw [List.flatMap_cons, List.length_append, ih, hs, List.length_cons, Nat.succ_mul]; omega
theorem addr_add0 (g n : Nat) : (⟨g, 0, none⟩ : Addr).add n = ⟨g, n, none⟩ := by unfold Addr.add; split <;> simp [*]
/-- Cells of a block that was just laid. -/
theorem cells_new (w : World) (cs : Array Value) (t : TypeId) : ∀ (j : Nat) u, cs.toList[j]? = some u → (w.alloc (.cells cs t)).cell? ((⟨w.heap.size, 0, none⟩ : Addr).add j) = some u := fun j u hu => by
  rw [addr_add0]
  simp only [World.cell?, heap_alloc_new w _]
  simpa using hu
theorem own_new (w : World) (B : Nat) (cs : Array Value) (e : TypeId) (n size : Nat) (h : cs.size = n * size) (hn : n ≤ maxLen) (hB : B ≤ w.heap.size) : (w.alloc (.cells cs e)).ownsRow B e size (.slice (some ⟨w.heap.size, 0, none⟩) n n) n cs.toList :=
  ⟨by simp [h], .inr ⟨w.heap.size, n, cs, rfl, hB, heap_alloc_new w _, Nat.le_refl _, hn, h, by rw [← h, show cs.size = cs.toList.length from rfl, List.take_length]⟩⟩
/-- Words. -/
def u32s (l : List Int) : List Value := l.map (.int .u32)
def Words (l : List Int) : Prop := ∀ x ∈ l, 0 ≤ x ∧ x < 4294967296
/-- A slice of words, as it is read; it lies in no block of S. -/
def U32s (S : Nat → Prop) (w : World) (v : Value) (l : List Int) : Prop :=
  Words l ∧ ∃ p c, v = .slice p l.length c ∧ (0 < l.length → ∃ b o, p = some ⟨b, o, none⟩ ∧ ¬ S b ∧ b < w.heap.size ∧ ∀ k, k < l.length → w.cell? ⟨b, o + k, none⟩ = some (.int .u32 (l.getD k 0)))
theorem Words.at {l : List Int} (h : Words l) (i : Nat) : 0 ≤ l.getD i 0 ∧ l.getD i 0 < 4294967296 := by
  rw [List.getD_eq_getElem?_getD]
  cases hd : l[i]? with
  | none => simp
  | some x => exact h x (List.mem_of_getElem? hd)
theorem mhid {p : Prop} (h : p) : Hid p := h
theorem mret_val {a b : Value} (h : a = b) : Ending.returned a = .returned b := by rw [h]
theorem mret_i {k : IntKind} {a b : Int} (h : a = b) : Ending.returned (.int k a) = .returned (.int k b) := by rw [h]
theorem mret_ii {k j : IntKind} {a b c d : Int} (h : a = b) (g : c = d) : Ending.returned (.tuple #[.int k a, .int j c]) = .returned (.tuple #[.int k b, .int j d]) := by rw [h, g]
end Go.Proofs.YtfbbodaapkfbdaaDoor
/- Programs as plain data, and how they lie in the world. No function of the program is walked here. -/
namespace Go.Proofs.YtfbbodaapkfbdaaDoor
open Go.RowKit
set_option linter.unusedVariables false
/-- An instruction of a program. -/
structure Insx where
  op : Int
  d : Int
  a : Int
  b : Int
  n : Int
  f : Int
  args : List Int
  l1 : Int
  l2 : Int
structure Blk where
  name : ByteArray
  ins : List Insx
structure Fnx where
  name : ByteArray
  args : Int
  regs : Int
  blocks : List Blk
structure Prg where
  heap : Int
  threads : List Int
  funcs : List Fnx
def I64 (x : Int) : Prop := -9223372036854775808 ≤ x ∧ x ≤ 9223372036854775807
def Insx.bd (x : Insx) : Prop := (0 ≤ x.op ∧ x.op < 256) ∧ I64 x.d ∧ I64 x.a ∧ I64 x.b ∧ (0 ≤ x.n ∧ x.n < 4294967296) ∧ I64 x.f ∧ (∀ y ∈ x.args, I64 y) ∧ I64 x.l1 ∧ I64 x.l2
/-- A slice, as it is read: its things lie one behind the other, each as At tells. -/
def RowIn {α : Type} (At : World → Nat → Nat → α → Prop) (size bytes : Nat) (w : World) (v : Value) (l : List α) : Prop :=
  l.length * bytes ≤ 140737488352000 ∧ ∃ p c b o, v = .slice p l.length c ∧ ((0 < l.length → p = some ⟨b, o, none⟩) ∧ (p = none → c = 0)) ∧ ∀ (k : Nat) (x : α), l[k]? = some x → At w b (o + k * size) x
theorem RowIn.shape {α : Type} {At : World → Nat → Nat → α → Prop} {size bytes : Nat} {w : World} {v : Value} {l : List α} (h : RowIn At size bytes w v l) : ∃ p c, v = .slice p l.length c := by
  obtain ⟨_, p, c, _, _, h, _⟩ := h; exact ⟨p, c, h⟩
theorem RowIn.keep {α : Type} {At : World → Nat → Nat → α → Prop} {size bytes : Nat} {w w' : World} {v : Value} {l : List α} (h : RowIn At size bytes w v l) (hk : ∀ b o x, x ∈ l → At w b o x → At w' b o x) : RowIn At size bytes w' v l := by
  obtain ⟨h1, p, c, b, o, h2, h3, h4⟩ := h
  exact ⟨h1, p, c, b, o, h2, h3, fun k x hx => hk _ _ _ (List.mem_of_getElem? hx) (h4 k x hx)⟩
def IntAt (w : World) (b o : Nat) (x : Int) : Prop := w.cell? ⟨b, o, none⟩ = some (.int .i64 x) ∧ I64 x
theorem IntAt.keep {w w' : World} {b o : Nat} {x : Int} (h : IntAt w b o x) (hb : Below w.heap.size w w') : IntAt w' b o x :=
  ⟨(hb.cell (World.block_lt_of_cell? _ _ h.1)).trans h.1, h.2⟩
abbrev IntsIn := RowIn IntAt 1 8
structure InsxAt (w : World) (b o : Nat) (x : Insx) : Prop where
  c0 : w.cell? ⟨b, o, none⟩ = some (.int .u8 x.op)
  c1 : w.cell? ⟨b, o + 1, none⟩ = some (.int .i64 x.d)
  c2 : w.cell? ⟨b, o + 2, none⟩ = some (.int .i64 x.a)
  c3 : w.cell? ⟨b, o + 3, none⟩ = some (.int .i64 x.b)
  c4 : w.cell? ⟨b, o + 4, none⟩ = some (.int .u32 x.n)
  c5 : w.cell? ⟨b, o + 5, none⟩ = some (.int .i64 x.f)
  c6 : ∃ v, w.cell? ⟨b, o + 6, none⟩ = some v ∧ IntsIn w v x.args
  c7 : w.cell? ⟨b, o + 7, none⟩ = some (.int .i64 x.l1)
  c8 : w.cell? ⟨b, o + 8, none⟩ = some (.int .i64 x.l2)
  bd : x.bd
theorem InsxAt.keep {w w' : World} {b o : Nat} {x : Insx} (h : InsxAt w b o x) (hb : Below w.heap.size w w') : InsxAt w' b o x := by
  have hl := World.block_lt_of_cell? _ _ h.c0
  obtain ⟨v, h1, h2⟩ := h.c6
  exact ⟨(hb.cell (p := ⟨b, o, none⟩) hl).trans h.c0, (hb.cell (p := ⟨b, o + 1, none⟩) hl).trans h.c1, (hb.cell (p := ⟨b, o + 2, none⟩) hl).trans h.c2, (hb.cell (p := ⟨b, o + 3, none⟩) hl).trans h.c3, (hb.cell (p := ⟨b, o + 4, none⟩) hl).trans h.c4, (hb.cell (p := ⟨b, o + 5, none⟩) hl).trans h.c5,
    ⟨v, (hb.cell (p := ⟨b, o + 6, none⟩) hl).trans h1, h2.keep fun _ _ _ _ hh => hh.keep hb⟩, (hb.cell (p := ⟨b, o + 7, none⟩) hl).trans h.c7, (hb.cell (p := ⟨b, o + 8, none⟩) hl).trans h.c8, h.bd⟩
abbrev InsxIn := RowIn InsxAt 9 88
structure BlkAt (w : World) (b o : Nat) (x : Blk) : Prop where
  c0 : w.cell? ⟨b, o, none⟩ = some (.string x.name)
  c1 : ∃ v, w.cell? ⟨b, o + 1, none⟩ = some v ∧ InsxIn w v x.ins
  nm : x.name.size ≤ 140737488352000
theorem BlkAt.keep {w w' : World} {b o : Nat} {x : Blk} (h : BlkAt w b o x) (hb : Below w.heap.size w w') : BlkAt w' b o x := by
  have hl := World.block_lt_of_cell? _ _ h.c0
  obtain ⟨v, h1, h2⟩ := h.c1
  exact ⟨(hb.cell (p := ⟨b, o, none⟩) hl).trans h.c0, ⟨v, (hb.cell (p := ⟨b, o + 1, none⟩) hl).trans h1, h2.keep fun _ _ _ _ hh => hh.keep hb⟩, h.nm⟩
abbrev BlksIn := RowIn BlkAt 2 40
structure FnAt (w : World) (b o : Nat) (x : Fnx) : Prop where
  c0 : w.cell? ⟨b, o, none⟩ = some (.string x.name)
  c1 : w.cell? ⟨b, o + 1, none⟩ = some (.int .i64 x.args)
  c2 : w.cell? ⟨b, o + 2, none⟩ = some (.int .i64 x.regs)
  c3 : ∃ v, w.cell? ⟨b, o + 3, none⟩ = some v ∧ BlksIn w v x.blocks
  nm : x.name.size ≤ 140737488352000
  ba : I64 x.args
  br : I64 x.regs
theorem FnAt.keep {w w' : World} {b o : Nat} {x : Fnx} (h : FnAt w b o x) (hb : Below w.heap.size w w') : FnAt w' b o x := by
  have hl := World.block_lt_of_cell? _ _ h.c0
  obtain ⟨v, h1, h2⟩ := h.c3
  exact ⟨(hb.cell (p := ⟨b, o, none⟩) hl).trans h.c0, (hb.cell (p := ⟨b, o + 1, none⟩) hl).trans h.c1, (hb.cell (p := ⟨b, o + 2, none⟩) hl).trans h.c2, ⟨v, (hb.cell (p := ⟨b, o + 3, none⟩) hl).trans h1, h2.keep fun _ _ _ _ hh => hh.keep hb⟩, h.nm, h.ba, h.br⟩
abbrev FnsIn := RowIn FnAt 4 56
/-- A program, as it is handed over. -/
structure PrgIn (w : World) (v : Value) (p : Prg) : Prop where
  ex : ∃ tv fv, v = .agg #[.int .i64 p.heap, tv, fv] ∧ IntsIn w tv p.threads ∧ FnsIn w fv p.funcs
  bd : I64 p.heap
theorem PrgIn.keep {w w' : World} {v : Value} {p : Prg} (h : PrgIn w v p) (hb : Below w.heap.size w w') : PrgIn w' v p := by
  obtain ⟨⟨tv, fv, h1, h2, h3⟩, h4⟩ := h
  exact ⟨⟨tv, fv, h1, h2.keep fun _ _ _ _ hh => hh.keep hb, h3.keep fun _ _ _ _ hh => hh.keep hb⟩, h4⟩
end Go.Proofs.YtfbbodaapkfbdaaDoor
/- Rows of cells that the call made. No function of the program is walked here. -/
namespace Go.Proofs.YtfbbodaapkfbdaaDoor
open Go.RowKit
set_option linter.unusedVariables false
set_option linter.unusedSimpArgs false
/-- Block g begins with the cells vs; none is frozen. -/
def VRow (w : World) (g : Nat) (t : TypeId) (vs : List Value) : Prop :=
  ∃ cur : Array Value, w.heap[g]? = some (.cells cur t (0, 0)) ∧ ∀ (k : Nat) x, vs[k]? = some x → cur[k]? = some x
namespace VRow
variable {w w' : World} {g : Nat} {t : TypeId} {vs : List Value}
theorem cell (h : VRow w g t vs) {k : Nat} {x : Value} (hx : vs[k]? = some x) : w.cell? ⟨g, k, none⟩ = some x := by
  obtain ⟨cur, hb, hc⟩ := h
  simp [World.cell?, hb, hc k x hx]
theorem frozen (h : VRow w g t vs) (k : Nat) : w.frozen? ⟨g, k, none⟩ = false := by
  obtain ⟨cur, hb, _⟩ := h
  simp [World.frozen?, hb]
theorem lt (h : VRow w g t vs) : g < w.heap.size := by
  obtain ⟨cur, hb, _⟩ := h
  exact (Array.getElem?_eq_some_iff.1 hb).1
theorem of_block (h : VRow w g t vs) (e : w'.heap[g]? = w.heap[g]?) : VRow w' g t vs := by
  obtain ⟨cur, hb, hc⟩ := h
  exact ⟨cur, e.trans hb, hc⟩
theorem keep {B : Nat} (h : VRow w g t vs) (hb : Below B w w') (hg : g < B) : VRow w' g t vs := h.of_block (hb.block g hg)
theorem below (h : VRow w g t vs) (hb : Below w.heap.size w w') : VRow w' g t vs := h.keep hb h.lt
theorem set (h : VRow w g t vs) {k : Nat} (hk : k < vs.length) (v : Value) : VRow (w.setCell ⟨g, k, none⟩ v) g t (vs.set k v) := by
  obtain ⟨cur, hb, hc⟩ := h
  have hk' : k < cur.size := by
    have := hc k _ (List.getElem?_eq_getElem hk)
    exact (Array.getElem?_eq_some_iff.1 this).1
  refine ⟨cur.setIfInBounds k v, ?_, fun j x hx => ?_⟩
  · simp [World.setCell, Array.getElem?_modify, hb]
  · rw [Array.getElem?_setIfInBounds]
    by_cases e : k = j
    · subst e
      rw [List.getElem?_set_self hk] at hx
      simp [hk', hx]
    · rw [if_neg e]
      rw [List.getElem?_set_ne e] at hx
      exact hc j x hx
theorem other (h : VRow w g t vs) {a : Addr} (ha : g ≠ a.block) (v : Value) : VRow (w.setCell a v) g t vs := h.of_block (Below.heap_setCell _ _ _ _ ha)
theorem alloc (h : VRow w g t vs) (o : Obj) : VRow (w.alloc o) g t vs := h.of_block (Below.heap_alloc _ _ _ h.lt)
theorem of_own {base n : Nat} {v : Value} {xs : List Value} (h : w.ownsRow base t 1 v n xs) (hv : v ≠ .slice none 0 0) : ∃ g c, v = .slice (some ⟨g, 0, none⟩) n c ∧ base ≤ g ∧ VRow w g t xs := by
  rcases h.2 with ⟨rfl, _⟩ | ⟨g, cap, cur, rfl, h2, h3, h4, h5, h6, h7⟩
  · exact absurd rfl hv
  · refine ⟨g, cap, rfl, h2, cur, h3, fun k x hx => ?_⟩
    rw [← h7] at hx
    rw [List.getElem?_take] at hx
    split at hx
    · rw [← Array.getElem?_toList]; exact hx
    · cases hx
end VRow
end Go.Proofs.YtfbbodaapkfbdaaDoor
