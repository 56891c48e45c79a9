/- Several texts in one: ShapeSpec, ShapeIns, ShapeReads, ShapeHas, ShapeIn, ShapeApp, ShapeRReads, ShapeSame, ShapeName, ShapeRName. -/
import Derived.Test.YtkejnhleajfcjaaGreatDoorGA
import Derived.Test.YtkejnhleajfcjaaGreatDoorProg
import Derived.WalkSpells
import Derived.WalkLawsBesides
import Derived.Deep.QuietTactic
import Derived.BigQuiet
import Derived.Handy
import Derived.Laws.AppendOwnNone
import Derived.Lib.SliceRun
import Derived.BigGuardPart
/- Programs as plain data, and how they lie in the world. No function of the program is walked here. -/
namespace Go.Proofs.YtkejnhleajfcjaaGreatDoor
open Go.RowKit
set_option linter.unusedVariables false
/-- An instruction of a program. -/
structure Insx where
  op : Int
  d : Int
  a : Int
  b : Int
  n : Int
  f : Int
  args : List Int
  l1 : Int
  l2 : Int
structure Blk where
  name : ByteArray
  ins : List Insx
structure Fnx where
  name : ByteArray
  args : Int
  regs : Int
  blocks : List Blk
structure Prg where
  heap : Int
  threads : List Int
  funcs : List Fnx
def I64 (x : Int) : Prop := -9223372036854775808 ≤ x ∧ x ≤ 9223372036854775807
def Insx.bd (x : Insx) : Prop := (0 ≤ x.op ∧ x.op < 256) ∧ I64 x.d ∧ I64 x.a ∧ I64 x.b ∧ (0 ≤ x.n ∧ x.n < 4294967296) ∧ I64 x.f ∧ (∀ y ∈ x.args, I64 y) ∧ I64 x.l1 ∧ I64 x.l2
/-- A slice, as it is read: its things lie one behind the other, each as At tells. -/
def RowIn {α : Type} (At : World → Nat → Nat → α → Prop) (size bytes : Nat) (w : World) (v : Value) (l : List α) : Prop :=
  l.length * bytes ≤ 140737488352000 ∧ ∃ p c b o, v = .slice p l.length c ∧ ((0 < l.length → p = some ⟨b, o, none⟩) ∧ (p = none → c = 0)) ∧ ∀ (k : Nat) (x : α), l[k]? = some x → At w b (o + k * size) x
theorem RowIn.shape {α : Type} {At : World → Nat → Nat → α → Prop} {size bytes : Nat} {w : World} {v : Value} {l : List α} (h : RowIn At size bytes w v l) : ∃ p c, v = .slice p l.length c := by
  obtain ⟨_, p, c, _, _, h, _⟩ := h; exact ⟨p, c, h⟩
theorem RowIn.keep {α : Type} {At : World → Nat → Nat → α → Prop} {size bytes : Nat} {w w' : World} {v : Value} {l : List α} (h : RowIn At size bytes w v l) (hk : ∀ b o x, x ∈ l → At w b o x → At w' b o x) : RowIn At size bytes w' v l := by
  obtain ⟨h1, p, c, b, o, h2, h3, h4⟩ := h
  exact ⟨h1, p, c, b, o, h2, h3, fun k x hx => hk _ _ _ (List.mem_of_getElem? hx) (h4 k x hx)⟩
def IntAt (w : World) (b o : Nat) (x : Int) : Prop := w.cell? ⟨b, o, none⟩ = some (.int .i64 x) ∧ I64 x
theorem IntAt.keep {w w' : World} {b o : Nat} {x : Int} (h : IntAt w b o x) (hb : Below w.heap.size w w') : IntAt w' b o x :=
  ⟨(hb.cell (World.block_lt_of_cell? _ _ h.1)).trans h.1, h.2⟩
abbrev IntsIn := RowIn IntAt 1 8
structure InsxAt (w : World) (b o : Nat) (x : Insx) : Prop where
  c0 : w.cell? ⟨b, o, none⟩ = some (.int .u8 x.op)
  c1 : w.cell? ⟨b, o + 1, none⟩ = some (.int .i64 x.d)
  c2 : w.cell? ⟨b, o + 2, none⟩ = some (.int .i64 x.a)
  c3 : w.cell? ⟨b, o + 3, none⟩ = some (.int .i64 x.b)
  c4 : w.cell? ⟨b, o + 4, none⟩ = some (.int .u32 x.n)
  c5 : w.cell? ⟨b, o + 5, none⟩ = some (.int .i64 x.f)
  c6 : ∃ v, w.cell? ⟨b, o + 6, none⟩ = some v ∧ IntsIn w v x.args
  c7 : w.cell? ⟨b, o + 7, none⟩ = some (.int .i64 x.l1)
  c8 : w.cell? ⟨b, o + 8, none⟩ = some (.int .i64 x.l2)
  bd : x.bd
theorem InsxAt.keep {w w' : World} {b o : Nat} {x : Insx} (h : InsxAt w b o x) (hb : Below w.heap.size w w') : InsxAt w' b o x := by
  have hl := World.block_lt_of_cell? _ _ h.c0
  obtain ⟨v, h1, h2⟩ := h.c6
  exact ⟨(hb.cell (p := ⟨b, o, none⟩) hl).trans h.c0, (hb.cell (p := ⟨b, o + 1, none⟩) hl).trans h.c1, (hb.cell (p := ⟨b, o + 2, none⟩) hl).trans h.c2, (hb.cell (p := ⟨b, o + 3, none⟩) hl).trans h.c3, (hb.cell (p := ⟨b, o + 4, none⟩) hl).trans h.c4, (hb.cell (p := ⟨b, o + 5, none⟩) hl).trans h.c5,
    ⟨v, (hb.cell (p := ⟨b, o + 6, none⟩) hl).trans h1, h2.keep fun _ _ _ _ hh => hh.keep hb⟩, (hb.cell (p := ⟨b, o + 7, none⟩) hl).trans h.c7, (hb.cell (p := ⟨b, o + 8, none⟩) hl).trans h.c8, h.bd⟩
abbrev InsxIn := RowIn InsxAt 9 88
structure BlkAt (w : World) (b o : Nat) (x : Blk) : Prop where
  c0 : w.cell? ⟨b, o, none⟩ = some (.string x.name)
  c1 : ∃ v, w.cell? ⟨b, o + 1, none⟩ = some v ∧ InsxIn w v x.ins
  nm : x.name.size ≤ 140737488352000
theorem BlkAt.keep {w w' : World} {b o : Nat} {x : Blk} (h : BlkAt w b o x) (hb : Below w.heap.size w w') : BlkAt w' b o x := by
  have hl := World.block_lt_of_cell? _ _ h.c0
  obtain ⟨v, h1, h2⟩ := h.c1
  exact ⟨(hb.cell (p := ⟨b, o, none⟩) hl).trans h.c0, ⟨v, (hb.cell (p := ⟨b, o + 1, none⟩) hl).trans h1, h2.keep fun _ _ _ _ hh => hh.keep hb⟩, h.nm⟩
abbrev BlksIn := RowIn BlkAt 2 40
structure FnAt (w : World) (b o : Nat) (x : Fnx) : Prop where
  c0 : w.cell? ⟨b, o, none⟩ = some (.string x.name)
  c1 : w.cell? ⟨b, o + 1, none⟩ = some (.int .i64 x.args)
  c2 : w.cell? ⟨b, o + 2, none⟩ = some (.int .i64 x.regs)
  c3 : ∃ v, w.cell? ⟨b, o + 3, none⟩ = some v ∧ BlksIn w v x.blocks
  nm : x.name.size ≤ 140737488352000
  ba : I64 x.args
  br : I64 x.regs
theorem FnAt.keep {w w' : World} {b o : Nat} {x : Fnx} (h : FnAt w b o x) (hb : Below w.heap.size w w') : FnAt w' b o x := by
  have hl := World.block_lt_of_cell? _ _ h.c0
  obtain ⟨v, h1, h2⟩ := h.c3
  exact ⟨(hb.cell (p := ⟨b, o, none⟩) hl).trans h.c0, (hb.cell (p := ⟨b, o + 1, none⟩) hl).trans h.c1, (hb.cell (p := ⟨b, o + 2, none⟩) hl).trans h.c2, ⟨v, (hb.cell (p := ⟨b, o + 3, none⟩) hl).trans h1, h2.keep fun _ _ _ _ hh => hh.keep hb⟩, h.nm, h.ba, h.br⟩
abbrev FnsIn := RowIn FnAt 4 56
/-- A program, as it is handed over. -/
structure PrgIn (w : World) (v : Value) (p : Prg) : Prop where
  ex : ∃ tv fv, v = .agg #[.int .i64 p.heap, tv, fv] ∧ IntsIn w tv p.threads ∧ FnsIn w fv p.funcs
  bd : I64 p.heap
theorem PrgIn.keep {w w' : World} {v : Value} {p : Prg} (h : PrgIn w v p) (hb : Below w.heap.size w w') : PrgIn w' v p := by
  obtain ⟨⟨tv, fv, h1, h2, h3⟩, h4⟩ := h
  exact ⟨⟨tv, fv, h1, h2.keep fun _ _ _ _ hh => hh.keep hb, h3.keep fun _ _ _ _ hh => hh.keep hb⟩, h4⟩
end Go.Proofs.YtkejnhleajfcjaaGreatDoor
/- Walks of the package shape: what an instruction reads, writes; whether it ends a block. -/
namespace Go.Proofs.YtkejnhleajfcjaaGreatDoor
open Go.RowKit
set_option linter.unusedVariables false
set_option linter.unusedSimpArgs false
theorem shid {p : Prop} (h : p) : Hid p := h
theorem sbt {a b c : World} (h : Below a.heap.size a b) (k : Below b.heap.size b c) : Below a.heap.size a c := h.trans (k.mono h.size)
/-- An instruction as a value: args lie in the slice av. -/
abbrev Insx.agg (x : Insx) (av : Value) : Value := .agg #[.int .u8 x.op, .int .i64 x.d, .int .i64 x.a, .int .i64 x.b, .int .u32 x.n, .int .i64 x.f, av, .int .i64 x.l1, .int .i64 x.l2]
def readsS (x : Insx) : List Int :=
  if x.op = 1 ∨ x.op = 4 then [x.a, x.b] else if x.op = 2 ∨ x.op = 3 ∨ x.op = 6 ∨ x.op = 9 ∨ x.op = 10 then [x.a] else if x.op = 5 then x.args else []
def writesB (x : Insx) : Bool := decide (x.op = 0 ∨ x.op = 1 ∨ x.op = 2 ∨ x.op = 3 ∨ x.op = 5)
def writesD (x : Insx) : Int := if writesB x = true then x.d else 0
def endsB (x : Insx) : Bool := decide (8 ≤ x.op ∧ x.op ≤ 10)
/-- The eleven operations, and all others. -/
theorem op_cases {op : Int} (h0 : 0 ≤ op) : op = 0 ∨ op = 1 ∨ op = 2 ∨ op = 3 ∨ op = 4 ∨ op = 5 ∨ op = 6 ∨ op = 7 ∨ op = 8 ∨ op = 9 ∨ op = 10 ∨ 10 < op := by omega
theorem op_no {op : Int} (h : 10 < op) : (op == 0) = false ∧ (op == 1) = false ∧ (op == 2) = false ∧ (op == 3) = false ∧ (op == 4) = false ∧ (op == 5) = false ∧ (op == 6) = false ∧ (op == 8) = false ∧ (op == 9) = false ∧ (op == 10) = false := by
  simp; omega
def ints (l : List Int) : List Value := l.map (.int .i64)
theorem ints_one (l : List Int) : ∀ u ∈ ints l, u.oneCell' = true := by
  intro u hu
  obtain ⟨x, _, rfl⟩ := List.mem_map.1 hu
  simp [Value.oneCell']
theorem infoint : (Tryz.prog.info? 3).map (fun i => (i.zero, i.size, i.bytes)) = some (some (.int .i64 0), 1, 8) := by kernel_rfl
/-- A slice of numbers that the call made. -/
def IntsOwn (w : World) (l : List Int) (e : Ending) (w' : World) : Prop := ∃ v, e = .returned v ∧ w'.ownsRow w.heap.size 3 1 v l.length (ints l) ∧ Below w.heap.size w w'
theorem IntsIn.cells {w : World} {b o : Nat} {l : List Int} (h : ∀ (k : Nat) (x : Int), l[k]? = some x → IntAt w b (o + k * 1) x) : ∀ (j : Nat) u, (ints l)[j]? = some u → w.cell? ((⟨b, o, none⟩ : Addr).add j) = some u := by
  intro j u hu
  unfold ints at hu
  rw [List.getElem?_map] at hu
  cases hx : l[j]? with
  | none => rw [hx] at hu; cases hu
  | some x =>
    rw [hx] at hu
    cases hu
    have := (h j x hx).1
    rw [Nat.mul_one] at this
    have e : (⟨b, o, none⟩ : Addr).add j = ⟨b, o + j, none⟩ := by unfold Addr.add; split <;> simp [*]
    rw [e]; exact this
end Go.Proofs.YtkejnhleajfcjaaGreatDoor
/- The walk of shape.Reads. -/
namespace Go.Proofs.YtkejnhleajfcjaaGreatDoor
open Go.RowKit
set_option linter.unusedVariables false
set_option linter.unusedSimpArgs false
theorem IntsOwn.of_below {w w1 w' : World} {l : List Int} {e : Ending} (hb : Below w.heap.size w w1) (h : IntsOwn w1 l e w') : IntsOwn w l e w' := by
  obtain ⟨v, he, ho, hb2⟩ := h
  refine ⟨v, he, ⟨ho.1, ?_⟩, sbt hb hb2⟩
  rcases ho.2 with h | ⟨g, cap, cur, h1, h2, h3⟩
  · exact .inl h
  · exact .inr ⟨g, cap, cur, h1, Nat.le_trans hb.size h2, h3⟩
end Go.Proofs.YtkejnhleajfcjaaGreatDoor
/- The walks of muntinref14.Has and in. -/
namespace Go.Proofs.YtkejnhleajfcjaaGreatDoor
open Go.RowKit
set_option linter.unusedVariables false
set_option linter.unusedSimpArgs false
/-- Which letters an operation has. -/
def hasS (op : Int) : ByteArray :=
  if op = 0 then ⟨#[100, 110]⟩ else if op = 1 then ⟨#[100, 97, 98, 110]⟩ else if op = 2 ∨ op = 3 then ⟨#[100, 97]⟩ else if op = 4 then ⟨#[97, 98]⟩ else if op = 5 then ⟨#[100, 102, 120]⟩ else if op = 6 ∨ op = 10 then ⟨#[97]⟩ else if op = 8 then ⟨#[108]⟩ else if op = 9 then ⟨#[97, 108, 109]⟩ else ⟨#[]⟩
end Go.Proofs.YtkejnhleajfcjaaGreatDoor
/- The walks of muntinref14.in, Writes, Reads, SameInts. -/
namespace Go.Proofs.YtkejnhleajfcjaaGreatDoor
open Go.RowKit
set_option linter.unusedVariables false
set_option linter.unusedSimpArgs false
def inB (s : ByteArray) (c : Int) : Bool := s.data.toList.any fun b => decide ((b.toNat : Int) = c)
theorem stake_snoc (s : ByteArray) (k : Nat) (h : k < s.size) : s.data.toList.take (k + 1) = s.data.toList.take k ++ [s[k]] := by
  rw [List.take_succ_eq_append_getElem (by simpa using h)]; rfl
def hasA (op : Int) : Bool := decide (op = 1 ∨ op = 2 ∨ op = 3 ∨ op = 4 ∨ op = 6 ∨ op = 9 ∨ op = 10)
theorem hasS_size (op : Int) : (hasS op).size ≤ 100 := by
  unfold hasS
  repeat (split; · decide)
  decide
theorem in_letters {op : Int} (h0 : 0 ≤ op) : inB (hasS op) 100 = decide (op = 0 ∨ op = 1 ∨ op = 2 ∨ op = 3 ∨ op = 5) ∧ inB (hasS op) 97 = hasA op ∧ inB (hasS op) 98 = decide (op = 1 ∨ op = 4) ∧ inB (hasS op) 110 = decide (op = 0 ∨ op = 1) ∧
    inB (hasS op) 102 = decide (op = 5) ∧ inB (hasS op) 120 = decide (op = 5) ∧ inB (hasS op) 108 = decide (op = 8 ∨ op = 9) ∧ inB (hasS op) 109 = decide (op = 9) := by
  rcases op_cases h0 with rfl | rfl | rfl | rfl | rfl | rfl | rfl | rfl | rfl | rfl | rfl | hop
  case inr.inr.inr.inr.inr.inr.inr.inr.inr.inr.inr =>
    have hs : hasS op = ⟨#[]⟩ := by unfold hasS; repeat (rw [if_neg (by omega)])
    rw [hs]
    unfold hasA
    refine ⟨?_, ?_, ?_, ?_, ?_, ?_, ?_, ?_⟩
    all_goals (symm; exact decide_eq_false (by omega))
  all_goals decide +kernel
end Go.Proofs.YtkejnhleajfcjaaGreatDoor
/- Appending numbers to a slice of one's own. -/
namespace Go.Proofs.YtkejnhleajfcjaaGreatDoor
open Go.RowKit
set_option linter.unusedVariables false
set_option linter.unusedSimpArgs false
theorem IntsIn.one (w : World) (g : Nat) (t : TypeId) (x : Int) (hx : I64 x) (h : w.cell? ⟨g, 0, none⟩ = some (.int .i64 x)) : IntsIn w (.slice (some ⟨g, 0, none⟩) 1 1) [x] :=
  ⟨by simp, some ⟨g, 0, none⟩, 1, g, 0, rfl, ⟨fun _ => rfl, fun h => by cases h⟩, fun k y hy => by
    match k, hy with
    | 0, hy => simp at hy; subst hy; exact ⟨h, hx⟩⟩
/-- Numbers appended to a slice of one's own. -/
theorem wpList_append_ints {ops : Array Oper} {rest : List Oper} {o : Oper} {a : Act} {w : World} {Q : Exit → Act → World → Prop} (hgd : o.guard = none) (s x : Operand)
    (ho : o.op = .call { callee := .builtin .append, args := #[s, x], argTypes := #[66, 66] }) (base : Nat) (v : Value) (l : List Int) (hs : a.eval s = v) (hown : w.ownsRow base 3 1 v l.length (ints l))
    (xv : Value) (m : List Int) (hx : a.eval x = xv) (hm : IntsIn w xv m) (hbase : base ≤ w.heap.size) (hbytes : (l.length + m.length) * 8 ≤ 140737488355328)
    (h : ∀ v' w', w'.ownsRow base 3 1 v' (l ++ m).length (ints (l ++ m)) → w.grownBy w' v.ownBlock → wpList Tryz.prog ops Q rest (a.put o.dst v') w') : wpList Tryz.prog ops Q (o :: rest) a w := by
  obtain ⟨i0, hi, hz0, hz1, hz2⟩ := info_parts infoint
  obtain ⟨hl, p, c, b, off, rfl, ⟨hp, hn⟩, hc⟩ := hm
  rcases p with _ | ad
  · have h0 : m = [] := by
      rcases Nat.eq_zero_or_pos m.length with h | h
      · exact List.eq_nil_of_length_eq_zero h
      · have := hp h; cases this
    subst h0
    obtain rfl := hn rfl
    refine wpList_append_own_none hgd s x 66 ho base 3 i0 1 Tryz.underlying66 hi v l.length (ints l) hs hown hx ?_
    have := h v w (by rw [List.append_nil]; exact hown) ⟨rfl, rfl, rfl, Nat.le_refl _, fun _ _ _ => rfl⟩
    exact this
  · have hcell : ∀ (j : Nat) u, (ints m)[j]? = some u → w.cell? (ad.add j) = some u := by
      rcases Nat.eq_zero_or_pos m.length with h | h
      · intro j u hu
        rw [List.eq_nil_of_length_eq_zero h] at hu
        simp [ints] at hu
      · have := hp h
        cases this
        exact IntsIn.cells hc
    refine wpList_append_own w hgd s x 66 ho base 3 i0 _ 1 8 Tryz.underlying66 hi hz0 hz1 hz2 rfl (by decide) v l.length (ints l) hs hown ad m.length c (ints m) hx (by simp [ints]) hcell (ints_one m) (by unfold maxLen; omega) hbytes hbase ?_
    intro v' w' h1 h2 h3
    refine h v' w' ?_ h2
    rw [List.length_append, show ints (l ++ m) = ints l ++ ints m by simp [ints]]
    exact h1
theorem ownsRow_low {w : World} {B B' n size : Nat} {e : TypeId} {v : Value} {xs : List Value} (h : w.ownsRow B e size v n xs) (hB : B' ≤ B) : w.ownsRow B' e size v n xs := by
  refine ⟨h.1, ?_⟩
  rcases h.2 with h | ⟨g, cap, cur, h1, h2, h3⟩
  · exact .inl h
  · exact .inr ⟨g, cap, cur, h1, Nat.le_trans hB h2, h3⟩
theorem own_shape {w : World} {B n size : Nat} {e : TypeId} {v : Value} {xs : List Value} (h : w.ownsRow B e size v n xs) : ∃ p c, v = .slice p n c ∧ (∀ k, v.ownBlock = some k → B ≤ k ∧ k < w.heap.size) := by
  rcases h.2 with ⟨rfl, rfl⟩ | ⟨g, cap, cur, rfl, h2, h3, _⟩
  · exact ⟨none, 0, rfl, fun k hk => by cases hk⟩
  · exact ⟨_, _, rfl, fun k hk => by cases hk; exact ⟨h2, lt_of_block h3⟩⟩
/-- A slice of one's own, read. -/
theorem IntsIn.of_own {w : World} {B : Nat} {v : Value} {l : List Int} (h : w.ownsRow B 3 1 v l.length (ints l)) (hl : l.length * 8 ≤ 140737488352000) (hb : ∀ x ∈ l, I64 x) : IntsIn w v l := by
  rcases h.2 with ⟨rfl, h0⟩ | ⟨g, cap, cur, rfl, h2, h3, h4, h5, h6, h7⟩
  · have : l = [] := List.eq_nil_of_length_eq_zero h0
    subst this
    exact ⟨hl, none, 0, 0, 0, rfl, ⟨fun h => by simp at h, fun _ => rfl⟩, fun k x hx => by simp at hx⟩
  · refine ⟨hl, _, _, g, 0, rfl, ⟨fun _ => rfl, fun h => by cases h⟩, fun k x hx => ⟨?_, hb x (List.mem_of_getElem? hx)⟩⟩
    have hk : k < l.length := by
      rcases Nat.lt_or_ge k l.length with h | h
      · exact h
      · rw [List.getElem?_eq_none h] at hx; cases hx
    rw [cell_of_obj h3, Nat.zero_add, Nat.mul_one]
    have e : (cur.toList.take (l.length * 1))[k]? = (ints l)[k]? := by rw [h7]
    rw [List.getElem?_take_of_lt (by omega)] at e
    rw [← Array.getElem?_toList, e]
    simp [ints, hx]
end Go.Proofs.YtkejnhleajfcjaaGreatDoor
/- The walk of muntinref14.Reads. -/
namespace Go.Proofs.YtkejnhleajfcjaaGreatDoor
open Go.RowKit
set_option linter.unusedVariables false
set_option linter.unusedSimpArgs false
/-- The cells of an instruction's box, that the walks read. -/
structure IBox (w : World) (g : Nat) (x : Insx) (av : Value) : Prop where
  lt : g < w.heap.size
  c0 : w.cell? ⟨g, 0, none⟩ = some (.int .u8 x.op)
  c1 : w.cell? ⟨g, 1, none⟩ = some (.int .i64 x.d)
  c2 : w.cell? ⟨g, 2, none⟩ = some (.int .i64 x.a)
  c3 : w.cell? ⟨g, 3, none⟩ = some (.int .i64 x.b)
  c4 : w.cell? ⟨g, 4, none⟩ = some (.int .u32 x.n)
  c5 : w.cell? ⟨g, 5, none⟩ = some (.int .i64 x.f)
  c6 : w.cell? ⟨g, 6, none⟩ = some av
  c7 : w.cell? ⟨g, 7, none⟩ = some (.int .i64 x.l1)
  c8 : w.cell? ⟨g, 8, none⟩ = some (.int .i64 x.l2)
theorem IBox.new (w : World) (x : Insx) (av : Value) (t : TypeId) : IBox (w.alloc (.cells #[.int .u8 x.op, .int .i64 x.d, .int .i64 x.a, .int .i64 x.b, .int .u32 x.n, .int .i64 x.f, av, .int .i64 x.l1, .int .i64 x.l2] t)) w.heap.size x av := by
  have h := fun i => cell_of_obj (i := i) (heap_alloc_new w (.cells #[.int .u8 x.op, .int .i64 x.d, .int .i64 x.a, .int .i64 x.b, .int .u32 x.n, .int .i64 x.f, av, .int .i64 x.l1, .int .i64 x.l2] t))
  exact ⟨by simp, h 0, h 1, h 2, h 3, h 4, h 5, h 6, h 7, h 8⟩
theorem IBox.only {S : Nat → Prop} {w w' : World} {g : Nat} {x : Insx} {av : Value} (h : IBox w g x av) (o : Only S w w') (hs : ¬ S g) : IBox w' g x av :=
  ⟨Nat.lt_of_lt_of_le h.lt o.size, (o.cell (p := ⟨g, 0, none⟩) h.lt hs).trans h.c0, (o.cell (p := ⟨g, 1, none⟩) h.lt hs).trans h.c1, (o.cell (p := ⟨g, 2, none⟩) h.lt hs).trans h.c2, (o.cell (p := ⟨g, 3, none⟩) h.lt hs).trans h.c3, (o.cell (p := ⟨g, 4, none⟩) h.lt hs).trans h.c4,
    (o.cell (p := ⟨g, 5, none⟩) h.lt hs).trans h.c5, (o.cell (p := ⟨g, 6, none⟩) h.lt hs).trans h.c6, (o.cell (p := ⟨g, 7, none⟩) h.lt hs).trans h.c7, (o.cell (p := ⟨g, 8, none⟩) h.lt hs).trans h.c8⟩
theorem IBox.keep {w w' : World} {g : Nat} {x : Insx} {av : Value} (h : IBox w g x av) (hb : Below w.heap.size w w') : IBox w' g x av := h.only (S := fun _ => False) (Only.of_below hb) id
theorem IBox.grown {w w' : World} {g : Nat} {x : Insx} {av : Value} {row : Option Nat} (h : IBox w g x av) (hb : w.grownBy w' row) (hr : row ≠ some g) : IBox w' g x av :=
  h.only (S := fun k => row = some k) ((Only.refl _ w).grown hb (fun k hk _ => hk)) hr
theorem grown_below {B : Nat} {a b c : World} {row : Option Nat} (h : Below B a b) (g : b.grownBy c row) (hr : ∀ k, row = some k → B ≤ k) (hB : B ≤ b.heap.size) : Below B a c :=
  h.trans ⟨g.os, g.tape, g.output, g.size, fun k hk => g.block k (Nat.lt_of_lt_of_le hk hB) (fun e => by have := hr k e.symm; omega)⟩
end Go.Proofs.YtkejnhleajfcjaaGreatDoor
/- The walk of muntinref14.SameInts. -/
namespace Go.Proofs.YtkejnhleajfcjaaGreatDoor
open Go.RowKit
set_option linter.unusedVariables false
set_option linter.unusedSimpArgs false
theorem sdrewN {B : Nat} {a w : World} (h : Below B a w) (n : Nat) : Below B a (w.drewN n) := ⟨h.os, h.tape, h.output, h.size, h.block⟩
theorem sret_val {a b : Value} (h : a = b) : Ending.returned a = .returned b := by rw [h]
/-- A row opened for a walk: hidden facts on its place and its things. -/
theorem RowIn.hids {α : Type} {At : World → Nat → Nat → α → Prop} {size bytes : Nat} {w : World} {v : Value} {l : List α} (h : RowIn At size bytes w v l) :
    ∃ p c b o, v = .slice p l.length c ∧ l.length * bytes ≤ 140737488352000 ∧ Hid ((0 < l.length → p = some ⟨b, o, none⟩) ∧ ∀ (k : Nat) (x : α), l[k]? = some x → At w b (o + k * size) x) := by
  obtain ⟨h1, p, c, b, o, h2, ⟨h3, _⟩, h4⟩ := h
  exact ⟨p, c, b, o, h2, h1, shid ⟨h3, h4⟩⟩
end Go.Proofs.YtkejnhleajfcjaaGreatDoor
/- Which texts are names: the walks of lex.Name and muntinref12.Name. -/
namespace Go.Proofs.YtkejnhleajfcjaaGreatDoor
open Go.RowKit
set_option linter.unusedVariables false
set_option linter.unusedSimpArgs false
def letP (c : Int) : Prop := (97 ≤ c ∧ c ≤ 122) ∨ (65 ≤ c ∧ c ≤ 90) ∨ c = 95
def digP (c : Int) : Prop := 48 ≤ c ∧ c ≤ 57
instance (c : Int) : Decidable (letP c) := by unfold letP; infer_instance
instance (c : Int) : Decidable (digP c) := by unfold digP; infer_instance
/-- What lex.Name's function says. -/
def wordP (c : Int) : Prop := letP c ∨ digP c
instance (c : Int) : Decidable (wordP c) := by unfold wordP; infer_instance
def allwB (l : List UInt8) : Bool := l.all fun x => decide (wordP x.toNat)
def alldB (l : List UInt8) : Bool := l.all fun x => decide (digP x.toNat)
def nameB : List UInt8 → Bool
  | [] => false
  | c :: r => decide (r.length + 1 ≤ 64) && decide (letP c.toNat) && allwB r && !(decide ((c.toNat : Int) = 118) && !r.isEmpty && alldB r)
theorem sext (c : UInt8) (r : List UInt8) (n : Nat) (hn : n = r.length + 1) : (⟨(c :: r).toArray⟩ : ByteArray).extract 1 n = ⟨r.toArray⟩ := by
  subst hn
  apply ByteArray.ext
  rw [ByteArray.data_extract]
  simp
theorem name_case (c : UInt8) (r : List UInt8) : allwB (c :: r) = (decide (wordP c.toNat) && allwB r) := rfl
end Go.Proofs.YtkejnhleajfcjaaGreatDoor
/- The walk of muntinref12.Name. -/
namespace Go.Proofs.YtkejnhleajfcjaaGreatDoor
open Go.RowKit
set_option linter.unusedVariables false
set_option linter.unusedSimpArgs false
end Go.Proofs.YtkejnhleajfcjaaGreatDoor
