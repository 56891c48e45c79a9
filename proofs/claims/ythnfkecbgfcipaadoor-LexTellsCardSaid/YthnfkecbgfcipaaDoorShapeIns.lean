/- Walks of the package shape: what an instruction reads, writes; whether it ends a block. -/
import Derived.Test.YthnfkecbgfcipaaDoorProg
import Derived.Test.YthnfkecbgfcipaaDoorShapeSpec
import Derived.WalkSpells
import Derived.WalkLawsBesides
import Derived.Deep.QuietTactic
import Derived.BigQuiet
import Derived.Handy
import Derived.Laws.AppendOwnNone
namespace Go.Proofs.YthnfkecbgfcipaaDoor
open Go.RowKit
set_option linter.unusedVariables false
set_option linter.unusedSimpArgs false
theorem shid {p : Prop} (h : p) : Hid p := h
theorem sbt {a b c : World} (h : Below a.heap.size a b) (k : Below b.heap.size b c) : Below a.heap.size a c := h.trans (k.mono h.size)
/-- An instruction as a value: args lie in the slice av. -/
abbrev Insx.agg (x : Insx) (av : Value) : Value := .agg #[.int .u8 x.op, .int .i64 x.d, .int .i64 x.a, .int .i64 x.b, .int .u32 x.n, .int .i64 x.f, av, .int .i64 x.l1, .int .i64 x.l2]
def readsS (x : Insx) : List Int :=
  if x.op = 1 ∨ x.op = 4 then [x.a, x.b] else if x.op = 2 ∨ x.op = 3 ∨ x.op = 6 ∨ x.op = 9 ∨ x.op = 10 then [x.a] else if x.op = 5 then x.args else []
def writesB (x : Insx) : Bool := decide (x.op = 0 ∨ x.op = 1 ∨ x.op = 2 ∨ x.op = 3 ∨ x.op = 5)
def writesD (x : Insx) : Int := if writesB x = true then x.d else 0
def endsB (x : Insx) : Bool := decide (8 ≤ x.op ∧ x.op ≤ 10)
/-- The eleven operations, and all others. -/
theorem op_cases {op : Int} (h0 : 0 ≤ op) : op = 0 ∨ op = 1 ∨ op = 2 ∨ op = 3 ∨ op = 4 ∨ op = 5 ∨ op = 6 ∨ op = 7 ∨ op = 8 ∨ op = 9 ∨ op = 10 ∨ 10 < op := by omega
theorem op_no {op : Int} (h : 10 < op) : (op == 0) = false ∧ (op == 1) = false ∧ (op == 2) = false ∧ (op == 3) = false ∧ (op == 4) = false ∧ (op == 5) = false ∧ (op == 6) = false ∧ (op == 8) = false ∧ (op == 9) = false ∧ (op == 10) = false := by
  simp; omega
def ints (l : List Int) : List Value := l.map (.int .i64)
theorem ints_one (l : List Int) : ∀ u ∈ ints l, u.oneCell' = true := by
  intro u hu
  obtain ⟨x, _, rfl⟩ := List.mem_map.1 hu
  simp [Value.oneCell']
theorem infoint : (Tryd.prog.info? 3).map (fun i => (i.zero, i.size, i.bytes)) = some (some (.int .i64 0), 1, 8) := by kernel_rfl
/-- A slice of numbers that the call made. -/
def IntsOwn (w : World) (l : List Int) (e : Ending) (w' : World) : Prop := ∃ v, e = .returned v ∧ w'.ownsRow w.heap.size 3 1 v l.length (ints l) ∧ Below w.heap.size w w'
theorem IntsIn.cells {w : World} {b o : Nat} {l : List Int} (h : ∀ (k : Nat) (x : Int), l[k]? = some x → IntAt w b (o + k * 1) x) : ∀ (j : Nat) u, (ints l)[j]? = some u → w.cell? ((⟨b, o, none⟩ : Addr).add j) = some u := by
  intro j u hu
  unfold ints at hu
  rw [List.getElem?_map] at hu
  cases hx : l[j]? with
  | none => rw [hx] at hu; cases hu
  | some x =>
    rw [hx] at hu
    cases hu
    have := (h j x hx).1
    rw [Nat.mul_one] at this
    have e : (⟨b, o, none⟩ : Addr).add j = ⟨b, o + j, none⟩ := by unfold Addr.add; split <;> simp [*]
    rw [e]; exact this
end Go.Proofs.YthnfkecbgfcipaaDoor
