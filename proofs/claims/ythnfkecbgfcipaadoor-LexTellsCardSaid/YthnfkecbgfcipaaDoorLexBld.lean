/- strings.Builder's contracts of the shelf, laid here by explicit terms; and in plain words. No condition. -/
import Derived.Shelf.Strings.BuilderK
import Derived.RangeFuncBox
import Derived.Test.YthnfkecbgfcipaaDoorProg
import Derived.Test.YthnfkecbgfcipaaDoorOnly
namespace Go.Proofs.YthnfkecbgfcipaaDoor
open Go Go.Shelf Go.RowKit
set_option linter.unusedVariables false
def bldRen : Ren := ⟨fun x => match x with | 166 => 23 | 167 => 22 | 169 => 24 | 240 => 42 | 276 => 55 | n => n, fun x => match x with | 0 => 0 | 3 => 3 | 4 => 4 | 5 => 5 | 9 => 9 | 20 => 20 | 37 => 35 | 70 => 61 | 72 => 63 | 75 => 65 | 80 => 69 | 127 => 82 | 164 => 86 | 12 => 12 | 76 => 67 | n => n, fun x => x⟩
set_option maxRecDepth 100000 in
theorem bld166 : Lays.n166 Tryd.prog bldRen := { mixed := by kernel_rfl, f166 := Tryd.func23, f240 := Tryd.func42, f276 := Tryd.func55, t0 := Tryd.underlying0, a0 := Tryd.isAgg0, z0 := Tryd.sizeOf0, v0 := Tryd.zeroValue0, t3 := Tryd.underlying3, a3 := Tryd.isAgg3, z3 := Tryd.sizeOf3, v3 := Tryd.zeroValue3, t4 := Tryd.underlying4, a4 := Tryd.isAgg4, z4 := Tryd.sizeOf4, v4 := Tryd.zeroValue4, t9 := Tryd.underlying9, a9 := Tryd.isAgg9, z9 := Tryd.sizeOf9, v9 := Tryd.zeroValue9, t20 := Tryd.underlying20, a20 := Tryd.isAgg20, z20 := Tryd.sizeOf20, v20 := Tryd.zeroValue20, t37 := Tryd.underlying35, a37 := Tryd.isAgg35, z37 := Tryd.sizeOf35, v37 := Tryd.zeroValue35, t70 := Tryd.underlying61, a70 := Tryd.isAgg61, z70 := Tryd.sizeOf61, v70 := Tryd.zeroValue61, t72 := Tryd.underlying63, a72 := Tryd.isAgg63, z72 := Tryd.sizeOf63, v72 := Tryd.zeroValue63, t75 := Tryd.underlying65, a75 := Tryd.isAgg65, z75 := Tryd.sizeOf65, v75 := Tryd.zeroValue65, t164 := Tryd.underlying86, a164 := Tryd.isAgg86, z164 := Tryd.sizeOf86, v164 := Tryd.zeroValue86 }
set_option maxRecDepth 100000 in
theorem bld167 : Lays.n167 Tryd.prog bldRen := { mixed := by kernel_rfl, f167 := Tryd.func22, f240 := Tryd.func42, f276 := Tryd.func55, t0 := Tryd.underlying0, a0 := Tryd.isAgg0, z0 := Tryd.sizeOf0, v0 := Tryd.zeroValue0, t4 := Tryd.underlying4, a4 := Tryd.isAgg4, z4 := Tryd.sizeOf4, v4 := Tryd.zeroValue4, t5 := Tryd.underlying5, a5 := Tryd.isAgg5, z5 := Tryd.sizeOf5, v5 := Tryd.zeroValue5, t9 := Tryd.underlying9, a9 := Tryd.isAgg9, z9 := Tryd.sizeOf9, v9 := Tryd.zeroValue9, t20 := Tryd.underlying20, a20 := Tryd.isAgg20, z20 := Tryd.sizeOf20, v20 := Tryd.zeroValue20, t37 := Tryd.underlying35, a37 := Tryd.isAgg35, z37 := Tryd.sizeOf35, v37 := Tryd.zeroValue35, t70 := Tryd.underlying61, a70 := Tryd.isAgg61, z70 := Tryd.sizeOf61, v70 := Tryd.zeroValue61, t72 := Tryd.underlying63, a72 := Tryd.isAgg63, z72 := Tryd.sizeOf63, v72 := Tryd.zeroValue63, t75 := Tryd.underlying65, a75 := Tryd.isAgg65, z75 := Tryd.sizeOf65, v75 := Tryd.zeroValue65, t164 := Tryd.underlying86, a164 := Tryd.isAgg86, z164 := Tryd.sizeOf86, v164 := Tryd.zeroValue86 }
set_option maxRecDepth 100000 in
theorem bld169 : Lays.n169 Tryd.prog bldRen := { mixed := by kernel_rfl, f169 := Tryd.func24, t0 := Tryd.underlying0, a0 := Tryd.isAgg0, z0 := Tryd.sizeOf0, v0 := Tryd.zeroValue0, t3 := Tryd.underlying3, a3 := Tryd.isAgg3, z3 := Tryd.sizeOf3, v3 := Tryd.zeroValue3, t9 := Tryd.underlying9, a9 := Tryd.isAgg9, z9 := Tryd.sizeOf9, v9 := Tryd.zeroValue9, t37 := Tryd.underlying35, a37 := Tryd.isAgg35, z37 := Tryd.sizeOf35, v37 := Tryd.zeroValue35, t70 := Tryd.underlying61, a70 := Tryd.isAgg61, z70 := Tryd.sizeOf61, v70 := Tryd.zeroValue61, t72 := Tryd.underlying63, a72 := Tryd.isAgg63, z72 := Tryd.sizeOf63, v72 := Tryd.zeroValue63, t127 := Tryd.underlying82, a127 := Tryd.isAgg82, z127 := Tryd.sizeOf82, v127 := Tryd.zeroValue82 }
theorem bldX : Builder.Extra Tryd.prog bldRen where
  sizeBuilder := by kernel_rfl
  liesBuilder := by kernel_rfl
  t5 := Tryd.underlying5
  a5 := Tryd.isAgg5
  z5 := Tryd.sizeOf5
  v5 := Tryd.zeroValue5
  infoByte := by kernel_rfl
  cellsByte := by kernel_rfl
  sizeByte := by kernel_rfl
  neB5 := by decide
/-- A builder at block b holds these bytes; b and its row lie at or above B. -/
def BldAt (B b : Nat) (l : List UInt8) (w : World) : Prop := Lib.IsBuilderF 63 5 B b (Lib.byteCells l) w
/-- What a call leaves: all below B; and every other block that is no row of bytes. -/
def BldKeeps (B b : Nat) (w w' : World) : Prop := Below B w w' ∧ ∀ (k : Nat) (o : Obj), w.heap[k]? = some o → k ≠ b → (∀ c fz, o ≠ .cells c 5 fz) → w'.heap[k]? = some o
theorem BldAt.new (w : World) (B : Nat) (h : B ≤ w.heap.size) : BldAt B w.heap.size [] (w.alloc (.cells #[.pointer none, .slice none 0 0] 63)) := by
  refine Lib.IsBuilderF.of (.inl ⟨h, .slice none 0 0, World.alloc_heap_new _ _, World.ownsRow_nil _ _ _ _, by simp [Value.ownBlock]⟩)
theorem BldAt.alloc {B b : Nat} {l : List UInt8} {w : World} (h : BldAt B b l w) (o : Obj) : BldAt B b l (w.alloc o) := Lib.IsBuilderF.alloc h o
theorem wbyte_any (B b : Nat) (l : List UInt8) (c : UInt8) (w : World) (h : BldAt B b l w) (hl : l.length + 1 ≤ 140737488355328) (hB : B ≤ w.heap.size) :
    Calls Tryd.prog 22 #[.pointer (some ⟨b, 0, none⟩), .int .u8 (c.toNat : Int)] w fun e w' => e = .returned .nilIface ∧ BldAt B b (l ++ [c]) w' ∧ BldKeeps B b w w' := by
  refine (Any.Builder_WriteByte_k bld167 bldX B b (Lib.byteCells l) c.toNat w h (by rw [Lib.byteCells_length]; exact hl) hB).mono ?_
  rintro e w' ⟨h1, h2, h3, h4⟩
  refine ⟨h1, .inr ?_, h3, fun k o hk hb ho => h4 k o hk (fun e => hb (Option.some.inj e)) ho⟩
  rw [Lib.byteCells_append]; exact h2
theorem wstring_any (B b : Nat) (l : List UInt8) (s : ByteArray) (w : World) (h : BldAt B b l w) (hl : l.length + s.size ≤ 140737488355328) (hB : B ≤ w.heap.size) :
    Calls Tryd.prog 23 #[.pointer (some ⟨b, 0, none⟩), .string s] w fun e w' => e = .returned (.tuple #[.int .i64 s.size, .nilIface]) ∧ BldAt B b (l ++ s.data.toList) w' ∧ BldKeeps B b w w' := by
  refine (Any.Builder_WriteString_k bld166 bldX B b (Lib.byteCells l) s w h (by rw [Lib.byteCells_length]; exact hl) hB).mono ?_
  rintro e w' ⟨h1, h2, h3, h4⟩
  refine ⟨h1, .inr ?_, h3, fun k o hk hb ho => h4 k o hk (fun e => hb (Option.some.inj e)) ho⟩
  rw [Lib.byteCells_append]; exact h2
theorem bstring_any (B b : Nat) (l : List UInt8) (w : World) (h : BldAt B b l w) (hB : B ≤ w.heap.size) :
    Calls Tryd.prog 24 #[.pointer (some ⟨b, 0, none⟩)] w fun e w' => e = .returned (.string ⟨l.toArray⟩) ∧ Below B w w' := by
  refine (Any.Builder_String_any_k bld169 bldX B b l w h hB).mono ?_
  rintro e w' ⟨h1, h2, h3, h4⟩
  exact ⟨h1, h3⟩
end Go.Proofs.YthnfkecbgfcipaaDoor
