/- The document's list (muntinref07): Jump. -/
import Derived.Test.YtgicenbjdadakaaDoorAsmRPut
import Derived.Test.YtgicenbjdadakaaDoorAsmStep
namespace Go.Proofs.YtgicenbjdadakaaDoor
open Go.RowKit Go.Maps
set_option linter.unusedVariables false
set_option linter.unusedSimpArgs false
/-- What Jump of the document leaves. -/
def RJumpOk (w : World) (lv mv : Value) (L : List It) (op c : Int) (nm : ByteArray) (e : Ending) (w' : World) : Prop :=
  ∃ lv', e = .returned (.tuple #[.agg #[lv', mv], .int .i64 (if c ≤ 6 then 0 else 2)]) ∧ ItemsAt w' lv' (if c ≤ 6 then L ++ [.far ⟨op, c, 0, 0, true, 0⟩ nm] else L) ∧ Below w.heap.size w w' ∧ ∀ k, lv'.ownBlock = some k → lv.ownBlock = some k ∨ w.heap.size ≤ k
theorem RJumpOk.yes {w w' : World} {lv mv lv' : Value} {L : List It} {op c : Int} {nm : ByteArray} (h : c ≤ 6) (hi : ItemsAt w' lv' (L ++ [.far ⟨op, c, 0, 0, true, 0⟩ nm])) (hb : Below w.heap.size w w') (hk : ∀ k, lv'.ownBlock = some k → w.heap.size ≤ k) : RJumpOk w lv mv L op c nm (.returned (.tuple #[.agg #[lv', mv], .int .i64 0])) w' :=
  ⟨lv', by rw [if_pos h], by rw [if_pos h]; exact hi, hb, fun k e => .inr (hk k e)⟩
theorem row_fin {w2 : World} {B b size n : Nat} {e : TypeId} {v : Value} {cs : List Value} (ho : w2.ownsRow B e size v n cs) (hb : b < B) (x y : Value) : RowC ((w2.setCell ⟨b, 0, none⟩ x).setCell ⟨b, 1, none⟩ y) v size n cs :=
  (RowC.of_own ho).keepO (Box2.only (S := fun k => k = b) (Only.refl _ w2) rfl x y) (fun k hk e => by have := (ho.lt k hk).1; omega)
theorem items_fin {w2 : World} {B b n : Nat} {e : TypeId} {v : Value} {cs : List Value} {L : List It} (ho : w2.ownsRow B e 8 v n cs) (hn : n = L.length) (hcs : cs = L.flatMap It.cells) (hb : b < B) (x y : Value) : ItemsAt ((w2.setCell ⟨b, 0, none⟩ x).setCell ⟨b, 1, none⟩ y) v L := by
  subst hn; subst hcs; exact row_fin ho hb x y
theorem RJumpOk.no {w w' : World} {mv lv : Value} {L : List It} {op c : Int} {nm : ByteArray} (h : ¬ c ≤ 6) (hi : ItemsAt w' lv L) (hb : Below w.heap.size w w') : RJumpOk w lv mv L op c nm (.returned (.tuple #[.agg #[lv, mv], .int .i64 2])) w' :=
  ⟨lv, by rw [if_neg h], by rw [if_neg h]; exact hi, hb, fun k e => .inl e⟩
theorem cells6 (w : World) (x : Ix) : InsAt (w.alloc (.cells #[.int .u8 x.op, .int .u8 x.rd, .int .u8 x.rs1, .int .u8 x.rs2, .bool x.is, .int .i32 x.imm] 55)) w.heap.size 0 x ∨ ¬ x.bd := by
  by_cases hb : x.bd
  · refine .inl (InsAt.of_cells hb fun j u hu => ?_)
    rw [Nat.zero_add]
    simp only [World.cell?, heap_alloc_new w _]
    simpa [Ix.cells] using hu
  · exact .inr hb
end Go.Proofs.YtgicenbjdadakaaDoor
