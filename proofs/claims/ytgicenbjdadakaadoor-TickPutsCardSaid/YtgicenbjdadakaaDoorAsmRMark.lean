/- The document's list (muntinref07): Mark; Jump whatever it is given. -/
import Derived.Test.YtgicenbjdadakaaDoorAsmRJump
namespace Go.Proofs.YtgicenbjdadakaaDoor
open Go.RowKit Go.Maps
set_option linter.unusedVariables false
set_option linter.unusedSimpArgs false
theorem marks_one (M : List (List UInt8 × Int)) : ∀ u ∈ M.flatMap markC, u.oneCell' = true := by
  intro u hu
  obtain ⟨e, _, h⟩ := List.mem_flatMap.1 hu
  simp [markC] at h
  rcases h with rfl | rfl <;> simp [Value.oneCell']
/-- The marks behind a mark; the answer. -/
def markM (M : List (List UInt8 × Int)) (nm : ByteArray) (n : Int) : List (List UInt8 × Int) := if (look M nm.data.toList).isSome = true then M else M ++ [(nm.data.toList, n)]
def markE (M : List (List UInt8 × Int)) (nm : ByteArray) : Int := if (look M nm.data.toList).isSome = true then 9 else 0
/-- What Mark of the document leaves. -/
def RMarkOk (w : World) (lv mv : Value) (M : List (List UInt8 × Int)) (nm : ByteArray) (n : Int) (e : Ending) (w' : World) : Prop :=
  ∃ mv', e = .returned (.tuple #[.agg #[lv, mv'], .int .i64 (markE M nm)]) ∧ MarksAt w' mv' (markM M nm n) ∧ Below w.heap.size w w' ∧ ∀ k, mv'.ownBlock = some k → mv.ownBlock = some k ∨ w.heap.size ≤ k
theorem RMarkOk.no {w w' : World} {lv mv : Value} {M : List (List UInt8 × Int)} {nm : ByteArray} {n : Int} (h : (look M nm.data.toList).isSome = true) (hi : MarksAt w' mv M) (hb : Below w.heap.size w w') : RMarkOk w lv mv M nm n (.returned (.tuple #[.agg #[lv, mv], .int .i64 9])) w' :=
  ⟨mv, by unfold markE; rw [if_pos h], by unfold markM; rw [if_pos h]; exact hi, hb, fun k e => .inl e⟩
theorem RMarkOk.yes {w w' : World} {lv mv mv' : Value} {M : List (List UInt8 × Int)} {nm : ByteArray} {n : Int} (h : ¬ (look M nm.data.toList).isSome = true) (hi : MarksAt w' mv' (M ++ [(nm.data.toList, n)])) (hb : Below w.heap.size w w') (hk : ∀ k, mv'.ownBlock = some k → w.heap.size ≤ k) : RMarkOk w lv mv M nm n (.returned (.tuple #[.agg #[lv, mv'], .int .i64 0])) w' :=
  ⟨mv', by unfold markE; rw [if_neg h], by unfold markM; rw [if_neg h]; exact hi, hb, fun k e => .inr (hk k e)⟩
theorem marks_fin {w2 : World} {B b n : Nat} {e : TypeId} {v : Value} {cs : List Value} {M : List (List UInt8 × Int)} (ho : w2.ownsRow B e 2 v n cs) (hn : n = M.length) (hcs : cs = M.flatMap markC) (hb : b < B) (x y : Value) : MarksAt ((w2.setCell ⟨b, 0, none⟩ x).setCell ⟨b, 1, none⟩ y) v M := by
  subst hn; subst hcs; exact row_fin ho hb x y
end Go.Proofs.YtgicenbjdadakaaDoor
