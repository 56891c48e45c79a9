/- Walks of the package inst: has, bounds, may, Encode. -/
import Derived.Test.YtgdebchbdmogcaaGreatDoorGB
import Derived.Test.YtgdebchbdmogcaaGreatDoorProg
import Derived.WalkSpells
import Derived.WalkLawsBesides
import Derived.RegionTactic
import Derived.Outline
import Derived.BigRegion
import Derived.ChangeAlike
import Derived.Deep.QuietTactic
import Derived.BigQuiet
import Derived.StillTailTactics
namespace Go.Proofs.YtgdebchbdmogcaaGreatDoor
open Go.RowKit
set_option linter.unusedVariables false
theorem ihid {p : Prop} (h : p) : Hid p := h
theorem iret {k : IntKind} {a b : Int} (h : a = b) : Ending.returned (.int k a) = .returned (.int k b) := by rw [h]
theorem iret2 {k l : IntKind} {a b c d : Int} (h : a = b) (g : c = d) : Ending.returned (.tuple #[.int k a, .int l c]) = .returned (.tuple #[.int k b, .int l d]) := by rw [h, g]
theorem iretb {a b : Bool} (h : a = b) : Ending.returned (.bool a) = .returned (.bool b) := by rw [h]
/-- The table of what operations have. -/
def Tab (w : World) : Prop := ∀ i : Nat, i < 38 → w.cell? ⟨1, i, none⟩ = some (.int .u8 (hasK (kindS i)))
theorem Tab.keep {w w' : World} (h : Tab w) (hb : Below w.heap.size w w') : Tab w' := fun i hi => by
  have h1 := h i hi
  exact (hb.cell (p := ⟨1, i, none⟩) (World.block_lt_of_cell? _ _ h1)).trans h1
set_option maxRecDepth 100000 in
theorem ihas_any (op h : Int) (h0 : 0 ≤ op) (h1 : op < 256) (hv : hasK (kindS op) = h) (w : World) (ht : Tab w) : Calls Tryz.prog 98 #[.int .u8 op] w fun e w' => e = .returned (.int .u8 h) ∧ w = w' := by
  obtain ⟨n, rfl⟩ := Int.eq_ofNat_of_zero_le h0
  by_cases hn : n < 38
  · have hc := ht n hn
    rw [hv] at hc
    have hn2 : (n : Int) < 38 := by omega
    clear ht hv
    go_enter Tryz.func98, Tryz.ntmps98
    go_wp2
    go_ret
    exact ⟨rfl, rfl⟩
  · have hn2 : (38 : Int) ≤ n := by omega
    have E := ihid (show h = 128 by rw [← hv, kind_no (by omega)]; rfl)
    clear ht hv hn
    go_enter Tryz.func98, Tryz.ntmps98
    go_wp2
    go_ret
    exact ⟨iret E.out.symm, rfl⟩
def lowS (op : Int) : Int := if op = 15 then 0 else if op = 17 ∨ op = 18 then -1048576 else if op = 30 ∨ op = 31 then 0 else if op = 33 then 3 else if op = 37 then 1 else -16384
def highS (op : Int) : Int := if op = 15 then 2097151 else if op = 17 ∨ op = 18 then 1048575 else if op = 30 ∨ op = 31 then 1 else if op = 33 then 4 else if op = 37 then 3 else 16383
set_option maxHeartbeats 400000 in
theorem bounds_any (op lo hi : Int) (hl : lowS op = lo) (hh : highS op = hi) (w : World) : Calls Tryz.prog 138 #[.int .u8 op] w fun e w' => e = .returned (.tuple #[.int .i32 lo, .int .i32 hi]) ∧ w = w' := by
  subst hl hh
  by_cases h : op = 15 ∨ op = 17 ∨ op = 18 ∨ op = 30 ∨ op = 31 ∨ op = 33 ∨ op = 37
  · rcases h with rfl | rfl | rfl | rfl | rfl | rfl | rfl
    all_goals
      go_enter Tryz.func138, Tryz.ntmps138
      go_wp2
      go_ret2
      exact ⟨rfl, rfl⟩
  · have e1 : (op == 15) = false := by simp; omega
    have e2 : (op == 17) = false := by simp; omega
    have e3 : (op == 18) = false := by simp; omega
    have e4 : (op == 30) = false := by simp; omega
    have e5 : (op == 31) = false := by simp; omega
    have e6 : (op == 33) = false := by simp; omega
    have e7 : (op == 37) = false := by simp; omega
    have E := ihid (show lowS op = -16384 ∧ highS op = 16383 from ⟨by unfold lowS; repeat (rw [if_neg (by omega)]), by unfold highS; repeat (rw [if_neg (by omega)])⟩)
    clear h
    go_enter Tryz.func138, Tryz.ntmps138
    go_wp2
    go_ret2
    exact ⟨iret2 E.out.1.symm E.out.2.symm, rfl⟩
theorem low_of {op : Int} (h : kindS op = 1 ∨ kindS op = 2 ∨ kindS op = 6 ∨ kindS op = 10 ∨ kindS op = 12) : (op ≠ 15 ∧ op ≠ 17 ∧ op ≠ 18 ∧ op ≠ 30 ∧ op ≠ 31 ∧ op ≠ 33 ∧ op ≠ 37) ∧ lowS op = -16384 ∧ highS op = 16383 := by
  have hn : op ≠ 15 ∧ op ≠ 17 ∧ op ≠ 18 ∧ op ≠ 30 ∧ op ≠ 31 ∧ op ≠ 33 ∧ op ≠ 37 := by
    refine ⟨?_, ?_, ?_, ?_, ?_, ?_, ?_⟩ <;> (intro e; subst e; simp [kindS] at h)
  exact ⟨hn, by unfold lowS; repeat (rw [if_neg (by omega)]), by unfold highS; repeat (rw [if_neg (by omega)])⟩
theorem may_below (w : World) (a b : Obj) : Below w.heap.size w ((w.alloc a).alloc b) := ((Below.refl _ _).alloc (Nat.le_refl _) _).alloc (by simp) _
theorem may_below2 (w : World) (a b : Obj) : Below w.heap.size w ((w.alloc a).alloc b).drew := (may_below w a b).drew
end Go.Proofs.YtgdebchbdmogcaaGreatDoor
