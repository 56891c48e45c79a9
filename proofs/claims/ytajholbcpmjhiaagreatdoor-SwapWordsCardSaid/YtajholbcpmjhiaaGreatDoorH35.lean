/- Several texts in one: SwapSpec. -/
import Derived.Test.YtajholbcpmjhiaaGreatDoorH01
import Derived.Test.YtajholbcpmjhiaaGreatDoorH02
import Derived.Test.YtajholbcpmjhiaaGreatDoorH05
import Derived.Test.YtajholbcpmjhiaaGreatDoorH06
import Derived.Test.YtajholbcpmjhiaaGreatDoorH07
import Derived.Test.YtajholbcpmjhiaaGreatDoorH08
import Derived.Test.YtajholbcpmjhiaaGreatDoorH09
import Derived.Test.YtajholbcpmjhiaaGreatDoorH10
import Derived.WalkKit
import Derived.Test.YtajholbcpmjhiaaGreatDoorProg
import Derived.WalkSpells
import Derived.WalkLawsBesides
import Derived.RegionTactic
import Derived.Outline
import Derived.BigRegion
import Derived.ChangeAlike
import Derived.Deep.QuietTactic
import Derived.BigQuiet
import Derived.StillTailTactics
import Derived.Laws.AppendOwn
import Derived.Below
import Derived.Maps.OwnSet
import Derived.Maps.Views
import Derived.Laws.AppendOwnNone
import Derived.Handy
import Derived.WalkArith
import Derived.OneCell
import Derived.ArgAppend
import Derived.Lib.SliceRun
/- What swap's handlers are: plain lists of instructions. No program in sight. (Printed by genswap2.py.) -/
namespace Go.Proofs.YtajholbcpmjhiaaGreatDoor
open Go.RowKit
set_option linter.unusedVariables false
set_option linter.unusedSimpArgs false
def nmEnd : List UInt8 := [101, 110, 100]
def nmYield : List UInt8 := [121, 105, 101, 108, 100]
def nmYieldEach : List UInt8 := [121, 105, 101, 108, 100, 46, 101, 97, 99, 104]
def nmYieldIn : List UInt8 := [121, 105, 101, 108, 100, 46, 105, 110]
def nmSwap : List UInt8 := [115, 119, 97, 112]
def nmSwapCount : List UInt8 := [115, 119, 97, 112, 46, 99, 111, 117, 110, 116]
def nmSwapEach : List UInt8 := [115, 119, 97, 112, 46, 101, 97, 99, 104]
def nmSwapNot : List UInt8 := [115, 119, 97, 112, 46, 110, 111, 116]
def nmSwapIt : List UInt8 := [115, 119, 97, 112, 46, 105, 116]
def nmSwapIn : List UInt8 := [115, 119, 97, 112, 46, 105, 110]
def Bs.window (s : Bs) (r : Int) : Bs := s.put [bothI 6 2 5 r, ⟨27, 0, 2, 0, false, 0⟩]
def Bs.next (s : Bs) (nw : Nat) (nm : List UInt8) : Bs := (((s.put [aluI 0 4 4 1, cmpI 4 nw]).jump 2 nm).put [aluI 0 4 0 0]).mark nm
def Bs.flush (s : Bs) (nw : Nat) : Bs := (((((((s.put [⟨28, 1, 0, 0, false, 0⟩, ⟨26, 3, 0, 0, false, 0⟩, aluI 5 4 3 31, aluI 0 6 4 0, aluI 5 5 3 (-32)]).mark nmYieldEach).window 4).each 23 16).next nw nmYieldIn).put [bothI 9 2 1 4, aluI 5 2 2 1, cmpI 2 1]).jump 2 nmYieldEach).window 6
def Bs.keep (s : Bs) : Bs := s.put [ldI 1 0 128, aluI 8 1 1 4, ⟨30, 2, 0, 0, true, 0⟩, stI 2 1 64, stI 14 1 68]
def Bs.choose (s : Bs) : Bs := ((((((((((((((s.put [⟨34, 1, 0, 0, false, 0⟩, ldI 3 0 132, aluI 0 2 0 0, aluI 0 4 0 0]).mark nmSwapCount).put [aluI 8 5 4 4, ldI 5 5 76, bothI 0 2 2 5, aluI 0 4 4 1, ⟨16, 0, 4, 3, false, 0⟩]).jump 2 nmSwapCount).put [aluI 9 5 1 16, bothI 4 5 5 2, aluI 8 5 5 16, aluI 8 1 1 16, aluI 9 1 1 16, bothI 0 1 1 5, bothI 4 1 1 2, aluI 0 4 0 0]).mark nmSwapEach).put [aluI 8 5 4 4, ldI 6 5 76, cmpI 6 1]).jump 2 nmSwapNot).put [cmpI 1 0]).jump 1 nmSwapIt).put [aluI 1 1 1 1]).mark nmSwapNot).put [aluI 0 4 4 1]).jump 0 nmSwapEach).mark nmSwapIt
def Bs.resume (s : Bs) (nw : Nat) : Bs := ((((s.put [stI 4 0 128, ldI 1 5 72, stI 1 0 136, ldI 1 5 64, ⟨31, 0, 1, 0, true, 0⟩, ldI 14 5 68, ⟨26, 3, 0, 0, false, 0⟩, aluI 5 4 3 31]).next nw nmSwapIn).put [aluI 0 1 0 1, bothI 8 1 1 4, ⟨29, 0, 1, 0, false, 0⟩]).each 22 16).put [⟨32, 0, 0, 0, false, 0⟩]
def Bs.swap (s : Bs) (nw : Nat) : Bs := ((((((((s.mark nmEnd).put [ldI 1 0 128, aluI 8 1 1 4, stI 0 1 76]).jump 0 nmSwap).mark nmYield).flush nw).keep).mark nmSwap).choose).resume nw
/-- The marks' names. -/
def names (M : List (List UInt8 × Int)) : List (List UInt8) := M.map (·.1)
theorem look_names {M : List (List UInt8 × Int)} {nm : List UInt8} (h : nm ∉ names M) : look M nm = none := by
  unfold look
  rw [List.find?_eq_none.2 (fun e he => by
    intro hh
    exact h (List.mem_map.2 ⟨e, he, eq_of_beq hh⟩))]
  rfl
theorem names_mark (s : Bs) (nm : List UInt8) : names (s.mark nm).M = names s.M ++ [nm] := by
  show List.map Prod.fst (s.M ++ [(nm, (s.L.length : Int))]) = _
  rw [List.map_append]; rfl
theorem names_put (s : Bs) (l : List Ix) : names (s.put l).M = names s.M := rfl
theorem names_jump (s : Bs) (c : Int) (nm : List UInt8) : names (s.jump c nm).M = names s.M := rfl
theorem names_each (s : Bs) (op : Int) (n : Nat) : names (s.each op n).M = names s.M := by rw [Bs.each_M]
theorem len_mark (s : Bs) (nm : List UInt8) : (s.mark nm).L.length = s.L.length := rfl
theorem len_jump (s : Bs) (c : Int) (nm : List UInt8) : (s.jump c nm).L.length = s.L.length + 1 := by show (_ ++ [_]).length = _; simp
theorem names_window (s : Bs) (r : Int) : names (s.window r).M = names s.M := rfl
theorem len_window (s : Bs) (r : Int) : (s.window r).L.length = s.L.length + 2 := Bs.put_len _ _
theorem names_next (s : Bs) (nw : Nat) (nm : List UInt8) : names (s.next nw nm).M = names s.M ++ [nm] := names_mark _ _
theorem len_next (s : Bs) (nw : Nat) (nm : List UInt8) : (s.next nw nm).L.length = s.L.length + 4 := by
  unfold Bs.next
  rw [len_mark, Bs.put_len, len_jump, Bs.put_len]
  rfl
theorem names_flush (s : Bs) (nw : Nat) : names (s.flush nw).M = names s.M ++ [nmYieldEach, nmYieldIn] := by
  unfold Bs.flush
  simp [names_mark, names_put, names_jump, names_each, names_window, names_next]
theorem len_flush (s : Bs) (nw : Nat) : (s.flush nw).L.length = s.L.length + 33 := by
  unfold Bs.flush
  simp [len_mark, Bs.put_len, len_jump, Bs.each_len, len_window, len_next]
theorem names_keep (s : Bs) : names (s.keep).M = names s.M := by
  unfold Bs.keep
  simp [names_mark, names_put, names_jump, names_each, names_window, names_next]
theorem len_keep (s : Bs) : (s.keep).L.length = s.L.length + 5 := by
  unfold Bs.keep
  simp [len_mark, Bs.put_len, len_jump, Bs.each_len, len_window, len_next]
theorem names_choose (s : Bs) : names (s.choose).M = names s.M ++ [nmSwapCount, nmSwapEach, nmSwapNot, nmSwapIt] := by
  unfold Bs.choose
  simp [names_mark, names_put, names_jump, names_each, names_window, names_next]
theorem len_choose (s : Bs) : (s.choose).L.length = s.L.length + 27 := by
  unfold Bs.choose
  simp [len_mark, Bs.put_len, len_jump, Bs.each_len, len_window, len_next]
theorem names_resume (s : Bs) (nw : Nat) : names (s.resume nw).M = names s.M ++ [nmSwapIn] := by
  unfold Bs.resume
  simp [names_mark, names_put, names_jump, names_each, names_window, names_next]
theorem len_resume (s : Bs) (nw : Nat) : (s.resume nw).L.length = s.L.length + 32 := by
  unfold Bs.resume
  simp [len_mark, Bs.put_len, len_jump, Bs.each_len, len_window, len_next]
theorem len_swap (s : Bs) (nw : Nat) : (s.swap nw).L.length = s.L.length + 101 := by
  unfold Bs.swap
  simp [len_mark, Bs.put_len, len_jump, Bs.each_len, len_window, len_next, len_flush, len_keep, len_choose, len_resume]
theorem next_ok : ∀ nw : Nat, nw < 33 → allI [aluI 0 4 4 1, cmpI 4 nw] := by decide
theorem lit_ok0 : allI [⟨28, 1, 0, 0, false, 0⟩, ⟨26, 3, 0, 0, false, 0⟩, aluI 5 4 3 31, aluI 0 6 4 0, aluI 5 5 3 (-32)] := by decide
theorem lit_ok1 : allI [bothI 9 2 1 4, aluI 5 2 2 1, cmpI 2 1] := by decide
theorem lit_ok2 : allI [ldI 1 0 128, aluI 8 1 1 4, ⟨30, 2, 0, 0, true, 0⟩, stI 2 1 64, stI 14 1 68] := by decide
theorem lit_ok3 : allI [⟨34, 1, 0, 0, false, 0⟩, ldI 3 0 132, aluI 0 2 0 0, aluI 0 4 0 0] := by decide
theorem lit_ok4 : allI [aluI 8 5 4 4, ldI 5 5 76, bothI 0 2 2 5, aluI 0 4 4 1, ⟨16, 0, 4, 3, false, 0⟩] := by decide
theorem lit_ok5 : allI [aluI 9 5 1 16, bothI 4 5 5 2, aluI 8 5 5 16, aluI 8 1 1 16, aluI 9 1 1 16, bothI 0 1 1 5, bothI 4 1 1 2, aluI 0 4 0 0] := by decide
theorem lit_ok6 : allI [aluI 8 5 4 4, ldI 6 5 76, cmpI 6 1] := by decide
theorem lit_ok7 : allI [cmpI 1 0] := by decide
theorem lit_ok8 : allI [aluI 1 1 1 1] := by decide
theorem lit_ok9 : allI [aluI 0 4 4 1] := by decide
theorem lit_ok10 : allI [stI 4 0 128, ldI 1 5 72, stI 1 0 136, ldI 1 5 64, ⟨31, 0, 1, 0, true, 0⟩, ldI 14 5 68, ⟨26, 3, 0, 0, false, 0⟩, aluI 5 4 3 31] := by decide
theorem lit_ok11 : allI [aluI 0 1 0 1, bothI 8 1 1 4, ⟨29, 0, 1, 0, false, 0⟩] := by decide
theorem lit_ok12 : allI [⟨32, 0, 0, 0, false, 0⟩] := by decide
theorem lit_ok13 : allI [ldI 1 0 128, aluI 8 1 1 4, stI 0 1 76] := by decide
theorem lit_okA : allI [aluI 0 4 0 0] := by decide
theorem lit_okW : ∀ r : Int, (r = 4 ∨ r = 6) → allI [bothI 6 2 5 r, ⟨27, 0, 2, 0, false, 0⟩] := by
  intro r h
  rcases h with rfl | rfl <;> decide
end Go.Proofs.YtajholbcpmjhiaaGreatDoor
