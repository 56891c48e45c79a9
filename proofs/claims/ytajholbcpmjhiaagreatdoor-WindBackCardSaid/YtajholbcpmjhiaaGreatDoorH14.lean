/- Several texts in one: WindFine. -/
import Derived.Test.YtajholbcpmjhiaaGreatDoorH01
import Derived.Test.YtajholbcpmjhiaaGreatDoorH02
import Derived.Test.YtajholbcpmjhiaaGreatDoorH03
import Derived.Test.YtajholbcpmjhiaaGreatDoorH04
import Derived.Test.YtajholbcpmjhiaaGreatDoorH05
import Derived.Test.YtajholbcpmjhiaaGreatDoorH06
import Derived.Test.YtajholbcpmjhiaaGreatDoorH07
import Derived.Test.YtajholbcpmjhiaaGreatDoorH08
import Derived.Test.YtajholbcpmjhiaaGreatDoorH09
import Derived.Test.YtajholbcpmjhiaaGreatDoorH10
import Derived.Test.YtajholbcpmjhiaaGreatDoorH11
import Derived.Test.YtajholbcpmjhiaaGreatDoorH12
import Derived.Test.YtajholbcpmjhiaaGreatDoorH13
import Derived.WalkKit
import Derived.Laws.AppendOwn
import Derived.Below
import Derived.Deep.QuietTactic
import Derived.BigQuiet
import Derived.WalkSpells
import Derived.Test.YtajholbcpmjhiaaGreatDoorProg
import Derived.Handy
import Derived.WalkLawsBesides
import Derived.RegionTactic
import Derived.Outline
import Derived.Lib.BitFns
import Derived.StillTailTactics
import Derived.BigRegion
import Derived.ChangeAlike
import Derived.Maps.OwnSet
import Derived.Maps.Views
import Derived.Laws.AppendOwnNone
import Derived.WalkArith
import Derived.OneCell
import Derived.ArgAppend
import Derived.Lib.SliceRun
import Derived.Laws.Rows
import Derived.IntWalk
import Derived.Laws.CopyOwn
import Derived.Great.Ranges
/- The two handlers of window traps, as words: reckoned for every number of windows. No walk. -/
namespace Go.Proofs.YtajholbcpmjhiaaGreatDoor
open Go.RowKit
set_option linter.unusedVariables false
set_option linter.unusedSimpArgs false
def asm0 : Bs := ⟨[], []⟩
def windS (nw : Nat) : Bs := (asm0.over nw).under nw
def windI (nw : Nat) : List Ix := overL nw ++ underL nw
def windFine (nw : Nat) : Bool :=
  decide (wordsE (windS nw).M 0 (windS nw).L = 0) && decide (wordsL (windS nw).M 0 (windS nw).L = (windI nw).map encS) && (windI nw).all (fun x => decide (okI x)) && decide (atN (windS nw).M ⟨nmUnder.toArray⟩ = (overL nw).length) && decide (atE (windS nw).M ⟨nmUnder.toArray⟩ = 0) && (windS nw).M.all (fun e => decide (0 ≤ e.2 ∧ e.2 < 1000)) && decide ((windI nw).length ≤ 80) && (look (asm0.over nw).M nmUnder).isNone && (look (asm0.over nw).M nmUnderIn).isNone && decide ((asm0.over nw).M.length ≤ 10 ∧ (asm0.over nw).L.length ≤ 100 ∧ (windS nw).L.length ≤ 100)
theorem wind_fine2 : windFine 2 = true := by kernel_rfl
theorem wind_fine3 : windFine 3 = true := by kernel_rfl
theorem wind_fine4 : windFine 4 = true := by kernel_rfl
theorem wind_fine5 : windFine 5 = true := by kernel_rfl
theorem wind_fine6 : windFine 6 = true := by kernel_rfl
theorem wind_fine7 : windFine 7 = true := by kernel_rfl
theorem wind_fine8 : windFine 8 = true := by kernel_rfl
theorem wind_fine9 : windFine 9 = true := by kernel_rfl
theorem wind_fine10 : windFine 10 = true := by kernel_rfl
theorem wind_fine11 : windFine 11 = true := by kernel_rfl
theorem wind_fine12 : windFine 12 = true := by kernel_rfl
theorem wind_fine13 : windFine 13 = true := by kernel_rfl
theorem wind_fine14 : windFine 14 = true := by kernel_rfl
theorem wind_fine15 : windFine 15 = true := by kernel_rfl
theorem wind_fine16 : windFine 16 = true := by kernel_rfl
theorem wind_fine17 : windFine 17 = true := by kernel_rfl
theorem wind_fine18 : windFine 18 = true := by kernel_rfl
theorem wind_fine19 : windFine 19 = true := by kernel_rfl
theorem wind_fine20 : windFine 20 = true := by kernel_rfl
theorem wind_fine21 : windFine 21 = true := by kernel_rfl
theorem wind_fine22 : windFine 22 = true := by kernel_rfl
theorem wind_fine23 : windFine 23 = true := by kernel_rfl
theorem wind_fine24 : windFine 24 = true := by kernel_rfl
theorem wind_fine25 : windFine 25 = true := by kernel_rfl
theorem wind_fine26 : windFine 26 = true := by kernel_rfl
theorem wind_fine27 : windFine 27 = true := by kernel_rfl
theorem wind_fine28 : windFine 28 = true := by kernel_rfl
theorem wind_fine29 : windFine 29 = true := by kernel_rfl
theorem wind_fine30 : windFine 30 = true := by kernel_rfl
theorem wind_fine31 : windFine 31 = true := by kernel_rfl
theorem wind_fine32 : windFine 32 = true := by kernel_rfl
theorem wind_fine : ∀ {nw : Nat}, 2 ≤ nw → nw ≤ 32 → windFine nw = true
  | 2, _, _ => wind_fine2
  | 3, _, _ => wind_fine3
  | 4, _, _ => wind_fine4
  | 5, _, _ => wind_fine5
  | 6, _, _ => wind_fine6
  | 7, _, _ => wind_fine7
  | 8, _, _ => wind_fine8
  | 9, _, _ => wind_fine9
  | 10, _, _ => wind_fine10
  | 11, _, _ => wind_fine11
  | 12, _, _ => wind_fine12
  | 13, _, _ => wind_fine13
  | 14, _, _ => wind_fine14
  | 15, _, _ => wind_fine15
  | 16, _, _ => wind_fine16
  | 17, _, _ => wind_fine17
  | 18, _, _ => wind_fine18
  | 19, _, _ => wind_fine19
  | 20, _, _ => wind_fine20
  | 21, _, _ => wind_fine21
  | 22, _, _ => wind_fine22
  | 23, _, _ => wind_fine23
  | 24, _, _ => wind_fine24
  | 25, _, _ => wind_fine25
  | 26, _, _ => wind_fine26
  | 27, _, _ => wind_fine27
  | 28, _, _ => wind_fine28
  | 29, _, _ => wind_fine29
  | 30, _, _ => wind_fine30
  | 31, _, _ => wind_fine31
  | 32, _, _ => wind_fine32
  | 0, h, _ => absurd h (by omega)
  | 1, h, _ => absurd h (by omega)
  | n + 33, _, h => absurd h (by omega)
structure WindIs (nw : Nat) : Prop where
  e : wordsE (windS nw).M 0 (windS nw).L = 0
  l : wordsL (windS nw).M 0 (windS nw).L = (windI nw).map encS
  ok : ∀ x ∈ windI nw, okI x
  at' : atN (windS nw).M ⟨nmUnder.toArray⟩ = (overL nw).length
  ae : atE (windS nw).M ⟨nmUnder.toArray⟩ = 0
  m : ∀ e ∈ (windS nw).M, 0 ≤ e.2 ∧ e.2 < 1000
  n : (windI nw).length ≤ 80
  u1 : look (asm0.over nw).M nmUnder = none
  u2 : look (asm0.over nw).M nmUnderIn = none
  z : (asm0.over nw).M.length ≤ 10 ∧ (asm0.over nw).L.length ≤ 100 ∧ (windS nw).L.length ≤ 100
theorem wind_is {nw : Nat} (h2 : 2 ≤ nw) (h32 : nw ≤ 32) : WindIs nw := by
  have h := wind_fine h2 h32
  unfold windFine at h
  simp only [Bool.and_eq_true, decide_eq_true_eq, List.all_eq_true, Option.isNone_iff_eq_none] at h
  obtain ⟨⟨⟨⟨⟨⟨⟨⟨⟨a, b⟩, c⟩, d⟩, e⟩, f⟩, g⟩, u⟩, v⟩, z⟩ := h
  exact ⟨a, b, c, d, e, f, g, u, v, z⟩
end Go.Proofs.YtajholbcpmjhiaaGreatDoor
