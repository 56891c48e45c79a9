/- Several texts in one: HandOps, WindLaw. -/
import Derived.Test.YtajholbcpmjhiaaGreatDoorH01
import Derived.Test.YtajholbcpmjhiaaGreatDoorH02
import Derived.Test.YtajholbcpmjhiaaGreatDoorH03
import Derived.Test.YtajholbcpmjhiaaGreatDoorH04
import Derived.Test.YtajholbcpmjhiaaGreatDoorH05
import Derived.Test.YtajholbcpmjhiaaGreatDoorH06
import Derived.Test.YtajholbcpmjhiaaGreatDoorH07
import Derived.Test.YtajholbcpmjhiaaGreatDoorH08
import Derived.Test.YtajholbcpmjhiaaGreatDoorH09
import Derived.Test.YtajholbcpmjhiaaGreatDoorH10
import Derived.Test.YtajholbcpmjhiaaGreatDoorH11
import Derived.WalkKit
import Derived.Laws.AppendOwn
import Derived.Below
import Derived.Deep.QuietTactic
import Derived.BigQuiet
import Derived.WalkSpells
import Derived.Test.YtajholbcpmjhiaaGreatDoorProg
import Derived.Handy
import Derived.WalkLawsBesides
import Derived.RegionTactic
import Derived.Outline
import Derived.Lib.BitFns
import Derived.StillTailTactics
import Derived.BigRegion
import Derived.ChangeAlike
import Derived.Maps.OwnSet
import Derived.Maps.Views
import Derived.Laws.AppendOwnNone
import Derived.WalkArith
import Derived.OneCell
import Derived.ArgAppend
import Derived.Lib.SliceRun
import Derived.Laws.Rows
import Derived.IntWalk
import Derived.Laws.CopyOwn
import Derived.Great.Ranges
/- Plain law: a handler's instructions, each in its own words. No program in sight. -/
namespace Go.Proofs.YtajholbcpmjhiaaGreatDoor
open Go.RowKit
set_option linter.unusedVariables false
set_option linter.unusedSimpArgs false
def gr (g : List Int) (r : Nat) : Int := if r = 0 then 0 else g.getD r 0
theorem rg_low {E : He} {s : Hn} {r : Nat} (h : r < 8) : rg E s r = gr s.g r := by
  unfold rg gr
  by_cases h0 : r = 0
  · rw [if_pos h0, if_pos h0]
  · rw [if_neg h0, if_neg h0, if_pos h]
theorem sr_low {E : He} {s : Hn} {r : Nat} (h0 : 1 ≤ r) (h : r < 8) (x : Int) : sr E s r x = { s with g := s.g.set r x } := by
  unfold sr; rw [if_neg (by omega), if_pos h]
section
variable {E : He} {k : Nat} {s' : Hn} {win g mem tpc ch : List Int} {i cwp : Nat} {wim fl : Int}
theorem Hp.alui (op rd rs : Nat) (n : Int) {v : Int} (hx : E.L[i]? = some (aluI op rd rs n)) (ho : op < 14) (hd0 : 1 ≤ rd) (hd : rd < 8) (hs : rs < 8) (hb : doB op (u32 n) = true) (hv : doW op (gr g rs) (u32 n) = v) (h : Hp E k ⟨win, g.set rd v, mem, i + 1, wim, cwp, fl, tpc, ch⟩ s') :
    Hp E (k + 1) ⟨win, g, mem, i, wim, cwp, fl, tpc, ch⟩ s' := by
  have e : ((1 : Int) + (op : Int) - 1).toNat = op := by omega
  refine Hp.step hx ?_ ?_ h
  · unfold okx aluI; simp only; rw [if_pos (by omega), if_pos trivial, e]; exact ⟨by omega, hb⟩
  · unfold ex aluI; simp only; rw [if_pos (by omega), if_pos trivial, e, Int.toNat_natCast, Int.toNat_natCast, sr_low hd0 hd, rg_low hs, hv]; rfl
theorem Hp.both (op rd a b : Nat) {v : Int} (hx : E.L[i]? = some (bothI op rd a b)) (ho : op < 14) (hd0 : 1 ≤ rd) (hd : rd < 8) (ha : a < 8) (hb' : b < 8) (hb : doB op (gr g b) = true) (hv : doW op (gr g a) (gr g b) = v) (h : Hp E k ⟨win, g.set rd v, mem, i + 1, wim, cwp, fl, tpc, ch⟩ s') :
    Hp E (k + 1) ⟨win, g, mem, i, wim, cwp, fl, tpc, ch⟩ s' := by
  have e : ((1 : Int) + (op : Int) - 1).toNat = op := by omega
  refine Hp.step hx ?_ ?_ h
  · unfold okx bothI; simp only; rw [if_pos (by omega), if_neg (by decide), e, Int.toNat_natCast, rg_low hb']; exact ⟨by omega, hb⟩
  · unfold ex bothI; simp only; rw [if_pos (by omega), if_neg (by decide), e, Int.toNat_natCast, Int.toNat_natCast, Int.toNat_natCast, sr_low hd0 hd, rg_low ha, rg_low hb', hv]; rfl
theorem Hp.sethi (rd : Nat) (n : Int) {v : Int} (hx : E.L[i]? = some ⟨15, rd, 0, 0, true, n⟩) (hd0 : 1 ≤ rd) (hd : rd < 8) (hv : u32 (u32 n * 2048) = v) (h : Hp E k ⟨win, g.set rd v, mem, i + 1, wim, cwp, fl, tpc, ch⟩ s') :
    Hp E (k + 1) ⟨win, g, mem, i, wim, cwp, fl, tpc, ch⟩ s' := by
  refine Hp.step hx ?_ ?_ h
  · unfold okx; simp only; rw [if_neg (by decide), if_pos (by decide)]; trivial
  · unfold ex; simp only; rw [if_neg (by decide), if_pos (by decide), if_pos trivial, Int.toNat_natCast, sr_low hd0 hd, hv]; rfl
theorem Hp.cmpi (rs : Nat) (n : Int) {v : Int} (hx : E.L[i]? = some ⟨16, 0, rs, 0, true, n⟩) (hs : rs < 8) (hv : flagsS (gr g rs) (u32 n) = v) (h : Hp E k ⟨win, g, mem, i + 1, wim, cwp, v, tpc, ch⟩ s') :
    Hp E (k + 1) ⟨win, g, mem, i, wim, cwp, fl, tpc, ch⟩ s' := by
  refine Hp.step hx ?_ ?_ h
  · unfold okx; simp only; rw [if_neg (by decide), if_neg (by decide), if_pos (by decide)]; trivial
  · unfold ex; simp only; rw [if_neg (by decide), if_neg (by decide), if_pos (by decide), if_pos trivial, Int.toNat_natCast, rg_low hs, hv]; rfl
theorem Hp.jump (c : Nat) (n : Int) {j : Nat} (hx : E.L[i]? = some ⟨17, c, 0, 0, true, n⟩) (hh : holdsS c fl = true) (hj : (i : Int) + n = j) (hl : j ≤ E.L.length) (h : Hp E k ⟨win, g, mem, j, wim, cwp, fl, tpc, ch⟩ s') :
    Hp E (k + 1) ⟨win, g, mem, i, wim, cwp, fl, tpc, ch⟩ s' := by
  refine Hp.step hx ?_ ?_ h
  · unfold okx; simp only; rw [if_neg (by decide), if_neg (by decide), if_neg (by decide), if_pos (by decide), hj]; exact ⟨trivial, by omega, by omega⟩
  · unfold ex; simp only; rw [if_neg (by decide), if_neg (by decide), if_neg (by decide), if_pos (by decide), Int.toNat_natCast, if_pos hh, hj, Int.toNat_natCast]
theorem Hp.stay (c : Nat) (n : Int) (hx : E.L[i]? = some ⟨17, c, 0, 0, true, n⟩) (hh : holdsS c fl = false) (hj : 0 ≤ (i : Int) + n) (hl : (i : Int) + n ≤ E.L.length) (h : Hp E k ⟨win, g, mem, i + 1, wim, cwp, fl, tpc, ch⟩ s') :
    Hp E (k + 1) ⟨win, g, mem, i, wim, cwp, fl, tpc, ch⟩ s' := by
  refine Hp.step hx ?_ ?_ h
  · unfold okx; simp only; rw [if_neg (by decide), if_neg (by decide), if_neg (by decide), if_pos (by decide)]; exact ⟨trivial, hj, hl⟩
  · unfold ex; simp only; rw [if_neg (by decide), if_neg (by decide), if_neg (by decide), if_pos (by decide), Int.toNat_natCast, hh, if_neg (by decide)]; rfl
theorem Hp.st (rd rs : Nat) (n : Int) {A : Nat} {v : Int} (hx : E.L[i]? = some (stI rd rs n)) (hs : rs < 8) (hA : u32 (gr g rs + u32 n) = A) (ha : addrOk mem A) (hfar : A + 4 ≤ E.lo ∨ E.lo + 4 * E.L.length ≤ A) (hv : rg E ⟨win, g, mem, i, wim, cwp, fl, tpc, ch⟩ rd = v) (h : Hp E k ⟨win, g, storeS mem A 4 v, i + 1, wim, cwp, fl, tpc, ch⟩ s') :
    Hp E (k + 1) ⟨win, g, mem, i, wim, cwp, fl, tpc, ch⟩ s' := by
  refine Hp.step hx ?_ ?_ h
  · unfold okx stI; simp only; rw [if_neg (by decide), if_neg (by decide), if_neg (by decide), if_neg (by decide), if_neg (by decide), if_pos (by decide), if_pos trivial, Int.toNat_natCast, rg_low hs, hA]; exact ⟨ha, by omega⟩
  · unfold ex stI; simp only; rw [if_neg (by decide), if_neg (by decide), if_neg (by decide), if_neg (by decide), if_neg (by decide), if_pos (by decide), if_pos trivial, Int.toNat_natCast, Int.toNat_natCast, rg_low hs, hA, Int.toNat_natCast, hv]; rfl
theorem Hp.rdpsr (rd : Nat) {v : Int} (hx : E.L[i]? = some ⟨26, rd, 0, 0, false, 0⟩) (hd0 : 1 ≤ rd) (hd : rd < 8) (hv : packW ⟨cwp, E.pil, 16, fl⟩ = v) (h : Hp E k ⟨win, g.set rd v, mem, i + 1, wim, cwp, fl, tpc, ch⟩ s') :
    Hp E (k + 1) ⟨win, g, mem, i, wim, cwp, fl, tpc, ch⟩ s' := by
  refine Hp.step hx ?_ ?_ h
  · unfold okx; simp only; rw [if_neg (by decide), if_neg (by decide), if_neg (by decide), if_neg (by decide), if_neg (by decide), if_neg (by decide), if_pos (by decide)]; trivial
  · unfold ex; simp only; rw [if_neg (by decide), if_neg (by decide), if_neg (by decide), if_neg (by decide), if_neg (by decide), if_neg (by decide), if_pos (by decide), Int.toNat_natCast, sr_low hd0 hd, hv]; rfl
/-- A state's word with another window is written. -/
theorem Hp.wrpsr (rs : Nat) {c : Nat} {f : Int} (hx : E.L[i]? = some ⟨27, 0, rs, 0, false, 0⟩) (hs : rs < 8) (hv : gr g rs = packW ⟨c, E.pil, 16, f⟩) (hc : c < E.nw) (hnw : E.nw ≤ 32) (hp : 0 ≤ E.pil ∧ E.pil < 16) (hf : 0 ≤ f ∧ f < 16) (h : Hp E k ⟨win, g, mem, i + 1, wim, c, f, tpc, ch⟩ s') :
    Hp E (k + 1) ⟨win, g, mem, i, wim, cwp, fl, tpc, ch⟩ s' := by
  have e : u32 (gr g rs + (0 : Int)) = packW ⟨c, E.pil, 16, f⟩ := by rw [hv]; unfold packW u32; simp only; omega
  have e2 : rg E ⟨win, g, mem, i, wim, cwp, fl, tpc, ch⟩ 0 = 0 := rfl
  refine Hp.step hx ?_ ?_ h
  · unfold okx; simp only; rw [if_neg (by decide), if_neg (by decide), if_neg (by decide), if_neg (by decide), if_neg (by decide), if_neg (by decide), if_neg (by decide), if_pos (by decide), if_neg (by decide), Int.toNat_natCast, rg_low hs, show (0 : Int).toNat = 0 from rfl, e2, e]
    unfold packW; simp only; omega
  · unfold ex; simp only; rw [if_neg (by decide), if_neg (by decide), if_neg (by decide), if_neg (by decide), if_neg (by decide), if_neg (by decide), if_neg (by decide), if_pos (by decide), if_neg (by decide), Int.toNat_natCast, rg_low hs, show (0 : Int).toNat = 0 from rfl, e2, e]
    have h1 : (packW ⟨(c : Int), E.pil, 16, f⟩ % 32).toNat = c := by unfold packW; simp only; omega
    have h2 : packW ⟨(c : Int), E.pil, 16, f⟩ / 16384 % 16 = f := by unfold packW; simp only; omega
    rw [h1, h2]; rfl
theorem Hp.rdwim (rd : Nat) (hx : E.L[i]? = some ⟨28, rd, 0, 0, false, 0⟩) (hd0 : 1 ≤ rd) (hd : rd < 8) (h : Hp E k ⟨win, g.set rd wim, mem, i + 1, wim, cwp, fl, tpc, ch⟩ s') :
    Hp E (k + 1) ⟨win, g, mem, i, wim, cwp, fl, tpc, ch⟩ s' := by
  refine Hp.step hx ?_ ?_ h
  · unfold okx; simp only; rw [if_neg (by decide), if_neg (by decide), if_neg (by decide), if_neg (by decide), if_neg (by decide), if_neg (by decide), if_neg (by decide), if_neg (by decide), if_pos (by decide)]; trivial
  · unfold ex; simp only; rw [if_neg (by decide), if_neg (by decide), if_neg (by decide), if_neg (by decide), if_neg (by decide), if_neg (by decide), if_neg (by decide), if_neg (by decide), if_pos (by decide), Int.toNat_natCast, sr_low hd0 hd]; rfl
theorem Hp.wrwim (rs : Nat) {v : Int} (hx : E.L[i]? = some ⟨29, 0, rs, 0, false, 0⟩) (hs : rs < 8) (hv : gr g rs = v) (hv0 : 0 ≤ v) (hv1 : v < 4294967296) (hi : invE v E.nw = 0) (h : Hp E k ⟨win, g, mem, i + 1, v, cwp, fl, tpc, ch⟩ s') :
    Hp E (k + 1) ⟨win, g, mem, i, wim, cwp, fl, tpc, ch⟩ s' := by
  have e : u32 (gr g rs + (0 : Int)) = v := by rw [hv]; unfold u32; omega
  have e2 : rg E ⟨win, g, mem, i, wim, cwp, fl, tpc, ch⟩ 0 = 0 := rfl
  refine Hp.step hx ?_ ?_ h
  · unfold okx; simp only; rw [if_neg (by decide), if_neg (by decide), if_neg (by decide), if_neg (by decide), if_neg (by decide), if_neg (by decide), if_neg (by decide), if_neg (by decide), if_neg (by decide), if_pos (by decide), if_neg (by decide), Int.toNat_natCast, rg_low hs, show (0 : Int).toNat = 0 from rfl, e2, e]; exact hi
  · unfold ex; simp only; rw [if_neg (by decide), if_neg (by decide), if_neg (by decide), if_neg (by decide), if_neg (by decide), if_neg (by decide), if_neg (by decide), if_neg (by decide), if_neg (by decide), if_pos (by decide), if_neg (by decide), Int.toNat_natCast, rg_low hs, show (0 : Int).toNat = 0 from rfl, e2, e]; rfl
/-- A register of the window at hand is stored, or loaded, in a frame. -/
theorem Hp.stf (j : Nat) {A : Nat} {v : Int} (hx : E.L[i]? = some (eachI 23 j)) (hj : j < 16) (hA : win.getD (16 * ((cwp + E.nw - 1) % E.nw) + 14) 0 = A) (ha : 64 ≤ A ∧ A % 4 = 0 ∧ A + 64 ≤ mem.length) (hm : mem.length ≤ 4194304) (hfar : A + 64 ≤ E.lo ∨ E.lo + 4 * E.L.length ≤ A) (hv : win.getD (16 * cwp + j) 0 = v) (h : Hp E k ⟨win, g, storeS mem (A + 4 * j) 4 v, i + 1, wim, cwp, fl, tpc, ch⟩ s') :
    Hp E (k + 1) ⟨win, g, mem, i, wim, cwp, fl, tpc, ch⟩ s' := by
  have e : u32 (rg E ⟨win, g, mem, i, wim, cwp, fl, tpc, ch⟩ (14 : Int).toNat + u32 (4 * (j : Int))) = ((A + 4 * j : Nat) : Int) := by
    show u32 (win.getD (16 * ((cwp + E.nw - 1) % E.nw) + 14) 0 + _) = _
    rw [hA]; unfold u32; omega
  have e3 : ((j : Int) + 16).toNat = 16 + j := by omega
  refine Hp.step hx ?_ ?_ h
  · unfold okx eachI; simp only; rw [if_neg (by decide), if_neg (by decide), if_neg (by decide), if_neg (by decide), if_neg (by decide), if_pos (by decide), if_pos trivial, e]; unfold addrOk; omega
  · unfold ex eachI; simp only; rw [if_neg (by decide), if_neg (by decide), if_neg (by decide), if_neg (by decide), if_neg (by decide), if_pos (by decide), if_pos trivial, e, Int.toNat_natCast, e3]
    have : rg E ⟨win, g, mem, i, wim, cwp, fl, tpc, ch⟩ (16 + j) = v := by
      unfold rg; rw [if_neg (by omega), if_neg (by omega), if_neg (by omega), show 16 + j - 16 = j by omega]; exact hv
    rw [this]; rfl
theorem Hp.ldf (j : Nat) {A : Nat} {v : Int} (hx : E.L[i]? = some (eachI 22 j)) (hj : j < 16) (hA : win.getD (16 * ((cwp + E.nw - 1) % E.nw) + 14) 0 = A) (ha : 64 ≤ A ∧ A % 4 = 0 ∧ A + 64 ≤ mem.length) (hm : mem.length ≤ 4194304) (hv : loadS mem (A + 4 * j) 4 = v) (h : Hp E k ⟨win.set (16 * cwp + j) v, g, mem, i + 1, wim, cwp, fl, tpc, ch⟩ s') :
    Hp E (k + 1) ⟨win, g, mem, i, wim, cwp, fl, tpc, ch⟩ s' := by
  have e : u32 (rg E ⟨win, g, mem, i, wim, cwp, fl, tpc, ch⟩ (14 : Int).toNat + u32 (4 * (j : Int))) = ((A + 4 * j : Nat) : Int) := by
    show u32 (win.getD (16 * ((cwp + E.nw - 1) % E.nw) + 14) 0 + _) = _
    rw [hA]; unfold u32; omega
  have e3 : ((j : Int) + 16).toNat = 16 + j := by omega
  refine Hp.step hx ?_ ?_ h
  · unfold okx eachI; simp only; rw [if_neg (by decide), if_neg (by decide), if_neg (by decide), if_neg (by decide), if_pos (by decide), if_pos trivial, e]; unfold addrOk; omega
  · unfold ex eachI; simp only; rw [if_neg (by decide), if_neg (by decide), if_neg (by decide), if_neg (by decide), if_pos (by decide), if_pos trivial, e, Int.toNat_natCast, e3, hv]
    unfold sr; rw [if_neg (by omega), if_neg (by omega), if_neg (by omega), show 16 + j - 16 = j by omega]; rfl
end
end Go.Proofs.YtajholbcpmjhiaaGreatDoor
/- Plain law: what the handlers of window traps do. No program in sight. -/
namespace Go.Proofs.YtajholbcpmjhiaaGreatDoor
open Go.RowKit
set_option linter.unusedVariables false
set_option linter.unusedSimpArgs false
def maskL (nw : Nat) : List Ix := if nw < 32 then partsS 1 ((2 : Int) ^ nw - 1) ++ [bothI 5 2 2 1] else []
def turnI (nw : Nat) (this that : Int) : List Ix := turnedA nw this that ++ maskL nw
def maskV (nw : Nat) (a : Int) : Int :=
  if nw < 32 then andS a (if nw < 15 then u32 (0 + u32 ((2 : Int) ^ nw - 1)) else orS (u32 (u32 (((2 : Int) ^ nw - 1) / 2048) * 2048)) (u32 (((2 : Int) ^ nw - 1) % 2048))) else a
def turnV (nw this that : Nat) (W : Int) : Int := maskV nw (orS (doW this W (u32 1)) (doW that W (u32 ((nw : Int) - 1))))
theorem turnV_over : ∀ nw : Nat, nw < 33 → 2 ≤ nw → ∀ k : Nat, k < nw → turnV nw 9 8 (2 ^ k) = 2 ^ ((k + nw - 1) % nw) := by decide +kernel
theorem turnV_under : ∀ nw : Nat, nw < 33 → 2 ≤ nw → ∀ k : Nat, k < nw → turnV nw 8 9 (2 ^ k) = 2 ^ ((k + 1) % nw) := by decide +kernel
theorem mask_small : ∀ nw : Nat, nw < 15 → 2 ≤ nw → (-16384 ≤ sgn ((2 : Int) ^ nw - 1) 2147483648 ∧ sgn ((2 : Int) ^ nw - 1) 2147483648 < 16384) ∧ sgn ((2 : Int) ^ nw - 1) 2147483648 = (2 : Int) ^ nw - 1 := by decide
theorem mask_great : ∀ nw : Nat, nw < 32 → 15 ≤ nw → ¬ (-16384 ≤ sgn ((2 : Int) ^ nw - 1) 2147483648 ∧ sgn ((2 : Int) ^ nw - 1) 2147483648 < 16384) ∧ ¬ ((2 : Int) ^ nw - 1) % 2048 = 0 := by decide
theorem maskL_small {nw : Nat} (h : nw < 15) (h2 : 2 ≤ nw) : maskL nw = [⟨1, 1, 0, 0, true, (2 : Int) ^ nw - 1⟩, bothI 5 2 2 1] := by
  obtain ⟨h3, h4⟩ := mask_small nw h h2
  unfold maskL partsS; rw [if_pos (by omega), if_pos h3, h4]; rfl
theorem maskL_great {nw : Nat} (h : nw < 32) (h2 : 15 ≤ nw) : maskL nw = [⟨15, 1, 0, 0, true, ((2 : Int) ^ nw - 1) / 2048⟩, ⟨7, 1, 1, 0, true, ((2 : Int) ^ nw - 1) % 2048⟩, bothI 5 2 2 1] := by
  obtain ⟨h3, h4⟩ := mask_great nw h h2
  unfold maskL partsS; rw [if_pos h, if_neg h3, if_neg h4]; rfl
theorem eight {g : List Int} (h : g.length = 8) : ∃ a b c d e f x y, g = [a, b, c, d, e, f, x, y] := by
  match g, h with
  | [a, b, c, d, e, f, x, y], _ => exact ⟨a, b, c, d, e, f, x, y, rfl⟩
section
variable {E : He} {win g mem tpc ch : List Int} {cwp : Nat} {wim fl : Int}
theorem turn_run (this that : Nat) (h1 : this < 14) (h2 : that < 14) (b1 : ∀ b, doB this b = true) (b2 : ∀ b, doB that b = true) {R : List Ix} (hL : E.L = turnI E.nw this that ++ R) (hnw : 2 ≤ E.nw) (hnw2 : E.nw ≤ 32) (hg : g.length = 8) :
    ∃ g', g'.length = 8 ∧ gr g' 2 = turnV E.nw this that wim ∧ Hp E (turnI E.nw this that).length ⟨win, g, mem, 0, wim, cwp, fl, tpc, ch⟩ ⟨win, g', mem, (turnI E.nw this that).length, wim, cwp, fl, tpc, ch⟩ := by
  obtain ⟨x0, x1, x2, x3, x4, x5, x6, x7, rfl⟩ := eight hg
  generalize ha : doW this wim (u32 1) = a
  generalize hb : doW that wim (u32 ((E.nw : Int) - 1)) = b
  generalize hc : orS a b = c
  have ht : turnV E.nw this that wim = maskV E.nw c := by unfold turnV; rw [ha, hb, hc]
  rw [ht]
  have hT : turnedA E.nw this that = [⟨28, 1, 0, 0, false, 0⟩, aluI this 2 1 1, aluI that 1 1 ((E.nw : Int) - 1), bothI 6 2 2 1] := rfl
  by_cases h32 : E.nw < 32
  · by_cases h15 : E.nw < 15
    · have hM := maskL_small h15 hnw
      have hL2 : E.L = ⟨28, 1, 0, 0, false, 0⟩ :: aluI this 2 1 1 :: aluI that 1 1 ((E.nw : Int) - 1) :: bothI 6 2 2 1 :: ⟨1, 1, 0, 0, true, (2 : Int) ^ E.nw - 1⟩ :: bothI 5 2 2 1 :: R := by rw [hL, turnI, hT, hM]; rfl
      have hlen : (turnI E.nw this that).length = 6 := by rw [turnI, hT, hM]; rfl
      rw [hlen]
      refine ⟨[x0, u32 (0 + u32 ((2 : Int) ^ E.nw - 1)), andS c (u32 (0 + u32 ((2 : Int) ^ E.nw - 1))), x3, x4, x5, x6, x7], rfl, ?_, ?_⟩
      · unfold maskV; rw [if_pos h32, if_pos h15]; rfl
      · refine Hp.rdwim 1 (by rw [hL2]; rfl) (by decide) (by decide) ?_
        refine Hp.alui this 2 1 1 (by rw [hL2]; rfl) h1 (by decide) (by decide) (by decide) (b1 _) ha ?_
        refine Hp.alui that 1 1 ((E.nw : Int) - 1) (by rw [hL2]; rfl) h2 (by decide) (by decide) (by decide) (b2 _) hb ?_
        refine Hp.both 6 2 2 1 (by rw [hL2]; rfl) (by decide) (by decide) (by decide) (by decide) (by decide) rfl hc ?_
        refine Hp.alui 0 1 0 ((2 : Int) ^ E.nw - 1) (by rw [hL2]; rfl) (by decide) (by decide) (by decide) (by decide) rfl rfl ?_
        refine Hp.both 5 2 2 1 (by rw [hL2]; rfl) (by decide) (by decide) (by decide) (by decide) (by decide) rfl rfl ?_
        exact Hp.refl _ _
    · have hM := maskL_great h32 (by omega)
      have hL2 : E.L = ⟨28, 1, 0, 0, false, 0⟩ :: aluI this 2 1 1 :: aluI that 1 1 ((E.nw : Int) - 1) :: bothI 6 2 2 1 :: ⟨15, 1, 0, 0, true, ((2 : Int) ^ E.nw - 1) / 2048⟩ :: ⟨7, 1, 1, 0, true, ((2 : Int) ^ E.nw - 1) % 2048⟩ :: bothI 5 2 2 1 :: R := by rw [hL, turnI, hT, hM]; rfl
      have hlen : (turnI E.nw this that).length = 7 := by rw [turnI, hT, hM]; rfl
      rw [hlen]
      refine ⟨[x0, orS (u32 (u32 (((2 : Int) ^ E.nw - 1) / 2048) * 2048)) (u32 (((2 : Int) ^ E.nw - 1) % 2048)), andS c (orS (u32 (u32 (((2 : Int) ^ E.nw - 1) / 2048) * 2048)) (u32 (((2 : Int) ^ E.nw - 1) % 2048))), x3, x4, x5, x6, x7], rfl, ?_, ?_⟩
      · unfold maskV; rw [if_pos h32, if_neg h15]; rfl
      · refine Hp.rdwim 1 (by rw [hL2]; rfl) (by decide) (by decide) ?_
        refine Hp.alui this 2 1 1 (by rw [hL2]; rfl) h1 (by decide) (by decide) (by decide) (b1 _) ha ?_
        refine Hp.alui that 1 1 ((E.nw : Int) - 1) (by rw [hL2]; rfl) h2 (by decide) (by decide) (by decide) (b2 _) hb ?_
        refine Hp.both 6 2 2 1 (by rw [hL2]; rfl) (by decide) (by decide) (by decide) (by decide) (by decide) rfl hc ?_
        refine Hp.sethi 1 (((2 : Int) ^ E.nw - 1) / 2048) (by rw [hL2]; rfl) (by decide) (by decide) rfl ?_
        refine Hp.alui 6 1 1 (((2 : Int) ^ E.nw - 1) % 2048) (by rw [hL2]; rfl) (by decide) (by decide) (by decide) (by decide) rfl rfl ?_
        refine Hp.both 5 2 2 1 (by rw [hL2]; rfl) (by decide) (by decide) (by decide) (by decide) (by decide) rfl rfl ?_
        exact Hp.refl _ _
  · have hM : maskL E.nw = [] := if_neg h32
    have hL2 : E.L = ⟨28, 1, 0, 0, false, 0⟩ :: aluI this 2 1 1 :: aluI that 1 1 ((E.nw : Int) - 1) :: bothI 6 2 2 1 :: R := by rw [hL, turnI, hT, hM]; rfl
    have hlen : (turnI E.nw this that).length = 4 := by rw [turnI, hT, hM]; rfl
    rw [hlen]
    refine ⟨[x0, b, c, x3, x4, x5, x6, x7], rfl, ?_, ?_⟩
    · unfold maskV; rw [if_neg h32]; rfl
    · refine Hp.rdwim 1 (by rw [hL2]; rfl) (by decide) (by decide) ?_
      refine Hp.alui this 2 1 1 (by rw [hL2]; rfl) h1 (by decide) (by decide) (by decide) (b1 _) ha ?_
      refine Hp.alui that 1 1 ((E.nw : Int) - 1) (by rw [hL2]; rfl) h2 (by decide) (by decide) (by decide) (b2 _) hb ?_
      refine Hp.both 6 2 2 1 (by rw [hL2]; rfl) (by decide) (by decide) (by decide) (by decide) (by decide) rfl hc ?_
      exact Hp.refl _ _
/-- The window's frame is stored, or loaded. -/
theorem store_run (t : Nat) (hx : ∀ j, j < 16 → E.L[t + j]? = some (eachI 23 j)) {A : Nat} (hA : win.getD (16 * ((cwp + E.nw - 1) % E.nw) + 14) 0 = A) (ha : 64 ≤ A ∧ A % 4 = 0 ∧ A + 64 ≤ mem.length) (hm : mem.length ≤ 4194304) (hfar : A + 64 ≤ E.lo ∨ E.lo + 4 * E.L.length ≤ A) (hw : 16 * cwp + 16 ≤ win.length) :
    ∀ n, n ≤ 16 → Hp E n ⟨win, g, mem, t, wim, cwp, fl, tpc, ch⟩ ⟨win, g, putS mem A (((win.drop (16 * cwp)).take 16).take n), t + n, wim, cwp, fl, tpc, ch⟩ := by
  intro n
  induction n with
  | zero => intro _; exact Hp.refl _ _
  | succ n ih =>
    intro hn
    refine Hp.trans (ih (by omega)) (Hp.stf n (v := win.getD (16 * cwp + n) 0) (hx n (by omega)) (by omega) hA (by rw [putS_len]; exact ha) (by rw [putS_len]; exact hm) hfar rfl ?_)
    have hl : ((win.drop (16 * cwp)).take 16).length = 16 := by rw [List.length_take, List.length_drop]; omega
    rw [putS_take _ _ _ _ (by rw [hl]; omega)]
    have e : ((win.drop (16 * cwp)).take 16).getD n 0 = win.getD (16 * cwp + n) 0 := by
      rw [List.getD_eq_getElem?_getD, List.getD_eq_getElem?_getD, List.getElem?_take_of_lt (by omega), List.getElem?_drop]
    rw [e]
    exact Hp.refl _ _
/-- A window's registers, whole, set. -/
def setW (win : List Int) (w : Nat) (l : List Int) : List Int := win.take (16 * w) ++ l ++ win.drop (16 * w + l.length)
theorem setW_nil (win : List Int) (w : Nat) : setW win w [] = win := by unfold setW; simp
theorem setW_snoc {win : List Int} {w : Nat} {l : List Int} {x : Int} (h : 16 * w + l.length < win.length) : setW win w (l ++ [x]) = (setW win w l).set (16 * w + l.length) x := by
  unfold setW
  have e1 : (win.take (16 * w) ++ l).length = 16 * w + l.length := by rw [List.length_append, List.length_take]; omega
  rw [List.set_append_right _ _ (by omega), e1, Nat.sub_self, List.drop_eq_getElem_cons h]
  simp only [List.set_cons_zero, List.length_append, List.length_cons, List.length_nil, List.append_assoc, List.cons_append, List.nil_append]
  rw [show 16 * w + (l.length + (0 + 1)) = 16 * w + l.length + 1 by omega]
theorem setW_len {win : List Int} {w : Nat} {l : List Int} (h : 16 * w + l.length ≤ win.length) : (setW win w l).length = win.length := by
  unfold setW; rw [List.length_append, List.length_append, List.length_take, List.length_drop]; omega
theorem setW_out {win : List Int} {w : Nat} {l : List Int} (h : 16 * w + l.length ≤ win.length) {i : Nat} (hi : i < 16 * w ∨ 16 * w + l.length ≤ i) : (setW win w l).getD i 0 = win.getD i 0 := by
  unfold setW
  rw [List.getD_eq_getElem?_getD, List.getD_eq_getElem?_getD]
  rcases hi with hi | hi
  · rw [List.append_assoc, List.getElem?_append_left (by rw [List.length_take]; omega), List.getElem?_take_of_lt hi]
  · have e1 : (win.take (16 * w) ++ l).length = 16 * w + l.length := by rw [List.length_append, List.length_take]; omega
    rw [List.getElem?_append_right (by omega), e1, List.getElem?_drop, show 16 * w + l.length + (i - (16 * w + l.length)) = i by omega]
theorem setW_in {win : List Int} {w : Nat} {l : List Int} (h : 16 * w + l.length ≤ win.length) {j : Nat} (hj : j < l.length) : (setW win w l).getD (16 * w + j) 0 = l.getD j 0 := by
  unfold setW
  rw [List.getD_eq_getElem?_getD, List.getD_eq_getElem?_getD, List.append_assoc, List.getElem?_append_right (by rw [List.length_take]; omega), List.length_take, Nat.min_eq_left (by omega), Nat.add_sub_cancel_left, List.getElem?_append_left hj]
theorem load_run (t : Nat) (hx : ∀ j, j < 16 → E.L[t + j]? = some (eachI 22 j)) {A : Nat} (hA : win.getD (16 * ((cwp + E.nw - 1) % E.nw) + 14) 0 = A) (ha : 64 ≤ A ∧ A % 4 = 0 ∧ A + 64 ≤ mem.length) (hm : mem.length ≤ 4194304) (hw : win.length = 16 * E.nw) (hc : cwp < E.nw) (hnw : 2 ≤ E.nw) :
    ∀ n, n ≤ 16 → Hp E n ⟨win, g, mem, t, wim, cwp, fl, tpc, ch⟩ ⟨setW win cwp (wordsS mem A n), g, mem, t + n, wim, cwp, fl, tpc, ch⟩ := by
  intro n
  induction n with
  | zero => intro _; rw [show wordsS mem A 0 = [] from rfl, setW_nil]; exact Hp.refl _ _
  | succ n ih =>
    intro hn
    have hl : (wordsS mem A n).length = n := wordsS_len _ _ _
    have hne : (cwp + E.nw - 1) % E.nw ≠ cwp := by
      intro h
      rcases Nat.lt_or_ge 0 cwp with h0 | h0
      · rw [show cwp + E.nw - 1 = (cwp - 1) + E.nw by omega, Nat.add_mod_right, Nat.mod_eq_of_lt (by omega)] at h; omega
      · rw [show cwp = 0 by omega, Nat.zero_add, Nat.mod_eq_of_lt (by omega)] at h; omega
    refine Hp.trans (ih (by omega)) (Hp.ldf n (A := A) (hx n (by omega)) (by omega) ?_ ha hm rfl ?_)
    · rw [setW_out (by rw [hl]; omega) (by rw [hl]; omega)]; exact hA
    · rw [wordsS_succ, setW_snoc (by rw [hl]; omega), hl]
      exact Hp.refl _ _
end
end Go.Proofs.YtajholbcpmjhiaaGreatDoor
