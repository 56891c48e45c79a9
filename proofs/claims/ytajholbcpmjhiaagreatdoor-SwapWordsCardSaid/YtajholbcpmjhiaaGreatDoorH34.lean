/- Several texts in one: SwapFlush, SwapTurn. -/
import Derived.Test.YtajholbcpmjhiaaGreatDoorH01
import Derived.Test.YtajholbcpmjhiaaGreatDoorH02
import Derived.Test.YtajholbcpmjhiaaGreatDoorH03
import Derived.Test.YtajholbcpmjhiaaGreatDoorH04
import Derived.Test.YtajholbcpmjhiaaGreatDoorH05
import Derived.Test.YtajholbcpmjhiaaGreatDoorH06
import Derived.Test.YtajholbcpmjhiaaGreatDoorH07
import Derived.Test.YtajholbcpmjhiaaGreatDoorH08
import Derived.Test.YtajholbcpmjhiaaGreatDoorH09
import Derived.Test.YtajholbcpmjhiaaGreatDoorH10
import Derived.Test.YtajholbcpmjhiaaGreatDoorH11
import Derived.Test.YtajholbcpmjhiaaGreatDoorH12
import Derived.Test.YtajholbcpmjhiaaGreatDoorH33
import Derived.Test.YtajholbcpmjhiaaGreatDoorH13
import Derived.Test.YtajholbcpmjhiaaGreatDoorH14
import Derived.Test.YtajholbcpmjhiaaGreatDoorH15
import Derived.Test.YtajholbcpmjhiaaGreatDoorH16
import Derived.Test.YtajholbcpmjhiaaGreatDoorH17
import Derived.Test.YtajholbcpmjhiaaGreatDoorH18
import Derived.Test.YtajholbcpmjhiaaGreatDoorH19
import Derived.Test.YtajholbcpmjhiaaGreatDoorH20
import Derived.Test.YtajholbcpmjhiaaGreatDoorH21
import Derived.Test.YtajholbcpmjhiaaGreatDoorH22
import Derived.Test.YtajholbcpmjhiaaGreatDoorH23
import Derived.Test.YtajholbcpmjhiaaGreatDoorH24
import Derived.Test.YtajholbcpmjhiaaGreatDoorH25
import Derived.Test.YtajholbcpmjhiaaGreatDoorH26
import Derived.Test.YtajholbcpmjhiaaGreatDoorH27
import Derived.Test.YtajholbcpmjhiaaGreatDoorH28
import Derived.Test.YtajholbcpmjhiaaGreatDoorH29
import Derived.WalkKit
import Derived.Laws.AppendOwn
import Derived.Below
import Derived.Deep.QuietTactic
import Derived.BigQuiet
import Derived.WalkSpells
import Derived.Test.YtajholbcpmjhiaaGreatDoorProg
import Derived.Handy
import Derived.WalkLawsBesides
import Derived.RegionTactic
import Derived.Outline
import Derived.Lib.BitFns
import Derived.StillTailTactics
import Derived.BigRegion
import Derived.ChangeAlike
import Derived.Maps.OwnSet
import Derived.Maps.Views
import Derived.Laws.AppendOwnNone
import Derived.WalkArith
import Derived.OneCell
import Derived.ArgAppend
import Derived.Lib.SliceRun
import Derived.Laws.Rows
import Derived.IntWalk
import Derived.Laws.CopyOwn
import Derived.Great.Ranges
import Derived.ProofKit
import Derived.OpenShut
import Derived.RangeFuncNested
import Derived.RangeFuncBound
import Derived.RangeFuncCalls
import Derived.RangeFuncLeaves
import Derived.Shelf.Abstract
import Derived.Shelf.RegionOpen
import Derived.OwnWalkIn
import Derived.TacticsInMore
import Derived.LoopNIn
import Derived.LoopIn
import Derived.RegionIn
import Derived.Deep.RegionHeld
import Derived.Deep.RegionHeld3
import Derived.Deep.Cut
import Derived.Laws.EntriesVeiled
import Derived.Deep.RegionLaw
/- Plain law: swap's handlers, from the trap's vector up to their RETT. No program in sight. -/
namespace Go.Proofs.YtajholbcpmjhiaaGreatDoor
open Go.RowKit
set_option linter.unusedVariables false
set_option linter.unusedSimpArgs false
/-- Where a window's frame lies; its registers. -/
def frW (win : List Int) (nw w : Nat) : Nat := (win.getD (16 * ((w + nw - 1) % nw) + 14) 0).toNat
def rowW (win : List Int) (w : Nat) : List Int := (win.drop (16 * w)).take 16
def flushS (win : List Int) (nw cwp : Nat) : Nat → List Int → List Int
  | 0, d => d
  | k + 1, d => putS (flushS win nw cwp k d) (frW win nw ((cwp + k) % nw)) (rowW win ((cwp + k) % nw))
theorem flushS_len (win : List Int) (nw cwp : Nat) (d : List Int) : ∀ k, (flushS win nw cwp k d).length = d.length
  | 0 => rfl
  | k + 1 => by unfold flushS; rw [putS_len, flushS_len]
def FramesW (win : List Int) (nw room : Nat) : Prop := ∀ w, w < nw → ∃ A : Nat, win.getD (16 * ((w + nw - 1) % nw) + 14) 0 = A ∧ 2048 ≤ A ∧ A % 4 = 0 ∧ A + 64 ≤ room
theorem FramesW.at {win : List Int} {nw room w : Nat} (h : FramesW win nw room) (hw : w < nw) : win.getD (16 * ((w + nw - 1) % nw) + 14) 0 = (frW win nw w : Int) ∧ 2048 ≤ frW win nw w ∧ frW win nw w % 4 = 0 ∧ frW win nw w + 64 ≤ room := by
  obtain ⟨A, h1, h2⟩ := h w hw
  have e : frW win nw w = A := by unfold frW; rw [h1]; rfl
  rw [e]; exact ⟨h1, h2⟩
theorem bit_at : ∀ i : Nat, i < 32 → ∀ w : Nat, w < 32 → doW 5 (doW 9 ((2 : Int) ^ i) (w : Int)) (u32 1) = if w = i then 1 else 0 := by decide +kernel
theorem pow_at : ∀ w : Nat, w < 32 → doW 8 (u32 (0 + u32 1)) (w : Int) = 2 ^ w := by decide +kernel
section
variable {E : He} {win mem tpc ch : List Int} {cwp : Nat} {wim fl : Int}
/-- A window is gone to, of the state in g5. -/
theorem go_run {t : Nat} (r : Nat) (hr : r = 4 ∨ r = 6) {c : Nat} {f : Int} (c0 : Nat) (f0 : Int) (x0 x1 x2 x3 x4 x6 x7 : Int) (hx0 : E.L[t]? = some (bothI 6 2 5 r)) (hx1 : E.L[t + 1]? = some ⟨27, 0, 2, 0, false, 0⟩) (hc : c < E.nw) (hcw : cwp < E.nw) (hnw : E.nw ≤ 32) (hp : 0 ≤ E.pil ∧ E.pil < 16) (hf : 0 ≤ f ∧ f < 16)
    (hv : gr [x0, x1, x2, x3, x4, 32 * (packW ⟨cwp, E.pil, 16, f⟩ / 32), x6, x7] r = (c : Int)) {d : List Int} :
    Hp E 2 ⟨win, [x0, x1, x2, x3, x4, 32 * (packW ⟨cwp, E.pil, 16, f⟩ / 32), x6, x7], d, t, wim, c0, f0, tpc, ch⟩ ⟨win, [x0, x1, packW ⟨c, E.pil, 16, f⟩, x3, x4, 32 * (packW ⟨cwp, E.pil, 16, f⟩ / 32), x6, x7], d, t + 2, wim, c, f, tpc, ch⟩ := by
  refine Hp.both 6 2 5 r (v := packW ⟨c, E.pil, 16, f⟩) hx0 (by decide) (by decide) (by decide) (by decide) (by omega) rfl ?_ ?_
  · rw [hv]
    have e : orS (32 * (packW ⟨cwp, E.pil, 16, f⟩ / 32)) c = packW ⟨c, E.pil, 16, f⟩ := by
      rw [orLow (by unfold packW; simp only; omega) (by omega) (by omega)]
      unfold packW; simp only; omega
    exact e
  refine Hp.wrpsr 2 (c := c) (f := f) hx1 (by decide) rfl hc hnw hp hf ?_
  exact Hp.refl _ _
/-- The next window, in g4. -/
theorem next_run {t : Nat} {w : Nat} (hw : w < E.nw) (h32 : E.nw ≤ 32) (hx0 : E.L[t]? = some (aluI 0 4 4 1)) (hx1 : E.L[t + 1]? = some (cmpI 4 E.nw)) (hx2 : E.L[t + 2]? = some ⟨17, 2, 0, 0, true, 2⟩) (hx3 : E.L[t + 3]? = some (aluI 0 4 0 0)) (hl : t + 4 ≤ E.L.length) (c0 : Nat) (f0 : Int) (x0 x1 x2 x3 x5 x6 x7 : Int) {d : List Int} :
    ∃ n f', n ≤ 4 ∧ Hp E n ⟨win, [x0, x1, x2, x3, (w : Int), x5, x6, x7], d, t, wim, c0, f0, tpc, ch⟩ ⟨win, [x0, x1, x2, x3, (((w + 1) % E.nw : Nat) : Int), x5, x6, x7], d, t + 4, wim, c0, f', tpc, ch⟩ := by
  have e32 : u32 (E.nw : Int) = (E.nw : Int) := by unfold u32; omega
  by_cases h : w + 1 = E.nw
  · refine ⟨4, flagsS ((w + 1 : Nat) : Int) (u32 (E.nw : Int)), by omega, ?_⟩
    refine Hp.alui 0 4 4 1 (v := ((w + 1 : Nat) : Int)) hx0 (by decide) (by decide) (by decide) (by decide) rfl (add1 (by omega)) ?_
    refine Hp.cmpi 4 E.nw hx1 (by decide) rfl ?_
    refine Hp.stay 2 2 hx2 ?_ (by omega) (by omega) ?_
    · rw [(flag_eq _ _).2, decide_eq_true]; rfl
      show ((w + 1 : Nat) : Int) = _
      rw [e32]; omega
    rw [h, Nat.mod_self]
    exact Hp.alui 0 4 0 0 (v := ((0 : Nat) : Int)) hx3 (by decide) (by decide) (by decide) (by decide) rfl rfl (Hp.refl _ _)
  · refine ⟨3, flagsS ((w + 1 : Nat) : Int) (u32 (E.nw : Int)), by omega, ?_⟩
    refine Hp.alui 0 4 4 1 (v := ((w + 1 : Nat) : Int)) hx0 (by decide) (by decide) (by decide) (by decide) rfl (add1 (by omega)) ?_
    refine Hp.cmpi 4 E.nw hx1 (by decide) rfl ?_
    rw [Nat.mod_eq_of_lt (by omega)]
    refine Hp.jump 2 2 (j := t + 4) hx2 ?_ (by omega) hl (Hp.refl _ _)
    rw [(flag_eq _ _).2, decide_eq_false]; rfl
    show ¬ ((w + 1 : Nat) : Int) = _
    rw [e32]; omega
theorem flush_run (hL : E.L = swapI E.nw) (hlo : E.lo = 768) (h2 : 2 ≤ E.nw) (h32 : E.nw ≤ 32) (hp : 0 ≤ E.pil ∧ E.pil < 16) {f : Int} (hf : 0 ≤ f ∧ f < 16) (hcw : cwp < E.nw) (hwl : win.length = 16 * E.nw) {room : Nat} (hroom : room ≤ 4194304) (hfr : FramesW win E.nw room)
    {inv n : Nat} (hinv : inv < E.nw) (hn : (cwp + n) % E.nw = inv) (hno : ∀ j, 0 < j → j < n → (cwp + j) % E.nw ≠ inv) {d0 : List Int} (hd : d0.length = room) :
    ∀ m k : Nat, k + (m + 1) = n → ∀ (c0 : Nat) (f0 x0 x2 x3 x6 x7 : Int), ∃ N c' f' y2, N ≤ 26 * (m + 1) ∧ Hp E N ⟨win, [x0, 2 ^ inv, x2, x3, (((cwp + k) % E.nw : Nat) : Int), 32 * (packW ⟨cwp, E.pil, 16, f⟩ / 32), x6, x7], flushS win E.nw cwp k d0, 9, wim, c0, f0, tpc, ch⟩ ⟨win, [x0, 2 ^ inv, y2, x3, (inv : Int), 32 * (packW ⟨cwp, E.pil, 16, f⟩ / 32), x6, x7], flushS win E.nw cwp n d0, 35, wim, c', f', tpc, ch⟩ := by
  have hone : ∀ (k : Nat) (c0 : Nat) (f0 x0 x2 x3 x6 x7 : Int), ∃ N : Nat, N ≤ 25 ∧ Hp E N ⟨win, [x0, 2 ^ inv, x2, x3, (((cwp + k) % E.nw : Nat) : Int), 32 * (packW ⟨cwp, E.pil, 16, f⟩ / 32), x6, x7], flushS win E.nw cwp k d0, 9, wim, c0, f0, tpc, ch⟩ ⟨win, [x0, 2 ^ inv, if (cwp + (k + 1)) % E.nw = inv then 1 else 0, x3, (((cwp + (k + 1)) % E.nw : Nat) : Int), 32 * (packW ⟨cwp, E.pil, 16, f⟩ / 32), x6, x7], flushS win E.nw cwp (k + 1) d0, 34, wim, (cwp + k) % E.nw, flagsS (if (cwp + (k + 1)) % E.nw = inv then 1 else 0) (u32 1), tpc, ch⟩ := by
    intro k c0 f0 x0 x2 x3 x6 x7
    have hwk : (cwp + k) % E.nw < E.nw := Nat.mod_lt _ (by omega)
    have hwk1 : (cwp + (k + 1)) % E.nw < E.nw := Nat.mod_lt _ (by omega)
    have esucc : ((cwp + k) % E.nw + 1) % E.nw = (cwp + (k + 1)) % E.nw := by rw [Nat.mod_add_mod, Nat.add_assoc]
    obtain ⟨a1, a2, a3, a4⟩ := hfr.at hwk
    have hlen : (flushS win E.nw cwp k d0).length = room := by rw [flushS_len]; exact hd
    have hgo := go_run (E := E) (win := win) (tpc := tpc) (ch := ch) (cwp := cwp) (wim := wim) (t := 9) 4 (.inl rfl) (c := (cwp + k) % E.nw) (f := f) c0 f0 x0 (2 ^ inv) x2 x3 (((cwp + k) % E.nw : Nat) : Int) x6 x7 (by rw [hL]; kernel_rfl) (by rw [hL]; kernel_rfl) hwk hcw h32 hp hf rfl (d := flushS win E.nw cwp k d0)
    have hst := store_run (E := E) (win := win) (g := [x0, 2 ^ inv, packW ⟨((cwp + k) % E.nw : Nat), E.pil, 16, f⟩, x3, (((cwp + k) % E.nw : Nat) : Int), 32 * (packW ⟨cwp, E.pil, 16, f⟩ / 32), x6, x7]) (mem := flushS win E.nw cwp k d0) (tpc := tpc) (ch := ch) (cwp := (cwp + k) % E.nw) (wim := wim) (fl := f) 11 (fun j hj => by rw [hL]; exact sw_each _ _ hj) a1 ⟨by omega, a3, by rw [hlen]; exact a4⟩ (by rw [hlen]; exact hroom) (by rw [hL, swapI_len, hlo]; omega) (by rw [hwl]; omega) 16 (Nat.le_refl _)
    rw [List.take_take] at hst
    obtain ⟨n1, f1, hn1, hnx⟩ := next_run (E := E) (win := win) (tpc := tpc) (ch := ch) (wim := wim) (t := 27) (w := (cwp + k) % E.nw) hwk h32 (by rw [hL]; kernel_rfl) (by rw [hL]; kernel_rfl) (by rw [hL]; kernel_rfl) (by rw [hL]; kernel_rfl) (by rw [hL, swapI_len]; decide) ((cwp + k) % E.nw) f x0 (2 ^ inv) (packW ⟨((cwp + k) % E.nw : Nat), E.pil, 16, f⟩) x3 (32 * (packW ⟨cwp, E.pil, 16, f⟩ / 32)) x6 x7 (d := flushS win E.nw cwp (k + 1) d0)
    rw [esucc] at hnx
    have hbit := bit_at inv (by omega) ((cwp + (k + 1)) % E.nw) (by omega)
    refine ⟨2 + (16 + (n1 + 3)), by omega, hgo.trans (hst.trans (hnx.trans ?_))⟩
    refine Hp.both 9 2 1 4 (v := doW 9 ((2 : Int) ^ inv) (((cwp + (k + 1)) % E.nw : Nat) : Int)) (by rw [hL]; kernel_rfl) (by decide) (by decide) (by decide) (by decide) (by decide) rfl rfl ?_
    refine Hp.alui 5 2 2 1 (v := if (cwp + (k + 1)) % E.nw = inv then 1 else 0) (by rw [hL]; kernel_rfl) (by decide) (by decide) (by decide) (by decide) rfl hbit ?_
    refine Hp.cmpi 2 1 (by rw [hL]; kernel_rfl) (by decide) rfl ?_
    exact Hp.refl _ _
  intro m
  induction m with
  | zero =>
    intro k hk c0 f0 x0 x2 x3 x6 x7
    obtain ⟨N, hN, h1⟩ := hone k c0 f0 x0 x2 x3 x6 x7
    obtain rfl : n = k + 1 := by omega
    rw [hn, if_pos rfl] at h1
    refine ⟨N + 1, _, _, _, by omega, h1.trans (Hp.stay 2 (-25) (by rw [hL]; kernel_rfl) (by rfl) (by omega) (by rw [hL, swapI_len]; omega) (Hp.refl _ _))⟩
  | succ m ih =>
    intro k hk c0 f0 x0 x2 x3 x6 x7
    obtain ⟨N, hN, h1⟩ := hone k c0 f0 x0 x2 x3 x6 x7
    rw [if_neg (hno (k + 1) (by omega) (by omega))] at h1
    obtain ⟨N2, c', f2, y2, hN2, h2'⟩ := ih (k + 1) (by omega) ((cwp + k) % E.nw) (flagsS 0 (u32 1)) x0 0 x3 x6 x7
    refine ⟨N + (N2 + 1), c', f2, y2, by omega, h1.trans (Hp.jump 2 (-25) (j := 9) (by rw [hL]; kernel_rfl) (by rfl) (by omega) (by rw [hL, swapI_len]; decide) h2')⟩
/-- What a yield has stored. -/
def keepS (d : List Int) (t : Nat) (pc sp : Int) : List Int := storeS (storeS d (16 * t + 64) 4 pc) (16 * t + 68) 4 sp
theorem yield_run (hL : E.L = swapI E.nw) (hlo : E.lo = 768) (h2 : 2 ≤ E.nw) (h32 : E.nw ≤ 32) (hp : 0 ≤ E.pil ∧ E.pil < 16) (hf : 0 ≤ fl ∧ fl < 16) (hcw : cwp < E.nw) (hwl : win.length = 16 * E.nw) (hroom : mem.length ≤ 4194304) (hfr : FramesW win E.nw mem.length)
    {inv n : Nat} (hn0 : 0 < n) (hnn : n < E.nw) (hinv : inv < E.nw) (hn : (cwp + n) % E.nw = inv) (hno : ∀ j, 0 < j → j < n → (cwp + j) % E.nw ≠ inv) {t : Nat} (ht : t < 4) (hcur : loadS (flushS win E.nw cwp n mem) 128 4 = (t : Int)) (hl : 2048 ≤ mem.length) {pc : Int} (hpc : tpc.getD 16 0 = pc) {g : List Int} (hg : g.length = 8) :
    ∃ N g', N ≤ 26 * n + 12 ∧ g'.length = 8 ∧ Hp E N ⟨win, g, mem, 4, 2 ^ inv, cwp, fl, tpc, ch⟩ ⟨win, g', keepS (flushS win E.nw cwp n mem) t pc (frW win E.nw cwp), 42, 2 ^ inv, cwp, fl, tpc, ch⟩ := by
  obtain ⟨x0, x1, x2, x3, x4, x5, x6, x7, rfl⟩ := eight hg
  obtain ⟨m, rfl⟩ : ∃ m, n = m + 1 := ⟨n - 1, by omega⟩
  obtain ⟨N, c', f', y2, hN, hfl⟩ := flush_run (E := E) (win := win) (tpc := tpc) (ch := ch) (cwp := cwp) (wim := 2 ^ inv) hL hlo h2 h32 hp hf hcw hwl hroom hfr hinv hn hno (d0 := mem) rfl m 0 (by omega) cwp fl x0 x2 (packW ⟨cwp, E.pil, 16, fl⟩) cwp x7
  rw [Nat.add_zero, Nat.mod_eq_of_lt hcw] at hfl
  obtain ⟨a1, a2, a3, a4⟩ := hfr.at hcw
  have hlen : (flushS win E.nw cwp (m + 1) mem).length = mem.length := flushS_len _ _ _ _ _
  have hgo := go_run (E := E) (win := win) (tpc := tpc) (ch := ch) (cwp := cwp) (wim := 2 ^ inv) (t := 35) 6 (.inr rfl) (c := cwp) (f := fl) c' f' x0 (2 ^ inv) y2 (packW ⟨cwp, E.pil, 16, fl⟩) inv cwp x7 (by rw [hL]; kernel_rfl) (by rw [hL]; kernel_rfl) hcw hcw h32 hp hf rfl (d := flushS win E.nw cwp (m + 1) mem)
  have e128 : u32 (0 + u32 128) = ((128 : Nat) : Int) := by unfold u32; omega
  refine ⟨(N + (2 + 5)) + 5, [x0, ((16 * t : Nat) : Int), pc, packW ⟨cwp, E.pil, 16, fl⟩, inv, 32 * (packW ⟨cwp, E.pil, 16, fl⟩ / 32), cwp, x7], by omega, rfl, ?_⟩
  · refine Hp.rdwim 1 (by rw [hL]; kernel_rfl) (by decide) (by decide) ?_
    refine Hp.rdpsr 3 (by rw [hL]; kernel_rfl) (by decide) (by decide) rfl ?_
    refine Hp.alui 5 4 3 31 (v := cwp) (by rw [hL]; kernel_rfl) (by decide) (by decide) (by decide) (by decide) rfl (pack31 (by omega) (by omega) hp.1 hf.1) ?_
    refine Hp.alui 0 6 4 0 (v := cwp) (by rw [hL]; kernel_rfl) (by decide) (by decide) (by decide) (by decide) rfl (by show u32 ((cwp : Int) + u32 0) = _; unfold u32; omega) ?_
    refine Hp.alui 5 5 3 (-32) (v := 32 * (packW ⟨cwp, E.pil, 16, fl⟩ / 32)) (by rw [hL]; kernel_rfl) (by decide) (by decide) (by decide) (by decide) rfl ?_ ?_
    · have e : ∀ n : Int, n = packW ⟨cwp, E.pil, 16, fl⟩ → andS n 4294967264 = 32 * (packW ⟨cwp, E.pil, 16, fl⟩ / 32) := fun n hn => by
        subst hn; exact andBelow (by unfold packW; simp only; omega) (by unfold packW; simp only; omega)
      exact e _ rfl
    refine Hp.trans hfl (show Hp E (2 + 5) _ _ from Hp.trans hgo ?_)
    generalize flushS win E.nw cwp (m + 1) mem = d at *
    refine Hp.ld 1 0 128 (A := 128) (v := (t : Int)) (by rw [hL]; kernel_rfl) (by decide) (by decide) (by decide) e128 ⟨by omega, by omega, by omega⟩ hcur ?_
    refine Hp.alui 8 1 1 4 (v := ((16 * t : Nat) : Int)) (by rw [hL]; kernel_rfl) (by decide) (by decide) (by decide) (by decide) rfl (shl4 t (by omega)) ?_
    refine Hp.rdt 2 (by rw [hL]; kernel_rfl) (by decide) (by decide) hpc ?_
    refine Hp.st 2 1 64 (A := 16 * t + 64) (v := pc) (by rw [hL]; kernel_rfl) (by decide) (add76 (by omega) 64 (by decide)) ⟨by omega, by omega, by omega⟩ (by rw [hlo]; omega) rfl ?_
    refine Hp.st 14 1 68 (A := 16 * t + 68) (v := (frW win E.nw cwp : Int)) (by rw [hL]; kernel_rfl) (by decide) (add76 (by omega) 68 (by decide)) ⟨by omega, by omega, by rw [storeS_len]; omega⟩ (by rw [hlo]; omega) ?_ ?_
    · exact a1
    exact Hp.refl _ _
theorem end_run (hL : E.L = swapI E.nw) (hlo : E.lo = 768) (hl : 2048 ≤ mem.length) {t : Nat} (ht : t < 4) (hcur : loadS mem 128 4 = (t : Int)) {g : List Int} (hg : g.length = 8) :
    ∃ g', g'.length = 8 ∧ Hp E 4 ⟨win, g, mem, 0, wim, cwp, fl, tpc, ch⟩ ⟨win, g', storeS mem (16 * t + 76) 4 0, 42, wim, cwp, fl, tpc, ch⟩ := by
  obtain ⟨x0, x1, x2, x3, x4, x5, x6, x7, rfl⟩ := eight hg
  have e128 : u32 (0 + u32 128) = ((128 : Nat) : Int) := by unfold u32; omega
  refine ⟨[x0, ((16 * t : Nat) : Int), x2, x3, x4, x5, x6, x7], rfl, ?_⟩
  · refine Hp.ld 1 0 128 (A := 128) (v := (t : Int)) (by rw [hL]; kernel_rfl) (by decide) (by decide) (by decide) e128 ⟨by omega, by omega, by omega⟩ hcur ?_
    refine Hp.alui 8 1 1 4 (v := ((16 * t : Nat) : Int)) (by rw [hL]; kernel_rfl) (by decide) (by decide) (by decide) (by decide) rfl (shl4 t (by omega)) ?_
    refine Hp.st 0 1 76 (A := 16 * t + 76) (v := 0) (by rw [hL]; kernel_rfl) (by decide) (add76 (by omega) 76 (by decide)) ⟨by omega, by omega, by omega⟩ (by rw [hlo]; omega) rfl ?_
    exact Hp.jump 0 39 (j := 42) (by rw [hL]; kernel_rfl) rfl (by omega) (by rw [hL, swapI_len]; decide) (Hp.refl _ _)
/-- What is stored when thread t goes on. -/
def nextS (d : List Int) (t : Nat) : List Int := storeS (storeS d 128 4 t) 136 4 (loadS (storeS d 128 4 t) (16 * t + 72) 4)
theorem nextS_len (d : List Int) (t : Nat) : (nextS d t).length = d.length := by unfold nextS; rw [storeS_len, storeS_len]
theorem resume_run (hL : E.L = swapI E.nw) (hlo : E.lo = 768) (h2 : 2 ≤ E.nw) (h32 : E.nw ≤ 32) (hp : 0 ≤ E.pil ∧ E.pil < 16) (hf : 0 ≤ fl ∧ fl < 16) (hcw : cwp < E.nw) (hwl : win.length = 16 * E.nw) (hm : mem.length ≤ 4194304) (hl : 2048 ≤ mem.length)
    {t : Nat} (ht : t < 4) {sp : Nat} {pc : Int} (hsp : loadS (nextS mem t) (16 * t + 68) 4 = (sp : Int)) (hpc : loadS (nextS mem t) (16 * t + 64) 4 = pc) (hs : 64 ≤ sp ∧ sp % 4 = 0 ∧ sp + 64 ≤ mem.length) {g : List Int} (hg : g.length = 8) (h4 : gr g 4 = (t : Int)) (h5 : gr g 5 = ((16 * t : Nat) : Int)) :
    ∃ N g' fl', N ≤ 31 ∧ g'.length = 8 ∧ Hp E N ⟨win, g, mem, 69, wim, cwp, fl, tpc, ch⟩ ⟨setW (win.set (16 * ((cwp + E.nw - 1) % E.nw) + 14) sp) cwp (wordsS (nextS mem t) sp 16), g', nextS mem t, 100, 2 ^ ((cwp + 1) % E.nw), cwp, fl', tpc.set 16 pc, ch⟩ := by
  obtain ⟨x0, x1, x2, x3, x4, x5, x6, x7, rfl⟩ := eight hg
  obtain rfl : x4 = (t : Int) := h4
  obtain rfl : x5 = ((16 * t : Nat) : Int) := h5
  have e128 : u32 (0 + u32 128) = ((128 : Nat) : Int) := by unfold u32; omega
  have e136 : u32 (0 + u32 136) = ((136 : Nat) : Int) := by unfold u32; omega
  have hml := Nat.mod_lt (cwp + E.nw - 1) (show 0 < E.nw by omega)
  have hnx : (cwp + 1) % E.nw < E.nw := Nat.mod_lt _ (by omega)
  obtain ⟨n1, f1, hn1, hnext⟩ := next_run (E := E) (win := win.set (16 * ((cwp + E.nw - 1) % E.nw) + 14) sp) (tpc := tpc.set 16 pc) (ch := ch) (wim := wim) (t := 77) (w := cwp) hcw h32 (by rw [hL]; kernel_rfl) (by rw [hL]; kernel_rfl) (by rw [hL]; kernel_rfl) (by rw [hL]; kernel_rfl) (by rw [hL, swapI_len]; decide) cwp fl x0 pc x2 (packW ⟨cwp, E.pil, 16, fl⟩) ((16 * t : Nat) : Int) x6 x7 (d := nextS mem t)
  have hne : (cwp + E.nw - 1) % E.nw ≠ cwp := by
    intro h
    rcases Nat.lt_or_ge 0 cwp with h0 | h0
    · rw [show cwp + E.nw - 1 = (cwp - 1) + E.nw by omega, Nat.add_mod_right, Nat.mod_eq_of_lt (by omega)] at h; omega
    · rw [show cwp = 0 by omega, Nat.zero_add, Nat.mod_eq_of_lt (by omega)] at h; omega
  have hwl2 : (win.set (16 * ((cwp + E.nw - 1) % E.nw) + 14) (sp : Int)).length = 16 * E.nw := by rw [List.length_set]; exact hwl
  have hA : (win.set (16 * ((cwp + E.nw - 1) % E.nw) + 14) (sp : Int)).getD (16 * ((cwp + E.nw - 1) % E.nw) + 14) 0 = (sp : Int) := by
    rw [List.getD_eq_getElem?_getD, List.getElem?_set_self (by rw [hwl]; omega)]; rfl
  have hld := load_run (E := E) (win := win.set (16 * ((cwp + E.nw - 1) % E.nw) + 14) sp) (g := [x0, 2 ^ ((cwp + 1) % E.nw), x2, packW ⟨cwp, E.pil, 16, fl⟩, (((cwp + 1) % E.nw : Nat) : Int), ((16 * t : Nat) : Int), x6, x7]) (mem := nextS mem t) (tpc := tpc.set 16 pc) (ch := ch) (cwp := cwp) (wim := 2 ^ ((cwp + 1) % E.nw)) (fl := f1) 84 (fun j hj => by rw [hL]; exact sw_load _ _ hj) hA ⟨hs.1, hs.2.1, by rw [nextS_len]; exact hs.2.2⟩ (by rw [nextS_len]; exact hm) hwl2 hcw h2 16 (Nat.le_refl _)
  refine ⟨(n1 + (16 + 3)) + 8, [x0, 2 ^ ((cwp + 1) % E.nw), x2, packW ⟨cwp, E.pil, 16, fl⟩, (((cwp + 1) % E.nw : Nat) : Int), ((16 * t : Nat) : Int), x6, x7], f1, by omega, rfl, ?_⟩
  · refine Hp.st 4 0 128 (A := 128) (v := (t : Int)) (by rw [hL]; kernel_rfl) (by decide) e128 ⟨by omega, by omega, by omega⟩ (by rw [hlo]; omega) rfl ?_
    refine Hp.ld 1 5 72 (A := 16 * t + 72) (v := loadS (storeS mem 128 4 t) (16 * t + 72) 4) (by rw [hL]; kernel_rfl) (by decide) (by decide) (by decide) (add76 (by omega) 72 (by decide)) ⟨by omega, by omega, by rw [storeS_len]; omega⟩ rfl ?_
    refine Hp.st 1 0 136 (A := 136) (v := loadS (storeS mem 128 4 t) (16 * t + 72) 4) (by rw [hL]; kernel_rfl) (by decide) e136 ⟨by omega, by omega, by rw [storeS_len]; omega⟩ (by rw [hlo]; omega) rfl ?_
    refine Hp.ld 1 5 64 (A := 16 * t + 64) (v := pc) (by rw [hL]; kernel_rfl) (by decide) (by decide) (by decide) (add76 (by omega) 64 (by decide)) ⟨by omega, by omega, by rw [storeS_len, storeS_len]; omega⟩ hpc ?_
    refine Hp.wrt 1 (v := pc) (by rw [hL]; kernel_rfl) (by decide) rfl ?_
    refine Hp.ldsp 5 68 (A := 16 * t + 68) (v := (sp : Int)) (by rw [hL]; kernel_rfl) (by decide) (add76 (by omega) 68 (by decide)) ⟨by omega, by omega, by rw [storeS_len, storeS_len]; omega⟩ hsp ?_
    refine Hp.rdpsr 3 (by rw [hL]; kernel_rfl) (by decide) (by decide) rfl ?_
    refine Hp.alui 5 4 3 31 (v := cwp) (by rw [hL]; kernel_rfl) (by decide) (by decide) (by decide) (by decide) rfl (pack31 (by omega) (by omega) hp.1 hf.1) ?_
    refine Hp.trans hnext ?_
    refine Hp.alui 0 1 0 1 (v := u32 (0 + u32 1)) (by rw [hL]; kernel_rfl) (by decide) (by decide) (by decide) (by decide) rfl rfl ?_
    refine Hp.both 8 1 1 4 (v := 2 ^ ((cwp + 1) % E.nw)) (by rw [hL]; kernel_rfl) (by decide) (by decide) (by decide) (by decide) (by decide) rfl (pow_at _ (by omega)) ?_
    refine Hp.wrwim 1 (v := 2 ^ ((cwp + 1) % E.nw)) (by rw [hL]; kernel_rfl) (by decide) rfl (Int.pow_nonneg (by decide)) (wim_lt h32 hnx) (inv_pow h2 h32 hnx) ?_
    exact hld
end
end Go.Proofs.YtajholbcpmjhiaaGreatDoor
/- Plain law: a TRAP of yield or end, its handler, and where the machine goes on. No program in sight. -/
namespace Go.Proofs.YtajholbcpmjhiaaGreatDoor
open Go.RowKit
set_option linter.unusedVariables false
set_option linter.unusedSimpArgs false
def Hn.at (m : Mx) (cw : Nat) (fl pc : Int) (i : Nat) : Hn := ⟨m.f.win, m.f.glo.drop 128, m.mem, i, m.wim, cw, fl, m.tpc.set 16 pc, m.ch⟩
theorem trap_at {m : Mx} (hok : m.ok) (hk : m.kind = 0) {c cw : Nat} {pil fl pc : Int} (hpc : m.pc = c) (hp : m.p = ⟨cw, pil, 0, fl⟩) {x : Ix} (hx : CodeAt m.mem c x) {kind : Nat} (hw : opS m x (getM m x.rs1) (sndM m x) = winM m kind pc) {n lo i : Nat} (hj : CodeAt m.mem (256 + 16 * kind) ⟨17, 0, 0, 0, true, n⟩) (hlo : 256 + 16 * kind + 4 * n = lo + 4 * i) (hlo3 : lo + 4 * i < 4194304) (L : List Ix) (hL : Codes m.mem lo L) (hlo2 : 256 ≤ lo) :
    (stepM m 0).kind = 0 ∧ (stepM m 0).p.bank = 16 ∧ stepM (stepM m 0) 0 = hm (He.of m pil lo L) (Hn.at m cw fl pc i) ∧ Hs (He.of m pil lo L) (Hn.at m cw fl pc i) := by
  have h1 : stepM m 0 = trapM m 16 kind pc := by
    rw [step_code hk hok.noirq hpc hx, hw]
    unfold winM
    rw [if_pos (by rw [hp])]
  have hk1 : (stepM m 0).kind = 0 := by rw [h1]; exact hk
  have hb1 : (stepM m 0).p.bank = 16 := by rw [h1]; rfl
  have hok1 := stepM_ok hok (level := 0) (by omega)
  have hok2 := stepM_ok hok1 (level := 0) (by omega)
  have hp1 : (stepM m 0).pc = ((256 + 16 * kind : Nat) : Int) := by rw [h1]; show (256 : Int) + 16 * (kind : Int) = _; omega
  have h2 : stepM (stepM m 0) 0 = hm (He.of m pil lo L) (Hn.at m cw fl pc i) := by
    rw [step_code hk1 hok1.noirq hp1 (show CodeAt (stepM m 0).mem _ ⟨17, 0, 0, 0, true, n⟩ by rw [h1]; exact hj)]
    unfold opS sndM
    simp only
    rw [if_neg (by decide), if_neg (by decide), if_neg (by decide), if_pos (by decide), if_pos (show holdsS (Int.toNat 0) _ = true from rfl), if_pos (by decide), hp1]
    have e : u32 (((256 + 16 * kind : Nat) : Int) + 4 * u32 (n : Int)) = ((lo + 4 * i : Nat) : Int) := by unfold u32; omega
    rw [e, h1]
    unfold trapM hm He.of Hn.at
    simp only [hp, List.take_append_drop, hk]
    rfl
  refine ⟨hk1, hb1, h2, ?_, ?_, ?_, hlo2, hL⟩
  · show (m.f.glo.take 128).length = 128
    rw [List.length_take, hok.f.gl]; rfl
  · show (m.f.glo.drop 128).length = 8
    rw [List.length_drop, hok.f.gl]
  · rw [← h2]; exact hok2
/-- The machine behind a turn of swap. -/
structure AfterS (m m' : Mx) (pc : Int) (k : Nat) : Prop where
  ok : m'.ok
  kind : m'.kind = 0
  pc : m'.pc = pc
  p : m'.p = m.p
  wim : m'.wim = 2 ^ k
  out : m'.out = m.out
  nw : m'.f.nw = m.f.nw
  glo : m'.f.glo.take 128 = m.f.glo.take 128
theorem path_at {E : He} {n : Nat} {c : Int} {s s' : Hn} (h : Path PH n (hm E s) (hm E s')) : Path (Not4 c) n (hm E s) (hm E s') :=
  h.mono fun m hm => ⟨hm.1, fun e => by rw [hm.2.1] at e; exact absurd e.2 (by decide)⟩
theorem swap_core {m : Mx} (hok : m.ok) (hk : m.kind = 0) {c cw : Nat} {pil fl pc pcN : Int} (hpc : m.pc = c) (hp : m.p = ⟨cw, pil, 0, fl⟩) {x : Ix} (hx : CodeAt m.mem c x) {kind : Nat} (hw : opS m x (getM m x.rs1) (sndM m x) = winM m kind pc)
    {n lo i : Nat} (hj : CodeAt m.mem (256 + 16 * kind) ⟨17, 0, 0, 0, true, n⟩) (hlo : 256 + 16 * kind + 4 * n = lo + 4 * i) (hlo3 : lo + 4 * i < 4194304) (L : List Ix) (hL : Codes m.mem lo L) (hlo2 : 256 ≤ lo) (hne : (c : Int) ≠ pcN)
    {N k2 i2 : Nat} {fl2 : Int} {win2 mem2 g2 tpc2 ch2 : List Int} (hg2 : g2.length = 8)
    (hrun : Hp (He.of m pil lo L) N (Hn.at m cw fl pc i) ⟨win2, g2, mem2, i2, 2 ^ k2, cw, fl2, tpc2, ch2⟩) (ht2 : tpc2.getD 16 0 = pcN) (hend : L[i2]? = some ⟨32, 0, 0, 0, false, 0⟩) :
    ∃ m', Path (Not4 pcN) (N + 3) m m' ∧ AfterS m m' pcN k2 ∧ m'.f.win = win2 ∧ m'.mem = mem2 := by
  have hpb : m.p.bd := hok.pb
  have hpm : pmayP m.p m.nw := hok.pm
  have hwp : winP m.nw := hok.win
  obtain ⟨k1, b1, e1, hs⟩ := trap_at hok hk hpc hp hx hw hj hlo hlo3 L hL hlo2
  obtain ⟨hpath, hs2⟩ := hrun hs
  have hq : (He.of m pil lo L).tpsr.getD 16 0 = packW m.p := by
    show (m.tpsr.set 16 (packS m.p m.nw)).getD 16 0 = _
    rw [List.getD_eq_getElem?_getD, List.getElem?_set_self (by rw [hok.sl]; decide)]
    show packS m.p m.nw = _
    unfold packS; rw [if_pos ⟨hwp, hpm⟩]
  have hr := rett_out hs2 hend hpb hpm hwp hq ht2
  have hokr : (outM (He.of m pil lo L) ⟨win2, g2, mem2, i2, 2 ^ k2, cw, fl2, tpc2, ch2⟩ pcN m.p).ok := by
    rw [← hr]; exact stepM_ok hs2.ok (by omega)
  refine ⟨outM (He.of m pil lo L) ⟨win2, g2, mem2, i2, 2 ^ k2, cw, fl2, tpc2, ch2⟩ pcN m.p, ?_, ⟨hokr, rfl, rfl, rfl, rfl, rfl, rfl, ?_⟩, rfl, rfl⟩
  · rw [show N + 3 = 1 + 1 + N + 1 by omega]
    refine Path.trans (b := hm (He.of m pil lo L) ⟨win2, g2, mem2, i2, 2 ^ k2, cw, fl2, tpc2, ch2⟩) (Path.trans (b := hm (He.of m pil lo L) (Hn.at m cw fl pc i)) (Path.trans (b := stepM m 0) ?_ ?_) (path_at hpath)) ?_
    · exact ⟨⟨hk, fun e => hne (hpc.symm.trans e.1)⟩, rfl⟩
    · exact ⟨⟨k1, fun e => by rw [b1] at e; exact absurd e.2 (by decide)⟩, e1⟩
    · exact ⟨⟨rfl, fun e => absurd e.2 (by show ¬ ((16 : Int) = 0); decide)⟩, hr⟩
  · show (m.f.glo.take 128 ++ g2).take 128 = _
    rw [List.take_append_of_le_length (by rw [List.length_take, hok.f.gl]; decide), List.take_take]
    rfl
theorem op33 (m : Mx) (k a b : Int) : opS m ⟨33, 0, 0, 0, true, k⟩ a b = winM m k (u32 (m.pc + 4)) := by
  unfold opS; simp only
  rw [if_neg (by decide), if_neg (by decide), if_neg (by decide), if_neg (by decide), if_neg (by decide), if_neg (by decide), if_neg (by decide), if_neg (by decide), if_neg (by decide), if_neg (by decide), if_neg (by decide), if_neg (by decide), if_neg (by decide), if_neg (by decide), if_neg (by decide), if_neg (by decide), if_neg (by decide), if_neg (by decide), if_neg (by decide), if_pos (by decide)]
/-- A machine at its TRAP. -/
structure AtTrap (m : Mx) (cw inv n : Nat) (pil fl : Int) (cur T c : Nat) (al : Nat → Nat) (en : Bool) : Prop where
  ok : m.ok
  kind : m.kind = 0
  pc : m.pc = ((1536 : Nat) : Int)
  p : m.p = ⟨cw, pil, 0, fl⟩
  cwL : cw < m.f.nw
  invL : inv < m.f.nw
  wim : m.wim = 2 ^ inv
  n0 : 0 < n
  nn : n < m.f.nw
  ne : (cw + n) % m.f.nw = inv
  no : ∀ j, 0 < j → j < n → (cw + j) % m.f.nw ≠ inv
  len : m.mem.length = 8192
  hs : Codes m.mem 768 (swapI m.f.nw)
  v3 : CodeAt m.mem 304 ⟨17, 0, 0, 0, true, 120⟩
  v4 : CodeAt m.mem 320 ⟨17, 0, 0, 0, true, 112⟩
  at' : CodeAt m.mem 1536 ⟨33, 0, 0, 0, true, if en then 4 else 3⟩
  fr : FramesW m.f.win m.f.nw 8192
  curL : loadS m.mem 128 4 = (cur : Int)
  cur4 : cur < T
  T4 : 1 ≤ T ∧ T ≤ 4
  th : loadS m.mem 132 4 = (T : Int)
  av : ∀ t, t < T → loadS m.mem (16 * t + 76) 4 = (al t : Int)
  one : ∀ t, al t ≤ 1
  cb : c < 4294967296
  ch : m.ch.headD 0 = (c : Int)
/-- Who is alive behind an end. -/
def alE (al : Nat → Nat) (cur : Nat) (en : Bool) (t : Nat) : Nat := if en = true ∧ t = cur then 0 else al t
/-- The memory behind the first half. -/
def halfS (m : Mx) (cw n cur : Nat) (en : Bool) : List Int := if en then storeS m.mem (16 * cur + 76) 4 0 else keepS (flushS m.f.win m.f.nw cw n m.mem) cur 1540 (frW m.f.win m.f.nw cw)
theorem load_flush {win : List Int} {nw cwp : Nat} {d : List Int} {a : Nat} (ha : a + 4 ≤ 2048) (hfr : ∀ k, 2048 ≤ frW win nw ((cwp + k) % nw)) : ∀ k, loadS (flushS win nw cwp k d) a 4 = loadS d a 4
  | 0 => rfl
  | k + 1 => by unfold flushS; rw [load_put_before _ _ _ _ (by have := hfr k; omega), load_flush ha hfr k]
theorem load_far {d : List Int} {a b : Nat} (x : Int) (h : a + 4 ≤ b ∨ b + 4 ≤ a) : loadS (storeS d b 4 x) a 4 = loadS d a 4 := by
  unfold loadS storeS
  rw [if_pos rfl, if_pos rfl, if_pos rfl]
  have e : ∀ i, a ≤ i → i < a + 4 → ((((d.set (b + 3) (x % 256)).set (b + 2) (x / 256 % 256)).set (b + 1) (x / 65536 % 256)).set b (x / 16777216 % 256)).getD i 0 = d.getD i 0 := fun i h1 h2 => by
    simp only [List.getD_eq_getElem?_getD]
    rw [List.getElem?_set_ne (by omega), List.getElem?_set_ne (by omega), List.getElem?_set_ne (by omega), List.getElem?_set_ne (by omega)]
  rw [e a (by omega) (by omega), e (a + 1) (by omega) (by omega), e (a + 2) (by omega) (by omega), e (a + 3) (by omega) (by omega)]
theorem load_own {d : List Int} {a : Nat} {x : Int} (hx : 0 ≤ x ∧ x < 4294967296) (ha : a + 4 ≤ d.length) : loadS (storeS d a 4 x) a 4 = x := by
  have := load_put [x] d a 0 (fun y hy => by rw [List.mem_singleton.1 hy]; exact hx) (by simpa using ha) (by simp)
  simpa [putS] using this
theorem half_tcb {m : Mx} {cw inv n : Nat} {pil fl : Int} {cur T c : Nat} {al : Nat → Nat} {en : Bool} (h : AtTrap m cw inv n pil fl cur T c al en) : (halfS m cw n cur en).length = 8192 ∧ Tcb (halfS m cw n cur en) T (alE al cur en) := by
  have hlen := h.len
  have hT := h.T4
  have hc := h.cur4
  have hnw := h.ok.f.nw2
  have hfr : ∀ k, 2048 ≤ frW m.f.win m.f.nw ((cw + k) % m.f.nw) := fun k => (h.fr.at (Nat.mod_lt _ (by omega))).2.1
  have hl : (halfS m cw n cur en).length = 8192 := by
    unfold halfS keepS; split
    · rw [storeS_len]; exact hlen
    · rw [storeS_len, storeS_len, flushS_len]; exact hlen
  have hone : ∀ t, alE al cur en t ≤ 1 := fun t => by unfold alE; split; omega; exact h.one t
  refine ⟨hl, by omega, by omega, hT, ?_, fun t ht => ?_, hone⟩
  · unfold halfS keepS
    cases en
    · show loadS (storeS (storeS _ _ 4 _) _ 4 _) 132 4 = _
      rw [load_far _ (by omega), load_far _ (by omega), load_flush (by decide) hfr]; exact h.th
    · show loadS (storeS _ _ 4 _) 132 4 = _
      rw [load_far _ (by omega)]; exact h.th
  · unfold halfS keepS alE
    cases en
    · rw [if_neg (by simp)]
      show loadS (storeS (storeS _ _ 4 _) _ 4 _) (16 * t + 76) 4 = _
      rw [load_far _ (by omega), load_far _ (by omega), load_flush (by omega) hfr]; exact h.av t ht
    · show loadS (storeS _ _ 4 _) (16 * t + 76) 4 = _
      by_cases e : t = cur
      · subst e
        rw [if_pos ⟨rfl, rfl⟩, load_own (by omega) (by omega)]; rfl
      · rw [if_neg (by simp [e]), load_far _ (by omega)]; exact h.av t ht
/-- Where the thread's frame lies that goes on. -/
theorem swap_turn {m : Mx} {cw inv n : Nat} {pil fl : Int} {cur T c : Nat} {al : Nat → Nat} {en : Bool} (h : AtTrap m cw inv n pil fl cur T c al en) (hn : 0 < cntL (alE al cur en) T 0) {t : Nat} (ht : t = seekL (alE al cur en) T 0 (c % cntL (alE al cur en) T 0))
    {sp : Nat} {pc : Int} (hsp : loadS (halfS m cw n cur en) (16 * t + 68) 4 = (sp : Int)) (hs : 2048 ≤ sp ∧ sp % 4 = 0 ∧ sp + 64 ≤ 8192) (hpc : loadS (halfS m cw n cur en) (16 * t + 64) 4 = pc) (hne : pc ≠ 1536) :
    ∃ k m', k ≤ 26 * n + 125 ∧ Path (Not4 pc) k m m' ∧ AfterS m m' pc ((cw + 1) % m.f.nw) ∧ m'.f.win = setW (m.f.win.set (16 * ((cw + m.f.nw - 1) % m.f.nw) + 14) sp) cw (wordsS (nextS (halfS m cw n cur en) t) sp 16) ∧ m'.mem = nextS (halfS m cw n cur en) t := by
  have hlen := h.len
  have hT := h.T4
  have hc := h.cur4
  have hnw2 := h.ok.f.nw2
  have hnw32 := h.ok.f.nw32
  obtain ⟨hl8, htcb⟩ := half_tcb h
  have htl := seek_lt (alE al cur en) T 0 _ (Nat.mod_lt c hn) htcb.one
  rw [← ht] at htl
  have ht4 : t < 4 := by omega
  have hpb : m.p.bd := h.ok.pb
  have hpm : pmayP m.p m.nw := h.ok.pm
  rw [h.p] at hpb hpm
  have hp : 0 ≤ pil ∧ pil < 16 := ⟨hpb.2.1.1, hpm.2.1⟩
  have hf : 0 ≤ fl ∧ fl < 16 := ⟨hpb.2.2.2.1, hpm.2.2.2⟩
  have hwl := h.ok.f.wl
  have hfr : ∀ k, 2048 ≤ frW m.f.win m.f.nw ((cw + k) % m.f.nw) := fun k => (h.fr.at (Nat.mod_lt _ (by omega))).2.1
  have hg8 : (m.f.glo.drop 128).length = 8 := by rw [List.length_drop, h.ok.f.gl]
  have h16 : (m.tpc.set 16 (1540 : Int)).getD 16 0 = 1540 := by
    rw [List.getD_eq_getElem?_getD, List.getElem?_set_self (by rw [h.ok.tl]; decide)]; rfl
  have hspN : loadS (nextS (halfS m cw n cur en) t) (16 * t + 68) 4 = (sp : Int) := by
    unfold nextS; rw [load_far _ (by omega), load_far _ (by omega)]; exact hsp
  have hpcN : loadS (nextS (halfS m cw n cur en) t) (16 * t + 64) 4 = pc := by
    unfold nextS; rw [load_far _ (by omega), load_far _ (by omega)]; exact hpc
  -- behind the first half
  have hrest : ∀ (g : List Int) (fl1 : Int) (tp : List Int), 0 ≤ fl1 ∧ fl1 < 16 → g.length = 8 → tp.length = 17 → ∃ N g' fl', N ≤ 43 + 15 * T ∧ g'.length = 8 ∧ Hp (He.of m pil 768 (swapI m.f.nw)) N ⟨m.f.win, g, halfS m cw n cur en, 42, 2 ^ inv, cw, fl1, tp, m.ch⟩ ⟨setW (m.f.win.set (16 * ((cw + m.f.nw - 1) % m.f.nw) + 14) sp) cw (wordsS (nextS (halfS m cw n cur en) t) sp 16), g', nextS (halfS m cw n cur en) t, 100, 2 ^ ((cw + 1) % m.f.nw), cw, fl', tp.set 16 pc, m.ch.tail⟩ := by
    intro g fl1 tp hfl1 hg htp
    obtain ⟨N1, g1, fl2, hN1, hfl2, hg1, q4, q5, hrun1⟩ := choose_run (E := He.of m pil 768 (swapI m.f.nw)) (win := m.f.win) (tpc := tp) (ch := m.ch) (cwp := cw) (wim := 2 ^ inv) (fl := fl1) rfl htcb h.cb h.ch hn hg
    rw [← ht] at q4 q5
    obtain ⟨N2, g2, fl3, hN2, hg2, hrun2⟩ := resume_run (E := He.of m pil 768 (swapI m.f.nw)) (win := m.f.win) (mem := halfS m cw n cur en) (tpc := tp) (ch := m.ch.tail) (cwp := cw) (wim := 2 ^ inv) (fl := fl2) rfl rfl hnw2 hnw32 hp hfl2 h.cwL hwl (by omega) (by omega) ht4 hspN hpcN ⟨by omega, hs.2.1, by omega⟩ hg1 q4 q5
    exact ⟨N1 + N2, g2, fl3, by omega, hg2, hrun1.trans hrun2⟩
  have htp2 : ∀ tp : List Int, tp.length = 17 → (tp.set 16 pc).getD 16 0 = pc := fun tp htp => by
    rw [List.getD_eq_getElem?_getD, List.getElem?_set_self (by omega)]; rfl
  have htl17 : (m.tpc.set 16 (1540 : Int)).length = 17 := by rw [List.length_set]; exact h.ok.tl
  have hne' : ((1536 : Nat) : Int) ≠ pc := fun e => hne e.symm
  have hu : u32 (m.pc + 4) = 1540 := by rw [h.pc]; rfl
  cases en
  · obtain ⟨N1, g1, hN1, hg1, hrun1⟩ := yield_run (E := He.of m pil 768 (swapI m.f.nw)) (win := m.f.win) (mem := m.mem) (tpc := m.tpc.set 16 1540) (ch := m.ch) (cwp := cw) (fl := fl) rfl rfl hnw2 hnw32 hp hf h.cwL hwl (by omega) (by rw [hlen]; exact h.fr) h.n0 h.nn h.invL h.ne h.no (t := cur) (by omega) ((load_flush (by decide) hfr n).trans h.curL) (by omega) (pc := 1540) h16 hg8
    obtain ⟨N2, g2, fl2, hN2, hg2, hrun2⟩ := hrest g1 fl (m.tpc.set 16 1540) hf hg1 htl17
    obtain ⟨m', r1, r2, r3, r4⟩ := swap_core h.ok h.kind h.pc h.p h.at' (kind := 3) (pc := 1540) (by rw [show (if false = true then (4 : Int) else 3) = 3 from rfl, op33, hu]; rfl) (n := 120) (lo := 768) (i := 4) h.v3 (by decide) (by decide) (swapI m.f.nw) h.hs (by decide) hne' hg2 (by show Hp _ _ ⟨m.f.win, m.f.glo.drop 128, m.mem, 4, m.wim, cw, fl, m.tpc.set 16 1540, m.ch⟩ _; rw [h.wim]; exact hrun1.trans hrun2) (htp2 _ htl17) (sw_end _)
    exact ⟨_, m', by omega, r1, r2, r3, r4⟩
  · obtain ⟨g1, hg1, hrun1⟩ := end_run (E := He.of m pil 768 (swapI m.f.nw)) (win := m.f.win) (mem := m.mem) (tpc := m.tpc.set 16 1540) (ch := m.ch) (cwp := cw) (wim := 2 ^ inv) (fl := fl) rfl rfl (by omega) (t := cur) (by omega) h.curL hg8
    obtain ⟨N2, g2, fl2, hN2, hg2, hrun2⟩ := hrest g1 fl (m.tpc.set 16 1540) hf hg1 htl17
    obtain ⟨m', r1, r2, r3, r4⟩ := swap_core h.ok h.kind h.pc h.p h.at' (kind := 4) (pc := 1540) (by rw [show (if true = true then (4 : Int) else 3) = 4 from rfl, op33, hu]; rfl) (n := 112) (lo := 768) (i := 0) h.v4 (by decide) (by decide) (swapI m.f.nw) h.hs (by decide) hne' hg2 (by show Hp _ _ ⟨m.f.win, m.f.glo.drop 128, m.mem, 0, m.wim, cw, fl, m.tpc.set 16 1540, m.ch⟩ _; rw [h.wim]; exact hrun1.trans hrun2) (htp2 _ htl17) (sw_end _)
    exact ⟨_, m', by omega, r1, r2, r3, r4⟩
end Go.Proofs.YtajholbcpmjhiaaGreatDoor
