/- Several texts in one: WindRun. -/
import Derived.Test.YtajholbcpmjhiaaGreatDoorH01
import Derived.Test.YtajholbcpmjhiaaGreatDoorH02
import Derived.Test.YtajholbcpmjhiaaGreatDoorH03
import Derived.Test.YtajholbcpmjhiaaGreatDoorH04
import Derived.Test.YtajholbcpmjhiaaGreatDoorH05
import Derived.Test.YtajholbcpmjhiaaGreatDoorH06
import Derived.Test.YtajholbcpmjhiaaGreatDoorH07
import Derived.Test.YtajholbcpmjhiaaGreatDoorH08
import Derived.Test.YtajholbcpmjhiaaGreatDoorH09
import Derived.Test.YtajholbcpmjhiaaGreatDoorH10
import Derived.Test.YtajholbcpmjhiaaGreatDoorH11
import Derived.Test.YtajholbcpmjhiaaGreatDoorH12
import Derived.WalkKit
import Derived.Laws.AppendOwn
import Derived.Below
import Derived.Deep.QuietTactic
import Derived.BigQuiet
import Derived.WalkSpells
import Derived.Test.YtajholbcpmjhiaaGreatDoorProg
import Derived.Handy
import Derived.WalkLawsBesides
import Derived.RegionTactic
import Derived.Outline
import Derived.Lib.BitFns
import Derived.StillTailTactics
import Derived.BigRegion
import Derived.ChangeAlike
import Derived.Maps.OwnSet
import Derived.Maps.Views
import Derived.Laws.AppendOwnNone
import Derived.WalkArith
import Derived.OneCell
import Derived.ArgAppend
import Derived.Lib.SliceRun
import Derived.Laws.Rows
import Derived.IntWalk
import Derived.Laws.CopyOwn
import Derived.Great.Ranges
/- Plain law: the two handlers of window traps, run whole up to their RETT. No program in sight. -/
namespace Go.Proofs.YtajholbcpmjhiaaGreatDoor
open Go.RowKit
set_option linter.unusedVariables false
set_option linter.unusedSimpArgs false
theorem inv_pow {nw k : Nat} (h2 : 2 ≤ nw) (h32 : nw ≤ 32) (hk : k < nw) : invE (2 ^ k) nw = 0 := by
  unfold invE; rw [if_pos (show winP (nw : Int) from ⟨by omega, by omega⟩), inv_some rfl (by omega)]
theorem inv_powV {nw k : Nat} (h2 : 2 ≤ nw) (h32 : nw ≤ 32) (hk : k < nw) : invV (2 ^ k) nw = k := by
  unfold invV; rw [if_pos (show winP (nw : Int) from ⟨by omega, by omega⟩), inv_some rfl (by omega)]
theorem wim_lt' : ∀ k : Nat, k < 32 → (2 : Int) ^ k < 4294967296 := by decide
theorem wim_lt {k nw : Nat} (h : nw ≤ 32) (hk : k < nw) : (2 : Int) ^ k < 4294967296 := wim_lt' k (by omega)
theorem and31 {n : Int} (h : 0 ≤ n) : andS n 31 = n % 32 := by
  obtain ⟨m, rfl⟩ := Int.eq_ofNat_of_zero_le h
  unfold andS
  rw [Int.toNat_natCast, show (31 : Int).toNat = 2 ^ 5 - 1 from rfl, Nat.and_two_pow_sub_one_eq_mod]
  omega
theorem andBelow {n : Int} (h : 0 ≤ n) (h2 : n < 4294967296) : andS n 4294967264 = 32 * (n / 32) := by
  obtain ⟨m, rfl⟩ := Int.eq_ofNat_of_zero_le h
  unfold andS
  rw [Int.toNat_natCast, show (4294967264 : Int).toNat = 4294967264 from rfl, nat_and_step, nat_and_step (m / 2), nat_and_step (m / 2 / 2), nat_and_step (m / 2 / 2 / 2), nat_and_step (m / 2 / 2 / 2 / 2)]
  rw [show 4294967264 / 2 / 2 / 2 / 2 / 2 = 2 ^ 27 - 1 from rfl, Nat.and_two_pow_sub_one_eq_mod]
  omega
theorem orLow {q c : Int} (hq : 0 ≤ q) (h : 0 ≤ c) (h2 : c < 32) : orS (32 * q) c = 32 * q + c := by
  obtain ⟨m, rfl⟩ := Int.eq_ofNat_of_zero_le hq
  obtain ⟨d, rfl⟩ := Int.eq_ofNat_of_zero_le h
  unfold orS
  rw [show ((32 : Int) * (m : Int)).toNat = 2 ^ 5 * m by omega, Int.toNat_natCast, ← Nat.two_pow_add_eq_or_of_lt (by omega)]
  omega
theorem pack31 {c : Nat} {p f : Int} (h : c < 32) (h0 : 0 ≤ (c : Int)) (hp : 0 ≤ p) (hf : 0 ≤ f) : andS (packW ⟨c, p, 16, f⟩) 31 = c := by
  rw [and31 (by unfold packW; simp only; omega)]
  unfold packW; simp only; omega
theorem flag_eq (a b : Int) : holdsS 1 (flagsS a b) = decide (a = b) ∧ holdsS 2 (flagsS a b) = !decide (a = b) := by
  have h : whasS (flagsS a b) 4 = decide (a = b) := by
    unfold whasS flagsS truthS
    by_cases h1 : a = b <;> simp only [h1, decide_true, decide_false, if_true, if_false, Bool.false_eq_true] <;> split <;> split <;> (try split) <;> decide
  exact ⟨h, by show (!whasS _ 4) = _; rw [h]⟩
theorem flag_ge : ∀ c : Nat, c < 32 → holdsS 4 (flagsS (u32 ((c : Int) - 2)) 0) = decide (2 ≤ c) := by decide
theorem app_at {T R : List Ix} {L : List Ix} (h : L = T ++ R) (j : Nat) : L[T.length + j]? = R[j]? := by
  rw [h, List.getElem?_append_right (by omega), Nat.add_sub_cancel_left]
def overA (nw : Nat) : List Ix := [⟨26, 3, 0, 0, false, 0⟩, aluI 5 4 3 31, aluI 1 4 4 2, ⟨16, 0, 4, 0, true, 0⟩, ⟨17, 4, 0, 0, true, 2⟩, aluI 0 4 4 nw]
def underA (nw : Nat) : List Ix := [⟨26, 3, 0, 0, false, 0⟩, aluI 5 4 3 31, aluI 0 4 4 1, ⟨16, 0, 4, 0, true, nw⟩, ⟨17, 2, 0, 0, true, 2⟩, aluI 0 4 0 0]
def eachL (op : Int) : List Ix := (List.range 16).map (eachI op)
def overR (nw : Nat) : List Ix := overA nw ++ (windowI ++ (eachL 23 ++ endI))
def underR (nw : Nat) : List Ix := underA nw ++ (windowI ++ (eachL 22 ++ endI))
def overL (nw : Nat) : List Ix := turnI nw 9 8 ++ overR nw
def underL (nw : Nat) : List Ix := turnI nw 8 9 ++ underR nw
theorem each_at (op : Int) (j : Nat) (h : j < 16) : (eachL op)[j]? = some (eachI op j) := by
  unfold eachL; rw [List.getElem?_map, List.getElem?_range h]; rfl
theorem mid_at {A B R : List Ix} (j n : Nat) (hn : A.length = n) : (A ++ (B ++ R))[n + j]? = (B ++ R)[j]? := by
  rw [List.getElem?_append_right (by omega), hn, Nat.add_sub_cancel_left]
section
variable {E : He} {win g mem tpc ch : List Int} {cwp t : Nat} {wim fl : Int}
/-- The window in g4 is gone to, of the state's word in g3. -/
theorem window_run {c : Nat} (q : Int) (x0 x1 x2 x5 x6 x7 : Int) (hx0 : E.L[t]? = some (aluI 5 5 3 (-32))) (hx1 : E.L[t + 1]? = some (bothI 6 5 5 4)) (hx2 : E.L[t + 2]? = some ⟨27, 0, 5, 0, false, 0⟩) (hc : c < E.nw) (hcw : cwp < E.nw) (hnw : E.nw ≤ 32) (hp : 0 ≤ E.pil ∧ E.pil < 16) (hf : 0 ≤ fl ∧ fl < 16) (hq : 0 ≤ q ∧ q < 16) :
    ∃ y5, Hp E 3 ⟨win, [x0, x1, x2, packW ⟨cwp, E.pil, 16, fl⟩, c, x5, x6, x7], mem, t, wim, cwp, q, tpc, ch⟩ ⟨win, [x0, x1, x2, packW ⟨cwp, E.pil, 16, fl⟩, c, y5, x6, x7], mem, t + 3, wim, c, fl, tpc, ch⟩ := by
  refine ⟨packW ⟨c, E.pil, 16, fl⟩, ?_⟩
  refine Hp.alui 5 5 3 (-32) (v := 32 * (packW ⟨cwp, E.pil, 16, fl⟩ / 32)) hx0 (by decide) (by decide) (by decide) (by decide) rfl ?_ ?_
  · have e : ∀ n : Int, n = packW ⟨cwp, E.pil, 16, fl⟩ → andS n 4294967264 = 32 * (packW ⟨cwp, E.pil, 16, fl⟩ / 32) := fun n hn => by
      subst hn; exact andBelow (by unfold packW; simp only; omega) (by unfold packW; simp only; omega)
    exact e _ rfl
  refine Hp.both 6 5 5 4 (v := packW ⟨c, E.pil, 16, fl⟩) hx1 (by decide) (by decide) (by decide) (by decide) (by decide) rfl ?_ ?_
  · have e : orS (32 * (packW ⟨cwp, E.pil, 16, fl⟩ / 32)) c = packW ⟨c, E.pil, 16, fl⟩ := by
      rw [orLow (by unfold packW; simp only; omega) (by omega) (by omega)]
      unfold packW; simp only; omega
    exact e
  refine Hp.wrpsr 5 (c := c) (f := fl) hx2 (by decide) rfl hc hnw hp hf ?_
  exact Hp.refl _ _
theorem over_run (hL : E.L = overL E.nw) {k : Nat} (hk : k < E.nw) (hwim : wim = 2 ^ k) (hnw : 2 ≤ E.nw) (hnw2 : E.nw ≤ 32) (hc : cwp < E.nw) (hp : 0 ≤ E.pil ∧ E.pil < 16) (hf : 0 ≤ fl ∧ fl < 16) (hg : g.length = 8) (hwl : win.length = 16 * E.nw) (hm : mem.length ≤ 4194304)
    {A last : Nat} (hlast : last = (cwp + E.nw - 2) % E.nw) (hA : win.getD (16 * ((last + E.nw - 1) % E.nw) + 14) 0 = A) (ha : 64 ≤ A ∧ A % 4 = 0 ∧ A + 64 ≤ mem.length) (hfar : A + 64 ≤ E.lo ∨ E.lo + 4 * E.L.length ≤ A) :
    ∃ g' n, g'.length = 8 ∧ n ≤ (turnI E.nw 9 8).length + 26 ∧ Hp E n ⟨win, g, mem, 0, wim, cwp, fl, tpc, ch⟩ ⟨win, g', putS mem A ((win.drop (16 * last)).take 16), (turnI E.nw 9 8).length + 26, 2 ^ ((k + E.nw - 1) % E.nw), last, fl, tpc, ch⟩ := by
  obtain ⟨g1, hg1, h2, hT⟩ := turn_run (E := E) (win := win) (g := g) (mem := mem) (tpc := tpc) (ch := ch) (cwp := cwp) (wim := wim) (fl := fl) 9 8 (by decide) (by decide) (fun _ => rfl) (fun _ => rfl) hL hnw hnw2 hg
  have e2 : turnV E.nw 9 8 wim = 2 ^ ((k + E.nw - 1) % E.nw) := by rw [hwim]; exact turnV_over E.nw (by omega) hnw k hk
  rw [e2] at h2
  clear e2
  have hR : ∀ j, E.L[(turnI E.nw 9 8).length + j]? = (overR E.nw)[j]? := fun j => app_at hL j
  generalize hTl : (turnI E.nw 9 8).length = T at *
  have hll : last < E.nw := by rw [hlast]; exact Nat.mod_lt _ (by omega)
  obtain ⟨x0, x1, x2, x3, x4, x5, x6, x7, rfl⟩ := eight hg1
  have h2' : x2 = 2 ^ ((k + E.nw - 1) % E.nw) := h2
  subst h2'
  have hend : ∀ y5 : Int, Hp E 17 ⟨win, [x0, x1, 2 ^ ((k + E.nw - 1) % E.nw), packW ⟨cwp, E.pil, 16, fl⟩, last, y5, x6, x7], mem, T + 6 + 3, wim, last, fl, tpc, ch⟩ ⟨win, [x0, x1, 2 ^ ((k + E.nw - 1) % E.nw), packW ⟨cwp, E.pil, 16, fl⟩, last, y5, x6, x7], putS mem A ((win.drop (16 * last)).take 16), T + 26, 2 ^ ((k + E.nw - 1) % E.nw), last, fl, tpc, ch⟩ := fun y5 => by
    have hs := store_run (E := E) (win := win) (g := [x0, x1, 2 ^ ((k + E.nw - 1) % E.nw), packW ⟨cwp, E.pil, 16, fl⟩, (last : Int), y5, x6, x7]) (mem := mem) (tpc := tpc) (ch := ch) (cwp := last) (wim := wim) (fl := fl) (T + 9) (fun j hj => by
      rw [show T + 9 + j = T + (9 + j) by omega, hR]
      show (overA E.nw ++ (windowI ++ (eachL 23 ++ endI)))[9 + j]? = _
      rw [← List.append_assoc, mid_at (A := overA E.nw ++ windowI) j 9 rfl, List.getElem?_append_left (by unfold eachL; simp; omega)]
      exact each_at 23 j hj) hA ha hm hfar (by omega) 16 (Nat.le_refl _)
    rw [List.take_take] at hs
    refine Hp.trans hs (Hp.wrwim 2 (v := 2 ^ ((k + E.nw - 1) % E.nw)) ?_ (by decide) rfl ?_ ?_ ?_ (Hp.refl _ _))
    · rw [show T + 9 + 16 = T + 25 by omega, hR]; rfl
    · exact Int.pow_nonneg (by decide)
    · exact wim_lt hnw2 (Nat.mod_lt _ (by omega))
    · exact inv_pow hnw hnw2 (Nat.mod_lt _ (by omega))
  have hpre : ∀ v : Int, (v = last) → ∃ y5, Hp E (3 + 17) ⟨win, [x0, x1, 2 ^ ((k + E.nw - 1) % E.nw), packW ⟨cwp, E.pil, 16, fl⟩, v, x5, x6, x7], mem, T + 6, wim, cwp, flagsS (u32 ((cwp : Int) - 2)) 0, tpc, ch⟩ ⟨win, [x0, x1, 2 ^ ((k + E.nw - 1) % E.nw), packW ⟨cwp, E.pil, 16, fl⟩, last, y5, x6, x7], putS mem A ((win.drop (16 * last)).take 16), T + 26, 2 ^ ((k + E.nw - 1) % E.nw), last, fl, tpc, ch⟩ := fun v hv => by
    subst hv
    obtain ⟨y5, hw⟩ := window_run (E := E) (win := win) (mem := mem) (tpc := tpc) (ch := ch) (cwp := cwp) (wim := wim) (fl := fl) (t := T + 6) (c := last) (flagsS (u32 ((cwp : Int) - 2)) 0) x0 x1 (2 ^ ((k + E.nw - 1) % E.nw)) x5 x6 x7 (by rw [hR]; rfl) (by rw [show T + 6 + 1 = T + 7 from rfl, hR]; rfl) (by rw [show T + 6 + 2 = T + 8 from rfl, hR]; rfl) hll hc hnw2 hp hf (flagsS_bd _ _)
    exact ⟨y5, hw.trans (hend y5)⟩
  have hfirst : ∀ (v : Int) (n : Nat) (s' : Hn), u32 ((cwp : Int) - 2) = v → Hp E n ⟨win, [x0, x1, 2 ^ ((k + E.nw - 1) % E.nw), packW ⟨cwp, E.pil, 16, fl⟩, v, x5, x6, x7], mem, T + 4, wim, cwp, flagsS v 0, tpc, ch⟩ s' → Hp E (n + 4) ⟨win, [x0, x1, 2 ^ ((k + E.nw - 1) % E.nw), x3, x4, x5, x6, x7], mem, T, wim, cwp, fl, tpc, ch⟩ s' := fun v n s' hv h => by
    refine Hp.rdpsr 3 (by have := hR 0; rw [Nat.add_zero] at this; rw [this]; rfl) (by decide) (by decide) rfl ?_
    refine Hp.alui 5 4 3 31 (v := cwp) (by rw [hR 1]; rfl) (by decide) (by decide) (by decide) (by decide) rfl ?_ ?_
    · exact pack31 (by omega) (by omega) hp.1 hf.1
    refine Hp.alui 1 4 4 2 (v := v) (by rw [show T + 1 + 1 = T + 2 from rfl, hR 2]; rfl) (by decide) (by decide) (by decide) (by decide) rfl hv ?_
    refine Hp.cmpi 4 0 (v := flagsS v 0) (by rw [show T + 1 + 1 + 1 = T + 3 from rfl, hR 3]; rfl) (by decide) rfl ?_
    exact h
  have hlen : E.L.length = T + 27 := by rw [hL]; unfold overL; rw [List.length_append, hTl]; rfl
  by_cases h2c : 2 ≤ cwp
  · have hv : u32 ((cwp : Int) - 2) = last := by
      rw [hlast, show cwp + E.nw - 2 = (cwp - 2) + E.nw by omega, Nat.add_mod_right, Nat.mod_eq_of_lt (by omega)]; unfold u32; omega
    obtain ⟨y5, hw⟩ := hpre _ rfl
    refine ⟨_, _, rfl, ?_, hT.trans (hfirst _ _ _ hv (Hp.jump 4 2 (j := T + 6) (by rw [hR 4]; rfl) ?_ (by omega) (by omega) (by rw [hv] at hw; exact hw)))⟩
    · omega
    · rw [← hv, flag_ge cwp (by omega)]; exact decide_eq_true h2c
  · have hv : u32 (u32 ((cwp : Int) - 2) + u32 (E.nw : Int)) = last := by
      rw [hlast, Nat.mod_eq_of_lt (by omega)]; unfold u32; omega
    obtain ⟨y5, hw⟩ := hpre _ rfl
    refine ⟨_, _, rfl, ?_, hT.trans (hfirst _ _ _ rfl (Hp.stay 4 2 (by rw [hR 4]; rfl) ?_ (by omega) (by omega) (Hp.alui 0 4 4 E.nw (v := last) (by rw [show T + 4 + 1 = T + 5 from rfl, hR 5]; rfl) (by decide) (by decide) (by decide) (by decide) rfl hv hw)))⟩
    · omega
    · rw [flag_ge cwp (by omega)]; exact decide_eq_false h2c
theorem under_run (hL : E.L = underL E.nw) {k : Nat} (hk : k < E.nw) (hwim : wim = 2 ^ k) (hnw : 2 ≤ E.nw) (hnw2 : E.nw ≤ 32) (hc : cwp < E.nw) (hp : 0 ≤ E.pil ∧ E.pil < 16) (hf : 0 ≤ fl ∧ fl < 16) (hg : g.length = 8) (hwl : win.length = 16 * E.nw) (hm : mem.length ≤ 4194304)
    {A last : Nat} (hlast : last = (cwp + 1) % E.nw) (hA : win.getD (16 * ((last + E.nw - 1) % E.nw) + 14) 0 = A) (ha : 64 ≤ A ∧ A % 4 = 0 ∧ A + 64 ≤ mem.length) :
    ∃ g' n, g'.length = 8 ∧ n ≤ (turnI E.nw 8 9).length + 26 ∧ Hp E n ⟨win, g, mem, 0, wim, cwp, fl, tpc, ch⟩ ⟨setW win last (wordsS mem A 16), g', mem, (turnI E.nw 8 9).length + 26, 2 ^ ((k + 1) % E.nw), last, fl, tpc, ch⟩ := by
  obtain ⟨g1, hg1, h2, hT⟩ := turn_run (E := E) (win := win) (g := g) (mem := mem) (tpc := tpc) (ch := ch) (cwp := cwp) (wim := wim) (fl := fl) 8 9 (by decide) (by decide) (fun _ => rfl) (fun _ => rfl) hL hnw hnw2 hg
  have e2 : turnV E.nw 8 9 wim = 2 ^ ((k + 1) % E.nw) := by rw [hwim]; exact turnV_under E.nw (by omega) hnw k hk
  rw [e2] at h2
  clear e2
  have hR : ∀ j, E.L[(turnI E.nw 8 9).length + j]? = (underR E.nw)[j]? := fun j => app_at hL j
  generalize hTl : (turnI E.nw 8 9).length = T at *
  have hll : last < E.nw := by rw [hlast]; exact Nat.mod_lt _ (by omega)
  obtain ⟨x0, x1, x2, x3, x4, x5, x6, x7, rfl⟩ := eight hg1
  have h2' : x2 = 2 ^ ((k + 1) % E.nw) := h2
  subst h2'
  have hend : ∀ y5 : Int, Hp E 17 ⟨win, [x0, x1, 2 ^ ((k + 1) % E.nw), packW ⟨cwp, E.pil, 16, fl⟩, last, y5, x6, x7], mem, T + 6 + 3, wim, last, fl, tpc, ch⟩ ⟨setW win last (wordsS mem A 16), [x0, x1, 2 ^ ((k + 1) % E.nw), packW ⟨cwp, E.pil, 16, fl⟩, last, y5, x6, x7], mem, T + 26, 2 ^ ((k + 1) % E.nw), last, fl, tpc, ch⟩ := fun y5 => by
    have hs := load_run (E := E) (win := win) (g := [x0, x1, 2 ^ ((k + 1) % E.nw), packW ⟨cwp, E.pil, 16, fl⟩, (last : Int), y5, x6, x7]) (mem := mem) (tpc := tpc) (ch := ch) (cwp := last) (wim := wim) (fl := fl) (T + 9) (fun j hj => by
      rw [show T + 9 + j = T + (9 + j) by omega, hR]
      show (underA E.nw ++ (windowI ++ (eachL 22 ++ endI)))[9 + j]? = _
      rw [← List.append_assoc, mid_at (A := underA E.nw ++ windowI) j 9 rfl, List.getElem?_append_left (by unfold eachL; simp; omega)]
      exact each_at 22 j hj) hA ha hm hwl hll hnw 16 (Nat.le_refl _)
    refine Hp.trans hs (Hp.wrwim 2 (v := 2 ^ ((k + 1) % E.nw)) ?_ (by decide) rfl ?_ ?_ ?_ (Hp.refl _ _))
    · rw [show T + 9 + 16 = T + 25 by omega, hR]; rfl
    · exact Int.pow_nonneg (by decide)
    · exact wim_lt hnw2 (Nat.mod_lt _ (by omega))
    · exact inv_pow hnw hnw2 (Nat.mod_lt _ (by omega))
  have hpre : ∀ v : Int, (v = last) → ∃ y5, Hp E (3 + 17) ⟨win, [x0, x1, 2 ^ ((k + 1) % E.nw), packW ⟨cwp, E.pil, 16, fl⟩, v, x5, x6, x7], mem, T + 6, wim, cwp, flagsS (u32 ((cwp : Int) + 1)) (u32 (E.nw : Int)), tpc, ch⟩ ⟨setW win last (wordsS mem A 16), [x0, x1, 2 ^ ((k + 1) % E.nw), packW ⟨cwp, E.pil, 16, fl⟩, last, y5, x6, x7], mem, T + 26, 2 ^ ((k + 1) % E.nw), last, fl, tpc, ch⟩ := fun v hv => by
    subst hv
    obtain ⟨y5, hw⟩ := window_run (E := E) (win := win) (mem := mem) (tpc := tpc) (ch := ch) (cwp := cwp) (wim := wim) (fl := fl) (t := T + 6) (c := last) (flagsS (u32 ((cwp : Int) + 1)) (u32 (E.nw : Int))) x0 x1 (2 ^ ((k + 1) % E.nw)) x5 x6 x7 (by rw [hR]; rfl) (by rw [show T + 6 + 1 = T + 7 from rfl, hR]; rfl) (by rw [show T + 6 + 2 = T + 8 from rfl, hR]; rfl) hll hc hnw2 hp hf (flagsS_bd _ _)
    exact ⟨y5, hw.trans (hend y5)⟩
  have hfirst : ∀ (v : Int) (n : Nat) (s' : Hn), u32 ((cwp : Int) + 1) = v → Hp E n ⟨win, [x0, x1, 2 ^ ((k + 1) % E.nw), packW ⟨cwp, E.pil, 16, fl⟩, v, x5, x6, x7], mem, T + 4, wim, cwp, flagsS v (u32 (E.nw : Int)), tpc, ch⟩ s' → Hp E (n + 4) ⟨win, [x0, x1, 2 ^ ((k + 1) % E.nw), x3, x4, x5, x6, x7], mem, T, wim, cwp, fl, tpc, ch⟩ s' := fun v n s' hv h => by
    refine Hp.rdpsr 3 (by have := hR 0; rw [Nat.add_zero] at this; rw [this]; rfl) (by decide) (by decide) rfl ?_
    refine Hp.alui 5 4 3 31 (v := cwp) (by rw [hR 1]; rfl) (by decide) (by decide) (by decide) (by decide) rfl ?_ ?_
    · exact pack31 (by omega) (by omega) hp.1 hf.1
    refine Hp.alui 0 4 4 1 (v := v) (by rw [show T + 1 + 1 = T + 2 from rfl, hR 2]; rfl) (by decide) (by decide) (by decide) (by decide) rfl hv ?_
    refine Hp.cmpi 4 E.nw (v := flagsS v (u32 (E.nw : Int))) (by rw [show T + 1 + 1 + 1 = T + 3 from rfl, hR 3]; rfl) (by decide) rfl ?_
    exact h
  have hlen : E.L.length = T + 27 := by rw [hL]; unfold underL; rw [List.length_append, hTl]; rfl
  by_cases h2c : cwp + 1 ≠ E.nw
  · have hv : u32 ((cwp : Int) + 1) = last := by
      rw [hlast, Nat.mod_eq_of_lt (by omega)]; unfold u32; omega
    obtain ⟨y5, hw⟩ := hpre _ rfl
    refine ⟨_, _, rfl, ?_, hT.trans (hfirst _ _ _ hv (Hp.jump 2 2 (j := T + 6) (by rw [hR 4]; rfl) ?_ (by omega) (by omega) (by rw [hv] at hw; exact hw)))⟩
    · omega
    · rw [(flag_eq _ _).2, decide_eq_false]; rfl
      rw [hlast, Nat.mod_eq_of_lt (by omega)]; unfold u32; omega
  · have hl0 : last = 0 := by rw [hlast, show cwp + 1 = E.nw by omega, Nat.mod_self]
    have hv : u32 (0 + u32 0) = (last : Int) := by rw [hl0]; rfl
    obtain ⟨y5, hw⟩ := hpre _ rfl
    refine ⟨_, _, rfl, ?_, hT.trans (hfirst _ _ _ rfl (Hp.stay 2 2 (by rw [hR 4]; rfl) ?_ (by omega) (by omega) (Hp.alui 0 4 0 0 (v := last) (by rw [show T + 4 + 1 = T + 5 from rfl, hR 5]; rfl) (by decide) (by decide) (by decide) (by decide) rfl hv hw)))⟩
    · omega
    · rw [(flag_eq _ _).2, decide_eq_true]; rfl
      unfold u32; omega
end
end Go.Proofs.YtajholbcpmjhiaaGreatDoor
