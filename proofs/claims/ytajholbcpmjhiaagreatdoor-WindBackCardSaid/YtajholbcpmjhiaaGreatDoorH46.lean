/- Several texts in one: WindBackLaw. -/
import Derived.Test.YtajholbcpmjhiaaGreatDoorH01
import Derived.Test.YtajholbcpmjhiaaGreatDoorH02
import Derived.Test.YtajholbcpmjhiaaGreatDoorH03
import Derived.Test.YtajholbcpmjhiaaGreatDoorH04
import Derived.Test.YtajholbcpmjhiaaGreatDoorH05
import Derived.Test.YtajholbcpmjhiaaGreatDoorH06
import Derived.Test.YtajholbcpmjhiaaGreatDoorH07
import Derived.Test.YtajholbcpmjhiaaGreatDoorH08
import Derived.Test.YtajholbcpmjhiaaGreatDoorH09
import Derived.Test.YtajholbcpmjhiaaGreatDoorH10
import Derived.Test.YtajholbcpmjhiaaGreatDoorH11
import Derived.Test.YtajholbcpmjhiaaGreatDoorH12
import Derived.Test.YtajholbcpmjhiaaGreatDoorH13
import Derived.Test.YtajholbcpmjhiaaGreatDoorH14
import Derived.Test.YtajholbcpmjhiaaGreatDoorH15
import Derived.Test.YtajholbcpmjhiaaGreatDoorH16
import Derived.Test.YtajholbcpmjhiaaGreatDoorH17
import Derived.Test.YtajholbcpmjhiaaGreatDoorH18
import Derived.Test.YtajholbcpmjhiaaGreatDoorH19
import Derived.Test.YtajholbcpmjhiaaGreatDoorH20
import Derived.Test.YtajholbcpmjhiaaGreatDoorH21
import Derived.Test.YtajholbcpmjhiaaGreatDoorH22
import Derived.Test.YtajholbcpmjhiaaGreatDoorH23
import Derived.Test.YtajholbcpmjhiaaGreatDoorH24
import Derived.Test.YtajholbcpmjhiaaGreatDoorH25
import Derived.Test.YtajholbcpmjhiaaGreatDoorH26
import Derived.Test.YtajholbcpmjhiaaGreatDoorH27
import Derived.Test.YtajholbcpmjhiaaGreatDoorH28
import Derived.Test.YtajholbcpmjhiaaGreatDoorH29
import Derived.Test.YtajholbcpmjhiaaGreatDoorH30
import Derived.Test.YtajholbcpmjhiaaGreatDoorH31
import Derived.Test.YtajholbcpmjhiaaGreatDoorH32
import Derived.Test.YtajholbcpmjhiaaGreatDoorH33
import Derived.Test.YtajholbcpmjhiaaGreatDoorH34
import Derived.Test.YtajholbcpmjhiaaGreatDoorH35
import Derived.Test.YtajholbcpmjhiaaGreatDoorH36
import Derived.Test.YtajholbcpmjhiaaGreatDoorH37
import Derived.Test.YtajholbcpmjhiaaGreatDoorH38
import Derived.Test.YtajholbcpmjhiaaGreatDoorH39
import Derived.Test.YtajholbcpmjhiaaGreatDoorH40
import Derived.Test.YtajholbcpmjhiaaGreatDoorH41
import Derived.Test.YtajholbcpmjhiaaGreatDoorH42
import Derived.Test.YtajholbcpmjhiaaGreatDoorH43
import Derived.WalkKit
import Derived.Laws.AppendOwn
import Derived.Below
import Derived.Deep.QuietTactic
import Derived.BigQuiet
import Derived.WalkSpells
import Derived.Test.YtajholbcpmjhiaaGreatDoorProg
import Derived.Handy
import Derived.WalkLawsBesides
import Derived.RegionTactic
import Derived.Outline
import Derived.Lib.BitFns
import Derived.StillTailTactics
import Derived.BigRegion
import Derived.ChangeAlike
import Derived.Maps.OwnSet
import Derived.Maps.Views
import Derived.Laws.AppendOwnNone
import Derived.WalkArith
import Derived.OneCell
import Derived.ArgAppend
import Derived.Lib.SliceRun
import Derived.Laws.Rows
import Derived.IntWalk
import Derived.Laws.CopyOwn
import Derived.Great.Ranges
import Derived.ProofKit
import Derived.OpenShut
import Derived.RangeFuncNested
import Derived.RangeFuncBound
import Derived.RangeFuncCalls
import Derived.RangeFuncLeaves
import Derived.Shelf.Abstract
import Derived.Shelf.RegionOpen
import Derived.OwnWalkIn
import Derived.TacticsInMore
import Derived.LoopNIn
import Derived.LoopIn
import Derived.RegionIn
import Derived.Deep.RegionHeld
import Derived.Deep.RegionHeld3
import Derived.Deep.Cut
import Derived.Laws.EntriesVeiled
import Derived.Deep.RegionLaw
import Derived.Shelf.SlMaps.Clone
import Derived.Deep.AppendLies
import Derived.BigGuardPart
import Derived.Lib.ParseIntB
import Derived.Lib.ItoaNum
import Derived.Shelf.Strings.Cut
import Derived.Shelf.Small.Wraps
import Derived.Shelf.Pu.ParseUintPublic10
import Derived.Shelf.Strconv.Itoa3
import Derived.WalkSmall
import Derived.Lib.IndexMore
import Derived.Maps.AppendAt
import Derived.Deep.Slices
import Derived.Deep.CutRange
/- Plain law: a SAVE that traps, and a RESTORE of it. No program in sight. -/
namespace Go.Proofs.YtajholbcpmjhiaaGreatDoor
open Go.RowKit
set_option linter.unusedVariables false
set_option linter.unusedSimpArgs false
/-- The machine with a RESTORE behind its SAVE. -/
def backM (m : Mx) : Mx := { m with mem := storeV m.mem ((1540 : Nat) : Int) 4 (encS (turnOp true)) }
theorem backM_mem (m : Mx) : (backM m).mem = storeV m.mem ((1540 : Nat) : Int) 4 (encS (turnOp true)) := by simp only [backM]
theorem backM_kind (m : Mx) : (backM m).kind = m.kind := by simp only [backM]
theorem backM_pc (m : Mx) : (backM m).pc = m.pc := by simp only [backM]
theorem backM_p (m : Mx) : (backM m).p = m.p := by simp only [backM]
theorem backM_f (m : Mx) : (backM m).f = m.f := by simp only [backM]
theorem backM_wim (m : Mx) : (backM m).wim = m.wim := by simp only [backM]
theorem backM_out (m : Mx) : (backM m).out = m.out := by simp only [backM]
/-- The file g is f but for registers of two rows; no frame's place is touched. -/
structure Betw (f g : Fx) (a l : Nat) : Prop where
  ok : g.ok
  nw : g.nw = f.nw
  win : ∀ j, (j / 16 ≠ a ∧ j / 16 ≠ l) ∨ j % 16 = 14 → g.win.getD j 0 = f.win.getD j 0
theorem Betw.refl {f : Fx} (h : f.ok) (a l : Nat) : Betw f f a l := ⟨h, rfl, fun _ _ => rfl⟩
theorem Betw.set {f g : Fx} {a l : Nat} (h : Betw f g a l) (ha : a < f.nw) (hl : (a + f.nw - 1) % f.nw = l) {r : Nat} (h8 : 8 ≤ r) (h32 : r < 32) (h14 : r ≠ 14) (h30 : r ≠ 30) {x : Int} (hx : 0 ≤ x ∧ x < 4294967296) : Betw f (setV g (a : Int) 0 (r : Int) x) a l := by
  refine ⟨h.ok.sV _ _ _ hx, (setV_nw _ _ _ _ _).trans h.nw, fun j hj => ?_⟩
  rw [← h.win j hj]
  unfold setV
  rw [if_pos (show regOk g (a : Int) 0 (r : Int) from ⟨⟨by omega, by rw [h.nw]; omega⟩, by omega, by omega, by omega⟩)]
  unfold setF
  simp only [Int.toNat_natCast, h.nw, hl]
  rw [if_neg (by omega), if_neg (by omega)]
  split
  · show (g.win.set _ x).getD j 0 = _
    rw [List.getD_eq_getElem?_getD, List.getD_eq_getElem?_getD, List.getElem?_set_ne (by omega)]
  · show (g.win.set _ x).getD j 0 = _
    rw [List.getD_eq_getElem?_getD, List.getD_eq_getElem?_getD, List.getElem?_set_ne (by omega)]
theorem Codes.putS {d : List Int} {lo : Nat} {L : List Ix} (h : Codes d lo L) (l : List Int) {b : Nat} (hb : lo + 4 * L.length ≤ b) : Codes (putS d b l) lo L := fun i x hx => by
  have hi := (List.getElem?_eq_some_iff.1 hx).1
  exact (h i x hx).putS l (.inl (by omega))
theorem back_at {n a : Nat} (ha : a < n) (h2 : 2 ≤ n) : ((a + n - 1) % n + 1) % n = a := by
  have hl : (a + n - 1) % n < n := Nat.mod_lt _ (by omega)
  rw [more_one hl, less_one ha]
  split <;> split <;> omega
theorem last_ne {n a : Nat} (ha : a < n) (h3 : 3 ≤ n) : (a + n - 2) % n ≠ a := by
  rw [← less_two ha (by omega)]
  have hl : (a + n - 1) % n < n := Nat.mod_lt _ (by omega)
  rw [less_one hl, less_one ha]
  split <;> split <;> omega
structure BackOk (m m2 : Mx) (cw : Nat) (pil fl : Int) : Prop where
  ok : m2.ok
  kind : m2.kind = 0
  pc : m2.pc = ((1540 : Nat) : Int)
  p : m2.p = ⟨((cw + m.f.nw - 1) % m.f.nw : Nat), pil, 0, fl⟩
  wim : m2.wim = 2 ^ ((cw + m.f.nw - 2) % m.f.nw)
  out : m2.out = []
  nw : m2.f.nw = m.f.nw
  win : m2.f.win = m.f.win
  len : m2.mem.length = 4096
  fr : ∃ A : Nat, getV m.f ((cw + m.f.nw - 2) % m.f.nw : Nat) 0 14 = A ∧ 2048 ≤ A ∧ A % 4 = 0 ∧ A + 64 ≤ 4096 ∧ wordsS m2.mem A 16 = winR m.f ((cw + m.f.nw - 2) % m.f.nw)
  c1 : CodeAt m2.mem 1540 ⟨21, 0, 0, 0, false, 0⟩
  hs : Codes m2.mem 768 (windI m.f.nw)
  v1 : CodeAt m2.mem 272 ⟨17, 0, 0, 0, true, 124⟩
  v2 : CodeAt m2.mem 288 ⟨17, 0, 0, 0, true, 120 + (overL m.f.nw).length⟩
theorem back_first {x : CaseW} {m : Mx} (h : MadeW x m) (hm : mayW x) (hok : m.ok) (hok1 : (backM m).ok) (hup : x.up = false) :
    ∃ n m2, 1 ≤ n ∧ n ≤ 60 ∧ Rest ((1540 : Nat) : Int) n (backM m) m2 ∧ BackOk m m2 x.cwp.toNat x.pil x.flags := by
  obtain ⟨ht, e⟩ := h.traps hm hok
  have hn2 := hok.f.nw2
  have hn32 := hok.f.nw32
  have hw : WindIs m.f.nw := wind_is hn2 hn32
  have hcode : WCode m.mem m.f.nw (some (turnOp false)) := by have := h.code; rw [hup] at this; exact this
  have hlen : m.mem.length = 4096 := hcode.len
  have hc2 := hcode.store hw.n (a := 1540) (by decide) (by decide) (by decide) (encS (turnOp true))
  rw [← backM_mem] at hc2
  have hm1 : (backM m).mem = storeS m.mem 1540 4 (wordS (turnOp true)) := by
    rw [backM_mem, storeV_word m.mem 1540 _ (by decide) (by omega), encS_word (by decide)]
  have hl1 : (backM m).mem.length = 4096 := by rw [hm1, storeS_len]; exact hlen
  have hx1 : CodeAt (backM m).mem 1540 ⟨21, 0, 0, 0, false, 0⟩ := by
    rw [hm1]; exact CodeAt.new (by decide) (by omega) (show (turnOp true).bd by decide) (show mayP (turnOp true) by decide)
  have hcw : x.cwp.toNat < m.f.nw := ht.cw
  have ht1 : Traps (backM m) 1536 x.cwp.toNat x.pil x.flags := ⟨hok1, by rw [backM_kind]; exact ht.kind, by rw [backM_pc]; exact ht.pc, by rw [backM_p]; exact ht.p, by rw [backM_f]; exact ht.cw, ht.lo, ht.hi, by rw [backM_f]; exact hc2.hs, by rw [backM_f]; exact ht.n, hc2.v1, by rw [backM_f]; exact hc2.v2⟩
  have hwim : (backM m).wim = 2 ^ ((x.cwp.toNat + m.f.nw - 1) % m.f.nw) := by
    rw [backM_wim, h.wim, e]; unfold toW; rw [hup]; rfl
  have hwo := wind_over ht1 (hc2.c0 _ rfl) (by rw [backM_f]; exact hwim) (room := 4096) (by rw [hl1]; exact Nat.le_refl _) (by rw [backM_f]; exact h.sp)
  have efr : frM (backM m) ((x.cwp.toNat + m.f.nw - 2) % m.f.nw) = frM m ((x.cwp.toNat + m.f.nw - 2) % m.f.nw) := by unfold frM; rw [backM_f]
  rw [backM_f, efr] at hwo
  obtain ⟨n, m', h1, h2, h3, h4, h5⟩ := hwo
  have hll : (x.cwp.toNat + m.f.nw - 2) % m.f.nw < m.f.nw := Nat.mod_lt _ (by omega)
  obtain ⟨a1, a2, a3, a4⟩ := h.sp.frM hll hll
  have h5' := h5
  have hl16 : (winR m.f ((x.cwp.toNat + m.f.nw - 2) % m.f.nw)).length = 16 := winR_len hok.f hll
  have hww : Words (winR m.f ((x.cwp.toNat + m.f.nw - 2) % m.f.nw)) := fun y hy => hok.f.ww y (List.mem_of_mem_drop (List.mem_of_mem_take hy))
  obtain ⟨q1, q2⟩ := rest_of h2 h3 ht1.pc
  refine ⟨n, m', q1, h1, q2, h3.ok, h3.kind, h3.pc, h3.p, h3.wim, by rw [h3.out, backM_out]; exact h.out, by rw [h3.nw, backM_f], h4, by rw [h5', putS_len]; exact hl1, ⟨_, a1, a2, a3, a4, ?_⟩, ?_, ?_, ?_, ?_⟩
  · rw [h5']
    have := words_put (winR m.f ((x.cwp.toNat + m.f.nw - 2) % m.f.nw)) (backM m).mem (frM m ((x.cwp.toNat + m.f.nw - 2) % m.f.nw)) 0 hww (by rw [hl16, hl1]; omega) (by omega)
    rw [hl16] at this
    simpa using this
  · rw [h5']; exact hx1.putS _ (.inl (by omega))
  · rw [h5']; exact hc2.hs.putS _ (by have := hw.n; omega)
  · rw [h5']; exact hc2.v1.putS _ (.inl (by omega))
  · rw [h5']; exact hc2.v2.putS _ (.inl (by omega))
theorem back_second {x : CaseW} {m m2 : Mx} (h : MadeW x m) (hm : mayW x) (hok : m.ok) (hb : BackOk m m2 x.cwp.toNat x.pil x.flags) {f3 : Fx} (hf : Betw m2.f f3 ((x.cwp.toNat + m.f.nw - 1) % m.f.nw) ((x.cwp.toNat + m.f.nw - 2) % m.f.nw)) (hok3 : ({ m2 with f := f3 } : Mx).ok) :
    ∃ n m4, 1 ≤ n ∧ n ≤ 60 ∧ Rest ((1544 : Nat) : Int) n { m2 with f := f3 } m4 ∧ m4.p.cwp = x.cwp ∧ m4.f.nw = m.f.nw ∧ winR m4.f x.cwp.toNat = winR m.f x.cwp.toNat ∧ getV m4.f x.cwp.toNat 0 14 = getV m.f x.cwp.toNat 0 14 := by
  have hn2 := hok.f.nw2
  have hn32 := hok.f.nw32
  have hw : WindIs m.f.nw := wind_is hn2 hn32
  have e := h.nw
  have hcw : x.cwp.toNat < m.f.nw := by have := hm.2.1; omega
  have hcc : ((x.cwp.toNat : Nat) : Int) = x.cwp := Int.toNat_of_nonneg hm.2.1.1
  have hnw3 : f3.nw = m.f.nw := hf.nw.trans hb.nw
  obtain ⟨cw, hcwe⟩ : ∃ cw, cw = x.cwp.toNat := ⟨_, rfl⟩
  rw [← hcwe] at hb hf hcw hcc ⊢
  have hat : (cw + m.f.nw - 1) % m.f.nw < m.f.nw := Nat.mod_lt _ (by omega)
  have hll : (cw + m.f.nw - 2) % m.f.nw < m.f.nw := Nat.mod_lt _ (by omega)
  have eba := back_at hcw hn2
  have elw := less_two hcw hn2
  have hwl := hok.f.wl
  have h14 : ∀ w : Nat, w < m.f.nw → getV f3 w 0 14 = getV m.f w 0 14 := fun w hw2 => by
    rw [getV_out (by omega) (by omega), getV_out hn2 hw2, hf.win _ (.inr (by omega)), hb.win, hnw3]
  have hopc : ∀ m1 : Mx, m1.p = ⟨((cw + m.f.nw - 1) % m.f.nw : Nat), x.pil, 0, x.flags⟩ → m1.f.nw = m.f.nw → opS m1 ⟨21, 0, 0, 0, false, 0⟩ (getM m1 0) (sndM m1 ⟨21, 0, 0, 0, false, 0⟩) = turnM m1 0 (getM m1 0) (sndM m1 ⟨21, 0, 0, 0, false, 0⟩) (cw : Int) 2 := fun m1 e1 e2 => by
    rw [op21, e1]
    unfold Mx.nw
    rw [e2]
    simp only [step_succ hn2 hn32 hat, eba]
  by_cases h3 : 3 ≤ m.f.nw
  · have hne := last_ne hcw h3
    have hs := turn_free (m := { m2 with f := f3 }) hok3 hb.kind hb.pc (by decide) hb.c1 (hopc _ hb.p hnw3) (by
      show (cw : Int) ≠ invV m2.wim (f3.nw : Int)
      rw [hb.wim, hnw3, inv_powV hn2 hn32 hll]; omega)
    have hokf := stepM_ok hok3 (level := 0) (by omega)
    refine ⟨1, stepM { m2 with f := f3 } 0, Nat.le_refl _, by decide, ⟨⟨⟨hb.kind, fun hh => ?_⟩, rfl⟩, ?_, ?_, ?_⟩, ?_, ?_, ?_, ?_⟩
    · have : m2.pc = ((1544 : Nat) : Int) := hh.1
      rw [hb.pc] at this; omega
    · rw [hs]; exact hb.kind
    · rw [hs]
    · rw [hs]; show m2.p.bank = 0; rw [hb.p]
    · rw [hs]; exact hcc
    · rw [hs]; exact hnw3
    · rw [hs]
      show winR f3 cw = _
      refine List.ext_getElem? fun j => ?_
      unfold winR
      have hl3 : f3.win.length = 16 * m.f.nw := by rw [hf.ok.wl, hnw3]
      have hne2 : cw ≠ (cw + m.f.nw - 1) % m.f.nw := by
        rw [less_one hcw]; split <;> omega
      by_cases hj : j < 16
      · rw [List.getElem?_take_of_lt hj, List.getElem?_take_of_lt hj, List.getElem?_drop, List.getElem?_drop]
        have hv := hf.win (16 * cw + j) (.inl (by omega))
        rw [hb.win, List.getD_eq_getElem?_getD, List.getD_eq_getElem?_getD, List.getElem?_eq_getElem (by omega), List.getElem?_eq_getElem (by omega)] at hv
        rw [List.getElem?_eq_getElem (by omega), List.getElem?_eq_getElem (by omega)]
        exact congrArg some hv
      · rw [List.getElem?_eq_none (by rw [List.length_take]; omega), List.getElem?_eq_none (by rw [List.length_take]; omega)]
    · rw [hs]; exact h14 cw hcw
  · have hnw : m.f.nw = 2 := by omega
    have hlc : (cw + m.f.nw - 2) % m.f.nw = cw := by rw [hnw] at hcw ⊢; omega
    obtain ⟨A, f1, f2, f3', f4, f5⟩ := hb.fr
    rw [hlc] at f1 f5
    have ht : Traps { m2 with f := f3 } 1540 ((cw + m.f.nw - 1) % m.f.nw) x.pil x.flags := ⟨hok3, hb.kind, hb.pc, hb.p, by show _ < f3.nw; rw [hnw3]; exact hat, by decide, by decide, by show Codes _ _ (windI f3.nw); rw [hnw3]; exact hb.hs, by show (windI f3.nw).length ≤ 80; rw [hnw3]; exact hw.n, hb.v1, by show CodeAt _ _ ⟨17, 0, 0, 0, true, 120 + (overL f3.nw).length⟩; rw [hnw3]; exact hb.v2⟩
    have eto : ((cw + m.f.nw - 1) % m.f.nw + 1) % ({ m2 with f := f3 } : Mx).f.nw = cw := by show _ % f3.nw = cw; rw [hnw3]; exact eba
    obtain ⟨n, m4, h1, h2, h3', h4, h5⟩ := wind_under ht hb.c1 (by rw [eto]; show m2.wim = _; rw [hb.wim, hlc]) (room := 4096) (by show _ ≤ m2.mem.length; rw [hb.len]; exact Nat.le_refl _) (by
      rw [eto]
      exact ⟨A, by rw [← f1]; exact h14 cw hcw, f2, f3', f4⟩)
    rw [eto] at h3' h4
    have hfr : frM { m2 with f := f3 } cw = A := by
      unfold frM
      have : getV f3 cw 0 14 = A := (h14 cw hcw).trans f1
      rw [show ({ m2 with f := f3 } : Mx).f = f3 from rfl, this]; rfl
    rw [hfr] at h4
    have h4' : m4.f.win = setW f3.win cw (winR m.f cw) := by rw [h4]; show setW f3.win cw (wordsS m2.mem A 16) = _; rw [f5]
    have hl16 : (winR m.f cw).length = 16 := winR_len hok.f hcw
    have hl3 : f3.win.length = 16 * m.f.nw := by rw [hf.ok.wl, hnw3]
    have hnw4 : m4.f.nw = m.f.nw := h3'.nw.trans hnw3
    obtain ⟨q1, q2⟩ := rest_of h2 h3' hb.pc
    refine ⟨n, m4, q1, h1, q2, ?_, hnw4, ?_, ?_⟩
    · rw [h3'.p]; exact hcc
    · have := winR_setW hf.ok (w := cw) (by omega) hl16 cw (by omega)
      rw [if_pos rfl] at this
      exact (congrArg (fun (l : List Int) => (l.drop (16 * cw)).take 16) h4').trans this
    · rw [← h14 cw hcw, getV_out (by omega) (by omega), getV_out (by omega) (by omega), hnw4, hnw3, h4']
      have hne2 : (cw + m.f.nw - 1) % m.f.nw ≠ cw := by rw [less_one hcw]; split <;> omega
      rw [setW_out (by omega) (by omega)]
end Go.Proofs.YtajholbcpmjhiaaGreatDoor
