/- Several texts in one: WindTurnsWalk. -/
import Derived.Test.YtajholbcpmjhiaaGreatDoorH01
import Derived.Test.YtajholbcpmjhiaaGreatDoorH02
import Derived.Test.YtajholbcpmjhiaaGreatDoorH03
import Derived.Test.YtajholbcpmjhiaaGreatDoorH04
import Derived.Test.YtajholbcpmjhiaaGreatDoorH05
import Derived.Test.YtajholbcpmjhiaaGreatDoorH06
import Derived.Test.YtajholbcpmjhiaaGreatDoorH07
import Derived.Test.YtajholbcpmjhiaaGreatDoorH08
import Derived.Test.YtajholbcpmjhiaaGreatDoorH09
import Derived.Test.YtajholbcpmjhiaaGreatDoorH10
import Derived.Test.YtajholbcpmjhiaaGreatDoorH11
import Derived.Test.YtajholbcpmjhiaaGreatDoorH12
import Derived.Test.YtajholbcpmjhiaaGreatDoorH13
import Derived.Test.YtajholbcpmjhiaaGreatDoorH14
import Derived.Test.YtajholbcpmjhiaaGreatDoorH15
import Derived.Test.YtajholbcpmjhiaaGreatDoorH16
import Derived.Test.YtajholbcpmjhiaaGreatDoorH17
import Derived.Test.YtajholbcpmjhiaaGreatDoorH18
import Derived.Test.YtajholbcpmjhiaaGreatDoorH19
import Derived.Test.YtajholbcpmjhiaaGreatDoorH20
import Derived.Test.YtajholbcpmjhiaaGreatDoorH21
import Derived.Test.YtajholbcpmjhiaaGreatDoorH22
import Derived.Test.YtajholbcpmjhiaaGreatDoorH23
import Derived.Test.YtajholbcpmjhiaaGreatDoorH24
import Derived.Test.YtajholbcpmjhiaaGreatDoorH25
import Derived.Test.YtajholbcpmjhiaaGreatDoorH26
import Derived.Test.YtajholbcpmjhiaaGreatDoorH27
import Derived.Test.YtajholbcpmjhiaaGreatDoorH28
import Derived.Test.YtajholbcpmjhiaaGreatDoorH29
import Derived.Test.YtajholbcpmjhiaaGreatDoorH30
import Derived.Test.YtajholbcpmjhiaaGreatDoorH31
import Derived.Test.YtajholbcpmjhiaaGreatDoorH32
import Derived.Test.YtajholbcpmjhiaaGreatDoorH33
import Derived.Test.YtajholbcpmjhiaaGreatDoorH34
import Derived.Test.YtajholbcpmjhiaaGreatDoorH35
import Derived.Test.YtajholbcpmjhiaaGreatDoorH36
import Derived.Test.YtajholbcpmjhiaaGreatDoorH37
import Derived.Test.YtajholbcpmjhiaaGreatDoorH38
import Derived.Test.YtajholbcpmjhiaaGreatDoorH39
import Derived.Test.YtajholbcpmjhiaaGreatDoorH40
import Derived.Test.YtajholbcpmjhiaaGreatDoorH41
import Derived.Test.YtajholbcpmjhiaaGreatDoorH42
import Derived.Test.YtajholbcpmjhiaaGreatDoorH43
import Derived.Test.YtajholbcpmjhiaaGreatDoorH44
import Derived.WalkKit
import Derived.Laws.AppendOwn
import Derived.Below
import Derived.Deep.QuietTactic
import Derived.BigQuiet
import Derived.WalkSpells
import Derived.Test.YtajholbcpmjhiaaGreatDoorProg
import Derived.Handy
import Derived.WalkLawsBesides
import Derived.RegionTactic
import Derived.Outline
import Derived.Lib.BitFns
import Derived.StillTailTactics
import Derived.BigRegion
import Derived.ChangeAlike
import Derived.Maps.OwnSet
import Derived.Maps.Views
import Derived.Laws.AppendOwnNone
import Derived.WalkArith
import Derived.OneCell
import Derived.ArgAppend
import Derived.Lib.SliceRun
import Derived.Laws.Rows
import Derived.IntWalk
import Derived.Laws.CopyOwn
import Derived.Great.Ranges
import Derived.ProofKit
import Derived.OpenShut
import Derived.RangeFuncNested
import Derived.RangeFuncBound
import Derived.RangeFuncCalls
import Derived.RangeFuncLeaves
import Derived.Shelf.Abstract
import Derived.Shelf.RegionOpen
import Derived.OwnWalkIn
import Derived.TacticsInMore
import Derived.LoopNIn
import Derived.LoopIn
import Derived.RegionIn
import Derived.Deep.RegionHeld
import Derived.Deep.RegionHeld3
import Derived.Deep.Cut
import Derived.Laws.EntriesVeiled
import Derived.Deep.RegionLaw
import Derived.Shelf.SlMaps.Clone
import Derived.Deep.AppendLies
import Derived.BigGuardPart
import Derived.Lib.ParseIntB
import Derived.Lib.ItoaNum
import Derived.Shelf.Strings.Cut
import Derived.Shelf.Small.Wraps
import Derived.Shelf.Pu.ParseUintPublic10
import Derived.Shelf.Strconv.Itoa3
import Derived.WalkSmall
import Derived.Lib.IndexMore
import Derived.Maps.AppendAt
import Derived.Deep.Slices
import Derived.Deep.CutRange
import Derived.Deep.OwnRows
/- The walk of muntinlaw08.WindTurns. -/
namespace Go.Proofs.YtajholbcpmjhiaaGreatDoor
open Go.RowKit
set_option linter.unusedVariables false
set_option linter.unusedSimpArgs false
/-- The turn under way: what is wanted lies in a box; case and machine beside it. -/
structure WT (w W2 wr : World) (x : CaseW) (G : MG) (M : Nat) (m m' : Mx) (kk b0 B N0 : Nat) (cs : List Value) (q : W8) : Prop where
  mis : MIs W2 wr G M m
  box : ARow wr b0 26 cs
  want : ∃ (lv : Value) (g cap : Nat), (∀ k, own8 (q.agg lv g cap) k → N0 ≤ k) ∧ (∃ p n c, lv = .slice p n c) ∧ ARow wr B 58 (q.cells lv g cap) ∧ WAt wr 720 (q.agg lv g cap) q
  al : ∀ f2 : Fx, FLike f2 m'.f → Alike8 ⟨f2, m'.mem, m'.p.cwp, kk⟩ q
  bel : Below w.heap.size w wr
theorem WT.runs {w W2 wr w' : World} {x : CaseW} {G G' : MG} {M : Nat} {m m' : Mx} {kk b0 B N0 : Nat} {cs : List Value} {q : W8} (h : WT w W2 wr x G M m m' kk b0 B N0 cs q) (hk : MKeeps wr w' G G') (hN : ∀ k, G.R k ≠ .none → k < N0) (hB : G.R B = .none) (hb : b0 < W2.heap.size) (hw : w.heap.size ≤ W2.heap.size) :
    ARow w' b0 26 cs ∧ (∃ (lv : Value) (g cap : Nat), (∃ p n c, lv = .slice p n c) ∧ ARow w' B 58 (q.cells lv g cap) ∧ WAt w' 720 (q.agg lv g cap) q) ∧ Below w.heap.size w w' := by
  obtain ⟨a, b, ⟨lv, g, cap, c0, c1, c2, c3⟩, d, e⟩ := h
  refine ⟨b.of_block (hk.1.block _ b.lt (fun hh => by have := a.lo _ hh; omega)), ⟨lv, g, cap, c1, c2.of_block (hk.1.block _ c2.lt (fun hh => hh hB)), c3.only hk.1 (fun k hk2 hh => by have := c0 k hk2; have := hN k hh; omega)⟩, e.trans (hk.1.below e.size (fun k hk2 hh => by have := a.lo _ hh; omega))⟩
theorem wbox (w : World) (x : CaseW) (vr vf vg : Value) : ARow (w.alloc (.cells (x.cells vr vf vg).toArray 26)) w.heap.size 26 (x.cells vr vf vg) := ARow.fresh w _ _
/-- What the document makes of a case, and that the machine behind agrees. -/
theorem turn_alike {x : CaseW} {m : Mx} (h : MadeW x m) (hm : mayW x) (hok : m.ok) :
    ∃ (n : Nat) (m' : Mx) (kk : Nat), 1 ≤ n ∧ n ≤ 60 ∧ Rest (1540 : Nat) n m m' ∧ m'.ok ∧ m'.f.nw = m.f.nw ∧ m'.mem.length = 4096 ∧ m'.out = [] ∧ m'.p = ⟨m'.p.cwp, x.pil, 0, x.flags⟩ ∧ kk < m.f.nw ∧ m'.wim = 2 ^ kk ∧
      (∀ f1 : Fx, FLike f1 m.f → f1.ok → ∀ f2 : Fx, FLike f2 m'.f →
        (x.up = false → Alike8 ⟨f2, m'.mem, m'.p.cwp, kk⟩ (save8 ⟨f1, m.mem, x.cwp, (toW x : Nat)⟩) ∧ can8 ⟨f1, m.mem, x.cwp, (toW x : Nat)⟩ (save8 ⟨f1, m.mem, x.cwp, (toW x : Nat)⟩).inv = true) ∧
        (x.up = true → Alike8 ⟨f2, m'.mem, m'.p.cwp, kk⟩ (rest8 ⟨f1, m.mem, x.cwp, (toW x : Nat)⟩) ∧ can8 ⟨f1, m.mem, x.cwp, (toW x : Nat)⟩ (rest8 ⟨f1, m.mem, x.cwp, (toW x : Nat)⟩).cwp = true)) := by
  have hn2 := hok.f.nw2
  have e := h.nw
  have hcw : x.cwp.toNat < m.f.nw := by have := hm.2.1; omega
  have hc : ((x.cwp.toNat : Nat) : Int) = x.cwp := Int.toNat_of_nonneg hm.2.1.1
  have hml : m.mem.length = 4096 := h.code.len
  cases hup : x.up
  · obtain ⟨n, m', h1, h2, h3, h4, h5, h6⟩ := madeW_over h hm hok hup
    refine ⟨n, m', _, h1, h2, h3, h4.ok, h4.nw, by rw [h6, putS_len]; exact hml, by rw [h4.out, h.out], by rw [h4.p], Nat.mod_lt _ (by omega), h4.wim, fun f1 l1 o1 f2 l2 => ⟨fun _ => ?_, fun hh => absurd hh (by decide)⟩⟩
    have := alike_over (kk := (toW x : Nat)) hok hcw l1 o1 l2 (by rw [hml]; exact Nat.le_refl _) h.sp h4 h5 h6
    rw [hc] at this
    exact this
  · obtain ⟨n, m', h1, h2, h3, h4, h5, h6⟩ := madeW_under h hm hok hup
    refine ⟨n, m', _, h1, h2, h3, h4.ok, h4.nw, by rw [h6]; exact hml, by rw [h4.out, h.out], by rw [h4.p], Nat.mod_lt _ (by omega), h4.wim, fun f1 l1 o1 f2 l2 => ⟨fun hh => absurd hh (by decide), fun _ => ?_⟩⟩
    have := alike_under (kk := (toW x : Nat)) hok hcw l1 o1 l2 (by rw [hml]; exact Nat.le_refl _) h.sp h4 h5 h6
    rw [hc] at this
    exact this
set_option maxRecDepth 100000 in
set_option maxHeartbeats 8000000 in
theorem wturns_any (w : World) (ht : Tab w) (hbr : Bru w) (x : CaseW) (vr vf vg : Value) (h : CaseIn w x vr vf vg) :
    Calls Tryz.prog 4 #[x.agg vr vf vg] w fun e w' => e = .returned (.bool true) ∧ Below w.heap.size w w' := by
  have HX := mhid h
  obtain ⟨pr, cr, rfl⟩ : ∃ p c, vr = .slice p x.regs.length c := by obtain ⟨⟨_, p, c, e, _⟩, _⟩ := h.r; exact ⟨p, c, e⟩
  obtain ⟨pg, cg, rfl⟩ : ∃ p c, vg = .slice p x.globals.length c := by obtain ⟨⟨_, p, c, e, _⟩, _⟩ := h.g; exact ⟨p, c, e⟩
  obtain ⟨pf, cf, rfl⟩ : ∃ p c, vf = .slice p x.frames.length c := by obtain ⟨_, _, p, c, _, _, e, _⟩ := h.f; exact ⟨p, c, e⟩
  have HT := mhid ht
  have HR := mhid hbr
  clear ht hbr h
  obtain ⟨W1, hW1⟩ : ∃ W1, W1 = w.alloc (.cells (x.cells (.slice pr x.regs.length cr) (.slice pf x.frames.length cf) (.slice pg x.globals.length cg)).toArray 26) := ⟨_, rfl⟩
  have hb1 : Below w.heap.size w W1 := by rw [hW1]; exact (Below.refl _ _).alloc (Nat.le_refl _) _
  have hB : ARow W1 w.heap.size 26 (x.cells (.slice pr x.regs.length cr) (.slice pf x.frames.length cf) (.slice pg x.globals.length cg)) := by rw [hW1]; exact wbox _ _ _ _ _
  have HB1 := mhid hb1
  have HB := mhid hB
  unfold CaseW.cells at HB hW1
  clear hb1 hB
  have c0 := HB.out.cell (k := 0) rfl
  have c1 := HB.out.cell (k := 1) rfl
  have c2 := HB.out.cell (k := 2) rfl
  have c3 := HB.out.cell (k := 3) rfl
  have c4 := HB.out.cell (k := 4) rfl
  have c5 := HB.out.cell (k := 5) rfl
  have c6 := HB.out.cell (k := 6) rfl
  have c7 := HB.out.cell (k := 7) rfl
  have c8 := HB.out.cell (k := 8) rfl
  rw [hW1] at c0 c1 c2 c3 c4 c5 c6 c7 c8
  go_enter Tryz.func4, Tryz.ntmps4
  unfold CaseW.agg
  go_wp2_with fail
  rw [← hW1]
  rw [← hW1] at c0 c1 c2 c3 c4 c5 c6 c7 c8
  clear hW1
  refine (wmay_any W1 x _ _ _ (HX.out.keepb HB1.out)).mono ?_
  rintro e W2 ⟨rfl, hb2⟩
  have HB2 := mhid (HB1.out.trans (hb2.mono HB1.out.size))
  have HBX := mhid (HB.out.below hb2)
  clear hb2 HB HB1 c0 c1 c2 c3 c4 c5 c6 c7 c8
  by_cases hm : mayW x
  · rw [decide_eq_true hm]
    have HM0 := mhid hm
    have c0 := HBX.out.cell (k := 0) rfl
    have c1 := HBX.out.cell (k := 1) rfl
    have c2 := HBX.out.cell (k := 2) rfl
    have c3 := HBX.out.cell (k := 3) rfl
    have c4 := HBX.out.cell (k := 4) rfl
    have c5 := HBX.out.cell (k := 5) rfl
    have c6 := HBX.out.cell (k := 6) rfl
    have c7 := HBX.out.cell (k := 7) rfl
    have c8 := HBX.out.cell (k := 8) rfl
    have HBW2 := mhid HBX.out.lt
    have HTW := mhid (HT.out.keep HB2.out)
    have HRW := mhid (HR.out.keep HB2.out)
    go_wp2_with fail
    refine (wmade_any W2 HTW.out HRW.out x _ _ _ (HX.out.keepb HB2.out) hm).mono ?_
    rintro e w3 ⟨M, G, m, rfl, hM, hMade⟩
    obtain ⟨n, m', kk, h1, h60, hRest, hok', hnw', hml', hout', hp', hkk, hwim', hal⟩ := turn_alike hMade hm hM.at'.ok
    have HBX := mhid (show ARow w3 w.heap.size 26 _ from HBX.out.below hM.bel)
    have HM := mhid hM
    have HME := mhid hMade
    have HRE := mhid hRest
    have HK := mhid (And.intro hnw' (And.intro hml' (And.intro hout' (And.intro hp' (And.intro hkk hwim')))))
    have HAL := mhid hal
    have HB3 := mhid (HB2.out.trans (hM.bel.mono HB2.out.size))
    clear hM hMade hRest hnw' hml' hout' hp' hkk hwim' hal c0 c1 c2 c3 c4 c5 c6 c7 c8 hok'
    have c0 := HBX.out.cell (k := 0) rfl
    have e0 : x.nw = (m.f.nw : Int) := HME.out.nw.symm
    rw [e0] at c0
    go_wp2_with fail
    refine (wworld_any W2 w3 G M m HM.out (toW x) ?_ HME.out.wim ?_ ?_).mono ?_
    · unfold toW
      have := HM0.out.1
      split <;> (have := Nat.mod_lt (x.cwp.toNat + 1) (show 0 < x.nw.toNat by omega); have := Nat.mod_lt (x.cwp.toNat + x.nw.toNat - 1) (show 0 < x.nw.toNat by omega); omega)
    · rw [HME.out.code.len]
    · rw [HME.out.code.len]; decide
    rintro e w4 ⟨v, f1, rfl, hq, hlike, hown, hb4⟩
    have hfok : f1.ok := by obtain ⟨lv, L, g, cap, _, hin, _⟩ := hq; exact hin.ok
    have hnw1 : f1.nw = m.f.nw := hlike.nw
    have hp0 : m.p.cwp = x.cwp := by rw [HME.out.p]
    rw [hp0] at hq
    have HQ := mhid hq
    have HAL := mhid (HAL.out f1 hlike hfok)
    obtain ⟨lv, L, g, cap, rfl, hin, hL⟩ := hq
    obtain ⟨p, c, rfl⟩ := hin.log.shape
    have HLT := mhid (show (∀ k, (Value.slice p L.length c).ownBlock = some k → k < w4.heap.size) ∧ g < w4.heap.size from ⟨fun k hk => hin.log.own_lt hk, hin.mem.lt.2⟩)
    have HM4 := mhid (HM.out.keepb hb4)
    have HGL := mhid (show ∀ k, G.R k ≠ .none → k < w3.heap.size from fun k hk => HM.out.at'.lt k hk)
    have HS34 := mhid hb4.size
    have HOW := mhid (show ∀ k, own8 (.agg #[.int .i64 m.f.nw, .slice p L.length c, .slice (some ⟨g, 0, none⟩) m.mem.length cap, .int .i64 x.cwp, .int .i64 ((toW x : Nat) : Int)]) k → w3.heap.size ≤ k from fun k hk => hown k (by unfold own8 at hk ⊢; exact hk))
    have HBX4 := mhid (HBX.out.below hb4)
    have HB4 := mhid (HB3.out.trans (hb4.mono HB3.out.size))
    clear hlike hown hb4 hin hL HM HBX HB3 hfok hp0 c0
    obtain ⟨q, hq0⟩ : ∃ q : W8, q = ⟨f1, m.mem, x.cwp, ((toW x : Nat) : Int)⟩ := ⟨_, rfl⟩
    have hqn : q.f.nw = m.f.nw := by rw [hq0]; exact hnw1
    have hqc : 0 ≤ q.cwp ∧ q.cwp < q.f.nw := by rw [hqn, hq0]; have := HM0.out.2.1; show 0 ≤ x.cwp ∧ x.cwp < _; omega
    have HQ := mhid (show WAt w4 700 (.agg #[.int .i64 m.f.nw, .slice p L.length c, .slice (some ⟨g, 0, none⟩) m.mem.length cap, .int .i64 x.cwp, .int .i64 ((toW x : Nat) : Int)]) q from by
      have := HQ.out; unfold W8.agg at this; rw [← hq0] at this; simp only [hqn] at this; rw [hq0] at this ⊢; exact this)
    rw [← hq0] at HAL
    have HQ0 := mhid hq0
    clear hq0 hqn
    obtain ⟨W5, hW5⟩ : ∃ W5, W5 = w4.alloc (.cells #[.int .i64 m.f.nw, .slice p L.length c, .slice (some ⟨g, 0, none⟩) m.mem.length cap, .int .i64 x.cwp, .int .i64 ((toW x : Nat) : Int)] 58) := ⟨_, rfl⟩
    have hb5 : Below w4.heap.size w4 W5 := by rw [hW5]; exact (Below.refl _ _).alloc (Nat.le_refl _) _
    have hB5 : ARow W5 w4.heap.size 58 [.int .i64 m.f.nw, .slice p L.length c, .slice (some ⟨g, 0, none⟩) m.mem.length cap, .int .i64 x.cwp, .int .i64 ((toW x : Nat) : Int)] := by rw [hW5]; exact ARow.fresh w4 _ _
    have HQ5 := mhid (HQ.out.keep hb5)
    have HW35 := mhid (Nat.le_trans HS34.out hb5.size)
    have HM5 := mhid (HM4.out.keepb hb5)
    have HBX5 := mhid (HBX4.out.below hb5)
    have HB5 := mhid (HB4.out.trans (hb5.mono HB4.out.size))
    have HBQ5 := mhid hB5
    have HW5 := mhid hW5
    clear hb5 hB5 hW5 HQ HM4 HBX4 HB4
    unfold W8.agg
    go_wp2_with fail
    rw [← HW5.out]
    clear HW5
    refine (r8_save W5 700 _ q HQ5.out (by decide) hqc).mono ?_
    rintro e w6 ⟨v6, rfl, hq6, hb6, ho6⟩
    have HCAN := mhid (show (x.up = false → can8 q (save8 q).inv = true) ∧ (x.up = true → can8 q (rest8 q).cwp = true) from ⟨fun hu => ((HAL.out m'.f ⟨rfl, fun _ _ => rfl, fun _ _ _ _ => rfl⟩).1 hu).2, fun hu => ((HAL.out m'.f ⟨rfl, fun _ _ => rfl, fun _ _ _ _ => rfl⟩).2 hu).2⟩)
    have HQ6 := mhid hq6
    obtain ⟨lv6, L6, g6, cap6, rfl, hin6, hL6⟩ := hq6
    obtain ⟨p6, c6, rfl⟩ := hin6.log.shape
    have hok6 := hin6.ok
    have HM6 := mhid (HM5.out.keepb hb6)
    have HBX6 := mhid (HBX5.out.below hb6)
    have HBQ6 := mhid (HBQ5.out.below hb6)
    have HB6 := mhid (HB5.out.trans (hb6.mono HB5.out.size))
    have HQ6o := mhid (HQ5.out.keep hb6)
    have HGN := mhid (show G.R w6.heap.size = .none from by
      by_cases e : G.R w6.heap.size = .none
      · exact e
      · exact absurd (HM6.out.at'.lt _ e) (Nat.lt_irrefl _))
    have HOL := mhid (show ∀ k, own8 (.agg #[.int .i64 m.f.nw, .slice p L.length c, .slice (some ⟨g, 0, none⟩) m.mem.length cap, .int .i64 x.cwp, .int .i64 ((toW x : Nat) : Int)]) k → k < w6.heap.size from fun k hk => Nat.lt_of_lt_of_le (HQ5.out.own_lt hk) hb6.size)
    have HO6 := mhid (show ∀ k, own8 ((save8 q).agg (.slice p6 L6.length c6) g6 cap6) k → w3.heap.size ≤ k from fun k hk => by
      rcases ho6 k hk with h | h
      · exact HOW.out k h
      · have := HW35.out; omega)
    have HW36 := mhid (show w3.heap.size ≤ w6.heap.size from Nat.le_trans HW35.out hb6.size)
    have HSZ := mhid (And.intro HM6.out.bel.size (And.intro HBX6.out.lt HB6.out.size))
    clear hb6 ho6 hin6 hL6 HM5 HBX5 HBQ5 HB5 HQ5 hok6
    obtain ⟨W7, hW7⟩ : ∃ W7, W7 = w6.alloc (.cells #[.int .i64 (save8 q).f.nw, .slice p6 L6.length c6, .slice (some ⟨g6, 0, none⟩) (save8 q).mem.length cap6, .int .i64 (save8 q).cwp, .int .i64 (save8 q).inv] 58) := ⟨_, rfl⟩
    have hb7 : Below w6.heap.size w6 W7 := by rw [hW7]; exact (Below.refl _ _).alloc (Nat.le_refl _) _
    have hB7 : ARow W7 w6.heap.size 58 ((save8 q).cells (.slice p6 L6.length c6) g6 cap6) := by rw [hW7]; exact ARow.fresh w6 _ _
    have HM7 := mhid (HM6.out.keepb hb7)
    have HBX7 := mhid (HBX6.out.below hb7)
    have HBQ7 := mhid (HBQ6.out.below hb7)
    have HB7 := mhid (HB6.out.trans (hb7.mono HB6.out.size))
    have HQ7o := mhid (HQ6o.out.keep hb7)
    have HQ7 := mhid (HQ6.out.keep hb7)
    have HB7r := mhid hB7
    have hne : w6.heap.size ≠ w4.heap.size := by have := HBQ6.out.lt; omega
    have HW7 := mhid hW7
    have c8 := HBX7.out.cell (k := 8) rfl
    obtain ⟨ub, hub⟩ : ∃ ub, ub = x.up := ⟨_, rfl⟩
    rw [← hub] at c8
    have HUB := mhid hub
    clear hub
    have hc4 : ∀ k u, ([.int .i64 m.f.nw, .slice p L.length c, .slice (some ⟨g, 0, none⟩) m.mem.length cap, .int .i64 x.cwp, .int .i64 ((toW x : Nat) : Int)] : List Value)[k]? = some u → W7.cell? ⟨w4.heap.size, k, none⟩ = some u := fun k u hu => HBQ7.out.cell hu
    have d0 := hc4 0 _ rfl
    have d1 := hc4 1 _ rfl
    have d2 := hc4 2 _ rfl
    have d3 := hc4 3 _ rfl
    have d4 := hc4 4 _ rfl
    clear hb7 hB7 hW7 HM6 HBX6 HBQ6 HB6 HQ6o HQ6 hc4
    rw [HW7.out] at c8 d0 d1 d2 d3 d4
    unfold W8.agg
    go_upto_if 26 with (fail)
    rw [← HW7.out]
    rw [← HW7.out] at c8 d0 d1 d2 d3 d4
    clear HW7
    go_cut [6] from 25 (fun t w' => t = .bool true ∧ ∃ qq, Hid (WT w W2 w' x G M m m' kk w.heap.size w6.heap.size w3.heap.size _ qq))
    case first =>
      cases ub
      · go_wp2_with fail
        go_meet
        exact ⟨congrArg Value.bool (HCAN.out.1 HUB.out.symm), save8 q, mhid ⟨HM7.out, HBX7.out, ⟨_, _, _, HO6.out, ⟨_, _, _, rfl⟩, HB7r.out, HQ7.out.le (by decide)⟩, fun f2 hf2 => ((HAL.out f2 hf2).1 HUB.out.symm).1, HB7.out⟩⟩
      · have HUP := mhid (show x.up = true from HUB.out.symm)
        go_wp2_with fail
        refine (r8_restore W7 700 _ q HQ7o.out (by decide) hqc (HCAN.out.2 HUP.out)).mono ?_
        rintro e w8 ⟨v8, rfl, hq8, hb8, ho8⟩
        have HQ8 := mhid hq8
        obtain ⟨lv8, L8, g8, cap8, rfl, hin8, hL8⟩ := hq8
        obtain ⟨p8, c8', rfl⟩ := hin8.log.shape
        have HIN8 := mhid (And.intro hin8 hL8)
        have HO8 := mhid ho8
        have HB8 := mhid hb8
        clear ho8 hin8 hL8
        have f0 := (HB7r.out.below hb8).cell (k := 0) rfl
        have f1' := (HB7r.out.below hb8).cell (k := 1) rfl
        have f2' := (HB7r.out.below hb8).cell (k := 2) rfl
        have f3' := (HB7r.out.below hb8).cell (k := 3) rfl
        have f4' := (HB7r.out.below hb8).cell (k := 4) rfl
        have z0 := (HB7r.out.below hb8).frozen 0
        have z1 := (HB7r.out.below hb8).frozen 1
        have z2 := (HB7r.out.below hb8).frozen 2
        have z3 := (HB7r.out.below hb8).frozen 3
        have z4 := (HB7r.out.below hb8).frozen 4
        unfold W8.agg
        go_wp2_with fail
        have hr9 := cp5_row (HB7r.out.below HB8.out) (.int .i64 (rest8 q).f.nw) (.slice p8 L8.length c8') (.slice (some ⟨g8, 0, none⟩) (rest8 q).mem.length cap8) (.int .i64 (rest8 q).cwp) (.int .i64 (rest8 q).inv)
        have ho9 : Only (fun k => k = w6.heap.size) w8 (cp5 w8 w6.heap.size (.int .i64 (rest8 q).f.nw) (.slice p8 L8.length c8') (.slice (some ⟨g8, 0, none⟩) (rest8 q).mem.length cap8) (.int .i64 (rest8 q).cwp) (.int .i64 (rest8 q).inv)) := cp5_only _ _ _ _ _ _ _ rfl
        go_meet
        refine ⟨rfl, rest8 q, mhid ?_⟩
        show WT w W2 (cp5 w8 w6.heap.size (.int .i64 (rest8 q).f.nw) (.slice p8 L8.length c8') (.slice (some ⟨g8, 0, none⟩) (rest8 q).mem.length cap8) (.int .i64 (rest8 q).cwp) (.int .i64 (rest8 q).inv)) x G M m m' kk w.heap.size w6.heap.size w3.heap.size _ _
        generalize cp5 w8 w6.heap.size (.int .i64 (rest8 q).f.nw) (.slice p8 L8.length c8') (.slice (some ⟨g8, 0, none⟩) (rest8 q).mem.length cap8) (.int .i64 (rest8 q).cwp) (.int .i64 (rest8 q).inv) = w9 at *
        have hGn : G.R w6.heap.size = .none := HGN.out
        have hb9 : Below w6.heap.size w8 w9 := ho9.below (by have := HB8.out.size; have := HB7r.out.lt; omega) (fun k hk e => by omega)
        refine ⟨⟨HM7.out.at'.keepb HB8.out |>.keep ho9 (fun k hk e => by rw [e] at hk; exact hk hGn), HM7.out.lo, HM7.out.bel.trans ((HB8.out.mono HM7.out.bel.size).trans (hb9.mono ?_))⟩, (HBX7.out.below HB8.out).of_block (hb9.block _ ?_), ⟨_, _, _, fun k hk => ?_, ⟨_, _, _, rfl⟩, hr9, HQ8.out.only ho9 (fun k hk e => ?_) |>.le (by decide)⟩, fun f2 hf2 => ((HAL.out f2 hf2).2 HUP.out).1, HB7.out.trans ((HB8.out.mono HB7.out.size).trans (hb9.mono ?_))⟩
        · exact HSZ.out.1
        · exact HSZ.out.2.1
        · rcases HO8.out k hk with h | h
          · exact HOW.out k h
          · have h7 : w6.heap.size < W7.heap.size := HB7r.out.lt
            have := HW36.out; omega
        · have h7 : w6.heap.size < W7.heap.size := HB7r.out.lt
          rcases HO8.out k hk with h | h
          · have := HOL.out k h; omega
          · omega
        · exact HSZ.out.2.2
    case rest =>
      obtain ⟨rfl, qq, HWT⟩ := hcut
      clear HBX7 HBQ7 HB7 HQ7o HQ7 HB7r c8 d0 d1 d2 d3 d4 HUB HCAN HOL HSZ HAL HLT
      have HW2 := mhid (show w.heap.size < W2.heap.size ∧ w.heap.size ≤ W2.heap.size from ⟨HBW2.out, HB2.out.size⟩)
      have HGB := mhid HGN.out
      clear HGN
      generalize w6.heap.size = B at *
      obtain ⟨W8', rfl⟩ : ∃ W, W = wc := ⟨_, rfl⟩
      go_wp2_with fail
      refine (wruns_any W2 W8' HTW.out HRW.out G M m m' HWT.out.mis 1540 60 n (by decide) (by decide) h60 h1 (by rw [outL_made HME.out]; decide) HRE.out).mono ?_
      rintro e w9 ⟨rfl, G9, hM9, hk9⟩
      obtain ⟨hbx9, ⟨lv9, g9, cap9, ⟨p9, n9, c9, rfl⟩, hw9, hwa9⟩, hbel9⟩ := HWT.out.runs hk9 HGL.out HGB.out HW2.out.1 HW2.out.2
      have HAL := mhid HWT.out.al
      have HM9 := mhid hM9
      have HBX9 := mhid hbx9
      have HWB9 := mhid hw9
      have HWA9 := mhid hwa9
      have HB9 := mhid hbel9
      clear hM9 hk9 hbx9 hw9 hwa9 hbel9 HWT HGB HGL HM7
      go_wp2_with fail
      have HPS := mhid (show Calls Tryz.prog 19 #[.pointer (some ⟨M, 0, none⟩)] w9 fun e w' => e = .returned (.agg #[.int .u8 m'.p.cwp, .int .u8 x.pil, .int .u8 0, .int .u8 x.flags]) ∧ Below w9.heap.size w9 w' from by
        have := mpsr_any w9 G9 M m' HM9.out.at'
        rw [HK.out.2.2.2.1] at this
        exact this)
      refine HPS.out.mono ?_
      rintro e w10 ⟨rfl, hb10⟩
      have HM10 := mhid (HM9.out.keepb hb10)
      have HBX10 := mhid (HBX9.out.below hb10)
      have HWB10 := mhid (HWB9.out.below hb10)
      have HWA10 := mhid (HWA9.out.keep hb10)
      have HB10 := mhid (HB9.out.trans (hb10.mono HB9.out.size))
      clear hb10 HPS HM9 HBX9 HWB9 HWA9 HB9
      obtain ⟨W11, hW11⟩ : ∃ W11, W11 = w10.alloc (.cells #[.int .u8 m'.p.cwp, .int .u8 x.pil, .int .u8 0, .int .u8 x.flags] 47) := ⟨_, rfl⟩
      have hb11 : Below w10.heap.size w10 W11 := by rw [hW11]; exact (Below.refl _ _).alloc (Nat.le_refl _) _
      have hB11 : ARow W11 w10.heap.size 47 [.int .u8 m'.p.cwp, .int .u8 x.pil, .int .u8 0, .int .u8 x.flags] := by rw [hW11]; exact ARow.fresh w10 _ _
      have HM11 := mhid (HM10.out.keepb hb11)
      have HBX11 := mhid (HBX10.out.below hb11)
      have HWB11 := mhid (HWB10.out.below hb11)
      have HWA11 := mhid (HWA10.out.keep hb11)
      have HB11 := mhid (HB10.out.trans (hb11.mono HB10.out.size))
      have HP11 := mhid hB11
      have HW11 := mhid hW11
      clear hb11 hB11 hW11 HM10 HBX10 HWB10 HWA10 HB10
      go_upto_region 13 with (fail)
      rw [← HW11.out]
      clear HW11
      have hnw9 : m'.f.nw = m.f.nw := HK.out.1
      have HKS := mhid (fun (w' : World) (hb : Below W11.heap.size W11 w') => (show (w'.cell? ⟨w.heap.size, 0, none⟩ = some (.int .i64 m.f.nw) ∧ w'.cell? ⟨w.heap.size, 4, none⟩ = some (.int .u8 x.flags) ∧ w'.cell? ⟨w.heap.size, 5, none⟩ = some (.int .u8 x.pil)) ∧ (w'.cell? ⟨B, 0, none⟩ = some (.int .i64 qq.f.nw) ∧ w'.cell? ⟨B, 1, none⟩ = some (.slice p9 n9 c9) ∧ w'.cell? ⟨B, 2, none⟩ = some (.slice (some ⟨g9, 0, none⟩) qq.mem.length cap9) ∧ w'.cell? ⟨B, 3, none⟩ = some (.int .i64 qq.cwp) ∧ w'.cell? ⟨B, 4, none⟩ = some (.int .i64 qq.inv)) ∧ (w'.cell? ⟨w10.heap.size, 1, none⟩ = some (.int .u8 x.pil) ∧ w'.cell? ⟨w10.heap.size, 2, none⟩ = some (.int .u8 0) ∧ w'.cell? ⟨w10.heap.size, 3, none⟩ = some (.int .u8 x.flags)) from
        ⟨⟨by rw [← e0]; exact (HBX11.out.below hb).cell (k := 0) rfl, (HBX11.out.below hb).cell (k := 4) rfl, (HBX11.out.below hb).cell (k := 5) rfl⟩, ⟨(HWB11.out.below hb).cell (k := 0) rfl, (HWB11.out.below hb).cell (k := 1) rfl, (HWB11.out.below hb).cell (k := 2) rfl, (HWB11.out.below hb).cell (k := 3) rfl, (HWB11.out.below hb).cell (k := 4) rfl⟩, ⟨(HP11.out.below hb).cell (k := 1) rfl, (HP11.out.below hb).cell (k := 2) rfl, (HP11.out.below hb).cell (k := 3) rfl⟩⟩))
      have HWD := mhid (fun (w' : World) (hb : Below W11.heap.size W11 w') => (show Calls Tryz.prog 23 #[.pointer (some ⟨M, 0, none⟩), .int .i64 m.f.nw] w' fun e w'' => ∃ v f', e = .returned v ∧ WAt w'' 700 v ⟨f', m'.mem, m'.p.cwp, kk⟩ ∧ FLike f' m'.f ∧ Below w'.heap.size w' w'' from by
        have := wworld_any W2 w' G9 M m' (HM11.out.keepb hb) kk (by rw [hnw9]; exact HK.out.2.2.2.2.1) HK.out.2.2.2.2.2 (by rw [HK.out.2.1]) (by rw [HK.out.2.1]; decide)
        rw [hnw9] at this
        refine this.mono ?_
        rintro e w'' ⟨v, f', h1, h2, h3, _, h5⟩
        exact ⟨v, f', h1, h2, h3, h5⟩))
      have HSM := mhid (fun (w' : World) (v : Value) (f' : Fx) (hb : Below W11.heap.size W11 w') (hq : WAt w' 700 v ⟨f', m'.mem, m'.p.cwp, kk⟩) (hl : FLike f' m'.f) => r8_same w' 700 720 v (.agg #[.int .i64 qq.f.nw, .slice p9 n9 c9, .slice (some ⟨g9, 0, none⟩) qq.mem.length cap9, .int .i64 qq.cwp, .int .i64 qq.inv]) ⟨f', m'.mem, m'.p.cwp, kk⟩ qq hq (HWA11.out.keep hb) (by decide) (by decide) (HAL.out f' hl))
      have HOU := mhid (fun (w' : World) (hb : Below W11.heap.size W11 w') => (show Calls Tryz.prog 27 #[.pointer (some ⟨M, 0, none⟩)] w' fun e w'' => ∃ p c, e = .returned (.slice p 0 c) ∧ Below w'.heap.size w' w'' from by
        refine (mw_out W2 w' G9 M m' (HM11.out.keepb hb) (by rw [HK.out.2.2.1]; decide)).mono ?_
        rintro e w'' ⟨v, rfl, hr, hb2⟩
        obtain ⟨b, o, p, c, rfl, -⟩ := hr.1.shape
        rw [HK.out.2.2.1]
        exact ⟨p, c, rfl, hb2⟩))
      have HHD := mhid (fun (w' : World) (hb : Below W11.heap.size W11 w') => whead_any w' (HT.out.keep (HB11.out.trans (hb.mono HB11.out.size))) (HR.out.keep (HB11.out.trans (hb.mono HB11.out.size))))
      have HBB := mhid (fun (w' : World) (hb : Below W11.heap.size W11 w') => HB11.out.trans (hb.mono HB11.out.size))
      have hbW : Below W11.heap.size W11 W11.drew := (Below.refl _ _).drew
      clear e0 hnw9 hqc
      go_region_held3 (fun w' => (w'.cell? ⟨w.heap.size, 0, none⟩ = some (.int .i64 m.f.nw) ∧ w'.cell? ⟨w.heap.size, 4, none⟩ = some (.int .u8 x.flags) ∧ w'.cell? ⟨w.heap.size, 5, none⟩ = some (.int .u8 x.pil)) ∧ (w'.cell? ⟨B, 0, none⟩ = some (.int .i64 qq.f.nw) ∧ w'.cell? ⟨B, 1, none⟩ = some (.slice p9 n9 c9) ∧ w'.cell? ⟨B, 2, none⟩ = some (.slice (some ⟨g9, 0, none⟩) qq.mem.length cap9) ∧ w'.cell? ⟨B, 3, none⟩ = some (.int .i64 qq.cwp) ∧ w'.cell? ⟨B, 4, none⟩ = some (.int .i64 qq.inv)) ∧ (w'.cell? ⟨w10.heap.size, 1, none⟩ = some (.int .u8 x.pil) ∧ w'.cell? ⟨w10.heap.size, 2, none⟩ = some (.int .u8 0) ∧ w'.cell? ⟨w10.heap.size, 3, none⟩ = some (.int .u8 x.flags)))
        (first | (with_reducible exact HKS.out _ hbW) | (refine HKS.out _ ?_; go_grown; done))
        (first
          | (go_at_call 23; (with_reducible refine (HWD.out _ hbW).mono ?_); rintro e wx ⟨vq, fq, rfl, hqx, hlx, hb⟩; have HQX := mhid hqx; have HLX := mhid hlx; have hbW := hbW.trans (hb.mono hbW.size); clear hb hqx hlx)
          | (go_at_call 26; (with_reducible refine (HSM.out _ _ _ hbW HQX.out HLX.out).mono ?_); rintro e wy ⟨rfl, hb⟩; have hbW := hbW.trans (hb.mono hbW.size); clear hb)
          | (go_at_call 27; (with_reducible refine (HOU.out _ hbW).mono ?_); rintro e wz ⟨po, co, rfl, hb⟩; have hbW := hbW.trans (hb.mono hbW.size); clear hb)
          | (go_at_call 10; (with_reducible refine (HHD.out _ hbW).mono ?_); rintro e wv ⟨rfl, hb⟩; have hbW := hbW.trans (hb.mono hbW.size); clear hb))
      all_goals go_wp2_with fail
      all_goals
        first
          | go_ret2
          | go_ret
        exact ⟨rfl, HBB.out _ hbW⟩
  · rw [decide_eq_false hm]
    go_wp2_with fail
    refine (whead_any W2 (HT.out.keep HB2.out) (HR.out.keep HB2.out)).mono ?_
    rintro e w3 ⟨rfl, hb3⟩
    have HN := mhid (HB2.out.trans (hb3.mono HB2.out.size))
    clear hb3
    go_wp2_with fail
    first
      | go_ret2
      | go_ret
    exact ⟨rfl, HN.out⟩
end Go.Proofs.YtajholbcpmjhiaaGreatDoor
