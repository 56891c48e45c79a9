/- Several texts in one: WindBackWalk. -/
import Derived.Test.YtajholbcpmjhiaaGreatDoorH01
import Derived.Test.YtajholbcpmjhiaaGreatDoorH02
import Derived.Test.YtajholbcpmjhiaaGreatDoorH03
import Derived.Test.YtajholbcpmjhiaaGreatDoorH04
import Derived.Test.YtajholbcpmjhiaaGreatDoorH05
import Derived.Test.YtajholbcpmjhiaaGreatDoorH06
import Derived.Test.YtajholbcpmjhiaaGreatDoorH07
import Derived.Test.YtajholbcpmjhiaaGreatDoorH08
import Derived.Test.YtajholbcpmjhiaaGreatDoorH09
import Derived.Test.YtajholbcpmjhiaaGreatDoorH10
import Derived.Test.YtajholbcpmjhiaaGreatDoorH11
import Derived.Test.YtajholbcpmjhiaaGreatDoorH12
import Derived.Test.YtajholbcpmjhiaaGreatDoorH13
import Derived.Test.YtajholbcpmjhiaaGreatDoorH14
import Derived.Test.YtajholbcpmjhiaaGreatDoorH15
import Derived.Test.YtajholbcpmjhiaaGreatDoorH16
import Derived.Test.YtajholbcpmjhiaaGreatDoorH17
import Derived.Test.YtajholbcpmjhiaaGreatDoorH18
import Derived.Test.YtajholbcpmjhiaaGreatDoorH19
import Derived.Test.YtajholbcpmjhiaaGreatDoorH20
import Derived.Test.YtajholbcpmjhiaaGreatDoorH21
import Derived.Test.YtajholbcpmjhiaaGreatDoorH22
import Derived.Test.YtajholbcpmjhiaaGreatDoorH23
import Derived.Test.YtajholbcpmjhiaaGreatDoorH24
import Derived.Test.YtajholbcpmjhiaaGreatDoorH25
import Derived.Test.YtajholbcpmjhiaaGreatDoorH26
import Derived.Test.YtajholbcpmjhiaaGreatDoorH27
import Derived.Test.YtajholbcpmjhiaaGreatDoorH28
import Derived.Test.YtajholbcpmjhiaaGreatDoorH29
import Derived.Test.YtajholbcpmjhiaaGreatDoorH30
import Derived.Test.YtajholbcpmjhiaaGreatDoorH31
import Derived.Test.YtajholbcpmjhiaaGreatDoorH32
import Derived.Test.YtajholbcpmjhiaaGreatDoorH33
import Derived.Test.YtajholbcpmjhiaaGreatDoorH34
import Derived.Test.YtajholbcpmjhiaaGreatDoorH35
import Derived.Test.YtajholbcpmjhiaaGreatDoorH36
import Derived.Test.YtajholbcpmjhiaaGreatDoorH37
import Derived.Test.YtajholbcpmjhiaaGreatDoorH38
import Derived.Test.YtajholbcpmjhiaaGreatDoorH39
import Derived.Test.YtajholbcpmjhiaaGreatDoorH40
import Derived.Test.YtajholbcpmjhiaaGreatDoorH41
import Derived.Test.YtajholbcpmjhiaaGreatDoorH42
import Derived.Test.YtajholbcpmjhiaaGreatDoorH43
import Derived.Test.YtajholbcpmjhiaaGreatDoorH44
import Derived.Test.YtajholbcpmjhiaaGreatDoorH45
import Derived.Test.YtajholbcpmjhiaaGreatDoorH46
import Derived.WalkKit
import Derived.Laws.AppendOwn
import Derived.Below
import Derived.Deep.QuietTactic
import Derived.BigQuiet
import Derived.WalkSpells
import Derived.Test.YtajholbcpmjhiaaGreatDoorProg
import Derived.Handy
import Derived.WalkLawsBesides
import Derived.RegionTactic
import Derived.Outline
import Derived.Lib.BitFns
import Derived.StillTailTactics
import Derived.BigRegion
import Derived.ChangeAlike
import Derived.Maps.OwnSet
import Derived.Maps.Views
import Derived.Laws.AppendOwnNone
import Derived.WalkArith
import Derived.OneCell
import Derived.ArgAppend
import Derived.Lib.SliceRun
import Derived.Laws.Rows
import Derived.IntWalk
import Derived.Laws.CopyOwn
import Derived.Great.Ranges
import Derived.ProofKit
import Derived.OpenShut
import Derived.RangeFuncNested
import Derived.RangeFuncBound
import Derived.RangeFuncCalls
import Derived.RangeFuncLeaves
import Derived.Shelf.Abstract
import Derived.Shelf.RegionOpen
import Derived.OwnWalkIn
import Derived.TacticsInMore
import Derived.LoopNIn
import Derived.LoopIn
import Derived.RegionIn
import Derived.Deep.RegionHeld
import Derived.Deep.RegionHeld3
import Derived.Deep.Cut
import Derived.Laws.EntriesVeiled
import Derived.Deep.RegionLaw
import Derived.Shelf.SlMaps.Clone
import Derived.Deep.AppendLies
import Derived.BigGuardPart
import Derived.Lib.ParseIntB
import Derived.Lib.ItoaNum
import Derived.Shelf.Strings.Cut
import Derived.Shelf.Small.Wraps
import Derived.Shelf.Pu.ParseUintPublic10
import Derived.Shelf.Strconv.Itoa3
import Derived.WalkSmall
import Derived.Lib.IndexMore
import Derived.Maps.AppendAt
import Derived.Deep.Slices
import Derived.Deep.CutRange
import Derived.Deep.OwnRows
/- The walk of muntinlaw08.WindBack. -/
namespace Go.Proofs.YtajholbcpmjhiaaGreatDoor
open Go.RowKit
set_option linter.unusedVariables false
set_option linter.unusedSimpArgs false
/-- The machine under way, the case's box and the first window's row beside it. -/
structure BW (w W2 wr : World) (G : MG) (M : Nat) (m : Mx) (cs : List Value) (v : Value) (l : List Int) : Prop where
  mis : MIs W2 wr G M m
  off : G.R w.heap.size = .none
  box : ARow wr w.heap.size 26 cs
  row : MRow wr G v l
  bel : Below w.heap.size w wr
theorem BW.keep {w W2 wr w' : World} {G : MG} {M : Nat} {m : Mx} {cs : List Value} {v : Value} {l : List Int} (h : BW w W2 wr G M m cs v l) (hb : Below wr.heap.size wr w') : BW w W2 w' G M m cs v l :=
  ⟨h.mis.keepb hb, h.off, h.box.below hb, h.row.keepb hb, h.bel.trans (hb.mono h.bel.size)⟩
theorem BW.to {w W2 wr w' : World} {G : MG} {M : Nat} {m m' : Mx} {cs : List Value} {v : Value} {l : List Int} (h : BW w W2 wr G M m cs v l) (hw : w.heap.size ≤ W2.heap.size) (ht : MTo W2 wr w' G M m') : ∃ G', BW w W2 w' G' M m' cs v l := by
  obtain ⟨G', h1, hk⟩ := ht
  exact ⟨G', h1, hk.2 _ h.box.lt h.off, h.box.of_block (hk.1.block _ h.box.lt (fun hh => hh h.off)), h.row.keep hk, h.bel.trans (hk.1.below h.bel.size (fun k hk2 hh => by have := h.mis.lo _ hh; omega))⟩
theorem mayW_down {x : CaseW} (h : mayW x) : mayW { x with up := false } := h
set_option maxRecDepth 100000 in
set_option maxHeartbeats 8000000 in
theorem wback_any (w : World) (ht : Tab w) (hbr : Bru w) (x : CaseW) (vr vf vg : Value) (h : CaseIn w x vr vf vg) (vb : Value) (lb : List Int) (hlb : WordsIn w vb lb) :
    Calls Tryz.prog 3 #[x.agg vr vf vg, vb] w fun e w' => e = .returned (.bool true) ∧ Below w.heap.size w w' := by
  have HX := mhid h
  obtain ⟨pr, cr, rfl⟩ : ∃ p c, vr = .slice p x.regs.length c := by obtain ⟨⟨_, p, c, e, _⟩, _⟩ := h.r; exact ⟨p, c, e⟩
  obtain ⟨pg, cg, rfl⟩ : ∃ p c, vg = .slice p x.globals.length c := by obtain ⟨⟨_, p, c, e, _⟩, _⟩ := h.g; exact ⟨p, c, e⟩
  obtain ⟨pf, cf, rfl⟩ : ∃ p c, vf = .slice p x.frames.length c := by obtain ⟨_, _, p, c, _, _, e, _⟩ := h.f; exact ⟨p, c, e⟩
  obtain ⟨pb, cb, rfl⟩ : ∃ p c, vb = .slice p lb.length c := by obtain ⟨⟨_, p, c, e, _⟩, _⟩ := hlb; exact ⟨p, c, e⟩
  have HLB := mhid hlb
  have hlbm : lb.length ≤ maxLen := hlb.2.1
  have HT := mhid ht
  have HR := mhid hbr
  clear ht hbr h hlb
  obtain ⟨W1, hW1⟩ : ∃ W1, W1 = w.alloc (.cells (x.cells (.slice pr x.regs.length cr) (.slice pf x.frames.length cf) (.slice pg x.globals.length cg)).toArray 26) := ⟨_, rfl⟩
  have hb1 : Below w.heap.size w W1 := by rw [hW1]; exact (Below.refl _ _).alloc (Nat.le_refl _) _
  have hB : ARow W1 w.heap.size 26 (x.cells (.slice pr x.regs.length cr) (.slice pf x.frames.length cf) (.slice pg x.globals.length cg)) := by rw [hW1]; exact wbox _ _ _ _ _
  have HB1 := mhid hb1
  have HB := mhid hB
  unfold CaseW.cells at HB hW1
  clear hb1 hB
  have c0 := HB.out.cell (k := 0) rfl
  have c1 := HB.out.cell (k := 1) rfl
  have c2 := HB.out.cell (k := 2) rfl
  have c3 := HB.out.cell (k := 3) rfl
  have c4 := HB.out.cell (k := 4) rfl
  have c5 := HB.out.cell (k := 5) rfl
  have c6 := HB.out.cell (k := 6) rfl
  have c7 := HB.out.cell (k := 7) rfl
  have c8 := HB.out.cell (k := 8) rfl
  rw [hW1] at c0 c1 c2 c3 c4 c5 c6 c7 c8
  go_enter Tryz.func3, Tryz.ntmps3
  unfold CaseW.agg
  go_wp2_with fail
  rw [← hW1]
  rw [← hW1] at c0 c1 c2 c3 c4 c5 c6 c7 c8
  clear hW1
  refine (wmay_any W1 x _ _ _ (HX.out.keepb HB1.out)).mono ?_
  rintro e W2 ⟨rfl, hb2⟩
  have HB2 := mhid (HB1.out.trans (hb2.mono HB1.out.size))
  have HBX := mhid (HB.out.below hb2)
  clear hb2 HB HB1 c0 c1 c2 c3 c4 c5 c6 c7 c8
  have hhead : ∀ W : World, Below w.heap.size w W → Calls Tryz.prog 10 #[] W fun e w' => e = .returned (.bool true) ∧ Below w.heap.size w w' := fun W hb =>
    (whead_any W (HT.out.keep hb) (HR.out.keep hb)).mono fun e w' he => ⟨he.1, hb.trans (he.2.mono hb.size)⟩
  have HHD := mhid hhead
  clear hhead
  by_cases hm : mayW x
  · rw [decide_eq_true hm]
    by_cases hbl : (lb.length : Int) > 100
    · go_wp2_with fail
      refine (HHD.out W2 HB2.out).mono ?_
      rintro e w3 ⟨rfl, hb3⟩
      go_wp2_with fail
      first
        | go_ret2
        | go_ret
      exact ⟨rfl, hb3⟩
    have HM0 := mhid hm
    have hlb100 : lb.length ≤ 100 := by omega
    have c0 := HBX.out.cell (k := 0) rfl
    have c1 := HBX.out.cell (k := 1) rfl
    have c2 := HBX.out.cell (k := 2) rfl
    have c3 := HBX.out.cell (k := 3) rfl
    have c4 := HBX.out.cell (k := 4) rfl
    have c5 := HBX.out.cell (k := 5) rfl
    have c6 := HBX.out.cell (k := 6) rfl
    have c7 := HBX.out.cell (k := 7) rfl
    have c8 := HBX.out.cell (k := 8) rfl
    have f8 := HBX.out.frozen 8
    go_wp2_with fail
    obtain ⟨W3, hW3⟩ : ∃ W3, W3 = W2.setCell ⟨w.heap.size, 8, none⟩ (.bool false) := ⟨_, rfl⟩
    have hb3 : Below w.heap.size w W3 := by rw [hW3]; exact HB2.out.setCell (p := ⟨w.heap.size, 8, none⟩) (Nat.le_refl _) _
    have hB3 : ARow W3 w.heap.size 26 [.int .i64 x.nw, .int .i64 x.cwp, .slice pr x.regs.length cr, .slice pf x.frames.length cf, .int .u8 x.flags, .int .u8 x.pil, .slice pg x.globals.length cg, .int .u32 x.fill, .bool false] := by rw [hW3]; exact HBX.out.set 8 (.bool false)
    rw [← hW3]
    clear hW3 c0 c1 c2 c3 c4 c5 c6 c7 c8 f8 HBX
    have HB3 := mhid hb3
    have HBX3 := mhid hB3
    have HTW := mhid (HT.out.keep hb3)
    have HRW := mhid (HR.out.keep hb3)
    have HWW := mhid (And.intro hB3.lt (And.intro hb3.size hb3.size))
    clear hb3 hB3
    refine (wmade_any W3 HTW.out HRW.out { x with up := false } _ _ _ (show CaseIn W3 { x with up := false } _ _ _ from by have h := HX.out.keepb HB3.out; exact ⟨h.r, h.f, h.g, h.nw, h.cwp, h.fl, h.pil, h.fill⟩) (mayW_down HM0.out)).mono ?_
    rintro e w4 ⟨M, G, m, rfl, hM, hMade⟩
    have HBX4 := mhid (HBX3.out.below hM.bel)
    have HB4 := mhid (HB3.out.trans (hM.bel.mono HB3.out.size))
    have HOFF := mhid (show G.R w.heap.size = .none from by
      by_cases e : G.R w.heap.size = .none
      · exact e
      · exact absurd (hM.lo _ e) (by have := HWW.out.1; omega))
    have hcwn : ∃ cw : Nat, x.cwp = (cw : Int) := ⟨x.cwp.toNat, (Int.toNat_of_nonneg HM0.out.2.1.1).symm⟩
    obtain ⟨cw, hcw⟩ := hcwn
    have HM := mhid hM
    have HME := mhid hMade
    have hnw : x.nw = (m.f.nw : Int) := hMade.nw.symm
    have hcwl : cw < m.f.nw := by have := HM0.out.2.1; omega
    have HCW := mhid (And.intro hcw (And.intro hnw hcwl))
    clear hM hMade hcw hnw hcwl
    have c1 := HBX4.out.cell (k := 1) rfl
    have HK4 := mhid (fun (W : World) (hb : Below w4.heap.size w4 W) => (show W.cell? ⟨w.heap.size, 1, none⟩ = some (.int .i64 x.cwp) from (HBX4.out.below hb).cell (k := 1) rfl))
    have HF4 := mhid (fun (W : World) (hb : Below w4.heap.size w4 W) => mfile_any W G M m (HM.out.keepb hb).at')
    have HN4 := mhid (fun (W : World) (hb : Below w4.heap.size w4 W) => mw_win W3 W G M m (HM.out.keepb hb) x.cwp)
    have hbW : Below w4.heap.size w4 w4.drew := (Below.refl _ _).drew
    go_upto_region 7 with (fail)
    go_region_held3 (fun W => W.cell? ⟨w.heap.size, 1, none⟩ = some (.int .i64 x.cwp))
      (first | (with_reducible exact HK4.out _ hbW) | (refine HK4.out _ ?_; go_grown; done))
      (first
        | (go_at_call 12; (with_reducible refine (HF4.out _ hbW).mono ?_); rintro e wx ⟨rfl, rfl⟩)
        | (go_at_call 13; (with_reducible refine (HN4.out _ hbW).mono ?_); rintro e w5 ⟨v5, rfl, hr5, hb⟩; have HR5 := mhid hr5; have hbW := hbW.trans (hb.mono hbW.size); clear hb hr5))
    have hrow : winV m.f x.cwp = winR m.f cw := by rw [HCW.out.1]; exact winV_nat HCW.out.2.2
    rw [hrow] at HR5
    clear hrow
    have HQ5 := mhid (show BW w W3 w5 G M m [.int .i64 x.nw, .int .i64 x.cwp, .slice pr x.regs.length cr, .slice pf x.frames.length cf, .int .u8 x.flags, .int .u8 x.pil, .slice pg x.globals.length cg, .int .u32 x.fill, .bool false] v5 (winR m.f cw) from ⟨HM.out.keepb hbW, HOFF.out, HBX4.out.below hbW, HR5.out, HB4.out.trans (hbW.mono HB4.out.size)⟩)
    clear HK4 HF4 HN4 hbW HR5 HM HOFF HBX4 HB4 HBX3 HB3 HB2 c1
    obtain ⟨fa, hfa⟩ : ∃ fa, fa = getV m.f x.cwp 0 14 := ⟨_, rfl⟩
    have hfb : 0 ≤ fa ∧ fa < 4294967296 := by rw [hfa]; exact HQ5.out.mis.at'.ok.f.gV _ _ _
    have HFA := mhid hfa
    clear hfa
    have c1 := HQ5.out.box.cell (k := 1) rfl
    have HK4 := mhid (fun (W : World) (hb : Below w5.heap.size w5 W) => (show W.cell? ⟨w.heap.size, 1, none⟩ = some (.int .i64 x.cwp) from (HQ5.out.box.below hb).cell (k := 1) rfl))
    have HF4 := mhid (fun (W : World) (hb : Below w5.heap.size w5 W) => mfile_any W G M m (HQ5.out.mis.keepb hb).at')
    have HG4 := mhid (fun (W : World) (hb : Below w5.heap.size w5 W) => (show Calls Tryz.prog 14 #[.pointer (some ⟨G.F, 0, none⟩), .int .i64 x.cwp, .int .i64 0, .int .i64 14] W fun e w' => e = .returned (.tuple #[.int .u32 fa, .int .i64 (regE m.f x.cwp 0 14)]) ∧ Below W.heap.size W w' from by
      refine (fget_any W G.F G.Wb G.wc m.f (HQ5.out.mis.keepb hb).at'.file x.cwp 0 14).mono ?_
      rintro e w' ⟨rfl, n, rfl⟩
      exact ⟨by rw [← HFA.out], ⟨rfl, rfl, rfl, Nat.le_refl _, fun _ _ => rfl⟩⟩))
    have hbW : Below w5.heap.size w5 w5.drew := (Below.refl _ _).drew
    go_upto_region 8 with (fail)
    go_region_held3 (fun W => W.cell? ⟨w.heap.size, 1, none⟩ = some (.int .i64 x.cwp))
      (first | (with_reducible exact HK4.out _ hbW) | (refine HK4.out _ ?_; go_grown; done))
      (first
        | (go_at_call 12; (with_reducible refine (HF4.out _ hbW).mono ?_); rintro e wx ⟨rfl, rfl⟩)
        | (go_at_call 14; (with_reducible refine (HG4.out _ hbW).mono ?_); rintro e w6 ⟨rfl, hb⟩; have hbW := hbW.trans (hb.mono hbW.size); clear hb))
    have HQ6 := mhid (HQ5.out.keep hbW)
    clear HK4 HF4 HG4 hbW HQ5 c1
    go_wp2_with fail
    refine (renc_any (turnOp true) (by decide) w6).mono ?_
    rintro e w7 ⟨rfl, hb7⟩
    have HQ7 := mhid (HQ6.out.keep hb7)
    clear hb7 HQ6
    go_wp2_with fail
    refine (mmem_any w7 G M m HQ7.out.mis.at').mono ?_
    rintro e w' ⟨rfl, rfl⟩
    have hxb := encS_bd (show (turnOp true).bd by decide)
    go_wp2_with fail
    refine (mw_store W3 w7 G M m HQ7.out.mis 1540 (encS (turnOp true)) (by decide) hxb).mono ?_
    rintro e w8 ⟨rfl, hto8⟩
    obtain ⟨G8, hQ8⟩ := HQ7.out.to HWW.out.2.2 hto8
    have hbk : ({ m with mem := storeV m.mem 1540 4 (encS (turnOp true)) } : Mx) = backM m := by unfold backM; rw [show ((1540 : Nat) : Int) = 1540 from rfl]
    rw [hbk] at hQ8
    have HQ8 := mhid hQ8
    obtain ⟨n2, m2, h1, h60, hRest, hBack⟩ := back_first HME.out (mayW_down HM0.out) HQ7.out.mis.at'.ok hQ8.mis.at'.ok rfl
    have HRE := mhid hRest
    have HBK := mhid hBack
    have HOK0 := mhid HQ7.out.mis.at'.ok
    clear hto8 hQ8 hbk hRest hBack HQ7 hxb
    go_wp2_with fail
    refine (wruns_any W3 w8 HTW.out HRW.out G8 M (backM m) m2 HQ8.out.mis 1540 60 n2 (by decide) (by decide) h60 h1 (by show (backM m).out.length < 1000000; rw [backM_out, HME.out.out]; decide) HRE.out).mono ?_
    rintro e w9 ⟨rfl, hto9⟩
    obtain ⟨G9, hQ9⟩ := HQ8.out.to HWW.out.2.2 hto9
    have HQ9 := mhid hQ9
    clear hto9 hQ9 HQ8 HRE
    obtain ⟨at', hat⟩ : ∃ at' : Nat, at' = (cw + m.f.nw - 1) % m.f.nw := ⟨_, rfl⟩
    obtain ⟨last, hlast⟩ : ∃ last : Nat, last = (cw + m.f.nw - 2) % m.f.nw := ⟨_, rfl⟩
    have hnw32 := HOK0.out.f.nw32
    have hnw2 := HOK0.out.f.nw2
    have hatl : at' < m.f.nw := by rw [hat]; exact Nat.mod_lt _ (by omega)
    have hal : (at' + m.f.nw - 1) % m.f.nw = last := by rw [hat, hlast]; exact less_two HCW.out.2.2 hnw2
    have hpq : m2.p = ⟨(at' : Int), x.pil, 0, x.flags⟩ := by
      have := HBK.out.p
      rw [HCW.out.1, Int.toNat_natCast, ← hat] at this
      exact this
    have HAT := mhid (And.intro hat (And.intro hlast (And.intro hatl hal)))
    have HPS := mhid (show Calls Tryz.prog 19 #[.pointer (some ⟨M, 0, none⟩)] w9 fun e w' => e = .returned (.agg #[.int .u8 (at' : Int), .int .u8 x.pil, .int .u8 0, .int .u8 x.flags]) ∧ Below w9.heap.size w9 w' from by
      have := mpsr_any w9 G9 M m2 HQ9.out.mis.at'
      rw [hpq] at this
      exact this)
    have eat : IntKind.i64.wrap (at' : Int) = (at' : Int) := IntWalk.i64_in _ (by omega)
    have fs0 := wfield_psr0
    have HA32 := mhid (show at' < 32 by omega)
    clear hat hlast hatl hal hpq hnw32 hnw2
    go_wp2_with fail
    refine HPS.out.mono ?_
    rintro e w10 ⟨rfl, hb10⟩
    have HQ10 := mhid (HQ9.out.keep hb10)
    clear hb10 HPS HQ9
    have HF0 := mhid (show Betw m2.f m2.f at' last from Betw.refl HQ10.out.mis.at'.ok.f _ _)
    go_wp2_with fail
    go_loopw [13] (fun i wr => ∃ (k : Nat) (G' : MG) (f' : Fx), k ≤ lb.length ∧ i = .int .i64 (k : Int) ∧ Hid (BW w W3 wr G' M { m2 with f := f' } [.int .i64 x.nw, .int .i64 x.cwp, .slice pr x.regs.length cr, .slice pf x.frames.length cf, .int .u8 x.flags, .int .u8 x.pil, .slice pg x.globals.length cg, .int .u32 x.fill, .bool false] v5 (winR m.f cw)) ∧ Hid (Betw m2.f f' at' last)) (fun i _ => lb.length - (intOf i).toNat)
    case atStart => exact ⟨0, G9, m2.f, by omega, rfl, HQ10, HF0⟩
    case round =>
      clear HQ10 HF0
      obtain ⟨k, G', f', hk, rfl, HQ, HF⟩ := hrel
      have e3 : IntKind.i64.wrap ((k : Int) + 1) = ((k + 1 : Nat) : Int) := by rw [IntWalk.i64_in _ (by omega)]; omega
      by_cases hlt : k < lb.length
      · have h1' : (k : Int) < (lb.length : Int) := by omega
        obtain ⟨rb, ro, rfl, hrc⟩ := HLB.out.cell (by omega)
        have hxb : 0 ≤ lb.getD k 0 ∧ lb.getD k 0 < 4294967296 := HLB.out.1.1.at k
        have hcx := (HQ.out.bel.cell (World.block_lt_of_cell? _ _ (hrc k hlt))).trans (hrc k hlt)
        have HRC := mhid (fun (W : World) (hb : Below w.heap.size w W) => (hb.cell (World.block_lt_of_cell? _ _ (hrc k hlt))).trans (hrc k hlt))
        obtain ⟨r, hr⟩ : ∃ r : Nat, r = 8 + k % 24 := ⟨_, rfl⟩
        have hrb : 8 ≤ r ∧ r < 32 := by omega
        have e1 : (k : Int).tmod 24 = (k : Int) % 24 := by rw [Int.tmod_eq_emod_of_nonneg (by omega)]
        have e2 : IntKind.i64.wrap (8 + (k : Int) % 24) = 8 + (k : Int) % 24 := IntWalk.i64_in _ (by omega)
        have e2' : IntKind.i64.wrap ((k : Int) % 24) = (k : Int) % 24 := IntWalk.i64_in _ (by omega)
        have HRR := mhid (show 8 + (k : Int) % 24 = (r : Int) by omega)
        have HK4 := mhid (fun (W : World) (hb : Below wr.heap.size wr W) => (show W.cell? ⟨rb, ro + k, none⟩ = some (.int .u32 (lb.getD k 0)) from HRC.out W (HQ.out.bel.trans (hb.mono HQ.out.bel.size))))
        have HF4 := mhid (fun (W : World) (hb : Below wr.heap.size wr W) => mfile_any W G' M _ (HQ.out.mis.keepb hb).at')
        have HS4 := mhid (fun (W : World) (hb : Below wr.heap.size wr W) => mw_set W3 W G' M _ (HQ.out.mis.keepb hb) (at' : Int) 0 (8 + (k : Int) % 24) (lb.getD k 0) hxb)
        have HTO := mhid (fun (W W' : World) (m' : Mx) (hb : Below wr.heap.size wr W) (ht : MTo W3 W W' G' M m') => (HQ.out.keep hb).to HWW.out.2.2 ht)
        have HXB := mhid hxb
        have HRD := mhid hr
        clear hrc hxb hr
        generalize lb.getD k 0 = xk at *
        by_cases h30 : r = 30
        · have h30' : 8 + (k : Int) % 24 = 30 := by have := HRD.out; omega
          go_wp2_with fail
          exact ⟨⟨k + 1, G', f', by omega, by go_num, HQ, HF⟩, by simp [intOf] <;> omega⟩
        have h30' : ¬ 8 + (k : Int) % 24 = 30 := by have := HRD.out; omega
        by_cases h14 : r = 14
        · have h14' : 8 + (k : Int) % 24 = 14 := by have := HRD.out; omega
          go_wp2_with fail
          exact ⟨⟨k + 1, G', f', by omega, by go_num, HQ, HF⟩, by simp [intOf] <;> omega⟩
        have h14' : ¬ 8 + (k : Int) % 24 = 14 := by have := HRD.out; omega
        have hbW : Below wr.heap.size wr wr.drew := (Below.refl _ _).drew
        go_upto_region 19 with (fail)
        go_region_held3 (fun W => W.cell? ⟨rb, ro + k, none⟩ = some (.int .u32 xk))
          (first | (with_reducible exact HK4.out _ hbW) | (with_reducible exact hSx) | (refine HK4.out _ ?_; go_grown; done))
          (first
            | (go_at_call 12; (with_reducible refine (HF4.out _ hbW).mono ?_); rintro e wx ⟨rfl, rfl⟩)
            | (go_at_call 20; (with_reducible refine (HS4.out _ hbW).mono ?_); rintro e w5 ⟨rfl, hto⟩; obtain ⟨G5, hW5⟩ := HTO.out _ _ _ hbW hto; have hSx := HRC.out w5 hW5.bel))
        all_goals
          have HQ5 := mhid hW5
          have HF5 := mhid (show Betw m2.f (setV f' (at' : Int) 0 (8 + (k : Int) % 24) xk) at' last from by rw [HRR.out]; exact HF.out.set (by rw [HBK.out.nw]; exact HAT.out.2.2.1) (by rw [HBK.out.nw]; exact HAT.out.2.2.2) hrb.1 hrb.2 h14 h30 HXB.out)
          clear hSx hto hW5
          go_wp2_with fail
          exact ⟨⟨k + 1, G5, _, by omega, by go_num, HQ5, HF5⟩, by simp [intOf] <;> omega⟩
      · obtain rfl : k = lb.length := by omega
        have b0 := HQ.out.box.cell (k := 0) rfl
        have HCC := mhid (show 0 ≤ x.cwp ∧ x.cwp < 32 from by have := HCW.out; have := HM0.out.1; have := HM0.out.2.1; omega)
        have hcast : (1544 : Int) = ((1544 : Nat) : Int) := rfl
        clear hcast
        go_upto_if 93 with (fail)
        go_cut [15, 16] from 91 (fun _ _ W => Hid (BW w W3 W G' M { m2 with f := f' } [.int .i64 x.nw, .int .i64 x.cwp, .slice pr x.regs.length cr, .slice pf x.frames.length cf, .int .u8 x.flags, .int .u8 x.pil, .slice pg x.globals.length cg, .int .u32 x.fill, .bool false] v5 (winR m.f cw)))
        case first =>
          by_cases hn2 : x.nw = 2
          · obtain ⟨A, f1, f2, f3, f4, f5⟩ := HBK.out.fr
            have hlc : (({ x with up := false } : CaseW).cwp.toNat + m.f.nw - 2) % m.f.nw = cw := by
              have h1 := HCW.out.1; have h2 := HCW.out.2.1; have h3 := HCW.out.2.2
              have h4 : m.f.nw = 2 := by omega
              show (x.cwp.toNat + m.f.nw - 2) % m.f.nw = cw
              rw [h4]; omega
            rw [hlc] at f1 f5
            have hfA : fa = (A : Int) := by rw [HFA.out, HCW.out.1]; exact f1
            have hsp : spanE m2.mem.length fa 16 4 = 0 := by
              rw [hfA, HBK.out.len]
              exact spanE_row 4096 A 16 f3 (by omega)
            have hwo : wordsS m2.mem fa.toNat 16 = winR m.f cw := by rw [hfA]; exact f5
            have HWO := mhid (show Calls Tryz.prog 21 #[.pointer (some ⟨G'.mB, 0, none⟩), .int .u32 fa, .int .i64 16] wr fun e w' => ∃ v, e = .returned (.tuple #[v, .int .i64 0]) ∧ Reads32 w' v (winR m.f cw) ∧ Below wr.heap.size wr w' from by
              refine (words_any wr G'.mB G'.gB m2.mem HQ.out.mis.at'.mem fa hfb.1 hfb.2 16 (by decide)).mono ?_
              rintro e w' ⟨v, l, rfl, hl, hown, hb⟩
              rw [hsp] at hl ⊢
              rw [if_pos rfl, show (16 : Int).toNat = 16 from rfl, hwo] at hl
              subst hl
              exact ⟨v, rfl, Reads32.of_own hown, hb⟩)
            have hd2 : (x.nw == 2) = true := by rw [beq_iff_eq]; exact hn2
            clear f1 f2 f3 f4 f5 hlc hfA hsp hwo hn2
            go_wp2_with fail
            refine (mmem_any wr G' M _ HQ.out.mis.at').mono ?_
            rintro e w' ⟨rfl, rfl⟩
            go_wp2_with fail
            refine HWO.out.mono ?_
            rintro e w11 ⟨v11, rfl, hr11, hb11⟩
            have HQ11 := mhid (HQ.out.keep hb11)
            have HR11 := mhid hr11
            clear hb11 hr11 HWO
            go_wp2_with fail
            refine (same_any w11 _ _ _ _ HR11.out HQ11.out.row.1).mono ?_
            rintro e w12 ⟨rfl, hb12⟩
            rw [decide_eq_true rfl]
            have HQ12 := mhid (HQ11.out.keep hb12)
            clear hb12 HQ11 HR11
            go_wp2_with fail
            go_meet
            exact HQ12
          · have hd2 : (x.nw == 2) = false := by rw [beq_eq_false_iff_ne]; exact hn2
            go_wp2_with fail
            go_meet
            exact HQ
        case rest =>
          clear HQ b0
          obtain ⟨w12, rfl⟩ : ∃ W, W = wc := ⟨_, rfl⟩
          have HQ := hcut
          obtain ⟨n4, m4, q1, q60, qR, qcw, qnw, qwin, qg⟩ := back_second HME.out (mayW_down HM0.out) HOK0.out HBK.out (by rw [show ({ x with up := false } : CaseW).cwp.toNat = cw from by show x.cwp.toNat = cw; have := HCW.out.1; omega, ← HAT.out.1, ← HAT.out.2.1]; exact HF.out) HQ.out.mis.at'.ok
          have hcwt : ({ x with up := false } : CaseW).cwp.toNat = cw := by show x.cwp.toNat = cw; have := HCW.out.1; omega
          rw [hcwt] at qwin qg
          have HRE := mhid qR
          have qg' : getV m4.f x.cwp 0 14 = fa := by rw [HFA.out, HCW.out.1]; exact qg
          have qw' : winV m4.f x.cwp = winR m.f cw := by rw [HCW.out.1, winV_nat (by rw [qnw]; exact HCW.out.2.2)]; exact qwin
          have HQ4 := mhid (And.intro qg' (And.intro qw' (show m4.p.cwp = x.cwp from qcw)))
          clear qR qcw qnw qwin qg hcwt qg' qw'
          go_wp2_with fail
          refine (wruns_any W3 w12 HTW.out HRW.out G' M _ m4 HQ.out.mis 1544 60 n4 (by decide) (by decide) q60 q1 (by show m2.out.length < 1000000; rw [HBK.out.out]; decide) HRE.out).mono ?_
          rintro e w13 ⟨rfl, hto⟩
          obtain ⟨G13, hQ13⟩ := HQ.out.to HWW.out.2.2 hto
          have HQ := mhid hQ13
          clear hto hQ13 hcut HRE HF
          have HK4 := mhid (fun (W : World) (hb : Below w13.heap.size w13 W) => (show W.cell? ⟨w.heap.size, 1, none⟩ = some (.int .i64 x.cwp) from (HQ.out.box.below hb).cell (k := 1) rfl))
          have HF4 := mhid (fun (W : World) (hb : Below w13.heap.size w13 W) => mfile_any W G13 M m4 (HQ.out.mis.keepb hb).at')
          have HN4 := mhid (fun (W : World) (hb : Below w13.heap.size w13 W) => (show Calls Tryz.prog 13 #[.pointer (some ⟨G13.F, 0, none⟩), .int .i64 x.cwp] W fun e w' => ∃ v, e = .returned (.tuple #[v, .int .i64 (regE m4.f x.cwp 0 0)]) ∧ Reads32 w' v (winR m.f cw) ∧ Below W.heap.size W w' from by
            refine (mw_win W3 W G13 M m4 (HQ.out.mis.keepb hb) x.cwp).mono ?_
            rintro e w' ⟨v, rfl, hr, hb2⟩
            rw [HQ4.out.2.1] at hr
            exact ⟨v, rfl, hr.1, hb2⟩))
          have hbW : Below w13.heap.size w13 w13.drew := (Below.refl _ _).drew
          have c1 := HQ.out.box.cell (k := 1) rfl
          go_upto_region 26 with (fail)
          go_region_held3 (fun W => W.cell? ⟨w.heap.size, 1, none⟩ = some (.int .i64 x.cwp))
            (first | (with_reducible exact HK4.out _ hbW) | (refine HK4.out _ ?_; go_grown; done))
            (first
              | (go_at_call 12; (with_reducible refine (HF4.out _ hbW).mono ?_); rintro e wx ⟨rfl, rfl⟩)
              | (go_at_call 13; (with_reducible refine (HN4.out _ hbW).mono ?_); rintro e w14 ⟨v14, rfl, hr14, hb⟩; have HR14 := mhid hr14; have hbW := hbW.trans (hb.mono hbW.size); clear hb hr14))
          have HQ14 := mhid (HQ.out.keep hbW)
          clear HK4 HF4 HN4 hbW HQ c1
          have HK4 := mhid (fun (W : World) (hb : Below w14.heap.size w14 W) => (show W.cell? ⟨w.heap.size, 1, none⟩ = some (.int .i64 x.cwp) from (HQ14.out.box.below hb).cell (k := 1) rfl))
          have HF4 := mhid (fun (W : World) (hb : Below w14.heap.size w14 W) => mfile_any W G13 M m4 (HQ14.out.mis.keepb hb).at')
          have HG4 := mhid (fun (W : World) (hb : Below w14.heap.size w14 W) => (show Calls Tryz.prog 14 #[.pointer (some ⟨G13.F, 0, none⟩), .int .i64 x.cwp, .int .i64 0, .int .i64 14] W fun e w' => e = .returned (.tuple #[.int .u32 fa, .int .i64 (regE m4.f x.cwp 0 14)]) ∧ Below W.heap.size W w' from by
            refine (fget_any W G13.F G13.Wb G13.wc m4.f (HQ14.out.mis.keepb hb).at'.file x.cwp 0 14).mono ?_
            rintro e w' ⟨rfl, n, rfl⟩
            exact ⟨by rw [HQ4.out.1], ⟨rfl, rfl, rfl, Nat.le_refl _, fun _ _ => rfl⟩⟩))
          have hbW : Below w14.heap.size w14 w14.drew := (Below.refl _ _).drew
          have c1 := HQ14.out.box.cell (k := 1) rfl
          go_upto_region 27 with (fail)
          go_region_held3 (fun W => W.cell? ⟨w.heap.size, 1, none⟩ = some (.int .i64 x.cwp))
            (first | (with_reducible exact HK4.out _ hbW) | (refine HK4.out _ ?_; go_grown; done))
            (first
              | (go_at_call 12; (with_reducible refine (HF4.out _ hbW).mono ?_); rintro e wx ⟨rfl, rfl⟩)
              | (go_at_call 14; (with_reducible refine (HG4.out _ hbW).mono ?_); rintro e w15 ⟨rfl, hb⟩; have hbW := hbW.trans (hb.mono hbW.size); clear hb))
          have HQ15 := mhid (HQ14.out.keep hbW)
          have HR15 := mhid (HR14.out.keepb hbW)
          clear HK4 HF4 HG4 hbW HQ14 HR14 c1
          have HK4 := mhid (fun (W : World) (hb : Below w15.heap.size w15 W) => (show W.cell? ⟨w.heap.size, 1, none⟩ = some (.int .i64 x.cwp) from (HQ15.out.box.below hb).cell (k := 1) rfl))
          have HP4 := mhid (fun (W : World) (hb : Below w15.heap.size w15 W) => (show Calls Tryz.prog 19 #[.pointer (some ⟨M, 0, none⟩)] W fun e w' => e = .returned (.agg #[.int .u8 x.cwp, .int .u8 m4.p.pil, .int .u8 m4.p.bank, .int .u8 m4.p.flags]) ∧ Below W.heap.size W w' from by
            have := mpsr_any W G13 M m4 (HQ15.out.mis.keepb hb).at'
            unfold Px.agg at this
            rw [HQ4.out.2.2] at this
            exact this))
          have HS4 := mhid (fun (W : World) (hb : Below w15.heap.size w15 W) => (show Calls Tryz.prog 22 #[v5, v14] W fun e w' => e = .returned (.bool true) ∧ Below W.heap.size W w' from by
            refine (same_any W _ _ _ _ (HQ15.out.row.1.keepb hb) (HR15.out.keepb hb)).mono ?_
            rintro e w' ⟨rfl, hb2⟩
            exact ⟨by rw [decide_eq_true rfl], hb2⟩))
          have HH4 := mhid (fun (W : World) (hb : Below w15.heap.size w15 W) => whead_any W (HT.out.keep (HQ15.out.bel.trans (hb.mono HQ15.out.bel.size))) (HR.out.keep (HQ15.out.bel.trans (hb.mono HQ15.out.bel.size))))
          have HEND := mhid (fun (W : World) (hb : Below w15.heap.size w15 W) => HQ15.out.bel.trans (hb.mono HQ15.out.bel.size))
          have ecw : IntKind.i64.wrap x.cwp = x.cwp := IntWalk.i64_in _ (by have := HCC.out; omega)
          have hbW : Below w15.heap.size w15 w15.drew := (Below.refl _ _).drew
          have c1 := HQ15.out.box.cell (k := 1) rfl
          go_upto_region 28 with (fail)
          go_region_held3 (fun W => W.cell? ⟨w.heap.size, 1, none⟩ = some (.int .i64 x.cwp))
            (first | (with_reducible exact HK4.out _ hbW) | (refine HK4.out _ ?_; go_grown; done))
            (first
              | (go_at_call 19; (with_reducible refine (HP4.out _ hbW).mono ?_); rintro e wx ⟨rfl, hb⟩; have hbW := hbW.trans (hb.mono hbW.size); clear hb)
              | (go_at_call 22; (with_reducible refine (HS4.out _ hbW).mono ?_); rintro e wy ⟨rfl, hb⟩; have hbW := hbW.trans (hb.mono hbW.size); clear hb)
              | (go_at_call 10; (with_reducible refine (HH4.out _ hbW).mono ?_); rintro e wz ⟨rfl, hb⟩; have hbW := hbW.trans (hb.mono hbW.size); clear hb))
          all_goals go_wp2_with fail
          all_goals
            first
              | go_ret2
              | go_ret
            exact ⟨rfl, HEND.out _ hbW⟩
  · rw [decide_eq_false hm]
    go_wp2_with fail
    refine (HHD.out W2 HB2.out).mono ?_
    rintro e w3 ⟨rfl, hb3⟩
    go_wp2_with fail
    first
      | go_ret2
      | go_ret
    exact ⟨rfl, hb3⟩
end Go.Proofs.YtajholbcpmjhiaaGreatDoor
