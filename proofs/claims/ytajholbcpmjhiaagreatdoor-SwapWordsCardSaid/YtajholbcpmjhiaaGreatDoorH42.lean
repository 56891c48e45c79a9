/- Several texts in one: SwapHead, AsmMovesLaw, SwapPre, Ref6, WindWorld. -/
import Derived.Test.YtajholbcpmjhiaaGreatDoorH01
import Derived.Test.YtajholbcpmjhiaaGreatDoorH02
import Derived.Test.YtajholbcpmjhiaaGreatDoorH03
import Derived.Test.YtajholbcpmjhiaaGreatDoorH04
import Derived.Test.YtajholbcpmjhiaaGreatDoorH05
import Derived.Test.YtajholbcpmjhiaaGreatDoorH06
import Derived.Test.YtajholbcpmjhiaaGreatDoorH07
import Derived.Test.YtajholbcpmjhiaaGreatDoorH08
import Derived.Test.YtajholbcpmjhiaaGreatDoorH09
import Derived.Test.YtajholbcpmjhiaaGreatDoorH10
import Derived.Test.YtajholbcpmjhiaaGreatDoorH11
import Derived.Test.YtajholbcpmjhiaaGreatDoorH12
import Derived.Test.YtajholbcpmjhiaaGreatDoorH13
import Derived.Test.YtajholbcpmjhiaaGreatDoorH14
import Derived.Test.YtajholbcpmjhiaaGreatDoorH15
import Derived.Test.YtajholbcpmjhiaaGreatDoorH16
import Derived.Test.YtajholbcpmjhiaaGreatDoorH17
import Derived.Test.YtajholbcpmjhiaaGreatDoorH18
import Derived.Test.YtajholbcpmjhiaaGreatDoorH19
import Derived.Test.YtajholbcpmjhiaaGreatDoorH20
import Derived.Test.YtajholbcpmjhiaaGreatDoorH21
import Derived.Test.YtajholbcpmjhiaaGreatDoorH22
import Derived.Test.YtajholbcpmjhiaaGreatDoorH23
import Derived.Test.YtajholbcpmjhiaaGreatDoorH24
import Derived.Test.YtajholbcpmjhiaaGreatDoorH25
import Derived.Test.YtajholbcpmjhiaaGreatDoorH26
import Derived.Test.YtajholbcpmjhiaaGreatDoorH27
import Derived.Test.YtajholbcpmjhiaaGreatDoorH28
import Derived.Test.YtajholbcpmjhiaaGreatDoorH29
import Derived.Test.YtajholbcpmjhiaaGreatDoorH30
import Derived.Test.YtajholbcpmjhiaaGreatDoorH31
import Derived.Test.YtajholbcpmjhiaaGreatDoorH32
import Derived.Test.YtajholbcpmjhiaaGreatDoorH33
import Derived.Test.YtajholbcpmjhiaaGreatDoorH34
import Derived.Test.YtajholbcpmjhiaaGreatDoorH35
import Derived.Test.YtajholbcpmjhiaaGreatDoorH36
import Derived.Test.YtajholbcpmjhiaaGreatDoorH37
import Derived.Test.YtajholbcpmjhiaaGreatDoorH38
import Derived.Test.YtajholbcpmjhiaaGreatDoorH39
import Derived.Test.YtajholbcpmjhiaaGreatDoorH40
import Derived.Test.YtajholbcpmjhiaaGreatDoorH41
import Derived.WalkKit
import Derived.Laws.AppendOwn
import Derived.Below
import Derived.Deep.QuietTactic
import Derived.BigQuiet
import Derived.WalkSpells
import Derived.Test.YtajholbcpmjhiaaGreatDoorProg
import Derived.Handy
import Derived.WalkLawsBesides
import Derived.RegionTactic
import Derived.Outline
import Derived.Lib.BitFns
import Derived.StillTailTactics
import Derived.BigRegion
import Derived.ChangeAlike
import Derived.Maps.OwnSet
import Derived.Maps.Views
import Derived.Laws.AppendOwnNone
import Derived.WalkArith
import Derived.OneCell
import Derived.ArgAppend
import Derived.Lib.SliceRun
import Derived.Laws.Rows
import Derived.IntWalk
import Derived.Laws.CopyOwn
import Derived.Great.Ranges
import Derived.ProofKit
import Derived.OpenShut
import Derived.RangeFuncNested
import Derived.RangeFuncBound
import Derived.RangeFuncCalls
import Derived.RangeFuncLeaves
import Derived.Shelf.Abstract
import Derived.Shelf.RegionOpen
import Derived.OwnWalkIn
import Derived.TacticsInMore
import Derived.LoopNIn
import Derived.LoopIn
import Derived.RegionIn
import Derived.Deep.RegionHeld
import Derived.Deep.RegionHeld3
import Derived.Deep.Cut
import Derived.Laws.EntriesVeiled
import Derived.Deep.RegionLaw
import Derived.Shelf.SlMaps.Clone
import Derived.Deep.AppendLies
import Derived.BigGuardPart
import Derived.Lib.ParseIntB
import Derived.Lib.ItoaNum
import Derived.Shelf.Strings.Cut
import Derived.Shelf.Small.Wraps
import Derived.Shelf.Pu.ParseUintPublic10
import Derived.Shelf.Strconv.Itoa3
import Derived.WalkSmall
import Derived.Lib.IndexMore
import Derived.Maps.AppendAt
import Derived.Deep.Slices
import Derived.Deep.CutRange
import Derived.Deep.WholeRow
import Derived.Deep.OwnRows
/- The walk of muntinlaw10.head. -/
namespace Go.Proofs.YtajholbcpmjhiaaGreatDoor
open Go.RowKit
set_option linter.unusedVariables false
set_option linter.unusedSimpArgs false
def headSt (t : Nat) : Int := if t = 1 then 1000 else 0
def headC (en : Bool) (c : Int) : CaseS := ⟨3, 1, 0, [], [0, 100, 200], 2, 0, fun t => decide (t < 2), headSt, c, 0, 0, 0, en⟩
theorem headC_may (en : Bool) (c : Int) : mayS (headC en c) := by unfold mayS headC; simp
theorem headSt_bd (t : Nat) : 0 ≤ headSt t ∧ headSt t < 65536 := by unfold headSt; split <;> omega
theorem head_live : liveS (headC false 5) = 2 ∧ nextT (headC false 5) = 1 ∧ liveS (headC true 0) = 1 ∧ nextT (headC true 0) = 1 := by decide
theorem head_pc : pcS (headC false 5) 1 = 1704 ∧ pcS (headC true 0) 1 = 1704 := by decide
theorem head_n (en : Bool) (c : Int) : nS (headC en c) = 2 := by unfold nS headC; rfl
theorem head_sp (m : Mx) : spS (headC false 5) m 1 = 6048 := by unfold spS; rw [if_neg (by decide)]; rfl
theorem next_own {d : List Int} {t : Nat} (ht : t < 4) (hl : 2048 ≤ d.length) : loadS (nextS d t) 128 4 = (t : Int) := by
  unfold nextS
  rw [load_far _ (by omega), load_own (by omega) (by omega)]
theorem next_low {d : List Int} {t a : Nat} (ha : a + 4 ≤ 128) : loadS (nextS d t) a 4 = loadS d a 4 := by
  unfold nextS
  rw [load_far _ (by omega), load_far _ (by omega)]
theorem headM_facts {m m' : Mx} (hok : m.ok) (h : MadeS (headC false 5) m) (hm : m'.mem = nextS (halfS m 1 2 0 false) 1) (hw : m'.f.win = setW (m.f.win.set (16 * ((1 + m.f.nw - 1) % m.f.nw) + 14) (6048 : Nat)) 1 (wordsS (nextS (halfS m 1 2 0 false) 1) 6048 16)) (hn : m'.f.nw = m.f.nw) :
    loadV m'.mem 128 4 = 1 ∧ loadV m'.mem 64 4 = 1540 ∧ getV m'.f 1 0 14 = frmX 1000 := by
  have hnw : m.f.nw = 3 := by have := h.nw; have h3 : (headC false 5).nw = 3 := rfl; omega
  have hwl := hok.f.wl
  have ha := h.trap (headC_may _ _) ⟨by decide, by decide⟩ hok
  obtain ⟨hl8, -⟩ := half_tcb ha
  have hl8' : (halfS m 1 2 0 false).length = 8192 := hl8
  have hl2 : m'.mem.length = 8192 := by rw [hm, nextS_len]; exact hl8'
  refine ⟨?_, ?_, ?_⟩
  · rw [show (128 : Int) = ((128 : Nat) : Int) from rfl, loadV_in (by decide) (by omega), hm, next_own (by decide) (by omega)]; rfl
  · rw [show (64 : Int) = ((64 : Nat) : Int) from rfl, loadV_in (by decide) (by omega), hm, next_low (by decide)]
    unfold halfS keepS
    simp only [Bool.false_eq_true, if_false]
    rw [load_far _ (by omega), load_own (by decide) (by rw [flushS_len, h.mem.len]; decide)]
  · have e := getV_out (f := m'.f) (w := 1) (by omega) (by omega)
    rw [show ((1 : Nat) : Int) = 1 from rfl] at e
    rw [e, hn, hw, hnw, setW_out (by rw [List.length_set, hwl, hnw, wordsS_len]; decide) (.inl (by decide)), List.getD_eq_getElem?_getD, List.getElem?_set_self (by rw [hwl, hnw]; decide)]
    rfl
theorem headO_facts {m m' : Mx} (hok : m.ok) (h : MadeS (headC true 0) m) (hm : m'.mem = nextS (halfS m 1 2 0 true) 1) : loadV m'.mem 76 4 = 0 := by
  have hl8' : (halfS m 1 2 0 true).length = 8192 := by unfold halfS; simp only [if_true]; rw [storeS_len]; exact h.mem.len
  have hl2 : m'.mem.length = 8192 := by rw [hm, nextS_len]; exact hl8'
  rw [show (76 : Int) = ((76 : Nat) : Int) from rfl, loadV_in (by decide) (by omega), hm, next_low (by decide)]
  unfold halfS
  simp only [if_true]
  rw [load_own (by decide) (by rw [h.mem.len]; decide)]
def litC (b : Nat) (c : Int) (en : Bool) : List Value := [.int .i64 3, .int .i64 1, .int .i64 0, .slice none 0 0, .slice (some ⟨b, 0, none⟩) 3 3, .int .i64 2, .int .i64 0, .bool true, .bool true, .bool false, .bool false, .int .u16 0, .int .u16 1000, .int .u16 0, .int .u16 0, .int .u32 c, .int .u8 0, .int .u8 0, .int .u32 0, .bool en]
theorem headC_agg (b : Nat) (c : Int) (en : Bool) : (headC en c).agg (.slice none 0 0) (.slice (some ⟨b, 0, none⟩) 3 3) = .agg (litC b c en).toArray := by
  unfold CaseS.agg headC litC headSt
  simp
theorem headC_in {w : World} {b : Nat} (hr : ARow w b 73 [.int .u16 0, .int .u16 100, .int .u16 200]) (en : Bool) (c : Int) (hc : 0 ≤ c ∧ c < 4294967296) : CaseSIn w (headC en c) (.slice none 0 0) (.slice (some ⟨b, 0, none⟩) 3 3) := by
  refine ⟨⟨⟨fun x hx => by simp [headC] at hx, none, 0, rfl, fun h => by simp [headC] at h⟩, by show 0 ≤ maxLen; exact Nat.zero_le _, fun p n c e => by cases e; exact ⟨by decide, fun _ => rfl⟩⟩, ⟨by show 3 ≤ maxLen; unfold maxLen; omega, fun x hx => ?_, some ⟨b, 0, none⟩, 3, b, 0, rfl, fun _ => rfl, fun k x hx => ?_⟩, by unfold headC; simp, headSt_bd, by unfold headC; simp, by unfold headC; simp, by unfold headC; simp, hc⟩
  · have hx2 : x ∈ ([0, 100, 200] : List Int) := hx
    simp at hx2
    omega
  · rw [Nat.zero_add]
    match k, hx with
    | 0, hx => cases hx; exact hr.cell (k := 0) rfl
    | 1, hx => cases hx; exact hr.cell (k := 1) rfl
    | 2, hx => cases hx; exact hr.cell (k := 2) rfl
theorem MIs.base {w00 w0 w w' : World} {G : MG} {M : Nat} {m : Mx} {S : Nat → Prop} (h : MIs w0 w G M m) (o : Only S w w') (hS : ∀ k, S k → G.R k = .none) (hb : Below w00.heap.size w00 w') (hz : w00.heap.size ≤ w0.heap.size) : MIs w00 w' G M m :=
  ⟨h.at'.keep o (fun k hk e => hk (hS k e)), fun k hk => Nat.le_trans hz (h.lo k hk), hb⟩
theorem outL_madeS {x : CaseS} {m : Mx} (h : MadeS x m) : outL m = 0 := by unfold outL; rw [h.out]; rfl
set_option maxRecDepth 100000 in
set_option maxHeartbeats 8000000 in
theorem shead_any (w : World) (ht : Tab w) (hbr : Bru w) :
    Calls Tryz.prog 33 #[] w fun e w' => e = .returned (.bool true) ∧ Below w.heap.size w w' := by
  have HT := mhid ht
  have HR := mhid hbr
  clear ht hbr
  obtain ⟨W0, hW0⟩ : ∃ W0, W0 = w.alloc (.cells #[.int .u16 0, .int .u16 100, .int .u16 200] 73) := ⟨_, rfl⟩
  obtain ⟨W1, hW1⟩ : ∃ W1, W1 = W0.alloc (.cells (litC w.heap.size 5 false).toArray 76) := ⟨_, rfl⟩
  have s0 : W0.heap.size = w.heap.size + 1 := by rw [hW0]; simp
  have hb0 : Below w.heap.size w W0 := by rw [hW0]; exact (Below.refl _ _).alloc (Nat.le_refl _) _
  have hb1 : Below w.heap.size w W1 := by rw [hW1]; exact hb0.alloc (by omega) _
  have hrow : ARow W1 w.heap.size 73 [.int .u16 0, .int .u16 100, .int .u16 200] := by rw [hW1, hW0]; exact (ARow.fresh w _ _).alloc _
  have hbox : ARow W1 (w.heap.size + 1) 76 (litC w.heap.size 5 false) := by rw [hW1, ← s0]; exact ARow.fresh W0 _ _
  have HB1 := mhid hb1
  have HROW := mhid hrow
  have HBOX := mhid hbox
  have HW := mhid (And.intro hW0 hW1)
  unfold litC at HW HBOX
  clear hb0 hb1 hrow hbox
  have HSZ := mhid (show (Tryz.prog.info? 76).map (·.size) = some (litC w.heap.size 5 false).toArray.size from by kernel_rfl)
  have HONE := mhid (show (litC w.heap.size 5 false).toArray.all (·.oneCell') = true from by simp [litC, Value.oneCell'])
  unfold litC at HSZ HONE
  have HZ := mhid (show ∀ z, ((w.alloc (.cells #[.int .u16 0, .int .u16 100, .int .u16 200] 73)).alloc z).heap[w.heap.size + 1]? = some z from fun z => by
    have h := heap_alloc_new (w.alloc (.cells #[.int .u16 0, .int .u16 100, .int .u16 200] 73)) z
    rw [World.size_alloc] at h
    exact h)
  have HQ := mhid (show ∀ z, ((w.alloc (.cells #[.int .u16 0, .int .u16 100, .int .u16 200] 73)).alloc (.cells z 76)).setRow (w.heap.size + 1) (litC w.heap.size 5 false).toArray = W1 from fun z => by
    have h := World.setRow_alloc_new W0 z (litC w.heap.size 5 false).toArray 76
    rw [← hW0, ← s0, h, hW1])
  unfold litC at HQ
  clear hW0 hW1 s0
  go_enter Tryz.func33, Tryz.ntmps33
  have HM1 := mhid (smade_any W1 (HT.out.keep HB1.out) (HR.out.keep HB1.out) (headC false 5) _ _ (headC_in HROW.out false 5 ⟨by decide, by decide⟩) (headC_may _ _))
  rw [headC_agg] at HM1
  unfold litC at HM1
  go_wp2_with (first | (refine wpList_store_row rfl 76 (.tmp 1) (.tmp 15) rfl (w.heap.size + 1) _ rfl rfl 76 _ (HZ.out _) HSZ.out rfl HONE.out ?_) | (refine wpList_load_row rfl 76 (.tmp 1) rfl (w.heap.size + 1) rfl 76 _ (0, 0) _ (setRow_heap _ _ _ _ _ _ (HZ.out _)) Tryz.underlying76 rfl HSZ.out ?_))
  rw [HQ.out]
  clear HZ HQ HW
  refine HM1.out.mono ?_
  rintro e W2 ⟨M, G, m, rfl, hM, hMade⟩
  have hoff : ∀ k, k = w.heap.size + 1 → G.R k = .none := fun k hk => by
    by_cases e : G.R k = .none
    · exact e
    · exact absurd (hM.lo k e) (by have := HBOX.out.lt; omega)
  have HOFF := mhid hoff
  have HBOX2 := mhid (HBOX.out.below hM.bel)
  have HROW2 := mhid (HROW.out.below hM.bel)
  have HB2 := mhid (HB1.out.trans (hM.bel.mono HB1.out.size))
  have HM2 := mhid hM
  have HMADE := mhid hMade
  have HLT := mhid HBOX.out.lt
  have c15 := HBOX2.out.cell (k := 15) rfl
  have c19 := HBOX2.out.cell (k := 19) rfl
  have f15 := HBOX2.out.frozen 15
  have f19 := HBOX2.out.frozen 19
  obtain ⟨W3, hW3⟩ : ∃ W3, W3 = (W2.setCell ⟨w.heap.size + 1, 19, none⟩ (.bool true)).setCell ⟨w.heap.size + 1, 15, none⟩ (.int .u32 0) := ⟨_, rfl⟩
  have hbox3 : ARow ((W2.setCell ⟨w.heap.size + 1, 19, none⟩ (.bool true)).setCell ⟨w.heap.size + 1, 15, none⟩ (.int .u32 0)) (w.heap.size + 1) 76 (litC w.heap.size 0 true) := ((HBOX2.out.set 19 (.bool true)).set 15 (.int .u32 0)).to rfl
  have ho3 : Only (fun k => k = w.heap.size + 1) W2 W3 := by rw [hW3]; exact ((Only.refl (fun k => k = w.heap.size + 1) W2).setCell (p := ⟨w.heap.size + 1, 19, none⟩) rfl _).setCell (p := ⟨w.heap.size + 1, 15, none⟩) rfl _
  have hb3 : Below w.heap.size w W3 := HB2.out.trans (ho3.below HB2.out.size fun k hk e => by omega)
  have HBOX3 := mhid hbox3
  have HSZ2 := mhid (show (Tryz.prog.info? 76).map (·.size) = some (litC w.heap.size 0 true).toArray.size from by kernel_rfl)
  unfold litC at HBOX3 HSZ2
  have HB3 := mhid hb3
  have HM3 := mhid (hM.base (w00 := w) ho3 HOFF.out hb3 (by have := HB1.out.size; omega))
  have HROW3 := mhid (show ARow W3 w.heap.size 73 [.int .u16 0, .int .u16 100, .int .u16 200] from HROW2.out.of_block (ho3.block w.heap.size HROW2.out.lt (by omega)))
  have HM1' := mhid (smade_any W3 (HT.out.keep hb3) (HR.out.keep hb3) (headC true 0) _ _ (headC_in HROW3.out true 0 ⟨by decide, by decide⟩) (headC_may _ _))
  rw [headC_agg] at HM1'
  unfold litC at HM1'
  have HW3 := mhid hW3
  clear hoff hM hMade hbox3 ho3 hb3 hW3 HSZ HONE HBOX HROW HROW2 HM1 HB1 HB2 HM2
  go_wp2_with (refine wpList_load_row rfl 76 (.tmp 1) rfl (w.heap.size + 1) rfl 76 _ (0, 0) _ HBOX3.out Tryz.underlying76 rfl HSZ2.out ?_)
  rw [← HW3.out]
  clear c15 c19 f15 f19 HW3 HBOX3 HSZ2 HBOX2
  refine HM1'.out.mono ?_
  rintro e w4 ⟨O, G2, o, rfl, hO, hMadeO⟩
  have HS4 := mhid (show MIs w w4 G M m ∧ MIs w w4 G2 O o ∧ Apart G G2 from ⟨HM3.out.keepb hO.bel, ⟨hO.at', fun k hk => Nat.le_trans HB3.out.size (hO.lo k hk), HB3.out.trans (hO.bel.mono HB3.out.size)⟩, Apart.fresh HM3.out.at' hO.lo⟩)
  have HMADEO := mhid hMadeO
  clear hO hMadeO HM1' HM3
  obtain ⟨k1, m', h1, hk1, hRest, hAf, -, -, hwin, hmem⟩ := swap_go HMADE.out (headC_may _ _) ⟨by decide, by decide⟩ headSt_bd HS4.out.1.at'.ok (by rw [head_live.1]; decide)
  rw [head_live.2.1] at hRest hAf hwin hmem
  rw [head_pc.1] at hRest hAf
  rw [head_n] at hk1 hwin hmem
  rw [head_sp] at hwin
  obtain ⟨k2, o', h2, hk2, hRestO, hAfO, -, -, -, hmemO⟩ := swap_go HMADEO.out (headC_may _ _) ⟨by decide, by decide⟩ headSt_bd HS4.out.2.1.at'.ok (by rw [head_live.2.2.1]; decide)
  rw [head_live.2.2.2] at hRestO hmemO
  rw [head_pc.2] at hRestO
  rw [head_n] at hk2 hmemO
  have HF1 := mhid (headM_facts HS4.out.1.at'.ok HMADE.out hmem hwin hAf.nw)
  have HF2 := mhid (headO_facts HS4.out.2.1.at'.ok HMADEO.out hmemO)
  have HLM := mhid (show m'.mem.length = 8192 from by rw [hmem, nextS_len]; exact (half_tcb (HMADE.out.trap (headC_may _ _) ⟨by decide, by decide⟩ HS4.out.1.at'.ok)).1)
  have HWI := mhid (show m'.wim = 4 from by
    have := hAf.wim
    have hnw : m.f.nw = 3 := by have := HMADE.out.nw; have h3 : (headC false 5).nw = 3 := rfl; omega
    rw [hnw] at this; exact this)
  have HR1 := mhid (And.intro h1 (And.intro (show k1 ≤ 260 by omega) hRest))
  have HR2 := mhid (And.intro h2 (And.intro (show k2 ≤ 260 by omega) hRestO))
  clear h1 hk1 hRest hAf hwin hmem h2 hk2 hRestO hAfO hmemO
  go_wp2_with fail
  refine (sruns_any w w4 HT.out HR.out G M m m' HS4.out.1 1704 260 k1 (by decide) (by decide) HR1.out.2.1 HR1.out.1 (by rw [outL_madeS HMADE.out]; decide) HR1.out.2.2).mono ?_
  rintro e w5 ⟨rfl, G5, hM5, hkk⟩
  have HS5 := mhid (And.intro hM5 (HS4.out.2.1.other HS4.out.1 HS4.out.2.2 hkk))
  clear hM5 hkk HS4
  go_wp2_with fail
  refine (sruns_any w w5 HT.out HR.out G2 O o o' HS5.out.2.1 1704 260 k2 (by decide) (by decide) HR2.out.2.1 HR2.out.1 (by rw [outL_madeS HMADEO.out]; decide) HR2.out.2.2).mono ?_
  rintro e w6 ⟨rfl, G6, hO6, hkk⟩
  have HS6 := mhid (And.intro (HS5.out.1.other HS5.out.2.1 HS5.out.2.2.symm hkk) hO6)
  clear hO6 hkk HS5
  go_wp2_with fail
  refine (mmem_any w6 G5 M m' HS6.out.1.1.at').mono ?_
  rintro e w' ⟨rfl, rfl⟩
  go_wp2_with fail
  refine (load_any w6 G5.mB G5.gB m'.mem HS6.out.1.1.at'.mem 128 4 (by decide) (by decide)).mono ?_
  rintro e w' ⟨rfl, rfl⟩
  rw [HF1.out.1]
  go_wp2_with fail
  refine (mmem_any w6 G5 M m' HS6.out.1.1.at').mono ?_
  rintro e w' ⟨rfl, rfl⟩
  go_wp2_with fail
  refine (load_any w6 G5.mB G5.gB m'.mem HS6.out.1.1.at'.mem 64 4 (by decide) (by decide)).mono ?_
  rintro e w' ⟨rfl, rfl⟩
  rw [HF1.out.2.1]
  go_wp2_with fail
  refine (mmem_any w6 G6 O o' HS6.out.2.at').mono ?_
  rintro e w' ⟨rfl, rfl⟩
  go_wp2_with fail
  refine (load_any w6 G6.mB G6.gB o'.mem HS6.out.2.at'.mem 76 4 (by decide) (by decide)).mono ?_
  rintro e w' ⟨rfl, rfl⟩
  rw [HF2.out]
  go_wp2_with fail
  refine (mfile_any w6 G5 M m' HS6.out.1.1.at').mono ?_
  rintro e w' ⟨rfl, rfl⟩
  go_wp2_with fail
  refine (fget_any w6 G5.F G5.Wb G5.wc m'.f HS6.out.1.1.at'.file 1 0 14).mono ?_
  rintro e w7 ⟨rfl, n7, hn7⟩
  subst hn7
  rw [HF1.out.2.2]
  have HM7 := mhid (HS6.out.1.1.drewN n7)
  clear HS6
  go_wp2_with fail
  refine (sframe_any 1000 (by decide) (w6.drewN n7)).mono ?_
  rintro e w' ⟨rfl, rfl⟩
  go_wp2_with fail
  refine (mwim_any (w6.drewN n7) G5 M m' HM7.out.at').mono ?_
  rintro e w' ⟨rfl, rfl⟩
  rw [HWI.out]
  have HB7 := mhid HM7.out.bel
  generalize w6.drewN n7 = w7 at *
  go_wp2_with fail
  refine (swall_nil w7 3).mono ?_
  rintro e w' ⟨rfl, rfl⟩
  go_wp2_with fail
  refine (new_lst w7 w7 (Below.refl _ _)).mono ?_
  rintro e w9 ⟨pa, S0, rfl, hl, hS0, hb9⟩
  have H0 := mhid (show BsAt w7 w9 pa S0 asm0 from ⟨hl, TabLo.start (HT.out.keep HB7.out) hb9, hb9⟩)
  have HB9 := mhid (HB7.out.trans (hb9.mono HB7.out.size))
  clear hl hS0 hb9
  go_wp2_with fail
  refine (swall_bad H0.out (by decide) 33 (by decide)).mono ?_
  rintro e w10 ⟨rfl, hb10⟩
  have HB10 := mhid (HB9.out.trans (hb10.mono HB9.out.size))
  clear hb10
  go_wp2_with fail
  first
    | go_ret2
    | go_ret
  exact ⟨rfl, HB10.out⟩
end Go.Proofs.YtajholbcpmjhiaaGreatDoor
/- AsmMoves: words do not hang on what stands ahead; two lists side by side. No function of the program is walked here. -/
namespace Go.Proofs.YtajholbcpmjhiaaGreatDoor
open Go.RowKit Go.Maps
set_option linter.unusedVariables false
set_option linter.unusedSimpArgs false
/-- Marks behind n instructions more. -/
def shiftM (n : Nat) (M : List (List UInt8 × Int)) : List (List UInt8 × Int) := M.map fun e => (e.1, e.2 + n)
theorem look_shift (n : Nat) (M : List (List UInt8 × Int)) (nm : List UInt8) : look (shiftM n M) nm = (look M nm).map (· + (n : Int)) := by
  unfold look shiftM
  rw [List.find?_map]
  have e : ((fun e : List UInt8 × Int => e.1 == nm) ∘ fun e : List UInt8 × Int => (e.1, e.2 + (n : Int))) = fun e => e.1 == nm := rfl
  rw [e]
  cases List.find? (fun e => e.1 == nm) M <;> rfl
theorem words_shift (n : Nat) (M : List (List UInt8 × Int)) : ∀ (L : List It) (i : Nat), wordsE (shiftM n M) (n + i) L = wordsE M i L ∧ wordsL (shiftM n M) (n + i) L = wordsL M i L := by
  intro L
  induction L with
  | nil => intro i; exact ⟨rfl, rfl⟩
  | cons it L ih =>
    intro i
    have h := ih (i + 1)
    rw [show n + (i + 1) = n + i + 1 by omega] at h
    have e : itE (shiftM n M) ((n + i : Nat) : Int) it = itE M i it ∧ itW (shiftM n M) ((n + i : Nat) : Int) it = itW M i it := by
      cases it with
      | put x => exact ⟨rfl, rfl⟩
      | far x nm =>
        simp only [itE, itW, look_shift]
        cases look M nm.data.toList with
        | none => exact ⟨rfl, rfl⟩
        | some t =>
          simp only [Option.map_some]
          rw [show t + (n : Int) - ((n + i : Nat) : Int) = t - i by omega]
          exact ⟨rfl, rfl⟩
    simp only [wordsE, wordsL]
    rw [e.1, e.2, h.1, h.2]
    exact ⟨rfl, rfl⟩
theorem words_puts (M : List (List UInt8 × Int)) : ∀ (l : List Ix) (i : Nat), wordsE M i (l.map .put) = 0 ∧ wordsL M i (l.map .put) = l.map encS := by
  intro l
  induction l with
  | nil => intro i; exact ⟨rfl, rfl⟩
  | cons x l ih =>
    intro i
    simp only [List.map_cons, wordsE, wordsL, itE, itW]
    rw [(ih (i + 1)).1, (ih (i + 1)).2]
    exact ⟨rfl, rfl⟩
theorem wordsL_app (M : List (List UInt8 × Int)) : ∀ (L L2 : List It) (i : Nat), wordsL M i (L ++ L2) = wordsL M i L ++ wordsL M (i + L.length) L2 := by
  intro L
  induction L with
  | nil => intro L2 i; rfl
  | cons x L ih => intro L2 i; simp only [List.cons_append, wordsL, ih, List.length_cons]; rw [show i + 1 + L.length = i + (L.length + 1) by omega]
theorem words_behind (l : List Ix) (L : List It) (M : List (List UInt8 × Int)) : wordsE (shiftM l.length M) 0 (l.map .put ++ L) = wordsE M 0 L ∧ wordsL (shiftM l.length M) 0 (l.map .put ++ L) = l.map encS ++ wordsL M 0 L := by
  have h := words_shift l.length M L 0
  have hp := words_puts (shiftM l.length M) l 0
  rw [wordsE_append, wordsL_app, hp.1, hp.2, if_pos rfl, List.length_map, show 0 + l.length = l.length + 0 by omega, h.1, h.2]
  exact ⟨rfl, rfl⟩
end Go.Proofs.YtajholbcpmjhiaaGreatDoor
/- Plain law: package swap's words behind instructions more. No program in sight. -/
namespace Go.Proofs.YtajholbcpmjhiaaGreatDoor
open Go.RowKit
set_option linter.unusedVariables false
set_option linter.unusedSimpArgs false
/-- A list under way, behind more. -/
def Bs.beh (A : List It) (s : Bs) : Bs := ⟨A ++ s.L, shiftM A.length s.M⟩
theorem beh_put (A : List It) (s : Bs) (l : List Ix) : (s.beh A).put l = (s.put l).beh A := by
  unfold Bs.beh Bs.put; simp
theorem beh_jump (A : List It) (s : Bs) (c : Int) (nm : List UInt8) : (s.beh A).jump c nm = (s.jump c nm).beh A := by
  unfold Bs.beh Bs.jump; simp
theorem beh_mark (A : List It) (s : Bs) (nm : List UInt8) : (s.beh A).mark nm = (s.mark nm).beh A := by
  unfold Bs.beh Bs.mark shiftM
  simp only [List.map_append, List.map_cons, List.map_nil, List.length_append]
  rw [show (((A.length + s.L.length : Nat)) : Int) = (s.L.length : Int) + (A.length : Int) by omega]
theorem beh_each (A : List It) (s : Bs) (op : Int) : ∀ n, (s.beh A).each op n = (s.each op n).beh A
  | 0 => rfl
  | n + 1 => by
    show ((s.beh A).each op n).put [eachI op n] = ((s.each op n).put [eachI op n]).beh A
    rw [beh_each A s op n, beh_put]
theorem beh_window (A : List It) (s : Bs) (r : Int) : (s.beh A).window r = (s.window r).beh A := beh_put _ _ _
theorem beh_next (A : List It) (s : Bs) (nw : Nat) (nm : List UInt8) : (s.beh A).next nw nm = (s.next nw nm).beh A := by
  unfold Bs.next
  rw [beh_put, beh_jump, beh_put, beh_mark]
theorem beh_flush (A : List It) (s : Bs) (nw : Nat) : (s.beh A).flush nw = (s.flush nw).beh A := by
  unfold Bs.flush
  simp only [beh_put, beh_jump, beh_mark, beh_each, beh_window, beh_next]
theorem beh_keep (A : List It) (s : Bs) : (s.beh A).keep = s.keep.beh A := by
  unfold Bs.keep
  simp only [beh_put, beh_jump, beh_mark, beh_each, beh_window, beh_next]
theorem beh_choose (A : List It) (s : Bs) : (s.beh A).choose = s.choose.beh A := by
  unfold Bs.choose
  simp only [beh_put, beh_jump, beh_mark, beh_each, beh_window, beh_next]
theorem beh_resume (A : List It) (s : Bs) (nw : Nat) : (s.beh A).resume nw = (s.resume nw).beh A := by
  unfold Bs.resume
  simp only [beh_put, beh_jump, beh_mark, beh_each, beh_window, beh_next]
theorem beh_swap (A : List It) (s : Bs) (nw : Nat) : (s.beh A).swap nw = (s.swap nw).beh A := by
  unfold Bs.swap
  simp only [beh_put, beh_jump, beh_mark, beh_each, beh_window, beh_next, beh_flush, beh_keep, beh_choose, beh_resume]
def rettX : Ix := ⟨32, 0, 0, 0, false, 0⟩
theorem rettX_ok : okI rettX := by decide
/-- n times RETT, and nothing else. -/
def retts (n : Nat) : Bs := ⟨(List.replicate n rettX).map .put, []⟩
theorem retts_put (n : Nat) : (retts n).put [rettX] = retts (n + 1) := by
  unfold retts Bs.put
  rw [List.replicate_succ', List.map_append]
theorem retts_len (n : Nat) : (retts n).L.length = n := by unfold retts; simp
theorem retts_beh (n : Nat) : retts n = asm0.beh ((List.replicate n rettX).map .put) := by
  unfold retts Bs.beh asm0 shiftM; simp
/-- Both lists' words. -/
theorem retts_words {nw : Nat} (h : SwapIs nw) (n : Nat) :
    wordsE ((retts n).swap nw).M 0 ((retts n).swap nw).L = 0 ∧ wordsL ((retts n).swap nw).M 0 ((retts n).swap nw).L = (List.replicate n rettX).map encS ++ (swapI nw).map encS := by
  have hw := words_behind (List.replicate n rettX) (asm0.swap nw).L (asm0.swap nw).M
  rw [retts_beh, beh_swap]
  unfold Bs.beh
  simp only [List.length_map]
  rw [hw.1, hw.2, h.e, h.l]
  exact ⟨rfl, rfl⟩
theorem retts_marks {nw : Nat} (h : SwapIs nw) {n : Nat} (hn : n < 1000) : ∀ nm t, look ((retts n).swap nw).M nm = some t → 0 ≤ t ∧ t < 4294967296 := by
  intro nm t ht
  rw [retts_beh, beh_swap] at ht
  unfold Bs.beh at ht
  simp only at ht
  rw [look_shift] at ht
  obtain ⟨q, hq, rfl⟩ := Option.map_eq_some_iff.1 ht
  unfold look at hq
  rw [Option.map_eq_some_iff] at hq
  obtain ⟨e, he, rfl⟩ := hq
  have := h.m e (List.mem_of_find?_eq_some he)
  simp only [List.length_map, List.length_replicate]
  omega
end Go.Proofs.YtajholbcpmjhiaaGreatDoor
/- The document's machine (muntinref06) as a value. No function of the program is walked here. -/
namespace Go.Proofs.YtajholbcpmjhiaaGreatDoor
open Go.RowKit
set_option linter.unusedVariables false
set_option linter.unusedSimpArgs false
theorem MChAt.keepb {w w' : World} {v : Value} {l : List Int} (h : MChAt w v l) (hb : Below w.heap.size w w') : MChAt w' v l := ⟨h.1.keepb hb, h.2⟩
theorem MChAt.shape {w : World} {v : Value} {l : List Int} (h : MChAt w v l) : ∃ p c, v = .slice p l.length c := by
  obtain ⟨h1, p, c, h2, _⟩ := h.1; exact ⟨p, c, h2⟩
/-- All cells of a box, stored. -/
def fillW (w : World) (X : Nat) : List Value → Nat → World
  | [], _ => w
  | v :: vs, k => fillW (w.setCell ⟨X, k, none⟩ v) X vs (k + 1)
theorem fillW_row {X : Nat} {T : TypeId} : ∀ (vs : List Value) (k : Nat) (w : World) (zs : List Value), ARow w X T zs → k + vs.length ≤ zs.length → ARow (fillW w X vs k) X T (zs.take k ++ vs ++ zs.drop (k + vs.length))
  | [], k, w, zs, h, hl => by
    show ARow w X T _
    simpa using h
  | v :: vs, k, w, zs, h, hl => by
    simp only [List.length_cons] at hl
    have h1 := fillW_row vs (k + 1) _ _ (h.set k v) (by rw [List.length_set]; omega)
    have e : (zs.set k v).take (k + 1) ++ vs ++ (zs.set k v).drop (k + 1 + vs.length) = zs.take k ++ (v :: vs) ++ zs.drop (k + (v :: vs).length) := by
      rw [List.take_set, List.drop_set, if_pos (by omega)]
      rw [List.take_add_one, List.getElem?_eq_getElem (by omega : k < zs.length)]
      rw [show k + (v :: vs).length = k + 1 + vs.length by simp; omega]
      have h2 : (zs.take k ++ (some zs[k]).toList).set k v = zs.take k ++ [v] := by
        rw [List.set_append_right _ _ (by rw [List.length_take]; omega)]
        simp [List.length_take, Nat.min_eq_left (by omega : k ≤ zs.length)]
      rw [h2]; simp
    rw [e] at h1
    exact h1
/-- The whole box, anew. -/
theorem ARow.fill {w : World} {X : Nat} {T : TypeId} {zs : List Value} (h : ARow w X T zs) (vs : List Value) (hl : zs.length = vs.length) : ARow (fillW w X vs 0) X T vs := by
  have h1 := fillW_row vs 0 w zs h (by omega)
  rw [List.drop_eq_nil_of_le (by omega)] at h1
  simpa using h1
end Go.Proofs.YtajholbcpmjhiaaGreatDoor
/- The walk of muntinlaw08.world. -/
namespace Go.Proofs.YtajholbcpmjhiaaGreatDoor
open Go.RowKit Go.Maps
set_option linter.unusedVariables false
set_option linter.unusedSimpArgs false
theorem refat_made (w : World) (n : Nat) (hn : n ≤ 4194304) : RefAt (w.alloc (.cells (madeCells #[.int .u8 0] n) 5)) 0 w.heap.size n (List.replicate n 0) := by
  have hr : (madeCells #[.int .u8 0] n).toList = u8s (List.replicate n 0) := by
    unfold u8s; rw [List.map_replicate]; exact toList_madeCells_one _ n
  have hsz : (madeCells #[.int .u8 0] n).size = n := by have := congrArg List.length hr; simpa [u8s] using this
  have h := RefAt.mk' (w := w.alloc (.cells (madeCells #[.int .u8 0] n) 5)) (B := 0) (g := w.heap.size) (cap := n) (d := List.replicate n 0) (cur := madeCells #[.int .u8 0] n) (Bytes.zeros n) (by simpa using hn) (Nat.zero_le _) (heap_alloc_new w _) (by simp) (by unfold maxLen; omega) hsz (by rw [hr]; simp [u8s])
  simpa using h
section
end
end Go.Proofs.YtajholbcpmjhiaaGreatDoor
