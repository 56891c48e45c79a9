/- Several texts in one: WindHead, WindMay, WindOpen. -/
import Derived.Test.YtajholbcpmjhiaaGreatDoorH01
import Derived.Test.YtajholbcpmjhiaaGreatDoorH02
import Derived.Test.YtajholbcpmjhiaaGreatDoorH03
import Derived.Test.YtajholbcpmjhiaaGreatDoorH04
import Derived.Test.YtajholbcpmjhiaaGreatDoorH05
import Derived.Test.YtajholbcpmjhiaaGreatDoorH06
import Derived.Test.YtajholbcpmjhiaaGreatDoorH07
import Derived.Test.YtajholbcpmjhiaaGreatDoorH08
import Derived.Test.YtajholbcpmjhiaaGreatDoorH09
import Derived.Test.YtajholbcpmjhiaaGreatDoorH10
import Derived.Test.YtajholbcpmjhiaaGreatDoorH11
import Derived.Test.YtajholbcpmjhiaaGreatDoorH12
import Derived.Test.YtajholbcpmjhiaaGreatDoorH13
import Derived.Test.YtajholbcpmjhiaaGreatDoorH14
import Derived.Test.YtajholbcpmjhiaaGreatDoorH15
import Derived.Test.YtajholbcpmjhiaaGreatDoorH16
import Derived.Test.YtajholbcpmjhiaaGreatDoorH17
import Derived.Test.YtajholbcpmjhiaaGreatDoorH18
import Derived.Test.YtajholbcpmjhiaaGreatDoorH19
import Derived.Test.YtajholbcpmjhiaaGreatDoorH20
import Derived.Test.YtajholbcpmjhiaaGreatDoorH21
import Derived.Test.YtajholbcpmjhiaaGreatDoorH22
import Derived.Test.YtajholbcpmjhiaaGreatDoorH23
import Derived.Test.YtajholbcpmjhiaaGreatDoorH24
import Derived.Test.YtajholbcpmjhiaaGreatDoorH25
import Derived.Test.YtajholbcpmjhiaaGreatDoorH26
import Derived.Test.YtajholbcpmjhiaaGreatDoorH27
import Derived.Test.YtajholbcpmjhiaaGreatDoorH28
import Derived.Test.YtajholbcpmjhiaaGreatDoorH29
import Derived.Test.YtajholbcpmjhiaaGreatDoorH30
import Derived.Test.YtajholbcpmjhiaaGreatDoorH31
import Derived.Test.YtajholbcpmjhiaaGreatDoorH32
import Derived.Test.YtajholbcpmjhiaaGreatDoorH33
import Derived.Test.YtajholbcpmjhiaaGreatDoorH34
import Derived.Test.YtajholbcpmjhiaaGreatDoorH35
import Derived.Test.YtajholbcpmjhiaaGreatDoorH36
import Derived.Test.YtajholbcpmjhiaaGreatDoorH37
import Derived.Test.YtajholbcpmjhiaaGreatDoorH38
import Derived.Test.YtajholbcpmjhiaaGreatDoorH39
import Derived.Test.YtajholbcpmjhiaaGreatDoorH40
import Derived.Test.YtajholbcpmjhiaaGreatDoorH41
import Derived.Test.YtajholbcpmjhiaaGreatDoorH42
import Derived.Test.YtajholbcpmjhiaaGreatDoorH43
import Derived.WalkKit
import Derived.Laws.AppendOwn
import Derived.Below
import Derived.Deep.QuietTactic
import Derived.BigQuiet
import Derived.WalkSpells
import Derived.Test.YtajholbcpmjhiaaGreatDoorProg
import Derived.Handy
import Derived.WalkLawsBesides
import Derived.RegionTactic
import Derived.Outline
import Derived.Lib.BitFns
import Derived.StillTailTactics
import Derived.BigRegion
import Derived.ChangeAlike
import Derived.Maps.OwnSet
import Derived.Maps.Views
import Derived.Laws.AppendOwnNone
import Derived.WalkArith
import Derived.OneCell
import Derived.ArgAppend
import Derived.Lib.SliceRun
import Derived.Laws.Rows
import Derived.IntWalk
import Derived.Laws.CopyOwn
import Derived.Great.Ranges
import Derived.ProofKit
import Derived.OpenShut
import Derived.RangeFuncNested
import Derived.RangeFuncBound
import Derived.RangeFuncCalls
import Derived.RangeFuncLeaves
import Derived.Shelf.Abstract
import Derived.Shelf.RegionOpen
import Derived.OwnWalkIn
import Derived.TacticsInMore
import Derived.LoopNIn
import Derived.LoopIn
import Derived.RegionIn
import Derived.Deep.RegionHeld
import Derived.Deep.RegionHeld3
import Derived.Deep.Cut
import Derived.Laws.EntriesVeiled
import Derived.Deep.RegionLaw
import Derived.Shelf.SlMaps.Clone
import Derived.Deep.AppendLies
import Derived.BigGuardPart
import Derived.Lib.ParseIntB
import Derived.Lib.ItoaNum
import Derived.Shelf.Strings.Cut
import Derived.Shelf.Small.Wraps
import Derived.Shelf.Pu.ParseUintPublic10
import Derived.Shelf.Strconv.Itoa3
import Derived.WalkSmall
import Derived.Lib.IndexMore
import Derived.Maps.AppendAt
import Derived.Deep.Slices
import Derived.Deep.CutRange
import Derived.Deep.OwnRows
namespace Go.Proofs.YtajholbcpmjhiaaGreatDoor
open Go.RowKit
set_option linter.unusedVariables false
set_option linter.unusedSimpArgs false
def rowK (k : Nat) : List Int := (List.range 48).map fun (i : Nat) => if i < k then 1000 + (i : Int) else 0
theorem rowK_len (k : Nat) : (rowK k).length = 48 := by unfold rowK; simp
theorem rowK_set (k : Nat) (hk : k < 48) : (u32s (rowK k)).set k (.int .u32 (1000 + (k : Int))) = u32s (rowK (k + 1)) := by
  refine List.ext_getElem? fun j => ?_
  unfold u32s rowK
  rw [List.getElem?_set]
  simp only [List.length_map, List.length_range, List.getElem?_map]
  by_cases hj : j < 48
  · rw [List.getElem?_range hj]
    by_cases e : k = j
    · subst e; simp [hk]
    · rw [if_neg e]
      simp only [Option.map_some]
      by_cases h1 : j < k
      · rw [if_pos h1, if_pos (by omega)]
      · rw [if_neg h1, if_neg (by omega)]
  · rw [List.getElem?_eq_none (by simp; omega)]
    simp
    omega
theorem rowK_all : rowK 48 = headRegs := by decide +kernel
theorem made48 : (madeCells #[Value.int .u32 0] 48).toList = u32s (rowK 0) := by kernel_rfl
/-- The example's case under way. -/
structure HD (w wr : World) (k : Nat) : Prop where
  bel : Below w.heap.size w wr
  sz : wr.heap.size = w.heap.size + 1 + 1 + 1
  fr : ARow wr w.heap.size 73 [.int .u16 0, .int .u16 100, .int .u16 200]
  rg : ARow wr (w.heap.size + 1) 24 (u32s (rowK k))
  bx : ARow wr (w.heap.size + 1 + 1) 26 [.int .i64 3, .int .i64 0, .slice (some ⟨w.heap.size + 1, 0, none⟩) 48 48, .slice (some ⟨w.heap.size, 0, none⟩) 3 3, .int .u8 0, .int .u8 0, .slice none 0 0, .int .u32 0, .bool false]
theorem HD.start (w : World) : HD w (((w.alloc (.cells #[.int .u16 0, .int .u16 100, .int .u16 200] 73)).alloc (.cells (madeCells #[.int .u32 0] 48) 24)).alloc (.cells #[.int .i64 3, .int .i64 0, .slice (some ⟨w.heap.size + 1, 0, none⟩) 48 48, .slice (some ⟨w.heap.size, 0, none⟩) 3 3, .int .u8 0, .int .u8 0, .slice none 0 0, .int .u32 0, .bool false] 26)) 0 := by
  have s1 : (w.alloc (.cells #[.int .u16 0, .int .u16 100, .int .u16 200] 73)).heap.size = w.heap.size + 1 := by simp
  have s2 : ((w.alloc (.cells #[.int .u16 0, .int .u16 100, .int .u16 200] 73)).alloc (.cells (madeCells #[.int .u32 0] 48) 24)).heap.size = w.heap.size + 1 + 1 := by simp
  refine ⟨(((Below.refl _ _).alloc (Nat.le_refl _) _).alloc (by rw [s1]; omega) _).alloc (by rw [s2]; omega) _, by simp, ?_, ?_, ?_⟩
  · exact ((ARow.fresh w _ _).alloc _).alloc _
  · have := ARow.fresh (w.alloc (.cells #[.int .u16 0, .int .u16 100, .int .u16 200] 73)) 24 (madeCells #[.int .u32 0] 48)
    rw [s1, made48] at this
    exact this.alloc _
  · have := ARow.fresh ((w.alloc (.cells #[.int .u16 0, .int .u16 100, .int .u16 200] 73)).alloc (.cells (madeCells #[.int .u32 0] 48) 24)) 26 #[.int .i64 3, .int .i64 0, .slice (some ⟨w.heap.size + 1, 0, none⟩) 48 48, .slice (some ⟨w.heap.size, 0, none⟩) 3 3, .int .u8 0, .int .u8 0, .slice none 0 0, .int .u32 0, .bool false]
    rw [s2] at this
    exact this
theorem HD.next {w wr : World} {k : Nat} (h : HD w wr k) (hk : k < 48) : HD w (wr.setCell ⟨w.heap.size + 1, k, none⟩ (.int .u32 (1000 + (k : Int)))) (k + 1) :=
  ⟨(Only.setCell ((Only.of_below (S := fun b => b = w.heap.size + 1) h.bel)) (p := ⟨w.heap.size + 1, k, none⟩) rfl _).below (Nat.le_refl _) (fun b hb e => by have : b = w.heap.size + 1 := e; omega), by simp [h.sz], h.fr.other (by show w.heap.size ≠ w.heap.size + 1; omega) _, by rw [← rowK_set k hk]; exact h.rg.set k _, h.bx.other (by show w.heap.size + 1 + 1 ≠ w.heap.size + 1; omega) _⟩
theorem head_in {w wr : World} (h : HD w wr 48) : CaseIn wr headX (.slice (some ⟨w.heap.size + 1, 0, none⟩) 48 48) (.slice (some ⟨w.heap.size, 0, none⟩) 3 3) (.slice none 0 0) := by
  have hsz := h.sz
  have hr := h.rg
  rw [rowK_all] at hr
  have hl : headRegs.length = 48 := by unfold headRegs; simp
  refine ⟨⟨⟨?_, some ⟨w.heap.size + 1, 0, none⟩, 48, by show Value.slice _ 48 48 = .slice _ headRegs.length 48; rw [hl], fun _ => ⟨_, _, rfl, by omega, by show w.heap.size + 1 < wr.heap.size; omega, fun k hk => ?_⟩⟩, by show headRegs.length ≤ maxLen; rw [hl]; decide, fun p n c e => ?_⟩, ⟨by decide, by decide, some ⟨w.heap.size, 0, none⟩, 3, w.heap.size, 0, rfl, fun _ => rfl, fun k x hx => ?_⟩, ⟨⟨fun x hx => by simp [headX] at hx, none, 0, rfl, fun h => by simp [headX] at h⟩, by decide, fun p n c e => by cases e; exact ⟨by decide, fun _ => rfl⟩⟩, by decide, by decide, by decide, by decide, by decide⟩
  · intro x hx
    have : x ∈ headRegs := hx
    unfold headRegs at this
    obtain ⟨i, hi, rfl⟩ := List.mem_map.1 this
    have := List.mem_range.1 hi
    omega
  · have hk' : k < headRegs.length := hk
    have := hr.cell (k := k) (x := .int .u32 (headRegs.getD k 0)) (by unfold u32s; rw [List.getElem?_map, List.getD_eq_getElem?_getD, List.getElem?_eq_getElem hk']; rfl)
    rw [Nat.zero_add]; exact this
  · cases e; exact ⟨by decide, fun h => by cases h⟩
  · match k, hx with
    | 0, hx => cases hx; exact h.fr.cell (k := 0) rfl
    | 1, hx => cases hx; exact h.fr.cell (k := 1) rfl
    | 2, hx => cases hx; exact h.fr.cell (k := 2) rfl
set_option maxRecDepth 100000 in
set_option maxHeartbeats 4000000 in
theorem whead_any (w : World) (ht : Tab w) (hbr : Bru w) :
    Calls Tryz.prog 10 #[] w fun e w' => e = .returned (.bool true) ∧ Below w.heap.size w w' := by
  have HT := mhid ht
  have HR := mhid hbr
  clear ht hbr
  have mk : ∀ W : World, (Instr.makeSlice 22 (.int .i64 48) (.int .i64 48)).run Tryz.prog W = .ok (.slice (some ⟨W.heap.size, 0, none⟩) 48 48) (W.alloc (.cells (madeCells #[.int .u32 0] 48) 24)) := fun W => run_make_row' (P := Tryz.prog) 22 24 (.int .u32 0) 4 Tryz.underlying22 infou4 rfl .i64 .i64 48 (by omega) (by omega) W
  go_enter Tryz.func10, Tryz.ntmps10
  go_wp2_with fail
  have HW := mhid (HD.start w)
  go_loopw [2] (fun i wr => ∃ k : Nat, k ≤ 48 ∧ i = .int .i64 (k : Int) ∧ Hid (HD w wr k)) (fun i _ => 48 - (intOf i).toNat)
  case atStart => exact ⟨0, by omega, rfl, HW⟩
  case round =>
    clear HW
    obtain ⟨k, hk, rfl, HW⟩ := hrel
    have b2 := HW.out.bx.cell (k := 2) rfl
    by_cases hlt : k < 48
    · have h1 : (k : Int) < 48 := by omega
      have fz := HW.out.rg.frozen k
      have hcx := HW.out.rg.cell (k := k) (x := .int .u32 ((rowK k).getD k 0)) (by unfold u32s; rw [List.getElem?_map, List.getD_eq_getElem?_getD, List.getElem?_eq_getElem (by rw [rowK_len]; exact hlt)]; rfl)
      have e1 : IntKind.i64.wrap (1000 + (k : Int)) = 1000 + (k : Int) := IntWalk.i64_in _ (by omega)
      have e2 : IntKind.u32.wrap (1000 + (k : Int)) = 1000 + (k : Int) := IntWalk.u32_in _ (by omega)
      have e3 : IntKind.i64.wrap ((k : Int) + 1) = ((k + 1 : Nat) : Int) := by rw [IntWalk.i64_in _ (by omega)]; omega
      go_wp2_with fail
      exact ⟨⟨k + 1, by omega, by go_num, mhid (HW.out.next hlt)⟩, by simp only [intOf]; omega⟩
    · obtain rfl : k = 48 := by omega
      have b0 := HW.out.bx.cell (k := 0) rfl
      have b1 := HW.out.bx.cell (k := 1) rfl
      have b3 := HW.out.bx.cell (k := 3) rfl
      have b4 := HW.out.bx.cell (k := 4) rfl
      have b5 := HW.out.bx.cell (k := 5) rfl
      have b6 := HW.out.bx.cell (k := 6) rfl
      have b7 := HW.out.bx.cell (k := 7) rfl
      have b8 := HW.out.bx.cell (k := 8) rfl
      have HTW := mhid (HT.out.keep HW.out.bel)
      have HRW := mhid (HR.out.keep HW.out.bel)
      have hci : CaseIn wr headX (.slice (some ⟨w.heap.size + 1, 0, none⟩) 48 48) (.slice (some ⟨w.heap.size, 0, none⟩) 3 3) (.slice none 0 0) := head_in HW.out
      have HCI := mhid hci
      clear hci
      go_wp2_with fail
      refine (wmade_any wr HTW.out HRW.out headX _ _ _ HCI.out head_may).mono ?_
      rintro e w3 ⟨M, G, m, rfl, hM, hMade⟩
      have hnw : m.f.nw = 3 := by have := hMade.nw; have h3 : headX.nw = 3 := rfl; omega
      obtain ⟨n, m', h1, h60, hRest, hAf, hwin, hmem⟩ := madeW_over hMade head_may hM.at'.ok rfl
      have HME := mhid hMade
      have HM := mhid hM
      have HRE := mhid hRest
      have HBW := mhid HW.out.bel
      rw [hnw] at hAf hmem
      have HAF := mhid hAf
      have HWM := mhid (And.intro hwin hmem)
      clear hMade hM hRest hAf hwin hmem b0 b1 b3 b4 b5 b6 b7 b8 HW HCI
      go_wp2_with fail
      refine (wruns_any wr w3 HTW.out HRW.out G M m m' HM.out 1540 60 n (by decide) (by decide) h60 h1 (by rw [outL_made HME.out]; decide) HRE.out).mono ?_
      rintro e w4 ⟨rfl, G4, hM4, hk4⟩
      have HM4 := mhid hM4
      clear hM4 hk4
      have hfr : frM m 1 = 2448 := by unfold frM; rw [HME.out.file]; exact congrArg Int.toNat head_out
      have hrow : winR m.f 1 = (List.range 16).map fun (i : Nat) => if i = 14 then 2848 else 1016 + (i : Int) := by rw [HME.out.file]; exact head_win
      have hmm : m'.mem = putS m.mem 2448 (winR m.f 1) := by
        have := HWM.out.2
        rw [show (headX.cwp.toNat + 3 - 2) % 3 = 1 from rfl, hfr] at this
        exact this
      have hlen : m'.mem.length = 4096 := by rw [hmm, putS_len]; exact HME.out.code.len
      have hl16 : (winR m.f 1).length = 16 := by rw [hrow]; rfl
      have hww : Words (winR m.f 1) := fun y hy => HM.out.at'.ok.f.ww y (List.mem_of_mem_drop (List.mem_of_mem_take hy))
      have hwo : wordsS m'.mem 2448 16 = winR m.f 1 := by
        have := words_put (winR m.f 1) m.mem 2448 0 hww (by rw [hl16, HME.out.code.len]; decide) (by omega)
        rw [hl16] at this
        rw [hmm]; simpa using this
      have hsp : spanE m'.mem.length 2448 16 4 = 0 := by rw [hlen]; decide
      have hwv : winV m'.f 1 = winR m.f 1 := by
        have := winV_nat (f := m'.f) (w := 1) (by rw [HAF.out.nw, hnw]; decide)
        rw [show ((1 : Nat) : Int) = 1 from rfl] at this
        rw [this]; unfold winR; rw [HWM.out.1]
      have HWO := mhid (words_any w4 G4.mB G4.gB m'.mem HM4.out.at'.mem 2448 (by decide) (by decide) 16 (by decide))
      have HFA := mhid (And.intro hsp (And.intro hwo (And.intro hwv hrow)))
      have hcw : m'.p.cwp = 2 := by rw [HAF.out.p]; rfl
      have hwi : m'.wim = 2 := by rw [HAF.out.wim]; rfl
      have hreg : regE m'.f 1 0 0 = 0 := if_pos ⟨⟨by have := HAF.out.nw; omega, by have := HAF.out.nw; omega⟩, by omega, by omega, by omega⟩
      have HWB := mhid (show Below w.heap.size w w4 from HBW.out.trans (HM4.out.bel.mono HBW.out.size))
      clear hfr hrow hmm hlen hl16 hww hwo hsp hwv HWM HME HM HRE HAF
      go_wp2_with fail
      refine (mmem_any w4 G4 M m' HM4.out.at').mono ?_
      rintro e w' ⟨rfl, rfl⟩
      go_wp2_with fail
      refine HWO.out.mono ?_
      rintro e w5 ⟨rv, l, rfl, hl, hown, hb5⟩
      rw [HFA.out.1] at hl ⊢
      rw [if_pos rfl, show (2448 : Int).toNat = 2448 from rfl, show (16 : Int).toNat = 16 from rfl, HFA.out.2.1] at hl
      subst hl
      have HM5 := mhid (HM4.out.keepb hb5)
      have HB5 := mhid (HWB.out.trans (hb5.mono HWB.out.size))
      have HL5 := mhid (Reads32.of_own hown)
      have hl16 : (winR m.f 1).length = 16 := by rw [HFA.out.2.2.2]; rfl
      have hc0 : ∃ p c, rv = .slice (some p) 16 c ∧ w5.cell? p = some (.int .u32 1016) := by
        obtain ⟨b, o, p, c, e, _, q1, q2⟩ := (Reads32.of_own hown).shape
        rw [hl16] at e q1 q2
        refine ⟨⟨b, o, none⟩, c, by rw [e, q1 (by decide)], ?_⟩
        have := q2 0 (by decide)
        rw [HFA.out.2.2.2] at this
        exact this
      obtain ⟨p0, c0, rfl, hc0⟩ := hc0
      clear hown hb5 HWO HM4 HWB
      go_wp2_with fail
      refine (mfile_any w5 G4 M m' HM5.out.at').mono ?_
      rintro e w' ⟨rfl, rfl⟩
      go_wp2_with fail
      refine (mw_win wr w5 G4 M m' HM5.out 1).mono ?_
      rintro e w6 ⟨v6, rfl, hr6, hb6⟩
      rw [hreg]
      rw [HFA.out.2.2.1] at hr6
      have HM6 := mhid (HM5.out.keepb hb6)
      have HB6 := mhid (HB5.out.trans (hb6.mono HB5.out.size))
      have HL6 := mhid (HL5.out.keepb hb6)
      have HR6 := mhid hr6.1
      have hc0 := (hb6.cell (World.block_lt_of_cell? _ _ hc0)).trans hc0
      clear hb6 hr6 HM5 HL5 HB5
      have fs := wfield_psr0
      go_wp2_with fail
      have HPS := mhid (show Calls Tryz.prog 19 #[.pointer (some ⟨M, 0, none⟩)] w6 fun e w' => e = .returned (.agg #[.int .u8 m'.p.cwp, .int .u8 m'.p.pil, .int .u8 m'.p.bank, .int .u8 m'.p.flags]) ∧ Below w6.heap.size w6 w' from mpsr_any w6 G4 M m' HM6.out.at')
      rw [hcw] at HPS
      refine HPS.out.mono ?_
      rintro e w7 ⟨rfl, hb7⟩
      have HM7 := mhid (HM6.out.keepb hb7)
      have HB7 := mhid (HB6.out.trans (hb7.mono HB6.out.size))
      have HL7 := mhid (HL6.out.keepb hb7)
      have HR7 := mhid (HR6.out.keepb hb7)
      have hc0 := (hb7.cell (World.block_lt_of_cell? _ _ hc0)).trans hc0
      clear hb7 HM6 HB6 HL6 HR6 HPS
      go_wp2_with fail
      refine (mwim_any w7 G4 M m' HM7.out.at').mono ?_
      rintro e w' ⟨rfl, rfl⟩
      rw [hwi]
      go_wp2_with fail
      refine (same_any w7 _ _ _ _ HL7.out HR7.out).mono ?_
      rintro e w8 ⟨rfl, hb8⟩
      have HB8 := mhid (HB7.out.trans (hb8.mono HB7.out.size))
      have hc0 := (hb8.cell (World.block_lt_of_cell? _ _ hc0)).trans hc0
      rw [decide_eq_true rfl]
      clear hb8 HB7 HM7 HL7 HR7
      go_wp2_with fail
      refine (wover_nil w8 3).mono ?_
      rintro e w' ⟨rfl, rfl⟩
      go_wp2_with fail
      refine (new_lst w8 w8 (Below.refl _ _)).mono ?_
      rintro e w9 ⟨pa, S0, rfl, hl, hS0, hb9⟩
      have H0 := mhid (show BsAt w8 w9 pa S0 asm0 from ⟨hl, TabLo.start (HT.out.keep HB8.out) hb9, hb9⟩)
      have HB9 := mhid (HB8.out.trans (hb9.mono HB8.out.size))
      clear hl hS0 hb9
      go_wp2_with fail
      refine (wover_bad H0.out (by decide) 1 (by decide)).mono ?_
      rintro e w10 ⟨rfl, hb10⟩
      have HB10 := mhid (HB9.out.trans (hb10.mono HB9.out.size))
      clear hb10
      go_wp2_with fail
      first
        | go_ret2
        | go_ret
      exact ⟨rfl, HB10.out⟩
end Go.Proofs.YtajholbcpmjhiaaGreatDoor
namespace Go.Proofs.YtajholbcpmjhiaaGreatDoor
open Go.RowKit
set_option linter.unusedVariables false
set_option linter.unusedSimpArgs false
set_option maxRecDepth 100000 in
set_option maxHeartbeats 4000000 in
theorem wmay_any (w : World) (x : CaseW) (vr vf vg : Value) (h : CaseIn w x vr vf vg) :
    Calls Tryz.prog 9 #[x.agg vr vf vg] w fun e w' => e = .returned (.bool (decide (mayW x))) ∧ Below w.heap.size w w' := by
  obtain ⟨nw, cwp, regs, frames, flags, pil, globals, fill, up⟩ := x
  obtain ⟨pr, cr, rfl⟩ : ∃ p c, vr = .slice p regs.length c := by obtain ⟨⟨_, p, c, e, _⟩, _⟩ := h.r; exact ⟨p, c, e⟩
  obtain ⟨pg, cg, rfl⟩ : ∃ p c, vg = .slice p globals.length c := by obtain ⟨⟨_, p, c, e, _⟩, _⟩ := h.g; exact ⟨p, c, e⟩
  obtain ⟨pf, cf, rfl⟩ : ∃ p c, vf = .slice p frames.length c := by obtain ⟨_, _, p, c, _, _, e, _⟩ := h.f; exact ⟨p, c, e⟩
  clear h
  have HV : ∀ b : Bool, (b = true ↔ mayW ⟨nw, cwp, regs, frames, flags, pil, globals, fill, up⟩) → b = decide (mayW ⟨nw, cwp, regs, frames, flags, pil, globals, fill, up⟩) := fun b hb => by
    cases b
    · exact (decide_eq_false (fun hh => Bool.false_ne_true (hb.2 hh))).symm
    · exact (decide_eq_true (hb.1 rfl)).symm
  have HV := mhid HV
  obtain ⟨W1, hW1⟩ : ∃ W1, W1 = w.alloc (.cells (CaseW.cells ⟨nw, cwp, regs, frames, flags, pil, globals, fill, up⟩ (.slice pr regs.length cr) (.slice pf frames.length cf) (.slice pg globals.length cg)).toArray 26) := ⟨_, rfl⟩
  have hb1 : Below w.heap.size w W1 := by rw [hW1]; exact (Below.refl _ _).alloc (Nat.le_refl _) _
  have hB : ARow W1 w.heap.size 26 (CaseW.cells ⟨nw, cwp, regs, frames, flags, pil, globals, fill, up⟩ (.slice pr regs.length cr) (.slice pf frames.length cf) (.slice pg globals.length cg)) := by rw [hW1]; exact ARow.fresh w _ _
  have HB1 := mhid hb1
  have HB := mhid hB
  unfold CaseW.cells at HB hW1
  have c0 := HB.out.cell (k := 0) rfl
  have c1 := HB.out.cell (k := 1) rfl
  have c2 := HB.out.cell (k := 2) rfl
  have c3 := HB.out.cell (k := 3) rfl
  have c4 := HB.out.cell (k := 4) rfl
  have c5 := HB.out.cell (k := 5) rfl
  have c6 := HB.out.cell (k := 6) rfl
  clear hb1 hB
  rw [hW1] at c0 c1 c2 c3 c4 c5 c6
  go_enter Tryz.func9, Tryz.ntmps9
  unfold CaseW.agg
  by_cases a1 : (2 : Int) ≤ nw
  case' neg => skip
  case pos =>
   by_cases a2 : nw ≤ 32
   case pos =>
    by_cases a3 : (0 : Int) ≤ cwp
    case pos =>
     by_cases a4 : cwp < nw
     case pos =>
      by_cases a5 : pil ≤ 15
      case pos =>
       by_cases a6 : flags ≤ 15
       case pos =>
        by_cases a7 : (regs.length : Int) ≤ 512
        case pos =>
         by_cases a8 : (frames.length : Int) ≤ 64
         case pos =>
          by_cases a9 : (globals.length : Int) ≤ 120
          all_goals (go_wp2_with fail; rw [← hW1]; first | go_ret2 | go_ret)
          all_goals exact ⟨congrArg (fun b => Ending.returned (Value.bool b)) (HV.out _ (by unfold mayW; simp; omega)), HB1.out⟩
         all_goals (go_wp2_with fail; rw [← hW1]; first | go_ret2 | go_ret)
         all_goals exact ⟨congrArg (fun b => Ending.returned (Value.bool b)) (HV.out _ (by unfold mayW; simp; omega)), HB1.out⟩
        all_goals (go_wp2_with fail; rw [← hW1]; first | go_ret2 | go_ret)
        all_goals exact ⟨congrArg (fun b => Ending.returned (Value.bool b)) (HV.out _ (by unfold mayW; simp; omega)), HB1.out⟩
       all_goals (go_wp2_with fail; rw [← hW1]; first | go_ret2 | go_ret)
       all_goals exact ⟨congrArg (fun b => Ending.returned (Value.bool b)) (HV.out _ (by unfold mayW; simp; omega)), HB1.out⟩
      all_goals (go_wp2_with fail; rw [← hW1]; first | go_ret2 | go_ret)
      all_goals exact ⟨congrArg (fun b => Ending.returned (Value.bool b)) (HV.out _ (by unfold mayW; simp; omega)), HB1.out⟩
     all_goals (go_wp2_with fail; rw [← hW1]; first | go_ret2 | go_ret)
     all_goals exact ⟨congrArg (fun b => Ending.returned (Value.bool b)) (HV.out _ (by unfold mayW; simp; omega)), HB1.out⟩
    all_goals (go_wp2_with fail; rw [← hW1]; first | go_ret2 | go_ret)
    all_goals exact ⟨congrArg (fun b => Ending.returned (Value.bool b)) (HV.out _ (by unfold mayW; simp; omega)), HB1.out⟩
   all_goals (go_wp2_with fail; rw [← hW1]; first | go_ret2 | go_ret)
   all_goals exact ⟨congrArg (fun b => Ending.returned (Value.bool b)) (HV.out _ (by unfold mayW; simp; omega)), HB1.out⟩
  all_goals (go_wp2_with fail; rw [← hW1]; first | go_ret2 | go_ret)
  all_goals exact ⟨congrArg (fun b => Ending.returned (Value.bool b)) (HV.out _ (by unfold mayW; simp; omega)), HB1.out⟩
end Go.Proofs.YtajholbcpmjhiaaGreatDoor
/- How an argument of type muntinlaw08.Case is read. -/
namespace Go.Proofs.YtajholbcpmjhiaaGreatDoor
open Go.RowKit Go.ChangeShapes Go.WideShapes Go.ChangeAt
set_option linter.unusedVariables false
set_option linter.unusedSimpArgs false
section
variable {H : Type} {enc : TypeId × Value → H} {w : World} {base : Nat} {spare : Nat → Bool} {held : Bool} {fuel : Nat} {x : DataW H × List MemPlace}
theorem hc_u16 : Tryz.prog.cellsOf 73 = 1 := by kernel_rfl
theorem hc_u8 : Tryz.prog.cellsOf 5 = 1 := by kernel_rfl
theorem hc_bool : Tryz.prog.cellsOf 4 = 1 := by kernel_rfl
theorem hc_halfs : Tryz.prog.cellsOf 23 = 1 := by kernel_rfl
theorem hc_case : Tryz.prog.cellsOf 26 = 9 := by kernel_rfl
set_option maxRecDepth 100000 in
theorem trod_halfs {cs : List Value} (h : DataW.trod enc Tryz.prog w base spare held fuel 23 cs = some x) : ∃ v l, cs = [v] ∧ HalfsIn w v l := by
  rcases Go.Deep.open_slice Tryz.underlying23 h with ⟨rfl, _⟩ | ⟨a, len, cap, m, q, D, Pl, rfl, _, hl, hm, hmm, hx, hel⟩
  · exact ⟨_, [], rfl, by simp, fun x hx => by simp at hx, none, 0, 0, 0, rfl, fun h => by simp at h, fun k y h => by simp at h⟩
  · have hlm : len ≤ m := by rw [hmm]; split <;> omega
    have each : ∀ i, i < len → ∃ y : Int, (0 ≤ y ∧ y < 65536) ∧ w.cell? ((a.add (i * 1)).add 0) = some (.int .u16 y) := by
      intro i hi
      obtain ⟨cs', h1, h2⟩ := hel i (by omega)
      rw [hc_u16] at h1
      obtain ⟨y, hb, _, w0⟩ := DataW.trod_int Tryz.underlying73 h2
      subst hb
      have hc := (mcells_each h1).2 0 _ rfl
      have b0 := bounds_u16 w0
      exact ⟨y, by omega, hc⟩
    obtain ⟨l, hll, hlp⟩ := mlist_of _ len each
    subst hll
    refine ⟨_, l, rfl, by omega, fun y hy => ?_, some a, cap, ?_⟩
    · obtain ⟨i, hi, rfl⟩ := List.getElem_of_mem hy
      exact (hlp i _ (List.getElem?_eq_getElem hi)).1
    by_cases h0 : 0 < l.length
    · obtain ⟨b, o, sp⟩ := a
      have hsp2 : sp = none := by
        have := World.cell?_spot ((hlp 0 l[0] (List.getElem?_eq_getElem h0)).2)
        simpa [Addr.add] using this
      subst hsp2
      refine ⟨b, o, rfl, fun _ => rfl, fun k y hy => ?_⟩
      have := (hlp k y hy).2
      rw [maddr_add, maddr_add, Nat.mul_one] at this
      exact this
    · exact ⟨0, 0, rfl, fun h => absurd h h0, fun k y hy => by have h1 : l = [] := List.eq_nil_of_length_eq_zero (by omega); rw [h1] at hy; simp at hy⟩
theorem mlist9 {α : Type} {l : List α} (h : l.length = 9) : ∃ a b c d e f g i j, l = [a, b, c, d, e, f, g, i, j] := by
  match l, h with
  | [a, b, c, d, e, f, g, i, j], _ => exact ⟨a, b, c, d, e, f, g, i, j, rfl⟩
set_option maxRecDepth 100000 in
theorem trod_casew {cs : List Value} (h : DataW.trod enc Tryz.prog w base spare held fuel 26 cs = some x) :
    ∃ (y : CaseW) (vr vf vg : Value), .agg cs.toArray = y.agg vr vf vg ∧ CaseIn w y vr vf vg := by
  obtain ⟨xs, n, _, rfl, hl, hlen, hf⟩ := DataW.trod_struct Tryz.underlying26 h
  rw [hc_case] at hl
  obtain ⟨c0, c1, c2, c3, c4, c5, c6, c7, c8, rfl⟩ := mlist9 hl
  obtain ⟨y0, y1, y2, y3, y4, y5, y6, y7, y8, rfl⟩ := mlist9 hlen
  have h0 := hf 0 _ rfl
  have h1 := hf 1 _ rfl
  have h2 := hf 2 _ rfl
  have h3 := hf 3 _ rfl
  have h4 := hf 4 _ rfl
  have h5 := hf 5 _ rfl
  have h6 := hf 6 _ rfl
  have h7 := hf 7 _ rfl
  have h8 := hf 8 _ rfl
  simp [mc_int, mc_u32, mc_words, hc_halfs, hc_u8, hc_bool] at h0 h1 h2 h3 h4 h5 h6 h7 h8
  obtain ⟨a0, e0, _, w0⟩ := DataW.trod_int Tryz.underlying3 h0
  obtain ⟨a1, e1, _, w1⟩ := DataW.trod_int Tryz.underlying3 h1
  obtain ⟨v2, l2, e2, r2⟩ := trod_wordsin h2
  obtain ⟨v3, l3, e3, r3⟩ := trod_halfs h3
  obtain ⟨a4, e4, _, w4⟩ := DataW.trod_int Tryz.underlying5 h4
  obtain ⟨a5, e5, _, w5⟩ := DataW.trod_int Tryz.underlying5 h5
  obtain ⟨v6, l6, e6, r6⟩ := trod_wordsin h6
  obtain ⟨a7, e7, _, w7⟩ := DataW.trod_int Tryz.underlying24 h7
  obtain ⟨a8, e8, _⟩ := DataW.trod_bool Tryz.underlying4 h8
  simp at e0 e1 e2 e3 e4 e5 e6 e7 e8
  have b0 := bounds_i64 w0
  have b1 := bounds_i64 w1
  have b4 := bounds_u8 w4
  have b5 := bounds_u8 w5
  have b7 := bounds_u32 w7
  subst e0 e1 e2 e3 e4 e5 e6 e7 e8
  exact ⟨⟨a0, a1, l2, l3, a4, a5, l6, a7, a8⟩, _, _, _, rfl, r2, r3, r6, by simp only; omega, by simp only; omega, by simp only; omega, by simp only; omega, by simp only; omega⟩
end
set_option maxRecDepth 100000 in
theorem open_casew {H : Type} {enc : TypeId × Value → H} {W : World} {base b : Nat} {spare : Nat → Bool} {held : Bool} {r : Reach} {v : Value} {d : DataW H} {p : List MemPlace} (hv : Value.okWide Tryz.prog W r b 26 v) (h : DataW.Trod enc Tryz.prog W base spare held 26 v d p) :
    ∃ (y : CaseW) (vr vf vg : Value), v = y.agg vr vf vg ∧ CaseIn W y vr vf vg := by
  obtain ⟨cs, rfl, hsz⟩ := okWide_struct Tryz.underlying26 hv
  obtain ⟨m, hm⟩ := h
  obtain ⟨y, vr, vf, vg, e, hy⟩ := trod_casew (by simpa [Value.cells] using hm)
  exact ⟨y, vr, vf, vg, e, hy⟩
set_option maxRecDepth 100000 in
theorem open_wordsin {H : Type} {enc : TypeId × Value → H} {W : World} {base b : Nat} {spare : Nat → Bool} {held : Bool} {r : Reach} {v : Value} {d : DataW H} {p : List MemPlace} (hv : Value.okWide Tryz.prog W r b 22 v) (h : DataW.Trod enc Tryz.prog W base spare held 22 v d p) :
    ∃ l : List Int, WordsIn W v l := by
  obtain ⟨a, len, cap, rfl⟩ := okWide_slice Tryz.underlying22 hv
  obtain ⟨m, hm⟩ := h
  obtain ⟨u, l, e, hl⟩ := trod_wordsin (by simpa [Value.cells] using hm)
  simp only [List.cons.injEq, and_true] at e
  rw [e]
  exact ⟨l, hl⟩
end Go.Proofs.YtajholbcpmjhiaaGreatDoor
