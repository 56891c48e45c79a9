/- Several texts in one: WindOver, MachApart, MachUse, PsrRef, PsrRWin, PsrOpen, InstOpen, MachOpen. -/
import Derived.Test.YtajholbcpmjhiaaGreatDoorH01
import Derived.Test.YtajholbcpmjhiaaGreatDoorH02
import Derived.Test.YtajholbcpmjhiaaGreatDoorH03
import Derived.Test.YtajholbcpmjhiaaGreatDoorH05
import Derived.Test.YtajholbcpmjhiaaGreatDoorH06
import Derived.Test.YtajholbcpmjhiaaGreatDoorH07
import Derived.Test.YtajholbcpmjhiaaGreatDoorH08
import Derived.Test.YtajholbcpmjhiaaGreatDoorH09
import Derived.Test.YtajholbcpmjhiaaGreatDoorH10
import Derived.Test.YtajholbcpmjhiaaGreatDoorH26
import Derived.Test.YtajholbcpmjhiaaGreatDoorH27
import Derived.Test.YtajholbcpmjhiaaGreatDoorH28
import Derived.Test.YtajholbcpmjhiaaGreatDoorH29
import Derived.Test.YtajholbcpmjhiaaGreatDoorH30
import Derived.Test.YtajholbcpmjhiaaGreatDoorH31
import Derived.Test.YtajholbcpmjhiaaGreatDoorH32
import Derived.Test.YtajholbcpmjhiaaGreatDoorH04
import Derived.Test.YtajholbcpmjhiaaGreatDoorH11
import Derived.Test.YtajholbcpmjhiaaGreatDoorH15
import Derived.Test.YtajholbcpmjhiaaGreatDoorH16
import Derived.Test.YtajholbcpmjhiaaGreatDoorH17
import Derived.Test.YtajholbcpmjhiaaGreatDoorH18
import Derived.Test.YtajholbcpmjhiaaGreatDoorH19
import Derived.Test.YtajholbcpmjhiaaGreatDoorH20
import Derived.Test.YtajholbcpmjhiaaGreatDoorH21
import Derived.Test.YtajholbcpmjhiaaGreatDoorH22
import Derived.Test.YtajholbcpmjhiaaGreatDoorH23
import Derived.Test.YtajholbcpmjhiaaGreatDoorH24
import Derived.Test.YtajholbcpmjhiaaGreatDoorH25
import Derived.WalkKit
import Derived.Test.YtajholbcpmjhiaaGreatDoorProg
import Derived.WalkSpells
import Derived.WalkLawsBesides
import Derived.RegionTactic
import Derived.Outline
import Derived.BigRegion
import Derived.ChangeAlike
import Derived.Deep.QuietTactic
import Derived.BigQuiet
import Derived.StillTailTactics
import Derived.Laws.AppendOwn
import Derived.Below
import Derived.Maps.OwnSet
import Derived.Maps.Views
import Derived.Laws.AppendOwnNone
import Derived.Handy
import Derived.WalkArith
import Derived.OneCell
import Derived.ArgAppend
import Derived.Lib.SliceRun
import Derived.Shelf.SlMaps.Clone
import Derived.Deep.RegionHeld3
import Derived.Deep.AppendLies
import Derived.Lib.BitFns
import Derived.Deep.Cut
import Derived.BigGuardPart
import Derived.Lib.ParseIntB
import Derived.Lib.ItoaNum
import Derived.Shelf.Strings.Cut
import Derived.Shelf.Small.Wraps
import Derived.Shelf.Pu.ParseUintPublic10
import Derived.Shelf.Strconv.Itoa3
import Derived.WalkSmall
import Derived.Lib.IndexMore
import Derived.RangeFuncNested
import Derived.RangeFuncBound
import Derived.RangeFuncCalls
import Derived.RangeFuncLeaves
import Derived.Shelf.Abstract
import Derived.Shelf.RegionOpen
import Derived.OwnWalkIn
import Derived.TacticsInMore
import Derived.LoopNIn
import Derived.LoopIn
import Derived.RegionIn
import Derived.Laws.Rows
import Derived.IntWalk
import Derived.Laws.CopyOwn
import Derived.Great.Ranges
import Derived.Deep.RegionHeld
import Derived.Laws.EntriesVeiled
import Derived.Deep.RegionLaw
import Derived.Maps.AppendAt
import Derived.ProofKit
import Derived.OpenShut
import Derived.Deep.Slices
/- Walks of the package wind: Over and Under. (Printed by genwind.py.) -/
namespace Go.Proofs.YtajholbcpmjhiaaGreatDoor
open Go.RowKit
set_option linter.unusedVariables false
set_option linter.unusedSimpArgs false
theorem over_ok : allI [⟨26, 3, 0, 0, false, 0⟩, aluI 5 4 3 31, aluI 1 4 4 2, ⟨16, 0, 4, 0, true, 0⟩] ∧ allI [aluI 0 4 0 0] := by decide
set_option maxRecDepth 100000 in
set_option maxHeartbeats 4000000 in
theorem wover_any {W w : World} {pa : Nat} {S : Nat → Prop} {s : Bs} (h : BsAt W w pa S s) {nw : Nat} (h2 : 2 ≤ nw) (h32 : nw ≤ 32) (hn : look s.M nmOver = none) (hn2 : look s.M nmOverIn = none) (hM : s.M.length + 10 < 4294967296) (hL : s.L.length + 100 < 4294967296) :
    Calls Tryz.prog 49 #[.pointer (some ⟨pa, 0, none⟩), .int .i64 (nw : Int)] w fun e w' => e = .returned (.int .i64 0) ∧ BsGo W w pa S (s.over nw) w' := by
  obtain ⟨s1, e1⟩ : ∃ x, x = s.mark nmOver := ⟨_, rfl⟩
  have M1 : s1.M = s.M ++ [(nmOver, (s.L.length : Int))] := by rw [e1]; rfl
  have L1 : s1.L.length = s.L.length := by rw [e1]; rfl
  obtain ⟨s2, e2⟩ : ∃ x, x = s1.turned nw 9 8 := ⟨_, rfl⟩
  have M2 : s2.M = s1.M := by rw [e2]; exact (Bs.turned_len _ _ _ _).2
  have L2 : s2.L.length ≤ s1.L.length + 7 := by rw [e2]; exact (Bs.turned_len _ _ _ _).1
  obtain ⟨s3, e3⟩ : ∃ x, x = s2.put [⟨26, 3, 0, 0, false, 0⟩, aluI 5 4 3 31, aluI 1 4 4 2, ⟨16, 0, 4, 0, true, 0⟩] := ⟨_, rfl⟩
  have L3 : s3.L.length = s2.L.length + 4 := by rw [e3]; exact Bs.put_len _ _
  have M3 : s3.M = s2.M := by rw [e3]; rfl
  obtain ⟨s4, e4⟩ : ∃ x, x = s3.jump 4 nmOverIn := ⟨_, rfl⟩
  have L4 : s4.L.length = s3.L.length + 1 := by rw [e4]; show (_ ++ [_]).length = _; simp
  have M4 : s4.M = s3.M := by rw [e4]; rfl
  obtain ⟨s5, e5⟩ : ∃ x, x = s4.put [aluI 0 4 4 nw] := ⟨_, rfl⟩
  have L5 : s5.L.length = s4.L.length + 1 := by rw [e5]; exact Bs.put_len _ _
  have M5 : s5.M = s4.M := by rw [e5]; rfl
  obtain ⟨s6, e6⟩ : ∃ x, x = s5.mark nmOverIn := ⟨_, rfl⟩
  have L6 : s6.L.length = s5.L.length := by rw [e6]; rfl
  obtain ⟨s7, e7⟩ : ∃ x, x = s6.put windowI := ⟨_, rfl⟩
  have L7 : s7.L.length = s6.L.length + 3 := by rw [e7]; exact Bs.put_len _ _
  obtain ⟨s8, e8⟩ : ∃ x, x = s7.each 23 16 := ⟨_, rfl⟩
  have L8 : s8.L.length = s7.L.length + 16 := by rw [e8]; exact Bs.each_len _ _ _
  obtain ⟨s9, e9⟩ : ∃ x, x = s8.put endI := ⟨_, rfl⟩
  have hfin : s.over nw = s9 := by rw [e9, e8, e7, e6, e5, e4, e3, e2, e1]; rfl
  rw [hfin]
  have hlk : look s5.M nmOverIn = none := by
    rw [M5, M4, M3, M2, M1, look_snoc, hn2]
    simp [nmOver, nmOverIn]
  have hM5 : s5.M.length ≤ s.M.length + 1 := by rw [M5, M4, M3, M2, M1]; simp
  have q1 : IntKind.i32.wrap (nw : Int) = (nw : Int) := IntWalk.i32_in _ (by omega)
  have q2 : wrap32 (nw : Int) = (nw : Int) := by unfold wrap32; omega
  have HB := ahid (wbegin_any h h2 h32 (nm := nmOver) (by decide) hn (by omega) (by omega))
  rw [← e1] at HB
  have HE := ahid (And.intro e2 (And.intro e3 (And.intro e4 (And.intro e5 (And.intro e6 (And.intro e7 (And.intro e8 e9)))))))
  have HLK := ahid hlk
  have hl : s1.L.length < 4294967196 ∧ s2.L.length < 4294967206 ∧ s3.L.length < 4294967210 ∧ s4.L.length < 4294967216 ∧ s5.L.length < 4294967220 ∧ s6.L.length < 4294967220 ∧ s7.L.length < 4294967224 ∧ s8.L.length < 4294967244 := by omega
  clear h hn hn2 hlk hfin e1 e2 e3 e4 e5 e6 e7 e8 e9 M1 M2 M3 M4 M5 L1 L2 L3 L4 L5 L6 L7 L8
  go_enter Tryz.func49, Tryz.ntmps49
  go_wp2_with fail
  refine HB.out.mono ?_
  rintro e w1 ⟨rfl, S1, h1, o1, r1⟩
  have H1 := ahid h1
  clear h1
  go_wp2_with fail
  refine (wturned_any H1.out h2 h32 (.inl ⟨rfl, rfl⟩) (by omega)).mono ?_
  rintro e w2 ⟨rfl, hg⟩
  rw [← HE.out.1] at hg
  obtain ⟨S2, h2', o2, r2⟩ := hg
  have H2 := ahid h2'
  clear h2'
  go_wp2_with fail
  refine (walu_any (op := 5) (by omega) w2).mono ?_
  rintro e v0 ⟨rfl, hb0⟩
  go_wp2_with fail
  refine (walu_any (op := 1) (by omega) v0).mono ?_
  rintro e v1 ⟨rfl, hb1⟩
  go_wp2_with fail
  have HV := ahid (hb0.trans (hb1.mono hb0.size))
  refine (bs_lit H2.out (l := [⟨26, 3, 0, 0, false, 0⟩, aluI 5 4 3 31, aluI 1 4 4 2, ⟨16, 0, 4, 0, true, 0⟩]) over_ok.1 (by simp) (by simp; omega) HV.out).mono ?_
  rintro e w3 ⟨rfl, hg⟩
  rw [← HE.out.2.1] at hg
  obtain ⟨S3, h3, o3, r3⟩ := hg
  have H3 := ahid h3
  clear h3 hb0 hb1
  go_wp2_with fail
  refine (bs_jump H3.out (c := 4) (nm := nmOverIn) (by omega) (by omega) (by decide) (by omega)).mono ?_
  rintro e w4 ⟨rfl, hg⟩
  rw [← HE.out.2.2.1] at hg
  obtain ⟨S4, h4, o4, r4⟩ := hg
  have H4 := ahid h4
  clear h4
  go_wp2_with fail
  refine (walu_any (op := 0) (by omega) w4).mono ?_
  rintro e u0 ⟨rfl, hc0⟩
  go_wp2_with fail
  refine (bs_lit H4.out (l := [aluI 0 4 4 nw]) (cmp_ok nw (by omega)).1 (by simp) (by simp; omega) hc0).mono ?_
  rintro e w5 ⟨rfl, hg⟩
  rw [← HE.out.2.2.2.1] at hg
  obtain ⟨S5, h5, o5, r5⟩ := hg
  have H5 := ahid h5
  clear h5 hc0
  go_wp2_with fail
  refine (bs_mark H5.out (nm := nmOverIn) (by decide) HLK.out (by omega) (by omega)).mono ?_
  rintro e w6 ⟨rfl, hg⟩
  rw [← HE.out.2.2.2.2.1] at hg
  obtain ⟨S6, h6, o6, r6⟩ := hg
  have H6 := ahid h6
  clear h6
  go_wp2_with fail
  refine (wwindow_any H6.out (by omega)).mono ?_
  rintro e w7 ⟨rfl, hg⟩
  rw [← HE.out.2.2.2.2.2.1] at hg
  obtain ⟨S7, h7, o7, r7⟩ := hg
  have H7 := ahid h7
  clear h7
  go_wp2_with fail
  refine (wstore_any H7.out (by omega)).mono ?_
  rintro e w8 ⟨rfl, hg⟩
  rw [← HE.out.2.2.2.2.2.2.1] at hg
  obtain ⟨S8, h8, o8, r8⟩ := hg
  have H8 := ahid h8
  clear h8
  go_wp2_with fail
  refine (wend_any H8.out (by omega)).mono ?_
  rintro e w9 ⟨rfl, hg⟩
  rw [← HE.out.2.2.2.2.2.2.2] at hg
  have HG := ahid (BsGo.then o1 r1 (BsGo.then o2 r2 (BsGo.then o3 r3 (BsGo.then o4 r4 (BsGo.then o5 r5 (BsGo.then o6 r6 (BsGo.then o7 r7 (BsGo.then o8 r8 hg))))))))
  clear hg
  go_wp2_with fail
  go_ret
  exact ⟨rfl, HG.out⟩
set_option maxRecDepth 100000 in
set_option maxHeartbeats 4000000 in
theorem wunder_any {W w : World} {pa : Nat} {S : Nat → Prop} {s : Bs} (h : BsAt W w pa S s) {nw : Nat} (h2 : 2 ≤ nw) (h32 : nw ≤ 32) (hn : look s.M nmUnder = none) (hn2 : look s.M nmUnderIn = none) (hM : s.M.length + 10 < 4294967296) (hL : s.L.length + 100 < 4294967296) :
    Calls Tryz.prog 51 #[.pointer (some ⟨pa, 0, none⟩), .int .i64 (nw : Int)] w fun e w' => e = .returned (.int .i64 0) ∧ BsGo W w pa S (s.under nw) w' := by
  obtain ⟨s1, e1⟩ : ∃ x, x = s.mark nmUnder := ⟨_, rfl⟩
  have M1 : s1.M = s.M ++ [(nmUnder, (s.L.length : Int))] := by rw [e1]; rfl
  have L1 : s1.L.length = s.L.length := by rw [e1]; rfl
  obtain ⟨s2, e2⟩ : ∃ x, x = s1.turned nw 8 9 := ⟨_, rfl⟩
  have M2 : s2.M = s1.M := by rw [e2]; exact (Bs.turned_len _ _ _ _).2
  have L2 : s2.L.length ≤ s1.L.length + 7 := by rw [e2]; exact (Bs.turned_len _ _ _ _).1
  obtain ⟨s3, e3⟩ : ∃ x, x = s2.put [⟨26, 3, 0, 0, false, 0⟩, aluI 5 4 3 31, aluI 0 4 4 1, ⟨16, 0, 4, 0, true, (nw : Int)⟩] := ⟨_, rfl⟩
  have L3 : s3.L.length = s2.L.length + 4 := by rw [e3]; exact Bs.put_len _ _
  have M3 : s3.M = s2.M := by rw [e3]; rfl
  obtain ⟨s4, e4⟩ : ∃ x, x = s3.jump 2 nmUnderIn := ⟨_, rfl⟩
  have L4 : s4.L.length = s3.L.length + 1 := by rw [e4]; show (_ ++ [_]).length = _; simp
  have M4 : s4.M = s3.M := by rw [e4]; rfl
  obtain ⟨s5, e5⟩ : ∃ x, x = s4.put [aluI 0 4 0 0] := ⟨_, rfl⟩
  have L5 : s5.L.length = s4.L.length + 1 := by rw [e5]; exact Bs.put_len _ _
  have M5 : s5.M = s4.M := by rw [e5]; rfl
  obtain ⟨s6, e6⟩ : ∃ x, x = s5.mark nmUnderIn := ⟨_, rfl⟩
  have L6 : s6.L.length = s5.L.length := by rw [e6]; rfl
  obtain ⟨s7, e7⟩ : ∃ x, x = s6.put windowI := ⟨_, rfl⟩
  have L7 : s7.L.length = s6.L.length + 3 := by rw [e7]; exact Bs.put_len _ _
  obtain ⟨s8, e8⟩ : ∃ x, x = s7.each 22 16 := ⟨_, rfl⟩
  have L8 : s8.L.length = s7.L.length + 16 := by rw [e8]; exact Bs.each_len _ _ _
  obtain ⟨s9, e9⟩ : ∃ x, x = s8.put endI := ⟨_, rfl⟩
  have hfin : s.under nw = s9 := by rw [e9, e8, e7, e6, e5, e4, e3, e2, e1]; rfl
  rw [hfin]
  have hlk : look s5.M nmUnderIn = none := by
    rw [M5, M4, M3, M2, M1, look_snoc, hn2]
    simp [nmUnder, nmUnderIn]
  have hM5 : s5.M.length ≤ s.M.length + 1 := by rw [M5, M4, M3, M2, M1]; simp
  have q1 : IntKind.i32.wrap (nw : Int) = (nw : Int) := IntWalk.i32_in _ (by omega)
  have q2 : wrap32 (nw : Int) = (nw : Int) := by unfold wrap32; omega
  have HB := ahid (wbegin_any h h2 h32 (nm := nmUnder) (by decide) hn (by omega) (by omega))
  rw [← e1] at HB
  have HE := ahid (And.intro e2 (And.intro e3 (And.intro e4 (And.intro e5 (And.intro e6 (And.intro e7 (And.intro e8 e9)))))))
  have HLK := ahid hlk
  have hl : s1.L.length < 4294967196 ∧ s2.L.length < 4294967206 ∧ s3.L.length < 4294967210 ∧ s4.L.length < 4294967216 ∧ s5.L.length < 4294967220 ∧ s6.L.length < 4294967220 ∧ s7.L.length < 4294967224 ∧ s8.L.length < 4294967244 := by omega
  clear h hn hn2 hlk hfin e1 e2 e3 e4 e5 e6 e7 e8 e9 M1 M2 M3 M4 M5 L1 L2 L3 L4 L5 L6 L7 L8
  go_enter Tryz.func51, Tryz.ntmps51
  go_wp2_with fail
  refine HB.out.mono ?_
  rintro e w1 ⟨rfl, S1, h1, o1, r1⟩
  have H1 := ahid h1
  clear h1
  go_wp2_with fail
  refine (wturned_any H1.out h2 h32 (.inr ⟨rfl, rfl⟩) (by omega)).mono ?_
  rintro e w2 ⟨rfl, hg⟩
  rw [← HE.out.1] at hg
  obtain ⟨S2, h2', o2, r2⟩ := hg
  have H2 := ahid h2'
  clear h2'
  go_wp2_with fail
  refine (walu_any (op := 5) (by omega) w2).mono ?_
  rintro e v0 ⟨rfl, hb0⟩
  go_wp2_with fail
  refine (walu_any (op := 0) (by omega) v0).mono ?_
  rintro e v1 ⟨rfl, hb1⟩
  go_wp2_with fail
  have HV := ahid (hb0.trans (hb1.mono hb0.size))
  refine (bs_lit H2.out (l := [⟨26, 3, 0, 0, false, 0⟩, aluI 5 4 3 31, aluI 0 4 4 1, ⟨16, 0, 4, 0, true, (nw : Int)⟩]) (cmp_ok nw (by omega)).2 (by simp) (by simp; omega) HV.out).mono ?_
  rintro e w3 ⟨rfl, hg⟩
  rw [← HE.out.2.1] at hg
  obtain ⟨S3, h3, o3, r3⟩ := hg
  have H3 := ahid h3
  clear h3 hb0 hb1
  go_wp2_with fail
  refine (bs_jump H3.out (c := 2) (nm := nmUnderIn) (by omega) (by omega) (by decide) (by omega)).mono ?_
  rintro e w4 ⟨rfl, hg⟩
  rw [← HE.out.2.2.1] at hg
  obtain ⟨S4, h4, o4, r4⟩ := hg
  have H4 := ahid h4
  clear h4
  go_wp2_with fail
  refine (walu_any (op := 0) (by omega) w4).mono ?_
  rintro e u0 ⟨rfl, hc0⟩
  go_wp2_with fail
  refine (bs_lit H4.out (l := [aluI 0 4 0 0]) over_ok.2 (by simp) (by simp; omega) hc0).mono ?_
  rintro e w5 ⟨rfl, hg⟩
  rw [← HE.out.2.2.2.1] at hg
  obtain ⟨S5, h5, o5, r5⟩ := hg
  have H5 := ahid h5
  clear h5 hc0
  go_wp2_with fail
  refine (bs_mark H5.out (nm := nmUnderIn) (by decide) HLK.out (by omega) (by omega)).mono ?_
  rintro e w6 ⟨rfl, hg⟩
  rw [← HE.out.2.2.2.2.1] at hg
  obtain ⟨S6, h6, o6, r6⟩ := hg
  have H6 := ahid h6
  clear h6
  go_wp2_with fail
  refine (wwindow_any H6.out (by omega)).mono ?_
  rintro e w7 ⟨rfl, hg⟩
  rw [← HE.out.2.2.2.2.2.1] at hg
  obtain ⟨S7, h7, o7, r7⟩ := hg
  have H7 := ahid h7
  clear h7
  go_wp2_with fail
  refine (wload_any H7.out (by omega)).mono ?_
  rintro e w8 ⟨rfl, hg⟩
  rw [← HE.out.2.2.2.2.2.2.1] at hg
  obtain ⟨S8, h8, o8, r8⟩ := hg
  have H8 := ahid h8
  clear h8
  go_wp2_with fail
  refine (wend_any H8.out (by omega)).mono ?_
  rintro e w9 ⟨rfl, hg⟩
  rw [← HE.out.2.2.2.2.2.2.2] at hg
  have HG := ahid (BsGo.then o1 r1 (BsGo.then o2 r2 (BsGo.then o3 r3 (BsGo.then o4 r4 (BsGo.then o5 r5 (BsGo.then o6 r6 (BsGo.then o7 r7 (BsGo.then o8 r8 hg))))))))
  clear hg
  go_wp2_with fail
  go_ret
  exact ⟨rfl, HG.out⟩
end Go.Proofs.YtajholbcpmjhiaaGreatDoor
/- Several machines side by side: what one does leaves the others. No function of the program is walked here. -/
namespace Go.Proofs.YtajholbcpmjhiaaGreatDoor
open Go.RowKit
set_option linter.unusedVariables false
set_option linter.unusedSimpArgs false
/-- No block belongs to both. -/
def Apart (G G' : MG) : Prop := ∀ k, G.R k ≠ .none → G'.R k = .none
theorem Apart.symm {G G' : MG} (h : Apart G G') : Apart G' G := fun k hk => by
  by_cases e : G.R k = .none
  · exact e
  · exact absurd (h k e) hk
/-- One that was made later. -/
theorem Apart.fresh {w : World} {G G' : MG} {M : Nat} {m : Mx} (h : MachAt w G M m) (hl : ∀ k, G'.R k ≠ .none → w.heap.size ≤ k) : Apart G G' := fun k hk => by
  by_cases e : G'.R k = .none
  · exact e
  · have h1 := h.lt k hk
    have h2 := hl k e
    omega
/-- The other machine, when one has gone on. -/
theorem MachAt.other {w w' : World} {G G' : MG} {M : Nat} {m : Mx} (h : MachAt w G M m) (hs : Apart G' G) (o : Only G'.own w w') : MachAt w' G M m :=
  h.keep o (fun k hk hC => hk (hs k hC.1))
theorem Apart.goes {w : World} {G G1 G' : MG} {M : Nat} {m : Mx} (hs : Apart G G') (h : MachAt w G' M m) (hg : ∀ k, k < w.heap.size → G1.R k = G.R k) : Apart G1 G' := fun k hk => by
  by_cases e : k < w.heap.size
  · rw [hg k e] at hk; exact hs k hk
  · by_cases e2 : G'.R k = .none
    · exact e2
    · exact absurd (h.lt k e2) e
end Go.Proofs.YtajholbcpmjhiaaGreatDoor
/- A machine of a law's own: each call in one form; what stays of the others. No new function of the program is walked here. -/
namespace Go.Proofs.YtajholbcpmjhiaaGreatDoor
open Go.RowKit
set_option linter.unusedVariables false
set_option linter.unusedSimpArgs false
theorem fileM_ok {m : Mx} (h : m.ok) {f : Fx} (hf : f.ok) (hn : f.nw = m.f.nw) : ({ m with f := f } : Mx).ok := by
  obtain ⟨a1, a2, a3, a4, a5, a6, a7, a8, a9, b1, b2, b3, b4, b5, b6, b7, b8, b9, c1⟩ := h
  refine ⟨hf, a2, a3, a4, a5, a6, a7, a8, ?_, b1, b2, b3, b4, b5, b6, b7, b8, b9, c1⟩
  unfold Mx.nw at a9 ⊢
  rw [show ({ m with f := f } : Mx).f.nw = m.f.nw from hn]
  exact a9
/-- The machine (G, M), made since w0, is m. -/
structure MIs (w0 w : World) (G : MG) (M : Nat) (m : Mx) : Prop where
  at' : MachAt w G M m
  lo : ∀ k, G.R k ≠ .none → w0.heap.size ≤ k
  bel : Below w0.heap.size w0 w
/-- What one machine has done since w: the others' blocks are as they were. -/
def MKeeps (w w' : World) (G G' : MG) : Prop := Only (fun k => G.R k ≠ .none) w w' ∧ ∀ k, k < w.heap.size → G.R k = .none → G'.R k = .none
def MTo (w0 w w' : World) (G : MG) (M : Nat) (m' : Mx) : Prop := ∃ G', MIs w0 w' G' M m' ∧ MKeeps w w' G G'
section
variable {w0 w w' : World} {G G' G2 : MG} {M M2 : Nat} {m m' m2 : Mx}
theorem MIs.keepb (h : MIs w0 w G M m) (hb : Below w.heap.size w w') : MIs w0 w' G M m :=
  ⟨h.at'.keepb hb, h.lo, h.bel.trans (hb.mono h.bel.size)⟩
theorem MIs.drewN (h : MIs w0 w G M m) (n : Nat) : MIs w0 (w.drewN n) G M m := h.keepb ⟨rfl, rfl, rfl, Nat.le_refl _, fun _ _ => rfl⟩
theorem MKeeps.below (hk : MKeeps w w' G G') (h : MIs w0 w G M m) : Below w0.heap.size w0 w' :=
  h.bel.trans (hk.1.below h.bel.size (fun k hk2 hC => absurd (h.lo k hC) (by omega)))
/-- Another machine, when one has gone on. -/
theorem MIs.other (h : MIs w0 w G2 M2 m2) (h1 : MIs w0 w G M m) (hs : Apart G G2) (hk : MKeeps w w' G G') : MIs w0 w' G2 M2 m2 ∧ Apart G' G2 := by
  refine ⟨⟨h.at'.keep hk.1 (fun k h2 hC => h2 (hs k hC)), h.lo, hk.below h1⟩, fun k hk' => ?_⟩
  · by_cases e : G2.R k = .none
    · exact e
    · have h1 := h.at'.lt k e
      by_cases e2 : G.R k = .none
      · exact absurd (hk.2 k h1 e2) hk'
      · exact hs k e2
/-- Words in a block that is not the machine's. -/
def MRow (w : World) (G : MG) (v : Value) (l : List Int) : Prop := Reads32 w v l ∧ ∀ k, v.ownBlock = some k → G.R k = .none ∧ k < w.heap.size
theorem MRow.keep {v : Value} {l : List Int} (h : MRow w G v l) (hk : MKeeps w w' G G') : MRow w' G' v l :=
  ⟨h.1.keepO hk.1 (fun k e hC => hC (h.2 k e).1), fun k e => ⟨hk.2 k (h.2 k e).2 (h.2 k e).1, Nat.lt_of_lt_of_le (h.2 k e).2 hk.1.size⟩⟩
theorem MRow.keepb {v : Value} {l : List Int} (h : MRow w G v l) (hb : Below w.heap.size w w') : MRow w' G v l :=
  ⟨h.1.keepb hb, fun k e => ⟨(h.2 k e).1, Nat.lt_of_lt_of_le (h.2 k e).2 hb.size⟩⟩
theorem MRow.of_own {v : Value} {l : List Int} (h : MIs w0 w G M m) (ho : w'.ownsRow w.heap.size 24 1 v l.length (u32s l)) : MRow w' G v l :=
  ⟨Reads32.of_own ho, fun k e => ⟨by
    by_cases e2 : G.R k = .none
    · exact e2
    · have h1 := h.at'.lt k e2
      have h2 := (own_range ho k e).1
      omega, (own_range ho k e).2⟩⟩
theorem MGoes.to (h : MIs w0 w G M m) (hg : MGoes w G M m' w') : MTo w0 w w' G M m' := by
  obtain ⟨G', h1, h2, h3⟩ := hg
  have ho : Only (fun k => G.R k ≠ .none) w w' := h2.mono (fun k _ hk => hk.1)
  have hsz := h.bel.size
  refine ⟨G', ⟨h1, fun k hk => ?_, h.bel.trans (ho.below hsz (fun k hk2 hC => absurd (h.lo k hC) (by omega)))⟩, ho, fun k hk e => (h3 k hk).trans e⟩
  by_cases e : k < w.heap.size
  · exact h.lo k (by rw [← h3 k e]; exact hk)
  · omega
theorem MIs.to (h : MIs w0 w G M m) (h1 : MachAt w' G M m') (ho : Only (fun k => G.R k ≠ .none) w w') : MTo w0 w w' G M m' :=
  ⟨G, ⟨h1, h.lo, h.bel.trans (ho.below h.bel.size (fun k hk2 hC => absurd (h.lo k hC) (by omega)))⟩, ho, fun _ _ e => e⟩
end
section
variable (w0 w : World) (ht : Tab w0) (hbr : Bru w0) (G : MG) (M : Nat) (m : Mx) (h : MIs w0 w G M m)
include h
theorem mw_step (ht : Tab w0) (hbr : Bru w0) (level : Int) (hl0 : 0 ≤ level) (hl1 : level < 256) (hol : m.out.length < 4294967296) :
    Calls Tryz.prog 45 #[.pointer (some ⟨M, 0, none⟩), .int .u8 level] w fun e w' => e = .returned (.agg #[.int .u8 (stepM m level).kind, .int .u32 (stepM m level).v]) ∧ MTo w0 w w' G M (stepM m level) :=
  (mstep_any w (ht.keep h.bel) (hbr.keep h.bel) G M m h.at' level hl0 hl1 hol).mono fun e w' he => ⟨he.1, MGoes.to h he.2⟩
theorem mw_store (a x : Int) (ha : 0 ≤ a ∧ a < 4294967296) (hx : 0 ≤ x ∧ x < 4294967296) :
    Calls Tryz.prog 17 #[.pointer (some ⟨G.mB, 0, none⟩), .int .u32 a, .int .i64 4, .int .u32 x] w fun e w' => e = .returned (.int .i64 (spanE m.mem.length a 1 4)) ∧ MTo w0 w w' G M { m with mem := storeV m.mem a 4 x } := by
  refine (store_any w G.mB G.gB m.mem h.at'.mem a 4 ha.1 ha.2 x hx.1 hx.2).mono fun e w' he => ⟨he.1, h.to (h.at'.mem' he.2.2.1 he.2.1 (memM_ok h.at'.ok (storeV_ok h.at'.ok.bytes a 4 x).1 (storeV_ok h.at'.ok.bytes a 4 x).2)) (he.2.2.1.mono fun k _ hk => ?_)⟩
  have e : k = G.gB := hk
  rw [e, h.at'.rg]; simp
theorem mw_set (wi b r x : Int) (hx : 0 ≤ x ∧ x < 4294967296) :
    Calls Tryz.prog 20 #[.pointer (some ⟨G.F, 0, none⟩), .int .i64 wi, .int .i64 b, .int .i64 r, .int .u32 x] w fun e w' => e = .returned (.int .i64 (regE m.f wi b r)) ∧ MTo w0 w w' G M { m with f := setV m.f wi b r x } := by
  refine (fset_any w G.F G.Wb G.wc m.f h.at'.file wi b r x hx).mono fun e w' he => ⟨he.1, h.to (h.at'.file' he.2.2.1 he.2.1 (setV_nw _ _ _ _ _) (fileM_ok h.at'.ok (h.at'.ok.f.sV _ _ _ hx) (setV_nw _ _ _ _ _))) (he.2.2.1.mono fun k _ hk => ?_)⟩
  rcases hk with e | e
  · rw [e, h.at'.rF]; simp
  · rw [e, h.at'.rW]; simp
theorem mw_setpc (x : Int) (hx : 0 ≤ x ∧ x < 4294967296) :
    Calls Tryz.prog 54 #[.pointer (some ⟨M, 0, none⟩), .int .u32 x] w fun e w' => e = .returned (.int .i64 0) ∧ MTo w0 w w' G M { m with pc := x } := by
  refine (msetpc_any w G M m h.at' x hx).mono fun e w' he => ⟨he.1, h.to he.2.1 (he.2.2.mono fun k _ hk => ?_)⟩
  have e : k = M := hk
  rw [e, h.at'.rM]; simp
theorem mw_setwim (hbr : Bru w0) (x : Int) (hx : 0 ≤ x ∧ x < 4294967296) :
    Calls Tryz.prog 56 #[.pointer (some ⟨M, 0, none⟩), .int .u32 x] w fun e w' => e = .returned (.int .i64 (invE x m.nw)) ∧ MTo w0 w w' G M (swimM m x) := by
  refine (msetwim_any w (hbr.keep h.bel) G M m h.at' x hx).mono fun e w' he => ⟨he.1, h.to he.2.1 (he.2.2.mono fun k _ hk => ?_)⟩
  have e : k = M := hk
  rw [e, h.at'.rM]; simp
theorem mw_setpsr (q : Px) (hq : q.bd) :
    Calls Tryz.prog 55 #[.pointer (some ⟨M, 0, none⟩), q.agg] w fun e w' => e = .returned (.int .i64 (packE q m.nw)) ∧ MTo w0 w w' G M (spsrM m q) := by
  refine (msetpsr_any w G M m h.at' q hq).mono fun e w' he => ⟨he.1, h.to he.2.1 (he.2.2.mono fun k _ hk => ?_)⟩
  have e : k = M := hk
  rw [e, h.at'.rM]; simp
theorem mw_win (wi : Int) :
    Calls Tryz.prog 13 #[.pointer (some ⟨G.F, 0, none⟩), .int .i64 wi] w fun e w' => ∃ v, e = .returned (.tuple #[v, .int .i64 (regE m.f wi 0 0)]) ∧ MRow w' G v (winV m.f wi) ∧ Below w.heap.size w w' := by
  refine (fwin_any w G.F G.Wb G.wc m.f h.at'.file wi).mono fun e w' he => ?_
  obtain ⟨v, h1, h2, h3⟩ := he
  exact ⟨v, h1, MRow.of_own h h2, h3⟩
theorem mw_out (hol : m.out.length < 4294967296) :
    Calls Tryz.prog 27 #[.pointer (some ⟨M, 0, none⟩)] w fun e w' => ∃ v, e = .returned v ∧ MRow w' G v m.out ∧ Below w.heap.size w w' := by
  refine (mout_any w G M m h.at' hol).mono fun e w' he => ?_
  obtain ⟨v, h1, h2, h3⟩ := he
  exact ⟨v, h1, MRow.of_own h h2, h3⟩
end
theorem mw_new (nw size : Nat) (w0 w : World) (hb : Below w0.heap.size w0 w) (h2 : 2 ≤ nw) (h32 : nw ≤ 32) (hs : size ≤ 4194304) (h4 : size % 4 = 0) :
    Calls Tryz.prog 50 #[.int .i64 nw, .int .i64 size] w fun e w' => ∃ M G, e = .returned (.tuple #[.pointer (some ⟨M, 0, none⟩), .int .i64 0]) ∧ MIs w0 w' G M (newM nw size) ∧ (∀ k, k < w.heap.size → G.R k = .none) ∧ Below w.heap.size w w' := by
  refine (mnew_ok nw size w h2 h32 hs h4).mono fun e w' he => ?_
  obtain ⟨M', G', h1, h2, h3, h4⟩ := he
  refine ⟨M', G', h1, ⟨h2, fun k hk => Nat.le_trans hb.size (h3 k hk), hb.trans (h4.mono hb.size)⟩, fun k hk => ?_, h4⟩
  by_cases e : G'.R k = .none
  · exact e
  · have := h3 k e; omega
end Go.Proofs.YtajholbcpmjhiaaGreatDoor
/- Walks of the document's Pack and Unpack (muntinref04). -/
namespace Go.Proofs.YtajholbcpmjhiaaGreatDoor
open Go.RowKit
set_option linter.unusedVariables false
set_option linter.unusedSimpArgs false
theorem rwindows_any (nw : Int) (w : World) : Calls Tryz.prog 131 #[.int .i64 nw] w fun e w' => e = .returned (.bool (decide (winP nw))) ∧ w = w' := by
  by_cases h1 : 2 ≤ nw
  · by_cases h2 : nw ≤ 32
    · have e1 : decide (2 ≤ nw) = true := by simpa using h1
      have e2 : decide (nw ≤ 32) = true := by simpa using h2
      have E := phid (show decide (winP nw) = true from decide_eq_true ⟨h1, h2⟩)
      clear h1 h2
      go_enter Tryz.func131, Tryz.ntmps131
      go_wp2
      go_ret
      exact ⟨pretb E.out.symm, rfl⟩
    · have e1 : decide (2 ≤ nw) = true := by simpa using h1
      have e2 : decide (nw ≤ 32) = false := by simpa using h2
      have E := phid (show decide (winP nw) = false from decide_eq_false (fun h => h2 h.2))
      clear h1 h2
      go_enter Tryz.func131, Tryz.ntmps131
      go_wp2
      go_ret
      exact ⟨pretb E.out.symm, rfl⟩
  · have e1 : decide (2 ≤ nw) = false := by simpa using h1
    have E := phid (show decide (winP nw) = false from decide_eq_false (fun h => h1 h.1))
    clear h1
    go_enter Tryz.func131, Tryz.ntmps131
    go_wp2
    go_ret
    exact ⟨pretb E.out.symm, rfl⟩
end Go.Proofs.YtajholbcpmjhiaaGreatDoor
/- The document's windows (muntinref04). -/
namespace Go.Proofs.YtajholbcpmjhiaaGreatDoor
open Go.RowKit
set_option linter.unusedVariables false
set_option linter.unusedSimpArgs false
/-- Whether one may ask for a window: three ways. -/
theorem okW_cases (x nw : Int) : (¬ winP nw ∧ ¬ okW x nw) ∨ (winP nw ∧ x < 0 ∧ ¬ okW x nw) ∨ (winP nw ∧ 0 ≤ x ∧ nw ≤ x ∧ ¬ okW x nw) ∨ (winP nw ∧ 0 ≤ x ∧ x < nw ∧ okW x nw) := by
  by_cases hw : winP nw
  · by_cases h0 : x < 0
    · exact .inr (.inl ⟨hw, h0, fun h => by have := h.2.1; omega⟩)
    · by_cases h1 : nw ≤ x
      · exact .inr (.inr (.inl ⟨hw, by omega, h1, fun h => by have := h.2.2; omega⟩))
      · exact .inr (.inr (.inr ⟨hw, by omega, by omega, hw, by omega, by omega⟩))
  · exact .inl ⟨hw, fun h => hw h.1⟩
set_option maxHeartbeats 1000000 in
theorem rnext_any (x nw by' : Int) (hby : winP nw → 0 ≤ by' ∧ by' ≤ 32) (w : World) : Calls Tryz.prog 73 #[.int .i64 x, .int .i64 nw, .int .i64 by'] w fun e w' => e = .returned (.tuple #[.int .i64 (stepV x by' nw), .int .i64 (okE x nw)]) ∧ w = w' := by
  have hq := rwindows_any nw
  rcases okW_cases x nw with ⟨hw, hn⟩ | ⟨hw, hx, hn⟩ | ⟨hw, hx, hx2, hn⟩ | ⟨hw, hx, hx2, hn⟩
  · rw [decide_eq_false hw] at hq
    have H1 := phid hq
    have E := phid (show stepV x by' nw = 0 ∧ okE x nw = 2 from ⟨if_neg hn, if_neg hn⟩)
    clear hq hw hn hby
    go_enter Tryz.func73, Tryz.ntmps73
    go_wp2_with fail
    refine (H1.out _).mono ?_
    rintro e w' ⟨rfl, rfl⟩
    go_wp2_with fail
    go_ret2
    exact ⟨pret2 E.out.1.symm E.out.2.symm, rfl⟩
  · rw [decide_eq_true hw] at hq
    have H1 := phid hq
    have E := phid (show stepV x by' nw = 0 ∧ okE x nw = 2 from ⟨if_neg hn, if_neg hn⟩)
    have d1 : decide (x < 0) = true := by simpa using hx
    clear hq hw hn hby hx
    go_enter Tryz.func73, Tryz.ntmps73
    go_wp2_with fail
    refine (H1.out _).mono ?_
    rintro e w' ⟨rfl, rfl⟩
    go_wp2_with fail
    go_ret2
    exact ⟨pret2 E.out.1.symm E.out.2.symm, rfl⟩
  · rw [decide_eq_true hw] at hq
    have H1 := phid hq
    have E := phid (show stepV x by' nw = 0 ∧ okE x nw = 2 from ⟨if_neg hn, if_neg hn⟩)
    have d1 : decide (x < 0) = false := by simp; omega
    have d2 : decide (nw ≤ x) = true := by simpa using hx2
    clear hq hw hn hby hx hx2
    go_enter Tryz.func73, Tryz.ntmps73
    go_wp2_with fail
    refine (H1.out _).mono ?_
    rintro e w' ⟨rfl, rfl⟩
    go_wp2_with fail
    go_ret2
    exact ⟨pret2 E.out.1.symm E.out.2.symm, rfl⟩
  · rw [decide_eq_true hw] at hq
    have H1 := phid hq
    have E := phid (show stepV x by' nw = (x + by') % nw ∧ okE x nw = 0 from ⟨if_pos hn, if_pos hn⟩)
    have d1 : decide (x < 0) = false := by simp; omega
    have d2 : decide (nw ≤ x) = false := by simp; omega
    have hb := hby hw
    obtain ⟨hw1, hw2⟩ := hw
    have hs : 0 ≤ x + by' ∧ x + by' ≤ 64 := by omega
    clear hq hn hby
    go_enter Tryz.func73, Tryz.ntmps73
    go_wp2_with fail
    refine (H1.out _).mono ?_
    rintro e w' ⟨rfl, rfl⟩
    go_wp2_with fail
    go_ret2
    exact ⟨pret2 E.out.1.symm E.out.2.symm, rfl⟩
theorem rahead_any (x nw : Int) (w : World) : Calls Tryz.prog 71 #[.int .i64 x, .int .i64 nw] w fun e w' => e = .returned (.tuple #[.int .i64 (stepV x (nw - 1) nw), .int .i64 (okE x nw)]) ∧ w = w' := by
  have hin : winP nw → wrap64 (nw - 1) = nw - 1 := fun h => by have h1 := h.1; have h2 := h.2; rw [IntWalk.wrap64_in _ (by omega)]
  have hs := rnext_any x nw (wrap64 (nw - 1)) (fun h => by have h1 := h.1; have h2 := h.2; rw [hin h]; omega)
  have he : stepV x (wrap64 (nw - 1)) nw = stepV x (nw - 1) nw := by
    unfold stepV
    by_cases h : okW x nw
    · rw [if_pos h, if_pos h, hin h.1]
    · rw [if_neg h, if_neg h]
  rw [he] at hs
  have H := phid hs
  clear hs he hin
  go_enter Tryz.func71, Tryz.ntmps71
  go_wp2_with fail
  refine (H.out _).mono ?_
  rintro e w' ⟨rfl, rfl⟩
  go_wp2_with fail
  go_ret2
  exact ⟨rfl, rfl⟩
end Go.Proofs.YtajholbcpmjhiaaGreatDoor
/- How an argument of type api.Psr is read; the table of math/bits. -/
namespace Go.Proofs.YtajholbcpmjhiaaGreatDoor
open Go.RowKit Go.ChangeShapes Go.WideShapes Go.ChangeAt
set_option linter.unusedVariables false
theorem bru_of {W : World} (h : ∀ i (hi : i < ([0, 1, 28, 2, 29, 14, 24, 3, 30, 22, 20, 15, 25, 17, 4, 8, 31, 27, 13, 23, 21, 19, 16, 7, 26, 12, 18, 6, 11, 5, 10, 9] : List Int).length), W.cell? ⟨1, i, none⟩ = some (.int .u8 (([0, 1, 28, 2, 29, 14, 24, 3, 30, 22, 20, 15, 25, 17, 4, 8, 31, 27, 13, 23, 21, 19, 16, 7, 26, 12, 18, 6, 11, 5, 10, 9] : List Int).getD i 0))) : Bru W := fun i hi => h i (by simpa using hi)
end Go.Proofs.YtajholbcpmjhiaaGreatDoor
/- How an argument of type api.Inst is read; the table of what operations have. -/
namespace Go.Proofs.YtajholbcpmjhiaaGreatDoor
open Go.RowKit Go.ChangeShapes Go.WideShapes Go.ChangeAt
set_option linter.unusedVariables false
set_option maxRecDepth 100000 in
theorem tab_of {W : World} (h : ∀ i (hi : i < ([128, 7, 7, 7, 7, 7, 7, 7, 7, 7, 7, 7, 7, 7, 7, 25, 6, 25, 24, 7, 7, 7, 7, 7, 7, 7, 1, 6, 1, 6, 9, 10, 0, 8, 1, 2, 2, 8] : List Int).length), W.cell? ⟨0, i, none⟩ = some (.int .u8 (([128, 7, 7, 7, 7, 7, 7, 7, 7, 7, 7, 7, 7, 7, 7, 25, 6, 25, 24, 7, 7, 7, 7, 7, 7, 7, 1, 6, 1, 6, 9, 10, 0, 8, 1, 2, 2, 8] : List Int).getD i 0))) : Tab W := by
  intro i hi
  have hall : ∀ j : Fin 38, ([128, 7, 7, 7, 7, 7, 7, 7, 7, 7, 7, 7, 7, 7, 7, 25, 6, 25, 24, 7, 7, 7, 7, 7, 7, 7, 1, 6, 1, 6, 9, 10, 0, 8, 1, 2, 2, 8] : List Int).getD j.val 0 = hasK (kindS (j.val : Int)) := by decide
  have h1 := h i (by simpa using hi)
  rw [h1]
  exact congrArg (fun n => some (Value.int .u8 n)) (hall ⟨i, hi⟩)
end Go.Proofs.YtajholbcpmjhiaaGreatDoor
/- How an argument of type muntinlaw06.Start is read. -/
namespace Go.Proofs.YtajholbcpmjhiaaGreatDoor
open Go.RowKit Go.ChangeShapes Go.WideShapes Go.ChangeAt
set_option linter.unusedVariables false
set_option linter.unusedSimpArgs false
def WordsIn (w : World) (v : Value) (l : List Int) : Prop :=
  U32s (fun k => w.heap.size ≤ k) w v l ∧ l.length ≤ maxLen ∧ ∀ p n c, v = .slice p n c → n ≤ c ∧ (p = none → c = 0)
theorem WordsIn.keepb {w w' : World} {v : Value} {l : List Int} (h : WordsIn w v l) (hb : Below w.heap.size w w') : WordsIn w' v l := by
  obtain ⟨⟨h1, p, c, rfl, h2⟩, h3, h4⟩ := h
  refine ⟨⟨h1, p, c, rfl, fun h0 => ?_⟩, h3, h4⟩
  obtain ⟨b, o, rfl, h5, h6, h7⟩ := h2 h0
  exact ⟨b, o, rfl, Nat.not_le.2 (Nat.lt_of_lt_of_le h6 hb.size), Nat.lt_of_lt_of_le h6 hb.size, fun k hk => (hb.cell (p := ⟨b, o + k, none⟩) h6).trans (h7 k hk)⟩
theorem mlist_of {α : Type} (P : Nat → α → Prop) : ∀ n, (∀ i, i < n → ∃ y, P i y) → ∃ l : List α, l.length = n ∧ ∀ k y, l[k]? = some y → P k y := by
  intro n
  induction n with
  | zero => intro _; exact ⟨[], rfl, fun k y h => by simp at h⟩
  | succ n ih =>
    intro h
    obtain ⟨l, hl, hp⟩ := ih (fun i hi => h i (by omega))
    obtain ⟨y, hy⟩ := h n (by omega)
    refine ⟨l ++ [y], by simp [hl], fun k z hz => ?_⟩
    by_cases hk : k < l.length
    · rw [List.getElem?_append_left hk] at hz; exact hp k z hz
    · rw [List.getElem?_append_right (by omega)] at hz
      have : k - l.length = 0 := by
        rcases Nat.eq_zero_or_pos (k - l.length) with e | e
        · exact e
        · rw [List.getElem?_eq_none (by simp; omega)] at hz; cases hz
      rw [this] at hz
      cases hz
      obtain rfl : k = n := by omega
      exact hy
theorem maddr_add (b o n : Nat) : (⟨b, o, none⟩ : Addr).add n = ⟨b, o + n, none⟩ := by unfold Addr.add; split <;> simp [*]
theorem mcells_each {w : World} {base : Nat} {a : Addr} {n : Nat} {cs : List Value} (h : w.cells? base a n = some cs) : cs.length = n ∧ ∀ j u, cs[j]? = some u → w.cell? (a.add j) = some u := by
  obtain ⟨_, h1, h2⟩ := World.cells?_some h
  refine ⟨h1, fun j u hu => ?_⟩
  have hj : j < n := by
    rcases Nat.lt_or_ge j n with h3 | h3
    · exact h3
    · rw [List.getElem?_eq_none (by omega)] at hu; cases hu
  have := h2 j hj
  rw [this]; exact hu
section
variable {H : Type} {enc : TypeId × Value → H} {w : World} {base : Nat} {spare : Nat → Bool} {held : Bool} {fuel : Nat} {x : DataW H × List MemPlace}
theorem trod_wordsin {cs : List Value} (h : DataW.trod enc Tryz.prog w base spare held fuel 22 cs = some x) : ∃ v l, cs = [v] ∧ WordsIn w v l := by
  obtain ⟨p, c, l, rfl, h1, h2, h3⟩ := trod_row h
  refine ⟨_, l, rfl, h3, h1, fun p' n' c' e => ?_⟩
  cases e
  refine ⟨h2, fun e => ?_⟩
  subst e
  rcases Go.Deep.open_slice Tryz.underlying22 h with ⟨hh, _⟩ | ⟨a, len, cap, m, q, D, Pl, hh, _⟩
  · simp at hh; exact hh.2
  · simp at hh
theorem mc_int : Tryz.prog.cellsOf 3 = 1 := by kernel_rfl
theorem mc_u32 : Tryz.prog.cellsOf 24 = 1 := by kernel_rfl
theorem mc_words : Tryz.prog.cellsOf 22 = 1 := by kernel_rfl
end
end Go.Proofs.YtajholbcpmjhiaaGreatDoor
