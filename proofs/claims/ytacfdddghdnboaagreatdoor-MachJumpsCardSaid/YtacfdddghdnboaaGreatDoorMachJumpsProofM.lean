/- 'MachJumps', the tied card: for every input the law returns true, and each argument reads afterwards as it read before; the listed variables start as the program's text lays it (the card ties them). No other condition. -/
import Derived.Test.YtacfdddghdnboaaGreatDoorGT
import Derived.Test.YtacfdddghdnboaaGreatDoorGU
import Derived.Test.YtacfdddghdnboaaGreatDoorCards
import Derived.Test.YtacfdddghdnboaaGreatDoorTie
import Derived.WalkKit
import Derived.ProofKit
import Derived.OpenShut
import Derived.ShutString
import Derived.ChangeOld
import Derived.Below
import Derived.Deep.DeepHandedRow
import Derived.Lib.LaidTab
import Derived.SevenTiedAt
import Derived.LaidSub
/- The plain law of muntinlaw06.MachJumps. No program in sight. -/
namespace Go.Proofs.YtacfdddghdnboaaGreatDoor
open Go.RowKit
set_option linter.unusedVariables false
set_option linter.unusedSimpArgs false
theorem jflags_has (a b : Int) : whasS (flagsS a b) 8 = decide (s32 (a - b) < 0) ∧ whasS (flagsS a b) 4 = decide (a = b) ∧ whasS (flagsS a b) 2 = (!decide (s32 a - s32 b = s32 (a - b))) ∧ whasS (flagsS a b) 1 = decide (a < b) := by
  unfold flagsS
  generalize decide (s32 (a - b) < 0) = p
  generalize decide (a = b) = q
  generalize decide (s32 a - s32 b = s32 (a - b)) = r
  generalize decide (a < b) = s
  cases p <;> cases q <;> cases r <;> cases s <;> decide
theorem jlt_flags (a b : Int) : (whasS (flagsS a b) 8 != whasS (flagsS a b) 2) = decide (s32 a < s32 b) := by
  obtain ⟨h1, _, h2, _⟩ := jflags_has a b
  rw [h1, h2, Bool.eq_iff_iff]
  by_cases k1 : s32 (a - b) < 0 <;> by_cases k2 : s32 a - s32 b = s32 (a - b) <;> simp [k1, k2] <;> unfold s32 at * <;> omega
/-- Whether a condition holds of two words. -/
def condS (c : Nat) (a b : Int) : Bool :=
  match c with
  | 0 => true | 1 => decide (a = b) | 2 => !decide (a = b)
  | 3 => decide (s32 a < s32 b) | 4 => !decide (s32 a < s32 b)
  | 5 => decide (a < b) | _ => !decide (a < b)
theorem jconds (c : Nat) (hc : c < 7) (a b : Int) : holdsS c (flagsS a b) = condS c a b := by
  have h := jlt_flags a b
  obtain ⟨_, h2, _, h4⟩ := jflags_has a b
  have : c = 0 ∨ c = 1 ∨ c = 2 ∨ c = 3 ∨ c = 4 ∨ c = 5 ∨ c = 6 := by omega
  rcases this with rfl | rfl | rfl | rfl | rfl | rfl | rfl <;> simp [holdsS, condS, h, h2, h4]
def jumpL (c : Int) : List Ix := [⟨16, 0, 16, 17, false, 0⟩, ⟨17, c, 0, 0, true, 10⟩, ⟨18, 0, 0, 0, true, 20⟩]
def jumpI : Ix := ⟨19, 18, 15, 0, true, 8⟩
def jump1 (c : Int) : Mx := { smallM (jumpL c) with mem := storeV (smallM (jumpL c)).mem 88 4 (encS jumpI) }
def jump2 (c a : Int) : Mx := { jump1 c with f := setV (jump1 c).f 0 0 16 a }
def jump3 (c a b : Int) : Mx := { jump2 c a with f := setV (jump2 c a).f 0 0 17 b }
theorem jump_code : ∀ c : Fin 7, (∀ x ∈ jumpL (c.val : Int), mayP x) ∧ mayP jumpI ∧ loadS (jump1 (c.val : Int)).mem 0 4 = wordS ⟨16, 0, 16, 17, false, 0⟩ ∧ loadS (jump1 (c.val : Int)).mem 4 4 = wordS ⟨17, (c.val : Int), 0, 0, true, 10⟩ ∧ loadS (jump1 (c.val : Int)).mem 8 4 = wordS ⟨18, 0, 0, 0, true, 20⟩ ∧ loadS (jump1 (c.val : Int)).mem 88 4 = wordS jumpI ∧ (jump1 (c.val : Int)).mem.length = 1024 := by decide +kernel
def jumpP (c a b : Int) : Mx := { jump3 c a b with pc := 4, p := ⟨0, 0, 0, flagsS a b⟩ }
theorem jump_a (c : Fin 7) (a b : Int) : stepM (jump3 (c.val : Int) a b) 0 = jumpP c.val a b := by
  obtain ⟨h1, h2, h3, h4, h5, h6, h7⟩ := jump_code c
  rw [step_code (m := jump3 (c.val : Int) a b) (x := ⟨16, 0, 16, 17, false, 0⟩) (a := 0) rfl (by intro h; exact absurd (show (0 : Int) < 0 from h.2) (by decide)) rfl ⟨rfl, by show 0 + 4 ≤ (jump1 _).mem.length; omega, h3, h1 _ (by simp [jumpL]), by unfold Ix.bd; simp⟩]
  rfl
theorem jump_b (c : Fin 7) (a b : Int) : stepM (jumpP (c.val : Int) a b) 0 = { jumpP c.val a b with pc := if condS c.val a b = true then 44 else 8 } := by
  obtain ⟨h1, h2, h3, h4, h5, h6, h7⟩ := jump_code c
  have hc := c.isLt
  rw [step_code (m := jumpP (c.val : Int) a b) (x := ⟨17, (c.val : Int), 0, 0, true, 10⟩) (a := 4) rfl (by intro h; exact absurd (show (0 : Int) < 0 from h.2) (by decide)) rfl ⟨rfl, by show 4 + 4 ≤ (jump1 _).mem.length; omega, h4, h1 _ (by simp [jumpL]), by unfold Ix.bd; simp; omega⟩]
  have e : opS (jumpP (c.val : Int) a b) ⟨17, (c.val : Int), 0, 0, true, 10⟩ (getM (jumpP (c.val : Int) a b) 0) (sndM (jumpP (c.val : Int) a b) ⟨17, (c.val : Int), 0, 0, true, 10⟩) = if holdsS c.val (flagsS a b) = true then { jumpP c.val a b with pc := 44 } else { jumpP c.val a b with pc := 8 } := by rfl
  rw [e, jconds _ hc]
  split <;> rfl
def jumpQ (c a b : Int) : Mx := { jumpP c a b with pc := 88, f := setV (jump3 c a b).f 0 0 15 8 }
theorem jump_c (c : Fin 7) (a b : Int) : stepM { jumpP c.val a b with pc := 8 } 0 = jumpQ c.val a b := by
  obtain ⟨h1, h2, h3, h4, h5, h6, h7⟩ := jump_code c
  rw [step_code (m := { jumpP c.val a b with pc := 8 }) (x := ⟨18, 0, 0, 0, true, 20⟩) (a := 8) rfl (by intro h; exact absurd (show (0 : Int) < 0 from h.2) (by decide)) rfl ⟨rfl, by show 8 + 4 ≤ (jump1 _).mem.length; omega, h5, h1 _ (by simp [jumpL]), by unfold Ix.bd; simp⟩]
  rfl
def jumpR (c a b : Int) : Mx := { jumpQ c a b with pc := 16, f := setV (jumpQ c a b).f 0 0 18 88 }
theorem jump_d (c : Fin 7) (a b : Int) : stepM (jumpQ c.val a b) 0 = jumpR c.val a b := by
  obtain ⟨h1, h2, h3, h4, h5, h6, h7⟩ := jump_code c
  rw [step_code (m := jumpQ c.val a b) (x := jumpI) (a := 88) rfl (by intro h; exact absurd (show (0 : Int) < 0 from h.2) (by decide)) rfl ⟨rfl, by show 88 + 4 ≤ (jump1 _).mem.length; omega, h6, h2, by unfold jumpI Ix.bd; simp⟩]
  rfl
theorem jump_ra (c a b : Int) : getV (jumpQ c a b).f 0 0 15 = 8 ∧ getV (jumpR c a b).f 0 0 18 = 88 := ⟨rfl, rfl⟩
end Go.Proofs.YtacfdddghdnboaaGreatDoor
/- The walk of muntinlaw06.MachJumps. -/
namespace Go.Proofs.YtacfdddghdnboaaGreatDoor
open Go.RowKit
set_option linter.unusedVariables false
set_option linter.unusedSimpArgs false
theorem jump_pick (w : World) (c : Fin 7) (a b k : Int) (hk : k = (c.val : Int)) : (w.alloc (.cells #[.bool true, .bool (a == b), .bool (a != b), .bool (decide (wrap32 a < wrap32 b)), .bool !decide (wrap32 a < wrap32 b), .bool (decide (a < b)), .bool !decide (a < b)] 4)).cell? ⟨w.heap.size, k.toNat, none⟩ = some (.bool (condS c.val a b)) := by
  subst hk
  rw [s32_eq, s32_eq, Int.toNat_natCast]
  rcases c with ⟨_ | _ | _ | _ | _ | _ | _ | n, hn⟩
  · simp [go_sem, condS]
  · simp [go_sem, condS]; rw [Bool.eq_iff_iff]; simp
  · simp [go_sem, condS]; rw [Bool.eq_iff_iff]; simp
  · simp [go_sem, condS]
  · simp [go_sem, condS]
  · simp [go_sem, condS]
  · simp [go_sem, condS]
  · omega
set_option maxRecDepth 100000 in
set_option maxHeartbeats 2000000 in
theorem walk_MachJumps (cc : Int) (hc : 0 ≤ cc ∧ cc < 256) (a : Int) (ha : 0 ≤ a ∧ a < 4294967296) (b : Int) (hb : 0 ≤ b ∧ b < 4294967296) (w : World) (ht : Tab w) (hbr : Bru w) :
    Calls Tryz.prog 3 #[.int .u8 cc, .int .u32 a, .int .u32 b] w fun e w' => e = .returned (.bool true) ∧ Below w.heap.size w w' := by
  have HT := mhid ht
  have HR := mhid hbr
  have HHD := mhid (fun w' hb => mhead_any w' (ht.keep hb) (hbr.keep (w' := w') hb))
  clear ht hbr
  have HC := mhid (show ∃ c : Fin 7, cc % 7 = (c.val : Int) from ⟨⟨(cc % 7).toNat, by omega⟩, by simp only; omega⟩)
  have HbdL := mhid (show (∀ x ∈ jumpL (cc % 7), x.bd) ∧ jumpI.bd from ⟨by intro x hx; simp [jumpL] at hx; rcases hx with rfl | rfl | rfl <;> (unfold Ix.bd; simp <;> omega), by unfold Ix.bd jumpI; simp⟩)
  have HI := mhid (insIn_three w ⟨16, 0, 16, 17, false, 0⟩ ⟨17, cc % 7, 0, 0, true, 10⟩ ⟨18, 0, 0, 0, true, 20⟩ (HbdL.out.1 _ (by simp [jumpL])) (HbdL.out.1 _ (by simp [jumpL])) (HbdL.out.1 _ (by simp [jumpL])))
  have HSA := mhid (small_any _ _ (jumpL (cc % 7)) HI.out (by simp [jumpL]))
  go_enter Tryz.func3, Tryz.ntmps3
  go_wp2_with fail
  refine HSA.out.mono ?_
  rintro e w1 ⟨M, G, rfl, hM, hlo, hbw⟩
  have hb0 : Below w.heap.size w (w.alloc (.cells #[.int .u8 16, .int .u8 0, .int .u8 16, .int .u8 17, .bool false, .int .i32 0, .int .u8 17, .int .u8 (cc % 7), .int .u8 0, .int .u8 0, .bool true, .int .i32 10, .int .u8 18, .int .u8 0, .int .u8 0, .int .u8 0, .bool true, .int .i32 20] 26)) := (Below.refl _ _).alloc (Nat.le_refl _) _
  have HM := mhid (show MIs w w1 G M (smallM (jumpL (cc % 7))) from ⟨hM, fun k hk => Nat.le_trans hb0.size (hlo k hk), hb0.trans (hbw.mono hb0.size)⟩)
  clear hM hlo hbw hb0 HI HSA
  go_wp2_with fail
  refine (renc_any jumpI HbdL.out.2 w1).mono ?_
  rintro e w2 ⟨rfl, hb2⟩
  have HM := mhid (HM.out.keepb hb2)
  clear hb2
  go_wp2_with fail
  refine (mmem_any w2 G M _ HM.out.at').mono ?_
  rintro e w' ⟨rfl, rfl⟩
  go_wp2_with fail
  refine (mw_store w w2 G M _ HM.out 88 (encS jumpI) (by omega) (encS_bd HbdL.out.2)).mono ?_
  rintro e w3 ⟨rfl, G3, hM, hk⟩
  have HM := mhid (show MIs w w3 G3 M (jump1 (cc % 7)) from hM)
  clear hM hk
  go_wp2_with fail
  refine (mfile_any w3 G3 M _ HM.out.at').mono ?_
  rintro e w' ⟨rfl, rfl⟩
  go_wp2_with fail
  refine (mw_set w w3 G3 M _ HM.out 0 0 16 a ha).mono ?_
  rintro e w4 ⟨rfl, G4, hM, hk⟩
  have HM := mhid (show MIs w w4 G4 M (jump2 (cc % 7) a) from hM)
  clear hM hk
  go_wp2_with fail
  refine (mfile_any w4 G4 M _ HM.out.at').mono ?_
  rintro e w' ⟨rfl, rfl⟩
  go_wp2_with fail
  refine (mw_set w w4 G4 M _ HM.out 0 0 17 b hb).mono ?_
  rintro e w5 ⟨rfl, G5, hM, hk⟩
  obtain ⟨c, hc7⟩ := HC.out
  have HM := mhid (show MIs w w5 G5 M (jump3 c.val a b) from by rw [← hc7]; exact hM)
  have HCE := mhid hc7
  clear hM hk hc7
  go_wp2_with fail
  have hs1 := mw_step w w5 G5 M _ HM.out HT.out HR.out 0 (by omega) (by omega) (by show ([] : List Int).length < 4294967296; decide)
  rw [jump_a] at hs1
  refine hs1.mono ?_
  rintro e w6 ⟨rfl, G6, hM, hk⟩
  have HM := mhid hM
  clear hM hk hs1
  go_wp2_with fail
  have hs1 := mw_step w w6 G6 M _ HM.out HT.out HR.out 0 (by omega) (by omega) (by show ([] : List Int).length < 4294967296; decide)
  rw [jump_b] at hs1
  refine hs1.mono ?_
  rintro e w7 ⟨rfl, G7, hM, hk⟩
  have hp := jump_pick w7 c a b _ HCE.out
  obtain ⟨cd, hcd⟩ : ∃ cd, cd = condS c.val a b := ⟨_, rfl⟩
  rw [← hcd] at hp hM
  clear hcd hk hs1
  cases cd with
  | true =>
    rw [if_pos rfl] at hM
    have HM := mhid hM
    clear hM
    go_wp2_with fail
    refine (mpc_any _ G7 M _ (HM.out.keepb ((Below.refl _ _).alloc (Nat.le_refl _) _)).at').mono ?_
    rintro e w' ⟨rfl, rfl⟩
    go_wp2_with fail
    have HB := mhid (HM.out.bel.trans (((Below.refl _ _).alloc (Nat.le_refl _) (.cells #[.bool true, .bool (a == b), .bool (a != b), .bool (decide (wrap32 a < wrap32 b)), .bool !decide (wrap32 a < wrap32 b), .bool (decide (a < b)), .bool !decide (a < b)] 4)).mono HM.out.bel.size))
    refine (HHD.out _ HB.out).mono ?_
    rintro e w8 ⟨rfl, hb8⟩
    go_wp2_with fail
    go_ret
    exact ⟨rfl, HB.out.trans (hb8.mono HB.out.size)⟩
  | false =>
    rw [if_neg (by decide)] at hM
    have HM := mhid hM
    clear hM
    go_wp2_with fail
    have HM := mhid (HM.out.keepb ((Below.refl _ _).alloc (Nat.le_refl _) (.cells #[.bool true, .bool (a == b), .bool (a != b), .bool (decide (wrap32 a < wrap32 b)), .bool !decide (wrap32 a < wrap32 b), .bool (decide (a < b)), .bool !decide (a < b)] 4)))
    refine (mpc_any _ G7 M _ HM.out.at').mono ?_
    rintro e w' ⟨rfl, rfl⟩
    go_wp2_with fail
    have hs1 := mw_step w _ G7 M _ HM.out HT.out HR.out 0 (by omega) (by omega) (by show ([] : List Int).length < 4294967296; decide)
    rw [jump_c] at hs1
    refine hs1.mono ?_
    rintro e w8 ⟨rfl, G8, hM, hk⟩
    have HM := mhid hM
    clear hM hk hs1
    go_wp2_with fail
    refine (mfile_any w8 G8 M _ HM.out.at').mono ?_
    rintro e w' ⟨rfl, rfl⟩
    go_wp2_with fail
    have hg := fget_any w8 G8.F G8.Wb G8.wc _ HM.out.at'.file 0 0 15
    rw [(jump_ra c.val a b).1] at hg
    refine hg.mono ?_
    rintro e w9 ⟨rfl, n, rfl⟩
    have HM := mhid (HM.out.drewN n)
    clear hg
    go_wp2_with fail
    refine (mpc_any _ G8 M _ HM.out.at').mono ?_
    rintro e w' ⟨rfl, rfl⟩
    go_wp2_with fail
    have hs1 := mw_step w _ G8 M _ HM.out HT.out HR.out 0 (by omega) (by omega) (by show ([] : List Int).length < 4294967296; decide)
    rw [jump_d] at hs1
    refine hs1.mono ?_
    rintro e w9 ⟨rfl, G9, hM, hk⟩
    have HM := mhid hM
    clear hM hk hs1
    go_wp2_with fail
    refine (mfile_any w9 G9 M _ HM.out.at').mono ?_
    rintro e w' ⟨rfl, rfl⟩
    go_wp2_with fail
    have hg := fget_any w9 G9.F G9.Wb G9.wc _ HM.out.at'.file 0 0 18
    rw [(jump_ra c.val a b).2] at hg
    refine hg.mono ?_
    rintro e w10 ⟨rfl, n2, rfl⟩
    have HM := mhid (HM.out.drewN n2)
    clear hg
    go_wp2_with fail
    refine (mpc_any _ G9 M _ HM.out.at').mono ?_
    rintro e w' ⟨rfl, rfl⟩
    go_wp2_with fail
    refine (HHD.out _ HM.out.bel).mono ?_
    rintro e w11 ⟨rfl, hb11⟩
    go_wp2_with fail
    go_ret
    exact ⟨rfl, HM.out.bel.trans (hb11.mono HM.out.bel.size)⟩
end Go.Proofs.YtacfdddghdnboaaGreatDoor
namespace Go.Proofs.YtacfdddghdnboaaGreatDoor.machJumpsP
open Go.ChangeShapes Go.WideShapes Go.ChangeAt Go.RowKit
set_option linter.unusedVariables false
theorem own : ownKnob Tryz.prog.godebug = none := by kernel_rfl
theorem laidOut : laidOutB Tryz.prog = true := by kernel_rfl
theorem gTab : Tryz.prog.globalNamed "muntin/inst.fields" = some 1 := by kernel_rfl
theorem gTabType : (Tryz.prog.globals[1]?).map (·.type) = some 224 := by kernel_rfl
theorem cellsTab : Tryz.prog.cellsOf 224 = 38 := by kernel_rfl
theorem cellsU8 : Tryz.prog.cellsOf 5 = 1 := by kernel_rfl
theorem gBru : Tryz.prog.globalNamed "math/bits.deBruijn32tab" = some 0 := by kernel_rfl
theorem gBruType : (Tryz.prog.globals[0]?).map (·.type) = some 217 := by kernel_rfl
theorem cellsBru : Tryz.prog.cellsOf 217 = 32 := by kernel_rfl
theorem keepF : (Rows.machJumpsRow.laid.filter fun e => e.1 == "muntin/inst.fields") = [("muntin/inst.fields", Lib.tabData .u8 [128, 7, 7, 7, 7, 7, 7, 7, 7, 7, 7, 7, 7, 7, 7, 25, 6, 25, 24, 7, 7, 7, 7, 7, 7, 7, 1, 6, 1, 6, 9, 10, 0, 8, 1, 2, 2, 8])] := by kernel_rfl
theorem keepB : (Rows.machJumpsRow.laid.filter fun e => e.1 == "math/bits.deBruijn32tab") = [("math/bits.deBruijn32tab", Lib.tabData .u8 [0, 1, 28, 2, 29, 14, 24, 3, 30, 22, 20, 15, 25, 17, 4, 8, 31, 27, 13, 23, 21, 19, 16, 7, 26, 12, 18, 6, 11, 5, 10, 9])] := by kernel_rfl
/-- What the row's list gives: the tables' cells hold their numbers. -/
theorem table {W : World} (h : laidMetH Tryz.prog Rows.machJumpsRow.laid W) : Lib.TabIs Tryz.prog W "muntin/inst.fields" .u8 [128, 7, 7, 7, 7, 7, 7, 7, 7, 7, 7, 7, 7, 7, 7, 25, 6, 25, 24, 7, 7, 7, 7, 7, 7, 7, 1, 6, 1, 6, 9, 10, 0, 8, 1, 2, 2, 8] := by
  have h1 := h.filter (fun e => e.1 == "muntin/inst.fields")
  rw [keepF] at h1
  exact Lib.tabIs_of_head (rest := []) gTab gTabType Tryz.underlying224 Tryz.underlying5 cellsU8 cellsTab h1
theorem tabW {W : World} (h : laidMetH Tryz.prog Rows.machJumpsRow.laid W) : Tab W :=
  tab_of (fun i hi => (table h).cell gTab i hi)
theorem tableB {W : World} (h : laidMetH Tryz.prog Rows.machJumpsRow.laid W) : Lib.TabIs Tryz.prog W "math/bits.deBruijn32tab" .u8 [0, 1, 28, 2, 29, 14, 24, 3, 30, 22, 20, 15, 25, 17, 4, 8, 31, 27, 13, 23, 21, 19, 16, 7, 26, 12, 18, 6, 11, 5, 10, 9] := by
  have h1 := h.filter (fun e => e.1 == "math/bits.deBruijn32tab")
  rw [keepB] at h1
  exact Lib.tabIs_of_head (rest := []) gBru gBruType Tryz.underlying217 Tryz.underlying5 cellsU8 cellsBru h1
theorem bruW {W : World} (h : laidMetH Tryz.prog Rows.machJumpsRow.laid W) : Bru W :=
  bru_of (fun i hi => (tableB h).cell gBru i hi)
set_option maxRecDepth 100000 in
theorem contract (H : Type) (enc : TypeId × Value → H) (W : World) (base : Nat) (args : Array Value) (ds gs : List (DataW H)) (before : List MemPlace)
    (hval0 : ∀ (j : Nat) t v, Tryz.f3.params[j]? = some t → args[j]? = some v → Value.okWide Tryz.prog W .any base t v)
    (hW : DataW.Whole enc Tryz.prog Tryz.f3.params.toList Rows.machJumpsSpec.vars false W args.toList ds gs before) (hL : laidMetH Tryz.prog Rows.machJumpsRow.laid W) :
    Calls Tryz.prog 3 args W fun e W' => ∃ v, e = .returned v ∧ Rows.machJumpsSpec.post enc Tryz.prog Tryz.f3 false true false false W args v W' := by
  have hval : ∀ (j : Nat) t v, Tryz.f3.params[j]? = some t → args[j]? = some v → Value.okWide Tryz.prog W .any base t v := hval0
  have ht := tabW hL
  have hbr := bruW hL
  have hW' := hW
  obtain ⟨p, q, hA0, hV, rfl, hfz, hnd⟩ := hW
  have hA : DataW.TrodAll enc Tryz.prog W 0 (fun _ => true) true Tryz.f3.params.toList args.toList ds p := hA0
  rw [Tryz.params3] at hA hval
  obtain ⟨v0, vs0, d0, ds0, p0, q0, hargs, rfl, rfl, h0, r0⟩ := trodAll_cons hA
  obtain ⟨v1, vs1, d1, ds1, p1, q1, rfl, rfl, rfl, h1, r1⟩ := trodAll_cons r0
  obtain ⟨v2, vs2, d2, ds2, p2, q2, rfl, rfl, rfl, h2, r2⟩ := trodAll_cons r1
  obtain ⟨rfl, rfl, rfl⟩ := trodAll_nil r2
  obtain rfl : args = #[v0, v1, v2] := by cases args; simp_all
  obtain ⟨rfl, rfl⟩ := trodVars_none hV
  obtain ⟨a0, rfl, rfl, rfl, w0⟩ := open_int Tryz.underlying5 (hval 0 5 v0 rfl rfl) h0
  have bd0 := bounds_u8 w0
  obtain ⟨a1, rfl, rfl, rfl, w1⟩ := open_int Tryz.underlying22 (hval 1 22 v1 rfl rfl) h1
  have bd1 := bounds_u32 w1
  obtain ⟨a2, rfl, rfl, rfl, w2⟩ := open_int Tryz.underlying22 (hval 2 22 v2 rfl rfl) h2
  have bd2 := bounds_u32 w2
  clear hA0 hval0
  refine (walk_MachJumps a0 (by omega) a1 (by omega) a2 (by omega) W ht hbr).mono fun e W' ⟨he, bel⟩ => ?_
  subst he
  exact ⟨_, rfl, _, _, _, [], _, [], hW', trodAll_mk1 (shut_bool Tryz.underlying4 _), (trodAll_cons_mk (shut_int Tryz.underlying5 w0) (trodAll_cons_mk (shut_int Tryz.underlying22 w1) (trodAll_cons_mk (shut_int Tryz.underlying22 w2) trodAll_mk0))), rfl, bel.frame _, fun h => by cases h⟩
def lay0 : Obj → Obj
  | .cells _ t frozen => .cells #[.int .u8 0, .int .u8 1, .int .u8 28, .int .u8 2, .int .u8 29, .int .u8 14, .int .u8 24, .int .u8 3, .int .u8 30, .int .u8 22, .int .u8 20, .int .u8 15, .int .u8 25, .int .u8 17, .int .u8 4, .int .u8 8, .int .u8 31, .int .u8 27, .int .u8 13, .int .u8 23, .int .u8 21, .int .u8 19, .int .u8 16, .int .u8 7, .int .u8 26, .int .u8 12, .int .u8 18, .int .u8 6, .int .u8 11, .int .u8 5, .int .u8 10, .int .u8 9] t frozen
  | o => o
def lay1 : Obj → Obj
  | .cells _ t frozen => .cells #[.int .u8 128, .int .u8 7, .int .u8 7, .int .u8 7, .int .u8 7, .int .u8 7, .int .u8 7, .int .u8 7, .int .u8 7, .int .u8 7, .int .u8 7, .int .u8 7, .int .u8 7, .int .u8 7, .int .u8 7, .int .u8 25, .int .u8 6, .int .u8 25, .int .u8 24, .int .u8 7, .int .u8 7, .int .u8 7, .int .u8 7, .int .u8 7, .int .u8 7, .int .u8 7, .int .u8 1, .int .u8 6, .int .u8 1, .int .u8 6, .int .u8 9, .int .u8 10, .int .u8 0, .int .u8 8, .int .u8 1, .int .u8 2, .int .u8 2, .int .u8 8] t frozen
  | o => o
/-- A world for the witness: the settled one, the two tables holding what their initialisers lay. -/
noncomputable def laidWorld (os : Os) : World :=
  { World.holding Tryz.prog os ⟨#[], #[], []⟩ with heap := (((World.holding Tryz.prog os ⟨#[], #[], []⟩).heap.modify 0 lay0).modify 1 lay1) }
theorem laid_met (os : Os) : laidMet Tryz.prog Rows.machJumpsRow.laid ((laidWorld os).forCall (fun _ _ => 0) ⟨#[], #[.int .u8 0, .int .u32 0, .int .u32 0], []⟩).memory :=
  laidMet_of_run' 8 (by kernel_rfl) (by kernel_rfl)
theorem reads (os : Os) {H : Type} (enc : TypeId × Value → H) : ∃ places, DataW.whole enc Tryz.prog ((laidWorld os).forCall (fun _ _ => 0) ⟨#[], #[.int .u8 0, .int .u32 0, .int .u32 0], []⟩).memory Tryz.f3.params.toList Rows.machJumpsSpec.vars false (#[.int .u8 0, .int .u32 0, .int .u32 0] : Array Value).toList 8 = some ([.lit (.int .u8 0), .lit (.int .u32 0), .lit (.int .u32 0)], [], places) :=
  ⟨[], by kernel_rfl⟩
set_option maxRecDepth 100000 in
theorem lifted (os : Os) (started : os.Started) (H : Type) (enc : TypeId × Value → H) (F : Stop.Interp) :
    ReturnsInHanded {} Tryz.checked os 3 .any ((OpenSpec.ofChange Rows.machJumpsSpec).preRow enc Tryz.prog Tryz.f3 Rows.machJumpsRow.domain false Rows.machJumpsRow.laid) (((OpenSpec.ofChange Rows.machJumpsSpec).at F).post enc Tryz.prog Tryz.f3 false true false false) := by
  obtain ⟨places, hx⟩ := reads os enc
  refine returnsInHanded_of_row (C := Tryz.checked) (s := OpenSpec.ofChange Rows.machJumpsSpec) own started (by kernel_rfl) Tryz.func3
    (witness_row_at (enc := enc) (C := Tryz.checked) false (laidWorld os) #[.int .u8 0, .int .u32 0, .int .u32 0] rfl (by kernel_rfl) (by kernel_rfl) (by kernel_rfl)
      (OpenSpec.preRow_of_cond 8 hx (by kernel_rfl) (fun k hk => by cases hk) (by kernel_rfl) (laid_met os))) ?_
  intro W base args ds gs before hval hW _ _ _ hL _ _
  exact contract H enc W base args ds gs before hval hW hL
theorem said : Rows.MachJumpsSaid :=
  OpenClaim.holds_of_cond 3 Tryz.f3 rfl rfl rfl rfl rfl rfl rfl ⟨rfl, rfl, rfl, rfl, rfl⟩ rfl rfl rfl rfl rfl (by kernel_rfl) Tryz.func3 (by kernel_rfl)
    (of_decide_eq_true (by kernel_rfl)) (by unfold Func.isWrapper; first | (rw [if_pos (by decide +kernel)]; kernel_rfl) | (rw [if_neg (by decide +kernel)]; exact ⟨rfl, rfl⟩))
    (fun os started H enc _ F => by rw [OpenClaim.pre_eq_preRow]; exact lifted os started H enc F)
theorem plain (f : FuncId) (fn : Func) (hf : Tryz.pinned.checked.prog.funcNamed "muntin/muntinlaw06.MachJumps" = some f) (hfn : Tryz.pinned.checked.prog.funcs[f]? = some fn) :
    false = Tryz.pinned.checked.prog.looks [] ∧ ∀ (j : Nat) t, fn.params[j]? = some t → Tryz.pinned.checked.prog.wantsStandIn t = false := by
  obtain rfl : f = 3 := Option.some.inj ((show Tryz.prog.funcNamed "muntin/muntinlaw06.MachJumps" = some 3 by kernel_rfl).symm.trans hf) |>.symm
  obtain rfl : fn = Tryz.f3 := (Option.some.inj (Tryz.func3.symm.trans hfn)).symm
  refine ⟨by kernel_rfl, fun j t ht => ?_⟩
  have hall : (Tryz.f3.params.toList.all fun u => !Tryz.prog.wantsStandIn u) = true := by kernel_rfl
  have hm : t ∈ Tryz.f3.params.toList := by simpa using Array.mem_of_getElem? ht
  exact (show Tryz.prog.wantsStandIn t = false by simpa using List.all_eq_true.1 hall t hm)
/-- The statement. -/
theorem proved : Rows.MachJumpsCardSaid :=
  Claim7.holds_tied_plain_at .later [] _ _ _ _ said (fun _ h => by cases h) (by kernel_rfl) (fun _ h => by cases h) machJumps_row_tie rfl ⟨rfl, rfl⟩ (by kernel_rfl) rfl plain (by kernel_rfl)
end Go.Proofs.YtacfdddghdnboaaGreatDoor.machJumpsP
