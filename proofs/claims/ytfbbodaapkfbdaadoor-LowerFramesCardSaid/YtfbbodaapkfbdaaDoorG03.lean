/- Several texts in one: InstWalks, InstMay, InstEnc, InstRKind, InstRMayNo, InstRMayA, InstRMayB, InstRMayC, InstREnc. -/
import Derived.Test.YtfbbodaapkfbdaaDoorG02
import Derived.Test.YtfbbodaapkfbdaaDoorProg
import Derived.WalkSpells
import Derived.WalkLawsBesides
import Derived.RegionTactic
import Derived.Outline
import Derived.BigRegion
import Derived.ChangeAlike
import Derived.Deep.QuietTactic
import Derived.BigQuiet
import Derived.StillTailTactics
/- Walks of the package inst: has, bounds, may, Encode. -/
namespace Go.Proofs.YtfbbodaapkfbdaaDoor
open Go.RowKit
set_option linter.unusedVariables false
theorem ihid {p : Prop} (h : p) : Hid p := h
theorem iret {k : IntKind} {a b : Int} (h : a = b) : Ending.returned (.int k a) = .returned (.int k b) := by rw [h]
theorem iret2 {k l : IntKind} {a b c d : Int} (h : a = b) (g : c = d) : Ending.returned (.tuple #[.int k a, .int l c]) = .returned (.tuple #[.int k b, .int l d]) := by rw [h, g]
theorem iretb {a b : Bool} (h : a = b) : Ending.returned (.bool a) = .returned (.bool b) := by rw [h]
/-- The table of what operations have. -/
def Tab (w : World) : Prop := ∀ i : Nat, i < 38 → w.cell? ⟨0, i, none⟩ = some (.int .u8 (hasK (kindS i)))
theorem Tab.keep {w w' : World} (h : Tab w) (hb : Below w.heap.size w w') : Tab w' := fun i hi => by
  have h1 := h i hi
  exact (hb.cell (p := ⟨0, i, none⟩) (World.block_lt_of_cell? _ _ h1)).trans h1
set_option maxRecDepth 100000 in
theorem ihas_any (op h : Int) (h0 : 0 ≤ op) (h1 : op < 256) (hv : hasK (kindS op) = h) (w : World) (ht : Tab w) : Calls Tryd.prog 85 #[.int .u8 op] w fun e w' => e = .returned (.int .u8 h) ∧ w = w' := by
  obtain ⟨n, rfl⟩ := Int.eq_ofNat_of_zero_le h0
  by_cases hn : n < 38
  · have hc := ht n hn
    rw [hv] at hc
    have hn2 : (n : Int) < 38 := by omega
    clear ht hv
    go_enter Tryd.func85, Tryd.ntmps85
    go_wp2
    go_ret
    exact ⟨rfl, rfl⟩
  · have hn2 : (38 : Int) ≤ n := by omega
    have E := ihid (show h = 128 by rw [← hv, kind_no (by omega)]; rfl)
    clear ht hv hn
    go_enter Tryd.func85, Tryd.ntmps85
    go_wp2
    go_ret
    exact ⟨iret E.out.symm, rfl⟩
def lowS (op : Int) : Int := if op = 15 then 0 else if op = 17 ∨ op = 18 then -1048576 else if op = 30 ∨ op = 31 then 0 else if op = 33 then 3 else if op = 37 then 1 else -16384
def highS (op : Int) : Int := if op = 15 then 2097151 else if op = 17 ∨ op = 18 then 1048575 else if op = 30 ∨ op = 31 then 1 else if op = 33 then 4 else if op = 37 then 3 else 16383
set_option maxHeartbeats 400000 in
theorem bounds_any (op lo hi : Int) (hl : lowS op = lo) (hh : highS op = hi) (w : World) : Calls Tryd.prog 92 #[.int .u8 op] w fun e w' => e = .returned (.tuple #[.int .i32 lo, .int .i32 hi]) ∧ w = w' := by
  subst hl hh
  by_cases h : op = 15 ∨ op = 17 ∨ op = 18 ∨ op = 30 ∨ op = 31 ∨ op = 33 ∨ op = 37
  · rcases h with rfl | rfl | rfl | rfl | rfl | rfl | rfl
    all_goals
      go_enter Tryd.func92, Tryd.ntmps92
      go_wp2
      go_ret2
      exact ⟨rfl, rfl⟩
  · have e1 : (op == 15) = false := by simp; omega
    have e2 : (op == 17) = false := by simp; omega
    have e3 : (op == 18) = false := by simp; omega
    have e4 : (op == 30) = false := by simp; omega
    have e5 : (op == 31) = false := by simp; omega
    have e6 : (op == 33) = false := by simp; omega
    have e7 : (op == 37) = false := by simp; omega
    have E := ihid (show lowS op = -16384 ∧ highS op = 16383 from ⟨by unfold lowS; repeat (rw [if_neg (by omega)]), by unfold highS; repeat (rw [if_neg (by omega)])⟩)
    clear h
    go_enter Tryd.func92, Tryd.ntmps92
    go_wp2
    go_ret2
    exact ⟨iret2 E.out.1.symm E.out.2.symm, rfl⟩
theorem low_of {op : Int} (h : kindS op = 1 ∨ kindS op = 2 ∨ kindS op = 6 ∨ kindS op = 10 ∨ kindS op = 12) : (op ≠ 15 ∧ op ≠ 17 ∧ op ≠ 18 ∧ op ≠ 30 ∧ op ≠ 31 ∧ op ≠ 33 ∧ op ≠ 37) ∧ lowS op = -16384 ∧ highS op = 16383 := by
  have hn : op ≠ 15 ∧ op ≠ 17 ∧ op ≠ 18 ∧ op ≠ 30 ∧ op ≠ 31 ∧ op ≠ 33 ∧ op ≠ 37 := by
    refine ⟨?_, ?_, ?_, ?_, ?_, ?_, ?_⟩ <;> (intro e; subst e; simp [kindS] at h)
  exact ⟨hn, by unfold lowS; repeat (rw [if_neg (by omega)]), by unfold highS; repeat (rw [if_neg (by omega)])⟩
theorem may_below (w : World) (a b : Obj) : Below w.heap.size w ((w.alloc a).alloc b) := ((Below.refl _ _).alloc (Nat.le_refl _) _).alloc (by simp) _
theorem may_below2 (w : World) (a b : Obj) : Below w.heap.size w ((w.alloc a).alloc b).drew := (may_below w a b).drew
end Go.Proofs.YtfbbodaapkfbdaaDoor
/- Walks of inst.may: which instructions may be. -/
namespace Go.Proofs.YtfbbodaapkfbdaaDoor
open Go.RowKit
set_option linter.unusedVariables false
set_option linter.unusedSimpArgs false
theorem may_eq {k : Int} {x : Ix} (h : kindS x.op = k) : mayB x = decide (x.rd ≤ 31 ∧ x.rs1 ≤ 31 ∧ x.rs2 ≤ 31 ∧ okS k x = true) := by unfold mayB; exact decide_eq_decide.2 (by unfold mayP; rw [h])
set_option maxRecDepth 100000 in
set_option maxHeartbeats 1000000 in
theorem may_1t (op rd rs1 rs2 imm : Int) (hb : (⟨op, rd, rs1, rs2, true, imm⟩ : Ix).bd) (hk : kindS op = 1) (h1 : rd ≤ 31) (h2 : rs1 ≤ 31) (h3 : rs2 ≤ 31) (w : World) (ht : Tab w) :
    Calls Tryd.prog 84 #[(⟨op, rd, rs1, rs2, true, imm⟩ : Ix).agg] w fun e w' => e = .returned (.bool (mayB (⟨op, rd, rs1, rs2, true, imm⟩ : Ix))) ∧ Below w.heap.size w w' := by
  obtain ⟨b0, b1, b2, b3, b4⟩ := hb
  simp only at b0 b1 b2 b3 b4
  have HT := ihid ht
  obtain ⟨hop, hlo, hhi⟩ := low_of (op := op) (by simp [hk])
  have e17 : (op == 17) = false := by simpa using hop.2.1
  have E1 := ihid (show hasK (kindS op) = 7 by rw [hk]; rfl)
  have HK := ihid (show kindS op = 1 from hk)
  have HB := ihid (And.intro hlo hhi)
  clear ht hk hop hlo hhi
  have g1 : decide (31 < rd) = false := by simp; omega
  have g2 : decide (31 < rs1) = false := by simp; omega
  have g3 : decide (31 < rs2) = false := by simp; omega
  have q1 : bits .and .u8 7 1 = 1 := by decide
  have q2 : bits .and .u8 7 2 = 2 := by decide
  have q4 : bits .and .u8 7 4 = 4 := by decide
  have q8 : bits .and .u8 7 8 = 0 := by decide
  go_enter Tryd.func84, Tryd.ntmps84
  go_wp2_with fail
  refine (ihas_any op 7 b0.1 b0.2 E1.out _ (HT.out.keep ((Below.refl _ w).alloc (Nat.le_refl _) _))).mono ?_
  rintro e w' ⟨rfl, rfl⟩
  go_wp2_with fail
  go_region
  go_wp2_with fail
  refine (bounds_any op _ _ HB.out.1 HB.out.2 _).mono ?_
  rintro e w' ⟨rfl, rfl⟩
  go_wp2_with fail
  all_goals
    go_ret
    refine ⟨iretb ((may_eq HK.out).trans ?_).symm, by first | exact may_below w _ _ | exact may_below2 w _ _⟩
    rw [Bool.eq_iff_iff]
    first | (simp [okS]; done) | (simp [okS]; omega)
set_option maxRecDepth 100000 in
set_option maxHeartbeats 1000000 in
theorem may_1f (op rd rs1 rs2 imm : Int) (hb : (⟨op, rd, rs1, rs2, false, imm⟩ : Ix).bd) (hk : kindS op = 1) (h1 : rd ≤ 31) (h2 : rs1 ≤ 31) (h3 : rs2 ≤ 31) (w : World) (ht : Tab w) :
    Calls Tryd.prog 84 #[(⟨op, rd, rs1, rs2, false, imm⟩ : Ix).agg] w fun e w' => e = .returned (.bool (mayB (⟨op, rd, rs1, rs2, false, imm⟩ : Ix))) ∧ Below w.heap.size w w' := by
  obtain ⟨b0, b1, b2, b3, b4⟩ := hb
  simp only at b0 b1 b2 b3 b4
  have HT := ihid ht
  obtain ⟨hop, hlo, hhi⟩ := low_of (op := op) (by simp [hk])
  have e17 : (op == 17) = false := by simpa using hop.2.1
  have E1 := ihid (show hasK (kindS op) = 7 by rw [hk]; rfl)
  have HK := ihid (show kindS op = 1 from hk)
  have HB := ihid (And.intro hlo hhi)
  clear ht hk hop hlo hhi
  have g1 : decide (31 < rd) = false := by simp; omega
  have g2 : decide (31 < rs1) = false := by simp; omega
  have g3 : decide (31 < rs2) = false := by simp; omega
  have q1 : bits .and .u8 7 1 = 1 := by decide
  have q2 : bits .and .u8 7 2 = 2 := by decide
  have q4 : bits .and .u8 7 4 = 4 := by decide
  have q8 : bits .and .u8 7 8 = 0 := by decide
  go_enter Tryd.func84, Tryd.ntmps84
  go_wp2_with fail
  refine (ihas_any op 7 b0.1 b0.2 E1.out _ (HT.out.keep ((Below.refl _ w).alloc (Nat.le_refl _) _))).mono ?_
  rintro e w' ⟨rfl, rfl⟩
  go_wp2_with fail
  refine (bounds_any op _ _ HB.out.1 HB.out.2 _).mono ?_
  rintro e w' ⟨rfl, rfl⟩
  go_wp2_with fail
  all_goals
    go_ret
    refine ⟨iretb ((may_eq HK.out).trans ?_).symm, by first | exact may_below w _ _ | exact may_below2 w _ _⟩
    rw [Bool.eq_iff_iff]
    first | (simp [okS]; done) | (simp [okS]; omega)
set_option maxRecDepth 100000 in
set_option maxHeartbeats 1000000 in
theorem may_2t (op rd rs1 rs2 imm : Int) (hb : (⟨op, rd, rs1, rs2, true, imm⟩ : Ix).bd) (hk : kindS op = 2) (h1 : rd ≤ 31) (h2 : rs1 ≤ 31) (h3 : rs2 ≤ 31) (w : World) (ht : Tab w) :
    Calls Tryd.prog 84 #[(⟨op, rd, rs1, rs2, true, imm⟩ : Ix).agg] w fun e w' => e = .returned (.bool (mayB (⟨op, rd, rs1, rs2, true, imm⟩ : Ix))) ∧ Below w.heap.size w w' := by
  obtain ⟨b0, b1, b2, b3, b4⟩ := hb
  simp only at b0 b1 b2 b3 b4
  have HT := ihid ht
  obtain ⟨hop, hlo, hhi⟩ := low_of (op := op) (by simp [hk])
  have e17 : (op == 17) = false := by simpa using hop.2.1
  have E1 := ihid (show hasK (kindS op) = 6 by rw [hk]; rfl)
  have HK := ihid (show kindS op = 2 from hk)
  have HB := ihid (And.intro hlo hhi)
  clear ht hk hop hlo hhi
  have g1 : decide (31 < rd) = false := by simp; omega
  have g2 : decide (31 < rs1) = false := by simp; omega
  have g3 : decide (31 < rs2) = false := by simp; omega
  have q1 : bits .and .u8 6 1 = 0 := by decide
  have q2 : bits .and .u8 6 2 = 2 := by decide
  have q4 : bits .and .u8 6 4 = 4 := by decide
  have q8 : bits .and .u8 6 8 = 0 := by decide
  go_enter Tryd.func84, Tryd.ntmps84
  go_wp2_with fail
  refine (ihas_any op 6 b0.1 b0.2 E1.out _ (HT.out.keep ((Below.refl _ w).alloc (Nat.le_refl _) _))).mono ?_
  rintro e w' ⟨rfl, rfl⟩
  go_wp2_with fail
  go_region
  go_wp2_with fail
  refine (bounds_any op _ _ HB.out.1 HB.out.2 _).mono ?_
  rintro e w' ⟨rfl, rfl⟩
  go_wp2_with fail
  all_goals
    go_ret
    refine ⟨iretb ((may_eq HK.out).trans ?_).symm, by first | exact may_below w _ _ | exact may_below2 w _ _⟩
    rw [Bool.eq_iff_iff]
    first | (simp [okS]; done) | (simp [okS]; omega)
set_option maxRecDepth 100000 in
set_option maxHeartbeats 1000000 in
theorem may_2f (op rd rs1 rs2 imm : Int) (hb : (⟨op, rd, rs1, rs2, false, imm⟩ : Ix).bd) (hk : kindS op = 2) (h1 : rd ≤ 31) (h2 : rs1 ≤ 31) (h3 : rs2 ≤ 31) (w : World) (ht : Tab w) :
    Calls Tryd.prog 84 #[(⟨op, rd, rs1, rs2, false, imm⟩ : Ix).agg] w fun e w' => e = .returned (.bool (mayB (⟨op, rd, rs1, rs2, false, imm⟩ : Ix))) ∧ Below w.heap.size w w' := by
  obtain ⟨b0, b1, b2, b3, b4⟩ := hb
  simp only at b0 b1 b2 b3 b4
  have HT := ihid ht
  obtain ⟨hop, hlo, hhi⟩ := low_of (op := op) (by simp [hk])
  have e17 : (op == 17) = false := by simpa using hop.2.1
  have E1 := ihid (show hasK (kindS op) = 6 by rw [hk]; rfl)
  have HK := ihid (show kindS op = 2 from hk)
  have HB := ihid (And.intro hlo hhi)
  clear ht hk hop hlo hhi
  have g1 : decide (31 < rd) = false := by simp; omega
  have g2 : decide (31 < rs1) = false := by simp; omega
  have g3 : decide (31 < rs2) = false := by simp; omega
  have q1 : bits .and .u8 6 1 = 0 := by decide
  have q2 : bits .and .u8 6 2 = 2 := by decide
  have q4 : bits .and .u8 6 4 = 4 := by decide
  have q8 : bits .and .u8 6 8 = 0 := by decide
  go_enter Tryd.func84, Tryd.ntmps84
  go_wp2_with fail
  refine (ihas_any op 6 b0.1 b0.2 E1.out _ (HT.out.keep ((Below.refl _ w).alloc (Nat.le_refl _) _))).mono ?_
  rintro e w' ⟨rfl, rfl⟩
  go_wp2_with fail
  refine (bounds_any op _ _ HB.out.1 HB.out.2 _).mono ?_
  rintro e w' ⟨rfl, rfl⟩
  go_wp2_with fail
  all_goals
    go_ret
    refine ⟨iretb ((may_eq HK.out).trans ?_).symm, by first | exact may_below w _ _ | exact may_below2 w _ _⟩
    rw [Bool.eq_iff_iff]
    first | (simp [okS]; done) | (simp [okS]; omega)
set_option maxRecDepth 100000 in
set_option maxHeartbeats 1000000 in
theorem may_3t (rd rs1 rs2 imm : Int) (hb : (⟨15, rd, rs1, rs2, true, imm⟩ : Ix).bd) (h1 : rd ≤ 31) (h2 : rs1 ≤ 31) (h3 : rs2 ≤ 31) (w : World) (ht : Tab w) :
    Calls Tryd.prog 84 #[(⟨15, rd, rs1, rs2, true, imm⟩ : Ix).agg] w fun e w' => e = .returned (.bool (mayB (⟨15, rd, rs1, rs2, true, imm⟩ : Ix))) ∧ Below w.heap.size w w' := by
  obtain ⟨b0, b1, b2, b3, b4⟩ := hb
  simp only at b0 b1 b2 b3 b4
  have HT := ihid ht
  have E1 := ihid (show hasK (kindS 15) = 25 from by decide)
  have HB := ihid (show lowS 15 = 0 ∧ highS 15 = 2097151 from by decide)
  have HK := ihid (show kindS 15 = 3 from by decide)
  clear ht
  have g1 : decide (31 < rd) = false := by simp; omega
  have g2 : decide (31 < rs1) = false := by simp; omega
  have g3 : decide (31 < rs2) = false := by simp; omega
  have q1 : bits .and .u8 25 1 = 1 := by decide
  have q2 : bits .and .u8 25 2 = 0 := by decide
  have q4 : bits .and .u8 25 4 = 0 := by decide
  have q8 : bits .and .u8 25 8 = 8 := by decide
  go_enter Tryd.func84, Tryd.ntmps84
  go_wp2_with fail
  refine (ihas_any 15 25 (by omega) (by omega) E1.out _ (HT.out.keep ((Below.refl _ w).alloc (Nat.le_refl _) _))).mono ?_
  rintro e w' ⟨rfl, rfl⟩
  go_wp2_with fail
  go_region
  go_wp2_with fail
  refine (bounds_any 15 _ _ HB.out.1 HB.out.2 _).mono ?_
  rintro e w' ⟨rfl, rfl⟩
  go_wp2_with fail
  all_goals
    go_ret
    refine ⟨iretb ((may_eq HK.out).trans ?_).symm, by first | exact may_below w _ _ | exact may_below2 w _ _⟩
    rw [Bool.eq_iff_iff]
    first | (simp [okS]; done) | (simp [okS]; omega)
set_option maxRecDepth 100000 in
set_option maxHeartbeats 1000000 in
theorem may_3f (rd rs1 rs2 imm : Int) (hb : (⟨15, rd, rs1, rs2, false, imm⟩ : Ix).bd) (h1 : rd ≤ 31) (h2 : rs1 ≤ 31) (h3 : rs2 ≤ 31) (w : World) (ht : Tab w) :
    Calls Tryd.prog 84 #[(⟨15, rd, rs1, rs2, false, imm⟩ : Ix).agg] w fun e w' => e = .returned (.bool (mayB (⟨15, rd, rs1, rs2, false, imm⟩ : Ix))) ∧ Below w.heap.size w w' := by
  obtain ⟨b0, b1, b2, b3, b4⟩ := hb
  simp only at b0 b1 b2 b3 b4
  have HT := ihid ht
  have E1 := ihid (show hasK (kindS 15) = 25 from by decide)
  have HB := ihid (show lowS 15 = 0 ∧ highS 15 = 2097151 from by decide)
  have HK := ihid (show kindS 15 = 3 from by decide)
  clear ht
  have g1 : decide (31 < rd) = false := by simp; omega
  have g2 : decide (31 < rs1) = false := by simp; omega
  have g3 : decide (31 < rs2) = false := by simp; omega
  have q1 : bits .and .u8 25 1 = 1 := by decide
  have q2 : bits .and .u8 25 2 = 0 := by decide
  have q4 : bits .and .u8 25 4 = 0 := by decide
  have q8 : bits .and .u8 25 8 = 8 := by decide
  go_enter Tryd.func84, Tryd.ntmps84
  go_wp2_with fail
  refine (ihas_any 15 25 (by omega) (by omega) E1.out _ (HT.out.keep ((Below.refl _ w).alloc (Nat.le_refl _) _))).mono ?_
  rintro e w' ⟨rfl, rfl⟩
  go_wp2_with fail
  go_region
  go_wp2_with fail
  refine (bounds_any 15 _ _ HB.out.1 HB.out.2 _).mono ?_
  rintro e w' ⟨rfl, rfl⟩
  go_wp2_with fail
  all_goals
    go_ret
    refine ⟨iretb ((may_eq HK.out).trans ?_).symm, by first | exact may_below w _ _ | exact may_below2 w _ _⟩
    rw [Bool.eq_iff_iff]
    first | (simp [okS]; done) | (simp [okS]; omega)
set_option maxRecDepth 100000 in
set_option maxHeartbeats 1000000 in
theorem may_4t (rd rs1 rs2 imm : Int) (hb : (⟨17, rd, rs1, rs2, true, imm⟩ : Ix).bd) (h1 : rd ≤ 31) (h2 : rs1 ≤ 31) (h3 : rs2 ≤ 31) (h6 : rd ≤ 6) (w : World) (ht : Tab w) :
    Calls Tryd.prog 84 #[(⟨17, rd, rs1, rs2, true, imm⟩ : Ix).agg] w fun e w' => e = .returned (.bool (mayB (⟨17, rd, rs1, rs2, true, imm⟩ : Ix))) ∧ Below w.heap.size w w' := by
  obtain ⟨b0, b1, b2, b3, b4⟩ := hb
  simp only at b0 b1 b2 b3 b4
  have HT := ihid ht
  have E1 := ihid (show hasK (kindS 17) = 25 from by decide)
  have HB := ihid (show lowS 17 = -1048576 ∧ highS 17 = 1048575 from by decide)
  have HK := ihid (show kindS 17 = 4 from by decide)
  clear ht
  have g6 : decide (6 < rd) = false := by simp; omega
  have g1 : decide (31 < rd) = false := by simp; omega
  have g2 : decide (31 < rs1) = false := by simp; omega
  have g3 : decide (31 < rs2) = false := by simp; omega
  have q1 : bits .and .u8 25 1 = 1 := by decide
  have q2 : bits .and .u8 25 2 = 0 := by decide
  have q4 : bits .and .u8 25 4 = 0 := by decide
  have q8 : bits .and .u8 25 8 = 8 := by decide
  go_enter Tryd.func84, Tryd.ntmps84
  go_wp2_with fail
  refine (ihas_any 17 25 (by omega) (by omega) E1.out _ (HT.out.keep ((Below.refl _ w).alloc (Nat.le_refl _) _))).mono ?_
  rintro e w' ⟨rfl, rfl⟩
  go_wp2_with fail
  go_region
  go_wp2_with fail
  refine (bounds_any 17 _ _ HB.out.1 HB.out.2 _).mono ?_
  rintro e w' ⟨rfl, rfl⟩
  go_wp2_with fail
  all_goals
    go_ret
    refine ⟨iretb ((may_eq HK.out).trans ?_).symm, by first | exact may_below w _ _ | exact may_below2 w _ _⟩
    rw [Bool.eq_iff_iff]
    first | (simp [okS]; done) | (simp [okS]; omega)
set_option maxRecDepth 100000 in
set_option maxHeartbeats 1000000 in
theorem may_4f (rd rs1 rs2 imm : Int) (hb : (⟨17, rd, rs1, rs2, false, imm⟩ : Ix).bd) (h1 : rd ≤ 31) (h2 : rs1 ≤ 31) (h3 : rs2 ≤ 31) (h6 : rd ≤ 6) (w : World) (ht : Tab w) :
    Calls Tryd.prog 84 #[(⟨17, rd, rs1, rs2, false, imm⟩ : Ix).agg] w fun e w' => e = .returned (.bool (mayB (⟨17, rd, rs1, rs2, false, imm⟩ : Ix))) ∧ Below w.heap.size w w' := by
  obtain ⟨b0, b1, b2, b3, b4⟩ := hb
  simp only at b0 b1 b2 b3 b4
  have HT := ihid ht
  have E1 := ihid (show hasK (kindS 17) = 25 from by decide)
  have HB := ihid (show lowS 17 = -1048576 ∧ highS 17 = 1048575 from by decide)
  have HK := ihid (show kindS 17 = 4 from by decide)
  clear ht
  have g6 : decide (6 < rd) = false := by simp; omega
  have g1 : decide (31 < rd) = false := by simp; omega
  have g2 : decide (31 < rs1) = false := by simp; omega
  have g3 : decide (31 < rs2) = false := by simp; omega
  have q1 : bits .and .u8 25 1 = 1 := by decide
  have q2 : bits .and .u8 25 2 = 0 := by decide
  have q4 : bits .and .u8 25 4 = 0 := by decide
  have q8 : bits .and .u8 25 8 = 8 := by decide
  go_enter Tryd.func84, Tryd.ntmps84
  go_wp2_with fail
  refine (ihas_any 17 25 (by omega) (by omega) E1.out _ (HT.out.keep ((Below.refl _ w).alloc (Nat.le_refl _) _))).mono ?_
  rintro e w' ⟨rfl, rfl⟩
  go_wp2_with fail
  go_region
  go_wp2_with fail
  refine (bounds_any 17 _ _ HB.out.1 HB.out.2 _).mono ?_
  rintro e w' ⟨rfl, rfl⟩
  go_wp2_with fail
  all_goals
    go_ret
    refine ⟨iretb ((may_eq HK.out).trans ?_).symm, by first | exact may_below w _ _ | exact may_below2 w _ _⟩
    rw [Bool.eq_iff_iff]
    first | (simp [okS]; done) | (simp [okS]; omega)
set_option maxRecDepth 100000 in
set_option maxHeartbeats 1000000 in
theorem may_5t (rd rs1 rs2 imm : Int) (hb : (⟨18, rd, rs1, rs2, true, imm⟩ : Ix).bd) (h1 : rd ≤ 31) (h2 : rs1 ≤ 31) (h3 : rs2 ≤ 31) (w : World) (ht : Tab w) :
    Calls Tryd.prog 84 #[(⟨18, rd, rs1, rs2, true, imm⟩ : Ix).agg] w fun e w' => e = .returned (.bool (mayB (⟨18, rd, rs1, rs2, true, imm⟩ : Ix))) ∧ Below w.heap.size w w' := by
  obtain ⟨b0, b1, b2, b3, b4⟩ := hb
  simp only at b0 b1 b2 b3 b4
  have HT := ihid ht
  have E1 := ihid (show hasK (kindS 18) = 24 from by decide)
  have HB := ihid (show lowS 18 = -1048576 ∧ highS 18 = 1048575 from by decide)
  have HK := ihid (show kindS 18 = 5 from by decide)
  clear ht
  have g1 : decide (31 < rd) = false := by simp; omega
  have g2 : decide (31 < rs1) = false := by simp; omega
  have g3 : decide (31 < rs2) = false := by simp; omega
  have q1 : bits .and .u8 24 1 = 0 := by decide
  have q2 : bits .and .u8 24 2 = 0 := by decide
  have q4 : bits .and .u8 24 4 = 0 := by decide
  have q8 : bits .and .u8 24 8 = 8 := by decide
  go_enter Tryd.func84, Tryd.ntmps84
  go_wp2_with fail
  refine (ihas_any 18 24 (by omega) (by omega) E1.out _ (HT.out.keep ((Below.refl _ w).alloc (Nat.le_refl _) _))).mono ?_
  rintro e w' ⟨rfl, rfl⟩
  go_wp2_with fail
  go_region
  go_wp2_with fail
  refine (bounds_any 18 _ _ HB.out.1 HB.out.2 _).mono ?_
  rintro e w' ⟨rfl, rfl⟩
  go_wp2_with fail
  all_goals
    go_ret
    refine ⟨iretb ((may_eq HK.out).trans ?_).symm, by first | exact may_below w _ _ | exact may_below2 w _ _⟩
    rw [Bool.eq_iff_iff]
    first | (simp [okS]; done) | (simp [okS]; omega)
set_option maxRecDepth 100000 in
set_option maxHeartbeats 1000000 in
theorem may_5f (rd rs1 rs2 imm : Int) (hb : (⟨18, rd, rs1, rs2, false, imm⟩ : Ix).bd) (h1 : rd ≤ 31) (h2 : rs1 ≤ 31) (h3 : rs2 ≤ 31) (w : World) (ht : Tab w) :
    Calls Tryd.prog 84 #[(⟨18, rd, rs1, rs2, false, imm⟩ : Ix).agg] w fun e w' => e = .returned (.bool (mayB (⟨18, rd, rs1, rs2, false, imm⟩ : Ix))) ∧ Below w.heap.size w w' := by
  obtain ⟨b0, b1, b2, b3, b4⟩ := hb
  simp only at b0 b1 b2 b3 b4
  have HT := ihid ht
  have E1 := ihid (show hasK (kindS 18) = 24 from by decide)
  have HB := ihid (show lowS 18 = -1048576 ∧ highS 18 = 1048575 from by decide)
  have HK := ihid (show kindS 18 = 5 from by decide)
  clear ht
  have g1 : decide (31 < rd) = false := by simp; omega
  have g2 : decide (31 < rs1) = false := by simp; omega
  have g3 : decide (31 < rs2) = false := by simp; omega
  have q1 : bits .and .u8 24 1 = 0 := by decide
  have q2 : bits .and .u8 24 2 = 0 := by decide
  have q4 : bits .and .u8 24 4 = 0 := by decide
  have q8 : bits .and .u8 24 8 = 8 := by decide
  go_enter Tryd.func84, Tryd.ntmps84
  go_wp2_with fail
  refine (ihas_any 18 24 (by omega) (by omega) E1.out _ (HT.out.keep ((Below.refl _ w).alloc (Nat.le_refl _) _))).mono ?_
  rintro e w' ⟨rfl, rfl⟩
  go_wp2_with fail
  go_region
  go_wp2_with fail
  refine (bounds_any 18 _ _ HB.out.1 HB.out.2 _).mono ?_
  rintro e w' ⟨rfl, rfl⟩
  go_wp2_with fail
  all_goals
    go_ret
    refine ⟨iretb ((may_eq HK.out).trans ?_).symm, by first | exact may_below w _ _ | exact may_below2 w _ _⟩
    rw [Bool.eq_iff_iff]
    first | (simp [okS]; done) | (simp [okS]; omega)
set_option maxRecDepth 100000 in
set_option maxHeartbeats 1000000 in
theorem may_6t (op rd rs1 rs2 imm : Int) (hb : (⟨op, rd, rs1, rs2, true, imm⟩ : Ix).bd) (hk : kindS op = 6) (h1 : rd ≤ 31) (h2 : rs1 ≤ 31) (h3 : rs2 ≤ 31) (w : World) (ht : Tab w) :
    Calls Tryd.prog 84 #[(⟨op, rd, rs1, rs2, true, imm⟩ : Ix).agg] w fun e w' => e = .returned (.bool (mayB (⟨op, rd, rs1, rs2, true, imm⟩ : Ix))) ∧ Below w.heap.size w w' := by
  obtain ⟨b0, b1, b2, b3, b4⟩ := hb
  simp only at b0 b1 b2 b3 b4
  have HT := ihid ht
  obtain ⟨hop, hlo, hhi⟩ := low_of (op := op) (by simp [hk])
  have e17 : (op == 17) = false := by simpa using hop.2.1
  have E1 := ihid (show hasK (kindS op) = 1 by rw [hk]; rfl)
  have HK := ihid (show kindS op = 6 from hk)
  have HB := ihid (And.intro hlo hhi)
  clear ht hk hop hlo hhi
  have g1 : decide (31 < rd) = false := by simp; omega
  have g2 : decide (31 < rs1) = false := by simp; omega
  have g3 : decide (31 < rs2) = false := by simp; omega
  have q1 : bits .and .u8 1 1 = 1 := by decide
  have q2 : bits .and .u8 1 2 = 0 := by decide
  have q4 : bits .and .u8 1 4 = 0 := by decide
  have q8 : bits .and .u8 1 8 = 0 := by decide
  go_enter Tryd.func84, Tryd.ntmps84
  go_wp2_with fail
  refine (ihas_any op 1 b0.1 b0.2 E1.out _ (HT.out.keep ((Below.refl _ w).alloc (Nat.le_refl _) _))).mono ?_
  rintro e w' ⟨rfl, rfl⟩
  go_wp2_with fail
  refine (bounds_any op _ _ HB.out.1 HB.out.2 _).mono ?_
  rintro e w' ⟨rfl, rfl⟩
  go_wp2_with fail
  all_goals
    go_ret
    refine ⟨iretb ((may_eq HK.out).trans ?_).symm, by first | exact may_below w _ _ | exact may_below2 w _ _⟩
    rw [Bool.eq_iff_iff]
    first | (simp [okS]; done) | (simp [okS]; omega)
set_option maxRecDepth 100000 in
set_option maxHeartbeats 1000000 in
theorem may_6f (op rd rs1 rs2 imm : Int) (hb : (⟨op, rd, rs1, rs2, false, imm⟩ : Ix).bd) (hk : kindS op = 6) (h1 : rd ≤ 31) (h2 : rs1 ≤ 31) (h3 : rs2 ≤ 31) (w : World) (ht : Tab w) :
    Calls Tryd.prog 84 #[(⟨op, rd, rs1, rs2, false, imm⟩ : Ix).agg] w fun e w' => e = .returned (.bool (mayB (⟨op, rd, rs1, rs2, false, imm⟩ : Ix))) ∧ Below w.heap.size w w' := by
  obtain ⟨b0, b1, b2, b3, b4⟩ := hb
  simp only at b0 b1 b2 b3 b4
  have HT := ihid ht
  obtain ⟨hop, hlo, hhi⟩ := low_of (op := op) (by simp [hk])
  have e17 : (op == 17) = false := by simpa using hop.2.1
  have E1 := ihid (show hasK (kindS op) = 1 by rw [hk]; rfl)
  have HK := ihid (show kindS op = 6 from hk)
  have HB := ihid (And.intro hlo hhi)
  clear ht hk hop hlo hhi
  have g1 : decide (31 < rd) = false := by simp; omega
  have g2 : decide (31 < rs1) = false := by simp; omega
  have g3 : decide (31 < rs2) = false := by simp; omega
  have q1 : bits .and .u8 1 1 = 1 := by decide
  have q2 : bits .and .u8 1 2 = 0 := by decide
  have q4 : bits .and .u8 1 4 = 0 := by decide
  have q8 : bits .and .u8 1 8 = 0 := by decide
  go_enter Tryd.func84, Tryd.ntmps84
  go_wp2_with fail
  refine (ihas_any op 1 b0.1 b0.2 E1.out _ (HT.out.keep ((Below.refl _ w).alloc (Nat.le_refl _) _))).mono ?_
  rintro e w' ⟨rfl, rfl⟩
  go_wp2_with fail
  refine (bounds_any op _ _ HB.out.1 HB.out.2 _).mono ?_
  rintro e w' ⟨rfl, rfl⟩
  go_wp2_with fail
  all_goals
    go_ret
    refine ⟨iretb ((may_eq HK.out).trans ?_).symm, by first | exact may_below w _ _ | exact may_below2 w _ _⟩
    rw [Bool.eq_iff_iff]
    first | (simp [okS]; done) | (simp [okS]; omega)
set_option maxRecDepth 100000 in
set_option maxHeartbeats 1000000 in
theorem may_7t (rd rs1 rs2 imm : Int) (hb : (⟨30, rd, rs1, rs2, true, imm⟩ : Ix).bd) (h1 : rd ≤ 31) (h2 : rs1 ≤ 31) (h3 : rs2 ≤ 31) (w : World) (ht : Tab w) :
    Calls Tryd.prog 84 #[(⟨30, rd, rs1, rs2, true, imm⟩ : Ix).agg] w fun e w' => e = .returned (.bool (mayB (⟨30, rd, rs1, rs2, true, imm⟩ : Ix))) ∧ Below w.heap.size w w' := by
  obtain ⟨b0, b1, b2, b3, b4⟩ := hb
  simp only at b0 b1 b2 b3 b4
  have HT := ihid ht
  have E1 := ihid (show hasK (kindS 30) = 9 from by decide)
  have HB := ihid (show lowS 30 = 0 ∧ highS 30 = 1 from by decide)
  have HK := ihid (show kindS 30 = 7 from by decide)
  clear ht
  have g1 : decide (31 < rd) = false := by simp; omega
  have g2 : decide (31 < rs1) = false := by simp; omega
  have g3 : decide (31 < rs2) = false := by simp; omega
  have q1 : bits .and .u8 9 1 = 1 := by decide
  have q2 : bits .and .u8 9 2 = 0 := by decide
  have q4 : bits .and .u8 9 4 = 0 := by decide
  have q8 : bits .and .u8 9 8 = 8 := by decide
  go_enter Tryd.func84, Tryd.ntmps84
  go_wp2_with fail
  refine (ihas_any 30 9 (by omega) (by omega) E1.out _ (HT.out.keep ((Below.refl _ w).alloc (Nat.le_refl _) _))).mono ?_
  rintro e w' ⟨rfl, rfl⟩
  go_wp2_with fail
  go_region
  go_wp2_with fail
  refine (bounds_any 30 _ _ HB.out.1 HB.out.2 _).mono ?_
  rintro e w' ⟨rfl, rfl⟩
  go_wp2_with fail
  all_goals
    go_ret
    refine ⟨iretb ((may_eq HK.out).trans ?_).symm, by first | exact may_below w _ _ | exact may_below2 w _ _⟩
    rw [Bool.eq_iff_iff]
    first | (simp [okS]; done) | (simp [okS]; omega)
set_option maxRecDepth 100000 in
set_option maxHeartbeats 1000000 in
theorem may_7f (rd rs1 rs2 imm : Int) (hb : (⟨30, rd, rs1, rs2, false, imm⟩ : Ix).bd) (h1 : rd ≤ 31) (h2 : rs1 ≤ 31) (h3 : rs2 ≤ 31) (w : World) (ht : Tab w) :
    Calls Tryd.prog 84 #[(⟨30, rd, rs1, rs2, false, imm⟩ : Ix).agg] w fun e w' => e = .returned (.bool (mayB (⟨30, rd, rs1, rs2, false, imm⟩ : Ix))) ∧ Below w.heap.size w w' := by
  obtain ⟨b0, b1, b2, b3, b4⟩ := hb
  simp only at b0 b1 b2 b3 b4
  have HT := ihid ht
  have E1 := ihid (show hasK (kindS 30) = 9 from by decide)
  have HB := ihid (show lowS 30 = 0 ∧ highS 30 = 1 from by decide)
  have HK := ihid (show kindS 30 = 7 from by decide)
  clear ht
  have g1 : decide (31 < rd) = false := by simp; omega
  have g2 : decide (31 < rs1) = false := by simp; omega
  have g3 : decide (31 < rs2) = false := by simp; omega
  have q1 : bits .and .u8 9 1 = 1 := by decide
  have q2 : bits .and .u8 9 2 = 0 := by decide
  have q4 : bits .and .u8 9 4 = 0 := by decide
  have q8 : bits .and .u8 9 8 = 8 := by decide
  go_enter Tryd.func84, Tryd.ntmps84
  go_wp2_with fail
  refine (ihas_any 30 9 (by omega) (by omega) E1.out _ (HT.out.keep ((Below.refl _ w).alloc (Nat.le_refl _) _))).mono ?_
  rintro e w' ⟨rfl, rfl⟩
  go_wp2_with fail
  go_region
  go_wp2_with fail
  refine (bounds_any 30 _ _ HB.out.1 HB.out.2 _).mono ?_
  rintro e w' ⟨rfl, rfl⟩
  go_wp2_with fail
  all_goals
    go_ret
    refine ⟨iretb ((may_eq HK.out).trans ?_).symm, by first | exact may_below w _ _ | exact may_below2 w _ _⟩
    rw [Bool.eq_iff_iff]
    first | (simp [okS]; done) | (simp [okS]; omega)
set_option maxRecDepth 100000 in
set_option maxHeartbeats 1000000 in
theorem may_8t (rd rs1 rs2 imm : Int) (hb : (⟨31, rd, rs1, rs2, true, imm⟩ : Ix).bd) (h1 : rd ≤ 31) (h2 : rs1 ≤ 31) (h3 : rs2 ≤ 31) (w : World) (ht : Tab w) :
    Calls Tryd.prog 84 #[(⟨31, rd, rs1, rs2, true, imm⟩ : Ix).agg] w fun e w' => e = .returned (.bool (mayB (⟨31, rd, rs1, rs2, true, imm⟩ : Ix))) ∧ Below w.heap.size w w' := by
  obtain ⟨b0, b1, b2, b3, b4⟩ := hb
  simp only at b0 b1 b2 b3 b4
  have HT := ihid ht
  have E1 := ihid (show hasK (kindS 31) = 10 from by decide)
  have HB := ihid (show lowS 31 = 0 ∧ highS 31 = 1 from by decide)
  have HK := ihid (show kindS 31 = 8 from by decide)
  clear ht
  have g1 : decide (31 < rd) = false := by simp; omega
  have g2 : decide (31 < rs1) = false := by simp; omega
  have g3 : decide (31 < rs2) = false := by simp; omega
  have q1 : bits .and .u8 10 1 = 0 := by decide
  have q2 : bits .and .u8 10 2 = 2 := by decide
  have q4 : bits .and .u8 10 4 = 0 := by decide
  have q8 : bits .and .u8 10 8 = 8 := by decide
  go_enter Tryd.func84, Tryd.ntmps84
  go_wp2_with fail
  refine (ihas_any 31 10 (by omega) (by omega) E1.out _ (HT.out.keep ((Below.refl _ w).alloc (Nat.le_refl _) _))).mono ?_
  rintro e w' ⟨rfl, rfl⟩
  go_wp2_with fail
  go_region
  go_wp2_with fail
  refine (bounds_any 31 _ _ HB.out.1 HB.out.2 _).mono ?_
  rintro e w' ⟨rfl, rfl⟩
  go_wp2_with fail
  all_goals
    go_ret
    refine ⟨iretb ((may_eq HK.out).trans ?_).symm, by first | exact may_below w _ _ | exact may_below2 w _ _⟩
    rw [Bool.eq_iff_iff]
    first | (simp [okS]; done) | (simp [okS]; omega)
set_option maxRecDepth 100000 in
set_option maxHeartbeats 1000000 in
theorem may_8f (rd rs1 rs2 imm : Int) (hb : (⟨31, rd, rs1, rs2, false, imm⟩ : Ix).bd) (h1 : rd ≤ 31) (h2 : rs1 ≤ 31) (h3 : rs2 ≤ 31) (w : World) (ht : Tab w) :
    Calls Tryd.prog 84 #[(⟨31, rd, rs1, rs2, false, imm⟩ : Ix).agg] w fun e w' => e = .returned (.bool (mayB (⟨31, rd, rs1, rs2, false, imm⟩ : Ix))) ∧ Below w.heap.size w w' := by
  obtain ⟨b0, b1, b2, b3, b4⟩ := hb
  simp only at b0 b1 b2 b3 b4
  have HT := ihid ht
  have E1 := ihid (show hasK (kindS 31) = 10 from by decide)
  have HB := ihid (show lowS 31 = 0 ∧ highS 31 = 1 from by decide)
  have HK := ihid (show kindS 31 = 8 from by decide)
  clear ht
  have g1 : decide (31 < rd) = false := by simp; omega
  have g2 : decide (31 < rs1) = false := by simp; omega
  have g3 : decide (31 < rs2) = false := by simp; omega
  have q1 : bits .and .u8 10 1 = 0 := by decide
  have q2 : bits .and .u8 10 2 = 2 := by decide
  have q4 : bits .and .u8 10 4 = 0 := by decide
  have q8 : bits .and .u8 10 8 = 8 := by decide
  go_enter Tryd.func84, Tryd.ntmps84
  go_wp2_with fail
  refine (ihas_any 31 10 (by omega) (by omega) E1.out _ (HT.out.keep ((Below.refl _ w).alloc (Nat.le_refl _) _))).mono ?_
  rintro e w' ⟨rfl, rfl⟩
  go_wp2_with fail
  go_region
  go_wp2_with fail
  refine (bounds_any 31 _ _ HB.out.1 HB.out.2 _).mono ?_
  rintro e w' ⟨rfl, rfl⟩
  go_wp2_with fail
  all_goals
    go_ret
    refine ⟨iretb ((may_eq HK.out).trans ?_).symm, by first | exact may_below w _ _ | exact may_below2 w _ _⟩
    rw [Bool.eq_iff_iff]
    first | (simp [okS]; done) | (simp [okS]; omega)
set_option maxRecDepth 100000 in
set_option maxHeartbeats 1000000 in
theorem may_9t (rd rs1 rs2 imm : Int) (hb : (⟨33, rd, rs1, rs2, true, imm⟩ : Ix).bd) (h1 : rd ≤ 31) (h2 : rs1 ≤ 31) (h3 : rs2 ≤ 31) (w : World) (ht : Tab w) :
    Calls Tryd.prog 84 #[(⟨33, rd, rs1, rs2, true, imm⟩ : Ix).agg] w fun e w' => e = .returned (.bool (mayB (⟨33, rd, rs1, rs2, true, imm⟩ : Ix))) ∧ Below w.heap.size w w' := by
  obtain ⟨b0, b1, b2, b3, b4⟩ := hb
  simp only at b0 b1 b2 b3 b4
  have HT := ihid ht
  have E1 := ihid (show hasK (kindS 33) = 8 from by decide)
  have HB := ihid (show lowS 33 = 3 ∧ highS 33 = 4 from by decide)
  have HK := ihid (show kindS 33 = 9 from by decide)
  clear ht
  have g1 : decide (31 < rd) = false := by simp; omega
  have g2 : decide (31 < rs1) = false := by simp; omega
  have g3 : decide (31 < rs2) = false := by simp; omega
  have q1 : bits .and .u8 8 1 = 0 := by decide
  have q2 : bits .and .u8 8 2 = 0 := by decide
  have q4 : bits .and .u8 8 4 = 0 := by decide
  have q8 : bits .and .u8 8 8 = 8 := by decide
  go_enter Tryd.func84, Tryd.ntmps84
  go_wp2_with fail
  refine (ihas_any 33 8 (by omega) (by omega) E1.out _ (HT.out.keep ((Below.refl _ w).alloc (Nat.le_refl _) _))).mono ?_
  rintro e w' ⟨rfl, rfl⟩
  go_wp2_with fail
  go_region
  go_wp2_with fail
  refine (bounds_any 33 _ _ HB.out.1 HB.out.2 _).mono ?_
  rintro e w' ⟨rfl, rfl⟩
  go_wp2_with fail
  all_goals
    go_ret
    refine ⟨iretb ((may_eq HK.out).trans ?_).symm, by first | exact may_below w _ _ | exact may_below2 w _ _⟩
    rw [Bool.eq_iff_iff]
    first | (simp [okS]; done) | (simp [okS]; omega)
set_option maxRecDepth 100000 in
set_option maxHeartbeats 1000000 in
theorem may_9f (rd rs1 rs2 imm : Int) (hb : (⟨33, rd, rs1, rs2, false, imm⟩ : Ix).bd) (h1 : rd ≤ 31) (h2 : rs1 ≤ 31) (h3 : rs2 ≤ 31) (w : World) (ht : Tab w) :
    Calls Tryd.prog 84 #[(⟨33, rd, rs1, rs2, false, imm⟩ : Ix).agg] w fun e w' => e = .returned (.bool (mayB (⟨33, rd, rs1, rs2, false, imm⟩ : Ix))) ∧ Below w.heap.size w w' := by
  obtain ⟨b0, b1, b2, b3, b4⟩ := hb
  simp only at b0 b1 b2 b3 b4
  have HT := ihid ht
  have E1 := ihid (show hasK (kindS 33) = 8 from by decide)
  have HB := ihid (show lowS 33 = 3 ∧ highS 33 = 4 from by decide)
  have HK := ihid (show kindS 33 = 9 from by decide)
  clear ht
  have g1 : decide (31 < rd) = false := by simp; omega
  have g2 : decide (31 < rs1) = false := by simp; omega
  have g3 : decide (31 < rs2) = false := by simp; omega
  have q1 : bits .and .u8 8 1 = 0 := by decide
  have q2 : bits .and .u8 8 2 = 0 := by decide
  have q4 : bits .and .u8 8 4 = 0 := by decide
  have q8 : bits .and .u8 8 8 = 8 := by decide
  go_enter Tryd.func84, Tryd.ntmps84
  go_wp2_with fail
  refine (ihas_any 33 8 (by omega) (by omega) E1.out _ (HT.out.keep ((Below.refl _ w).alloc (Nat.le_refl _) _))).mono ?_
  rintro e w' ⟨rfl, rfl⟩
  go_wp2_with fail
  go_region
  go_wp2_with fail
  refine (bounds_any 33 _ _ HB.out.1 HB.out.2 _).mono ?_
  rintro e w' ⟨rfl, rfl⟩
  go_wp2_with fail
  all_goals
    go_ret
    refine ⟨iretb ((may_eq HK.out).trans ?_).symm, by first | exact may_below w _ _ | exact may_below2 w _ _⟩
    rw [Bool.eq_iff_iff]
    first | (simp [okS]; done) | (simp [okS]; omega)
set_option maxRecDepth 100000 in
set_option maxHeartbeats 1000000 in
theorem may_10t (op rd rs1 rs2 imm : Int) (hb : (⟨op, rd, rs1, rs2, true, imm⟩ : Ix).bd) (hk : kindS op = 10) (h1 : rd ≤ 31) (h2 : rs1 ≤ 31) (h3 : rs2 ≤ 31) (w : World) (ht : Tab w) :
    Calls Tryd.prog 84 #[(⟨op, rd, rs1, rs2, true, imm⟩ : Ix).agg] w fun e w' => e = .returned (.bool (mayB (⟨op, rd, rs1, rs2, true, imm⟩ : Ix))) ∧ Below w.heap.size w w' := by
  obtain ⟨b0, b1, b2, b3, b4⟩ := hb
  simp only at b0 b1 b2 b3 b4
  have HT := ihid ht
  obtain ⟨hop, hlo, hhi⟩ := low_of (op := op) (by simp [hk])
  have e17 : (op == 17) = false := by simpa using hop.2.1
  have E1 := ihid (show hasK (kindS op) = 2 by rw [hk]; rfl)
  have HK := ihid (show kindS op = 10 from hk)
  have HB := ihid (And.intro hlo hhi)
  clear ht hk hop hlo hhi
  have g1 : decide (31 < rd) = false := by simp; omega
  have g2 : decide (31 < rs1) = false := by simp; omega
  have g3 : decide (31 < rs2) = false := by simp; omega
  have q1 : bits .and .u8 2 1 = 0 := by decide
  have q2 : bits .and .u8 2 2 = 2 := by decide
  have q4 : bits .and .u8 2 4 = 0 := by decide
  have q8 : bits .and .u8 2 8 = 0 := by decide
  go_enter Tryd.func84, Tryd.ntmps84
  go_wp2_with fail
  refine (ihas_any op 2 b0.1 b0.2 E1.out _ (HT.out.keep ((Below.refl _ w).alloc (Nat.le_refl _) _))).mono ?_
  rintro e w' ⟨rfl, rfl⟩
  go_wp2_with fail
  refine (bounds_any op _ _ HB.out.1 HB.out.2 _).mono ?_
  rintro e w' ⟨rfl, rfl⟩
  go_wp2_with fail
  all_goals
    go_ret
    refine ⟨iretb ((may_eq HK.out).trans ?_).symm, by first | exact may_below w _ _ | exact may_below2 w _ _⟩
    rw [Bool.eq_iff_iff]
    first | (simp [okS]; done) | (simp [okS]; omega)
set_option maxRecDepth 100000 in
set_option maxHeartbeats 1000000 in
theorem may_10f (op rd rs1 rs2 imm : Int) (hb : (⟨op, rd, rs1, rs2, false, imm⟩ : Ix).bd) (hk : kindS op = 10) (h1 : rd ≤ 31) (h2 : rs1 ≤ 31) (h3 : rs2 ≤ 31) (w : World) (ht : Tab w) :
    Calls Tryd.prog 84 #[(⟨op, rd, rs1, rs2, false, imm⟩ : Ix).agg] w fun e w' => e = .returned (.bool (mayB (⟨op, rd, rs1, rs2, false, imm⟩ : Ix))) ∧ Below w.heap.size w w' := by
  obtain ⟨b0, b1, b2, b3, b4⟩ := hb
  simp only at b0 b1 b2 b3 b4
  have HT := ihid ht
  obtain ⟨hop, hlo, hhi⟩ := low_of (op := op) (by simp [hk])
  have e17 : (op == 17) = false := by simpa using hop.2.1
  have E1 := ihid (show hasK (kindS op) = 2 by rw [hk]; rfl)
  have HK := ihid (show kindS op = 10 from hk)
  have HB := ihid (And.intro hlo hhi)
  clear ht hk hop hlo hhi
  have g1 : decide (31 < rd) = false := by simp; omega
  have g2 : decide (31 < rs1) = false := by simp; omega
  have g3 : decide (31 < rs2) = false := by simp; omega
  have q1 : bits .and .u8 2 1 = 0 := by decide
  have q2 : bits .and .u8 2 2 = 2 := by decide
  have q4 : bits .and .u8 2 4 = 0 := by decide
  have q8 : bits .and .u8 2 8 = 0 := by decide
  go_enter Tryd.func84, Tryd.ntmps84
  go_wp2_with fail
  refine (ihas_any op 2 b0.1 b0.2 E1.out _ (HT.out.keep ((Below.refl _ w).alloc (Nat.le_refl _) _))).mono ?_
  rintro e w' ⟨rfl, rfl⟩
  go_wp2_with fail
  refine (bounds_any op _ _ HB.out.1 HB.out.2 _).mono ?_
  rintro e w' ⟨rfl, rfl⟩
  go_wp2_with fail
  all_goals
    go_ret
    refine ⟨iretb ((may_eq HK.out).trans ?_).symm, by first | exact may_below w _ _ | exact may_below2 w _ _⟩
    rw [Bool.eq_iff_iff]
    first | (simp [okS]; done) | (simp [okS]; omega)
set_option maxRecDepth 100000 in
set_option maxHeartbeats 1000000 in
theorem may_11t (rd rs1 rs2 imm : Int) (hb : (⟨37, rd, rs1, rs2, true, imm⟩ : Ix).bd) (h1 : rd ≤ 31) (h2 : rs1 ≤ 31) (h3 : rs2 ≤ 31) (w : World) (ht : Tab w) :
    Calls Tryd.prog 84 #[(⟨37, rd, rs1, rs2, true, imm⟩ : Ix).agg] w fun e w' => e = .returned (.bool (mayB (⟨37, rd, rs1, rs2, true, imm⟩ : Ix))) ∧ Below w.heap.size w w' := by
  obtain ⟨b0, b1, b2, b3, b4⟩ := hb
  simp only at b0 b1 b2 b3 b4
  have HT := ihid ht
  have E1 := ihid (show hasK (kindS 37) = 8 from by decide)
  have HB := ihid (show lowS 37 = 1 ∧ highS 37 = 3 from by decide)
  have HK := ihid (show kindS 37 = 11 from by decide)
  clear ht
  have g1 : decide (31 < rd) = false := by simp; omega
  have g2 : decide (31 < rs1) = false := by simp; omega
  have g3 : decide (31 < rs2) = false := by simp; omega
  have q1 : bits .and .u8 8 1 = 0 := by decide
  have q2 : bits .and .u8 8 2 = 0 := by decide
  have q4 : bits .and .u8 8 4 = 0 := by decide
  have q8 : bits .and .u8 8 8 = 8 := by decide
  go_enter Tryd.func84, Tryd.ntmps84
  go_wp2_with fail
  refine (ihas_any 37 8 (by omega) (by omega) E1.out _ (HT.out.keep ((Below.refl _ w).alloc (Nat.le_refl _) _))).mono ?_
  rintro e w' ⟨rfl, rfl⟩
  go_wp2_with fail
  go_region
  go_wp2_with fail
  refine (bounds_any 37 _ _ HB.out.1 HB.out.2 _).mono ?_
  rintro e w' ⟨rfl, rfl⟩
  go_wp2_with fail
  all_goals
    go_ret
    refine ⟨iretb ((may_eq HK.out).trans ?_).symm, by first | exact may_below w _ _ | exact may_below2 w _ _⟩
    rw [Bool.eq_iff_iff]
    first | (simp [okS]; done) | (simp [okS]; omega)
set_option maxRecDepth 100000 in
set_option maxHeartbeats 1000000 in
theorem may_11f (rd rs1 rs2 imm : Int) (hb : (⟨37, rd, rs1, rs2, false, imm⟩ : Ix).bd) (h1 : rd ≤ 31) (h2 : rs1 ≤ 31) (h3 : rs2 ≤ 31) (w : World) (ht : Tab w) :
    Calls Tryd.prog 84 #[(⟨37, rd, rs1, rs2, false, imm⟩ : Ix).agg] w fun e w' => e = .returned (.bool (mayB (⟨37, rd, rs1, rs2, false, imm⟩ : Ix))) ∧ Below w.heap.size w w' := by
  obtain ⟨b0, b1, b2, b3, b4⟩ := hb
  simp only at b0 b1 b2 b3 b4
  have HT := ihid ht
  have E1 := ihid (show hasK (kindS 37) = 8 from by decide)
  have HB := ihid (show lowS 37 = 1 ∧ highS 37 = 3 from by decide)
  have HK := ihid (show kindS 37 = 11 from by decide)
  clear ht
  have g1 : decide (31 < rd) = false := by simp; omega
  have g2 : decide (31 < rs1) = false := by simp; omega
  have g3 : decide (31 < rs2) = false := by simp; omega
  have q1 : bits .and .u8 8 1 = 0 := by decide
  have q2 : bits .and .u8 8 2 = 0 := by decide
  have q4 : bits .and .u8 8 4 = 0 := by decide
  have q8 : bits .and .u8 8 8 = 8 := by decide
  go_enter Tryd.func84, Tryd.ntmps84
  go_wp2_with fail
  refine (ihas_any 37 8 (by omega) (by omega) E1.out _ (HT.out.keep ((Below.refl _ w).alloc (Nat.le_refl _) _))).mono ?_
  rintro e w' ⟨rfl, rfl⟩
  go_wp2_with fail
  go_region
  go_wp2_with fail
  refine (bounds_any 37 _ _ HB.out.1 HB.out.2 _).mono ?_
  rintro e w' ⟨rfl, rfl⟩
  go_wp2_with fail
  all_goals
    go_ret
    refine ⟨iretb ((may_eq HK.out).trans ?_).symm, by first | exact may_below w _ _ | exact may_below2 w _ _⟩
    rw [Bool.eq_iff_iff]
    first | (simp [okS]; done) | (simp [okS]; omega)
set_option maxRecDepth 100000 in
set_option maxHeartbeats 1000000 in
theorem may_12t (rd rs1 rs2 imm : Int) (hb : (⟨32, rd, rs1, rs2, true, imm⟩ : Ix).bd) (h1 : rd ≤ 31) (h2 : rs1 ≤ 31) (h3 : rs2 ≤ 31) (w : World) (ht : Tab w) :
    Calls Tryd.prog 84 #[(⟨32, rd, rs1, rs2, true, imm⟩ : Ix).agg] w fun e w' => e = .returned (.bool (mayB (⟨32, rd, rs1, rs2, true, imm⟩ : Ix))) ∧ Below w.heap.size w w' := by
  obtain ⟨b0, b1, b2, b3, b4⟩ := hb
  simp only at b0 b1 b2 b3 b4
  have HT := ihid ht
  have E1 := ihid (show hasK (kindS 32) = 0 from by decide)
  have HB := ihid (show lowS 32 = -16384 ∧ highS 32 = 16383 from by decide)
  have HK := ihid (show kindS 32 = 12 from by decide)
  clear ht
  have g1 : decide (31 < rd) = false := by simp; omega
  have g2 : decide (31 < rs1) = false := by simp; omega
  have g3 : decide (31 < rs2) = false := by simp; omega
  have q1 : bits .and .u8 0 1 = 0 := by decide
  have q2 : bits .and .u8 0 2 = 0 := by decide
  have q4 : bits .and .u8 0 4 = 0 := by decide
  have q8 : bits .and .u8 0 8 = 0 := by decide
  go_enter Tryd.func84, Tryd.ntmps84
  go_wp2_with fail
  refine (ihas_any 32 0 (by omega) (by omega) E1.out _ (HT.out.keep ((Below.refl _ w).alloc (Nat.le_refl _) _))).mono ?_
  rintro e w' ⟨rfl, rfl⟩
  go_wp2_with fail
  refine (bounds_any 32 _ _ HB.out.1 HB.out.2 _).mono ?_
  rintro e w' ⟨rfl, rfl⟩
  go_wp2_with fail
  all_goals
    go_ret
    refine ⟨iretb ((may_eq HK.out).trans ?_).symm, by first | exact may_below w _ _ | exact may_below2 w _ _⟩
    rw [Bool.eq_iff_iff]
    first | (simp [okS]; done) | (simp [okS]; omega)
set_option maxRecDepth 100000 in
set_option maxHeartbeats 1000000 in
theorem may_12f (rd rs1 rs2 imm : Int) (hb : (⟨32, rd, rs1, rs2, false, imm⟩ : Ix).bd) (h1 : rd ≤ 31) (h2 : rs1 ≤ 31) (h3 : rs2 ≤ 31) (w : World) (ht : Tab w) :
    Calls Tryd.prog 84 #[(⟨32, rd, rs1, rs2, false, imm⟩ : Ix).agg] w fun e w' => e = .returned (.bool (mayB (⟨32, rd, rs1, rs2, false, imm⟩ : Ix))) ∧ Below w.heap.size w w' := by
  obtain ⟨b0, b1, b2, b3, b4⟩ := hb
  simp only at b0 b1 b2 b3 b4
  have HT := ihid ht
  have E1 := ihid (show hasK (kindS 32) = 0 from by decide)
  have HB := ihid (show lowS 32 = -16384 ∧ highS 32 = 16383 from by decide)
  have HK := ihid (show kindS 32 = 12 from by decide)
  clear ht
  have g1 : decide (31 < rd) = false := by simp; omega
  have g2 : decide (31 < rs1) = false := by simp; omega
  have g3 : decide (31 < rs2) = false := by simp; omega
  have q1 : bits .and .u8 0 1 = 0 := by decide
  have q2 : bits .and .u8 0 2 = 0 := by decide
  have q4 : bits .and .u8 0 4 = 0 := by decide
  have q8 : bits .and .u8 0 8 = 0 := by decide
  go_enter Tryd.func84, Tryd.ntmps84
  go_wp2_with fail
  refine (ihas_any 32 0 (by omega) (by omega) E1.out _ (HT.out.keep ((Below.refl _ w).alloc (Nat.le_refl _) _))).mono ?_
  rintro e w' ⟨rfl, rfl⟩
  go_wp2_with fail
  refine (bounds_any 32 _ _ HB.out.1 HB.out.2 _).mono ?_
  rintro e w' ⟨rfl, rfl⟩
  go_wp2_with fail
  all_goals
    go_ret
    refine ⟨iretb ((may_eq HK.out).trans ?_).symm, by first | exact may_below w _ _ | exact may_below2 w _ _⟩
    rw [Bool.eq_iff_iff]
    first | (simp [okS]; done) | (simp [okS]; omega)
end Go.Proofs.YtfbbodaapkfbdaaDoor
/- Walks of inst.may, whole, and of inst.Encode. -/
namespace Go.Proofs.YtfbbodaapkfbdaaDoor
open Go.RowKit
set_option linter.unusedVariables false
set_option linter.unusedSimpArgs false
theorem may_out {x : Ix} (h : 31 < x.rd ∨ 31 < x.rs1 ∨ 31 < x.rs2 ∨ kindS x.op = 0 ∨ (x.op = 17 ∧ 6 < x.rd)) : mayB x = false := by
  unfold mayB mayP
  refine decide_eq_false ?_
  rintro ⟨h1, h2, h3, h4⟩
  rcases h with h | h | h | h | ⟨h, h'⟩
  · omega
  · omega
  · omega
  · rw [h] at h4; simp [okS] at h4
  · rw [h, show kindS 17 = 4 from by decide] at h4; simp [okS] at h4; omega
theorem hasK_no {k : Int} (h : k ≠ 0) (h0 : 0 ≤ k ∧ k ≤ 12) : (hasK k == 128) = false := by
  obtain ⟨n, rfl⟩ := Int.eq_ofNat_of_zero_le h0.1
  match n, h, h0 with
  | 0, h, _ => exact absurd rfl h
  | 1, _, _ => decide
  | 2, _, _ => decide
  | 3, _, _ => decide
  | 4, _, _ => decide
  | 5, _, _ => decide
  | 6, _, _ => decide
  | 7, _, _ => decide
  | 8, _, _ => decide
  | 9, _, _ => decide
  | 10, _, _ => decide
  | 11, _, _ => decide
  | 12, _, _ => decide
  | (n + 13), _, h0 => omega
set_option maxRecDepth 100000 in
set_option maxHeartbeats 1000000 in
theorem may_no (x : Ix) (hb : x.bd) (h : 31 < x.rd ∨ 31 < x.rs1 ∨ 31 < x.rs2 ∨ kindS x.op = 0 ∨ (x.op = 17 ∧ 6 < x.rd)) (w : World) (ht : Tab w) :
    Calls Tryd.prog 84 #[x.agg] w fun e w' => e = .returned (.bool (mayB x)) ∧ Below w.heap.size w w' := by
  rw [may_out h]
  obtain ⟨op, rd, rs1, rs2, is, imm⟩ := x
  obtain ⟨b0, b1, b2, b3, b4⟩ := hb
  simp only at b0 b1 b2 b3 b4 h
  have HT := ihid ht
  clear ht
  by_cases hk : kindS op = 0
  · have E1 := ihid (show hasK (kindS op) = 128 by rw [hk]; rfl)
    clear h hk
    go_enter Tryd.func84, Tryd.ntmps84
    go_wp2_with fail
    refine (ihas_any op 128 b0.1 b0.2 E1.out _ (HT.out.keep ((Below.refl _ w).alloc (Nat.le_refl _) _))).mono ?_
    rintro e w' ⟨rfl, rfl⟩
    go_wp2_with fail
    go_ret
    exact ⟨rfl, (Below.refl _ _).alloc (Nat.le_refl _) _⟩
  · have hh := hasK_no hk (kind_bd op)
    generalize hq : hasK (kindS op) = q at hh
    have E1 := ihid hq
    clear hq hk
    by_cases g1 : 31 < rd
    · have g1' : decide (31 < rd) = true := by simpa using g1
      clear h
      go_enter Tryd.func84, Tryd.ntmps84
      go_wp2_with fail
      refine (ihas_any op q b0.1 b0.2 E1.out _ (HT.out.keep ((Below.refl _ w).alloc (Nat.le_refl _) _))).mono ?_
      rintro e w' ⟨rfl, rfl⟩
      go_wp2_with fail
      go_ret
      exact ⟨rfl, (Below.refl _ _).alloc (Nat.le_refl _) _⟩
    · have g1' : decide (31 < rd) = false := by simpa using g1
      by_cases g2 : 31 < rs1
      · have g2' : decide (31 < rs1) = true := by simpa using g2
        clear h
        go_enter Tryd.func84, Tryd.ntmps84
        go_wp2_with fail
        refine (ihas_any op q b0.1 b0.2 E1.out _ (HT.out.keep ((Below.refl _ w).alloc (Nat.le_refl _) _))).mono ?_
        rintro e w' ⟨rfl, rfl⟩
        go_wp2_with fail
        go_ret
        exact ⟨rfl, (Below.refl _ _).alloc (Nat.le_refl _) _⟩
      · have g2' : decide (31 < rs1) = false := by simpa using g2
        by_cases g3 : 31 < rs2
        · have g3' : decide (31 < rs2) = true := by simpa using g3
          clear h
          go_enter Tryd.func84, Tryd.ntmps84
          go_wp2_with fail
          refine (ihas_any op q b0.1 b0.2 E1.out _ (HT.out.keep ((Below.refl _ w).alloc (Nat.le_refl _) _))).mono ?_
          rintro e w' ⟨rfl, rfl⟩
          go_wp2_with fail
          go_ret
          exact ⟨rfl, (Below.refl _ _).alloc (Nat.le_refl _) _⟩
        · have g3' : decide (31 < rs2) = false := by simpa using g3
          obtain ⟨rfl, g6⟩ : op = 17 ∧ 6 < rd := by
            rcases h with h | h | h | h | h
            · omega
            · omega
            · omega
            · exfalso; rw [h] at E1; have := E1.out; rw [← this] at hh; simp [hasK] at hh
            · exact h
          have g6' : decide (6 < rd) = true := by simpa using g6
          clear h
          go_enter Tryd.func84, Tryd.ntmps84
          go_wp2_with fail
          refine (ihas_any 17 q b0.1 b0.2 E1.out _ (HT.out.keep ((Below.refl _ w).alloc (Nat.le_refl _) _))).mono ?_
          rintro e w' ⟨rfl, rfl⟩
          go_wp2_with fail
          go_ret
          exact ⟨rfl, (Below.refl _ _).alloc (Nat.le_refl _) _⟩
theorem kind_fin : ∀ n : Fin 38, (kindS (n.val : Int) = 3 → n.val = 15) ∧ (kindS (n.val : Int) = 4 → n.val = 17) ∧ (kindS (n.val : Int) = 5 → n.val = 18) ∧ (kindS (n.val : Int) = 7 → n.val = 30) ∧ (kindS (n.val : Int) = 8 → n.val = 31) ∧ (kindS (n.val : Int) = 9 → n.val = 33) ∧ (kindS (n.val : Int) = 11 → n.val = 37) ∧ (kindS (n.val : Int) = 12 → n.val = 32) := by decide
theorem kind_one {op k : Int} (h : kindS op = k) : (k = 3 → op = 15) ∧ (k = 4 → op = 17) ∧ (k = 5 → op = 18) ∧ (k = 7 → op = 30) ∧ (k = 8 → op = 31) ∧ (k = 9 → op = 33) ∧ (k = 11 → op = 37) ∧ (k = 12 → op = 32) := by
  by_cases h0 : kindS op = 0
  · rw [h0] at h; omega
  · have hr := kind_op h0
    obtain ⟨n, rfl⟩ := Int.eq_ofNat_of_zero_le (show 0 ≤ op by omega)
    have hf := kind_fin ⟨n, by omega⟩
    simp only at hf
    rw [h] at hf
    omega
theorem may_any (x : Ix) (hb : x.bd) (w : World) (ht : Tab w) :
    Calls Tryd.prog 84 #[x.agg] w fun e w' => e = .returned (.bool (mayB x)) ∧ Below w.heap.size w w' := by
  by_cases h : 31 < x.rd ∨ 31 < x.rs1 ∨ 31 < x.rs2 ∨ kindS x.op = 0 ∨ (x.op = 17 ∧ 6 < x.rd)
  · exact may_no x hb h w ht
  · obtain ⟨op, rd, rs1, rs2, is, imm⟩ := x
    simp only [not_or] at h
    obtain ⟨h1, h2, h3, h4, h5⟩ := h
    have h1 : rd ≤ 31 := by omega
    have h2 : rs1 ≤ 31 := by omega
    have h3 : rs2 ≤ 31 := by omega
    obtain ⟨k3, k4, k5, k7, k8, k9, k11, k12⟩ := kind_one (op := op) rfl
    rcases kind_cases op with hk | hk | hk | hk | hk | hk | hk | hk | hk | hk | hk | hk | hk
    · exact absurd hk h4
    · cases is
      · exact may_1f _ _ _ _ _ hb hk h1 h2 h3 w ht
      · exact may_1t _ _ _ _ _ hb hk h1 h2 h3 w ht
    · cases is
      · exact may_2f _ _ _ _ _ hb hk h1 h2 h3 w ht
      · exact may_2t _ _ _ _ _ hb hk h1 h2 h3 w ht
    · obtain rfl := k3 hk
      cases is
      · exact may_3f _ _ _ _ hb h1 h2 h3 w ht
      · exact may_3t _ _ _ _ hb h1 h2 h3 w ht
    · obtain rfl := k4 hk
      have h6 : rd ≤ 6 := by omega
      cases is
      · exact may_4f _ _ _ _ hb h1 h2 h3 h6 w ht
      · exact may_4t _ _ _ _ hb h1 h2 h3 h6 w ht
    · obtain rfl := k5 hk
      cases is
      · exact may_5f _ _ _ _ hb h1 h2 h3 w ht
      · exact may_5t _ _ _ _ hb h1 h2 h3 w ht
    · cases is
      · exact may_6f _ _ _ _ _ hb hk h1 h2 h3 w ht
      · exact may_6t _ _ _ _ _ hb hk h1 h2 h3 w ht
    · obtain rfl := k7 hk
      cases is
      · exact may_7f _ _ _ _ hb h1 h2 h3 w ht
      · exact may_7t _ _ _ _ hb h1 h2 h3 w ht
    · obtain rfl := k8 hk
      cases is
      · exact may_8f _ _ _ _ hb h1 h2 h3 w ht
      · exact may_8t _ _ _ _ hb h1 h2 h3 w ht
    · obtain rfl := k9 hk
      cases is
      · exact may_9f _ _ _ _ hb h1 h2 h3 w ht
      · exact may_9t _ _ _ _ hb h1 h2 h3 w ht
    · cases is
      · exact may_10f _ _ _ _ _ hb hk h1 h2 h3 w ht
      · exact may_10t _ _ _ _ _ hb hk h1 h2 h3 w ht
    · obtain rfl := k11 hk
      cases is
      · exact may_11f _ _ _ _ hb h1 h2 h3 w ht
      · exact may_11t _ _ _ _ hb h1 h2 h3 w ht
    · obtain rfl := k12 hk
      cases is
      · exact may_12f _ _ _ _ hb h1 h2 h3 w ht
      · exact may_12t _ _ _ _ hb h1 h2 h3 w ht
set_option maxRecDepth 100000 in
set_option maxHeartbeats 1000000 in
theorem enc_no (x : Ix) (hb : x.bd) (hm : mayB x = false) (w : World) (ht : Tab w) :
    Calls Tryd.prog 70 #[x.agg] w fun e w' => e = .returned (.tuple #[.int .u32 0, .int .i64 2]) ∧ Below w.heap.size w w' := by
  have h := may_any x hb (w.alloc (.cells #[.int .u8 x.op, .int .u8 x.rd, .int .u8 x.rs1, .int .u8 x.rs2, .bool x.is, .int .i32 x.imm] 50)) (ht.keep ((Below.refl _ w).alloc (Nat.le_refl _) _))
  rw [hm] at h
  have H := ihid h
  clear h hm hb
  obtain ⟨op, rd, rs1, rs2, is, imm⟩ := x
  go_enter Tryd.func70, Tryd.ntmps70
  go_wp2_with fail
  refine H.out.mono ?_
  rintro e w' ⟨rfl, hbl⟩
  have HB := ihid hbl
  clear hbl
  go_wp2_with fail
  go_ret2
  exact ⟨rfl, ((Below.refl _ _).alloc (Nat.le_refl _) _).trans (HB.out.mono (by simp))⟩
/-- A number put behind another one is a sum. -/
theorem or_add {a b : Int} (k : Nat) (hk : k ≤ 32) (ha : 0 ≤ a) (ha2 : a < 4294967296) (hd : a % 2 ^ k = 0) (hb : 0 ≤ b) (hb2 : b < 2 ^ k) : bits .or .u32 a b = a + b := by
  obtain ⟨A, rfl⟩ := Int.eq_ofNat_of_zero_le ha
  obtain ⟨B, rfl⟩ := Int.eq_ofNat_of_zero_le hb
  have hp : (2 : Int) ^ k = ((2 ^ k : Nat) : Int) := by simp
  rw [hp] at hd hb2
  have hp2 : 2 ^ k ≤ 2 ^ 32 := Nat.pow_le_pow_right (by omega) hk
  have hB : B < 2 ^ k := by omega
  have hA : 2 ^ k * (A / 2 ^ k) = A := by
    have h1 : A % 2 ^ k = 0 := by omega
    have h2 := Nat.div_add_mod A (2 ^ k)
    omega
  rw [u32_or _ _ (by omega) ha2 (by omega) (by omega)]
  simp only [Int.toNat_natCast]
  rw [← hA, ← Nat.two_pow_add_eq_or_of_lt hB]
  omega
theorem and_mod {a : Int} (k : Nat) (m : Int) (hk : k ≤ 32) (hm : m = 2 ^ k - 1) (ha : 0 ≤ a) (ha2 : a < 4294967296) : bits .and .u32 a m = a % 2 ^ k := by
  subst hm
  obtain ⟨A, rfl⟩ := Int.eq_ofNat_of_zero_le ha
  have hp : (2 : Int) ^ k = ((2 ^ k : Nat) : Int) := by simp
  have h1 : 1 ≤ 2 ^ k := Nat.one_le_two_pow
  have hp2 : 2 ^ k ≤ 2 ^ 32 := Nat.pow_le_pow_right (by omega) hk
  rw [hp, u32_and _ _ (by omega) ha2 (by omega) (by omega)]
  rw [show ((2 ^ k : Nat) : Int) - 1 = ((2 ^ k - 1 : Nat) : Int) from by omega]
  simp only [Int.toNat_natCast]
  rw [Nat.and_two_pow_sub_one_eq_mod]
  omega
theorem or_two {op rd : Int} (b0 : 1 ≤ op ∧ op ≤ 37) (b1 : 0 ≤ rd ∧ rd ≤ 31) : bits .or .u32 (op * 67108864) (rd * 2097152) = op * 67108864 + rd * 2097152 :=
  or_add 26 (by omega) (by omega) (by omega) (by omega) (by omega) (by omega)
theorem imm_mod (imm : Int) (k : Nat) (m d : Int) (hk : k ≤ 32) (hm : m = 2 ^ k - 1) (hd : d = 2 ^ k) (hdd : (4294967296 : Int) % d = 0) : bits .and .u32 (imm % 4294967296) m = imm % d := by
  rw [and_mod k m hk hm (by omega) (by omega), ← hd]
  exact Int.emod_emod_of_dvd _ (Int.dvd_of_emod_eq_zero hdd)
theorem enc_w1 {op rd imm : Int} (b0 : 1 ≤ op ∧ op ≤ 37) (b1 : 0 ≤ rd ∧ rd ≤ 31) : bits .or .u32 (bits .or .u32 (op * 67108864) (rd * 2097152)) (bits .and .u32 (imm % 4294967296) 2097151) = op * 67108864 + rd * 2097152 + imm % 2097152 := by
  rw [or_two b0 b1, imm_mod imm 21 2097151 2097152 (by omega) (by decide) (by decide) (by decide)]
  exact or_add 21 (by omega) (by omega) (by omega) (by omega) (by omega) (by omega)
theorem enc_w2 {op rd rs1 imm : Int} (b0 : 1 ≤ op ∧ op ≤ 37) (b1 : 0 ≤ rd ∧ rd ≤ 31) (b2 : 0 ≤ rs1 ∧ rs1 ≤ 31) : bits .or .u32 (bits .or .u32 (bits .or .u32 (bits .or .u32 (op * 67108864) (rd * 2097152)) (rs1 * 65536)) 32768) (bits .and .u32 (imm % 4294967296) 32767) = op * 67108864 + rd * 2097152 + (rs1 * 65536 + (32768 + imm % 32768)) := by
  rw [or_two b0 b1, imm_mod imm 15 32767 32768 (by omega) (by decide) (by decide) (by decide)]
  rw [or_add (b := rs1 * 65536) 21 (by omega) (by omega) (by omega) (by omega) (by omega) (by omega)]
  rw [or_add (b := 32768) 16 (by omega) (by omega) (by omega) (by omega) (by omega) (by omega)]
  rw [or_add 15 (by omega) (by omega) (by omega) (by omega) (by omega) (by omega)]
  omega
theorem enc_w3 {op rd rs1 rs2 : Int} (b0 : 1 ≤ op ∧ op ≤ 37) (b1 : 0 ≤ rd ∧ rd ≤ 31) (b2 : 0 ≤ rs1 ∧ rs1 ≤ 31) (b3 : 0 ≤ rs2 ∧ rs2 ≤ 31) : bits .or .u32 (bits .or .u32 (bits .or .u32 (op * 67108864) (rd * 2097152)) (rs1 * 65536)) rs2 = op * 67108864 + rd * 2097152 + (rs1 * 65536 + rs2) := by
  rw [or_two b0 b1]
  rw [or_add (b := rs1 * 65536) 21 (by omega) (by omega) (by omega) (by omega) (by omega) (by omega)]
  rw [or_add 16 (by omega) (by omega) (by omega) (by omega) (by omega) (by omega)]
  omega
theorem long_bit {k : Int} (hl : longK k) : ∃ q, hasK k = q ∧ (bits .and .u8 q 16 != 0) = true := by
  rcases hl with rfl | rfl | rfl <;> exact ⟨_, rfl, by decide⟩
theorem kind_of_may {x : Ix} (h : mayP x) : kindS x.op ≠ 0 := by
  intro h0
  have := h.2.2.2
  rw [h0] at this; simp [okS] at this
theorem short_bit {op : Int} (hl : ¬ longK (kindS op)) (h0 : kindS op ≠ 0) : ∃ q, hasK (kindS op) = q ∧ (bits .and .u8 q 16 != 0) = false := by
  unfold longK at hl
  rcases kind_cases op with hk | hk | hk | hk | hk | hk | hk | hk | hk | hk | hk | hk | hk <;> rw [hk] at hl h0 ⊢ <;> first | (exfalso; omega) | exact ⟨_, rfl, by decide⟩
set_option maxRecDepth 100000 in
set_option maxHeartbeats 1000000 in
theorem enc_long (op rd rs1 rs2 imm : Int) (hb : (⟨op, rd, rs1, rs2, true, imm⟩ : Ix).bd) (hm : mayP ⟨op, rd, rs1, rs2, true, imm⟩) (hl : longK (kindS op)) (w : World) (ht : Tab w) :
    Calls Tryd.prog 70 #[(⟨op, rd, rs1, rs2, true, imm⟩ : Ix).agg] w fun e w' => e = .returned (.tuple #[.int .u32 (wordS ⟨op, rd, rs1, rs2, true, imm⟩), .int .i64 0]) ∧ Below w.heap.size w w' := by
  have h := may_any ⟨op, rd, rs1, rs2, true, imm⟩ hb (w.alloc (.cells #[.int .u8 op, .int .u8 rd, .int .u8 rs1, .int .u8 rs2, .bool true, .int .i32 imm] 50)) (ht.keep ((Below.refl _ w).alloc (Nat.le_refl _) _))
  rw [show mayB ⟨op, rd, rs1, rs2, true, imm⟩ = true from decide_eq_true hm] at h
  have H := ihid h
  have HT := ihid ht
  have B := may_bd hb hm
  obtain ⟨q, hq, hq2⟩ : ∃ q, hasK (kindS op) = q ∧ (bits .and .u8 q 16 != 0) = true := long_bit hl
  obtain ⟨b0, b1, b2, b3, b4⟩ := hb
  simp only at b0 b1 b2 b3 b4 B
  clear h hm ht
  have HQ := ihid hq
  have HL := ihid hl
  clear hq hl
  go_enter Tryd.func70, Tryd.ntmps70
  go_wp2_with fail
  refine H.out.mono ?_
  rintro e w' ⟨rfl, hbl⟩
  have hx := hbl.cell (p := ⟨w.heap.size, 0, none⟩) (by simp)
  have hx1 := hbl.cell (p := ⟨w.heap.size, 1, none⟩) (by simp)
  have hx2 := hbl.cell (p := ⟨w.heap.size, 2, none⟩) (by simp)
  have hx3 := hbl.cell (p := ⟨w.heap.size, 3, none⟩) (by simp)
  have hx4 := hbl.cell (p := ⟨w.heap.size, 4, none⟩) (by simp)
  have hx5 := hbl.cell (p := ⟨w.heap.size, 5, none⟩) (by simp)
  simp at hx hx1 hx2 hx3 hx4 hx5
  have HB := ihid hbl
  clear hbl
  go_wp2_with fail
  refine (ihas_any op q b0.1 b0.2 HQ.out _ ((HT.out.keep ((Below.refl _ w).alloc (Nat.le_refl _) _)).keep HB.out)).mono ?_
  rintro e w' ⟨rfl, rfl⟩
  go_wp2_with fail
  go_ret2
  exact ⟨iret2 ((enc_w1 B.1 B.2.1).trans (by simp only [wordS, tailS, if_pos HL.out])) rfl, ((Below.refl _ _).alloc (Nat.le_refl _) _).trans (HB.out.mono (by simp))⟩
set_option maxRecDepth 100000 in
set_option maxHeartbeats 1000000 in
theorem enc_is (op rd rs1 rs2 imm : Int) (hb : (⟨op, rd, rs1, rs2, true, imm⟩ : Ix).bd) (hm : mayP ⟨op, rd, rs1, rs2, true, imm⟩) (hl : ¬ longK (kindS op)) (w : World) (ht : Tab w) :
    Calls Tryd.prog 70 #[(⟨op, rd, rs1, rs2, true, imm⟩ : Ix).agg] w fun e w' => e = .returned (.tuple #[.int .u32 (wordS ⟨op, rd, rs1, rs2, true, imm⟩), .int .i64 0]) ∧ Below w.heap.size w w' := by
  have h := may_any ⟨op, rd, rs1, rs2, true, imm⟩ hb (w.alloc (.cells #[.int .u8 op, .int .u8 rd, .int .u8 rs1, .int .u8 rs2, .bool true, .int .i32 imm] 50)) (ht.keep ((Below.refl _ w).alloc (Nat.le_refl _) _))
  rw [show mayB ⟨op, rd, rs1, rs2, true, imm⟩ = true from decide_eq_true hm] at h
  have H := ihid h
  have HT := ihid ht
  have B := may_bd hb hm
  obtain ⟨q, hq, hq2⟩ : ∃ q, hasK (kindS op) = q ∧ (bits .and .u8 q 16 != 0) = false := short_bit hl (kind_of_may hm)
  obtain ⟨b0, b1, b2, b3, b4⟩ := hb
  simp only at b0 b1 b2 b3 b4 B
  clear h hm ht
  have HQ := ihid hq
  have HL := ihid hl
  clear hq hl
  go_enter Tryd.func70, Tryd.ntmps70
  go_wp2_with fail
  refine H.out.mono ?_
  rintro e w' ⟨rfl, hbl⟩
  have hx := hbl.cell (p := ⟨w.heap.size, 0, none⟩) (by simp)
  have hx1 := hbl.cell (p := ⟨w.heap.size, 1, none⟩) (by simp)
  have hx2 := hbl.cell (p := ⟨w.heap.size, 2, none⟩) (by simp)
  have hx3 := hbl.cell (p := ⟨w.heap.size, 3, none⟩) (by simp)
  have hx4 := hbl.cell (p := ⟨w.heap.size, 4, none⟩) (by simp)
  have hx5 := hbl.cell (p := ⟨w.heap.size, 5, none⟩) (by simp)
  simp at hx hx1 hx2 hx3 hx4 hx5
  have HB := ihid hbl
  clear hbl
  go_wp2_with fail
  refine (ihas_any op q b0.1 b0.2 HQ.out _ ((HT.out.keep ((Below.refl _ w).alloc (Nat.le_refl _) _)).keep HB.out)).mono ?_
  rintro e w' ⟨rfl, rfl⟩
  go_wp2_with fail
  go_ret2
  exact ⟨iret2 ((enc_w2 B.1 B.2.1 B.2.2.1).trans (by simp only [wordS, tailS, if_neg HL.out, if_true])) rfl, ((Below.refl _ _).alloc (Nat.le_refl _) _).trans (HB.out.mono (by simp))⟩
set_option maxRecDepth 100000 in
set_option maxHeartbeats 1000000 in
theorem enc_reg (op rd rs1 rs2 imm : Int) (hb : (⟨op, rd, rs1, rs2, false, imm⟩ : Ix).bd) (hm : mayP ⟨op, rd, rs1, rs2, false, imm⟩) (hl : ¬ longK (kindS op)) (w : World) (ht : Tab w) :
    Calls Tryd.prog 70 #[(⟨op, rd, rs1, rs2, false, imm⟩ : Ix).agg] w fun e w' => e = .returned (.tuple #[.int .u32 (wordS ⟨op, rd, rs1, rs2, false, imm⟩), .int .i64 0]) ∧ Below w.heap.size w w' := by
  have h := may_any ⟨op, rd, rs1, rs2, false, imm⟩ hb (w.alloc (.cells #[.int .u8 op, .int .u8 rd, .int .u8 rs1, .int .u8 rs2, .bool false, .int .i32 imm] 50)) (ht.keep ((Below.refl _ w).alloc (Nat.le_refl _) _))
  rw [show mayB ⟨op, rd, rs1, rs2, false, imm⟩ = true from decide_eq_true hm] at h
  have H := ihid h
  have HT := ihid ht
  have B := may_bd hb hm
  obtain ⟨q, hq, hq2⟩ : ∃ q, hasK (kindS op) = q ∧ (bits .and .u8 q 16 != 0) = false := short_bit hl (kind_of_may hm)
  obtain ⟨b0, b1, b2, b3, b4⟩ := hb
  simp only at b0 b1 b2 b3 b4 B
  clear h hm ht
  have HQ := ihid hq
  have HL := ihid hl
  clear hq hl
  go_enter Tryd.func70, Tryd.ntmps70
  go_wp2_with fail
  refine H.out.mono ?_
  rintro e w' ⟨rfl, hbl⟩
  have hx := hbl.cell (p := ⟨w.heap.size, 0, none⟩) (by simp)
  have hx1 := hbl.cell (p := ⟨w.heap.size, 1, none⟩) (by simp)
  have hx2 := hbl.cell (p := ⟨w.heap.size, 2, none⟩) (by simp)
  have hx3 := hbl.cell (p := ⟨w.heap.size, 3, none⟩) (by simp)
  have hx4 := hbl.cell (p := ⟨w.heap.size, 4, none⟩) (by simp)
  have hx5 := hbl.cell (p := ⟨w.heap.size, 5, none⟩) (by simp)
  simp at hx hx1 hx2 hx3 hx4 hx5
  have HB := ihid hbl
  clear hbl
  go_wp2_with fail
  refine (ihas_any op q b0.1 b0.2 HQ.out _ ((HT.out.keep ((Below.refl _ w).alloc (Nat.le_refl _) _)).keep HB.out)).mono ?_
  rintro e w' ⟨rfl, rfl⟩
  go_wp2_with fail
  go_ret2
  exact ⟨iret2 ((enc_w3 B.1 B.2.1 B.2.2.1 B.2.2.2).trans (by simp only [wordS, tailS, if_neg HL.out, Bool.false_eq_true, if_false])) rfl, ((Below.refl _ _).alloc (Nat.le_refl _) _).trans (HB.out.mono (by simp))⟩
theorem encode_any (x : Ix) (hb : x.bd) (w : World) (ht : Tab w) :
    Calls Tryd.prog 70 #[x.agg] w fun e w' => e = .returned (.tuple #[.int .u32 (encS x), .int .i64 (encE x)]) ∧ Below w.heap.size w w' := by
  unfold encS encE
  by_cases hm : mayP x
  · rw [if_pos hm, if_pos hm]
    obtain ⟨op, rd, rs1, rs2, is, imm⟩ := x
    by_cases hl : longK (kindS op)
    · cases is
      · have := (ok_long hl hm.2.2.2).1; simp at this
      · exact enc_long op rd rs1 rs2 imm hb hm hl w ht
    · cases is
      · exact enc_reg op rd rs1 rs2 imm hb hm hl w ht
      · exact enc_is op rd rs1 rs2 imm hb hm hl w ht
  · rw [if_neg hm, if_neg hm]
    exact enc_no x hb (decide_eq_false hm) w ht
end Go.Proofs.YtfbbodaapkfbdaaDoor
/- Walks of the document's Kind and May (muntinref02). -/
namespace Go.Proofs.YtfbbodaapkfbdaaDoor
open Go.RowKit
set_option linter.unusedVariables false
set_option linter.unusedSimpArgs false
set_option maxHeartbeats 1000000 in
theorem rkind_one (op : Int) (h : (1 ≤ op ∧ op ≤ 14) ∨ (19 ≤ op ∧ op ≤ 25)) (w : World) : Calls Tryd.prog 31 #[.int .u8 op] w fun e w' => e = .returned (.int .i64 1) ∧ w = w' := by
  rcases h with ⟨h1, h2⟩ | ⟨h1, h2⟩
  · have g1 : decide (1 ≤ op) = true := by simpa using h1
    have g2 : decide (op ≤ 14) = true := by simpa using h2
    go_enter Tryd.func31, Tryd.ntmps31
    go_wp2
    go_ret
    exact ⟨rfl, rfl⟩
  · have g0 : decide (1 ≤ op) = true := by simp; omega
    have g1 : decide (op ≤ 14) = false := by simp; omega
    have g2 : decide (19 ≤ op) = true := by simpa using h1
    have g3 : decide (op ≤ 25) = true := by simpa using h2
    go_enter Tryd.func31, Tryd.ntmps31
    go_wp2
    go_ret
    exact ⟨rfl, rfl⟩
set_option maxHeartbeats 1000000 in
theorem rkind_far (op : Int) (h : 37 < op) (w : World) : Calls Tryd.prog 31 #[.int .u8 op] w fun e w' => e = .returned (.int .i64 0) ∧ w = w' := by
  have g0 : decide (1 ≤ op) = true := by simp; omega
  have g1 : decide (op ≤ 14) = false := by simp; omega
  have g2 : decide (19 ≤ op) = true := by simp; omega
  have g3 : decide (op ≤ 25) = false := by simp; omega
  have e15 : (op == 15) = false := by simp; omega
  have e16 : (op == 16) = false := by simp; omega
  have e17 : (op == 17) = false := by simp; omega
  have e18 : (op == 18) = false := by simp; omega
  have e26 : (op == 26) = false := by simp; omega
  have e27 : (op == 27) = false := by simp; omega
  have e28 : (op == 28) = false := by simp; omega
  have e29 : (op == 29) = false := by simp; omega
  have e30 : (op == 30) = false := by simp; omega
  have e31 : (op == 31) = false := by simp; omega
  have e32 : (op == 32) = false := by simp; omega
  have e33 : (op == 33) = false := by simp; omega
  have e34 : (op == 34) = false := by simp; omega
  have e35 : (op == 35) = false := by simp; omega
  have e36 : (op == 36) = false := by simp; omega
  have e37 : (op == 37) = false := by simp; omega
  go_enter Tryd.func31, Tryd.ntmps31
  go_wp2
  go_ret
  exact ⟨rfl, rfl⟩
set_option maxHeartbeats 4000000 in
theorem rkind_lit (op : Int) (h : op = 0 ∨ op = 15 ∨ op = 16 ∨ op = 17 ∨ op = 18 ∨ op = 26 ∨ op = 27 ∨ op = 28 ∨ op = 29 ∨ op = 30 ∨ op = 31 ∨ op = 32 ∨ op = 33 ∨ op = 34 ∨ op = 35 ∨ op = 36 ∨ op = 37) (w : World) : Calls Tryd.prog 31 #[.int .u8 op] w fun e w' => e = .returned (.int .i64 (kindS op)) ∧ w = w' := by
  rcases h with rfl | rfl | rfl | rfl | rfl | rfl | rfl | rfl | rfl | rfl | rfl | rfl | rfl | rfl | rfl | rfl | rfl
  all_goals
    go_enter Tryd.func31, Tryd.ntmps31
    go_wp2
    go_ret
    exact ⟨iret (by decide), rfl⟩
theorem rkind_any (op k : Int) (h0 : 0 ≤ op) (hk : kindS op = k) (w : World) : Calls Tryd.prog 31 #[.int .u8 op] w fun e w' => e = .returned (.int .i64 k) ∧ w = w' := by
  subst hk
  by_cases h1 : (1 ≤ op ∧ op ≤ 14) ∨ (19 ≤ op ∧ op ≤ 25)
  · rw [show kindS op = 1 from if_pos h1]; exact rkind_one op h1 w
  · by_cases h2 : 37 < op
    · rw [kind_no (.inr h2)]; exact rkind_far op h2 w
    · exact rkind_lit op (by omega) w
set_option maxHeartbeats 1000000 in
theorem rbetween_any (n low high : Int) (w : World) : Calls Tryd.prog 81 #[.int .i32 n, .int .i32 low, .int .i32 high] w fun e w' => e = .returned (.bool (decide (low ≤ n ∧ n ≤ high))) ∧ w = w' := by
  by_cases h1 : low ≤ n
  · by_cases h2 : n ≤ high
    · have g1 : decide (low ≤ n) = true := by simpa using h1
      have g2 : decide (n ≤ high) = true := by simpa using h2
      have E := ihid (show decide (low ≤ n ∧ n ≤ high) = true from decide_eq_true ⟨h1, h2⟩)
      clear h1 h2
      go_enter Tryd.func81, Tryd.ntmps81
      go_wp2
      go_ret
      exact ⟨iretb E.out.symm, rfl⟩
    · have g1 : decide (low ≤ n) = true := by simpa using h1
      have g2 : decide (n ≤ high) = false := by simpa using h2
      have E := ihid (show decide (low ≤ n ∧ n ≤ high) = false from decide_eq_false (fun h => h2 h.2))
      clear h1 h2
      go_enter Tryd.func81, Tryd.ntmps81
      go_wp2
      go_ret
      exact ⟨iretb E.out.symm, rfl⟩
  · have g1 : decide (low ≤ n) = false := by simpa using h1
    have E := ihid (show decide (low ≤ n ∧ n ≤ high) = false from decide_eq_false (fun h => h1 h.1))
    clear h1
    go_enter Tryd.func81, Tryd.ntmps81
    go_wp2
    go_ret
    exact ⟨iretb E.out.symm, rfl⟩
end Go.Proofs.YtfbbodaapkfbdaaDoor
/- The document's May refuses what no operation has. -/
namespace Go.Proofs.YtfbbodaapkfbdaaDoor
open Go.RowKit
set_option linter.unusedVariables false
set_option linter.unusedSimpArgs false
theorem may_out2 {x : Ix} (h : (x.is = true ∧ x.rs2 ≠ 0) ∨ (x.is = false ∧ x.imm ≠ 0)) : mayB x = false := by
  unfold mayB mayP
  refine decide_eq_false ?_
  rintro ⟨h1, h2, h3, h4⟩
  by_cases hl : longK (kindS x.op)
  · have := ok_long hl h4
    rcases h with h | h
    · exact h.2 this.2.2.1
    · rw [this.1] at h; simp at h
  · have := ok_short hl h4
    rcases h with h | h
    · exact h.2 (this.1 h.1).1
    · exact h.2 (this.2 h.1)
set_option maxRecDepth 100000 in
set_option maxHeartbeats 2000000 in
theorem rmay_out (x : Ix) (hb : x.bd) (h0 : kindS x.op ≠ 0) (h : ¬ (x.rd ≤ 31 ∧ x.rs1 ≤ 31 ∧ x.rs2 ≤ 31 ∧ (x.is = true → x.rs2 = 0) ∧ (x.is = false → x.imm = 0))) (w : World) :
    Calls Tryd.prog 66 #[x.agg] w fun e w' => e = .returned (.bool (mayB x)) ∧ Below w.heap.size w w' := by
  have E : mayB x = false := by
    by_cases c : 31 < x.rd ∨ 31 < x.rs1 ∨ 31 < x.rs2
    · exact may_out (by omega)
    · refine may_out2 ?_
      cases hi : x.is
      · right; refine ⟨rfl, fun e => h ?_⟩; simp [hi, e]; omega
      · left; refine ⟨rfl, fun e => h ?_⟩; simp [hi, e]; omega
  have E := ihid E
  obtain ⟨op, rd, rs1, rs2, is, imm⟩ := x
  have b0 := hb.1
  simp only at b0 h0 h
  have k0 : (kindS op == 0) = false := by simpa using h0
  have HK := ihid (show kindS op = kindS op from rfl)
  generalize hq : kindS op = q at k0
  have HQ := ihid hq
  clear hq hb h0 HK
  have arm := fun W => rkind_any op q b0.1 HQ.out W
  have ARM := ihid arm
  clear arm
  by_cases g1 : 31 < rd
  · have g1' : decide (31 < rd) = true := by simpa using g1
    clear h
    go_enter Tryd.func66, Tryd.ntmps66
    go_wp2_with fail
    refine (ARM.out _).mono ?_
    rintro e w' ⟨rfl, rfl⟩
    go_wp2_with fail
    go_ret
    exact ⟨iretb E.out.symm, (Below.refl _ _).alloc (Nat.le_refl _) _⟩
  · have g1' : decide (31 < rd) = false := by simpa using g1
    by_cases g2 : 31 < rs1
    · have g2' : decide (31 < rs1) = true := by simpa using g2
      clear h
      go_enter Tryd.func66, Tryd.ntmps66
      go_wp2_with fail
      refine (ARM.out _).mono ?_
      rintro e w' ⟨rfl, rfl⟩
      go_wp2_with fail
      go_ret
      exact ⟨iretb E.out.symm, (Below.refl _ _).alloc (Nat.le_refl _) _⟩
    · have g2' : decide (31 < rs1) = false := by simpa using g2
      by_cases g3 : 31 < rs2
      · have g3' : decide (31 < rs2) = true := by simpa using g3
        clear h
        go_enter Tryd.func66, Tryd.ntmps66
        go_wp2_with fail
        refine (ARM.out _).mono ?_
        rintro e w' ⟨rfl, rfl⟩
        go_wp2_with fail
        go_ret
        exact ⟨iretb E.out.symm, (Below.refl _ _).alloc (Nat.le_refl _) _⟩
      · have g3' : decide (31 < rs2) = false := by simpa using g3
        cases is
        · have hi : imm ≠ 0 := fun e => h (by simp [e]; omega)
          have hi2 : (imm != 0) = true := by simpa using hi
          clear h
          go_enter Tryd.func66, Tryd.ntmps66
          go_wp2_with fail
          refine (ARM.out _).mono ?_
          rintro e w' ⟨rfl, rfl⟩
          go_wp2_with fail
          go_ret
          exact ⟨iretb E.out.symm, (Below.refl _ _).alloc (Nat.le_refl _) _⟩
        · have hi : rs2 ≠ 0 := fun e => h (by simp [e]; omega)
          have hi2 : (rs2 != 0) = true := by simpa using hi
          clear h
          go_enter Tryd.func66, Tryd.ntmps66
          go_wp2_with fail
          refine (ARM.out _).mono ?_
          rintro e w' ⟨rfl, rfl⟩
          go_wp2_with fail
          go_ret
          exact ⟨iretb E.out.symm, (Below.refl _ _).alloc (Nat.le_refl _) _⟩
end Go.Proofs.YtfbbodaapkfbdaaDoor
/- Walks of the document's May (muntinref02). -/
namespace Go.Proofs.YtfbbodaapkfbdaaDoor
open Go.RowKit
set_option linter.unusedVariables false
set_option linter.unusedSimpArgs false
set_option maxRecDepth 100000 in
set_option maxHeartbeats 2000000 in
theorem rmay_1t (op rd rs1 rs2 imm : Int) (hb : (⟨op, rd, rs1, rs2, true, imm⟩ : Ix).bd) (hk : kindS op = 1) (h1 : rd ≤ 31) (h2 : rs1 ≤ 31) (h3 : rs2 ≤ 31) (h4 : rs2 = 0) (w : World) :
    Calls Tryd.prog 66 #[(⟨op, rd, rs1, rs2, true, imm⟩ : Ix).agg] w fun e w' => e = .returned (.bool (mayB (⟨op, rd, rs1, rs2, true, imm⟩ : Ix))) ∧ Below w.heap.size w w' := by
  obtain ⟨b0, b1, b2, b3, b4⟩ := hb
  simp only at b0 b1 b2 b3 b4
  have HK := ihid hk
  subst h4
  have g1 : decide (31 < rd) = false := by simp; omega
  have g2 : decide (31 < rs1) = false := by simp; omega
  have g3 : decide (31 < 0) = false := by simp
  clear hk
  go_enter Tryd.func66, Tryd.ntmps66
  go_wp2_with (first | (go_at_call 31; refine (rkind_any op 1 b0.1 HK.out _).mono ?_; rintro e w' ⟨rfl, rfl⟩) | (go_at_call 81; refine (rbetween_any _ _ _ _).mono ?_; rintro e w' ⟨rfl, rfl⟩))
  all_goals
    go_ret
    refine ⟨iretb ((may_eq HK.out).trans ?_).symm, (Below.refl _ _).alloc (Nat.le_refl _) _⟩
    rw [Bool.eq_iff_iff]
    first | (simp [okS]; done) | (simp [okS]; omega) | (simp_all [okS]; done) | (simp_all [okS]; omega)
set_option maxRecDepth 100000 in
set_option maxHeartbeats 2000000 in
theorem rmay_1f (op rd rs1 rs2 imm : Int) (hb : (⟨op, rd, rs1, rs2, false, imm⟩ : Ix).bd) (hk : kindS op = 1) (h1 : rd ≤ 31) (h2 : rs1 ≤ 31) (h3 : rs2 ≤ 31) (h4 : imm = 0) (w : World) :
    Calls Tryd.prog 66 #[(⟨op, rd, rs1, rs2, false, imm⟩ : Ix).agg] w fun e w' => e = .returned (.bool (mayB (⟨op, rd, rs1, rs2, false, imm⟩ : Ix))) ∧ Below w.heap.size w w' := by
  obtain ⟨b0, b1, b2, b3, b4⟩ := hb
  simp only at b0 b1 b2 b3 b4
  have HK := ihid hk
  subst h4
  have g1 : decide (31 < rd) = false := by simp; omega
  have g2 : decide (31 < rs1) = false := by simp; omega
  have g3 : decide (31 < rs2) = false := by simp; omega
  clear hk
  go_enter Tryd.func66, Tryd.ntmps66
  go_wp2_with (first | (go_at_call 31; refine (rkind_any op 1 b0.1 HK.out _).mono ?_; rintro e w' ⟨rfl, rfl⟩) | (go_at_call 81; refine (rbetween_any _ _ _ _).mono ?_; rintro e w' ⟨rfl, rfl⟩))
  all_goals
    go_ret
    refine ⟨iretb ((may_eq HK.out).trans ?_).symm, (Below.refl _ _).alloc (Nat.le_refl _) _⟩
    rw [Bool.eq_iff_iff]
    first | (simp [okS]; done) | (simp [okS]; omega) | (simp_all [okS]; done) | (simp_all [okS]; omega)
set_option maxRecDepth 100000 in
set_option maxHeartbeats 2000000 in
theorem rmay_2t (op rd rs1 rs2 imm : Int) (hb : (⟨op, rd, rs1, rs2, true, imm⟩ : Ix).bd) (hk : kindS op = 2) (h1 : rd ≤ 31) (h2 : rs1 ≤ 31) (h3 : rs2 ≤ 31) (h4 : rs2 = 0) (w : World) :
    Calls Tryd.prog 66 #[(⟨op, rd, rs1, rs2, true, imm⟩ : Ix).agg] w fun e w' => e = .returned (.bool (mayB (⟨op, rd, rs1, rs2, true, imm⟩ : Ix))) ∧ Below w.heap.size w w' := by
  obtain ⟨b0, b1, b2, b3, b4⟩ := hb
  simp only at b0 b1 b2 b3 b4
  have HK := ihid hk
  subst h4
  have g1 : decide (31 < rd) = false := by simp; omega
  have g2 : decide (31 < rs1) = false := by simp; omega
  have g3 : decide (31 < 0) = false := by simp
  clear hk
  go_enter Tryd.func66, Tryd.ntmps66
  go_wp2_with (first | (go_at_call 31; refine (rkind_any op 2 b0.1 HK.out _).mono ?_; rintro e w' ⟨rfl, rfl⟩) | (go_at_call 81; refine (rbetween_any _ _ _ _).mono ?_; rintro e w' ⟨rfl, rfl⟩))
  all_goals
    go_ret
    refine ⟨iretb ((may_eq HK.out).trans ?_).symm, (Below.refl _ _).alloc (Nat.le_refl _) _⟩
    rw [Bool.eq_iff_iff]
    first | (simp [okS]; done) | (simp [okS]; omega) | (simp_all [okS]; done) | (simp_all [okS]; omega)
set_option maxRecDepth 100000 in
set_option maxHeartbeats 2000000 in
theorem rmay_2f (op rd rs1 rs2 imm : Int) (hb : (⟨op, rd, rs1, rs2, false, imm⟩ : Ix).bd) (hk : kindS op = 2) (h1 : rd ≤ 31) (h2 : rs1 ≤ 31) (h3 : rs2 ≤ 31) (h4 : imm = 0) (w : World) :
    Calls Tryd.prog 66 #[(⟨op, rd, rs1, rs2, false, imm⟩ : Ix).agg] w fun e w' => e = .returned (.bool (mayB (⟨op, rd, rs1, rs2, false, imm⟩ : Ix))) ∧ Below w.heap.size w w' := by
  obtain ⟨b0, b1, b2, b3, b4⟩ := hb
  simp only at b0 b1 b2 b3 b4
  have HK := ihid hk
  subst h4
  have g1 : decide (31 < rd) = false := by simp; omega
  have g2 : decide (31 < rs1) = false := by simp; omega
  have g3 : decide (31 < rs2) = false := by simp; omega
  clear hk
  go_enter Tryd.func66, Tryd.ntmps66
  go_wp2_with (first | (go_at_call 31; refine (rkind_any op 2 b0.1 HK.out _).mono ?_; rintro e w' ⟨rfl, rfl⟩) | (go_at_call 81; refine (rbetween_any _ _ _ _).mono ?_; rintro e w' ⟨rfl, rfl⟩))
  all_goals
    go_ret
    refine ⟨iretb ((may_eq HK.out).trans ?_).symm, (Below.refl _ _).alloc (Nat.le_refl _) _⟩
    rw [Bool.eq_iff_iff]
    first | (simp [okS]; done) | (simp [okS]; omega) | (simp_all [okS]; done) | (simp_all [okS]; omega)
set_option maxRecDepth 100000 in
set_option maxHeartbeats 2000000 in
theorem rmay_3t (op rd rs1 rs2 imm : Int) (hb : (⟨op, rd, rs1, rs2, true, imm⟩ : Ix).bd) (hk : kindS op = 3) (h1 : rd ≤ 31) (h2 : rs1 ≤ 31) (h3 : rs2 ≤ 31) (h4 : rs2 = 0) (w : World) :
    Calls Tryd.prog 66 #[(⟨op, rd, rs1, rs2, true, imm⟩ : Ix).agg] w fun e w' => e = .returned (.bool (mayB (⟨op, rd, rs1, rs2, true, imm⟩ : Ix))) ∧ Below w.heap.size w w' := by
  obtain ⟨b0, b1, b2, b3, b4⟩ := hb
  simp only at b0 b1 b2 b3 b4
  have HK := ihid hk
  subst h4
  have g1 : decide (31 < rd) = false := by simp; omega
  have g2 : decide (31 < rs1) = false := by simp; omega
  have g3 : decide (31 < 0) = false := by simp
  clear hk
  go_enter Tryd.func66, Tryd.ntmps66
  go_wp2_with (first | (go_at_call 31; refine (rkind_any op 3 b0.1 HK.out _).mono ?_; rintro e w' ⟨rfl, rfl⟩) | (go_at_call 81; refine (rbetween_any _ _ _ _).mono ?_; rintro e w' ⟨rfl, rfl⟩))
  all_goals
    go_ret
    refine ⟨iretb ((may_eq HK.out).trans ?_).symm, (Below.refl _ _).alloc (Nat.le_refl _) _⟩
    rw [Bool.eq_iff_iff]
    first | (simp [okS]; done) | (simp [okS]; omega) | (simp_all [okS]; done) | (simp_all [okS]; omega)
set_option maxRecDepth 100000 in
set_option maxHeartbeats 2000000 in
theorem rmay_3f (op rd rs1 rs2 imm : Int) (hb : (⟨op, rd, rs1, rs2, false, imm⟩ : Ix).bd) (hk : kindS op = 3) (h1 : rd ≤ 31) (h2 : rs1 ≤ 31) (h3 : rs2 ≤ 31) (h4 : imm = 0) (w : World) :
    Calls Tryd.prog 66 #[(⟨op, rd, rs1, rs2, false, imm⟩ : Ix).agg] w fun e w' => e = .returned (.bool (mayB (⟨op, rd, rs1, rs2, false, imm⟩ : Ix))) ∧ Below w.heap.size w w' := by
  obtain ⟨b0, b1, b2, b3, b4⟩ := hb
  simp only at b0 b1 b2 b3 b4
  have HK := ihid hk
  subst h4
  have g1 : decide (31 < rd) = false := by simp; omega
  have g2 : decide (31 < rs1) = false := by simp; omega
  have g3 : decide (31 < rs2) = false := by simp; omega
  clear hk
  go_enter Tryd.func66, Tryd.ntmps66
  go_wp2_with (first | (go_at_call 31; refine (rkind_any op 3 b0.1 HK.out _).mono ?_; rintro e w' ⟨rfl, rfl⟩) | (go_at_call 81; refine (rbetween_any _ _ _ _).mono ?_; rintro e w' ⟨rfl, rfl⟩))
  all_goals
    go_ret
    refine ⟨iretb ((may_eq HK.out).trans ?_).symm, (Below.refl _ _).alloc (Nat.le_refl _) _⟩
    rw [Bool.eq_iff_iff]
    first | (simp [okS]; done) | (simp [okS]; omega) | (simp_all [okS]; done) | (simp_all [okS]; omega)
set_option maxRecDepth 100000 in
set_option maxHeartbeats 2000000 in
theorem rmay_4ty (op rd rs1 rs2 imm : Int) (hb : (⟨op, rd, rs1, rs2, true, imm⟩ : Ix).bd) (hk : kindS op = 4) (h1 : rd ≤ 31) (h2 : rs1 ≤ 31) (h3 : rs2 ≤ 31) (h4 : rs2 = 0) (h6 : rd ≤ 6) (w : World) :
    Calls Tryd.prog 66 #[(⟨op, rd, rs1, rs2, true, imm⟩ : Ix).agg] w fun e w' => e = .returned (.bool (mayB (⟨op, rd, rs1, rs2, true, imm⟩ : Ix))) ∧ Below w.heap.size w w' := by
  obtain ⟨b0, b1, b2, b3, b4⟩ := hb
  simp only at b0 b1 b2 b3 b4
  have HK := ihid hk
  subst h4
  have g1 : decide (31 < rd) = false := by simp; omega
  have g2 : decide (31 < rs1) = false := by simp; omega
  have g3 : decide (31 < 0) = false := by simp
  clear hk
  have g6 : decide (rd ≤ 6) = true := by simpa using h6
  go_enter Tryd.func66, Tryd.ntmps66
  go_wp2_with (first | (go_at_call 31; refine (rkind_any op 4 b0.1 HK.out _).mono ?_; rintro e w' ⟨rfl, rfl⟩) | (go_at_call 81; refine (rbetween_any _ _ _ _).mono ?_; rintro e w' ⟨rfl, rfl⟩))
  all_goals
    go_ret
    refine ⟨iretb ((may_eq HK.out).trans ?_).symm, (Below.refl _ _).alloc (Nat.le_refl _) _⟩
    rw [Bool.eq_iff_iff]
    first | (simp [okS]; done) | (simp [okS]; omega) | (simp_all [okS]; done) | (simp_all [okS]; omega)
set_option maxRecDepth 100000 in
set_option maxHeartbeats 2000000 in
theorem rmay_4tn (op rd rs1 rs2 imm : Int) (hb : (⟨op, rd, rs1, rs2, true, imm⟩ : Ix).bd) (hk : kindS op = 4) (h1 : rd ≤ 31) (h2 : rs1 ≤ 31) (h3 : rs2 ≤ 31) (h4 : rs2 = 0) (h6 : 6 < rd) (w : World) :
    Calls Tryd.prog 66 #[(⟨op, rd, rs1, rs2, true, imm⟩ : Ix).agg] w fun e w' => e = .returned (.bool (mayB (⟨op, rd, rs1, rs2, true, imm⟩ : Ix))) ∧ Below w.heap.size w w' := by
  obtain ⟨b0, b1, b2, b3, b4⟩ := hb
  simp only at b0 b1 b2 b3 b4
  have HK := ihid hk
  subst h4
  have g1 : decide (31 < rd) = false := by simp; omega
  have g2 : decide (31 < rs1) = false := by simp; omega
  have g3 : decide (31 < 0) = false := by simp
  clear hk
  have g6 : decide (rd ≤ 6) = false := by simp; omega
  go_enter Tryd.func66, Tryd.ntmps66
  go_wp2_with (first | (go_at_call 31; refine (rkind_any op 4 b0.1 HK.out _).mono ?_; rintro e w' ⟨rfl, rfl⟩) | (go_at_call 81; refine (rbetween_any _ _ _ _).mono ?_; rintro e w' ⟨rfl, rfl⟩))
  all_goals
    go_ret
    refine ⟨iretb ((may_eq HK.out).trans ?_).symm, (Below.refl _ _).alloc (Nat.le_refl _) _⟩
    rw [Bool.eq_iff_iff]
    first | (simp [okS]; done) | (simp [okS]; omega) | (simp_all [okS]; done) | (simp_all [okS]; omega)
set_option maxRecDepth 100000 in
set_option maxHeartbeats 2000000 in
theorem rmay_4f (op rd rs1 rs2 imm : Int) (hb : (⟨op, rd, rs1, rs2, false, imm⟩ : Ix).bd) (hk : kindS op = 4) (h1 : rd ≤ 31) (h2 : rs1 ≤ 31) (h3 : rs2 ≤ 31) (h4 : imm = 0) (w : World) :
    Calls Tryd.prog 66 #[(⟨op, rd, rs1, rs2, false, imm⟩ : Ix).agg] w fun e w' => e = .returned (.bool (mayB (⟨op, rd, rs1, rs2, false, imm⟩ : Ix))) ∧ Below w.heap.size w w' := by
  obtain ⟨b0, b1, b2, b3, b4⟩ := hb
  simp only at b0 b1 b2 b3 b4
  have HK := ihid hk
  subst h4
  have g1 : decide (31 < rd) = false := by simp; omega
  have g2 : decide (31 < rs1) = false := by simp; omega
  have g3 : decide (31 < rs2) = false := by simp; omega
  clear hk
  go_enter Tryd.func66, Tryd.ntmps66
  go_wp2_with (first | (go_at_call 31; refine (rkind_any op 4 b0.1 HK.out _).mono ?_; rintro e w' ⟨rfl, rfl⟩) | (go_at_call 81; refine (rbetween_any _ _ _ _).mono ?_; rintro e w' ⟨rfl, rfl⟩))
  all_goals
    go_ret
    refine ⟨iretb ((may_eq HK.out).trans ?_).symm, (Below.refl _ _).alloc (Nat.le_refl _) _⟩
    rw [Bool.eq_iff_iff]
    first | (simp [okS]; done) | (simp [okS]; omega) | (simp_all [okS]; done) | (simp_all [okS]; omega)
end Go.Proofs.YtfbbodaapkfbdaaDoor
/- Walks of the document's May (muntinref02). -/
namespace Go.Proofs.YtfbbodaapkfbdaaDoor
open Go.RowKit
set_option linter.unusedVariables false
set_option linter.unusedSimpArgs false
set_option maxRecDepth 100000 in
set_option maxHeartbeats 2000000 in
theorem rmay_5t (op rd rs1 rs2 imm : Int) (hb : (⟨op, rd, rs1, rs2, true, imm⟩ : Ix).bd) (hk : kindS op = 5) (h1 : rd ≤ 31) (h2 : rs1 ≤ 31) (h3 : rs2 ≤ 31) (h4 : rs2 = 0) (w : World) :
    Calls Tryd.prog 66 #[(⟨op, rd, rs1, rs2, true, imm⟩ : Ix).agg] w fun e w' => e = .returned (.bool (mayB (⟨op, rd, rs1, rs2, true, imm⟩ : Ix))) ∧ Below w.heap.size w w' := by
  obtain ⟨b0, b1, b2, b3, b4⟩ := hb
  simp only at b0 b1 b2 b3 b4
  have HK := ihid hk
  subst h4
  have g1 : decide (31 < rd) = false := by simp; omega
  have g2 : decide (31 < rs1) = false := by simp; omega
  have g3 : decide (31 < 0) = false := by simp
  clear hk
  go_enter Tryd.func66, Tryd.ntmps66
  go_wp2_with (first | (go_at_call 31; refine (rkind_any op 5 b0.1 HK.out _).mono ?_; rintro e w' ⟨rfl, rfl⟩) | (go_at_call 81; refine (rbetween_any _ _ _ _).mono ?_; rintro e w' ⟨rfl, rfl⟩))
  all_goals
    go_ret
    refine ⟨iretb ((may_eq HK.out).trans ?_).symm, (Below.refl _ _).alloc (Nat.le_refl _) _⟩
    rw [Bool.eq_iff_iff]
    first | (simp [okS]; done) | (simp [okS]; omega) | (simp_all [okS]; done) | (simp_all [okS]; omega)
set_option maxRecDepth 100000 in
set_option maxHeartbeats 2000000 in
theorem rmay_5f (op rd rs1 rs2 imm : Int) (hb : (⟨op, rd, rs1, rs2, false, imm⟩ : Ix).bd) (hk : kindS op = 5) (h1 : rd ≤ 31) (h2 : rs1 ≤ 31) (h3 : rs2 ≤ 31) (h4 : imm = 0) (w : World) :
    Calls Tryd.prog 66 #[(⟨op, rd, rs1, rs2, false, imm⟩ : Ix).agg] w fun e w' => e = .returned (.bool (mayB (⟨op, rd, rs1, rs2, false, imm⟩ : Ix))) ∧ Below w.heap.size w w' := by
  obtain ⟨b0, b1, b2, b3, b4⟩ := hb
  simp only at b0 b1 b2 b3 b4
  have HK := ihid hk
  subst h4
  have g1 : decide (31 < rd) = false := by simp; omega
  have g2 : decide (31 < rs1) = false := by simp; omega
  have g3 : decide (31 < rs2) = false := by simp; omega
  clear hk
  go_enter Tryd.func66, Tryd.ntmps66
  go_wp2_with (first | (go_at_call 31; refine (rkind_any op 5 b0.1 HK.out _).mono ?_; rintro e w' ⟨rfl, rfl⟩) | (go_at_call 81; refine (rbetween_any _ _ _ _).mono ?_; rintro e w' ⟨rfl, rfl⟩))
  all_goals
    go_ret
    refine ⟨iretb ((may_eq HK.out).trans ?_).symm, (Below.refl _ _).alloc (Nat.le_refl _) _⟩
    rw [Bool.eq_iff_iff]
    first | (simp [okS]; done) | (simp [okS]; omega) | (simp_all [okS]; done) | (simp_all [okS]; omega)
set_option maxRecDepth 100000 in
set_option maxHeartbeats 2000000 in
theorem rmay_6t (op rd rs1 rs2 imm : Int) (hb : (⟨op, rd, rs1, rs2, true, imm⟩ : Ix).bd) (hk : kindS op = 6) (h1 : rd ≤ 31) (h2 : rs1 ≤ 31) (h3 : rs2 ≤ 31) (h4 : rs2 = 0) (w : World) :
    Calls Tryd.prog 66 #[(⟨op, rd, rs1, rs2, true, imm⟩ : Ix).agg] w fun e w' => e = .returned (.bool (mayB (⟨op, rd, rs1, rs2, true, imm⟩ : Ix))) ∧ Below w.heap.size w w' := by
  obtain ⟨b0, b1, b2, b3, b4⟩ := hb
  simp only at b0 b1 b2 b3 b4
  have HK := ihid hk
  subst h4
  have g1 : decide (31 < rd) = false := by simp; omega
  have g2 : decide (31 < rs1) = false := by simp; omega
  have g3 : decide (31 < 0) = false := by simp
  clear hk
  go_enter Tryd.func66, Tryd.ntmps66
  go_wp2_with (first | (go_at_call 31; refine (rkind_any op 6 b0.1 HK.out _).mono ?_; rintro e w' ⟨rfl, rfl⟩) | (go_at_call 81; refine (rbetween_any _ _ _ _).mono ?_; rintro e w' ⟨rfl, rfl⟩))
  all_goals
    go_ret
    refine ⟨iretb ((may_eq HK.out).trans ?_).symm, (Below.refl _ _).alloc (Nat.le_refl _) _⟩
    rw [Bool.eq_iff_iff]
    first | (simp [okS]; done) | (simp [okS]; omega) | (simp_all [okS]; done) | (simp_all [okS]; omega)
set_option maxRecDepth 100000 in
set_option maxHeartbeats 2000000 in
theorem rmay_6f (op rd rs1 rs2 imm : Int) (hb : (⟨op, rd, rs1, rs2, false, imm⟩ : Ix).bd) (hk : kindS op = 6) (h1 : rd ≤ 31) (h2 : rs1 ≤ 31) (h3 : rs2 ≤ 31) (h4 : imm = 0) (w : World) :
    Calls Tryd.prog 66 #[(⟨op, rd, rs1, rs2, false, imm⟩ : Ix).agg] w fun e w' => e = .returned (.bool (mayB (⟨op, rd, rs1, rs2, false, imm⟩ : Ix))) ∧ Below w.heap.size w w' := by
  obtain ⟨b0, b1, b2, b3, b4⟩ := hb
  simp only at b0 b1 b2 b3 b4
  have HK := ihid hk
  subst h4
  have g1 : decide (31 < rd) = false := by simp; omega
  have g2 : decide (31 < rs1) = false := by simp; omega
  have g3 : decide (31 < rs2) = false := by simp; omega
  clear hk
  go_enter Tryd.func66, Tryd.ntmps66
  go_wp2_with (first | (go_at_call 31; refine (rkind_any op 6 b0.1 HK.out _).mono ?_; rintro e w' ⟨rfl, rfl⟩) | (go_at_call 81; refine (rbetween_any _ _ _ _).mono ?_; rintro e w' ⟨rfl, rfl⟩))
  all_goals
    go_ret
    refine ⟨iretb ((may_eq HK.out).trans ?_).symm, (Below.refl _ _).alloc (Nat.le_refl _) _⟩
    rw [Bool.eq_iff_iff]
    first | (simp [okS]; done) | (simp [okS]; omega) | (simp_all [okS]; done) | (simp_all [okS]; omega)
set_option maxRecDepth 100000 in
set_option maxHeartbeats 2000000 in
theorem rmay_7t (op rd rs1 rs2 imm : Int) (hb : (⟨op, rd, rs1, rs2, true, imm⟩ : Ix).bd) (hk : kindS op = 7) (h1 : rd ≤ 31) (h2 : rs1 ≤ 31) (h3 : rs2 ≤ 31) (h4 : rs2 = 0) (w : World) :
    Calls Tryd.prog 66 #[(⟨op, rd, rs1, rs2, true, imm⟩ : Ix).agg] w fun e w' => e = .returned (.bool (mayB (⟨op, rd, rs1, rs2, true, imm⟩ : Ix))) ∧ Below w.heap.size w w' := by
  obtain ⟨b0, b1, b2, b3, b4⟩ := hb
  simp only at b0 b1 b2 b3 b4
  have HK := ihid hk
  subst h4
  have g1 : decide (31 < rd) = false := by simp; omega
  have g2 : decide (31 < rs1) = false := by simp; omega
  have g3 : decide (31 < 0) = false := by simp
  clear hk
  go_enter Tryd.func66, Tryd.ntmps66
  go_wp2_with (first | (go_at_call 31; refine (rkind_any op 7 b0.1 HK.out _).mono ?_; rintro e w' ⟨rfl, rfl⟩) | (go_at_call 81; refine (rbetween_any _ _ _ _).mono ?_; rintro e w' ⟨rfl, rfl⟩))
  all_goals
    go_ret
    refine ⟨iretb ((may_eq HK.out).trans ?_).symm, (Below.refl _ _).alloc (Nat.le_refl _) _⟩
    rw [Bool.eq_iff_iff]
    first | (simp [okS]; done) | (simp [okS]; omega) | (simp_all [okS]; done) | (simp_all [okS]; omega)
set_option maxRecDepth 100000 in
set_option maxHeartbeats 2000000 in
theorem rmay_7f (op rd rs1 rs2 imm : Int) (hb : (⟨op, rd, rs1, rs2, false, imm⟩ : Ix).bd) (hk : kindS op = 7) (h1 : rd ≤ 31) (h2 : rs1 ≤ 31) (h3 : rs2 ≤ 31) (h4 : imm = 0) (w : World) :
    Calls Tryd.prog 66 #[(⟨op, rd, rs1, rs2, false, imm⟩ : Ix).agg] w fun e w' => e = .returned (.bool (mayB (⟨op, rd, rs1, rs2, false, imm⟩ : Ix))) ∧ Below w.heap.size w w' := by
  obtain ⟨b0, b1, b2, b3, b4⟩ := hb
  simp only at b0 b1 b2 b3 b4
  have HK := ihid hk
  subst h4
  have g1 : decide (31 < rd) = false := by simp; omega
  have g2 : decide (31 < rs1) = false := by simp; omega
  have g3 : decide (31 < rs2) = false := by simp; omega
  clear hk
  go_enter Tryd.func66, Tryd.ntmps66
  go_wp2_with (first | (go_at_call 31; refine (rkind_any op 7 b0.1 HK.out _).mono ?_; rintro e w' ⟨rfl, rfl⟩) | (go_at_call 81; refine (rbetween_any _ _ _ _).mono ?_; rintro e w' ⟨rfl, rfl⟩))
  all_goals
    go_ret
    refine ⟨iretb ((may_eq HK.out).trans ?_).symm, (Below.refl _ _).alloc (Nat.le_refl _) _⟩
    rw [Bool.eq_iff_iff]
    first | (simp [okS]; done) | (simp [okS]; omega) | (simp_all [okS]; done) | (simp_all [okS]; omega)
set_option maxRecDepth 100000 in
set_option maxHeartbeats 2000000 in
theorem rmay_8t (op rd rs1 rs2 imm : Int) (hb : (⟨op, rd, rs1, rs2, true, imm⟩ : Ix).bd) (hk : kindS op = 8) (h1 : rd ≤ 31) (h2 : rs1 ≤ 31) (h3 : rs2 ≤ 31) (h4 : rs2 = 0) (w : World) :
    Calls Tryd.prog 66 #[(⟨op, rd, rs1, rs2, true, imm⟩ : Ix).agg] w fun e w' => e = .returned (.bool (mayB (⟨op, rd, rs1, rs2, true, imm⟩ : Ix))) ∧ Below w.heap.size w w' := by
  obtain ⟨b0, b1, b2, b3, b4⟩ := hb
  simp only at b0 b1 b2 b3 b4
  have HK := ihid hk
  subst h4
  have g1 : decide (31 < rd) = false := by simp; omega
  have g2 : decide (31 < rs1) = false := by simp; omega
  have g3 : decide (31 < 0) = false := by simp
  clear hk
  go_enter Tryd.func66, Tryd.ntmps66
  go_wp2_with (first | (go_at_call 31; refine (rkind_any op 8 b0.1 HK.out _).mono ?_; rintro e w' ⟨rfl, rfl⟩) | (go_at_call 81; refine (rbetween_any _ _ _ _).mono ?_; rintro e w' ⟨rfl, rfl⟩))
  all_goals
    go_ret
    refine ⟨iretb ((may_eq HK.out).trans ?_).symm, (Below.refl _ _).alloc (Nat.le_refl _) _⟩
    rw [Bool.eq_iff_iff]
    first | (simp [okS]; done) | (simp [okS]; omega) | (simp_all [okS]; done) | (simp_all [okS]; omega)
set_option maxRecDepth 100000 in
set_option maxHeartbeats 2000000 in
theorem rmay_8f (op rd rs1 rs2 imm : Int) (hb : (⟨op, rd, rs1, rs2, false, imm⟩ : Ix).bd) (hk : kindS op = 8) (h1 : rd ≤ 31) (h2 : rs1 ≤ 31) (h3 : rs2 ≤ 31) (h4 : imm = 0) (w : World) :
    Calls Tryd.prog 66 #[(⟨op, rd, rs1, rs2, false, imm⟩ : Ix).agg] w fun e w' => e = .returned (.bool (mayB (⟨op, rd, rs1, rs2, false, imm⟩ : Ix))) ∧ Below w.heap.size w w' := by
  obtain ⟨b0, b1, b2, b3, b4⟩ := hb
  simp only at b0 b1 b2 b3 b4
  have HK := ihid hk
  subst h4
  have g1 : decide (31 < rd) = false := by simp; omega
  have g2 : decide (31 < rs1) = false := by simp; omega
  have g3 : decide (31 < rs2) = false := by simp; omega
  clear hk
  go_enter Tryd.func66, Tryd.ntmps66
  go_wp2_with (first | (go_at_call 31; refine (rkind_any op 8 b0.1 HK.out _).mono ?_; rintro e w' ⟨rfl, rfl⟩) | (go_at_call 81; refine (rbetween_any _ _ _ _).mono ?_; rintro e w' ⟨rfl, rfl⟩))
  all_goals
    go_ret
    refine ⟨iretb ((may_eq HK.out).trans ?_).symm, (Below.refl _ _).alloc (Nat.le_refl _) _⟩
    rw [Bool.eq_iff_iff]
    first | (simp [okS]; done) | (simp [okS]; omega) | (simp_all [okS]; done) | (simp_all [okS]; omega)
end Go.Proofs.YtfbbodaapkfbdaaDoor
/- Walks of the document's May (muntinref02). -/
namespace Go.Proofs.YtfbbodaapkfbdaaDoor
open Go.RowKit
set_option linter.unusedVariables false
set_option linter.unusedSimpArgs false
set_option maxRecDepth 100000 in
set_option maxHeartbeats 2000000 in
theorem rmay_9t (op rd rs1 rs2 imm : Int) (hb : (⟨op, rd, rs1, rs2, true, imm⟩ : Ix).bd) (hk : kindS op = 9) (h1 : rd ≤ 31) (h2 : rs1 ≤ 31) (h3 : rs2 ≤ 31) (h4 : rs2 = 0) (w : World) :
    Calls Tryd.prog 66 #[(⟨op, rd, rs1, rs2, true, imm⟩ : Ix).agg] w fun e w' => e = .returned (.bool (mayB (⟨op, rd, rs1, rs2, true, imm⟩ : Ix))) ∧ Below w.heap.size w w' := by
  obtain ⟨b0, b1, b2, b3, b4⟩ := hb
  simp only at b0 b1 b2 b3 b4
  have HK := ihid hk
  subst h4
  have g1 : decide (31 < rd) = false := by simp; omega
  have g2 : decide (31 < rs1) = false := by simp; omega
  have g3 : decide (31 < 0) = false := by simp
  clear hk
  go_enter Tryd.func66, Tryd.ntmps66
  go_wp2_with (first | (go_at_call 31; refine (rkind_any op 9 b0.1 HK.out _).mono ?_; rintro e w' ⟨rfl, rfl⟩) | (go_at_call 81; refine (rbetween_any _ _ _ _).mono ?_; rintro e w' ⟨rfl, rfl⟩))
  all_goals
    go_ret
    refine ⟨iretb ((may_eq HK.out).trans ?_).symm, (Below.refl _ _).alloc (Nat.le_refl _) _⟩
    rw [Bool.eq_iff_iff]
    first | (simp [okS]; done) | (simp [okS]; omega) | (simp_all [okS]; done) | (simp_all [okS]; omega)
set_option maxRecDepth 100000 in
set_option maxHeartbeats 2000000 in
theorem rmay_9f (op rd rs1 rs2 imm : Int) (hb : (⟨op, rd, rs1, rs2, false, imm⟩ : Ix).bd) (hk : kindS op = 9) (h1 : rd ≤ 31) (h2 : rs1 ≤ 31) (h3 : rs2 ≤ 31) (h4 : imm = 0) (w : World) :
    Calls Tryd.prog 66 #[(⟨op, rd, rs1, rs2, false, imm⟩ : Ix).agg] w fun e w' => e = .returned (.bool (mayB (⟨op, rd, rs1, rs2, false, imm⟩ : Ix))) ∧ Below w.heap.size w w' := by
  obtain ⟨b0, b1, b2, b3, b4⟩ := hb
  simp only at b0 b1 b2 b3 b4
  have HK := ihid hk
  subst h4
  have g1 : decide (31 < rd) = false := by simp; omega
  have g2 : decide (31 < rs1) = false := by simp; omega
  have g3 : decide (31 < rs2) = false := by simp; omega
  clear hk
  go_enter Tryd.func66, Tryd.ntmps66
  go_wp2_with (first | (go_at_call 31; refine (rkind_any op 9 b0.1 HK.out _).mono ?_; rintro e w' ⟨rfl, rfl⟩) | (go_at_call 81; refine (rbetween_any _ _ _ _).mono ?_; rintro e w' ⟨rfl, rfl⟩))
  all_goals
    go_ret
    refine ⟨iretb ((may_eq HK.out).trans ?_).symm, (Below.refl _ _).alloc (Nat.le_refl _) _⟩
    rw [Bool.eq_iff_iff]
    first | (simp [okS]; done) | (simp [okS]; omega) | (simp_all [okS]; done) | (simp_all [okS]; omega)
set_option maxRecDepth 100000 in
set_option maxHeartbeats 2000000 in
theorem rmay_10t (op rd rs1 rs2 imm : Int) (hb : (⟨op, rd, rs1, rs2, true, imm⟩ : Ix).bd) (hk : kindS op = 10) (h1 : rd ≤ 31) (h2 : rs1 ≤ 31) (h3 : rs2 ≤ 31) (h4 : rs2 = 0) (w : World) :
    Calls Tryd.prog 66 #[(⟨op, rd, rs1, rs2, true, imm⟩ : Ix).agg] w fun e w' => e = .returned (.bool (mayB (⟨op, rd, rs1, rs2, true, imm⟩ : Ix))) ∧ Below w.heap.size w w' := by
  obtain ⟨b0, b1, b2, b3, b4⟩ := hb
  simp only at b0 b1 b2 b3 b4
  have HK := ihid hk
  subst h4
  have g1 : decide (31 < rd) = false := by simp; omega
  have g2 : decide (31 < rs1) = false := by simp; omega
  have g3 : decide (31 < 0) = false := by simp
  clear hk
  go_enter Tryd.func66, Tryd.ntmps66
  go_wp2_with (first | (go_at_call 31; refine (rkind_any op 10 b0.1 HK.out _).mono ?_; rintro e w' ⟨rfl, rfl⟩) | (go_at_call 81; refine (rbetween_any _ _ _ _).mono ?_; rintro e w' ⟨rfl, rfl⟩))
  all_goals
    go_ret
    refine ⟨iretb ((may_eq HK.out).trans ?_).symm, (Below.refl _ _).alloc (Nat.le_refl _) _⟩
    rw [Bool.eq_iff_iff]
    first | (simp [okS]; done) | (simp [okS]; omega) | (simp_all [okS]; done) | (simp_all [okS]; omega)
set_option maxRecDepth 100000 in
set_option maxHeartbeats 2000000 in
theorem rmay_10f (op rd rs1 rs2 imm : Int) (hb : (⟨op, rd, rs1, rs2, false, imm⟩ : Ix).bd) (hk : kindS op = 10) (h1 : rd ≤ 31) (h2 : rs1 ≤ 31) (h3 : rs2 ≤ 31) (h4 : imm = 0) (w : World) :
    Calls Tryd.prog 66 #[(⟨op, rd, rs1, rs2, false, imm⟩ : Ix).agg] w fun e w' => e = .returned (.bool (mayB (⟨op, rd, rs1, rs2, false, imm⟩ : Ix))) ∧ Below w.heap.size w w' := by
  obtain ⟨b0, b1, b2, b3, b4⟩ := hb
  simp only at b0 b1 b2 b3 b4
  have HK := ihid hk
  subst h4
  have g1 : decide (31 < rd) = false := by simp; omega
  have g2 : decide (31 < rs1) = false := by simp; omega
  have g3 : decide (31 < rs2) = false := by simp; omega
  clear hk
  go_enter Tryd.func66, Tryd.ntmps66
  go_wp2_with (first | (go_at_call 31; refine (rkind_any op 10 b0.1 HK.out _).mono ?_; rintro e w' ⟨rfl, rfl⟩) | (go_at_call 81; refine (rbetween_any _ _ _ _).mono ?_; rintro e w' ⟨rfl, rfl⟩))
  all_goals
    go_ret
    refine ⟨iretb ((may_eq HK.out).trans ?_).symm, (Below.refl _ _).alloc (Nat.le_refl _) _⟩
    rw [Bool.eq_iff_iff]
    first | (simp [okS]; done) | (simp [okS]; omega) | (simp_all [okS]; done) | (simp_all [okS]; omega)
set_option maxRecDepth 100000 in
set_option maxHeartbeats 2000000 in
theorem rmay_11t (op rd rs1 rs2 imm : Int) (hb : (⟨op, rd, rs1, rs2, true, imm⟩ : Ix).bd) (hk : kindS op = 11) (h1 : rd ≤ 31) (h2 : rs1 ≤ 31) (h3 : rs2 ≤ 31) (h4 : rs2 = 0) (w : World) :
    Calls Tryd.prog 66 #[(⟨op, rd, rs1, rs2, true, imm⟩ : Ix).agg] w fun e w' => e = .returned (.bool (mayB (⟨op, rd, rs1, rs2, true, imm⟩ : Ix))) ∧ Below w.heap.size w w' := by
  obtain ⟨b0, b1, b2, b3, b4⟩ := hb
  simp only at b0 b1 b2 b3 b4
  have HK := ihid hk
  subst h4
  have g1 : decide (31 < rd) = false := by simp; omega
  have g2 : decide (31 < rs1) = false := by simp; omega
  have g3 : decide (31 < 0) = false := by simp
  clear hk
  go_enter Tryd.func66, Tryd.ntmps66
  go_wp2_with (first | (go_at_call 31; refine (rkind_any op 11 b0.1 HK.out _).mono ?_; rintro e w' ⟨rfl, rfl⟩) | (go_at_call 81; refine (rbetween_any _ _ _ _).mono ?_; rintro e w' ⟨rfl, rfl⟩))
  all_goals
    go_ret
    refine ⟨iretb ((may_eq HK.out).trans ?_).symm, (Below.refl _ _).alloc (Nat.le_refl _) _⟩
    rw [Bool.eq_iff_iff]
    first | (simp [okS]; done) | (simp [okS]; omega) | (simp_all [okS]; done) | (simp_all [okS]; omega)
set_option maxRecDepth 100000 in
set_option maxHeartbeats 2000000 in
theorem rmay_11f (op rd rs1 rs2 imm : Int) (hb : (⟨op, rd, rs1, rs2, false, imm⟩ : Ix).bd) (hk : kindS op = 11) (h1 : rd ≤ 31) (h2 : rs1 ≤ 31) (h3 : rs2 ≤ 31) (h4 : imm = 0) (w : World) :
    Calls Tryd.prog 66 #[(⟨op, rd, rs1, rs2, false, imm⟩ : Ix).agg] w fun e w' => e = .returned (.bool (mayB (⟨op, rd, rs1, rs2, false, imm⟩ : Ix))) ∧ Below w.heap.size w w' := by
  obtain ⟨b0, b1, b2, b3, b4⟩ := hb
  simp only at b0 b1 b2 b3 b4
  have HK := ihid hk
  subst h4
  have g1 : decide (31 < rd) = false := by simp; omega
  have g2 : decide (31 < rs1) = false := by simp; omega
  have g3 : decide (31 < rs2) = false := by simp; omega
  clear hk
  go_enter Tryd.func66, Tryd.ntmps66
  go_wp2_with (first | (go_at_call 31; refine (rkind_any op 11 b0.1 HK.out _).mono ?_; rintro e w' ⟨rfl, rfl⟩) | (go_at_call 81; refine (rbetween_any _ _ _ _).mono ?_; rintro e w' ⟨rfl, rfl⟩))
  all_goals
    go_ret
    refine ⟨iretb ((may_eq HK.out).trans ?_).symm, (Below.refl _ _).alloc (Nat.le_refl _) _⟩
    rw [Bool.eq_iff_iff]
    first | (simp [okS]; done) | (simp [okS]; omega) | (simp_all [okS]; done) | (simp_all [okS]; omega)
set_option maxRecDepth 100000 in
set_option maxHeartbeats 2000000 in
theorem rmay_12t (op rd rs1 rs2 imm : Int) (hb : (⟨op, rd, rs1, rs2, true, imm⟩ : Ix).bd) (hk : kindS op = 12) (h1 : rd ≤ 31) (h2 : rs1 ≤ 31) (h3 : rs2 ≤ 31) (h4 : rs2 = 0) (w : World) :
    Calls Tryd.prog 66 #[(⟨op, rd, rs1, rs2, true, imm⟩ : Ix).agg] w fun e w' => e = .returned (.bool (mayB (⟨op, rd, rs1, rs2, true, imm⟩ : Ix))) ∧ Below w.heap.size w w' := by
  obtain ⟨b0, b1, b2, b3, b4⟩ := hb
  simp only at b0 b1 b2 b3 b4
  have HK := ihid hk
  subst h4
  have g1 : decide (31 < rd) = false := by simp; omega
  have g2 : decide (31 < rs1) = false := by simp; omega
  have g3 : decide (31 < 0) = false := by simp
  clear hk
  go_enter Tryd.func66, Tryd.ntmps66
  go_wp2_with (first | (go_at_call 31; refine (rkind_any op 12 b0.1 HK.out _).mono ?_; rintro e w' ⟨rfl, rfl⟩) | (go_at_call 81; refine (rbetween_any _ _ _ _).mono ?_; rintro e w' ⟨rfl, rfl⟩))
  all_goals
    go_ret
    refine ⟨iretb ((may_eq HK.out).trans ?_).symm, (Below.refl _ _).alloc (Nat.le_refl _) _⟩
    rw [Bool.eq_iff_iff]
    first | (simp [okS]; done) | (simp [okS]; omega) | (simp_all [okS]; done) | (simp_all [okS]; omega)
set_option maxRecDepth 100000 in
set_option maxHeartbeats 2000000 in
theorem rmay_12f (op rd rs1 rs2 imm : Int) (hb : (⟨op, rd, rs1, rs2, false, imm⟩ : Ix).bd) (hk : kindS op = 12) (h1 : rd ≤ 31) (h2 : rs1 ≤ 31) (h3 : rs2 ≤ 31) (h4 : imm = 0) (w : World) :
    Calls Tryd.prog 66 #[(⟨op, rd, rs1, rs2, false, imm⟩ : Ix).agg] w fun e w' => e = .returned (.bool (mayB (⟨op, rd, rs1, rs2, false, imm⟩ : Ix))) ∧ Below w.heap.size w w' := by
  obtain ⟨b0, b1, b2, b3, b4⟩ := hb
  simp only at b0 b1 b2 b3 b4
  have HK := ihid hk
  subst h4
  have g1 : decide (31 < rd) = false := by simp; omega
  have g2 : decide (31 < rs1) = false := by simp; omega
  have g3 : decide (31 < rs2) = false := by simp; omega
  clear hk
  go_enter Tryd.func66, Tryd.ntmps66
  go_wp2_with (first | (go_at_call 31; refine (rkind_any op 12 b0.1 HK.out _).mono ?_; rintro e w' ⟨rfl, rfl⟩) | (go_at_call 81; refine (rbetween_any _ _ _ _).mono ?_; rintro e w' ⟨rfl, rfl⟩))
  all_goals
    go_ret
    refine ⟨iretb ((may_eq HK.out).trans ?_).symm, (Below.refl _ _).alloc (Nat.le_refl _) _⟩
    rw [Bool.eq_iff_iff]
    first | (simp [okS]; done) | (simp [okS]; omega) | (simp_all [okS]; done) | (simp_all [okS]; omega)
end Go.Proofs.YtfbbodaapkfbdaaDoor
/- Walks of the document's May and Encode (muntinref02). -/
namespace Go.Proofs.YtfbbodaapkfbdaaDoor
open Go.RowKit
set_option linter.unusedVariables false
set_option linter.unusedSimpArgs false
set_option maxRecDepth 100000 in
set_option maxHeartbeats 1000000 in
theorem rmay_zero (x : Ix) (hb : x.bd) (hk : kindS x.op = 0) (w : World) :
    Calls Tryd.prog 66 #[x.agg] w fun e w' => e = .returned (.bool (mayB x)) ∧ Below w.heap.size w w' := by
  have E := ihid (may_out (.inr (.inr (.inr (.inl hk)))))
  obtain ⟨op, rd, rs1, rs2, is, imm⟩ := x
  have b0 := hb.1
  simp only at b0 hk
  have HK := ihid hk
  clear hk hb
  go_enter Tryd.func66, Tryd.ntmps66
  go_wp2_with fail
  refine (rkind_any op 0 b0.1 HK.out _).mono ?_
  rintro e w' ⟨rfl, rfl⟩
  go_wp2_with fail
  go_ret
  exact ⟨iretb E.out.symm, (Below.refl _ _).alloc (Nat.le_refl _) _⟩
theorem rmay_any (x : Ix) (hb : x.bd) (w : World) :
    Calls Tryd.prog 66 #[x.agg] w fun e w' => e = .returned (.bool (mayB x)) ∧ Below w.heap.size w w' := by
  by_cases h0 : kindS x.op = 0
  · exact rmay_zero x hb h0 w
  · by_cases ho : x.rd ≤ 31 ∧ x.rs1 ≤ 31 ∧ x.rs2 ≤ 31 ∧ (x.is = true → x.rs2 = 0) ∧ (x.is = false → x.imm = 0)
    · obtain ⟨h1, h2, h3, h4, h5⟩ := ho
      obtain ⟨op, rd, rs1, rs2, is, imm⟩ := x
      simp only at h1 h2 h3 h4 h5
      rcases kind_cases op with hk | hk | hk | hk | hk | hk | hk | hk | hk | hk | hk | hk | hk
      · exact absurd hk h0
      · cases is
        · exact rmay_1f _ _ _ _ _ hb hk h1 h2 h3 (h5 rfl) w
        · exact rmay_1t _ _ _ _ _ hb hk h1 h2 h3 (h4 rfl) w
      · cases is
        · exact rmay_2f _ _ _ _ _ hb hk h1 h2 h3 (h5 rfl) w
        · exact rmay_2t _ _ _ _ _ hb hk h1 h2 h3 (h4 rfl) w
      · cases is
        · exact rmay_3f _ _ _ _ _ hb hk h1 h2 h3 (h5 rfl) w
        · exact rmay_3t _ _ _ _ _ hb hk h1 h2 h3 (h4 rfl) w
      · cases is
        · exact rmay_4f _ _ _ _ _ hb hk h1 h2 h3 (h5 rfl) w
        · by_cases h6 : rd ≤ 6
          · exact rmay_4ty _ _ _ _ _ hb hk h1 h2 h3 (h4 rfl) h6 w
          · exact rmay_4tn _ _ _ _ _ hb hk h1 h2 h3 (h4 rfl) (by omega) w
      · cases is
        · exact rmay_5f _ _ _ _ _ hb hk h1 h2 h3 (h5 rfl) w
        · exact rmay_5t _ _ _ _ _ hb hk h1 h2 h3 (h4 rfl) w
      · cases is
        · exact rmay_6f _ _ _ _ _ hb hk h1 h2 h3 (h5 rfl) w
        · exact rmay_6t _ _ _ _ _ hb hk h1 h2 h3 (h4 rfl) w
      · cases is
        · exact rmay_7f _ _ _ _ _ hb hk h1 h2 h3 (h5 rfl) w
        · exact rmay_7t _ _ _ _ _ hb hk h1 h2 h3 (h4 rfl) w
      · cases is
        · exact rmay_8f _ _ _ _ _ hb hk h1 h2 h3 (h5 rfl) w
        · exact rmay_8t _ _ _ _ _ hb hk h1 h2 h3 (h4 rfl) w
      · cases is
        · exact rmay_9f _ _ _ _ _ hb hk h1 h2 h3 (h5 rfl) w
        · exact rmay_9t _ _ _ _ _ hb hk h1 h2 h3 (h4 rfl) w
      · cases is
        · exact rmay_10f _ _ _ _ _ hb hk h1 h2 h3 (h5 rfl) w
        · exact rmay_10t _ _ _ _ _ hb hk h1 h2 h3 (h4 rfl) w
      · cases is
        · exact rmay_11f _ _ _ _ _ hb hk h1 h2 h3 (h5 rfl) w
        · exact rmay_11t _ _ _ _ _ hb hk h1 h2 h3 (h4 rfl) w
      · cases is
        · exact rmay_12f _ _ _ _ _ hb hk h1 h2 h3 (h5 rfl) w
        · exact rmay_12t _ _ _ _ _ hb hk h1 h2 h3 (h4 rfl) w
    · exact rmay_out x hb h0 ho w
set_option maxHeartbeats 400000 in
theorem rlow_any (n of : Int) (hof : of = 2097152 ∨ of = 32768) (h0 : -2147483648 ≤ n) (h1 : n < 2147483648) (w : World) : Calls Tryd.prog 67 #[.int .i32 n, .int .i64 of] w fun e w' => e = .returned (.int .u32 (n % of)) ∧ w = w' := by
  have hm : 0 ≤ n.tmod of ∧ n.tmod of = n % of ∨ n.tmod of < 0 ∧ n.tmod of + of = n % of := by
    rw [Int.tmod_eq_emod]
    have hd : of ∣ n ↔ n % of = 0 := Int.dvd_iff_emod_eq_zero
    have : 0 ≤ n % of ∧ n % of < of := by rcases hof with rfl | rfl <;> omega
    have ho : (of.natAbs : Int) = of := by rcases hof with rfl | rfl <;> rfl
    split <;> rename_i h
    · left; omega
    · have hh : ¬ (0 ≤ n ∨ n % of = 0) := fun h2 => h (h2.imp id hd.2)
      right; omega
  have hr : 0 ≤ n % of ∧ n % of < of := by rcases hof with rfl | rfl <;> omega
  have ht : -4294967296 < n.tmod of ∧ n.tmod of < 4294967296 := by rcases hof with rfl | rfl <;> omega
  have ho : 0 < of ∧ of < 4294967296 := by rcases hof with rfl | rfl <;> omega
  have h00 : (of == 0) = false := by rcases hof with rfl | rfl <;> rfl
  have hw : IntKind.i64.wrap (n.tmod of) = n.tmod of := IntWalk.i64_in _ (by omega)
  have hw3 : wrap64 (n.tmod of) = n.tmod of := by rw [IntWalk.wrap64_in _ (by omega)]
  have HM := ihid hm
  have HR := ihid hr
  clear hm hr hof
  by_cases hs : n.tmod of < 0
  · have hs2 : decide (n.tmod of < 0) = true := by simpa using hs
    have HE : n.tmod of + of = n % of := by have := HM.out; omega
    have hb : 0 ≤ n.tmod of + of ∧ n.tmod of + of < 4294967296 := by have := HR.out; omega
    have hw5 : wrap64 (n.tmod of + of) = n.tmod of + of := by rw [IntWalk.wrap64_in _ (by omega)]
    have hw6 : (n.tmod of + of) % 4294967296 = n.tmod of + of := Int.emod_eq_of_lt hb.1 hb.2
    replace HE := ihid HE
    go_enter Tryd.func67, Tryd.ntmps67
    go_wp2
    go_ret
    exact ⟨iret (by first | exact HE.out | (rw [hw5, hw6]; exact HE.out)), rfl⟩
  · have hs2 : decide (n.tmod of < 0) = false := by simpa using hs
    have HE : n.tmod of = n % of := by have := HM.out; omega
    have hb : 0 ≤ n.tmod of ∧ n.tmod of < 4294967296 := by omega
    replace HE := ihid HE
    go_enter Tryd.func67, Tryd.ntmps67
    go_wp2
    go_ret
    exact ⟨iret HE.out, rfl⟩
set_option maxRecDepth 100000 in
set_option maxHeartbeats 1000000 in
theorem renc_any (x : Ix) (hb : x.bd) (w : World) :
    Calls Tryd.prog 33 #[x.agg] w fun e w' => e = .returned (.tuple #[.int .u32 (encS x), .int .i64 (encE x)]) ∧ Below w.heap.size w w' := by
  have hm := rmay_any x hb (w.alloc (.cells #[.int .u8 x.op, .int .u8 x.rd, .int .u8 x.rs1, .int .u8 x.rs2, .bool x.is, .int .i32 x.imm] 50))
  unfold encS encE
  by_cases h : mayP x
  · rw [if_pos h, if_pos h]
    rw [show mayB x = true from decide_eq_true h] at hm
    have HM := ihid hm
    have B := may_bd hb h
    have HP := ihid h
    obtain ⟨op, rd, rs1, rs2, is, imm⟩ := x
    obtain ⟨b0, b1, b2, b3, b4⟩ := hb
    simp only at b0 b1 b2 b3 b4 B
    have hl1 := rlow_any imm 2097152 (.inl rfl) b4.1 b4.2
    have hl2 := rlow_any imm 32768 (.inr rfl) b4.1 b4.2
    have HL1 := ihid hl1
    have HL2 := ihid hl2
    have hk := fun W => rkind_any op (kindS op) b0.1 rfl W
    have HK := ihid hk
    have c1 : 0 ≤ imm % 2097152 ∧ imm % 2097152 < 2097152 := by omega
    have c2 : 0 ≤ imm % 32768 ∧ imm % 32768 < 32768 := by omega
    clear hm h hl1 hl2 hk
    have hnext : ∀ w' : World, Below (w.alloc (.cells #[.int .u8 op, .int .u8 rd, .int .u8 rs1, .int .u8 rs2, .bool is, .int .i32 imm] 50)).heap.size (w.alloc (.cells #[.int .u8 op, .int .u8 rd, .int .u8 rs1, .int .u8 rs2, .bool is, .int .i32 imm] 50)) w' →
        w'.cell? ⟨w.heap.size, 0, none⟩ = some (.int .u8 op) ∧ w'.cell? ⟨w.heap.size, 1, none⟩ = some (.int .u8 rd) ∧ w'.cell? ⟨w.heap.size, 2, none⟩ = some (.int .u8 rs1) ∧ w'.cell? ⟨w.heap.size, 3, none⟩ = some (.int .u8 rs2) ∧ w'.cell? ⟨w.heap.size, 4, none⟩ = some (.bool is) ∧ w'.cell? ⟨w.heap.size, 5, none⟩ = some (.int .i32 imm) ∧ Below w.heap.size w w' := by
      intro w' hbl
      refine ⟨?_, ?_, ?_, ?_, ?_, ?_, ((Below.refl _ _).alloc (Nat.le_refl _) _).trans (hbl.mono (by simp))⟩
      · exact (hbl.cell (p := ⟨w.heap.size, 0, none⟩) (by simp)).trans (by simp)
      · exact (hbl.cell (p := ⟨w.heap.size, 1, none⟩) (by simp)).trans (by simp)
      · exact (hbl.cell (p := ⟨w.heap.size, 2, none⟩) (by simp)).trans (by simp)
      · exact (hbl.cell (p := ⟨w.heap.size, 3, none⟩) (by simp)).trans (by simp)
      · exact (hbl.cell (p := ⟨w.heap.size, 4, none⟩) (by simp)).trans (by simp)
      · exact (hbl.cell (p := ⟨w.heap.size, 5, none⟩) (by simp)).trans (by simp)
    have HN := ihid hnext
    clear hnext
    by_cases hl : longK (kindS op)
    · have hk1 : decide (3 ≤ kindS op) = true := by rcases hl with h | h | h <;> rw [h] <;> rfl
      have hk2 : decide (kindS op ≤ 5) = true := by rcases hl with h | h | h <;> rw [h] <;> rfl
      have E := ihid (show wordS ⟨op, rd, rs1, rs2, is, imm⟩ = op * 67108864 + rd * 2097152 + imm % 2097152 by unfold wordS tailS; rw [if_pos hl])
      clear hl
      generalize kindS op = q at hk1 hk2 HK
      go_enter Tryd.func33, Tryd.ntmps33
      go_wp2_with fail
      refine HM.out.mono ?_
      rintro e w' ⟨rfl, hbl⟩
      obtain ⟨x0, x1, x2, x3, x4, x5, xb⟩ := HN.out w' hbl
      have XB := ihid xb
      clear hbl xb
      go_wp2_with fail
      refine (HK.out _).mono ?_
      rintro e w'' ⟨rfl, rfl⟩
      go_wp2_with fail
      refine (HL1.out _).mono ?_
      rintro e w'' ⟨rfl, rfl⟩
      go_wp2_with fail
      go_ret2
      exact ⟨iret2 E.out.symm rfl, XB.out⟩
    · have hkd : (decide (3 ≤ kindS op) && decide (kindS op ≤ 5)) = false := by
        unfold longK at hl; simp; omega
      have hks : decide (3 ≤ kindS op) = false ∨ decide (3 ≤ kindS op) = true ∧ decide (kindS op ≤ 5) = false := by
        simp at hkd ⊢; omega
      have E1 := ihid (show wordS ⟨op, rd, rs1, rs2, true, imm⟩ = op * 67108864 + rd * 2097152 + rs1 * 65536 + 32768 + imm % 32768 by unfold wordS tailS; rw [if_neg hl]; simp; omega)
      have E2 := ihid (show wordS ⟨op, rd, rs1, rs2, false, imm⟩ = op * 67108864 + rd * 2097152 + rs1 * 65536 + rs2 by unfold wordS tailS; rw [if_neg hl]; simp; omega)
      clear hl hkd
      generalize kindS op = q at hks HK
      rcases hks with hk1 | ⟨hk1, hk2⟩ <;> cases is
      all_goals
        go_enter Tryd.func33, Tryd.ntmps33
        go_wp2_with fail
        refine HM.out.mono ?_
        rintro e w' ⟨rfl, hbl⟩
        obtain ⟨x0, x1, x2, x3, x4, x5, xb⟩ := HN.out w' hbl
        have XB := ihid xb
        clear hbl xb
        go_wp2_with fail
        refine (HK.out _).mono ?_
        rintro e w'' ⟨rfl, rfl⟩
        go_wp2_with (go_at_call 67; refine (HL2.out _).mono ?_; rintro e w'' ⟨rfl, rfl⟩)
        go_ret2
        first | exact ⟨iret2 E1.out.symm rfl, XB.out⟩ | exact ⟨iret2 E2.out.symm rfl, XB.out⟩
  · rw [if_neg h, if_neg h]
    rw [show mayB x = false from decide_eq_false h] at hm
    have HM := ihid hm
    clear hm h hb
    obtain ⟨op, rd, rs1, rs2, is, imm⟩ := x
    go_enter Tryd.func33, Tryd.ntmps33
    go_wp2_with fail
    refine HM.out.mono ?_
    rintro e w' ⟨rfl, hbl⟩
    have HB := ihid hbl
    clear hbl
    go_wp2_with fail
    go_ret2
    exact ⟨rfl, ((Below.refl _ _).alloc (Nat.le_refl _) _).trans (HB.out.mono (by simp))⟩
end Go.Proofs.YtfbbodaapkfbdaaDoor
