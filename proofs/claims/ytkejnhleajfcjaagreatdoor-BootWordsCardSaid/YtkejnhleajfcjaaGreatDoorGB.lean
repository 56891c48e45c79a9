/- Several texts in one: InstMay, InstEnc. -/
import Derived.Test.YtkejnhleajfcjaaGreatDoorGA
import Derived.RegionTactic
import Derived.BigRegion
import Derived.Outline
/- Walks of inst.may: which instructions may be. -/
namespace Go.Proofs.YtkejnhleajfcjaaGreatDoor
open Go.RowKit
set_option linter.unusedVariables false
set_option linter.unusedSimpArgs false
theorem may_eq {k : Int} {x : Ix} (h : kindS x.op = k) : mayB x = decide (x.rd ≤ 31 ∧ x.rs1 ≤ 31 ∧ x.rs2 ≤ 31 ∧ okS k x = true) := by unfold mayB; exact decide_eq_decide.2 (by unfold mayP; rw [h])
set_option maxRecDepth 100000 in
set_option maxHeartbeats 1000000 in
theorem may_1t (op rd rs1 rs2 imm : Int) (hb : (⟨op, rd, rs1, rs2, true, imm⟩ : Ix).bd) (hk : kindS op = 1) (h1 : rd ≤ 31) (h2 : rs1 ≤ 31) (h3 : rs2 ≤ 31) (w : World) (ht : Tab w) :
    Calls Tryz.prog 222 #[(⟨op, rd, rs1, rs2, true, imm⟩ : Ix).agg] w fun e w' => e = .returned (.bool (mayB (⟨op, rd, rs1, rs2, true, imm⟩ : Ix))) ∧ Below w.heap.size w w' := by
  obtain ⟨b0, b1, b2, b3, b4⟩ := hb
  simp only at b0 b1 b2 b3 b4
  have HT := ihid ht
  obtain ⟨hop, hlo, hhi⟩ := low_of (op := op) (by simp [hk])
  have e17 : (op == 17) = false := by simpa using hop.2.1
  have E1 := ihid (show hasK (kindS op) = 7 by rw [hk]; rfl)
  have HK := ihid (show kindS op = 1 from hk)
  have HB := ihid (And.intro hlo hhi)
  clear ht hk hop hlo hhi
  have g1 : decide (31 < rd) = false := by simp; omega
  have g2 : decide (31 < rs1) = false := by simp; omega
  have g3 : decide (31 < rs2) = false := by simp; omega
  have q1 : bits .and .u8 7 1 = 1 := by decide
  have q2 : bits .and .u8 7 2 = 2 := by decide
  have q4 : bits .and .u8 7 4 = 4 := by decide
  have q8 : bits .and .u8 7 8 = 0 := by decide
  go_enter Tryz.func222, Tryz.ntmps222
  go_wp2_with fail
  refine (ihas_any op 7 b0.1 b0.2 E1.out _ (HT.out.keep ((Below.refl _ w).alloc (Nat.le_refl _) _))).mono ?_
  rintro e w' ⟨rfl, rfl⟩
  go_wp2_with fail
  go_region
  go_wp2_with fail
  refine (bounds_any op _ _ HB.out.1 HB.out.2 _).mono ?_
  rintro e w' ⟨rfl, rfl⟩
  go_wp2_with fail
  all_goals
    go_ret
    refine ⟨iretb ((may_eq HK.out).trans ?_).symm, by first | exact may_below w _ _ | exact may_below2 w _ _⟩
    rw [Bool.eq_iff_iff]
    first | (simp [okS]; done) | (simp [okS]; omega)
set_option maxRecDepth 100000 in
set_option maxHeartbeats 1000000 in
theorem may_1f (op rd rs1 rs2 imm : Int) (hb : (⟨op, rd, rs1, rs2, false, imm⟩ : Ix).bd) (hk : kindS op = 1) (h1 : rd ≤ 31) (h2 : rs1 ≤ 31) (h3 : rs2 ≤ 31) (w : World) (ht : Tab w) :
    Calls Tryz.prog 222 #[(⟨op, rd, rs1, rs2, false, imm⟩ : Ix).agg] w fun e w' => e = .returned (.bool (mayB (⟨op, rd, rs1, rs2, false, imm⟩ : Ix))) ∧ Below w.heap.size w w' := by
  obtain ⟨b0, b1, b2, b3, b4⟩ := hb
  simp only at b0 b1 b2 b3 b4
  have HT := ihid ht
  obtain ⟨hop, hlo, hhi⟩ := low_of (op := op) (by simp [hk])
  have e17 : (op == 17) = false := by simpa using hop.2.1
  have E1 := ihid (show hasK (kindS op) = 7 by rw [hk]; rfl)
  have HK := ihid (show kindS op = 1 from hk)
  have HB := ihid (And.intro hlo hhi)
  clear ht hk hop hlo hhi
  have g1 : decide (31 < rd) = false := by simp; omega
  have g2 : decide (31 < rs1) = false := by simp; omega
  have g3 : decide (31 < rs2) = false := by simp; omega
  have q1 : bits .and .u8 7 1 = 1 := by decide
  have q2 : bits .and .u8 7 2 = 2 := by decide
  have q4 : bits .and .u8 7 4 = 4 := by decide
  have q8 : bits .and .u8 7 8 = 0 := by decide
  go_enter Tryz.func222, Tryz.ntmps222
  go_wp2_with fail
  refine (ihas_any op 7 b0.1 b0.2 E1.out _ (HT.out.keep ((Below.refl _ w).alloc (Nat.le_refl _) _))).mono ?_
  rintro e w' ⟨rfl, rfl⟩
  go_wp2_with fail
  refine (bounds_any op _ _ HB.out.1 HB.out.2 _).mono ?_
  rintro e w' ⟨rfl, rfl⟩
  go_wp2_with fail
  all_goals
    go_ret
    refine ⟨iretb ((may_eq HK.out).trans ?_).symm, by first | exact may_below w _ _ | exact may_below2 w _ _⟩
    rw [Bool.eq_iff_iff]
    first | (simp [okS]; done) | (simp [okS]; omega)
set_option maxRecDepth 100000 in
set_option maxHeartbeats 1000000 in
theorem may_2t (op rd rs1 rs2 imm : Int) (hb : (⟨op, rd, rs1, rs2, true, imm⟩ : Ix).bd) (hk : kindS op = 2) (h1 : rd ≤ 31) (h2 : rs1 ≤ 31) (h3 : rs2 ≤ 31) (w : World) (ht : Tab w) :
    Calls Tryz.prog 222 #[(⟨op, rd, rs1, rs2, true, imm⟩ : Ix).agg] w fun e w' => e = .returned (.bool (mayB (⟨op, rd, rs1, rs2, true, imm⟩ : Ix))) ∧ Below w.heap.size w w' := by
  obtain ⟨b0, b1, b2, b3, b4⟩ := hb
  simp only at b0 b1 b2 b3 b4
  have HT := ihid ht
  obtain ⟨hop, hlo, hhi⟩ := low_of (op := op) (by simp [hk])
  have e17 : (op == 17) = false := by simpa using hop.2.1
  have E1 := ihid (show hasK (kindS op) = 6 by rw [hk]; rfl)
  have HK := ihid (show kindS op = 2 from hk)
  have HB := ihid (And.intro hlo hhi)
  clear ht hk hop hlo hhi
  have g1 : decide (31 < rd) = false := by simp; omega
  have g2 : decide (31 < rs1) = false := by simp; omega
  have g3 : decide (31 < rs2) = false := by simp; omega
  have q1 : bits .and .u8 6 1 = 0 := by decide
  have q2 : bits .and .u8 6 2 = 2 := by decide
  have q4 : bits .and .u8 6 4 = 4 := by decide
  have q8 : bits .and .u8 6 8 = 0 := by decide
  go_enter Tryz.func222, Tryz.ntmps222
  go_wp2_with fail
  refine (ihas_any op 6 b0.1 b0.2 E1.out _ (HT.out.keep ((Below.refl _ w).alloc (Nat.le_refl _) _))).mono ?_
  rintro e w' ⟨rfl, rfl⟩
  go_wp2_with fail
  go_region
  go_wp2_with fail
  refine (bounds_any op _ _ HB.out.1 HB.out.2 _).mono ?_
  rintro e w' ⟨rfl, rfl⟩
  go_wp2_with fail
  all_goals
    go_ret
    refine ⟨iretb ((may_eq HK.out).trans ?_).symm, by first | exact may_below w _ _ | exact may_below2 w _ _⟩
    rw [Bool.eq_iff_iff]
    first | (simp [okS]; done) | (simp [okS]; omega)
set_option maxRecDepth 100000 in
set_option maxHeartbeats 1000000 in
theorem may_2f (op rd rs1 rs2 imm : Int) (hb : (⟨op, rd, rs1, rs2, false, imm⟩ : Ix).bd) (hk : kindS op = 2) (h1 : rd ≤ 31) (h2 : rs1 ≤ 31) (h3 : rs2 ≤ 31) (w : World) (ht : Tab w) :
    Calls Tryz.prog 222 #[(⟨op, rd, rs1, rs2, false, imm⟩ : Ix).agg] w fun e w' => e = .returned (.bool (mayB (⟨op, rd, rs1, rs2, false, imm⟩ : Ix))) ∧ Below w.heap.size w w' := by
  obtain ⟨b0, b1, b2, b3, b4⟩ := hb
  simp only at b0 b1 b2 b3 b4
  have HT := ihid ht
  obtain ⟨hop, hlo, hhi⟩ := low_of (op := op) (by simp [hk])
  have e17 : (op == 17) = false := by simpa using hop.2.1
  have E1 := ihid (show hasK (kindS op) = 6 by rw [hk]; rfl)
  have HK := ihid (show kindS op = 2 from hk)
  have HB := ihid (And.intro hlo hhi)
  clear ht hk hop hlo hhi
  have g1 : decide (31 < rd) = false := by simp; omega
  have g2 : decide (31 < rs1) = false := by simp; omega
  have g3 : decide (31 < rs2) = false := by simp; omega
  have q1 : bits .and .u8 6 1 = 0 := by decide
  have q2 : bits .and .u8 6 2 = 2 := by decide
  have q4 : bits .and .u8 6 4 = 4 := by decide
  have q8 : bits .and .u8 6 8 = 0 := by decide
  go_enter Tryz.func222, Tryz.ntmps222
  go_wp2_with fail
  refine (ihas_any op 6 b0.1 b0.2 E1.out _ (HT.out.keep ((Below.refl _ w).alloc (Nat.le_refl _) _))).mono ?_
  rintro e w' ⟨rfl, rfl⟩
  go_wp2_with fail
  refine (bounds_any op _ _ HB.out.1 HB.out.2 _).mono ?_
  rintro e w' ⟨rfl, rfl⟩
  go_wp2_with fail
  all_goals
    go_ret
    refine ⟨iretb ((may_eq HK.out).trans ?_).symm, by first | exact may_below w _ _ | exact may_below2 w _ _⟩
    rw [Bool.eq_iff_iff]
    first | (simp [okS]; done) | (simp [okS]; omega)
set_option maxRecDepth 100000 in
set_option maxHeartbeats 1000000 in
theorem may_3t (rd rs1 rs2 imm : Int) (hb : (⟨15, rd, rs1, rs2, true, imm⟩ : Ix).bd) (h1 : rd ≤ 31) (h2 : rs1 ≤ 31) (h3 : rs2 ≤ 31) (w : World) (ht : Tab w) :
    Calls Tryz.prog 222 #[(⟨15, rd, rs1, rs2, true, imm⟩ : Ix).agg] w fun e w' => e = .returned (.bool (mayB (⟨15, rd, rs1, rs2, true, imm⟩ : Ix))) ∧ Below w.heap.size w w' := by
  obtain ⟨b0, b1, b2, b3, b4⟩ := hb
  simp only at b0 b1 b2 b3 b4
  have HT := ihid ht
  have E1 := ihid (show hasK (kindS 15) = 25 from by decide)
  have HB := ihid (show lowS 15 = 0 ∧ highS 15 = 2097151 from by decide)
  have HK := ihid (show kindS 15 = 3 from by decide)
  clear ht
  have g1 : decide (31 < rd) = false := by simp; omega
  have g2 : decide (31 < rs1) = false := by simp; omega
  have g3 : decide (31 < rs2) = false := by simp; omega
  have q1 : bits .and .u8 25 1 = 1 := by decide
  have q2 : bits .and .u8 25 2 = 0 := by decide
  have q4 : bits .and .u8 25 4 = 0 := by decide
  have q8 : bits .and .u8 25 8 = 8 := by decide
  go_enter Tryz.func222, Tryz.ntmps222
  go_wp2_with fail
  refine (ihas_any 15 25 (by omega) (by omega) E1.out _ (HT.out.keep ((Below.refl _ w).alloc (Nat.le_refl _) _))).mono ?_
  rintro e w' ⟨rfl, rfl⟩
  go_wp2_with fail
  go_region
  go_wp2_with fail
  refine (bounds_any 15 _ _ HB.out.1 HB.out.2 _).mono ?_
  rintro e w' ⟨rfl, rfl⟩
  go_wp2_with fail
  all_goals
    go_ret
    refine ⟨iretb ((may_eq HK.out).trans ?_).symm, by first | exact may_below w _ _ | exact may_below2 w _ _⟩
    rw [Bool.eq_iff_iff]
    first | (simp [okS]; done) | (simp [okS]; omega)
set_option maxRecDepth 100000 in
set_option maxHeartbeats 1000000 in
theorem may_3f (rd rs1 rs2 imm : Int) (hb : (⟨15, rd, rs1, rs2, false, imm⟩ : Ix).bd) (h1 : rd ≤ 31) (h2 : rs1 ≤ 31) (h3 : rs2 ≤ 31) (w : World) (ht : Tab w) :
    Calls Tryz.prog 222 #[(⟨15, rd, rs1, rs2, false, imm⟩ : Ix).agg] w fun e w' => e = .returned (.bool (mayB (⟨15, rd, rs1, rs2, false, imm⟩ : Ix))) ∧ Below w.heap.size w w' := by
  obtain ⟨b0, b1, b2, b3, b4⟩ := hb
  simp only at b0 b1 b2 b3 b4
  have HT := ihid ht
  have E1 := ihid (show hasK (kindS 15) = 25 from by decide)
  have HB := ihid (show lowS 15 = 0 ∧ highS 15 = 2097151 from by decide)
  have HK := ihid (show kindS 15 = 3 from by decide)
  clear ht
  have g1 : decide (31 < rd) = false := by simp; omega
  have g2 : decide (31 < rs1) = false := by simp; omega
  have g3 : decide (31 < rs2) = false := by simp; omega
  have q1 : bits .and .u8 25 1 = 1 := by decide
  have q2 : bits .and .u8 25 2 = 0 := by decide
  have q4 : bits .and .u8 25 4 = 0 := by decide
  have q8 : bits .and .u8 25 8 = 8 := by decide
  go_enter Tryz.func222, Tryz.ntmps222
  go_wp2_with fail
  refine (ihas_any 15 25 (by omega) (by omega) E1.out _ (HT.out.keep ((Below.refl _ w).alloc (Nat.le_refl _) _))).mono ?_
  rintro e w' ⟨rfl, rfl⟩
  go_wp2_with fail
  go_region
  go_wp2_with fail
  refine (bounds_any 15 _ _ HB.out.1 HB.out.2 _).mono ?_
  rintro e w' ⟨rfl, rfl⟩
  go_wp2_with fail
  all_goals
    go_ret
    refine ⟨iretb ((may_eq HK.out).trans ?_).symm, by first | exact may_below w _ _ | exact may_below2 w _ _⟩
    rw [Bool.eq_iff_iff]
    first | (simp [okS]; done) | (simp [okS]; omega)
set_option maxRecDepth 100000 in
set_option maxHeartbeats 1000000 in
theorem may_4t (rd rs1 rs2 imm : Int) (hb : (⟨17, rd, rs1, rs2, true, imm⟩ : Ix).bd) (h1 : rd ≤ 31) (h2 : rs1 ≤ 31) (h3 : rs2 ≤ 31) (h6 : rd ≤ 6) (w : World) (ht : Tab w) :
    Calls Tryz.prog 222 #[(⟨17, rd, rs1, rs2, true, imm⟩ : Ix).agg] w fun e w' => e = .returned (.bool (mayB (⟨17, rd, rs1, rs2, true, imm⟩ : Ix))) ∧ Below w.heap.size w w' := by
  obtain ⟨b0, b1, b2, b3, b4⟩ := hb
  simp only at b0 b1 b2 b3 b4
  have HT := ihid ht
  have E1 := ihid (show hasK (kindS 17) = 25 from by decide)
  have HB := ihid (show lowS 17 = -1048576 ∧ highS 17 = 1048575 from by decide)
  have HK := ihid (show kindS 17 = 4 from by decide)
  clear ht
  have g6 : decide (6 < rd) = false := by simp; omega
  have g1 : decide (31 < rd) = false := by simp; omega
  have g2 : decide (31 < rs1) = false := by simp; omega
  have g3 : decide (31 < rs2) = false := by simp; omega
  have q1 : bits .and .u8 25 1 = 1 := by decide
  have q2 : bits .and .u8 25 2 = 0 := by decide
  have q4 : bits .and .u8 25 4 = 0 := by decide
  have q8 : bits .and .u8 25 8 = 8 := by decide
  go_enter Tryz.func222, Tryz.ntmps222
  go_wp2_with fail
  refine (ihas_any 17 25 (by omega) (by omega) E1.out _ (HT.out.keep ((Below.refl _ w).alloc (Nat.le_refl _) _))).mono ?_
  rintro e w' ⟨rfl, rfl⟩
  go_wp2_with fail
  go_region
  go_wp2_with fail
  refine (bounds_any 17 _ _ HB.out.1 HB.out.2 _).mono ?_
  rintro e w' ⟨rfl, rfl⟩
  go_wp2_with fail
  all_goals
    go_ret
    refine ⟨iretb ((may_eq HK.out).trans ?_).symm, by first | exact may_below w _ _ | exact may_below2 w _ _⟩
    rw [Bool.eq_iff_iff]
    first | (simp [okS]; done) | (simp [okS]; omega)
set_option maxRecDepth 100000 in
set_option maxHeartbeats 1000000 in
theorem may_4f (rd rs1 rs2 imm : Int) (hb : (⟨17, rd, rs1, rs2, false, imm⟩ : Ix).bd) (h1 : rd ≤ 31) (h2 : rs1 ≤ 31) (h3 : rs2 ≤ 31) (h6 : rd ≤ 6) (w : World) (ht : Tab w) :
    Calls Tryz.prog 222 #[(⟨17, rd, rs1, rs2, false, imm⟩ : Ix).agg] w fun e w' => e = .returned (.bool (mayB (⟨17, rd, rs1, rs2, false, imm⟩ : Ix))) ∧ Below w.heap.size w w' := by
  obtain ⟨b0, b1, b2, b3, b4⟩ := hb
  simp only at b0 b1 b2 b3 b4
  have HT := ihid ht
  have E1 := ihid (show hasK (kindS 17) = 25 from by decide)
  have HB := ihid (show lowS 17 = -1048576 ∧ highS 17 = 1048575 from by decide)
  have HK := ihid (show kindS 17 = 4 from by decide)
  clear ht
  have g6 : decide (6 < rd) = false := by simp; omega
  have g1 : decide (31 < rd) = false := by simp; omega
  have g2 : decide (31 < rs1) = false := by simp; omega
  have g3 : decide (31 < rs2) = false := by simp; omega
  have q1 : bits .and .u8 25 1 = 1 := by decide
  have q2 : bits .and .u8 25 2 = 0 := by decide
  have q4 : bits .and .u8 25 4 = 0 := by decide
  have q8 : bits .and .u8 25 8 = 8 := by decide
  go_enter Tryz.func222, Tryz.ntmps222
  go_wp2_with fail
  refine (ihas_any 17 25 (by omega) (by omega) E1.out _ (HT.out.keep ((Below.refl _ w).alloc (Nat.le_refl _) _))).mono ?_
  rintro e w' ⟨rfl, rfl⟩
  go_wp2_with fail
  go_region
  go_wp2_with fail
  refine (bounds_any 17 _ _ HB.out.1 HB.out.2 _).mono ?_
  rintro e w' ⟨rfl, rfl⟩
  go_wp2_with fail
  all_goals
    go_ret
    refine ⟨iretb ((may_eq HK.out).trans ?_).symm, by first | exact may_below w _ _ | exact may_below2 w _ _⟩
    rw [Bool.eq_iff_iff]
    first | (simp [okS]; done) | (simp [okS]; omega)
set_option maxRecDepth 100000 in
set_option maxHeartbeats 1000000 in
theorem may_5t (rd rs1 rs2 imm : Int) (hb : (⟨18, rd, rs1, rs2, true, imm⟩ : Ix).bd) (h1 : rd ≤ 31) (h2 : rs1 ≤ 31) (h3 : rs2 ≤ 31) (w : World) (ht : Tab w) :
    Calls Tryz.prog 222 #[(⟨18, rd, rs1, rs2, true, imm⟩ : Ix).agg] w fun e w' => e = .returned (.bool (mayB (⟨18, rd, rs1, rs2, true, imm⟩ : Ix))) ∧ Below w.heap.size w w' := by
  obtain ⟨b0, b1, b2, b3, b4⟩ := hb
  simp only at b0 b1 b2 b3 b4
  have HT := ihid ht
  have E1 := ihid (show hasK (kindS 18) = 24 from by decide)
  have HB := ihid (show lowS 18 = -1048576 ∧ highS 18 = 1048575 from by decide)
  have HK := ihid (show kindS 18 = 5 from by decide)
  clear ht
  have g1 : decide (31 < rd) = false := by simp; omega
  have g2 : decide (31 < rs1) = false := by simp; omega
  have g3 : decide (31 < rs2) = false := by simp; omega
  have q1 : bits .and .u8 24 1 = 0 := by decide
  have q2 : bits .and .u8 24 2 = 0 := by decide
  have q4 : bits .and .u8 24 4 = 0 := by decide
  have q8 : bits .and .u8 24 8 = 8 := by decide
  go_enter Tryz.func222, Tryz.ntmps222
  go_wp2_with fail
  refine (ihas_any 18 24 (by omega) (by omega) E1.out _ (HT.out.keep ((Below.refl _ w).alloc (Nat.le_refl _) _))).mono ?_
  rintro e w' ⟨rfl, rfl⟩
  go_wp2_with fail
  go_region
  go_wp2_with fail
  refine (bounds_any 18 _ _ HB.out.1 HB.out.2 _).mono ?_
  rintro e w' ⟨rfl, rfl⟩
  go_wp2_with fail
  all_goals
    go_ret
    refine ⟨iretb ((may_eq HK.out).trans ?_).symm, by first | exact may_below w _ _ | exact may_below2 w _ _⟩
    rw [Bool.eq_iff_iff]
    first | (simp [okS]; done) | (simp [okS]; omega)
set_option maxRecDepth 100000 in
set_option maxHeartbeats 1000000 in
theorem may_5f (rd rs1 rs2 imm : Int) (hb : (⟨18, rd, rs1, rs2, false, imm⟩ : Ix).bd) (h1 : rd ≤ 31) (h2 : rs1 ≤ 31) (h3 : rs2 ≤ 31) (w : World) (ht : Tab w) :
    Calls Tryz.prog 222 #[(⟨18, rd, rs1, rs2, false, imm⟩ : Ix).agg] w fun e w' => e = .returned (.bool (mayB (⟨18, rd, rs1, rs2, false, imm⟩ : Ix))) ∧ Below w.heap.size w w' := by
  obtain ⟨b0, b1, b2, b3, b4⟩ := hb
  simp only at b0 b1 b2 b3 b4
  have HT := ihid ht
  have E1 := ihid (show hasK (kindS 18) = 24 from by decide)
  have HB := ihid (show lowS 18 = -1048576 ∧ highS 18 = 1048575 from by decide)
  have HK := ihid (show kindS 18 = 5 from by decide)
  clear ht
  have g1 : decide (31 < rd) = false := by simp; omega
  have g2 : decide (31 < rs1) = false := by simp; omega
  have g3 : decide (31 < rs2) = false := by simp; omega
  have q1 : bits .and .u8 24 1 = 0 := by decide
  have q2 : bits .and .u8 24 2 = 0 := by decide
  have q4 : bits .and .u8 24 4 = 0 := by decide
  have q8 : bits .and .u8 24 8 = 8 := by decide
  go_enter Tryz.func222, Tryz.ntmps222
  go_wp2_with fail
  refine (ihas_any 18 24 (by omega) (by omega) E1.out _ (HT.out.keep ((Below.refl _ w).alloc (Nat.le_refl _) _))).mono ?_
  rintro e w' ⟨rfl, rfl⟩
  go_wp2_with fail
  go_region
  go_wp2_with fail
  refine (bounds_any 18 _ _ HB.out.1 HB.out.2 _).mono ?_
  rintro e w' ⟨rfl, rfl⟩
  go_wp2_with fail
  all_goals
    go_ret
    refine ⟨iretb ((may_eq HK.out).trans ?_).symm, by first | exact may_below w _ _ | exact may_below2 w _ _⟩
    rw [Bool.eq_iff_iff]
    first | (simp [okS]; done) | (simp [okS]; omega)
set_option maxRecDepth 100000 in
set_option maxHeartbeats 1000000 in
theorem may_6t (op rd rs1 rs2 imm : Int) (hb : (⟨op, rd, rs1, rs2, true, imm⟩ : Ix).bd) (hk : kindS op = 6) (h1 : rd ≤ 31) (h2 : rs1 ≤ 31) (h3 : rs2 ≤ 31) (w : World) (ht : Tab w) :
    Calls Tryz.prog 222 #[(⟨op, rd, rs1, rs2, true, imm⟩ : Ix).agg] w fun e w' => e = .returned (.bool (mayB (⟨op, rd, rs1, rs2, true, imm⟩ : Ix))) ∧ Below w.heap.size w w' := by
  obtain ⟨b0, b1, b2, b3, b4⟩ := hb
  simp only at b0 b1 b2 b3 b4
  have HT := ihid ht
  obtain ⟨hop, hlo, hhi⟩ := low_of (op := op) (by simp [hk])
  have e17 : (op == 17) = false := by simpa using hop.2.1
  have E1 := ihid (show hasK (kindS op) = 1 by rw [hk]; rfl)
  have HK := ihid (show kindS op = 6 from hk)
  have HB := ihid (And.intro hlo hhi)
  clear ht hk hop hlo hhi
  have g1 : decide (31 < rd) = false := by simp; omega
  have g2 : decide (31 < rs1) = false := by simp; omega
  have g3 : decide (31 < rs2) = false := by simp; omega
  have q1 : bits .and .u8 1 1 = 1 := by decide
  have q2 : bits .and .u8 1 2 = 0 := by decide
  have q4 : bits .and .u8 1 4 = 0 := by decide
  have q8 : bits .and .u8 1 8 = 0 := by decide
  go_enter Tryz.func222, Tryz.ntmps222
  go_wp2_with fail
  refine (ihas_any op 1 b0.1 b0.2 E1.out _ (HT.out.keep ((Below.refl _ w).alloc (Nat.le_refl _) _))).mono ?_
  rintro e w' ⟨rfl, rfl⟩
  go_wp2_with fail
  refine (bounds_any op _ _ HB.out.1 HB.out.2 _).mono ?_
  rintro e w' ⟨rfl, rfl⟩
  go_wp2_with fail
  all_goals
    go_ret
    refine ⟨iretb ((may_eq HK.out).trans ?_).symm, by first | exact may_below w _ _ | exact may_below2 w _ _⟩
    rw [Bool.eq_iff_iff]
    first | (simp [okS]; done) | (simp [okS]; omega)
set_option maxRecDepth 100000 in
set_option maxHeartbeats 1000000 in
theorem may_6f (op rd rs1 rs2 imm : Int) (hb : (⟨op, rd, rs1, rs2, false, imm⟩ : Ix).bd) (hk : kindS op = 6) (h1 : rd ≤ 31) (h2 : rs1 ≤ 31) (h3 : rs2 ≤ 31) (w : World) (ht : Tab w) :
    Calls Tryz.prog 222 #[(⟨op, rd, rs1, rs2, false, imm⟩ : Ix).agg] w fun e w' => e = .returned (.bool (mayB (⟨op, rd, rs1, rs2, false, imm⟩ : Ix))) ∧ Below w.heap.size w w' := by
  obtain ⟨b0, b1, b2, b3, b4⟩ := hb
  simp only at b0 b1 b2 b3 b4
  have HT := ihid ht
  obtain ⟨hop, hlo, hhi⟩ := low_of (op := op) (by simp [hk])
  have e17 : (op == 17) = false := by simpa using hop.2.1
  have E1 := ihid (show hasK (kindS op) = 1 by rw [hk]; rfl)
  have HK := ihid (show kindS op = 6 from hk)
  have HB := ihid (And.intro hlo hhi)
  clear ht hk hop hlo hhi
  have g1 : decide (31 < rd) = false := by simp; omega
  have g2 : decide (31 < rs1) = false := by simp; omega
  have g3 : decide (31 < rs2) = false := by simp; omega
  have q1 : bits .and .u8 1 1 = 1 := by decide
  have q2 : bits .and .u8 1 2 = 0 := by decide
  have q4 : bits .and .u8 1 4 = 0 := by decide
  have q8 : bits .and .u8 1 8 = 0 := by decide
  go_enter Tryz.func222, Tryz.ntmps222
  go_wp2_with fail
  refine (ihas_any op 1 b0.1 b0.2 E1.out _ (HT.out.keep ((Below.refl _ w).alloc (Nat.le_refl _) _))).mono ?_
  rintro e w' ⟨rfl, rfl⟩
  go_wp2_with fail
  refine (bounds_any op _ _ HB.out.1 HB.out.2 _).mono ?_
  rintro e w' ⟨rfl, rfl⟩
  go_wp2_with fail
  all_goals
    go_ret
    refine ⟨iretb ((may_eq HK.out).trans ?_).symm, by first | exact may_below w _ _ | exact may_below2 w _ _⟩
    rw [Bool.eq_iff_iff]
    first | (simp [okS]; done) | (simp [okS]; omega)
set_option maxRecDepth 100000 in
set_option maxHeartbeats 1000000 in
theorem may_7t (rd rs1 rs2 imm : Int) (hb : (⟨30, rd, rs1, rs2, true, imm⟩ : Ix).bd) (h1 : rd ≤ 31) (h2 : rs1 ≤ 31) (h3 : rs2 ≤ 31) (w : World) (ht : Tab w) :
    Calls Tryz.prog 222 #[(⟨30, rd, rs1, rs2, true, imm⟩ : Ix).agg] w fun e w' => e = .returned (.bool (mayB (⟨30, rd, rs1, rs2, true, imm⟩ : Ix))) ∧ Below w.heap.size w w' := by
  obtain ⟨b0, b1, b2, b3, b4⟩ := hb
  simp only at b0 b1 b2 b3 b4
  have HT := ihid ht
  have E1 := ihid (show hasK (kindS 30) = 9 from by decide)
  have HB := ihid (show lowS 30 = 0 ∧ highS 30 = 1 from by decide)
  have HK := ihid (show kindS 30 = 7 from by decide)
  clear ht
  have g1 : decide (31 < rd) = false := by simp; omega
  have g2 : decide (31 < rs1) = false := by simp; omega
  have g3 : decide (31 < rs2) = false := by simp; omega
  have q1 : bits .and .u8 9 1 = 1 := by decide
  have q2 : bits .and .u8 9 2 = 0 := by decide
  have q4 : bits .and .u8 9 4 = 0 := by decide
  have q8 : bits .and .u8 9 8 = 8 := by decide
  go_enter Tryz.func222, Tryz.ntmps222
  go_wp2_with fail
  refine (ihas_any 30 9 (by omega) (by omega) E1.out _ (HT.out.keep ((Below.refl _ w).alloc (Nat.le_refl _) _))).mono ?_
  rintro e w' ⟨rfl, rfl⟩
  go_wp2_with fail
  go_region
  go_wp2_with fail
  refine (bounds_any 30 _ _ HB.out.1 HB.out.2 _).mono ?_
  rintro e w' ⟨rfl, rfl⟩
  go_wp2_with fail
  all_goals
    go_ret
    refine ⟨iretb ((may_eq HK.out).trans ?_).symm, by first | exact may_below w _ _ | exact may_below2 w _ _⟩
    rw [Bool.eq_iff_iff]
    first | (simp [okS]; done) | (simp [okS]; omega)
set_option maxRecDepth 100000 in
set_option maxHeartbeats 1000000 in
theorem may_7f (rd rs1 rs2 imm : Int) (hb : (⟨30, rd, rs1, rs2, false, imm⟩ : Ix).bd) (h1 : rd ≤ 31) (h2 : rs1 ≤ 31) (h3 : rs2 ≤ 31) (w : World) (ht : Tab w) :
    Calls Tryz.prog 222 #[(⟨30, rd, rs1, rs2, false, imm⟩ : Ix).agg] w fun e w' => e = .returned (.bool (mayB (⟨30, rd, rs1, rs2, false, imm⟩ : Ix))) ∧ Below w.heap.size w w' := by
  obtain ⟨b0, b1, b2, b3, b4⟩ := hb
  simp only at b0 b1 b2 b3 b4
  have HT := ihid ht
  have E1 := ihid (show hasK (kindS 30) = 9 from by decide)
  have HB := ihid (show lowS 30 = 0 ∧ highS 30 = 1 from by decide)
  have HK := ihid (show kindS 30 = 7 from by decide)
  clear ht
  have g1 : decide (31 < rd) = false := by simp; omega
  have g2 : decide (31 < rs1) = false := by simp; omega
  have g3 : decide (31 < rs2) = false := by simp; omega
  have q1 : bits .and .u8 9 1 = 1 := by decide
  have q2 : bits .and .u8 9 2 = 0 := by decide
  have q4 : bits .and .u8 9 4 = 0 := by decide
  have q8 : bits .and .u8 9 8 = 8 := by decide
  go_enter Tryz.func222, Tryz.ntmps222
  go_wp2_with fail
  refine (ihas_any 30 9 (by omega) (by omega) E1.out _ (HT.out.keep ((Below.refl _ w).alloc (Nat.le_refl _) _))).mono ?_
  rintro e w' ⟨rfl, rfl⟩
  go_wp2_with fail
  go_region
  go_wp2_with fail
  refine (bounds_any 30 _ _ HB.out.1 HB.out.2 _).mono ?_
  rintro e w' ⟨rfl, rfl⟩
  go_wp2_with fail
  all_goals
    go_ret
    refine ⟨iretb ((may_eq HK.out).trans ?_).symm, by first | exact may_below w _ _ | exact may_below2 w _ _⟩
    rw [Bool.eq_iff_iff]
    first | (simp [okS]; done) | (simp [okS]; omega)
set_option maxRecDepth 100000 in
set_option maxHeartbeats 1000000 in
theorem may_8t (rd rs1 rs2 imm : Int) (hb : (⟨31, rd, rs1, rs2, true, imm⟩ : Ix).bd) (h1 : rd ≤ 31) (h2 : rs1 ≤ 31) (h3 : rs2 ≤ 31) (w : World) (ht : Tab w) :
    Calls Tryz.prog 222 #[(⟨31, rd, rs1, rs2, true, imm⟩ : Ix).agg] w fun e w' => e = .returned (.bool (mayB (⟨31, rd, rs1, rs2, true, imm⟩ : Ix))) ∧ Below w.heap.size w w' := by
  obtain ⟨b0, b1, b2, b3, b4⟩ := hb
  simp only at b0 b1 b2 b3 b4
  have HT := ihid ht
  have E1 := ihid (show hasK (kindS 31) = 10 from by decide)
  have HB := ihid (show lowS 31 = 0 ∧ highS 31 = 1 from by decide)
  have HK := ihid (show kindS 31 = 8 from by decide)
  clear ht
  have g1 : decide (31 < rd) = false := by simp; omega
  have g2 : decide (31 < rs1) = false := by simp; omega
  have g3 : decide (31 < rs2) = false := by simp; omega
  have q1 : bits .and .u8 10 1 = 0 := by decide
  have q2 : bits .and .u8 10 2 = 2 := by decide
  have q4 : bits .and .u8 10 4 = 0 := by decide
  have q8 : bits .and .u8 10 8 = 8 := by decide
  go_enter Tryz.func222, Tryz.ntmps222
  go_wp2_with fail
  refine (ihas_any 31 10 (by omega) (by omega) E1.out _ (HT.out.keep ((Below.refl _ w).alloc (Nat.le_refl _) _))).mono ?_
  rintro e w' ⟨rfl, rfl⟩
  go_wp2_with fail
  go_region
  go_wp2_with fail
  refine (bounds_any 31 _ _ HB.out.1 HB.out.2 _).mono ?_
  rintro e w' ⟨rfl, rfl⟩
  go_wp2_with fail
  all_goals
    go_ret
    refine ⟨iretb ((may_eq HK.out).trans ?_).symm, by first | exact may_below w _ _ | exact may_below2 w _ _⟩
    rw [Bool.eq_iff_iff]
    first | (simp [okS]; done) | (simp [okS]; omega)
set_option maxRecDepth 100000 in
set_option maxHeartbeats 1000000 in
theorem may_8f (rd rs1 rs2 imm : Int) (hb : (⟨31, rd, rs1, rs2, false, imm⟩ : Ix).bd) (h1 : rd ≤ 31) (h2 : rs1 ≤ 31) (h3 : rs2 ≤ 31) (w : World) (ht : Tab w) :
    Calls Tryz.prog 222 #[(⟨31, rd, rs1, rs2, false, imm⟩ : Ix).agg] w fun e w' => e = .returned (.bool (mayB (⟨31, rd, rs1, rs2, false, imm⟩ : Ix))) ∧ Below w.heap.size w w' := by
  obtain ⟨b0, b1, b2, b3, b4⟩ := hb
  simp only at b0 b1 b2 b3 b4
  have HT := ihid ht
  have E1 := ihid (show hasK (kindS 31) = 10 from by decide)
  have HB := ihid (show lowS 31 = 0 ∧ highS 31 = 1 from by decide)
  have HK := ihid (show kindS 31 = 8 from by decide)
  clear ht
  have g1 : decide (31 < rd) = false := by simp; omega
  have g2 : decide (31 < rs1) = false := by simp; omega
  have g3 : decide (31 < rs2) = false := by simp; omega
  have q1 : bits .and .u8 10 1 = 0 := by decide
  have q2 : bits .and .u8 10 2 = 2 := by decide
  have q4 : bits .and .u8 10 4 = 0 := by decide
  have q8 : bits .and .u8 10 8 = 8 := by decide
  go_enter Tryz.func222, Tryz.ntmps222
  go_wp2_with fail
  refine (ihas_any 31 10 (by omega) (by omega) E1.out _ (HT.out.keep ((Below.refl _ w).alloc (Nat.le_refl _) _))).mono ?_
  rintro e w' ⟨rfl, rfl⟩
  go_wp2_with fail
  go_region
  go_wp2_with fail
  refine (bounds_any 31 _ _ HB.out.1 HB.out.2 _).mono ?_
  rintro e w' ⟨rfl, rfl⟩
  go_wp2_with fail
  all_goals
    go_ret
    refine ⟨iretb ((may_eq HK.out).trans ?_).symm, by first | exact may_below w _ _ | exact may_below2 w _ _⟩
    rw [Bool.eq_iff_iff]
    first | (simp [okS]; done) | (simp [okS]; omega)
set_option maxRecDepth 100000 in
set_option maxHeartbeats 1000000 in
theorem may_9t (rd rs1 rs2 imm : Int) (hb : (⟨33, rd, rs1, rs2, true, imm⟩ : Ix).bd) (h1 : rd ≤ 31) (h2 : rs1 ≤ 31) (h3 : rs2 ≤ 31) (w : World) (ht : Tab w) :
    Calls Tryz.prog 222 #[(⟨33, rd, rs1, rs2, true, imm⟩ : Ix).agg] w fun e w' => e = .returned (.bool (mayB (⟨33, rd, rs1, rs2, true, imm⟩ : Ix))) ∧ Below w.heap.size w w' := by
  obtain ⟨b0, b1, b2, b3, b4⟩ := hb
  simp only at b0 b1 b2 b3 b4
  have HT := ihid ht
  have E1 := ihid (show hasK (kindS 33) = 8 from by decide)
  have HB := ihid (show lowS 33 = 3 ∧ highS 33 = 4 from by decide)
  have HK := ihid (show kindS 33 = 9 from by decide)
  clear ht
  have g1 : decide (31 < rd) = false := by simp; omega
  have g2 : decide (31 < rs1) = false := by simp; omega
  have g3 : decide (31 < rs2) = false := by simp; omega
  have q1 : bits .and .u8 8 1 = 0 := by decide
  have q2 : bits .and .u8 8 2 = 0 := by decide
  have q4 : bits .and .u8 8 4 = 0 := by decide
  have q8 : bits .and .u8 8 8 = 8 := by decide
  go_enter Tryz.func222, Tryz.ntmps222
  go_wp2_with fail
  refine (ihas_any 33 8 (by omega) (by omega) E1.out _ (HT.out.keep ((Below.refl _ w).alloc (Nat.le_refl _) _))).mono ?_
  rintro e w' ⟨rfl, rfl⟩
  go_wp2_with fail
  go_region
  go_wp2_with fail
  refine (bounds_any 33 _ _ HB.out.1 HB.out.2 _).mono ?_
  rintro e w' ⟨rfl, rfl⟩
  go_wp2_with fail
  all_goals
    go_ret
    refine ⟨iretb ((may_eq HK.out).trans ?_).symm, by first | exact may_below w _ _ | exact may_below2 w _ _⟩
    rw [Bool.eq_iff_iff]
    first | (simp [okS]; done) | (simp [okS]; omega)
set_option maxRecDepth 100000 in
set_option maxHeartbeats 1000000 in
theorem may_9f (rd rs1 rs2 imm : Int) (hb : (⟨33, rd, rs1, rs2, false, imm⟩ : Ix).bd) (h1 : rd ≤ 31) (h2 : rs1 ≤ 31) (h3 : rs2 ≤ 31) (w : World) (ht : Tab w) :
    Calls Tryz.prog 222 #[(⟨33, rd, rs1, rs2, false, imm⟩ : Ix).agg] w fun e w' => e = .returned (.bool (mayB (⟨33, rd, rs1, rs2, false, imm⟩ : Ix))) ∧ Below w.heap.size w w' := by
  obtain ⟨b0, b1, b2, b3, b4⟩ := hb
  simp only at b0 b1 b2 b3 b4
  have HT := ihid ht
  have E1 := ihid (show hasK (kindS 33) = 8 from by decide)
  have HB := ihid (show lowS 33 = 3 ∧ highS 33 = 4 from by decide)
  have HK := ihid (show kindS 33 = 9 from by decide)
  clear ht
  have g1 : decide (31 < rd) = false := by simp; omega
  have g2 : decide (31 < rs1) = false := by simp; omega
  have g3 : decide (31 < rs2) = false := by simp; omega
  have q1 : bits .and .u8 8 1 = 0 := by decide
  have q2 : bits .and .u8 8 2 = 0 := by decide
  have q4 : bits .and .u8 8 4 = 0 := by decide
  have q8 : bits .and .u8 8 8 = 8 := by decide
  go_enter Tryz.func222, Tryz.ntmps222
  go_wp2_with fail
  refine (ihas_any 33 8 (by omega) (by omega) E1.out _ (HT.out.keep ((Below.refl _ w).alloc (Nat.le_refl _) _))).mono ?_
  rintro e w' ⟨rfl, rfl⟩
  go_wp2_with fail
  go_region
  go_wp2_with fail
  refine (bounds_any 33 _ _ HB.out.1 HB.out.2 _).mono ?_
  rintro e w' ⟨rfl, rfl⟩
  go_wp2_with fail
  all_goals
    go_ret
    refine ⟨iretb ((may_eq HK.out).trans ?_).symm, by first | exact may_below w _ _ | exact may_below2 w _ _⟩
    rw [Bool.eq_iff_iff]
    first | (simp [okS]; done) | (simp [okS]; omega)
set_option maxRecDepth 100000 in
set_option maxHeartbeats 1000000 in
theorem may_10t (op rd rs1 rs2 imm : Int) (hb : (⟨op, rd, rs1, rs2, true, imm⟩ : Ix).bd) (hk : kindS op = 10) (h1 : rd ≤ 31) (h2 : rs1 ≤ 31) (h3 : rs2 ≤ 31) (w : World) (ht : Tab w) :
    Calls Tryz.prog 222 #[(⟨op, rd, rs1, rs2, true, imm⟩ : Ix).agg] w fun e w' => e = .returned (.bool (mayB (⟨op, rd, rs1, rs2, true, imm⟩ : Ix))) ∧ Below w.heap.size w w' := by
  obtain ⟨b0, b1, b2, b3, b4⟩ := hb
  simp only at b0 b1 b2 b3 b4
  have HT := ihid ht
  obtain ⟨hop, hlo, hhi⟩ := low_of (op := op) (by simp [hk])
  have e17 : (op == 17) = false := by simpa using hop.2.1
  have E1 := ihid (show hasK (kindS op) = 2 by rw [hk]; rfl)
  have HK := ihid (show kindS op = 10 from hk)
  have HB := ihid (And.intro hlo hhi)
  clear ht hk hop hlo hhi
  have g1 : decide (31 < rd) = false := by simp; omega
  have g2 : decide (31 < rs1) = false := by simp; omega
  have g3 : decide (31 < rs2) = false := by simp; omega
  have q1 : bits .and .u8 2 1 = 0 := by decide
  have q2 : bits .and .u8 2 2 = 2 := by decide
  have q4 : bits .and .u8 2 4 = 0 := by decide
  have q8 : bits .and .u8 2 8 = 0 := by decide
  go_enter Tryz.func222, Tryz.ntmps222
  go_wp2_with fail
  refine (ihas_any op 2 b0.1 b0.2 E1.out _ (HT.out.keep ((Below.refl _ w).alloc (Nat.le_refl _) _))).mono ?_
  rintro e w' ⟨rfl, rfl⟩
  go_wp2_with fail
  refine (bounds_any op _ _ HB.out.1 HB.out.2 _).mono ?_
  rintro e w' ⟨rfl, rfl⟩
  go_wp2_with fail
  all_goals
    go_ret
    refine ⟨iretb ((may_eq HK.out).trans ?_).symm, by first | exact may_below w _ _ | exact may_below2 w _ _⟩
    rw [Bool.eq_iff_iff]
    first | (simp [okS]; done) | (simp [okS]; omega)
set_option maxRecDepth 100000 in
set_option maxHeartbeats 1000000 in
theorem may_10f (op rd rs1 rs2 imm : Int) (hb : (⟨op, rd, rs1, rs2, false, imm⟩ : Ix).bd) (hk : kindS op = 10) (h1 : rd ≤ 31) (h2 : rs1 ≤ 31) (h3 : rs2 ≤ 31) (w : World) (ht : Tab w) :
    Calls Tryz.prog 222 #[(⟨op, rd, rs1, rs2, false, imm⟩ : Ix).agg] w fun e w' => e = .returned (.bool (mayB (⟨op, rd, rs1, rs2, false, imm⟩ : Ix))) ∧ Below w.heap.size w w' := by
  obtain ⟨b0, b1, b2, b3, b4⟩ := hb
  simp only at b0 b1 b2 b3 b4
  have HT := ihid ht
  obtain ⟨hop, hlo, hhi⟩ := low_of (op := op) (by simp [hk])
  have e17 : (op == 17) = false := by simpa using hop.2.1
  have E1 := ihid (show hasK (kindS op) = 2 by rw [hk]; rfl)
  have HK := ihid (show kindS op = 10 from hk)
  have HB := ihid (And.intro hlo hhi)
  clear ht hk hop hlo hhi
  have g1 : decide (31 < rd) = false := by simp; omega
  have g2 : decide (31 < rs1) = false := by simp; omega
  have g3 : decide (31 < rs2) = false := by simp; omega
  have q1 : bits .and .u8 2 1 = 0 := by decide
  have q2 : bits .and .u8 2 2 = 2 := by decide
  have q4 : bits .and .u8 2 4 = 0 := by decide
  have q8 : bits .and .u8 2 8 = 0 := by decide
  go_enter Tryz.func222, Tryz.ntmps222
  go_wp2_with fail
  refine (ihas_any op 2 b0.1 b0.2 E1.out _ (HT.out.keep ((Below.refl _ w).alloc (Nat.le_refl _) _))).mono ?_
  rintro e w' ⟨rfl, rfl⟩
  go_wp2_with fail
  refine (bounds_any op _ _ HB.out.1 HB.out.2 _).mono ?_
  rintro e w' ⟨rfl, rfl⟩
  go_wp2_with fail
  all_goals
    go_ret
    refine ⟨iretb ((may_eq HK.out).trans ?_).symm, by first | exact may_below w _ _ | exact may_below2 w _ _⟩
    rw [Bool.eq_iff_iff]
    first | (simp [okS]; done) | (simp [okS]; omega)
set_option maxRecDepth 100000 in
set_option maxHeartbeats 1000000 in
theorem may_11t (rd rs1 rs2 imm : Int) (hb : (⟨37, rd, rs1, rs2, true, imm⟩ : Ix).bd) (h1 : rd ≤ 31) (h2 : rs1 ≤ 31) (h3 : rs2 ≤ 31) (w : World) (ht : Tab w) :
    Calls Tryz.prog 222 #[(⟨37, rd, rs1, rs2, true, imm⟩ : Ix).agg] w fun e w' => e = .returned (.bool (mayB (⟨37, rd, rs1, rs2, true, imm⟩ : Ix))) ∧ Below w.heap.size w w' := by
  obtain ⟨b0, b1, b2, b3, b4⟩ := hb
  simp only at b0 b1 b2 b3 b4
  have HT := ihid ht
  have E1 := ihid (show hasK (kindS 37) = 8 from by decide)
  have HB := ihid (show lowS 37 = 1 ∧ highS 37 = 3 from by decide)
  have HK := ihid (show kindS 37 = 11 from by decide)
  clear ht
  have g1 : decide (31 < rd) = false := by simp; omega
  have g2 : decide (31 < rs1) = false := by simp; omega
  have g3 : decide (31 < rs2) = false := by simp; omega
  have q1 : bits .and .u8 8 1 = 0 := by decide
  have q2 : bits .and .u8 8 2 = 0 := by decide
  have q4 : bits .and .u8 8 4 = 0 := by decide
  have q8 : bits .and .u8 8 8 = 8 := by decide
  go_enter Tryz.func222, Tryz.ntmps222
  go_wp2_with fail
  refine (ihas_any 37 8 (by omega) (by omega) E1.out _ (HT.out.keep ((Below.refl _ w).alloc (Nat.le_refl _) _))).mono ?_
  rintro e w' ⟨rfl, rfl⟩
  go_wp2_with fail
  go_region
  go_wp2_with fail
  refine (bounds_any 37 _ _ HB.out.1 HB.out.2 _).mono ?_
  rintro e w' ⟨rfl, rfl⟩
  go_wp2_with fail
  all_goals
    go_ret
    refine ⟨iretb ((may_eq HK.out).trans ?_).symm, by first | exact may_below w _ _ | exact may_below2 w _ _⟩
    rw [Bool.eq_iff_iff]
    first | (simp [okS]; done) | (simp [okS]; omega)
set_option maxRecDepth 100000 in
set_option maxHeartbeats 1000000 in
theorem may_11f (rd rs1 rs2 imm : Int) (hb : (⟨37, rd, rs1, rs2, false, imm⟩ : Ix).bd) (h1 : rd ≤ 31) (h2 : rs1 ≤ 31) (h3 : rs2 ≤ 31) (w : World) (ht : Tab w) :
    Calls Tryz.prog 222 #[(⟨37, rd, rs1, rs2, false, imm⟩ : Ix).agg] w fun e w' => e = .returned (.bool (mayB (⟨37, rd, rs1, rs2, false, imm⟩ : Ix))) ∧ Below w.heap.size w w' := by
  obtain ⟨b0, b1, b2, b3, b4⟩ := hb
  simp only at b0 b1 b2 b3 b4
  have HT := ihid ht
  have E1 := ihid (show hasK (kindS 37) = 8 from by decide)
  have HB := ihid (show lowS 37 = 1 ∧ highS 37 = 3 from by decide)
  have HK := ihid (show kindS 37 = 11 from by decide)
  clear ht
  have g1 : decide (31 < rd) = false := by simp; omega
  have g2 : decide (31 < rs1) = false := by simp; omega
  have g3 : decide (31 < rs2) = false := by simp; omega
  have q1 : bits .and .u8 8 1 = 0 := by decide
  have q2 : bits .and .u8 8 2 = 0 := by decide
  have q4 : bits .and .u8 8 4 = 0 := by decide
  have q8 : bits .and .u8 8 8 = 8 := by decide
  go_enter Tryz.func222, Tryz.ntmps222
  go_wp2_with fail
  refine (ihas_any 37 8 (by omega) (by omega) E1.out _ (HT.out.keep ((Below.refl _ w).alloc (Nat.le_refl _) _))).mono ?_
  rintro e w' ⟨rfl, rfl⟩
  go_wp2_with fail
  go_region
  go_wp2_with fail
  refine (bounds_any 37 _ _ HB.out.1 HB.out.2 _).mono ?_
  rintro e w' ⟨rfl, rfl⟩
  go_wp2_with fail
  all_goals
    go_ret
    refine ⟨iretb ((may_eq HK.out).trans ?_).symm, by first | exact may_below w _ _ | exact may_below2 w _ _⟩
    rw [Bool.eq_iff_iff]
    first | (simp [okS]; done) | (simp [okS]; omega)
set_option maxRecDepth 100000 in
set_option maxHeartbeats 1000000 in
theorem may_12t (rd rs1 rs2 imm : Int) (hb : (⟨32, rd, rs1, rs2, true, imm⟩ : Ix).bd) (h1 : rd ≤ 31) (h2 : rs1 ≤ 31) (h3 : rs2 ≤ 31) (w : World) (ht : Tab w) :
    Calls Tryz.prog 222 #[(⟨32, rd, rs1, rs2, true, imm⟩ : Ix).agg] w fun e w' => e = .returned (.bool (mayB (⟨32, rd, rs1, rs2, true, imm⟩ : Ix))) ∧ Below w.heap.size w w' := by
  obtain ⟨b0, b1, b2, b3, b4⟩ := hb
  simp only at b0 b1 b2 b3 b4
  have HT := ihid ht
  have E1 := ihid (show hasK (kindS 32) = 0 from by decide)
  have HB := ihid (show lowS 32 = -16384 ∧ highS 32 = 16383 from by decide)
  have HK := ihid (show kindS 32 = 12 from by decide)
  clear ht
  have g1 : decide (31 < rd) = false := by simp; omega
  have g2 : decide (31 < rs1) = false := by simp; omega
  have g3 : decide (31 < rs2) = false := by simp; omega
  have q1 : bits .and .u8 0 1 = 0 := by decide
  have q2 : bits .and .u8 0 2 = 0 := by decide
  have q4 : bits .and .u8 0 4 = 0 := by decide
  have q8 : bits .and .u8 0 8 = 0 := by decide
  go_enter Tryz.func222, Tryz.ntmps222
  go_wp2_with fail
  refine (ihas_any 32 0 (by omega) (by omega) E1.out _ (HT.out.keep ((Below.refl _ w).alloc (Nat.le_refl _) _))).mono ?_
  rintro e w' ⟨rfl, rfl⟩
  go_wp2_with fail
  refine (bounds_any 32 _ _ HB.out.1 HB.out.2 _).mono ?_
  rintro e w' ⟨rfl, rfl⟩
  go_wp2_with fail
  all_goals
    go_ret
    refine ⟨iretb ((may_eq HK.out).trans ?_).symm, by first | exact may_below w _ _ | exact may_below2 w _ _⟩
    rw [Bool.eq_iff_iff]
    first | (simp [okS]; done) | (simp [okS]; omega)
set_option maxRecDepth 100000 in
set_option maxHeartbeats 1000000 in
theorem may_12f (rd rs1 rs2 imm : Int) (hb : (⟨32, rd, rs1, rs2, false, imm⟩ : Ix).bd) (h1 : rd ≤ 31) (h2 : rs1 ≤ 31) (h3 : rs2 ≤ 31) (w : World) (ht : Tab w) :
    Calls Tryz.prog 222 #[(⟨32, rd, rs1, rs2, false, imm⟩ : Ix).agg] w fun e w' => e = .returned (.bool (mayB (⟨32, rd, rs1, rs2, false, imm⟩ : Ix))) ∧ Below w.heap.size w w' := by
  obtain ⟨b0, b1, b2, b3, b4⟩ := hb
  simp only at b0 b1 b2 b3 b4
  have HT := ihid ht
  have E1 := ihid (show hasK (kindS 32) = 0 from by decide)
  have HB := ihid (show lowS 32 = -16384 ∧ highS 32 = 16383 from by decide)
  have HK := ihid (show kindS 32 = 12 from by decide)
  clear ht
  have g1 : decide (31 < rd) = false := by simp; omega
  have g2 : decide (31 < rs1) = false := by simp; omega
  have g3 : decide (31 < rs2) = false := by simp; omega
  have q1 : bits .and .u8 0 1 = 0 := by decide
  have q2 : bits .and .u8 0 2 = 0 := by decide
  have q4 : bits .and .u8 0 4 = 0 := by decide
  have q8 : bits .and .u8 0 8 = 0 := by decide
  go_enter Tryz.func222, Tryz.ntmps222
  go_wp2_with fail
  refine (ihas_any 32 0 (by omega) (by omega) E1.out _ (HT.out.keep ((Below.refl _ w).alloc (Nat.le_refl _) _))).mono ?_
  rintro e w' ⟨rfl, rfl⟩
  go_wp2_with fail
  refine (bounds_any 32 _ _ HB.out.1 HB.out.2 _).mono ?_
  rintro e w' ⟨rfl, rfl⟩
  go_wp2_with fail
  all_goals
    go_ret
    refine ⟨iretb ((may_eq HK.out).trans ?_).symm, by first | exact may_below w _ _ | exact may_below2 w _ _⟩
    rw [Bool.eq_iff_iff]
    first | (simp [okS]; done) | (simp [okS]; omega)
end Go.Proofs.YtkejnhleajfcjaaGreatDoor
/- Walks of inst.may, whole, and of inst.Encode. -/
namespace Go.Proofs.YtkejnhleajfcjaaGreatDoor
open Go.RowKit
set_option linter.unusedVariables false
set_option linter.unusedSimpArgs false
theorem may_out {x : Ix} (h : 31 < x.rd ∨ 31 < x.rs1 ∨ 31 < x.rs2 ∨ kindS x.op = 0 ∨ (x.op = 17 ∧ 6 < x.rd)) : mayB x = false := by
  unfold mayB mayP
  refine decide_eq_false ?_
  rintro ⟨h1, h2, h3, h4⟩
  rcases h with h | h | h | h | ⟨h, h'⟩
  · omega
  · omega
  · omega
  · rw [h] at h4; simp [okS] at h4
  · rw [h, show kindS 17 = 4 from by decide] at h4; simp [okS] at h4; omega
theorem hasK_no {k : Int} (h : k ≠ 0) (h0 : 0 ≤ k ∧ k ≤ 12) : (hasK k == 128) = false := by
  obtain ⟨n, rfl⟩ := Int.eq_ofNat_of_zero_le h0.1
  match n, h, h0 with
  | 0, h, _ => exact absurd rfl h
  | 1, _, _ => decide
  | 2, _, _ => decide
  | 3, _, _ => decide
  | 4, _, _ => decide
  | 5, _, _ => decide
  | 6, _, _ => decide
  | 7, _, _ => decide
  | 8, _, _ => decide
  | 9, _, _ => decide
  | 10, _, _ => decide
  | 11, _, _ => decide
  | 12, _, _ => decide
  | (n + 13), _, h0 => omega
set_option maxRecDepth 100000 in
set_option maxHeartbeats 1000000 in
theorem may_no (x : Ix) (hb : x.bd) (h : 31 < x.rd ∨ 31 < x.rs1 ∨ 31 < x.rs2 ∨ kindS x.op = 0 ∨ (x.op = 17 ∧ 6 < x.rd)) (w : World) (ht : Tab w) :
    Calls Tryz.prog 222 #[x.agg] w fun e w' => e = .returned (.bool (mayB x)) ∧ Below w.heap.size w w' := by
  rw [may_out h]
  obtain ⟨op, rd, rs1, rs2, is, imm⟩ := x
  obtain ⟨b0, b1, b2, b3, b4⟩ := hb
  simp only at b0 b1 b2 b3 b4 h
  have HT := ihid ht
  clear ht
  by_cases hk : kindS op = 0
  · have E1 := ihid (show hasK (kindS op) = 128 by rw [hk]; rfl)
    clear h hk
    go_enter Tryz.func222, Tryz.ntmps222
    go_wp2_with fail
    refine (ihas_any op 128 b0.1 b0.2 E1.out _ (HT.out.keep ((Below.refl _ w).alloc (Nat.le_refl _) _))).mono ?_
    rintro e w' ⟨rfl, rfl⟩
    go_wp2_with fail
    go_ret
    exact ⟨rfl, (Below.refl _ _).alloc (Nat.le_refl _) _⟩
  · have hh := hasK_no hk (kind_bd op)
    generalize hq : hasK (kindS op) = q at hh
    have E1 := ihid hq
    clear hq hk
    by_cases g1 : 31 < rd
    · have g1' : decide (31 < rd) = true := by simpa using g1
      clear h
      go_enter Tryz.func222, Tryz.ntmps222
      go_wp2_with fail
      refine (ihas_any op q b0.1 b0.2 E1.out _ (HT.out.keep ((Below.refl _ w).alloc (Nat.le_refl _) _))).mono ?_
      rintro e w' ⟨rfl, rfl⟩
      go_wp2_with fail
      go_ret
      exact ⟨rfl, (Below.refl _ _).alloc (Nat.le_refl _) _⟩
    · have g1' : decide (31 < rd) = false := by simpa using g1
      by_cases g2 : 31 < rs1
      · have g2' : decide (31 < rs1) = true := by simpa using g2
        clear h
        go_enter Tryz.func222, Tryz.ntmps222
        go_wp2_with fail
        refine (ihas_any op q b0.1 b0.2 E1.out _ (HT.out.keep ((Below.refl _ w).alloc (Nat.le_refl _) _))).mono ?_
        rintro e w' ⟨rfl, rfl⟩
        go_wp2_with fail
        go_ret
        exact ⟨rfl, (Below.refl _ _).alloc (Nat.le_refl _) _⟩
      · have g2' : decide (31 < rs1) = false := by simpa using g2
        by_cases g3 : 31 < rs2
        · have g3' : decide (31 < rs2) = true := by simpa using g3
          clear h
          go_enter Tryz.func222, Tryz.ntmps222
          go_wp2_with fail
          refine (ihas_any op q b0.1 b0.2 E1.out _ (HT.out.keep ((Below.refl _ w).alloc (Nat.le_refl _) _))).mono ?_
          rintro e w' ⟨rfl, rfl⟩
          go_wp2_with fail
          go_ret
          exact ⟨rfl, (Below.refl _ _).alloc (Nat.le_refl _) _⟩
        · have g3' : decide (31 < rs2) = false := by simpa using g3
          obtain ⟨rfl, g6⟩ : op = 17 ∧ 6 < rd := by
            rcases h with h | h | h | h | h
            · omega
            · omega
            · omega
            · exfalso; rw [h] at E1; have := E1.out; rw [← this] at hh; simp [hasK] at hh
            · exact h
          have g6' : decide (6 < rd) = true := by simpa using g6
          clear h
          go_enter Tryz.func222, Tryz.ntmps222
          go_wp2_with fail
          refine (ihas_any 17 q b0.1 b0.2 E1.out _ (HT.out.keep ((Below.refl _ w).alloc (Nat.le_refl _) _))).mono ?_
          rintro e w' ⟨rfl, rfl⟩
          go_wp2_with fail
          go_ret
          exact ⟨rfl, (Below.refl _ _).alloc (Nat.le_refl _) _⟩
theorem kind_fin : ∀ n : Fin 38, (kindS (n.val : Int) = 3 → n.val = 15) ∧ (kindS (n.val : Int) = 4 → n.val = 17) ∧ (kindS (n.val : Int) = 5 → n.val = 18) ∧ (kindS (n.val : Int) = 7 → n.val = 30) ∧ (kindS (n.val : Int) = 8 → n.val = 31) ∧ (kindS (n.val : Int) = 9 → n.val = 33) ∧ (kindS (n.val : Int) = 11 → n.val = 37) ∧ (kindS (n.val : Int) = 12 → n.val = 32) := by decide
theorem kind_one {op k : Int} (h : kindS op = k) : (k = 3 → op = 15) ∧ (k = 4 → op = 17) ∧ (k = 5 → op = 18) ∧ (k = 7 → op = 30) ∧ (k = 8 → op = 31) ∧ (k = 9 → op = 33) ∧ (k = 11 → op = 37) ∧ (k = 12 → op = 32) := by
  by_cases h0 : kindS op = 0
  · rw [h0] at h; omega
  · have hr := kind_op h0
    obtain ⟨n, rfl⟩ := Int.eq_ofNat_of_zero_le (show 0 ≤ op by omega)
    have hf := kind_fin ⟨n, by omega⟩
    simp only at hf
    rw [h] at hf
    omega
theorem may_any (x : Ix) (hb : x.bd) (w : World) (ht : Tab w) :
    Calls Tryz.prog 222 #[x.agg] w fun e w' => e = .returned (.bool (mayB x)) ∧ Below w.heap.size w w' := by
  by_cases h : 31 < x.rd ∨ 31 < x.rs1 ∨ 31 < x.rs2 ∨ kindS x.op = 0 ∨ (x.op = 17 ∧ 6 < x.rd)
  · exact may_no x hb h w ht
  · obtain ⟨op, rd, rs1, rs2, is, imm⟩ := x
    simp only [not_or] at h
    obtain ⟨h1, h2, h3, h4, h5⟩ := h
    have h1 : rd ≤ 31 := by omega
    have h2 : rs1 ≤ 31 := by omega
    have h3 : rs2 ≤ 31 := by omega
    obtain ⟨k3, k4, k5, k7, k8, k9, k11, k12⟩ := kind_one (op := op) rfl
    rcases kind_cases op with hk | hk | hk | hk | hk | hk | hk | hk | hk | hk | hk | hk | hk
    · exact absurd hk h4
    · cases is
      · exact may_1f _ _ _ _ _ hb hk h1 h2 h3 w ht
      · exact may_1t _ _ _ _ _ hb hk h1 h2 h3 w ht
    · cases is
      · exact may_2f _ _ _ _ _ hb hk h1 h2 h3 w ht
      · exact may_2t _ _ _ _ _ hb hk h1 h2 h3 w ht
    · obtain rfl := k3 hk
      cases is
      · exact may_3f _ _ _ _ hb h1 h2 h3 w ht
      · exact may_3t _ _ _ _ hb h1 h2 h3 w ht
    · obtain rfl := k4 hk
      have h6 : rd ≤ 6 := by omega
      cases is
      · exact may_4f _ _ _ _ hb h1 h2 h3 h6 w ht
      · exact may_4t _ _ _ _ hb h1 h2 h3 h6 w ht
    · obtain rfl := k5 hk
      cases is
      · exact may_5f _ _ _ _ hb h1 h2 h3 w ht
      · exact may_5t _ _ _ _ hb h1 h2 h3 w ht
    · cases is
      · exact may_6f _ _ _ _ _ hb hk h1 h2 h3 w ht
      · exact may_6t _ _ _ _ _ hb hk h1 h2 h3 w ht
    · obtain rfl := k7 hk
      cases is
      · exact may_7f _ _ _ _ hb h1 h2 h3 w ht
      · exact may_7t _ _ _ _ hb h1 h2 h3 w ht
    · obtain rfl := k8 hk
      cases is
      · exact may_8f _ _ _ _ hb h1 h2 h3 w ht
      · exact may_8t _ _ _ _ hb h1 h2 h3 w ht
    · obtain rfl := k9 hk
      cases is
      · exact may_9f _ _ _ _ hb h1 h2 h3 w ht
      · exact may_9t _ _ _ _ hb h1 h2 h3 w ht
    · cases is
      · exact may_10f _ _ _ _ _ hb hk h1 h2 h3 w ht
      · exact may_10t _ _ _ _ _ hb hk h1 h2 h3 w ht
    · obtain rfl := k11 hk
      cases is
      · exact may_11f _ _ _ _ hb h1 h2 h3 w ht
      · exact may_11t _ _ _ _ hb h1 h2 h3 w ht
    · obtain rfl := k12 hk
      cases is
      · exact may_12f _ _ _ _ hb h1 h2 h3 w ht
      · exact may_12t _ _ _ _ hb h1 h2 h3 w ht
set_option maxRecDepth 100000 in
set_option maxHeartbeats 1000000 in
theorem enc_no (x : Ix) (hb : x.bd) (hm : mayB x = false) (w : World) (ht : Tab w) :
    Calls Tryz.prog 129 #[x.agg] w fun e w' => e = .returned (.tuple #[.int .u32 0, .int .i64 2]) ∧ Below w.heap.size w w' := by
  have h := may_any x hb (w.alloc (.cells #[.int .u8 x.op, .int .u8 x.rd, .int .u8 x.rs1, .int .u8 x.rs2, .bool x.is, .int .i32 x.imm] 108)) (ht.keep ((Below.refl _ w).alloc (Nat.le_refl _) _))
  rw [hm] at h
  have H := ihid h
  clear h hm hb
  obtain ⟨op, rd, rs1, rs2, is, imm⟩ := x
  go_enter Tryz.func129, Tryz.ntmps129
  go_wp2_with fail
  refine H.out.mono ?_
  rintro e w' ⟨rfl, hbl⟩
  have HB := ihid hbl
  clear hbl
  go_wp2_with fail
  go_ret2
  exact ⟨rfl, ((Below.refl _ _).alloc (Nat.le_refl _) _).trans (HB.out.mono (by simp))⟩
/-- A number put behind another one is a sum. -/
theorem or_add {a b : Int} (k : Nat) (hk : k ≤ 32) (ha : 0 ≤ a) (ha2 : a < 4294967296) (hd : a % 2 ^ k = 0) (hb : 0 ≤ b) (hb2 : b < 2 ^ k) : bits .or .u32 a b = a + b := by
  obtain ⟨A, rfl⟩ := Int.eq_ofNat_of_zero_le ha
  obtain ⟨B, rfl⟩ := Int.eq_ofNat_of_zero_le hb
  have hp : (2 : Int) ^ k = ((2 ^ k : Nat) : Int) := by simp
  rw [hp] at hd hb2
  have hp2 : 2 ^ k ≤ 2 ^ 32 := Nat.pow_le_pow_right (by omega) hk
  have hB : B < 2 ^ k := by omega
  have hA : 2 ^ k * (A / 2 ^ k) = A := by
    have h1 : A % 2 ^ k = 0 := by omega
    have h2 := Nat.div_add_mod A (2 ^ k)
    omega
  rw [u32_or _ _ (by omega) ha2 (by omega) (by omega)]
  simp only [Int.toNat_natCast]
  rw [← hA, ← Nat.two_pow_add_eq_or_of_lt hB]
  omega
theorem and_mod {a : Int} (k : Nat) (m : Int) (hk : k ≤ 32) (hm : m = 2 ^ k - 1) (ha : 0 ≤ a) (ha2 : a < 4294967296) : bits .and .u32 a m = a % 2 ^ k := by
  subst hm
  obtain ⟨A, rfl⟩ := Int.eq_ofNat_of_zero_le ha
  have hp : (2 : Int) ^ k = ((2 ^ k : Nat) : Int) := by simp
  have h1 : 1 ≤ 2 ^ k := Nat.one_le_two_pow
  have hp2 : 2 ^ k ≤ 2 ^ 32 := Nat.pow_le_pow_right (by omega) hk
  rw [hp, u32_and _ _ (by omega) ha2 (by omega) (by omega)]
  rw [show ((2 ^ k : Nat) : Int) - 1 = ((2 ^ k - 1 : Nat) : Int) from by omega]
  simp only [Int.toNat_natCast]
  rw [Nat.and_two_pow_sub_one_eq_mod]
  omega
theorem or_two {op rd : Int} (b0 : 1 ≤ op ∧ op ≤ 37) (b1 : 0 ≤ rd ∧ rd ≤ 31) : bits .or .u32 (op * 67108864) (rd * 2097152) = op * 67108864 + rd * 2097152 :=
  or_add 26 (by omega) (by omega) (by omega) (by omega) (by omega) (by omega)
theorem imm_mod (imm : Int) (k : Nat) (m d : Int) (hk : k ≤ 32) (hm : m = 2 ^ k - 1) (hd : d = 2 ^ k) (hdd : (4294967296 : Int) % d = 0) : bits .and .u32 (imm % 4294967296) m = imm % d := by
  rw [and_mod k m hk hm (by omega) (by omega), ← hd]
  exact Int.emod_emod_of_dvd _ (Int.dvd_of_emod_eq_zero hdd)
theorem enc_w1 {op rd imm : Int} (b0 : 1 ≤ op ∧ op ≤ 37) (b1 : 0 ≤ rd ∧ rd ≤ 31) : bits .or .u32 (bits .or .u32 (op * 67108864) (rd * 2097152)) (bits .and .u32 (imm % 4294967296) 2097151) = op * 67108864 + rd * 2097152 + imm % 2097152 := by
  rw [or_two b0 b1, imm_mod imm 21 2097151 2097152 (by omega) (by decide) (by decide) (by decide)]
  exact or_add 21 (by omega) (by omega) (by omega) (by omega) (by omega) (by omega)
theorem enc_w2 {op rd rs1 imm : Int} (b0 : 1 ≤ op ∧ op ≤ 37) (b1 : 0 ≤ rd ∧ rd ≤ 31) (b2 : 0 ≤ rs1 ∧ rs1 ≤ 31) : bits .or .u32 (bits .or .u32 (bits .or .u32 (bits .or .u32 (op * 67108864) (rd * 2097152)) (rs1 * 65536)) 32768) (bits .and .u32 (imm % 4294967296) 32767) = op * 67108864 + rd * 2097152 + (rs1 * 65536 + (32768 + imm % 32768)) := by
  rw [or_two b0 b1, imm_mod imm 15 32767 32768 (by omega) (by decide) (by decide) (by decide)]
  rw [or_add (b := rs1 * 65536) 21 (by omega) (by omega) (by omega) (by omega) (by omega) (by omega)]
  rw [or_add (b := 32768) 16 (by omega) (by omega) (by omega) (by omega) (by omega) (by omega)]
  rw [or_add 15 (by omega) (by omega) (by omega) (by omega) (by omega) (by omega)]
  omega
theorem enc_w3 {op rd rs1 rs2 : Int} (b0 : 1 ≤ op ∧ op ≤ 37) (b1 : 0 ≤ rd ∧ rd ≤ 31) (b2 : 0 ≤ rs1 ∧ rs1 ≤ 31) (b3 : 0 ≤ rs2 ∧ rs2 ≤ 31) : bits .or .u32 (bits .or .u32 (bits .or .u32 (op * 67108864) (rd * 2097152)) (rs1 * 65536)) rs2 = op * 67108864 + rd * 2097152 + (rs1 * 65536 + rs2) := by
  rw [or_two b0 b1]
  rw [or_add (b := rs1 * 65536) 21 (by omega) (by omega) (by omega) (by omega) (by omega) (by omega)]
  rw [or_add 16 (by omega) (by omega) (by omega) (by omega) (by omega) (by omega)]
  omega
theorem long_bit {k : Int} (hl : longK k) : ∃ q, hasK k = q ∧ (bits .and .u8 q 16 != 0) = true := by
  rcases hl with rfl | rfl | rfl <;> exact ⟨_, rfl, by decide⟩
theorem kind_of_may {x : Ix} (h : mayP x) : kindS x.op ≠ 0 := by
  intro h0
  have := h.2.2.2
  rw [h0] at this; simp [okS] at this
theorem short_bit {op : Int} (hl : ¬ longK (kindS op)) (h0 : kindS op ≠ 0) : ∃ q, hasK (kindS op) = q ∧ (bits .and .u8 q 16 != 0) = false := by
  unfold longK at hl
  rcases kind_cases op with hk | hk | hk | hk | hk | hk | hk | hk | hk | hk | hk | hk | hk <;> rw [hk] at hl h0 ⊢ <;> first | (exfalso; omega) | exact ⟨_, rfl, by decide⟩
set_option maxRecDepth 100000 in
set_option maxHeartbeats 1000000 in
theorem enc_long (op rd rs1 rs2 imm : Int) (hb : (⟨op, rd, rs1, rs2, true, imm⟩ : Ix).bd) (hm : mayP ⟨op, rd, rs1, rs2, true, imm⟩) (hl : longK (kindS op)) (w : World) (ht : Tab w) :
    Calls Tryz.prog 129 #[(⟨op, rd, rs1, rs2, true, imm⟩ : Ix).agg] w fun e w' => e = .returned (.tuple #[.int .u32 (wordS ⟨op, rd, rs1, rs2, true, imm⟩), .int .i64 0]) ∧ Below w.heap.size w w' := by
  have h := may_any ⟨op, rd, rs1, rs2, true, imm⟩ hb (w.alloc (.cells #[.int .u8 op, .int .u8 rd, .int .u8 rs1, .int .u8 rs2, .bool true, .int .i32 imm] 108)) (ht.keep ((Below.refl _ w).alloc (Nat.le_refl _) _))
  rw [show mayB ⟨op, rd, rs1, rs2, true, imm⟩ = true from decide_eq_true hm] at h
  have H := ihid h
  have HT := ihid ht
  have B := may_bd hb hm
  obtain ⟨q, hq, hq2⟩ : ∃ q, hasK (kindS op) = q ∧ (bits .and .u8 q 16 != 0) = true := long_bit hl
  obtain ⟨b0, b1, b2, b3, b4⟩ := hb
  simp only at b0 b1 b2 b3 b4 B
  clear h hm ht
  have HQ := ihid hq
  have HL := ihid hl
  clear hq hl
  go_enter Tryz.func129, Tryz.ntmps129
  go_wp2_with fail
  refine H.out.mono ?_
  rintro e w' ⟨rfl, hbl⟩
  have hx := hbl.cell (p := ⟨w.heap.size, 0, none⟩) (by simp)
  have hx1 := hbl.cell (p := ⟨w.heap.size, 1, none⟩) (by simp)
  have hx2 := hbl.cell (p := ⟨w.heap.size, 2, none⟩) (by simp)
  have hx3 := hbl.cell (p := ⟨w.heap.size, 3, none⟩) (by simp)
  have hx4 := hbl.cell (p := ⟨w.heap.size, 4, none⟩) (by simp)
  have hx5 := hbl.cell (p := ⟨w.heap.size, 5, none⟩) (by simp)
  simp at hx hx1 hx2 hx3 hx4 hx5
  have HB := ihid hbl
  clear hbl
  go_wp2_with fail
  refine (ihas_any op q b0.1 b0.2 HQ.out _ ((HT.out.keep ((Below.refl _ w).alloc (Nat.le_refl _) _)).keep HB.out)).mono ?_
  rintro e w' ⟨rfl, rfl⟩
  go_wp2_with fail
  go_ret2
  exact ⟨iret2 ((enc_w1 B.1 B.2.1).trans (by simp only [wordS, tailS, if_pos HL.out])) rfl, ((Below.refl _ _).alloc (Nat.le_refl _) _).trans (HB.out.mono (by simp))⟩
set_option maxRecDepth 100000 in
set_option maxHeartbeats 1000000 in
theorem enc_is (op rd rs1 rs2 imm : Int) (hb : (⟨op, rd, rs1, rs2, true, imm⟩ : Ix).bd) (hm : mayP ⟨op, rd, rs1, rs2, true, imm⟩) (hl : ¬ longK (kindS op)) (w : World) (ht : Tab w) :
    Calls Tryz.prog 129 #[(⟨op, rd, rs1, rs2, true, imm⟩ : Ix).agg] w fun e w' => e = .returned (.tuple #[.int .u32 (wordS ⟨op, rd, rs1, rs2, true, imm⟩), .int .i64 0]) ∧ Below w.heap.size w w' := by
  have h := may_any ⟨op, rd, rs1, rs2, true, imm⟩ hb (w.alloc (.cells #[.int .u8 op, .int .u8 rd, .int .u8 rs1, .int .u8 rs2, .bool true, .int .i32 imm] 108)) (ht.keep ((Below.refl _ w).alloc (Nat.le_refl _) _))
  rw [show mayB ⟨op, rd, rs1, rs2, true, imm⟩ = true from decide_eq_true hm] at h
  have H := ihid h
  have HT := ihid ht
  have B := may_bd hb hm
  obtain ⟨q, hq, hq2⟩ : ∃ q, hasK (kindS op) = q ∧ (bits .and .u8 q 16 != 0) = false := short_bit hl (kind_of_may hm)
  obtain ⟨b0, b1, b2, b3, b4⟩ := hb
  simp only at b0 b1 b2 b3 b4 B
  clear h hm ht
  have HQ := ihid hq
  have HL := ihid hl
  clear hq hl
  go_enter Tryz.func129, Tryz.ntmps129
  go_wp2_with fail
  refine H.out.mono ?_
  rintro e w' ⟨rfl, hbl⟩
  have hx := hbl.cell (p := ⟨w.heap.size, 0, none⟩) (by simp)
  have hx1 := hbl.cell (p := ⟨w.heap.size, 1, none⟩) (by simp)
  have hx2 := hbl.cell (p := ⟨w.heap.size, 2, none⟩) (by simp)
  have hx3 := hbl.cell (p := ⟨w.heap.size, 3, none⟩) (by simp)
  have hx4 := hbl.cell (p := ⟨w.heap.size, 4, none⟩) (by simp)
  have hx5 := hbl.cell (p := ⟨w.heap.size, 5, none⟩) (by simp)
  simp at hx hx1 hx2 hx3 hx4 hx5
  have HB := ihid hbl
  clear hbl
  go_wp2_with fail
  refine (ihas_any op q b0.1 b0.2 HQ.out _ ((HT.out.keep ((Below.refl _ w).alloc (Nat.le_refl _) _)).keep HB.out)).mono ?_
  rintro e w' ⟨rfl, rfl⟩
  go_wp2_with fail
  go_ret2
  exact ⟨iret2 ((enc_w2 B.1 B.2.1 B.2.2.1).trans (by simp only [wordS, tailS, if_neg HL.out, if_true])) rfl, ((Below.refl _ _).alloc (Nat.le_refl _) _).trans (HB.out.mono (by simp))⟩
set_option maxRecDepth 100000 in
set_option maxHeartbeats 1000000 in
theorem enc_reg (op rd rs1 rs2 imm : Int) (hb : (⟨op, rd, rs1, rs2, false, imm⟩ : Ix).bd) (hm : mayP ⟨op, rd, rs1, rs2, false, imm⟩) (hl : ¬ longK (kindS op)) (w : World) (ht : Tab w) :
    Calls Tryz.prog 129 #[(⟨op, rd, rs1, rs2, false, imm⟩ : Ix).agg] w fun e w' => e = .returned (.tuple #[.int .u32 (wordS ⟨op, rd, rs1, rs2, false, imm⟩), .int .i64 0]) ∧ Below w.heap.size w w' := by
  have h := may_any ⟨op, rd, rs1, rs2, false, imm⟩ hb (w.alloc (.cells #[.int .u8 op, .int .u8 rd, .int .u8 rs1, .int .u8 rs2, .bool false, .int .i32 imm] 108)) (ht.keep ((Below.refl _ w).alloc (Nat.le_refl _) _))
  rw [show mayB ⟨op, rd, rs1, rs2, false, imm⟩ = true from decide_eq_true hm] at h
  have H := ihid h
  have HT := ihid ht
  have B := may_bd hb hm
  obtain ⟨q, hq, hq2⟩ : ∃ q, hasK (kindS op) = q ∧ (bits .and .u8 q 16 != 0) = false := short_bit hl (kind_of_may hm)
  obtain ⟨b0, b1, b2, b3, b4⟩ := hb
  simp only at b0 b1 b2 b3 b4 B
  clear h hm ht
  have HQ := ihid hq
  have HL := ihid hl
  clear hq hl
  go_enter Tryz.func129, Tryz.ntmps129
  go_wp2_with fail
  refine H.out.mono ?_
  rintro e w' ⟨rfl, hbl⟩
  have hx := hbl.cell (p := ⟨w.heap.size, 0, none⟩) (by simp)
  have hx1 := hbl.cell (p := ⟨w.heap.size, 1, none⟩) (by simp)
  have hx2 := hbl.cell (p := ⟨w.heap.size, 2, none⟩) (by simp)
  have hx3 := hbl.cell (p := ⟨w.heap.size, 3, none⟩) (by simp)
  have hx4 := hbl.cell (p := ⟨w.heap.size, 4, none⟩) (by simp)
  have hx5 := hbl.cell (p := ⟨w.heap.size, 5, none⟩) (by simp)
  simp at hx hx1 hx2 hx3 hx4 hx5
  have HB := ihid hbl
  clear hbl
  go_wp2_with fail
  refine (ihas_any op q b0.1 b0.2 HQ.out _ ((HT.out.keep ((Below.refl _ w).alloc (Nat.le_refl _) _)).keep HB.out)).mono ?_
  rintro e w' ⟨rfl, rfl⟩
  go_wp2_with fail
  go_ret2
  exact ⟨iret2 ((enc_w3 B.1 B.2.1 B.2.2.1 B.2.2.2).trans (by simp only [wordS, tailS, if_neg HL.out, Bool.false_eq_true, if_false])) rfl, ((Below.refl _ _).alloc (Nat.le_refl _) _).trans (HB.out.mono (by simp))⟩
theorem encode_any (x : Ix) (hb : x.bd) (w : World) (ht : Tab w) :
    Calls Tryz.prog 129 #[x.agg] w fun e w' => e = .returned (.tuple #[.int .u32 (encS x), .int .i64 (encE x)]) ∧ Below w.heap.size w w' := by
  unfold encS encE
  by_cases hm : mayP x
  · rw [if_pos hm, if_pos hm]
    obtain ⟨op, rd, rs1, rs2, is, imm⟩ := x
    by_cases hl : longK (kindS op)
    · cases is
      · have := (ok_long hl hm.2.2.2).1; simp at this
      · exact enc_long op rd rs1 rs2 imm hb hm hl w ht
    · cases is
      · exact enc_reg op rd rs1 rs2 imm hb hm hl w ht
      · exact enc_is op rd rs1 rs2 imm hb hm hl w ht
  · rw [if_neg hm, if_neg hm]
    exact enc_no x hb (decide_eq_false hm) w ht
end Go.Proofs.YtkejnhleajfcjaaGreatDoor
