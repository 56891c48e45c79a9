/- Several texts in one: InstMay. -/
import Derived.Test.YtajholbcpmjhiaaGreatDoorH04
set_option linter.unusedVariables false
set_option linter.unusedSimpArgs false
/- Walks of inst.may: which instructions may be. -/
namespace Go.Proofs.YtajholbcpmjhiaaGreatDoor
open Go.RowKit
theorem may_eq {k : Int} {x : Ix} (h : kindS x.op = k) : mayB x = decide (x.rd ≤ 31 ∧ x.rs1 ≤ 31 ∧ x.rs2 ≤ 31 ∧ okS k x = true) := by unfold mayB; exact decide_eq_decide.2 (by unfold mayP; rw [h])
set_option maxRecDepth 100000 in
set_option maxHeartbeats 1000000 in
theorem may_1t (op rd rs1 rs2 imm : Int) (hb : (⟨op, rd, rs1, rs2, true, imm⟩ : Ix).bd) (hk : kindS op = 1) (h1 : rd ≤ 31) (h2 : rs1 ≤ 31) (h3 : rs2 ≤ 31) (w : World) (ht : Tab w) :
    Calls Tryz.prog 133 #[(⟨op, rd, rs1, rs2, true, imm⟩ : Ix).agg] w fun e w' => e = .returned (.bool (mayB (⟨op, rd, rs1, rs2, true, imm⟩ : Ix))) ∧ Below w.heap.size w w' := by
  obtain ⟨b0, b1, b2, b3, b4⟩ := hb
  simp only at b0 b1 b2 b3 b4
  have HT := ihid ht
  obtain ⟨hop, hlo, hhi⟩ := low_of (op := op) (by simp [hk])
  have e17 : (op == 17) = false := by simpa using hop.2.1
  have E1 := ihid (show hasK (kindS op) = 7 by rw [hk]; rfl)
  have HK := ihid (show kindS op = 1 from hk)
  have HB := ihid (And.intro hlo hhi)
  clear ht hk hop hlo hhi
  have g1 : decide (31 < rd) = false := by simp; omega
  have g2 : decide (31 < rs1) = false := by simp; omega
  have g3 : decide (31 < rs2) = false := by simp; omega
  have q1 : bits .and .u8 7 1 = 1 := by decide
  have q2 : bits .and .u8 7 2 = 2 := by decide
  have q4 : bits .and .u8 7 4 = 4 := by decide
  have q8 : bits .and .u8 7 8 = 0 := by decide
  go_enter Tryz.func133, Tryz.ntmps133
  go_wp2_with fail
  refine (ihas_any op 7 b0.1 b0.2 E1.out _ (HT.out.keep ((Below.refl _ w).alloc (Nat.le_refl _) _))).mono ?_
  rintro e w' ⟨rfl, rfl⟩
  go_wp2_with fail
  go_region
  go_wp2_with fail
  refine (bounds_any op _ _ HB.out.1 HB.out.2 _).mono ?_
  rintro e w' ⟨rfl, rfl⟩
  go_wp2_with fail
  all_goals
    go_ret
    refine ⟨iretb ((may_eq HK.out).trans ?_).symm, by first | exact may_below w _ _ | exact may_below2 w _ _⟩
    rw [Bool.eq_iff_iff]
    first | (simp [okS]; done) | (simp [okS]; omega)
set_option maxRecDepth 100000 in
set_option maxHeartbeats 1000000 in
theorem may_1f (op rd rs1 rs2 imm : Int) (hb : (⟨op, rd, rs1, rs2, false, imm⟩ : Ix).bd) (hk : kindS op = 1) (h1 : rd ≤ 31) (h2 : rs1 ≤ 31) (h3 : rs2 ≤ 31) (w : World) (ht : Tab w) :
    Calls Tryz.prog 133 #[(⟨op, rd, rs1, rs2, false, imm⟩ : Ix).agg] w fun e w' => e = .returned (.bool (mayB (⟨op, rd, rs1, rs2, false, imm⟩ : Ix))) ∧ Below w.heap.size w w' := by
  obtain ⟨b0, b1, b2, b3, b4⟩ := hb
  simp only at b0 b1 b2 b3 b4
  have HT := ihid ht
  obtain ⟨hop, hlo, hhi⟩ := low_of (op := op) (by simp [hk])
  have e17 : (op == 17) = false := by simpa using hop.2.1
  have E1 := ihid (show hasK (kindS op) = 7 by rw [hk]; rfl)
  have HK := ihid (show kindS op = 1 from hk)
  have HB := ihid (And.intro hlo hhi)
  clear ht hk hop hlo hhi
  have g1 : decide (31 < rd) = false := by simp; omega
  have g2 : decide (31 < rs1) = false := by simp; omega
  have g3 : decide (31 < rs2) = false := by simp; omega
  have q1 : bits .and .u8 7 1 = 1 := by decide
  have q2 : bits .and .u8 7 2 = 2 := by decide
  have q4 : bits .and .u8 7 4 = 4 := by decide
  have q8 : bits .and .u8 7 8 = 0 := by decide
  go_enter Tryz.func133, Tryz.ntmps133
  go_wp2_with fail
  refine (ihas_any op 7 b0.1 b0.2 E1.out _ (HT.out.keep ((Below.refl _ w).alloc (Nat.le_refl _) _))).mono ?_
  rintro e w' ⟨rfl, rfl⟩
  go_wp2_with fail
  refine (bounds_any op _ _ HB.out.1 HB.out.2 _).mono ?_
  rintro e w' ⟨rfl, rfl⟩
  go_wp2_with fail
  all_goals
    go_ret
    refine ⟨iretb ((may_eq HK.out).trans ?_).symm, by first | exact may_below w _ _ | exact may_below2 w _ _⟩
    rw [Bool.eq_iff_iff]
    first | (simp [okS]; done) | (simp [okS]; omega)
set_option maxRecDepth 100000 in
set_option maxHeartbeats 1000000 in
theorem may_2t (op rd rs1 rs2 imm : Int) (hb : (⟨op, rd, rs1, rs2, true, imm⟩ : Ix).bd) (hk : kindS op = 2) (h1 : rd ≤ 31) (h2 : rs1 ≤ 31) (h3 : rs2 ≤ 31) (w : World) (ht : Tab w) :
    Calls Tryz.prog 133 #[(⟨op, rd, rs1, rs2, true, imm⟩ : Ix).agg] w fun e w' => e = .returned (.bool (mayB (⟨op, rd, rs1, rs2, true, imm⟩ : Ix))) ∧ Below w.heap.size w w' := by
  obtain ⟨b0, b1, b2, b3, b4⟩ := hb
  simp only at b0 b1 b2 b3 b4
  have HT := ihid ht
  obtain ⟨hop, hlo, hhi⟩ := low_of (op := op) (by simp [hk])
  have e17 : (op == 17) = false := by simpa using hop.2.1
  have E1 := ihid (show hasK (kindS op) = 6 by rw [hk]; rfl)
  have HK := ihid (show kindS op = 2 from hk)
  have HB := ihid (And.intro hlo hhi)
  clear ht hk hop hlo hhi
  have g1 : decide (31 < rd) = false := by simp; omega
  have g2 : decide (31 < rs1) = false := by simp; omega
  have g3 : decide (31 < rs2) = false := by simp; omega
  have q1 : bits .and .u8 6 1 = 0 := by decide
  have q2 : bits .and .u8 6 2 = 2 := by decide
  have q4 : bits .and .u8 6 4 = 4 := by decide
  have q8 : bits .and .u8 6 8 = 0 := by decide
  go_enter Tryz.func133, Tryz.ntmps133
  go_wp2_with fail
  refine (ihas_any op 6 b0.1 b0.2 E1.out _ (HT.out.keep ((Below.refl _ w).alloc (Nat.le_refl _) _))).mono ?_
  rintro e w' ⟨rfl, rfl⟩
  go_wp2_with fail
  go_region
  go_wp2_with fail
  refine (bounds_any op _ _ HB.out.1 HB.out.2 _).mono ?_
  rintro e w' ⟨rfl, rfl⟩
  go_wp2_with fail
  all_goals
    go_ret
    refine ⟨iretb ((may_eq HK.out).trans ?_).symm, by first | exact may_below w _ _ | exact may_below2 w _ _⟩
    rw [Bool.eq_iff_iff]
    first | (simp [okS]; done) | (simp [okS]; omega)
set_option maxRecDepth 100000 in
set_option maxHeartbeats 1000000 in
theorem may_2f (op rd rs1 rs2 imm : Int) (hb : (⟨op, rd, rs1, rs2, false, imm⟩ : Ix).bd) (hk : kindS op = 2) (h1 : rd ≤ 31) (h2 : rs1 ≤ 31) (h3 : rs2 ≤ 31) (w : World) (ht : Tab w) :
    Calls Tryz.prog 133 #[(⟨op, rd, rs1, rs2, false, imm⟩ : Ix).agg] w fun e w' => e = .returned (.bool (mayB (⟨op, rd, rs1, rs2, false, imm⟩ : Ix))) ∧ Below w.heap.size w w' := by
  obtain ⟨b0, b1, b2, b3, b4⟩ := hb
  simp only at b0 b1 b2 b3 b4
  have HT := ihid ht
  obtain ⟨hop, hlo, hhi⟩ := low_of (op := op) (by simp [hk])
  have e17 : (op == 17) = false := by simpa using hop.2.1
  have E1 := ihid (show hasK (kindS op) = 6 by rw [hk]; rfl)
  have HK := ihid (show kindS op = 2 from hk)
  have HB := ihid (And.intro hlo hhi)
  clear ht hk hop hlo hhi
  have g1 : decide (31 < rd) = false := by simp; omega
  have g2 : decide (31 < rs1) = false := by simp; omega
  have g3 : decide (31 < rs2) = false := by simp; omega
  have q1 : bits .and .u8 6 1 = 0 := by decide
  have q2 : bits .and .u8 6 2 = 2 := by decide
  have q4 : bits .and .u8 6 4 = 4 := by decide
  have q8 : bits .and .u8 6 8 = 0 := by decide
  go_enter Tryz.func133, Tryz.ntmps133
  go_wp2_with fail
  refine (ihas_any op 6 b0.1 b0.2 E1.out _ (HT.out.keep ((Below.refl _ w).alloc (Nat.le_refl _) _))).mono ?_
  rintro e w' ⟨rfl, rfl⟩
  go_wp2_with fail
  refine (bounds_any op _ _ HB.out.1 HB.out.2 _).mono ?_
  rintro e w' ⟨rfl, rfl⟩
  go_wp2_with fail
  all_goals
    go_ret
    refine ⟨iretb ((may_eq HK.out).trans ?_).symm, by first | exact may_below w _ _ | exact may_below2 w _ _⟩
    rw [Bool.eq_iff_iff]
    first | (simp [okS]; done) | (simp [okS]; omega)
set_option maxRecDepth 100000 in
set_option maxHeartbeats 1000000 in
theorem may_3t (rd rs1 rs2 imm : Int) (hb : (⟨15, rd, rs1, rs2, true, imm⟩ : Ix).bd) (h1 : rd ≤ 31) (h2 : rs1 ≤ 31) (h3 : rs2 ≤ 31) (w : World) (ht : Tab w) :
    Calls Tryz.prog 133 #[(⟨15, rd, rs1, rs2, true, imm⟩ : Ix).agg] w fun e w' => e = .returned (.bool (mayB (⟨15, rd, rs1, rs2, true, imm⟩ : Ix))) ∧ Below w.heap.size w w' := by
  obtain ⟨b0, b1, b2, b3, b4⟩ := hb
  simp only at b0 b1 b2 b3 b4
  have HT := ihid ht
  have E1 := ihid (show hasK (kindS 15) = 25 from by decide)
  have HB := ihid (show lowS 15 = 0 ∧ highS 15 = 2097151 from by decide)
  have HK := ihid (show kindS 15 = 3 from by decide)
  clear ht
  have g1 : decide (31 < rd) = false := by simp; omega
  have g2 : decide (31 < rs1) = false := by simp; omega
  have g3 : decide (31 < rs2) = false := by simp; omega
  have q1 : bits .and .u8 25 1 = 1 := by decide
  have q2 : bits .and .u8 25 2 = 0 := by decide
  have q4 : bits .and .u8 25 4 = 0 := by decide
  have q8 : bits .and .u8 25 8 = 8 := by decide
  go_enter Tryz.func133, Tryz.ntmps133
  go_wp2_with fail
  refine (ihas_any 15 25 (by omega) (by omega) E1.out _ (HT.out.keep ((Below.refl _ w).alloc (Nat.le_refl _) _))).mono ?_
  rintro e w' ⟨rfl, rfl⟩
  go_wp2_with fail
  go_region
  go_wp2_with fail
  refine (bounds_any 15 _ _ HB.out.1 HB.out.2 _).mono ?_
  rintro e w' ⟨rfl, rfl⟩
  go_wp2_with fail
  all_goals
    go_ret
    refine ⟨iretb ((may_eq HK.out).trans ?_).symm, by first | exact may_below w _ _ | exact may_below2 w _ _⟩
    rw [Bool.eq_iff_iff]
    first | (simp [okS]; done) | (simp [okS]; omega)
set_option maxRecDepth 100000 in
set_option maxHeartbeats 1000000 in
theorem may_3f (rd rs1 rs2 imm : Int) (hb : (⟨15, rd, rs1, rs2, false, imm⟩ : Ix).bd) (h1 : rd ≤ 31) (h2 : rs1 ≤ 31) (h3 : rs2 ≤ 31) (w : World) (ht : Tab w) :
    Calls Tryz.prog 133 #[(⟨15, rd, rs1, rs2, false, imm⟩ : Ix).agg] w fun e w' => e = .returned (.bool (mayB (⟨15, rd, rs1, rs2, false, imm⟩ : Ix))) ∧ Below w.heap.size w w' := by
  obtain ⟨b0, b1, b2, b3, b4⟩ := hb
  simp only at b0 b1 b2 b3 b4
  have HT := ihid ht
  have E1 := ihid (show hasK (kindS 15) = 25 from by decide)
  have HB := ihid (show lowS 15 = 0 ∧ highS 15 = 2097151 from by decide)
  have HK := ihid (show kindS 15 = 3 from by decide)
  clear ht
  have g1 : decide (31 < rd) = false := by simp; omega
  have g2 : decide (31 < rs1) = false := by simp; omega
  have g3 : decide (31 < rs2) = false := by simp; omega
  have q1 : bits .and .u8 25 1 = 1 := by decide
  have q2 : bits .and .u8 25 2 = 0 := by decide
  have q4 : bits .and .u8 25 4 = 0 := by decide
  have q8 : bits .and .u8 25 8 = 8 := by decide
  go_enter Tryz.func133, Tryz.ntmps133
  go_wp2_with fail
  refine (ihas_any 15 25 (by omega) (by omega) E1.out _ (HT.out.keep ((Below.refl _ w).alloc (Nat.le_refl _) _))).mono ?_
  rintro e w' ⟨rfl, rfl⟩
  go_wp2_with fail
  go_region
  go_wp2_with fail
  refine (bounds_any 15 _ _ HB.out.1 HB.out.2 _).mono ?_
  rintro e w' ⟨rfl, rfl⟩
  go_wp2_with fail
  all_goals
    go_ret
    refine ⟨iretb ((may_eq HK.out).trans ?_).symm, by first | exact may_below w _ _ | exact may_below2 w _ _⟩
    rw [Bool.eq_iff_iff]
    first | (simp [okS]; done) | (simp [okS]; omega)
set_option maxRecDepth 100000 in
set_option maxHeartbeats 1000000 in
theorem may_4t (rd rs1 rs2 imm : Int) (hb : (⟨17, rd, rs1, rs2, true, imm⟩ : Ix).bd) (h1 : rd ≤ 31) (h2 : rs1 ≤ 31) (h3 : rs2 ≤ 31) (h6 : rd ≤ 6) (w : World) (ht : Tab w) :
    Calls Tryz.prog 133 #[(⟨17, rd, rs1, rs2, true, imm⟩ : Ix).agg] w fun e w' => e = .returned (.bool (mayB (⟨17, rd, rs1, rs2, true, imm⟩ : Ix))) ∧ Below w.heap.size w w' := by
  obtain ⟨b0, b1, b2, b3, b4⟩ := hb
  simp only at b0 b1 b2 b3 b4
  have HT := ihid ht
  have E1 := ihid (show hasK (kindS 17) = 25 from by decide)
  have HB := ihid (show lowS 17 = -1048576 ∧ highS 17 = 1048575 from by decide)
  have HK := ihid (show kindS 17 = 4 from by decide)
  clear ht
  have g6 : decide (6 < rd) = false := by simp; omega
  have g1 : decide (31 < rd) = false := by simp; omega
  have g2 : decide (31 < rs1) = false := by simp; omega
  have g3 : decide (31 < rs2) = false := by simp; omega
  have q1 : bits .and .u8 25 1 = 1 := by decide
  have q2 : bits .and .u8 25 2 = 0 := by decide
  have q4 : bits .and .u8 25 4 = 0 := by decide
  have q8 : bits .and .u8 25 8 = 8 := by decide
  go_enter Tryz.func133, Tryz.ntmps133
  go_wp2_with fail
  refine (ihas_any 17 25 (by omega) (by omega) E1.out _ (HT.out.keep ((Below.refl _ w).alloc (Nat.le_refl _) _))).mono ?_
  rintro e w' ⟨rfl, rfl⟩
  go_wp2_with fail
  go_region
  go_wp2_with fail
  refine (bounds_any 17 _ _ HB.out.1 HB.out.2 _).mono ?_
  rintro e w' ⟨rfl, rfl⟩
  go_wp2_with fail
  all_goals
    go_ret
    refine ⟨iretb ((may_eq HK.out).trans ?_).symm, by first | exact may_below w _ _ | exact may_below2 w _ _⟩
    rw [Bool.eq_iff_iff]
    first | (simp [okS]; done) | (simp [okS]; omega)
set_option maxRecDepth 100000 in
set_option maxHeartbeats 1000000 in
theorem may_4f (rd rs1 rs2 imm : Int) (hb : (⟨17, rd, rs1, rs2, false, imm⟩ : Ix).bd) (h1 : rd ≤ 31) (h2 : rs1 ≤ 31) (h3 : rs2 ≤ 31) (h6 : rd ≤ 6) (w : World) (ht : Tab w) :
    Calls Tryz.prog 133 #[(⟨17, rd, rs1, rs2, false, imm⟩ : Ix).agg] w fun e w' => e = .returned (.bool (mayB (⟨17, rd, rs1, rs2, false, imm⟩ : Ix))) ∧ Below w.heap.size w w' := by
  obtain ⟨b0, b1, b2, b3, b4⟩ := hb
  simp only at b0 b1 b2 b3 b4
  have HT := ihid ht
  have E1 := ihid (show hasK (kindS 17) = 25 from by decide)
  have HB := ihid (show lowS 17 = -1048576 ∧ highS 17 = 1048575 from by decide)
  have HK := ihid (show kindS 17 = 4 from by decide)
  clear ht
  have g6 : decide (6 < rd) = false := by simp; omega
  have g1 : decide (31 < rd) = false := by simp; omega
  have g2 : decide (31 < rs1) = false := by simp; omega
  have g3 : decide (31 < rs2) = false := by simp; omega
  have q1 : bits .and .u8 25 1 = 1 := by decide
  have q2 : bits .and .u8 25 2 = 0 := by decide
  have q4 : bits .and .u8 25 4 = 0 := by decide
  have q8 : bits .and .u8 25 8 = 8 := by decide
  go_enter Tryz.func133, Tryz.ntmps133
  go_wp2_with fail
  refine (ihas_any 17 25 (by omega) (by omega) E1.out _ (HT.out.keep ((Below.refl _ w).alloc (Nat.le_refl _) _))).mono ?_
  rintro e w' ⟨rfl, rfl⟩
  go_wp2_with fail
  go_region
  go_wp2_with fail
  refine (bounds_any 17 _ _ HB.out.1 HB.out.2 _).mono ?_
  rintro e w' ⟨rfl, rfl⟩
  go_wp2_with fail
  all_goals
    go_ret
    refine ⟨iretb ((may_eq HK.out).trans ?_).symm, by first | exact may_below w _ _ | exact may_below2 w _ _⟩
    rw [Bool.eq_iff_iff]
    first | (simp [okS]; done) | (simp [okS]; omega)
set_option maxRecDepth 100000 in
set_option maxHeartbeats 1000000 in
theorem may_5t (rd rs1 rs2 imm : Int) (hb : (⟨18, rd, rs1, rs2, true, imm⟩ : Ix).bd) (h1 : rd ≤ 31) (h2 : rs1 ≤ 31) (h3 : rs2 ≤ 31) (w : World) (ht : Tab w) :
    Calls Tryz.prog 133 #[(⟨18, rd, rs1, rs2, true, imm⟩ : Ix).agg] w fun e w' => e = .returned (.bool (mayB (⟨18, rd, rs1, rs2, true, imm⟩ : Ix))) ∧ Below w.heap.size w w' := by
  obtain ⟨b0, b1, b2, b3, b4⟩ := hb
  simp only at b0 b1 b2 b3 b4
  have HT := ihid ht
  have E1 := ihid (show hasK (kindS 18) = 24 from by decide)
  have HB := ihid (show lowS 18 = -1048576 ∧ highS 18 = 1048575 from by decide)
  have HK := ihid (show kindS 18 = 5 from by decide)
  clear ht
  have g1 : decide (31 < rd) = false := by simp; omega
  have g2 : decide (31 < rs1) = false := by simp; omega
  have g3 : decide (31 < rs2) = false := by simp; omega
  have q1 : bits .and .u8 24 1 = 0 := by decide
  have q2 : bits .and .u8 24 2 = 0 := by decide
  have q4 : bits .and .u8 24 4 = 0 := by decide
  have q8 : bits .and .u8 24 8 = 8 := by decide
  go_enter Tryz.func133, Tryz.ntmps133
  go_wp2_with fail
  refine (ihas_any 18 24 (by omega) (by omega) E1.out _ (HT.out.keep ((Below.refl _ w).alloc (Nat.le_refl _) _))).mono ?_
  rintro e w' ⟨rfl, rfl⟩
  go_wp2_with fail
  go_region
  go_wp2_with fail
  refine (bounds_any 18 _ _ HB.out.1 HB.out.2 _).mono ?_
  rintro e w' ⟨rfl, rfl⟩
  go_wp2_with fail
  all_goals
    go_ret
    refine ⟨iretb ((may_eq HK.out).trans ?_).symm, by first | exact may_below w _ _ | exact may_below2 w _ _⟩
    rw [Bool.eq_iff_iff]
    first | (simp [okS]; done) | (simp [okS]; omega)
set_option maxRecDepth 100000 in
set_option maxHeartbeats 1000000 in
theorem may_5f (rd rs1 rs2 imm : Int) (hb : (⟨18, rd, rs1, rs2, false, imm⟩ : Ix).bd) (h1 : rd ≤ 31) (h2 : rs1 ≤ 31) (h3 : rs2 ≤ 31) (w : World) (ht : Tab w) :
    Calls Tryz.prog 133 #[(⟨18, rd, rs1, rs2, false, imm⟩ : Ix).agg] w fun e w' => e = .returned (.bool (mayB (⟨18, rd, rs1, rs2, false, imm⟩ : Ix))) ∧ Below w.heap.size w w' := by
  obtain ⟨b0, b1, b2, b3, b4⟩ := hb
  simp only at b0 b1 b2 b3 b4
  have HT := ihid ht
  have E1 := ihid (show hasK (kindS 18) = 24 from by decide)
  have HB := ihid (show lowS 18 = -1048576 ∧ highS 18 = 1048575 from by decide)
  have HK := ihid (show kindS 18 = 5 from by decide)
  clear ht
  have g1 : decide (31 < rd) = false := by simp; omega
  have g2 : decide (31 < rs1) = false := by simp; omega
  have g3 : decide (31 < rs2) = false := by simp; omega
  have q1 : bits .and .u8 24 1 = 0 := by decide
  have q2 : bits .and .u8 24 2 = 0 := by decide
  have q4 : bits .and .u8 24 4 = 0 := by decide
  have q8 : bits .and .u8 24 8 = 8 := by decide
  go_enter Tryz.func133, Tryz.ntmps133
  go_wp2_with fail
  refine (ihas_any 18 24 (by omega) (by omega) E1.out _ (HT.out.keep ((Below.refl _ w).alloc (Nat.le_refl _) _))).mono ?_
  rintro e w' ⟨rfl, rfl⟩
  go_wp2_with fail
  go_region
  go_wp2_with fail
  refine (bounds_any 18 _ _ HB.out.1 HB.out.2 _).mono ?_
  rintro e w' ⟨rfl, rfl⟩
  go_wp2_with fail
  all_goals
    go_ret
    refine ⟨iretb ((may_eq HK.out).trans ?_).symm, by first | exact may_below w _ _ | exact may_below2 w _ _⟩
    rw [Bool.eq_iff_iff]
    first | (simp [okS]; done) | (simp [okS]; omega)
set_option maxRecDepth 100000 in
set_option maxHeartbeats 1000000 in
theorem may_6t (op rd rs1 rs2 imm : Int) (hb : (⟨op, rd, rs1, rs2, true, imm⟩ : Ix).bd) (hk : kindS op = 6) (h1 : rd ≤ 31) (h2 : rs1 ≤ 31) (h3 : rs2 ≤ 31) (w : World) (ht : Tab w) :
    Calls Tryz.prog 133 #[(⟨op, rd, rs1, rs2, true, imm⟩ : Ix).agg] w fun e w' => e = .returned (.bool (mayB (⟨op, rd, rs1, rs2, true, imm⟩ : Ix))) ∧ Below w.heap.size w w' := by
  obtain ⟨b0, b1, b2, b3, b4⟩ := hb
  simp only at b0 b1 b2 b3 b4
  have HT := ihid ht
  obtain ⟨hop, hlo, hhi⟩ := low_of (op := op) (by simp [hk])
  have e17 : (op == 17) = false := by simpa using hop.2.1
  have E1 := ihid (show hasK (kindS op) = 1 by rw [hk]; rfl)
  have HK := ihid (show kindS op = 6 from hk)
  have HB := ihid (And.intro hlo hhi)
  clear ht hk hop hlo hhi
  have g1 : decide (31 < rd) = false := by simp; omega
  have g2 : decide (31 < rs1) = false := by simp; omega
  have g3 : decide (31 < rs2) = false := by simp; omega
  have q1 : bits .and .u8 1 1 = 1 := by decide
  have q2 : bits .and .u8 1 2 = 0 := by decide
  have q4 : bits .and .u8 1 4 = 0 := by decide
  have q8 : bits .and .u8 1 8 = 0 := by decide
  go_enter Tryz.func133, Tryz.ntmps133
  go_wp2_with fail
  refine (ihas_any op 1 b0.1 b0.2 E1.out _ (HT.out.keep ((Below.refl _ w).alloc (Nat.le_refl _) _))).mono ?_
  rintro e w' ⟨rfl, rfl⟩
  go_wp2_with fail
  refine (bounds_any op _ _ HB.out.1 HB.out.2 _).mono ?_
  rintro e w' ⟨rfl, rfl⟩
  go_wp2_with fail
  all_goals
    go_ret
    refine ⟨iretb ((may_eq HK.out).trans ?_).symm, by first | exact may_below w _ _ | exact may_below2 w _ _⟩
    rw [Bool.eq_iff_iff]
    first | (simp [okS]; done) | (simp [okS]; omega)
set_option maxRecDepth 100000 in
set_option maxHeartbeats 1000000 in
theorem may_6f (op rd rs1 rs2 imm : Int) (hb : (⟨op, rd, rs1, rs2, false, imm⟩ : Ix).bd) (hk : kindS op = 6) (h1 : rd ≤ 31) (h2 : rs1 ≤ 31) (h3 : rs2 ≤ 31) (w : World) (ht : Tab w) :
    Calls Tryz.prog 133 #[(⟨op, rd, rs1, rs2, false, imm⟩ : Ix).agg] w fun e w' => e = .returned (.bool (mayB (⟨op, rd, rs1, rs2, false, imm⟩ : Ix))) ∧ Below w.heap.size w w' := by
  obtain ⟨b0, b1, b2, b3, b4⟩ := hb
  simp only at b0 b1 b2 b3 b4
  have HT := ihid ht
  obtain ⟨hop, hlo, hhi⟩ := low_of (op := op) (by simp [hk])
  have e17 : (op == 17) = false := by simpa using hop.2.1
  have E1 := ihid (show hasK (kindS op) = 1 by rw [hk]; rfl)
  have HK := ihid (show kindS op = 6 from hk)
  have HB := ihid (And.intro hlo hhi)
  clear ht hk hop hlo hhi
  have g1 : decide (31 < rd) = false := by simp; omega
  have g2 : decide (31 < rs1) = false := by simp; omega
  have g3 : decide (31 < rs2) = false := by simp; omega
  have q1 : bits .and .u8 1 1 = 1 := by decide
  have q2 : bits .and .u8 1 2 = 0 := by decide
  have q4 : bits .and .u8 1 4 = 0 := by decide
  have q8 : bits .and .u8 1 8 = 0 := by decide
  go_enter Tryz.func133, Tryz.ntmps133
  go_wp2_with fail
  refine (ihas_any op 1 b0.1 b0.2 E1.out _ (HT.out.keep ((Below.refl _ w).alloc (Nat.le_refl _) _))).mono ?_
  rintro e w' ⟨rfl, rfl⟩
  go_wp2_with fail
  refine (bounds_any op _ _ HB.out.1 HB.out.2 _).mono ?_
  rintro e w' ⟨rfl, rfl⟩
  go_wp2_with fail
  all_goals
    go_ret
    refine ⟨iretb ((may_eq HK.out).trans ?_).symm, by first | exact may_below w _ _ | exact may_below2 w _ _⟩
    rw [Bool.eq_iff_iff]
    first | (simp [okS]; done) | (simp [okS]; omega)
set_option maxRecDepth 100000 in
set_option maxHeartbeats 1000000 in
theorem may_7t (rd rs1 rs2 imm : Int) (hb : (⟨30, rd, rs1, rs2, true, imm⟩ : Ix).bd) (h1 : rd ≤ 31) (h2 : rs1 ≤ 31) (h3 : rs2 ≤ 31) (w : World) (ht : Tab w) :
    Calls Tryz.prog 133 #[(⟨30, rd, rs1, rs2, true, imm⟩ : Ix).agg] w fun e w' => e = .returned (.bool (mayB (⟨30, rd, rs1, rs2, true, imm⟩ : Ix))) ∧ Below w.heap.size w w' := by
  obtain ⟨b0, b1, b2, b3, b4⟩ := hb
  simp only at b0 b1 b2 b3 b4
  have HT := ihid ht
  have E1 := ihid (show hasK (kindS 30) = 9 from by decide)
  have HB := ihid (show lowS 30 = 0 ∧ highS 30 = 1 from by decide)
  have HK := ihid (show kindS 30 = 7 from by decide)
  clear ht
  have g1 : decide (31 < rd) = false := by simp; omega
  have g2 : decide (31 < rs1) = false := by simp; omega
  have g3 : decide (31 < rs2) = false := by simp; omega
  have q1 : bits .and .u8 9 1 = 1 := by decide
  have q2 : bits .and .u8 9 2 = 0 := by decide
  have q4 : bits .and .u8 9 4 = 0 := by decide
  have q8 : bits .and .u8 9 8 = 8 := by decide
  go_enter Tryz.func133, Tryz.ntmps133
  go_wp2_with fail
  refine (ihas_any 30 9 (by omega) (by omega) E1.out _ (HT.out.keep ((Below.refl _ w).alloc (Nat.le_refl _) _))).mono ?_
  rintro e w' ⟨rfl, rfl⟩
  go_wp2_with fail
  go_region
  go_wp2_with fail
  refine (bounds_any 30 _ _ HB.out.1 HB.out.2 _).mono ?_
  rintro e w' ⟨rfl, rfl⟩
  go_wp2_with fail
  all_goals
    go_ret
    refine ⟨iretb ((may_eq HK.out).trans ?_).symm, by first | exact may_below w _ _ | exact may_below2 w _ _⟩
    rw [Bool.eq_iff_iff]
    first | (simp [okS]; done) | (simp [okS]; omega)
set_option maxRecDepth 100000 in
set_option maxHeartbeats 1000000 in
theorem may_7f (rd rs1 rs2 imm : Int) (hb : (⟨30, rd, rs1, rs2, false, imm⟩ : Ix).bd) (h1 : rd ≤ 31) (h2 : rs1 ≤ 31) (h3 : rs2 ≤ 31) (w : World) (ht : Tab w) :
    Calls Tryz.prog 133 #[(⟨30, rd, rs1, rs2, false, imm⟩ : Ix).agg] w fun e w' => e = .returned (.bool (mayB (⟨30, rd, rs1, rs2, false, imm⟩ : Ix))) ∧ Below w.heap.size w w' := by
  obtain ⟨b0, b1, b2, b3, b4⟩ := hb
  simp only at b0 b1 b2 b3 b4
  have HT := ihid ht
  have E1 := ihid (show hasK (kindS 30) = 9 from by decide)
  have HB := ihid (show lowS 30 = 0 ∧ highS 30 = 1 from by decide)
  have HK := ihid (show kindS 30 = 7 from by decide)
  clear ht
  have g1 : decide (31 < rd) = false := by simp; omega
  have g2 : decide (31 < rs1) = false := by simp; omega
  have g3 : decide (31 < rs2) = false := by simp; omega
  have q1 : bits .and .u8 9 1 = 1 := by decide
  have q2 : bits .and .u8 9 2 = 0 := by decide
  have q4 : bits .and .u8 9 4 = 0 := by decide
  have q8 : bits .and .u8 9 8 = 8 := by decide
  go_enter Tryz.func133, Tryz.ntmps133
  go_wp2_with fail
  refine (ihas_any 30 9 (by omega) (by omega) E1.out _ (HT.out.keep ((Below.refl _ w).alloc (Nat.le_refl _) _))).mono ?_
  rintro e w' ⟨rfl, rfl⟩
  go_wp2_with fail
  go_region
  go_wp2_with fail
  refine (bounds_any 30 _ _ HB.out.1 HB.out.2 _).mono ?_
  rintro e w' ⟨rfl, rfl⟩
  go_wp2_with fail
  all_goals
    go_ret
    refine ⟨iretb ((may_eq HK.out).trans ?_).symm, by first | exact may_below w _ _ | exact may_below2 w _ _⟩
    rw [Bool.eq_iff_iff]
    first | (simp [okS]; done) | (simp [okS]; omega)
set_option maxRecDepth 100000 in
set_option maxHeartbeats 1000000 in
theorem may_8t (rd rs1 rs2 imm : Int) (hb : (⟨31, rd, rs1, rs2, true, imm⟩ : Ix).bd) (h1 : rd ≤ 31) (h2 : rs1 ≤ 31) (h3 : rs2 ≤ 31) (w : World) (ht : Tab w) :
    Calls Tryz.prog 133 #[(⟨31, rd, rs1, rs2, true, imm⟩ : Ix).agg] w fun e w' => e = .returned (.bool (mayB (⟨31, rd, rs1, rs2, true, imm⟩ : Ix))) ∧ Below w.heap.size w w' := by
  obtain ⟨b0, b1, b2, b3, b4⟩ := hb
  simp only at b0 b1 b2 b3 b4
  have HT := ihid ht
  have E1 := ihid (show hasK (kindS 31) = 10 from by decide)
  have HB := ihid (show lowS 31 = 0 ∧ highS 31 = 1 from by decide)
  have HK := ihid (show kindS 31 = 8 from by decide)
  clear ht
  have g1 : decide (31 < rd) = false := by simp; omega
  have g2 : decide (31 < rs1) = false := by simp; omega
  have g3 : decide (31 < rs2) = false := by simp; omega
  have q1 : bits .and .u8 10 1 = 0 := by decide
  have q2 : bits .and .u8 10 2 = 2 := by decide
  have q4 : bits .and .u8 10 4 = 0 := by decide
  have q8 : bits .and .u8 10 8 = 8 := by decide
  go_enter Tryz.func133, Tryz.ntmps133
  go_wp2_with fail
  refine (ihas_any 31 10 (by omega) (by omega) E1.out _ (HT.out.keep ((Below.refl _ w).alloc (Nat.le_refl _) _))).mono ?_
  rintro e w' ⟨rfl, rfl⟩
  go_wp2_with fail
  go_region
  go_wp2_with fail
  refine (bounds_any 31 _ _ HB.out.1 HB.out.2 _).mono ?_
  rintro e w' ⟨rfl, rfl⟩
  go_wp2_with fail
  all_goals
    go_ret
    refine ⟨iretb ((may_eq HK.out).trans ?_).symm, by first | exact may_below w _ _ | exact may_below2 w _ _⟩
    rw [Bool.eq_iff_iff]
    first | (simp [okS]; done) | (simp [okS]; omega)
set_option maxRecDepth 100000 in
set_option maxHeartbeats 1000000 in
theorem may_8f (rd rs1 rs2 imm : Int) (hb : (⟨31, rd, rs1, rs2, false, imm⟩ : Ix).bd) (h1 : rd ≤ 31) (h2 : rs1 ≤ 31) (h3 : rs2 ≤ 31) (w : World) (ht : Tab w) :
    Calls Tryz.prog 133 #[(⟨31, rd, rs1, rs2, false, imm⟩ : Ix).agg] w fun e w' => e = .returned (.bool (mayB (⟨31, rd, rs1, rs2, false, imm⟩ : Ix))) ∧ Below w.heap.size w w' := by
  obtain ⟨b0, b1, b2, b3, b4⟩ := hb
  simp only at b0 b1 b2 b3 b4
  have HT := ihid ht
  have E1 := ihid (show hasK (kindS 31) = 10 from by decide)
  have HB := ihid (show lowS 31 = 0 ∧ highS 31 = 1 from by decide)
  have HK := ihid (show kindS 31 = 8 from by decide)
  clear ht
  have g1 : decide (31 < rd) = false := by simp; omega
  have g2 : decide (31 < rs1) = false := by simp; omega
  have g3 : decide (31 < rs2) = false := by simp; omega
  have q1 : bits .and .u8 10 1 = 0 := by decide
  have q2 : bits .and .u8 10 2 = 2 := by decide
  have q4 : bits .and .u8 10 4 = 0 := by decide
  have q8 : bits .and .u8 10 8 = 8 := by decide
  go_enter Tryz.func133, Tryz.ntmps133
  go_wp2_with fail
  refine (ihas_any 31 10 (by omega) (by omega) E1.out _ (HT.out.keep ((Below.refl _ w).alloc (Nat.le_refl _) _))).mono ?_
  rintro e w' ⟨rfl, rfl⟩
  go_wp2_with fail
  go_region
  go_wp2_with fail
  refine (bounds_any 31 _ _ HB.out.1 HB.out.2 _).mono ?_
  rintro e w' ⟨rfl, rfl⟩
  go_wp2_with fail
  all_goals
    go_ret
    refine ⟨iretb ((may_eq HK.out).trans ?_).symm, by first | exact may_below w _ _ | exact may_below2 w _ _⟩
    rw [Bool.eq_iff_iff]
    first | (simp [okS]; done) | (simp [okS]; omega)
set_option maxRecDepth 100000 in
set_option maxHeartbeats 1000000 in
theorem may_9t (rd rs1 rs2 imm : Int) (hb : (⟨33, rd, rs1, rs2, true, imm⟩ : Ix).bd) (h1 : rd ≤ 31) (h2 : rs1 ≤ 31) (h3 : rs2 ≤ 31) (w : World) (ht : Tab w) :
    Calls Tryz.prog 133 #[(⟨33, rd, rs1, rs2, true, imm⟩ : Ix).agg] w fun e w' => e = .returned (.bool (mayB (⟨33, rd, rs1, rs2, true, imm⟩ : Ix))) ∧ Below w.heap.size w w' := by
  obtain ⟨b0, b1, b2, b3, b4⟩ := hb
  simp only at b0 b1 b2 b3 b4
  have HT := ihid ht
  have E1 := ihid (show hasK (kindS 33) = 8 from by decide)
  have HB := ihid (show lowS 33 = 3 ∧ highS 33 = 4 from by decide)
  have HK := ihid (show kindS 33 = 9 from by decide)
  clear ht
  have g1 : decide (31 < rd) = false := by simp; omega
  have g2 : decide (31 < rs1) = false := by simp; omega
  have g3 : decide (31 < rs2) = false := by simp; omega
  have q1 : bits .and .u8 8 1 = 0 := by decide
  have q2 : bits .and .u8 8 2 = 0 := by decide
  have q4 : bits .and .u8 8 4 = 0 := by decide
  have q8 : bits .and .u8 8 8 = 8 := by decide
  go_enter Tryz.func133, Tryz.ntmps133
  go_wp2_with fail
  refine (ihas_any 33 8 (by omega) (by omega) E1.out _ (HT.out.keep ((Below.refl _ w).alloc (Nat.le_refl _) _))).mono ?_
  rintro e w' ⟨rfl, rfl⟩
  go_wp2_with fail
  go_region
  go_wp2_with fail
  refine (bounds_any 33 _ _ HB.out.1 HB.out.2 _).mono ?_
  rintro e w' ⟨rfl, rfl⟩
  go_wp2_with fail
  all_goals
    go_ret
    refine ⟨iretb ((may_eq HK.out).trans ?_).symm, by first | exact may_below w _ _ | exact may_below2 w _ _⟩
    rw [Bool.eq_iff_iff]
    first | (simp [okS]; done) | (simp [okS]; omega)
set_option maxRecDepth 100000 in
set_option maxHeartbeats 1000000 in
theorem may_9f (rd rs1 rs2 imm : Int) (hb : (⟨33, rd, rs1, rs2, false, imm⟩ : Ix).bd) (h1 : rd ≤ 31) (h2 : rs1 ≤ 31) (h3 : rs2 ≤ 31) (w : World) (ht : Tab w) :
    Calls Tryz.prog 133 #[(⟨33, rd, rs1, rs2, false, imm⟩ : Ix).agg] w fun e w' => e = .returned (.bool (mayB (⟨33, rd, rs1, rs2, false, imm⟩ : Ix))) ∧ Below w.heap.size w w' := by
  obtain ⟨b0, b1, b2, b3, b4⟩ := hb
  simp only at b0 b1 b2 b3 b4
  have HT := ihid ht
  have E1 := ihid (show hasK (kindS 33) = 8 from by decide)
  have HB := ihid (show lowS 33 = 3 ∧ highS 33 = 4 from by decide)
  have HK := ihid (show kindS 33 = 9 from by decide)
  clear ht
  have g1 : decide (31 < rd) = false := by simp; omega
  have g2 : decide (31 < rs1) = false := by simp; omega
  have g3 : decide (31 < rs2) = false := by simp; omega
  have q1 : bits .and .u8 8 1 = 0 := by decide
  have q2 : bits .and .u8 8 2 = 0 := by decide
  have q4 : bits .and .u8 8 4 = 0 := by decide
  have q8 : bits .and .u8 8 8 = 8 := by decide
  go_enter Tryz.func133, Tryz.ntmps133
  go_wp2_with fail
  refine (ihas_any 33 8 (by omega) (by omega) E1.out _ (HT.out.keep ((Below.refl _ w).alloc (Nat.le_refl _) _))).mono ?_
  rintro e w' ⟨rfl, rfl⟩
  go_wp2_with fail
  go_region
  go_wp2_with fail
  refine (bounds_any 33 _ _ HB.out.1 HB.out.2 _).mono ?_
  rintro e w' ⟨rfl, rfl⟩
  go_wp2_with fail
  all_goals
    go_ret
    refine ⟨iretb ((may_eq HK.out).trans ?_).symm, by first | exact may_below w _ _ | exact may_below2 w _ _⟩
    rw [Bool.eq_iff_iff]
    first | (simp [okS]; done) | (simp [okS]; omega)
set_option maxRecDepth 100000 in
set_option maxHeartbeats 1000000 in
theorem may_10t (op rd rs1 rs2 imm : Int) (hb : (⟨op, rd, rs1, rs2, true, imm⟩ : Ix).bd) (hk : kindS op = 10) (h1 : rd ≤ 31) (h2 : rs1 ≤ 31) (h3 : rs2 ≤ 31) (w : World) (ht : Tab w) :
    Calls Tryz.prog 133 #[(⟨op, rd, rs1, rs2, true, imm⟩ : Ix).agg] w fun e w' => e = .returned (.bool (mayB (⟨op, rd, rs1, rs2, true, imm⟩ : Ix))) ∧ Below w.heap.size w w' := by
  obtain ⟨b0, b1, b2, b3, b4⟩ := hb
  simp only at b0 b1 b2 b3 b4
  have HT := ihid ht
  obtain ⟨hop, hlo, hhi⟩ := low_of (op := op) (by simp [hk])
  have e17 : (op == 17) = false := by simpa using hop.2.1
  have E1 := ihid (show hasK (kindS op) = 2 by rw [hk]; rfl)
  have HK := ihid (show kindS op = 10 from hk)
  have HB := ihid (And.intro hlo hhi)
  clear ht hk hop hlo hhi
  have g1 : decide (31 < rd) = false := by simp; omega
  have g2 : decide (31 < rs1) = false := by simp; omega
  have g3 : decide (31 < rs2) = false := by simp; omega
  have q1 : bits .and .u8 2 1 = 0 := by decide
  have q2 : bits .and .u8 2 2 = 2 := by decide
  have q4 : bits .and .u8 2 4 = 0 := by decide
  have q8 : bits .and .u8 2 8 = 0 := by decide
  go_enter Tryz.func133, Tryz.ntmps133
  go_wp2_with fail
  refine (ihas_any op 2 b0.1 b0.2 E1.out _ (HT.out.keep ((Below.refl _ w).alloc (Nat.le_refl _) _))).mono ?_
  rintro e w' ⟨rfl, rfl⟩
  go_wp2_with fail
  refine (bounds_any op _ _ HB.out.1 HB.out.2 _).mono ?_
  rintro e w' ⟨rfl, rfl⟩
  go_wp2_with fail
  all_goals
    go_ret
    refine ⟨iretb ((may_eq HK.out).trans ?_).symm, by first | exact may_below w _ _ | exact may_below2 w _ _⟩
    rw [Bool.eq_iff_iff]
    first | (simp [okS]; done) | (simp [okS]; omega)
set_option maxRecDepth 100000 in
set_option maxHeartbeats 1000000 in
theorem may_10f (op rd rs1 rs2 imm : Int) (hb : (⟨op, rd, rs1, rs2, false, imm⟩ : Ix).bd) (hk : kindS op = 10) (h1 : rd ≤ 31) (h2 : rs1 ≤ 31) (h3 : rs2 ≤ 31) (w : World) (ht : Tab w) :
    Calls Tryz.prog 133 #[(⟨op, rd, rs1, rs2, false, imm⟩ : Ix).agg] w fun e w' => e = .returned (.bool (mayB (⟨op, rd, rs1, rs2, false, imm⟩ : Ix))) ∧ Below w.heap.size w w' := by
  obtain ⟨b0, b1, b2, b3, b4⟩ := hb
  simp only at b0 b1 b2 b3 b4
  have HT := ihid ht
  obtain ⟨hop, hlo, hhi⟩ := low_of (op := op) (by simp [hk])
  have e17 : (op == 17) = false := by simpa using hop.2.1
  have E1 := ihid (show hasK (kindS op) = 2 by rw [hk]; rfl)
  have HK := ihid (show kindS op = 10 from hk)
  have HB := ihid (And.intro hlo hhi)
  clear ht hk hop hlo hhi
  have g1 : decide (31 < rd) = false := by simp; omega
  have g2 : decide (31 < rs1) = false := by simp; omega
  have g3 : decide (31 < rs2) = false := by simp; omega
  have q1 : bits .and .u8 2 1 = 0 := by decide
  have q2 : bits .and .u8 2 2 = 2 := by decide
  have q4 : bits .and .u8 2 4 = 0 := by decide
  have q8 : bits .and .u8 2 8 = 0 := by decide
  go_enter Tryz.func133, Tryz.ntmps133
  go_wp2_with fail
  refine (ihas_any op 2 b0.1 b0.2 E1.out _ (HT.out.keep ((Below.refl _ w).alloc (Nat.le_refl _) _))).mono ?_
  rintro e w' ⟨rfl, rfl⟩
  go_wp2_with fail
  refine (bounds_any op _ _ HB.out.1 HB.out.2 _).mono ?_
  rintro e w' ⟨rfl, rfl⟩
  go_wp2_with fail
  all_goals
    go_ret
    refine ⟨iretb ((may_eq HK.out).trans ?_).symm, by first | exact may_below w _ _ | exact may_below2 w _ _⟩
    rw [Bool.eq_iff_iff]
    first | (simp [okS]; done) | (simp [okS]; omega)
set_option maxRecDepth 100000 in
set_option maxHeartbeats 1000000 in
theorem may_11t (rd rs1 rs2 imm : Int) (hb : (⟨37, rd, rs1, rs2, true, imm⟩ : Ix).bd) (h1 : rd ≤ 31) (h2 : rs1 ≤ 31) (h3 : rs2 ≤ 31) (w : World) (ht : Tab w) :
    Calls Tryz.prog 133 #[(⟨37, rd, rs1, rs2, true, imm⟩ : Ix).agg] w fun e w' => e = .returned (.bool (mayB (⟨37, rd, rs1, rs2, true, imm⟩ : Ix))) ∧ Below w.heap.size w w' := by
  obtain ⟨b0, b1, b2, b3, b4⟩ := hb
  simp only at b0 b1 b2 b3 b4
  have HT := ihid ht
  have E1 := ihid (show hasK (kindS 37) = 8 from by decide)
  have HB := ihid (show lowS 37 = 1 ∧ highS 37 = 3 from by decide)
  have HK := ihid (show kindS 37 = 11 from by decide)
  clear ht
  have g1 : decide (31 < rd) = false := by simp; omega
  have g2 : decide (31 < rs1) = false := by simp; omega
  have g3 : decide (31 < rs2) = false := by simp; omega
  have q1 : bits .and .u8 8 1 = 0 := by decide
  have q2 : bits .and .u8 8 2 = 0 := by decide
  have q4 : bits .and .u8 8 4 = 0 := by decide
  have q8 : bits .and .u8 8 8 = 8 := by decide
  go_enter Tryz.func133, Tryz.ntmps133
  go_wp2_with fail
  refine (ihas_any 37 8 (by omega) (by omega) E1.out _ (HT.out.keep ((Below.refl _ w).alloc (Nat.le_refl _) _))).mono ?_
  rintro e w' ⟨rfl, rfl⟩
  go_wp2_with fail
  go_region
  go_wp2_with fail
  refine (bounds_any 37 _ _ HB.out.1 HB.out.2 _).mono ?_
  rintro e w' ⟨rfl, rfl⟩
  go_wp2_with fail
  all_goals
    go_ret
    refine ⟨iretb ((may_eq HK.out).trans ?_).symm, by first | exact may_below w _ _ | exact may_below2 w _ _⟩
    rw [Bool.eq_iff_iff]
    first | (simp [okS]; done) | (simp [okS]; omega)
set_option maxRecDepth 100000 in
set_option maxHeartbeats 1000000 in
theorem may_11f (rd rs1 rs2 imm : Int) (hb : (⟨37, rd, rs1, rs2, false, imm⟩ : Ix).bd) (h1 : rd ≤ 31) (h2 : rs1 ≤ 31) (h3 : rs2 ≤ 31) (w : World) (ht : Tab w) :
    Calls Tryz.prog 133 #[(⟨37, rd, rs1, rs2, false, imm⟩ : Ix).agg] w fun e w' => e = .returned (.bool (mayB (⟨37, rd, rs1, rs2, false, imm⟩ : Ix))) ∧ Below w.heap.size w w' := by
  obtain ⟨b0, b1, b2, b3, b4⟩ := hb
  simp only at b0 b1 b2 b3 b4
  have HT := ihid ht
  have E1 := ihid (show hasK (kindS 37) = 8 from by decide)
  have HB := ihid (show lowS 37 = 1 ∧ highS 37 = 3 from by decide)
  have HK := ihid (show kindS 37 = 11 from by decide)
  clear ht
  have g1 : decide (31 < rd) = false := by simp; omega
  have g2 : decide (31 < rs1) = false := by simp; omega
  have g3 : decide (31 < rs2) = false := by simp; omega
  have q1 : bits .and .u8 8 1 = 0 := by decide
  have q2 : bits .and .u8 8 2 = 0 := by decide
  have q4 : bits .and .u8 8 4 = 0 := by decide
  have q8 : bits .and .u8 8 8 = 8 := by decide
  go_enter Tryz.func133, Tryz.ntmps133
  go_wp2_with fail
  refine (ihas_any 37 8 (by omega) (by omega) E1.out _ (HT.out.keep ((Below.refl _ w).alloc (Nat.le_refl _) _))).mono ?_
  rintro e w' ⟨rfl, rfl⟩
  go_wp2_with fail
  go_region
  go_wp2_with fail
  refine (bounds_any 37 _ _ HB.out.1 HB.out.2 _).mono ?_
  rintro e w' ⟨rfl, rfl⟩
  go_wp2_with fail
  all_goals
    go_ret
    refine ⟨iretb ((may_eq HK.out).trans ?_).symm, by first | exact may_below w _ _ | exact may_below2 w _ _⟩
    rw [Bool.eq_iff_iff]
    first | (simp [okS]; done) | (simp [okS]; omega)
set_option maxRecDepth 100000 in
set_option maxHeartbeats 1000000 in
theorem may_12t (rd rs1 rs2 imm : Int) (hb : (⟨32, rd, rs1, rs2, true, imm⟩ : Ix).bd) (h1 : rd ≤ 31) (h2 : rs1 ≤ 31) (h3 : rs2 ≤ 31) (w : World) (ht : Tab w) :
    Calls Tryz.prog 133 #[(⟨32, rd, rs1, rs2, true, imm⟩ : Ix).agg] w fun e w' => e = .returned (.bool (mayB (⟨32, rd, rs1, rs2, true, imm⟩ : Ix))) ∧ Below w.heap.size w w' := by
  obtain ⟨b0, b1, b2, b3, b4⟩ := hb
  simp only at b0 b1 b2 b3 b4
  have HT := ihid ht
  have E1 := ihid (show hasK (kindS 32) = 0 from by decide)
  have HB := ihid (show lowS 32 = -16384 ∧ highS 32 = 16383 from by decide)
  have HK := ihid (show kindS 32 = 12 from by decide)
  clear ht
  have g1 : decide (31 < rd) = false := by simp; omega
  have g2 : decide (31 < rs1) = false := by simp; omega
  have g3 : decide (31 < rs2) = false := by simp; omega
  have q1 : bits .and .u8 0 1 = 0 := by decide
  have q2 : bits .and .u8 0 2 = 0 := by decide
  have q4 : bits .and .u8 0 4 = 0 := by decide
  have q8 : bits .and .u8 0 8 = 0 := by decide
  go_enter Tryz.func133, Tryz.ntmps133
  go_wp2_with fail
  refine (ihas_any 32 0 (by omega) (by omega) E1.out _ (HT.out.keep ((Below.refl _ w).alloc (Nat.le_refl _) _))).mono ?_
  rintro e w' ⟨rfl, rfl⟩
  go_wp2_with fail
  refine (bounds_any 32 _ _ HB.out.1 HB.out.2 _).mono ?_
  rintro e w' ⟨rfl, rfl⟩
  go_wp2_with fail
  all_goals
    go_ret
    refine ⟨iretb ((may_eq HK.out).trans ?_).symm, by first | exact may_below w _ _ | exact may_below2 w _ _⟩
    rw [Bool.eq_iff_iff]
    first | (simp [okS]; done) | (simp [okS]; omega)
set_option maxRecDepth 100000 in
set_option maxHeartbeats 1000000 in
theorem may_12f (rd rs1 rs2 imm : Int) (hb : (⟨32, rd, rs1, rs2, false, imm⟩ : Ix).bd) (h1 : rd ≤ 31) (h2 : rs1 ≤ 31) (h3 : rs2 ≤ 31) (w : World) (ht : Tab w) :
    Calls Tryz.prog 133 #[(⟨32, rd, rs1, rs2, false, imm⟩ : Ix).agg] w fun e w' => e = .returned (.bool (mayB (⟨32, rd, rs1, rs2, false, imm⟩ : Ix))) ∧ Below w.heap.size w w' := by
  obtain ⟨b0, b1, b2, b3, b4⟩ := hb
  simp only at b0 b1 b2 b3 b4
  have HT := ihid ht
  have E1 := ihid (show hasK (kindS 32) = 0 from by decide)
  have HB := ihid (show lowS 32 = -16384 ∧ highS 32 = 16383 from by decide)
  have HK := ihid (show kindS 32 = 12 from by decide)
  clear ht
  have g1 : decide (31 < rd) = false := by simp; omega
  have g2 : decide (31 < rs1) = false := by simp; omega
  have g3 : decide (31 < rs2) = false := by simp; omega
  have q1 : bits .and .u8 0 1 = 0 := by decide
  have q2 : bits .and .u8 0 2 = 0 := by decide
  have q4 : bits .and .u8 0 4 = 0 := by decide
  have q8 : bits .and .u8 0 8 = 0 := by decide
  go_enter Tryz.func133, Tryz.ntmps133
  go_wp2_with fail
  refine (ihas_any 32 0 (by omega) (by omega) E1.out _ (HT.out.keep ((Below.refl _ w).alloc (Nat.le_refl _) _))).mono ?_
  rintro e w' ⟨rfl, rfl⟩
  go_wp2_with fail
  refine (bounds_any 32 _ _ HB.out.1 HB.out.2 _).mono ?_
  rintro e w' ⟨rfl, rfl⟩
  go_wp2_with fail
  all_goals
    go_ret
    refine ⟨iretb ((may_eq HK.out).trans ?_).symm, by first | exact may_below w _ _ | exact may_below2 w _ _⟩
    rw [Bool.eq_iff_iff]
    first | (simp [okS]; done) | (simp [okS]; omega)
end Go.Proofs.YtajholbcpmjhiaaGreatDoor
