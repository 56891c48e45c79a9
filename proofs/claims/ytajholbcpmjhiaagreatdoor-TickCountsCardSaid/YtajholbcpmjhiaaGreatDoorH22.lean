/- Several texts in one: InstRMayC. -/
import Derived.Test.YtajholbcpmjhiaaGreatDoorH19
set_option linter.unusedVariables false
set_option linter.unusedSimpArgs false
/- Walks of the document's May (muntinref02). -/
namespace Go.Proofs.YtajholbcpmjhiaaGreatDoor
open Go.RowKit
set_option maxRecDepth 100000 in
set_option maxHeartbeats 2000000 in
theorem rmay_9t (op rd rs1 rs2 imm : Int) (hb : (⟨op, rd, rs1, rs2, true, imm⟩ : Ix).bd) (hk : kindS op = 9) (h1 : rd ≤ 31) (h2 : rs1 ≤ 31) (h3 : rs2 ≤ 31) (h4 : rs2 = 0) (w : World) :
    Calls Tryz.prog 60 #[(⟨op, rd, rs1, rs2, true, imm⟩ : Ix).agg] w fun e w' => e = .returned (.bool (mayB (⟨op, rd, rs1, rs2, true, imm⟩ : Ix))) ∧ Below w.heap.size w w' := by
  obtain ⟨b0, b1, b2, b3, b4⟩ := hb
  simp only at b0 b1 b2 b3 b4
  have HK := ihid hk
  subst h4
  have g1 : decide (31 < rd) = false := by simp; omega
  have g2 : decide (31 < rs1) = false := by simp; omega
  have g3 : decide (31 < 0) = false := by simp
  clear hk
  go_enter Tryz.func60, Tryz.ntmps60
  go_wp2_with (first | (go_at_call 61; refine (rkind_any op 9 b0.1 HK.out _).mono ?_; rintro e w' ⟨rfl, rfl⟩) | (go_at_call 127; refine (rbetween_any _ _ _ _).mono ?_; rintro e w' ⟨rfl, rfl⟩))
  all_goals
    go_ret
    refine ⟨iretb ((may_eq HK.out).trans ?_).symm, (Below.refl _ _).alloc (Nat.le_refl _) _⟩
    rw [Bool.eq_iff_iff]
    first | (simp [okS]; done) | (simp [okS]; omega) | (simp_all [okS]; done) | (simp_all [okS]; omega)
set_option maxRecDepth 100000 in
set_option maxHeartbeats 2000000 in
theorem rmay_9f (op rd rs1 rs2 imm : Int) (hb : (⟨op, rd, rs1, rs2, false, imm⟩ : Ix).bd) (hk : kindS op = 9) (h1 : rd ≤ 31) (h2 : rs1 ≤ 31) (h3 : rs2 ≤ 31) (h4 : imm = 0) (w : World) :
    Calls Tryz.prog 60 #[(⟨op, rd, rs1, rs2, false, imm⟩ : Ix).agg] w fun e w' => e = .returned (.bool (mayB (⟨op, rd, rs1, rs2, false, imm⟩ : Ix))) ∧ Below w.heap.size w w' := by
  obtain ⟨b0, b1, b2, b3, b4⟩ := hb
  simp only at b0 b1 b2 b3 b4
  have HK := ihid hk
  subst h4
  have g1 : decide (31 < rd) = false := by simp; omega
  have g2 : decide (31 < rs1) = false := by simp; omega
  have g3 : decide (31 < rs2) = false := by simp; omega
  clear hk
  go_enter Tryz.func60, Tryz.ntmps60
  go_wp2_with (first | (go_at_call 61; refine (rkind_any op 9 b0.1 HK.out _).mono ?_; rintro e w' ⟨rfl, rfl⟩) | (go_at_call 127; refine (rbetween_any _ _ _ _).mono ?_; rintro e w' ⟨rfl, rfl⟩))
  all_goals
    go_ret
    refine ⟨iretb ((may_eq HK.out).trans ?_).symm, (Below.refl _ _).alloc (Nat.le_refl _) _⟩
    rw [Bool.eq_iff_iff]
    first | (simp [okS]; done) | (simp [okS]; omega) | (simp_all [okS]; done) | (simp_all [okS]; omega)
set_option maxRecDepth 100000 in
set_option maxHeartbeats 2000000 in
theorem rmay_10t (op rd rs1 rs2 imm : Int) (hb : (⟨op, rd, rs1, rs2, true, imm⟩ : Ix).bd) (hk : kindS op = 10) (h1 : rd ≤ 31) (h2 : rs1 ≤ 31) (h3 : rs2 ≤ 31) (h4 : rs2 = 0) (w : World) :
    Calls Tryz.prog 60 #[(⟨op, rd, rs1, rs2, true, imm⟩ : Ix).agg] w fun e w' => e = .returned (.bool (mayB (⟨op, rd, rs1, rs2, true, imm⟩ : Ix))) ∧ Below w.heap.size w w' := by
  obtain ⟨b0, b1, b2, b3, b4⟩ := hb
  simp only at b0 b1 b2 b3 b4
  have HK := ihid hk
  subst h4
  have g1 : decide (31 < rd) = false := by simp; omega
  have g2 : decide (31 < rs1) = false := by simp; omega
  have g3 : decide (31 < 0) = false := by simp
  clear hk
  go_enter Tryz.func60, Tryz.ntmps60
  go_wp2_with (first | (go_at_call 61; refine (rkind_any op 10 b0.1 HK.out _).mono ?_; rintro e w' ⟨rfl, rfl⟩) | (go_at_call 127; refine (rbetween_any _ _ _ _).mono ?_; rintro e w' ⟨rfl, rfl⟩))
  all_goals
    go_ret
    refine ⟨iretb ((may_eq HK.out).trans ?_).symm, (Below.refl _ _).alloc (Nat.le_refl _) _⟩
    rw [Bool.eq_iff_iff]
    first | (simp [okS]; done) | (simp [okS]; omega) | (simp_all [okS]; done) | (simp_all [okS]; omega)
set_option maxRecDepth 100000 in
set_option maxHeartbeats 2000000 in
theorem rmay_10f (op rd rs1 rs2 imm : Int) (hb : (⟨op, rd, rs1, rs2, false, imm⟩ : Ix).bd) (hk : kindS op = 10) (h1 : rd ≤ 31) (h2 : rs1 ≤ 31) (h3 : rs2 ≤ 31) (h4 : imm = 0) (w : World) :
    Calls Tryz.prog 60 #[(⟨op, rd, rs1, rs2, false, imm⟩ : Ix).agg] w fun e w' => e = .returned (.bool (mayB (⟨op, rd, rs1, rs2, false, imm⟩ : Ix))) ∧ Below w.heap.size w w' := by
  obtain ⟨b0, b1, b2, b3, b4⟩ := hb
  simp only at b0 b1 b2 b3 b4
  have HK := ihid hk
  subst h4
  have g1 : decide (31 < rd) = false := by simp; omega
  have g2 : decide (31 < rs1) = false := by simp; omega
  have g3 : decide (31 < rs2) = false := by simp; omega
  clear hk
  go_enter Tryz.func60, Tryz.ntmps60
  go_wp2_with (first | (go_at_call 61; refine (rkind_any op 10 b0.1 HK.out _).mono ?_; rintro e w' ⟨rfl, rfl⟩) | (go_at_call 127; refine (rbetween_any _ _ _ _).mono ?_; rintro e w' ⟨rfl, rfl⟩))
  all_goals
    go_ret
    refine ⟨iretb ((may_eq HK.out).trans ?_).symm, (Below.refl _ _).alloc (Nat.le_refl _) _⟩
    rw [Bool.eq_iff_iff]
    first | (simp [okS]; done) | (simp [okS]; omega) | (simp_all [okS]; done) | (simp_all [okS]; omega)
set_option maxRecDepth 100000 in
set_option maxHeartbeats 2000000 in
theorem rmay_11t (op rd rs1 rs2 imm : Int) (hb : (⟨op, rd, rs1, rs2, true, imm⟩ : Ix).bd) (hk : kindS op = 11) (h1 : rd ≤ 31) (h2 : rs1 ≤ 31) (h3 : rs2 ≤ 31) (h4 : rs2 = 0) (w : World) :
    Calls Tryz.prog 60 #[(⟨op, rd, rs1, rs2, true, imm⟩ : Ix).agg] w fun e w' => e = .returned (.bool (mayB (⟨op, rd, rs1, rs2, true, imm⟩ : Ix))) ∧ Below w.heap.size w w' := by
  obtain ⟨b0, b1, b2, b3, b4⟩ := hb
  simp only at b0 b1 b2 b3 b4
  have HK := ihid hk
  subst h4
  have g1 : decide (31 < rd) = false := by simp; omega
  have g2 : decide (31 < rs1) = false := by simp; omega
  have g3 : decide (31 < 0) = false := by simp
  clear hk
  go_enter Tryz.func60, Tryz.ntmps60
  go_wp2_with (first | (go_at_call 61; refine (rkind_any op 11 b0.1 HK.out _).mono ?_; rintro e w' ⟨rfl, rfl⟩) | (go_at_call 127; refine (rbetween_any _ _ _ _).mono ?_; rintro e w' ⟨rfl, rfl⟩))
  all_goals
    go_ret
    refine ⟨iretb ((may_eq HK.out).trans ?_).symm, (Below.refl _ _).alloc (Nat.le_refl _) _⟩
    rw [Bool.eq_iff_iff]
    first | (simp [okS]; done) | (simp [okS]; omega) | (simp_all [okS]; done) | (simp_all [okS]; omega)
set_option maxRecDepth 100000 in
set_option maxHeartbeats 2000000 in
theorem rmay_11f (op rd rs1 rs2 imm : Int) (hb : (⟨op, rd, rs1, rs2, false, imm⟩ : Ix).bd) (hk : kindS op = 11) (h1 : rd ≤ 31) (h2 : rs1 ≤ 31) (h3 : rs2 ≤ 31) (h4 : imm = 0) (w : World) :
    Calls Tryz.prog 60 #[(⟨op, rd, rs1, rs2, false, imm⟩ : Ix).agg] w fun e w' => e = .returned (.bool (mayB (⟨op, rd, rs1, rs2, false, imm⟩ : Ix))) ∧ Below w.heap.size w w' := by
  obtain ⟨b0, b1, b2, b3, b4⟩ := hb
  simp only at b0 b1 b2 b3 b4
  have HK := ihid hk
  subst h4
  have g1 : decide (31 < rd) = false := by simp; omega
  have g2 : decide (31 < rs1) = false := by simp; omega
  have g3 : decide (31 < rs2) = false := by simp; omega
  clear hk
  go_enter Tryz.func60, Tryz.ntmps60
  go_wp2_with (first | (go_at_call 61; refine (rkind_any op 11 b0.1 HK.out _).mono ?_; rintro e w' ⟨rfl, rfl⟩) | (go_at_call 127; refine (rbetween_any _ _ _ _).mono ?_; rintro e w' ⟨rfl, rfl⟩))
  all_goals
    go_ret
    refine ⟨iretb ((may_eq HK.out).trans ?_).symm, (Below.refl _ _).alloc (Nat.le_refl _) _⟩
    rw [Bool.eq_iff_iff]
    first | (simp [okS]; done) | (simp [okS]; omega) | (simp_all [okS]; done) | (simp_all [okS]; omega)
set_option maxRecDepth 100000 in
set_option maxHeartbeats 2000000 in
theorem rmay_12t (op rd rs1 rs2 imm : Int) (hb : (⟨op, rd, rs1, rs2, true, imm⟩ : Ix).bd) (hk : kindS op = 12) (h1 : rd ≤ 31) (h2 : rs1 ≤ 31) (h3 : rs2 ≤ 31) (h4 : rs2 = 0) (w : World) :
    Calls Tryz.prog 60 #[(⟨op, rd, rs1, rs2, true, imm⟩ : Ix).agg] w fun e w' => e = .returned (.bool (mayB (⟨op, rd, rs1, rs2, true, imm⟩ : Ix))) ∧ Below w.heap.size w w' := by
  obtain ⟨b0, b1, b2, b3, b4⟩ := hb
  simp only at b0 b1 b2 b3 b4
  have HK := ihid hk
  subst h4
  have g1 : decide (31 < rd) = false := by simp; omega
  have g2 : decide (31 < rs1) = false := by simp; omega
  have g3 : decide (31 < 0) = false := by simp
  clear hk
  go_enter Tryz.func60, Tryz.ntmps60
  go_wp2_with (first | (go_at_call 61; refine (rkind_any op 12 b0.1 HK.out _).mono ?_; rintro e w' ⟨rfl, rfl⟩) | (go_at_call 127; refine (rbetween_any _ _ _ _).mono ?_; rintro e w' ⟨rfl, rfl⟩))
  all_goals
    go_ret
    refine ⟨iretb ((may_eq HK.out).trans ?_).symm, (Below.refl _ _).alloc (Nat.le_refl _) _⟩
    rw [Bool.eq_iff_iff]
    first | (simp [okS]; done) | (simp [okS]; omega) | (simp_all [okS]; done) | (simp_all [okS]; omega)
set_option maxRecDepth 100000 in
set_option maxHeartbeats 2000000 in
theorem rmay_12f (op rd rs1 rs2 imm : Int) (hb : (⟨op, rd, rs1, rs2, false, imm⟩ : Ix).bd) (hk : kindS op = 12) (h1 : rd ≤ 31) (h2 : rs1 ≤ 31) (h3 : rs2 ≤ 31) (h4 : imm = 0) (w : World) :
    Calls Tryz.prog 60 #[(⟨op, rd, rs1, rs2, false, imm⟩ : Ix).agg] w fun e w' => e = .returned (.bool (mayB (⟨op, rd, rs1, rs2, false, imm⟩ : Ix))) ∧ Below w.heap.size w w' := by
  obtain ⟨b0, b1, b2, b3, b4⟩ := hb
  simp only at b0 b1 b2 b3 b4
  have HK := ihid hk
  subst h4
  have g1 : decide (31 < rd) = false := by simp; omega
  have g2 : decide (31 < rs1) = false := by simp; omega
  have g3 : decide (31 < rs2) = false := by simp; omega
  clear hk
  go_enter Tryz.func60, Tryz.ntmps60
  go_wp2_with (first | (go_at_call 61; refine (rkind_any op 12 b0.1 HK.out _).mono ?_; rintro e w' ⟨rfl, rfl⟩) | (go_at_call 127; refine (rbetween_any _ _ _ _).mono ?_; rintro e w' ⟨rfl, rfl⟩))
  all_goals
    go_ret
    refine ⟨iretb ((may_eq HK.out).trans ?_).symm, (Below.refl _ _).alloc (Nat.le_refl _) _⟩
    rw [Bool.eq_iff_iff]
    first | (simp [okS]; done) | (simp [okS]; omega) | (simp_all [okS]; done) | (simp_all [okS]; omega)
end Go.Proofs.YtajholbcpmjhiaaGreatDoor
