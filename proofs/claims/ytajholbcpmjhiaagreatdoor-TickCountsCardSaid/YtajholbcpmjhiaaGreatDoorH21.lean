/- Several texts in one: InstRMayB. -/
import Derived.Test.YtajholbcpmjhiaaGreatDoorH19
set_option linter.unusedVariables false
set_option linter.unusedSimpArgs false
/- Walks of the document's May (muntinref02). -/
namespace Go.Proofs.YtajholbcpmjhiaaGreatDoor
open Go.RowKit
set_option maxRecDepth 100000 in
set_option maxHeartbeats 2000000 in
theorem rmay_5t (op rd rs1 rs2 imm : Int) (hb : (⟨op, rd, rs1, rs2, true, imm⟩ : Ix).bd) (hk : kindS op = 5) (h1 : rd ≤ 31) (h2 : rs1 ≤ 31) (h3 : rs2 ≤ 31) (h4 : rs2 = 0) (w : World) :
    Calls Tryz.prog 60 #[(⟨op, rd, rs1, rs2, true, imm⟩ : Ix).agg] w fun e w' => e = .returned (.bool (mayB (⟨op, rd, rs1, rs2, true, imm⟩ : Ix))) ∧ Below w.heap.size w w' := by
  obtain ⟨b0, b1, b2, b3, b4⟩ := hb
  simp only at b0 b1 b2 b3 b4
  have HK := ihid hk
  subst h4
  have g1 : decide (31 < rd) = false := by simp; omega
  have g2 : decide (31 < rs1) = false := by simp; omega
  have g3 : decide (31 < 0) = false := by simp
  clear hk
  go_enter Tryz.func60, Tryz.ntmps60
  go_wp2_with (first | (go_at_call 61; refine (rkind_any op 5 b0.1 HK.out _).mono ?_; rintro e w' ⟨rfl, rfl⟩) | (go_at_call 127; refine (rbetween_any _ _ _ _).mono ?_; rintro e w' ⟨rfl, rfl⟩))
  all_goals
    go_ret
    refine ⟨iretb ((may_eq HK.out).trans ?_).symm, (Below.refl _ _).alloc (Nat.le_refl _) _⟩
    rw [Bool.eq_iff_iff]
    first | (simp [okS]; done) | (simp [okS]; omega) | (simp_all [okS]; done) | (simp_all [okS]; omega)
set_option maxRecDepth 100000 in
set_option maxHeartbeats 2000000 in
theorem rmay_5f (op rd rs1 rs2 imm : Int) (hb : (⟨op, rd, rs1, rs2, false, imm⟩ : Ix).bd) (hk : kindS op = 5) (h1 : rd ≤ 31) (h2 : rs1 ≤ 31) (h3 : rs2 ≤ 31) (h4 : imm = 0) (w : World) :
    Calls Tryz.prog 60 #[(⟨op, rd, rs1, rs2, false, imm⟩ : Ix).agg] w fun e w' => e = .returned (.bool (mayB (⟨op, rd, rs1, rs2, false, imm⟩ : Ix))) ∧ Below w.heap.size w w' := by
  obtain ⟨b0, b1, b2, b3, b4⟩ := hb
  simp only at b0 b1 b2 b3 b4
  have HK := ihid hk
  subst h4
  have g1 : decide (31 < rd) = false := by simp; omega
  have g2 : decide (31 < rs1) = false := by simp; omega
  have g3 : decide (31 < rs2) = false := by simp; omega
  clear hk
  go_enter Tryz.func60, Tryz.ntmps60
  go_wp2_with (first | (go_at_call 61; refine (rkind_any op 5 b0.1 HK.out _).mono ?_; rintro e w' ⟨rfl, rfl⟩) | (go_at_call 127; refine (rbetween_any _ _ _ _).mono ?_; rintro e w' ⟨rfl, rfl⟩))
  all_goals
    go_ret
    refine ⟨iretb ((may_eq HK.out).trans ?_).symm, (Below.refl _ _).alloc (Nat.le_refl _) _⟩
    rw [Bool.eq_iff_iff]
    first | (simp [okS]; done) | (simp [okS]; omega) | (simp_all [okS]; done) | (simp_all [okS]; omega)
set_option maxRecDepth 100000 in
set_option maxHeartbeats 2000000 in
theorem rmay_6t (op rd rs1 rs2 imm : Int) (hb : (⟨op, rd, rs1, rs2, true, imm⟩ : Ix).bd) (hk : kindS op = 6) (h1 : rd ≤ 31) (h2 : rs1 ≤ 31) (h3 : rs2 ≤ 31) (h4 : rs2 = 0) (w : World) :
    Calls Tryz.prog 60 #[(⟨op, rd, rs1, rs2, true, imm⟩ : Ix).agg] w fun e w' => e = .returned (.bool (mayB (⟨op, rd, rs1, rs2, true, imm⟩ : Ix))) ∧ Below w.heap.size w w' := by
  obtain ⟨b0, b1, b2, b3, b4⟩ := hb
  simp only at b0 b1 b2 b3 b4
  have HK := ihid hk
  subst h4
  have g1 : decide (31 < rd) = false := by simp; omega
  have g2 : decide (31 < rs1) = false := by simp; omega
  have g3 : decide (31 < 0) = false := by simp
  clear hk
  go_enter Tryz.func60, Tryz.ntmps60
  go_wp2_with (first | (go_at_call 61; refine (rkind_any op 6 b0.1 HK.out _).mono ?_; rintro e w' ⟨rfl, rfl⟩) | (go_at_call 127; refine (rbetween_any _ _ _ _).mono ?_; rintro e w' ⟨rfl, rfl⟩))
  all_goals
    go_ret
    refine ⟨iretb ((may_eq HK.out).trans ?_).symm, (Below.refl _ _).alloc (Nat.le_refl _) _⟩
    rw [Bool.eq_iff_iff]
    first | (simp [okS]; done) | (simp [okS]; omega) | (simp_all [okS]; done) | (simp_all [okS]; omega)
set_option maxRecDepth 100000 in
set_option maxHeartbeats 2000000 in
theorem rmay_6f (op rd rs1 rs2 imm : Int) (hb : (⟨op, rd, rs1, rs2, false, imm⟩ : Ix).bd) (hk : kindS op = 6) (h1 : rd ≤ 31) (h2 : rs1 ≤ 31) (h3 : rs2 ≤ 31) (h4 : imm = 0) (w : World) :
    Calls Tryz.prog 60 #[(⟨op, rd, rs1, rs2, false, imm⟩ : Ix).agg] w fun e w' => e = .returned (.bool (mayB (⟨op, rd, rs1, rs2, false, imm⟩ : Ix))) ∧ Below w.heap.size w w' := by
  obtain ⟨b0, b1, b2, b3, b4⟩ := hb
  simp only at b0 b1 b2 b3 b4
  have HK := ihid hk
  subst h4
  have g1 : decide (31 < rd) = false := by simp; omega
  have g2 : decide (31 < rs1) = false := by simp; omega
  have g3 : decide (31 < rs2) = false := by simp; omega
  clear hk
  go_enter Tryz.func60, Tryz.ntmps60
  go_wp2_with (first | (go_at_call 61; refine (rkind_any op 6 b0.1 HK.out _).mono ?_; rintro e w' ⟨rfl, rfl⟩) | (go_at_call 127; refine (rbetween_any _ _ _ _).mono ?_; rintro e w' ⟨rfl, rfl⟩))
  all_goals
    go_ret
    refine ⟨iretb ((may_eq HK.out).trans ?_).symm, (Below.refl _ _).alloc (Nat.le_refl _) _⟩
    rw [Bool.eq_iff_iff]
    first | (simp [okS]; done) | (simp [okS]; omega) | (simp_all [okS]; done) | (simp_all [okS]; omega)
set_option maxRecDepth 100000 in
set_option maxHeartbeats 2000000 in
theorem rmay_7t (op rd rs1 rs2 imm : Int) (hb : (⟨op, rd, rs1, rs2, true, imm⟩ : Ix).bd) (hk : kindS op = 7) (h1 : rd ≤ 31) (h2 : rs1 ≤ 31) (h3 : rs2 ≤ 31) (h4 : rs2 = 0) (w : World) :
    Calls Tryz.prog 60 #[(⟨op, rd, rs1, rs2, true, imm⟩ : Ix).agg] w fun e w' => e = .returned (.bool (mayB (⟨op, rd, rs1, rs2, true, imm⟩ : Ix))) ∧ Below w.heap.size w w' := by
  obtain ⟨b0, b1, b2, b3, b4⟩ := hb
  simp only at b0 b1 b2 b3 b4
  have HK := ihid hk
  subst h4
  have g1 : decide (31 < rd) = false := by simp; omega
  have g2 : decide (31 < rs1) = false := by simp; omega
  have g3 : decide (31 < 0) = false := by simp
  clear hk
  go_enter Tryz.func60, Tryz.ntmps60
  go_wp2_with (first | (go_at_call 61; refine (rkind_any op 7 b0.1 HK.out _).mono ?_; rintro e w' ⟨rfl, rfl⟩) | (go_at_call 127; refine (rbetween_any _ _ _ _).mono ?_; rintro e w' ⟨rfl, rfl⟩))
  all_goals
    go_ret
    refine ⟨iretb ((may_eq HK.out).trans ?_).symm, (Below.refl _ _).alloc (Nat.le_refl _) _⟩
    rw [Bool.eq_iff_iff]
    first | (simp [okS]; done) | (simp [okS]; omega) | (simp_all [okS]; done) | (simp_all [okS]; omega)
set_option maxRecDepth 100000 in
set_option maxHeartbeats 2000000 in
theorem rmay_7f (op rd rs1 rs2 imm : Int) (hb : (⟨op, rd, rs1, rs2, false, imm⟩ : Ix).bd) (hk : kindS op = 7) (h1 : rd ≤ 31) (h2 : rs1 ≤ 31) (h3 : rs2 ≤ 31) (h4 : imm = 0) (w : World) :
    Calls Tryz.prog 60 #[(⟨op, rd, rs1, rs2, false, imm⟩ : Ix).agg] w fun e w' => e = .returned (.bool (mayB (⟨op, rd, rs1, rs2, false, imm⟩ : Ix))) ∧ Below w.heap.size w w' := by
  obtain ⟨b0, b1, b2, b3, b4⟩ := hb
  simp only at b0 b1 b2 b3 b4
  have HK := ihid hk
  subst h4
  have g1 : decide (31 < rd) = false := by simp; omega
  have g2 : decide (31 < rs1) = false := by simp; omega
  have g3 : decide (31 < rs2) = false := by simp; omega
  clear hk
  go_enter Tryz.func60, Tryz.ntmps60
  go_wp2_with (first | (go_at_call 61; refine (rkind_any op 7 b0.1 HK.out _).mono ?_; rintro e w' ⟨rfl, rfl⟩) | (go_at_call 127; refine (rbetween_any _ _ _ _).mono ?_; rintro e w' ⟨rfl, rfl⟩))
  all_goals
    go_ret
    refine ⟨iretb ((may_eq HK.out).trans ?_).symm, (Below.refl _ _).alloc (Nat.le_refl _) _⟩
    rw [Bool.eq_iff_iff]
    first | (simp [okS]; done) | (simp [okS]; omega) | (simp_all [okS]; done) | (simp_all [okS]; omega)
set_option maxRecDepth 100000 in
set_option maxHeartbeats 2000000 in
theorem rmay_8t (op rd rs1 rs2 imm : Int) (hb : (⟨op, rd, rs1, rs2, true, imm⟩ : Ix).bd) (hk : kindS op = 8) (h1 : rd ≤ 31) (h2 : rs1 ≤ 31) (h3 : rs2 ≤ 31) (h4 : rs2 = 0) (w : World) :
    Calls Tryz.prog 60 #[(⟨op, rd, rs1, rs2, true, imm⟩ : Ix).agg] w fun e w' => e = .returned (.bool (mayB (⟨op, rd, rs1, rs2, true, imm⟩ : Ix))) ∧ Below w.heap.size w w' := by
  obtain ⟨b0, b1, b2, b3, b4⟩ := hb
  simp only at b0 b1 b2 b3 b4
  have HK := ihid hk
  subst h4
  have g1 : decide (31 < rd) = false := by simp; omega
  have g2 : decide (31 < rs1) = false := by simp; omega
  have g3 : decide (31 < 0) = false := by simp
  clear hk
  go_enter Tryz.func60, Tryz.ntmps60
  go_wp2_with (first | (go_at_call 61; refine (rkind_any op 8 b0.1 HK.out _).mono ?_; rintro e w' ⟨rfl, rfl⟩) | (go_at_call 127; refine (rbetween_any _ _ _ _).mono ?_; rintro e w' ⟨rfl, rfl⟩))
  all_goals
    go_ret
    refine ⟨iretb ((may_eq HK.out).trans ?_).symm, (Below.refl _ _).alloc (Nat.le_refl _) _⟩
    rw [Bool.eq_iff_iff]
    first | (simp [okS]; done) | (simp [okS]; omega) | (simp_all [okS]; done) | (simp_all [okS]; omega)
set_option maxRecDepth 100000 in
set_option maxHeartbeats 2000000 in
theorem rmay_8f (op rd rs1 rs2 imm : Int) (hb : (⟨op, rd, rs1, rs2, false, imm⟩ : Ix).bd) (hk : kindS op = 8) (h1 : rd ≤ 31) (h2 : rs1 ≤ 31) (h3 : rs2 ≤ 31) (h4 : imm = 0) (w : World) :
    Calls Tryz.prog 60 #[(⟨op, rd, rs1, rs2, false, imm⟩ : Ix).agg] w fun e w' => e = .returned (.bool (mayB (⟨op, rd, rs1, rs2, false, imm⟩ : Ix))) ∧ Below w.heap.size w w' := by
  obtain ⟨b0, b1, b2, b3, b4⟩ := hb
  simp only at b0 b1 b2 b3 b4
  have HK := ihid hk
  subst h4
  have g1 : decide (31 < rd) = false := by simp; omega
  have g2 : decide (31 < rs1) = false := by simp; omega
  have g3 : decide (31 < rs2) = false := by simp; omega
  clear hk
  go_enter Tryz.func60, Tryz.ntmps60
  go_wp2_with (first | (go_at_call 61; refine (rkind_any op 8 b0.1 HK.out _).mono ?_; rintro e w' ⟨rfl, rfl⟩) | (go_at_call 127; refine (rbetween_any _ _ _ _).mono ?_; rintro e w' ⟨rfl, rfl⟩))
  all_goals
    go_ret
    refine ⟨iretb ((may_eq HK.out).trans ?_).symm, (Below.refl _ _).alloc (Nat.le_refl _) _⟩
    rw [Bool.eq_iff_iff]
    first | (simp [okS]; done) | (simp [okS]; omega) | (simp_all [okS]; done) | (simp_all [okS]; omega)
end Go.Proofs.YtajholbcpmjhiaaGreatDoor
