/- The document's May refuses what no operation has. -/
import Derived.Test.YtimhpohlaagbpaaDoorInstRKind
namespace Go.Proofs.YtimhpohlaagbpaaDoor
open Go.RowKit
set_option linter.unusedVariables false
set_option linter.unusedSimpArgs false
theorem may_out2 {x : Ix} (h : (x.is = true ∧ x.rs2 ≠ 0) ∨ (x.is = false ∧ x.imm ≠ 0)) : mayB x = false := by
  unfold mayB mayP
  refine decide_eq_false ?_
  rintro ⟨h1, h2, h3, h4⟩
  by_cases hl : longK (kindS x.op)
  · have := ok_long hl h4
    rcases h with h | h
    · exact h.2 this.2.2.1
    · rw [this.1] at h; simp at h
  · have := ok_short hl h4
    rcases h with h | h
    · exact h.2 (this.1 h.1).1
    · exact h.2 (this.2 h.1)
set_option maxRecDepth 100000 in
set_option maxHeartbeats 2000000 in
theorem rmay_out (x : Ix) (hb : x.bd) (h0 : kindS x.op ≠ 0) (h : ¬ (x.rd ≤ 31 ∧ x.rs1 ≤ 31 ∧ x.rs2 ≤ 31 ∧ (x.is = true → x.rs2 = 0) ∧ (x.is = false → x.imm = 0))) (w : World) :
    Calls Tryd.prog 35 #[x.agg] w fun e w' => e = .returned (.bool (mayB x)) ∧ Below w.heap.size w w' := by
  have E : mayB x = false := by
    by_cases c : 31 < x.rd ∨ 31 < x.rs1 ∨ 31 < x.rs2
    · exact may_out (by omega)
    · refine may_out2 ?_
      cases hi : x.is
      · right; refine ⟨rfl, fun e => h ?_⟩; simp [hi, e]; omega
      · left; refine ⟨rfl, fun e => h ?_⟩; simp [hi, e]; omega
  have E := ihid E
  obtain ⟨op, rd, rs1, rs2, is, imm⟩ := x
  have b0 := hb.1
  simp only at b0 h0 h
  have k0 : (kindS op == 0) = false := by simpa using h0
  have HK := ihid (show kindS op = kindS op from rfl)
  generalize hq : kindS op = q at k0
  have HQ := ihid hq
  clear hq hb h0 HK
  have arm := fun W => rkind_any op q b0.1 HQ.out W
  have ARM := ihid arm
  clear arm
  by_cases g1 : 31 < rd
  · have g1' : decide (31 < rd) = true := by simpa using g1
    clear h
    go_enter Tryd.func35, Tryd.ntmps35
    go_wp2_with fail
    refine (ARM.out _).mono ?_
    rintro e w' ⟨rfl, rfl⟩
    go_wp2_with fail
    go_ret
    exact ⟨iretb E.out.symm, (Below.refl _ _).alloc (Nat.le_refl _) _⟩
  · have g1' : decide (31 < rd) = false := by simpa using g1
    by_cases g2 : 31 < rs1
    · have g2' : decide (31 < rs1) = true := by simpa using g2
      clear h
      go_enter Tryd.func35, Tryd.ntmps35
      go_wp2_with fail
      refine (ARM.out _).mono ?_
      rintro e w' ⟨rfl, rfl⟩
      go_wp2_with fail
      go_ret
      exact ⟨iretb E.out.symm, (Below.refl _ _).alloc (Nat.le_refl _) _⟩
    · have g2' : decide (31 < rs1) = false := by simpa using g2
      by_cases g3 : 31 < rs2
      · have g3' : decide (31 < rs2) = true := by simpa using g3
        clear h
        go_enter Tryd.func35, Tryd.ntmps35
        go_wp2_with fail
        refine (ARM.out _).mono ?_
        rintro e w' ⟨rfl, rfl⟩
        go_wp2_with fail
        go_ret
        exact ⟨iretb E.out.symm, (Below.refl _ _).alloc (Nat.le_refl _) _⟩
      · have g3' : decide (31 < rs2) = false := by simpa using g3
        cases is
        · have hi : imm ≠ 0 := fun e => h (by simp [e]; omega)
          have hi2 : (imm != 0) = true := by simpa using hi
          clear h
          go_enter Tryd.func35, Tryd.ntmps35
          go_wp2_with fail
          refine (ARM.out _).mono ?_
          rintro e w' ⟨rfl, rfl⟩
          go_wp2_with fail
          go_ret
          exact ⟨iretb E.out.symm, (Below.refl _ _).alloc (Nat.le_refl _) _⟩
        · have hi : rs2 ≠ 0 := fun e => h (by simp [e]; omega)
          have hi2 : (rs2 != 0) = true := by simpa using hi
          clear h
          go_enter Tryd.func35, Tryd.ntmps35
          go_wp2_with fail
          refine (ARM.out _).mono ?_
          rintro e w' ⟨rfl, rfl⟩
          go_wp2_with fail
          go_ret
          exact ⟨iretb E.out.symm, (Below.refl _ _).alloc (Nat.le_refl _) _⟩
end Go.Proofs.YtimhpohlaagbpaaDoor
