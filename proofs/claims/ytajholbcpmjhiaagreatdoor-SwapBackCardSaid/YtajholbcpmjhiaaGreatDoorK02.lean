/- Several texts in one: SwapMay. -/
import Derived.Test.YtajholbcpmjhiaaGreatDoorK01
set_option linter.unusedVariables false
set_option linter.unusedSimpArgs false
namespace Go.Proofs.YtajholbcpmjhiaaGreatDoor
open Go.RowKit
set_option maxRecDepth 100000 in
set_option maxHeartbeats 8000000 in
theorem smay_any (w : World) (x : CaseS) (vr vf : Value) (h : CaseSIn w x vr vf) :
    Calls Tryz.prog 34 #[x.agg vr vf] w fun e w' => e = .returned (.bool (decide (mayS x))) ∧ Below w.heap.size w w' := by
  obtain ⟨nw, cwp, inv, regs, frames, threads, runs, alive, stacks, choice, flags, pil, fill, en⟩ := x
  obtain ⟨pr, cr, rfl⟩ : ∃ p c, vr = .slice p regs.length c := by obtain ⟨⟨_, p, c, e, _⟩, _⟩ := h.r; exact ⟨p, c, e⟩
  obtain ⟨pf, cf, rfl⟩ : ∃ p c, vf = .slice p frames.length c := by obtain ⟨_, _, p, c, _, _, e, _⟩ := h.f; exact ⟨p, c, e⟩
  clear h
  have HV : ∀ b : Bool, (b = true ↔ mayS ⟨nw, cwp, inv, regs, frames, threads, runs, alive, stacks, choice, flags, pil, fill, en⟩) → b = decide (mayS ⟨nw, cwp, inv, regs, frames, threads, runs, alive, stacks, choice, flags, pil, fill, en⟩) := fun b hb => by
    cases b
    · exact (decide_eq_false (fun hh => Bool.false_ne_true (hb.2 hh))).symm
    · exact (decide_eq_true (hb.1 rfl)).symm
  have HV := mhid HV
  obtain ⟨W1, hW1⟩ : ∃ W1, W1 = w.alloc (.cells (CaseS.cells ⟨nw, cwp, inv, regs, frames, threads, runs, alive, stacks, choice, flags, pil, fill, en⟩ (.slice pr regs.length cr) (.slice pf frames.length cf)).toArray 76) := ⟨_, rfl⟩
  have hb1 : Below w.heap.size w W1 := by rw [hW1]; exact (Below.refl _ _).alloc (Nat.le_refl _) _
  have hB : ARow W1 w.heap.size 76 (CaseS.cells ⟨nw, cwp, inv, regs, frames, threads, runs, alive, stacks, choice, flags, pil, fill, en⟩ (.slice pr regs.length cr) (.slice pf frames.length cf)) := by rw [hW1]; exact ARow.fresh w _ _
  have HB1 := mhid hb1
  have HB := mhid hB
  unfold CaseS.cells at HB hW1
  have c0 := HB.out.cell (k := 0) rfl
  have c1 := HB.out.cell (k := 1) rfl
  have c2 := HB.out.cell (k := 2) rfl
  have c3 := HB.out.cell (k := 3) rfl
  have c4 := HB.out.cell (k := 4) rfl
  have c5 := HB.out.cell (k := 5) rfl
  have c6 := HB.out.cell (k := 6) rfl
  have c16 := HB.out.cell (k := 16) rfl
  have c17 := HB.out.cell (k := 17) rfl
  clear hb1 hB
  rw [hW1] at c0 c1 c2 c3 c4 c5 c6 c16 c17
  go_enter Tryz.func34, Tryz.ntmps34
  unfold CaseS.agg
  by_cases a0 : (2 : Int) ≤ nw
  case neg =>
    go_wp2_with fail
    rw [← hW1]
    first
      | go_ret2
      | go_ret
    exact ⟨congrArg (fun b => Ending.returned (Value.bool b)) (HV.out _ (by unfold mayS; simp; omega)), HB1.out⟩
  case pos =>
    by_cases a1 : nw ≤ 32
    case neg =>
      go_wp2_with fail
      rw [← hW1]
      first
        | go_ret2
        | go_ret
      exact ⟨congrArg (fun b => Ending.returned (Value.bool b)) (HV.out _ (by unfold mayS; simp; omega)), HB1.out⟩
    case pos =>
      by_cases a2 : (0 : Int) ≤ cwp
      case neg =>
        go_wp2_with fail
        rw [← hW1]
        first
          | go_ret2
          | go_ret
        exact ⟨congrArg (fun b => Ending.returned (Value.bool b)) (HV.out _ (by unfold mayS; simp; omega)), HB1.out⟩
      case pos =>
        by_cases a3 : cwp < nw
        case neg =>
          go_wp2_with fail
          rw [← hW1]
          first
            | go_ret2
            | go_ret
          exact ⟨congrArg (fun b => Ending.returned (Value.bool b)) (HV.out _ (by unfold mayS; simp; omega)), HB1.out⟩
        case pos =>
          by_cases a4 : (0 : Int) ≤ inv
          case neg =>
            go_wp2_with fail
            rw [← hW1]
            first
              | go_ret2
              | go_ret
            exact ⟨congrArg (fun b => Ending.returned (Value.bool b)) (HV.out _ (by unfold mayS; simp; omega)), HB1.out⟩
          case pos =>
            by_cases a5 : inv < nw
            case neg =>
              go_wp2_with fail
              rw [← hW1]
              first
                | go_ret2
                | go_ret
              exact ⟨congrArg (fun b => Ending.returned (Value.bool b)) (HV.out _ (by unfold mayS; simp; omega)), HB1.out⟩
            case pos =>
              by_cases a6 : inv ≠ cwp
              case neg =>
                go_wp2_with fail
                rw [← hW1]
                first
                  | go_ret2
                  | go_ret
                exact ⟨congrArg (fun b => Ending.returned (Value.bool b)) (HV.out _ (by unfold mayS; simp; omega)), HB1.out⟩
              case pos =>
                by_cases a7 : (1 : Int) ≤ threads
                case neg =>
                  go_wp2_with fail
                  rw [← hW1]
                  first
                    | go_ret2
                    | go_ret
                  exact ⟨congrArg (fun b => Ending.returned (Value.bool b)) (HV.out _ (by unfold mayS; simp; omega)), HB1.out⟩
                case pos =>
                  by_cases a8 : threads ≤ 4
                  case neg =>
                    go_wp2_with fail
                    rw [← hW1]
                    first
                      | go_ret2
                      | go_ret
                    exact ⟨congrArg (fun b => Ending.returned (Value.bool b)) (HV.out _ (by unfold mayS; simp; omega)), HB1.out⟩
                  case pos =>
                    by_cases a9 : (0 : Int) ≤ runs
                    case neg =>
                      go_wp2_with fail
                      rw [← hW1]
                      first
                        | go_ret2
                        | go_ret
                      exact ⟨congrArg (fun b => Ending.returned (Value.bool b)) (HV.out _ (by unfold mayS; simp; omega)), HB1.out⟩
                    case pos =>
                      by_cases a10 : runs < threads
                      case neg =>
                        go_wp2_with fail
                        rw [← hW1]
                        first
                          | go_ret2
                          | go_ret
                        exact ⟨congrArg (fun b => Ending.returned (Value.bool b)) (HV.out _ (by unfold mayS; simp; omega)), HB1.out⟩
                      case pos =>
                        by_cases a11 : pil ≤ 15
                        case neg =>
                          go_wp2_with fail
                          rw [← hW1]
                          first
                            | go_ret2
                            | go_ret
                          exact ⟨congrArg (fun b => Ending.returned (Value.bool b)) (HV.out _ (by unfold mayS; simp; omega)), HB1.out⟩
                        case pos =>
                          by_cases a12 : flags ≤ 15
                          case neg =>
                            go_wp2_with fail
                            rw [← hW1]
                            first
                              | go_ret2
                              | go_ret
                            exact ⟨congrArg (fun b => Ending.returned (Value.bool b)) (HV.out _ (by unfold mayS; simp; omega)), HB1.out⟩
                          case pos =>
                            by_cases a13 : (regs.length : Int) ≤ 512
                            case neg =>
                              go_wp2_with fail
                              rw [← hW1]
                              first
                                | go_ret2
                                | go_ret
                              exact ⟨congrArg (fun b => Ending.returned (Value.bool b)) (HV.out _ (by unfold mayS; simp; omega)), HB1.out⟩
                            case pos =>
                              by_cases a14 : (frames.length : Int) ≤ 64
                              case neg =>
                                go_wp2_with fail
                                rw [← hW1]
                                first
                                  | go_ret2
                                  | go_ret
                                exact ⟨congrArg (fun b => Ending.returned (Value.bool b)) (HV.out _ (by unfold mayS; simp; omega)), HB1.out⟩
                              case pos =>
                                go_wp2_with fail
                                rw [← hW1]
                                first
                                  | go_ret2
                                  | go_ret
                                exact ⟨congrArg (fun b => Ending.returned (Value.bool b)) (HV.out _ (by unfold mayS; simp; omega)), HB1.out⟩
end Go.Proofs.YtajholbcpmjhiaaGreatDoor
