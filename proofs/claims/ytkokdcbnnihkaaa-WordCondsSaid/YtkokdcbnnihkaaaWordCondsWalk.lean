/- The walk of muntinlaw01.WordConds: conditions by the flags say what the comparing operations make. -/
import Derived.Test.YtkokdcbnnihkaaaWordHead
import Derived.Handy
namespace Go.Proofs.Ytkokdcbnnihkaaa
open Go.RowKit
set_option linter.unusedVariables false

theorem flags_has (a b : Int) : hasS (flagsS a b) 8 = decide (s32 (a - b) < 0) ∧ hasS (flagsS a b) 4 = decide (a = b) ∧ hasS (flagsS a b) 2 = (!decide (s32 a - s32 b = s32 (a - b))) ∧ hasS (flagsS a b) 1 = decide (a < b) := by
  unfold flagsS
  generalize decide (s32 (a - b) < 0) = p
  generalize decide (a = b) = q
  generalize decide (s32 a - s32 b = s32 (a - b)) = r
  generalize decide (a < b) = s
  cases p <;> cases q <;> cases r <;> cases s <;> decide
theorem lt_flags (a b : Int) : (hasS (flagsS a b) 8 != hasS (flagsS a b) 2) = decide (s32 a < s32 b) := by
  obtain ⟨h1, _, h2, _⟩ := flags_has a b
  rw [h1, h2, Bool.eq_iff_iff]
  by_cases k1 : s32 (a - b) < 0 <;> by_cases k2 : s32 a - s32 b = s32 (a - b) <;> simp [k1, k2] <;> unfold s32 at * <;> omega
theorem conds (a b : Int) : holdsS 3 (flagsS a b) = decide (s32 a < s32 b) ∧ holdsS 4 (flagsS a b) = (!decide (s32 a < s32 b)) ∧ holdsS 5 (flagsS a b) = decide (a < b) ∧ holdsS 6 (flagsS a b) = (!decide (a < b)) ∧ holdsS 1 (flagsS a b) = decide (a = b) ∧ holdsS 2 (flagsS a b) = (!decide (a = b)) := by
  have h := lt_flags a b
  obtain ⟨_, h2, _, h4⟩ := flags_has a b
  simp [holdsS, h, h2, h4]
theorem truth_one (p : Bool) : (truthS p == 1) = p := by cases p <;> rfl
set_option maxHeartbeats 1000000 in
theorem walk_WordConds (a0 a1 : Int) (w0 : (Lit.int .u32 a0).wf = true) (w1 : (Lit.int .u32 a1).wf = true) (w : World) :
    Calls Try.prog 8 #[.int .u32 a0, .int .u32 a1] w fun e w' => e = .returned (.bool true) ∧ Below w.heap.size w w' := by
  have b1 := int_u32 w0
  have b2 := int_u32 w1
  have b3 := flagsS_bd a0 a1
  clear w0 w1
  obtain ⟨c3, c4, c5, c6, c1, c2⟩ := conds a0 a1
  have C3 := hid c3; have C4 := hid c4; have C5 := hid c5; have C6 := hid c6; have C1 := hid c1; have C2 := hid c2
  clear c3 c4 c5 c6 c1 c2
  have d11 : doW 11 a0 a1 = truthS (decide (s32 a0 < s32 a1)) := rfl
  have d12 : doW 12 a0 a1 = truthS (decide (a0 < a1)) := rfl
  have d13 : doW 13 a0 a1 = truthS (decide (a0 = a1)) := rfl
  have D := hid (And.intro d11 (And.intro d12 d13)); clear d11 d12 d13
  go_enter Try.func8, Try.ntmps8
  go_wp2_with fail
  refine (flags_any a0 a1 b1.1 b1.2 b2.1 b2.2 _).mono ?_
  rintro e w1 ⟨rfl, hb1⟩
  go_wp2_with fail
  refine (do11_any a0 a1 b1.1 b1.2 b2.1 b2.2 _).mono ?_
  rw [D.out.1]
  rintro e w2 ⟨rfl, hb2⟩
  go_wp2_with fail
  refine (do12_any a0 a1 b1.1 b1.2 b2.1 b2.2 _).mono ?_
  rw [D.out.2.1]
  rintro e w3 ⟨rfl, hb3⟩
  go_wp2_with fail
  refine (do13_any a0 a1 b1.1 b1.2 b2.1 b2.2 _).mono ?_
  rw [D.out.2.2]
  rintro e w4 ⟨rfl, hb4⟩
  generalize decide (s32 a0 < s32 a1) = p at *
  generalize decide (a0 < a1) = q at *
  generalize decide (a0 = a1) = r at *
  have t1 := truth_one p
  have t2 := truth_one q
  have t3 := truth_one r
  cases p <;> cases q <;> cases r
  all_goals
    simp only [truthS] at t1 t2 t3
    clear t1 t2 t3
    go_wp2_with fail
    refine (holds3_any (flagsS a0 a1) b3.1 (by omega) _).mono ?_
    rw [C3.out]
    rintro e w5 ⟨rfl, hb5⟩
    go_wp2_with fail
    refine (holds5_any (flagsS a0 a1) b3.1 (by omega) _).mono ?_
    rw [C5.out]
    rintro e w6 ⟨rfl, hb6⟩
    go_wp2_with fail
    refine (holds1_any (flagsS a0 a1) b3.1 (by omega) _).mono ?_
    rw [C1.out]
    rintro e w7 ⟨rfl, hb7⟩
    go_wp2_with fail
    refine (holds4_any (flagsS a0 a1) b3.1 (by omega) _).mono ?_
    rw [C4.out]
    rintro e w8 ⟨rfl, hb8⟩
    go_wp2_with fail
    refine (holds6_any (flagsS a0 a1) b3.1 (by omega) _).mono ?_
    rw [C6.out]
    rintro e w9 ⟨rfl, hb9⟩
    go_wp2_with fail
    refine (holds2_any (flagsS a0 a1) b3.1 (by omega) _).mono ?_
    rw [C2.out]
    rintro e w10 ⟨rfl, hb10⟩
    go_wp2_with fail
    refine (holds0_any (flagsS a0 a1) b3.1 (by omega) _).mono ?_
    rw [show holdsS 0 (flagsS a0 a1) = true from rfl]
    rintro e w11 ⟨rfl, hb11⟩
    go_wp2_with fail
    refine (head_any _).mono ?_
    rintro e w12 ⟨rfl, hb12⟩
    go_wp2_with fail
    go_ret
    exact ⟨rfl, (bt (bt (bt (bt (bt (bt (bt (bt (bt (bt (bt hb1 hb2) hb3) hb4) hb5) hb6) hb7) hb8) hb9) hb10) hb11) hb12)⟩
end Go.Proofs.Ytkokdcbnnihkaaa
