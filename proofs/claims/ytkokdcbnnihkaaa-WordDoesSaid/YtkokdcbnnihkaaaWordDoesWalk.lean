/- The walk of muntinlaw01.WordDoes. -/
import Derived.Test.YtkokdcbnnihkaaaWordHead
import Derived.Test.YtkokdcbnnihkaaaWordRef
import Derived.Handy
namespace Go.Proofs.Ytkokdcbnnihkaaa
open Go.RowKit
set_option linter.unusedVariables false

theorem rdo_any (op : Int) (h1 : 0 ≤ op) (h2 : op < 256) (a b : Int) (ha : 0 ≤ a) (ha2 : a < 4294967296) (hb : 0 ≤ b) (hb2 : b < 4294967296) (w : World) :
    Calls Try.prog 22 #[.int .u8 op, .int .u32 a, .int .u32 b] w fun e w' => e = .returned (.tuple #[.int .u32 (doW op.toNat a b), .bool (doB op.toNat b)]) ∧ w = w' := by
  by_cases h : 14 ≤ op
  · rw [doW_none _ (by omega), doB_none _ (by omega)]; exact rdo_none op h a b w
  · have hc : op = 0 ∨ op = 1 ∨ op = 2 ∨ op = 3 ∨ op = 4 ∨ op = 5 ∨ op = 6 ∨ op = 7 ∨ op = 8 ∨ op = 9 ∨ op = 10 ∨ op = 11 ∨ op = 12 ∨ op = 13 := by omega
    rcases hc with rfl | rfl | rfl | rfl | rfl | rfl | rfl | rfl | rfl | rfl | rfl | rfl | rfl | rfl
    · exact rdo0_any a b ha ha2 hb hb2 w
    · exact rdo1_any a b ha ha2 hb hb2 w
    · exact rdo2_any a b ha ha2 hb hb2 w
    · by_cases h0 : b = 0
      · subst h0; exact rdo3_zero a w
      · exact rdo3_some a b ha ha2 hb hb2 w h0
    · by_cases h0 : b = 0
      · subst h0; exact rdo4_zero a w
      · exact rdo4_some a b ha ha2 hb hb2 w h0
    · exact rdo5_any a b ha ha2 hb hb2 w
    · exact rdo6_any a b ha ha2 hb hb2 w
    · exact rdo7_any a b ha ha2 hb hb2 w
    · exact rdo8_any a b ha ha2 hb hb2 w
    · exact rdo9_any a b ha ha2 hb hb2 w
    · exact rdo10_any a b ha ha2 hb hb2 w
    · exact rdo11_any a b ha ha2 hb hb2 w
    · exact rdo12_any a b ha ha2 hb hb2 w
    · exact rdo13_any a b ha ha2 hb hb2 w

set_option maxHeartbeats 400000 in
theorem walk_WordDoes (a0 a1 a2 : Int) (w0 : (Lit.int .u8 a0).wf = true) (w1 : (Lit.int .u32 a1).wf = true) (w2 : (Lit.int .u32 a2).wf = true) (w : World) :
    Calls Try.prog 6 #[.int .u8 a0, .int .u32 a1, .int .u32 a2] w fun e w' => e = .returned (.bool true) ∧ Below w.heap.size w w' := by
  have b0 := int_u8 w0
  have b1 := int_u32 w1
  have b2 := int_u32 w2
  clear w0 w1 w2
  go_enter Try.func6, Try.ntmps6
  go_wp2_with fail
  refine (do_any a0 b0.1 b0.2 a1 a2 b1.1 b1.2 b2.1 b2.2 _).mono ?_
  rintro e w1 ⟨rfl, hb1⟩
  go_wp2_with fail
  refine (rdo_any a0 b0.1 b0.2 a1 a2 b1.1 b1.2 b2.1 b2.2 _).mono ?_
  rintro e w' ⟨rfl, rfl⟩
  go_wp2_with fail
  refine (do_any _ (by omega) (by omega) a1 a2 b1.1 b1.2 b2.1 b2.2 _).mono ?_
  rintro e w2 ⟨rfl, hb2⟩
  go_wp2_with fail
  refine (rdo_any _ (by omega) (by omega) a1 a2 b1.1 b1.2 b2.1 b2.2 _).mono ?_
  rintro e w' ⟨rfl, rfl⟩
  go_wp2_with fail
  refine (head_any _).mono ?_
  rintro e w3 ⟨rfl, hb3⟩
  go_wp2_with fail
  go_ret
  exact ⟨rfl, bt (bt hb1 hb2) hb3⟩
end Go.Proofs.Ytkokdcbnnihkaaa
