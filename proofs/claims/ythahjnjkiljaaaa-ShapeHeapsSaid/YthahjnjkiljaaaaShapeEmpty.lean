/- The walk of muntinref14.empty, an operation at a time. -/
import Derived.Test.YthahjnjkiljaaaaShapeBare
import Derived.BigGuardPart
namespace Go.Proofs.Ythahjnjkiljaaaa
open Go.RowKit
set_option linter.unusedVariables false
set_option linter.unusedSimpArgs false
/-- What an instruction does not have is 0. -/
def emptyF (op d a b n f : Int) (len : Nat) (l1 l2 : Int) : Prop :=
  ((op = 0 ∨ op = 1 ∨ op = 2 ∨ op = 3 ∨ op = 5) ∨ d = 0) ∧ ((op = 1 ∨ op = 2 ∨ op = 3 ∨ op = 4 ∨ op = 6 ∨ op = 9 ∨ op = 10) ∨ a = 0) ∧ ((op = 1 ∨ op = 4) ∨ b = 0) ∧ ((op = 0 ∨ op = 1) ∨ n = 0) ∧
    (op = 5 ∨ f = 0) ∧ (op = 5 ∨ len = 0) ∧ ((op = 8 ∨ op = 9) ∨ l1 = 0) ∧ (op = 9 ∨ l2 = 0)
instance (op d a b n f : Int) (len : Nat) (l1 l2 : Int) : Decidable (emptyF op d a b n f len l1 l2) := by unfold emptyF; infer_instance
theorem Ibox_of (w : World) (op d a b n f : Int) (av : Value) (l1 l2 : Int) (t : TypeId) : IBox (w.alloc (.cells #[.int .u8 op, .int .i64 d, .int .i64 a, .int .i64 b, .int .u32 n, .int .i64 f, av, .int .i64 l1, .int .i64 l2] t)) w.heap.size ⟨op, d, a, b, n, f, [], l1, l2⟩ av := IBox.new w ⟨op, d, a, b, n, f, [], l1, l2⟩ av t
set_option maxRecDepth 100000 in
set_option maxHeartbeats 2000000 in
theorem empty_0 (d a b n f : Int) (len : Nat) (l1 l2 : Int) (p : Option Addr) (c : Nat) (w : World) :
    Calls Try.prog 56 #[.agg #[.int .u8 0, .int .i64 d, .int .i64 a, .int .i64 b, .int .u32 n, .int .i64 f, .slice p len c, .int .i64 l1, .int .i64 l2]] w fun e w' => e = .returned (.bool (decide (emptyF 0 d a b n f len l1 l2))) ∧ Below w.heap.size w w' := by
  have HBX := shid (Ibox_of w 0 d a b n f (.slice p len c) l1 l2 44)
  have HW0 := shid (show Below w.heap.size w (w.alloc (.cells #[.int .u8 0, .int .i64 d, .int .i64 a, .int .i64 b, .int .u32 n, .int .i64 f, .slice p len c, .int .i64 l1, .int .i64 l2] 44)) from (Below.refl _ _).alloc (Nat.le_refl _) _)
  have Cd : Hid (∀ W : World, Calls Try.prog 31 #[.string (hasS 0), .int .u8 100] W fun e w' => e = .returned (.bool true) ∧ W = w') := shid fun W => by rw [← (show inB (hasS 0) 100 = true from by decide +kernel)]; exact in_any (hasS 0) 100 (hasS_size _) W
  have Ca : Hid (∀ W : World, Calls Try.prog 31 #[.string (hasS 0), .int .u8 97] W fun e w' => e = .returned (.bool false) ∧ W = w') := shid fun W => by rw [← (show inB (hasS 0) 97 = false from by decide +kernel)]; exact in_any (hasS 0) 97 (hasS_size _) W
  have Cb : Hid (∀ W : World, Calls Try.prog 31 #[.string (hasS 0), .int .u8 98] W fun e w' => e = .returned (.bool false) ∧ W = w') := shid fun W => by rw [← (show inB (hasS 0) 98 = false from by decide +kernel)]; exact in_any (hasS 0) 98 (hasS_size _) W
  have Cn : Hid (∀ W : World, Calls Try.prog 31 #[.string (hasS 0), .int .u8 110] W fun e w' => e = .returned (.bool true) ∧ W = w') := shid fun W => by rw [← (show inB (hasS 0) 110 = true from by decide +kernel)]; exact in_any (hasS 0) 110 (hasS_size _) W
  have Cf : Hid (∀ W : World, Calls Try.prog 31 #[.string (hasS 0), .int .u8 102] W fun e w' => e = .returned (.bool false) ∧ W = w') := shid fun W => by rw [← (show inB (hasS 0) 102 = false from by decide +kernel)]; exact in_any (hasS 0) 102 (hasS_size _) W
  have Cx : Hid (∀ W : World, Calls Try.prog 31 #[.string (hasS 0), .int .u8 120] W fun e w' => e = .returned (.bool false) ∧ W = w') := shid fun W => by rw [← (show inB (hasS 0) 120 = false from by decide +kernel)]; exact in_any (hasS 0) 120 (hasS_size _) W
  have Cl : Hid (∀ W : World, Calls Try.prog 31 #[.string (hasS 0), .int .u8 108] W fun e w' => e = .returned (.bool false) ∧ W = w') := shid fun W => by rw [← (show inB (hasS 0) 108 = false from by decide +kernel)]; exact in_any (hasS 0) 108 (hasS_size _) W
  have Cm : Hid (∀ W : World, Calls Try.prog 31 #[.string (hasS 0), .int .u8 109] W fun e w' => e = .returned (.bool false) ∧ W = w') := shid fun W => by rw [← (show inB (hasS 0) 109 = false from by decide +kernel)]; exact in_any (hasS 0) 109 (hasS_size _) W
  have HH := shid (rhas_any 0 (by omega) (by omega) (w.alloc (.cells #[.int .u8 0, .int .i64 d, .int .i64 a, .int .i64 b, .int .u32 n, .int .i64 f, .slice p len c, .int .i64 l1, .int .i64 l2] 44)))
  go_enter Try.func56, Try.ntmps56
  simp only [List.append_eq, List.cons_append, List.nil_append]
  have b0 := HBX.out.c0
  go_wp2_with fail
  clear b0
  refine HH.out.mono ?_
  rintro e w1 ⟨rfl, hb1⟩
  have HB1 := shid (HBX.out.keep hb1)
  have HW1 := shid (sbt HW0.out hb1)
  clear hb1 HBX HW0 HH
  obtain ⟨blt, b0, b1, b2, b3, b4, b5, b6, b7, b8⟩ := HB1.out
  simp only at b1 b2 b3 b4 b5 b7 b8
  generalize hasS 0 = s at *
  go_wp2_with (first | (go_at_call 31; first
    | ((with_reducible refine (Cd.out _).mono ?_); rintro e w2 ⟨rfl, rfl⟩)
    | ((with_reducible refine (Ca.out _).mono ?_); rintro e w2 ⟨rfl, rfl⟩)
    | ((with_reducible refine (Cb.out _).mono ?_); rintro e w2 ⟨rfl, rfl⟩)
    | ((with_reducible refine (Cn.out _).mono ?_); rintro e w2 ⟨rfl, rfl⟩)
    | ((with_reducible refine (Cf.out _).mono ?_); rintro e w2 ⟨rfl, rfl⟩)
    | ((with_reducible refine (Cx.out _).mono ?_); rintro e w2 ⟨rfl, rfl⟩)
    | ((with_reducible refine (Cl.out _).mono ?_); rintro e w2 ⟨rfl, rfl⟩)
    | ((with_reducible refine (Cm.out _).mono ?_); rintro e w2 ⟨rfl, rfl⟩)
    ))
  all_goals
    go_ret
    refine ⟨congrArg (fun b => Ending.returned (.bool b)) (?_ : _ = decide (emptyF 0 d a b n f len l1 l2)), HW1.out⟩
    first
      | (refine (decide_eq_true ?_).symm; unfold emptyF; omega)
      | (refine (decide_eq_false ?_).symm; unfold emptyF; omega)
      | (refine decide_eq_decide.2 ?_; unfold emptyF; omega)
      | (refine (beq_eq_decide _ _).trans (decide_eq_decide.2 ?_); unfold emptyF; omega)
set_option maxRecDepth 100000 in
set_option maxHeartbeats 2000000 in
theorem empty_1 (d a b n f : Int) (len : Nat) (l1 l2 : Int) (p : Option Addr) (c : Nat) (w : World) :
    Calls Try.prog 56 #[.agg #[.int .u8 1, .int .i64 d, .int .i64 a, .int .i64 b, .int .u32 n, .int .i64 f, .slice p len c, .int .i64 l1, .int .i64 l2]] w fun e w' => e = .returned (.bool (decide (emptyF 1 d a b n f len l1 l2))) ∧ Below w.heap.size w w' := by
  have HBX := shid (Ibox_of w 1 d a b n f (.slice p len c) l1 l2 44)
  have HW0 := shid (show Below w.heap.size w (w.alloc (.cells #[.int .u8 1, .int .i64 d, .int .i64 a, .int .i64 b, .int .u32 n, .int .i64 f, .slice p len c, .int .i64 l1, .int .i64 l2] 44)) from (Below.refl _ _).alloc (Nat.le_refl _) _)
  have Cd : Hid (∀ W : World, Calls Try.prog 31 #[.string (hasS 1), .int .u8 100] W fun e w' => e = .returned (.bool true) ∧ W = w') := shid fun W => by rw [← (show inB (hasS 1) 100 = true from by decide +kernel)]; exact in_any (hasS 1) 100 (hasS_size _) W
  have Ca : Hid (∀ W : World, Calls Try.prog 31 #[.string (hasS 1), .int .u8 97] W fun e w' => e = .returned (.bool true) ∧ W = w') := shid fun W => by rw [← (show inB (hasS 1) 97 = true from by decide +kernel)]; exact in_any (hasS 1) 97 (hasS_size _) W
  have Cb : Hid (∀ W : World, Calls Try.prog 31 #[.string (hasS 1), .int .u8 98] W fun e w' => e = .returned (.bool true) ∧ W = w') := shid fun W => by rw [← (show inB (hasS 1) 98 = true from by decide +kernel)]; exact in_any (hasS 1) 98 (hasS_size _) W
  have Cn : Hid (∀ W : World, Calls Try.prog 31 #[.string (hasS 1), .int .u8 110] W fun e w' => e = .returned (.bool true) ∧ W = w') := shid fun W => by rw [← (show inB (hasS 1) 110 = true from by decide +kernel)]; exact in_any (hasS 1) 110 (hasS_size _) W
  have Cf : Hid (∀ W : World, Calls Try.prog 31 #[.string (hasS 1), .int .u8 102] W fun e w' => e = .returned (.bool false) ∧ W = w') := shid fun W => by rw [← (show inB (hasS 1) 102 = false from by decide +kernel)]; exact in_any (hasS 1) 102 (hasS_size _) W
  have Cx : Hid (∀ W : World, Calls Try.prog 31 #[.string (hasS 1), .int .u8 120] W fun e w' => e = .returned (.bool false) ∧ W = w') := shid fun W => by rw [← (show inB (hasS 1) 120 = false from by decide +kernel)]; exact in_any (hasS 1) 120 (hasS_size _) W
  have Cl : Hid (∀ W : World, Calls Try.prog 31 #[.string (hasS 1), .int .u8 108] W fun e w' => e = .returned (.bool false) ∧ W = w') := shid fun W => by rw [← (show inB (hasS 1) 108 = false from by decide +kernel)]; exact in_any (hasS 1) 108 (hasS_size _) W
  have Cm : Hid (∀ W : World, Calls Try.prog 31 #[.string (hasS 1), .int .u8 109] W fun e w' => e = .returned (.bool false) ∧ W = w') := shid fun W => by rw [← (show inB (hasS 1) 109 = false from by decide +kernel)]; exact in_any (hasS 1) 109 (hasS_size _) W
  have HH := shid (rhas_any 1 (by omega) (by omega) (w.alloc (.cells #[.int .u8 1, .int .i64 d, .int .i64 a, .int .i64 b, .int .u32 n, .int .i64 f, .slice p len c, .int .i64 l1, .int .i64 l2] 44)))
  go_enter Try.func56, Try.ntmps56
  simp only [List.append_eq, List.cons_append, List.nil_append]
  have b0 := HBX.out.c0
  go_wp2_with fail
  clear b0
  refine HH.out.mono ?_
  rintro e w1 ⟨rfl, hb1⟩
  have HB1 := shid (HBX.out.keep hb1)
  have HW1 := shid (sbt HW0.out hb1)
  clear hb1 HBX HW0 HH
  obtain ⟨blt, b0, b1, b2, b3, b4, b5, b6, b7, b8⟩ := HB1.out
  simp only at b1 b2 b3 b4 b5 b7 b8
  generalize hasS 1 = s at *
  go_wp2_with (first | (go_at_call 31; first
    | ((with_reducible refine (Cd.out _).mono ?_); rintro e w2 ⟨rfl, rfl⟩)
    | ((with_reducible refine (Ca.out _).mono ?_); rintro e w2 ⟨rfl, rfl⟩)
    | ((with_reducible refine (Cb.out _).mono ?_); rintro e w2 ⟨rfl, rfl⟩)
    | ((with_reducible refine (Cn.out _).mono ?_); rintro e w2 ⟨rfl, rfl⟩)
    | ((with_reducible refine (Cf.out _).mono ?_); rintro e w2 ⟨rfl, rfl⟩)
    | ((with_reducible refine (Cx.out _).mono ?_); rintro e w2 ⟨rfl, rfl⟩)
    | ((with_reducible refine (Cl.out _).mono ?_); rintro e w2 ⟨rfl, rfl⟩)
    | ((with_reducible refine (Cm.out _).mono ?_); rintro e w2 ⟨rfl, rfl⟩)
    ))
  all_goals
    go_ret
    refine ⟨congrArg (fun b => Ending.returned (.bool b)) (?_ : _ = decide (emptyF 1 d a b n f len l1 l2)), HW1.out⟩
    first
      | (refine (decide_eq_true ?_).symm; unfold emptyF; omega)
      | (refine (decide_eq_false ?_).symm; unfold emptyF; omega)
      | (refine decide_eq_decide.2 ?_; unfold emptyF; omega)
      | (refine (beq_eq_decide _ _).trans (decide_eq_decide.2 ?_); unfold emptyF; omega)
set_option maxRecDepth 100000 in
set_option maxHeartbeats 2000000 in
theorem empty_2 (d a b n f : Int) (len : Nat) (l1 l2 : Int) (p : Option Addr) (c : Nat) (w : World) :
    Calls Try.prog 56 #[.agg #[.int .u8 2, .int .i64 d, .int .i64 a, .int .i64 b, .int .u32 n, .int .i64 f, .slice p len c, .int .i64 l1, .int .i64 l2]] w fun e w' => e = .returned (.bool (decide (emptyF 2 d a b n f len l1 l2))) ∧ Below w.heap.size w w' := by
  have HBX := shid (Ibox_of w 2 d a b n f (.slice p len c) l1 l2 44)
  have HW0 := shid (show Below w.heap.size w (w.alloc (.cells #[.int .u8 2, .int .i64 d, .int .i64 a, .int .i64 b, .int .u32 n, .int .i64 f, .slice p len c, .int .i64 l1, .int .i64 l2] 44)) from (Below.refl _ _).alloc (Nat.le_refl _) _)
  have Cd : Hid (∀ W : World, Calls Try.prog 31 #[.string (hasS 2), .int .u8 100] W fun e w' => e = .returned (.bool true) ∧ W = w') := shid fun W => by rw [← (show inB (hasS 2) 100 = true from by decide +kernel)]; exact in_any (hasS 2) 100 (hasS_size _) W
  have Ca : Hid (∀ W : World, Calls Try.prog 31 #[.string (hasS 2), .int .u8 97] W fun e w' => e = .returned (.bool true) ∧ W = w') := shid fun W => by rw [← (show inB (hasS 2) 97 = true from by decide +kernel)]; exact in_any (hasS 2) 97 (hasS_size _) W
  have Cb : Hid (∀ W : World, Calls Try.prog 31 #[.string (hasS 2), .int .u8 98] W fun e w' => e = .returned (.bool false) ∧ W = w') := shid fun W => by rw [← (show inB (hasS 2) 98 = false from by decide +kernel)]; exact in_any (hasS 2) 98 (hasS_size _) W
  have Cn : Hid (∀ W : World, Calls Try.prog 31 #[.string (hasS 2), .int .u8 110] W fun e w' => e = .returned (.bool false) ∧ W = w') := shid fun W => by rw [← (show inB (hasS 2) 110 = false from by decide +kernel)]; exact in_any (hasS 2) 110 (hasS_size _) W
  have Cf : Hid (∀ W : World, Calls Try.prog 31 #[.string (hasS 2), .int .u8 102] W fun e w' => e = .returned (.bool false) ∧ W = w') := shid fun W => by rw [← (show inB (hasS 2) 102 = false from by decide +kernel)]; exact in_any (hasS 2) 102 (hasS_size _) W
  have Cx : Hid (∀ W : World, Calls Try.prog 31 #[.string (hasS 2), .int .u8 120] W fun e w' => e = .returned (.bool false) ∧ W = w') := shid fun W => by rw [← (show inB (hasS 2) 120 = false from by decide +kernel)]; exact in_any (hasS 2) 120 (hasS_size _) W
  have Cl : Hid (∀ W : World, Calls Try.prog 31 #[.string (hasS 2), .int .u8 108] W fun e w' => e = .returned (.bool false) ∧ W = w') := shid fun W => by rw [← (show inB (hasS 2) 108 = false from by decide +kernel)]; exact in_any (hasS 2) 108 (hasS_size _) W
  have Cm : Hid (∀ W : World, Calls Try.prog 31 #[.string (hasS 2), .int .u8 109] W fun e w' => e = .returned (.bool false) ∧ W = w') := shid fun W => by rw [← (show inB (hasS 2) 109 = false from by decide +kernel)]; exact in_any (hasS 2) 109 (hasS_size _) W
  have HH := shid (rhas_any 2 (by omega) (by omega) (w.alloc (.cells #[.int .u8 2, .int .i64 d, .int .i64 a, .int .i64 b, .int .u32 n, .int .i64 f, .slice p len c, .int .i64 l1, .int .i64 l2] 44)))
  go_enter Try.func56, Try.ntmps56
  simp only [List.append_eq, List.cons_append, List.nil_append]
  have b0 := HBX.out.c0
  go_wp2_with fail
  clear b0
  refine HH.out.mono ?_
  rintro e w1 ⟨rfl, hb1⟩
  have HB1 := shid (HBX.out.keep hb1)
  have HW1 := shid (sbt HW0.out hb1)
  clear hb1 HBX HW0 HH
  obtain ⟨blt, b0, b1, b2, b3, b4, b5, b6, b7, b8⟩ := HB1.out
  simp only at b1 b2 b3 b4 b5 b7 b8
  generalize hasS 2 = s at *
  go_wp2_with (first | (go_at_call 31; first
    | ((with_reducible refine (Cd.out _).mono ?_); rintro e w2 ⟨rfl, rfl⟩)
    | ((with_reducible refine (Ca.out _).mono ?_); rintro e w2 ⟨rfl, rfl⟩)
    | ((with_reducible refine (Cb.out _).mono ?_); rintro e w2 ⟨rfl, rfl⟩)
    | ((with_reducible refine (Cn.out _).mono ?_); rintro e w2 ⟨rfl, rfl⟩)
    | ((with_reducible refine (Cf.out _).mono ?_); rintro e w2 ⟨rfl, rfl⟩)
    | ((with_reducible refine (Cx.out _).mono ?_); rintro e w2 ⟨rfl, rfl⟩)
    | ((with_reducible refine (Cl.out _).mono ?_); rintro e w2 ⟨rfl, rfl⟩)
    | ((with_reducible refine (Cm.out _).mono ?_); rintro e w2 ⟨rfl, rfl⟩)
    ))
  all_goals
    go_ret
    refine ⟨congrArg (fun b => Ending.returned (.bool b)) (?_ : _ = decide (emptyF 2 d a b n f len l1 l2)), HW1.out⟩
    first
      | (refine (decide_eq_true ?_).symm; unfold emptyF; omega)
      | (refine (decide_eq_false ?_).symm; unfold emptyF; omega)
      | (refine decide_eq_decide.2 ?_; unfold emptyF; omega)
      | (refine (beq_eq_decide _ _).trans (decide_eq_decide.2 ?_); unfold emptyF; omega)
set_option maxRecDepth 100000 in
set_option maxHeartbeats 2000000 in
theorem empty_3 (d a b n f : Int) (len : Nat) (l1 l2 : Int) (p : Option Addr) (c : Nat) (w : World) :
    Calls Try.prog 56 #[.agg #[.int .u8 3, .int .i64 d, .int .i64 a, .int .i64 b, .int .u32 n, .int .i64 f, .slice p len c, .int .i64 l1, .int .i64 l2]] w fun e w' => e = .returned (.bool (decide (emptyF 3 d a b n f len l1 l2))) ∧ Below w.heap.size w w' := by
  have HBX := shid (Ibox_of w 3 d a b n f (.slice p len c) l1 l2 44)
  have HW0 := shid (show Below w.heap.size w (w.alloc (.cells #[.int .u8 3, .int .i64 d, .int .i64 a, .int .i64 b, .int .u32 n, .int .i64 f, .slice p len c, .int .i64 l1, .int .i64 l2] 44)) from (Below.refl _ _).alloc (Nat.le_refl _) _)
  have Cd : Hid (∀ W : World, Calls Try.prog 31 #[.string (hasS 3), .int .u8 100] W fun e w' => e = .returned (.bool true) ∧ W = w') := shid fun W => by rw [← (show inB (hasS 3) 100 = true from by decide +kernel)]; exact in_any (hasS 3) 100 (hasS_size _) W
  have Ca : Hid (∀ W : World, Calls Try.prog 31 #[.string (hasS 3), .int .u8 97] W fun e w' => e = .returned (.bool true) ∧ W = w') := shid fun W => by rw [← (show inB (hasS 3) 97 = true from by decide +kernel)]; exact in_any (hasS 3) 97 (hasS_size _) W
  have Cb : Hid (∀ W : World, Calls Try.prog 31 #[.string (hasS 3), .int .u8 98] W fun e w' => e = .returned (.bool false) ∧ W = w') := shid fun W => by rw [← (show inB (hasS 3) 98 = false from by decide +kernel)]; exact in_any (hasS 3) 98 (hasS_size _) W
  have Cn : Hid (∀ W : World, Calls Try.prog 31 #[.string (hasS 3), .int .u8 110] W fun e w' => e = .returned (.bool false) ∧ W = w') := shid fun W => by rw [← (show inB (hasS 3) 110 = false from by decide +kernel)]; exact in_any (hasS 3) 110 (hasS_size _) W
  have Cf : Hid (∀ W : World, Calls Try.prog 31 #[.string (hasS 3), .int .u8 102] W fun e w' => e = .returned (.bool false) ∧ W = w') := shid fun W => by rw [← (show inB (hasS 3) 102 = false from by decide +kernel)]; exact in_any (hasS 3) 102 (hasS_size _) W
  have Cx : Hid (∀ W : World, Calls Try.prog 31 #[.string (hasS 3), .int .u8 120] W fun e w' => e = .returned (.bool false) ∧ W = w') := shid fun W => by rw [← (show inB (hasS 3) 120 = false from by decide +kernel)]; exact in_any (hasS 3) 120 (hasS_size _) W
  have Cl : Hid (∀ W : World, Calls Try.prog 31 #[.string (hasS 3), .int .u8 108] W fun e w' => e = .returned (.bool false) ∧ W = w') := shid fun W => by rw [← (show inB (hasS 3) 108 = false from by decide +kernel)]; exact in_any (hasS 3) 108 (hasS_size _) W
  have Cm : Hid (∀ W : World, Calls Try.prog 31 #[.string (hasS 3), .int .u8 109] W fun e w' => e = .returned (.bool false) ∧ W = w') := shid fun W => by rw [← (show inB (hasS 3) 109 = false from by decide +kernel)]; exact in_any (hasS 3) 109 (hasS_size _) W
  have HH := shid (rhas_any 3 (by omega) (by omega) (w.alloc (.cells #[.int .u8 3, .int .i64 d, .int .i64 a, .int .i64 b, .int .u32 n, .int .i64 f, .slice p len c, .int .i64 l1, .int .i64 l2] 44)))
  go_enter Try.func56, Try.ntmps56
  simp only [List.append_eq, List.cons_append, List.nil_append]
  have b0 := HBX.out.c0
  go_wp2_with fail
  clear b0
  refine HH.out.mono ?_
  rintro e w1 ⟨rfl, hb1⟩
  have HB1 := shid (HBX.out.keep hb1)
  have HW1 := shid (sbt HW0.out hb1)
  clear hb1 HBX HW0 HH
  obtain ⟨blt, b0, b1, b2, b3, b4, b5, b6, b7, b8⟩ := HB1.out
  simp only at b1 b2 b3 b4 b5 b7 b8
  generalize hasS 3 = s at *
  go_wp2_with (first | (go_at_call 31; first
    | ((with_reducible refine (Cd.out _).mono ?_); rintro e w2 ⟨rfl, rfl⟩)
    | ((with_reducible refine (Ca.out _).mono ?_); rintro e w2 ⟨rfl, rfl⟩)
    | ((with_reducible refine (Cb.out _).mono ?_); rintro e w2 ⟨rfl, rfl⟩)
    | ((with_reducible refine (Cn.out _).mono ?_); rintro e w2 ⟨rfl, rfl⟩)
    | ((with_reducible refine (Cf.out _).mono ?_); rintro e w2 ⟨rfl, rfl⟩)
    | ((with_reducible refine (Cx.out _).mono ?_); rintro e w2 ⟨rfl, rfl⟩)
    | ((with_reducible refine (Cl.out _).mono ?_); rintro e w2 ⟨rfl, rfl⟩)
    | ((with_reducible refine (Cm.out _).mono ?_); rintro e w2 ⟨rfl, rfl⟩)
    ))
  all_goals
    go_ret
    refine ⟨congrArg (fun b => Ending.returned (.bool b)) (?_ : _ = decide (emptyF 3 d a b n f len l1 l2)), HW1.out⟩
    first
      | (refine (decide_eq_true ?_).symm; unfold emptyF; omega)
      | (refine (decide_eq_false ?_).symm; unfold emptyF; omega)
      | (refine decide_eq_decide.2 ?_; unfold emptyF; omega)
      | (refine (beq_eq_decide _ _).trans (decide_eq_decide.2 ?_); unfold emptyF; omega)
set_option maxRecDepth 100000 in
set_option maxHeartbeats 2000000 in
theorem empty_4 (d a b n f : Int) (len : Nat) (l1 l2 : Int) (p : Option Addr) (c : Nat) (w : World) :
    Calls Try.prog 56 #[.agg #[.int .u8 4, .int .i64 d, .int .i64 a, .int .i64 b, .int .u32 n, .int .i64 f, .slice p len c, .int .i64 l1, .int .i64 l2]] w fun e w' => e = .returned (.bool (decide (emptyF 4 d a b n f len l1 l2))) ∧ Below w.heap.size w w' := by
  have HBX := shid (Ibox_of w 4 d a b n f (.slice p len c) l1 l2 44)
  have HW0 := shid (show Below w.heap.size w (w.alloc (.cells #[.int .u8 4, .int .i64 d, .int .i64 a, .int .i64 b, .int .u32 n, .int .i64 f, .slice p len c, .int .i64 l1, .int .i64 l2] 44)) from (Below.refl _ _).alloc (Nat.le_refl _) _)
  have Cd : Hid (∀ W : World, Calls Try.prog 31 #[.string (hasS 4), .int .u8 100] W fun e w' => e = .returned (.bool false) ∧ W = w') := shid fun W => by rw [← (show inB (hasS 4) 100 = false from by decide +kernel)]; exact in_any (hasS 4) 100 (hasS_size _) W
  have Ca : Hid (∀ W : World, Calls Try.prog 31 #[.string (hasS 4), .int .u8 97] W fun e w' => e = .returned (.bool true) ∧ W = w') := shid fun W => by rw [← (show inB (hasS 4) 97 = true from by decide +kernel)]; exact in_any (hasS 4) 97 (hasS_size _) W
  have Cb : Hid (∀ W : World, Calls Try.prog 31 #[.string (hasS 4), .int .u8 98] W fun e w' => e = .returned (.bool true) ∧ W = w') := shid fun W => by rw [← (show inB (hasS 4) 98 = true from by decide +kernel)]; exact in_any (hasS 4) 98 (hasS_size _) W
  have Cn : Hid (∀ W : World, Calls Try.prog 31 #[.string (hasS 4), .int .u8 110] W fun e w' => e = .returned (.bool false) ∧ W = w') := shid fun W => by rw [← (show inB (hasS 4) 110 = false from by decide +kernel)]; exact in_any (hasS 4) 110 (hasS_size _) W
  have Cf : Hid (∀ W : World, Calls Try.prog 31 #[.string (hasS 4), .int .u8 102] W fun e w' => e = .returned (.bool false) ∧ W = w') := shid fun W => by rw [← (show inB (hasS 4) 102 = false from by decide +kernel)]; exact in_any (hasS 4) 102 (hasS_size _) W
  have Cx : Hid (∀ W : World, Calls Try.prog 31 #[.string (hasS 4), .int .u8 120] W fun e w' => e = .returned (.bool false) ∧ W = w') := shid fun W => by rw [← (show inB (hasS 4) 120 = false from by decide +kernel)]; exact in_any (hasS 4) 120 (hasS_size _) W
  have Cl : Hid (∀ W : World, Calls Try.prog 31 #[.string (hasS 4), .int .u8 108] W fun e w' => e = .returned (.bool false) ∧ W = w') := shid fun W => by rw [← (show inB (hasS 4) 108 = false from by decide +kernel)]; exact in_any (hasS 4) 108 (hasS_size _) W
  have Cm : Hid (∀ W : World, Calls Try.prog 31 #[.string (hasS 4), .int .u8 109] W fun e w' => e = .returned (.bool false) ∧ W = w') := shid fun W => by rw [← (show inB (hasS 4) 109 = false from by decide +kernel)]; exact in_any (hasS 4) 109 (hasS_size _) W
  have HH := shid (rhas_any 4 (by omega) (by omega) (w.alloc (.cells #[.int .u8 4, .int .i64 d, .int .i64 a, .int .i64 b, .int .u32 n, .int .i64 f, .slice p len c, .int .i64 l1, .int .i64 l2] 44)))
  go_enter Try.func56, Try.ntmps56
  simp only [List.append_eq, List.cons_append, List.nil_append]
  have b0 := HBX.out.c0
  go_wp2_with fail
  clear b0
  refine HH.out.mono ?_
  rintro e w1 ⟨rfl, hb1⟩
  have HB1 := shid (HBX.out.keep hb1)
  have HW1 := shid (sbt HW0.out hb1)
  clear hb1 HBX HW0 HH
  obtain ⟨blt, b0, b1, b2, b3, b4, b5, b6, b7, b8⟩ := HB1.out
  simp only at b1 b2 b3 b4 b5 b7 b8
  generalize hasS 4 = s at *
  go_wp2_with (first | (go_at_call 31; first
    | ((with_reducible refine (Cd.out _).mono ?_); rintro e w2 ⟨rfl, rfl⟩)
    | ((with_reducible refine (Ca.out _).mono ?_); rintro e w2 ⟨rfl, rfl⟩)
    | ((with_reducible refine (Cb.out _).mono ?_); rintro e w2 ⟨rfl, rfl⟩)
    | ((with_reducible refine (Cn.out _).mono ?_); rintro e w2 ⟨rfl, rfl⟩)
    | ((with_reducible refine (Cf.out _).mono ?_); rintro e w2 ⟨rfl, rfl⟩)
    | ((with_reducible refine (Cx.out _).mono ?_); rintro e w2 ⟨rfl, rfl⟩)
    | ((with_reducible refine (Cl.out _).mono ?_); rintro e w2 ⟨rfl, rfl⟩)
    | ((with_reducible refine (Cm.out _).mono ?_); rintro e w2 ⟨rfl, rfl⟩)
    ))
  all_goals
    go_ret
    refine ⟨congrArg (fun b => Ending.returned (.bool b)) (?_ : _ = decide (emptyF 4 d a b n f len l1 l2)), HW1.out⟩
    first
      | (refine (decide_eq_true ?_).symm; unfold emptyF; omega)
      | (refine (decide_eq_false ?_).symm; unfold emptyF; omega)
      | (refine decide_eq_decide.2 ?_; unfold emptyF; omega)
      | (refine (beq_eq_decide _ _).trans (decide_eq_decide.2 ?_); unfold emptyF; omega)
set_option maxRecDepth 100000 in
set_option maxHeartbeats 2000000 in
theorem empty_5 (d a b n f : Int) (len : Nat) (l1 l2 : Int) (p : Option Addr) (c : Nat) (w : World) :
    Calls Try.prog 56 #[.agg #[.int .u8 5, .int .i64 d, .int .i64 a, .int .i64 b, .int .u32 n, .int .i64 f, .slice p len c, .int .i64 l1, .int .i64 l2]] w fun e w' => e = .returned (.bool (decide (emptyF 5 d a b n f len l1 l2))) ∧ Below w.heap.size w w' := by
  have HBX := shid (Ibox_of w 5 d a b n f (.slice p len c) l1 l2 44)
  have HW0 := shid (show Below w.heap.size w (w.alloc (.cells #[.int .u8 5, .int .i64 d, .int .i64 a, .int .i64 b, .int .u32 n, .int .i64 f, .slice p len c, .int .i64 l1, .int .i64 l2] 44)) from (Below.refl _ _).alloc (Nat.le_refl _) _)
  have Cd : Hid (∀ W : World, Calls Try.prog 31 #[.string (hasS 5), .int .u8 100] W fun e w' => e = .returned (.bool true) ∧ W = w') := shid fun W => by rw [← (show inB (hasS 5) 100 = true from by decide +kernel)]; exact in_any (hasS 5) 100 (hasS_size _) W
  have Ca : Hid (∀ W : World, Calls Try.prog 31 #[.string (hasS 5), .int .u8 97] W fun e w' => e = .returned (.bool false) ∧ W = w') := shid fun W => by rw [← (show inB (hasS 5) 97 = false from by decide +kernel)]; exact in_any (hasS 5) 97 (hasS_size _) W
  have Cb : Hid (∀ W : World, Calls Try.prog 31 #[.string (hasS 5), .int .u8 98] W fun e w' => e = .returned (.bool false) ∧ W = w') := shid fun W => by rw [← (show inB (hasS 5) 98 = false from by decide +kernel)]; exact in_any (hasS 5) 98 (hasS_size _) W
  have Cn : Hid (∀ W : World, Calls Try.prog 31 #[.string (hasS 5), .int .u8 110] W fun e w' => e = .returned (.bool false) ∧ W = w') := shid fun W => by rw [← (show inB (hasS 5) 110 = false from by decide +kernel)]; exact in_any (hasS 5) 110 (hasS_size _) W
  have Cf : Hid (∀ W : World, Calls Try.prog 31 #[.string (hasS 5), .int .u8 102] W fun e w' => e = .returned (.bool true) ∧ W = w') := shid fun W => by rw [← (show inB (hasS 5) 102 = true from by decide +kernel)]; exact in_any (hasS 5) 102 (hasS_size _) W
  have Cx : Hid (∀ W : World, Calls Try.prog 31 #[.string (hasS 5), .int .u8 120] W fun e w' => e = .returned (.bool true) ∧ W = w') := shid fun W => by rw [← (show inB (hasS 5) 120 = true from by decide +kernel)]; exact in_any (hasS 5) 120 (hasS_size _) W
  have Cl : Hid (∀ W : World, Calls Try.prog 31 #[.string (hasS 5), .int .u8 108] W fun e w' => e = .returned (.bool false) ∧ W = w') := shid fun W => by rw [← (show inB (hasS 5) 108 = false from by decide +kernel)]; exact in_any (hasS 5) 108 (hasS_size _) W
  have Cm : Hid (∀ W : World, Calls Try.prog 31 #[.string (hasS 5), .int .u8 109] W fun e w' => e = .returned (.bool false) ∧ W = w') := shid fun W => by rw [← (show inB (hasS 5) 109 = false from by decide +kernel)]; exact in_any (hasS 5) 109 (hasS_size _) W
  have HH := shid (rhas_any 5 (by omega) (by omega) (w.alloc (.cells #[.int .u8 5, .int .i64 d, .int .i64 a, .int .i64 b, .int .u32 n, .int .i64 f, .slice p len c, .int .i64 l1, .int .i64 l2] 44)))
  go_enter Try.func56, Try.ntmps56
  simp only [List.append_eq, List.cons_append, List.nil_append]
  have b0 := HBX.out.c0
  go_wp2_with fail
  clear b0
  refine HH.out.mono ?_
  rintro e w1 ⟨rfl, hb1⟩
  have HB1 := shid (HBX.out.keep hb1)
  have HW1 := shid (sbt HW0.out hb1)
  clear hb1 HBX HW0 HH
  obtain ⟨blt, b0, b1, b2, b3, b4, b5, b6, b7, b8⟩ := HB1.out
  simp only at b1 b2 b3 b4 b5 b7 b8
  generalize hasS 5 = s at *
  go_wp2_with (first | (go_at_call 31; first
    | ((with_reducible refine (Cd.out _).mono ?_); rintro e w2 ⟨rfl, rfl⟩)
    | ((with_reducible refine (Ca.out _).mono ?_); rintro e w2 ⟨rfl, rfl⟩)
    | ((with_reducible refine (Cb.out _).mono ?_); rintro e w2 ⟨rfl, rfl⟩)
    | ((with_reducible refine (Cn.out _).mono ?_); rintro e w2 ⟨rfl, rfl⟩)
    | ((with_reducible refine (Cf.out _).mono ?_); rintro e w2 ⟨rfl, rfl⟩)
    | ((with_reducible refine (Cx.out _).mono ?_); rintro e w2 ⟨rfl, rfl⟩)
    | ((with_reducible refine (Cl.out _).mono ?_); rintro e w2 ⟨rfl, rfl⟩)
    | ((with_reducible refine (Cm.out _).mono ?_); rintro e w2 ⟨rfl, rfl⟩)
    ))
  all_goals
    go_ret
    refine ⟨congrArg (fun b => Ending.returned (.bool b)) (?_ : _ = decide (emptyF 5 d a b n f len l1 l2)), HW1.out⟩
    first
      | (refine (decide_eq_true ?_).symm; unfold emptyF; omega)
      | (refine (decide_eq_false ?_).symm; unfold emptyF; omega)
      | (refine decide_eq_decide.2 ?_; unfold emptyF; omega)
      | (refine (beq_eq_decide _ _).trans (decide_eq_decide.2 ?_); unfold emptyF; omega)
set_option maxRecDepth 100000 in
set_option maxHeartbeats 2000000 in
theorem empty_6 (d a b n f : Int) (len : Nat) (l1 l2 : Int) (p : Option Addr) (c : Nat) (w : World) :
    Calls Try.prog 56 #[.agg #[.int .u8 6, .int .i64 d, .int .i64 a, .int .i64 b, .int .u32 n, .int .i64 f, .slice p len c, .int .i64 l1, .int .i64 l2]] w fun e w' => e = .returned (.bool (decide (emptyF 6 d a b n f len l1 l2))) ∧ Below w.heap.size w w' := by
  have HBX := shid (Ibox_of w 6 d a b n f (.slice p len c) l1 l2 44)
  have HW0 := shid (show Below w.heap.size w (w.alloc (.cells #[.int .u8 6, .int .i64 d, .int .i64 a, .int .i64 b, .int .u32 n, .int .i64 f, .slice p len c, .int .i64 l1, .int .i64 l2] 44)) from (Below.refl _ _).alloc (Nat.le_refl _) _)
  have Cd : Hid (∀ W : World, Calls Try.prog 31 #[.string (hasS 6), .int .u8 100] W fun e w' => e = .returned (.bool false) ∧ W = w') := shid fun W => by rw [← (show inB (hasS 6) 100 = false from by decide +kernel)]; exact in_any (hasS 6) 100 (hasS_size _) W
  have Ca : Hid (∀ W : World, Calls Try.prog 31 #[.string (hasS 6), .int .u8 97] W fun e w' => e = .returned (.bool true) ∧ W = w') := shid fun W => by rw [← (show inB (hasS 6) 97 = true from by decide +kernel)]; exact in_any (hasS 6) 97 (hasS_size _) W
  have Cb : Hid (∀ W : World, Calls Try.prog 31 #[.string (hasS 6), .int .u8 98] W fun e w' => e = .returned (.bool false) ∧ W = w') := shid fun W => by rw [← (show inB (hasS 6) 98 = false from by decide +kernel)]; exact in_any (hasS 6) 98 (hasS_size _) W
  have Cn : Hid (∀ W : World, Calls Try.prog 31 #[.string (hasS 6), .int .u8 110] W fun e w' => e = .returned (.bool false) ∧ W = w') := shid fun W => by rw [← (show inB (hasS 6) 110 = false from by decide +kernel)]; exact in_any (hasS 6) 110 (hasS_size _) W
  have Cf : Hid (∀ W : World, Calls Try.prog 31 #[.string (hasS 6), .int .u8 102] W fun e w' => e = .returned (.bool false) ∧ W = w') := shid fun W => by rw [← (show inB (hasS 6) 102 = false from by decide +kernel)]; exact in_any (hasS 6) 102 (hasS_size _) W
  have Cx : Hid (∀ W : World, Calls Try.prog 31 #[.string (hasS 6), .int .u8 120] W fun e w' => e = .returned (.bool false) ∧ W = w') := shid fun W => by rw [← (show inB (hasS 6) 120 = false from by decide +kernel)]; exact in_any (hasS 6) 120 (hasS_size _) W
  have Cl : Hid (∀ W : World, Calls Try.prog 31 #[.string (hasS 6), .int .u8 108] W fun e w' => e = .returned (.bool false) ∧ W = w') := shid fun W => by rw [← (show inB (hasS 6) 108 = false from by decide +kernel)]; exact in_any (hasS 6) 108 (hasS_size _) W
  have Cm : Hid (∀ W : World, Calls Try.prog 31 #[.string (hasS 6), .int .u8 109] W fun e w' => e = .returned (.bool false) ∧ W = w') := shid fun W => by rw [← (show inB (hasS 6) 109 = false from by decide +kernel)]; exact in_any (hasS 6) 109 (hasS_size _) W
  have HH := shid (rhas_any 6 (by omega) (by omega) (w.alloc (.cells #[.int .u8 6, .int .i64 d, .int .i64 a, .int .i64 b, .int .u32 n, .int .i64 f, .slice p len c, .int .i64 l1, .int .i64 l2] 44)))
  go_enter Try.func56, Try.ntmps56
  simp only [List.append_eq, List.cons_append, List.nil_append]
  have b0 := HBX.out.c0
  go_wp2_with fail
  clear b0
  refine HH.out.mono ?_
  rintro e w1 ⟨rfl, hb1⟩
  have HB1 := shid (HBX.out.keep hb1)
  have HW1 := shid (sbt HW0.out hb1)
  clear hb1 HBX HW0 HH
  obtain ⟨blt, b0, b1, b2, b3, b4, b5, b6, b7, b8⟩ := HB1.out
  simp only at b1 b2 b3 b4 b5 b7 b8
  generalize hasS 6 = s at *
  go_wp2_with (first | (go_at_call 31; first
    | ((with_reducible refine (Cd.out _).mono ?_); rintro e w2 ⟨rfl, rfl⟩)
    | ((with_reducible refine (Ca.out _).mono ?_); rintro e w2 ⟨rfl, rfl⟩)
    | ((with_reducible refine (Cb.out _).mono ?_); rintro e w2 ⟨rfl, rfl⟩)
    | ((with_reducible refine (Cn.out _).mono ?_); rintro e w2 ⟨rfl, rfl⟩)
    | ((with_reducible refine (Cf.out _).mono ?_); rintro e w2 ⟨rfl, rfl⟩)
    | ((with_reducible refine (Cx.out _).mono ?_); rintro e w2 ⟨rfl, rfl⟩)
    | ((with_reducible refine (Cl.out _).mono ?_); rintro e w2 ⟨rfl, rfl⟩)
    | ((with_reducible refine (Cm.out _).mono ?_); rintro e w2 ⟨rfl, rfl⟩)
    ))
  all_goals
    go_ret
    refine ⟨congrArg (fun b => Ending.returned (.bool b)) (?_ : _ = decide (emptyF 6 d a b n f len l1 l2)), HW1.out⟩
    first
      | (refine (decide_eq_true ?_).symm; unfold emptyF; omega)
      | (refine (decide_eq_false ?_).symm; unfold emptyF; omega)
      | (refine decide_eq_decide.2 ?_; unfold emptyF; omega)
      | (refine (beq_eq_decide _ _).trans (decide_eq_decide.2 ?_); unfold emptyF; omega)
set_option maxRecDepth 100000 in
set_option maxHeartbeats 2000000 in
theorem empty_7 (d a b n f : Int) (len : Nat) (l1 l2 : Int) (p : Option Addr) (c : Nat) (w : World) :
    Calls Try.prog 56 #[.agg #[.int .u8 7, .int .i64 d, .int .i64 a, .int .i64 b, .int .u32 n, .int .i64 f, .slice p len c, .int .i64 l1, .int .i64 l2]] w fun e w' => e = .returned (.bool (decide (emptyF 7 d a b n f len l1 l2))) ∧ Below w.heap.size w w' := by
  have HBX := shid (Ibox_of w 7 d a b n f (.slice p len c) l1 l2 44)
  have HW0 := shid (show Below w.heap.size w (w.alloc (.cells #[.int .u8 7, .int .i64 d, .int .i64 a, .int .i64 b, .int .u32 n, .int .i64 f, .slice p len c, .int .i64 l1, .int .i64 l2] 44)) from (Below.refl _ _).alloc (Nat.le_refl _) _)
  have Cd : Hid (∀ W : World, Calls Try.prog 31 #[.string (hasS 7), .int .u8 100] W fun e w' => e = .returned (.bool false) ∧ W = w') := shid fun W => by rw [← (show inB (hasS 7) 100 = false from by decide +kernel)]; exact in_any (hasS 7) 100 (hasS_size _) W
  have Ca : Hid (∀ W : World, Calls Try.prog 31 #[.string (hasS 7), .int .u8 97] W fun e w' => e = .returned (.bool false) ∧ W = w') := shid fun W => by rw [← (show inB (hasS 7) 97 = false from by decide +kernel)]; exact in_any (hasS 7) 97 (hasS_size _) W
  have Cb : Hid (∀ W : World, Calls Try.prog 31 #[.string (hasS 7), .int .u8 98] W fun e w' => e = .returned (.bool false) ∧ W = w') := shid fun W => by rw [← (show inB (hasS 7) 98 = false from by decide +kernel)]; exact in_any (hasS 7) 98 (hasS_size _) W
  have Cn : Hid (∀ W : World, Calls Try.prog 31 #[.string (hasS 7), .int .u8 110] W fun e w' => e = .returned (.bool false) ∧ W = w') := shid fun W => by rw [← (show inB (hasS 7) 110 = false from by decide +kernel)]; exact in_any (hasS 7) 110 (hasS_size _) W
  have Cf : Hid (∀ W : World, Calls Try.prog 31 #[.string (hasS 7), .int .u8 102] W fun e w' => e = .returned (.bool false) ∧ W = w') := shid fun W => by rw [← (show inB (hasS 7) 102 = false from by decide +kernel)]; exact in_any (hasS 7) 102 (hasS_size _) W
  have Cx : Hid (∀ W : World, Calls Try.prog 31 #[.string (hasS 7), .int .u8 120] W fun e w' => e = .returned (.bool false) ∧ W = w') := shid fun W => by rw [← (show inB (hasS 7) 120 = false from by decide +kernel)]; exact in_any (hasS 7) 120 (hasS_size _) W
  have Cl : Hid (∀ W : World, Calls Try.prog 31 #[.string (hasS 7), .int .u8 108] W fun e w' => e = .returned (.bool false) ∧ W = w') := shid fun W => by rw [← (show inB (hasS 7) 108 = false from by decide +kernel)]; exact in_any (hasS 7) 108 (hasS_size _) W
  have Cm : Hid (∀ W : World, Calls Try.prog 31 #[.string (hasS 7), .int .u8 109] W fun e w' => e = .returned (.bool false) ∧ W = w') := shid fun W => by rw [← (show inB (hasS 7) 109 = false from by decide +kernel)]; exact in_any (hasS 7) 109 (hasS_size _) W
  have HH := shid (rhas_any 7 (by omega) (by omega) (w.alloc (.cells #[.int .u8 7, .int .i64 d, .int .i64 a, .int .i64 b, .int .u32 n, .int .i64 f, .slice p len c, .int .i64 l1, .int .i64 l2] 44)))
  go_enter Try.func56, Try.ntmps56
  simp only [List.append_eq, List.cons_append, List.nil_append]
  have b0 := HBX.out.c0
  go_wp2_with fail
  clear b0
  refine HH.out.mono ?_
  rintro e w1 ⟨rfl, hb1⟩
  have HB1 := shid (HBX.out.keep hb1)
  have HW1 := shid (sbt HW0.out hb1)
  clear hb1 HBX HW0 HH
  obtain ⟨blt, b0, b1, b2, b3, b4, b5, b6, b7, b8⟩ := HB1.out
  simp only at b1 b2 b3 b4 b5 b7 b8
  generalize hasS 7 = s at *
  go_wp2_with (first | (go_at_call 31; first
    | ((with_reducible refine (Cd.out _).mono ?_); rintro e w2 ⟨rfl, rfl⟩)
    | ((with_reducible refine (Ca.out _).mono ?_); rintro e w2 ⟨rfl, rfl⟩)
    | ((with_reducible refine (Cb.out _).mono ?_); rintro e w2 ⟨rfl, rfl⟩)
    | ((with_reducible refine (Cn.out _).mono ?_); rintro e w2 ⟨rfl, rfl⟩)
    | ((with_reducible refine (Cf.out _).mono ?_); rintro e w2 ⟨rfl, rfl⟩)
    | ((with_reducible refine (Cx.out _).mono ?_); rintro e w2 ⟨rfl, rfl⟩)
    | ((with_reducible refine (Cl.out _).mono ?_); rintro e w2 ⟨rfl, rfl⟩)
    | ((with_reducible refine (Cm.out _).mono ?_); rintro e w2 ⟨rfl, rfl⟩)
    ))
  all_goals
    go_ret
    refine ⟨congrArg (fun b => Ending.returned (.bool b)) (?_ : _ = decide (emptyF 7 d a b n f len l1 l2)), HW1.out⟩
    first
      | (refine (decide_eq_true ?_).symm; unfold emptyF; omega)
      | (refine (decide_eq_false ?_).symm; unfold emptyF; omega)
      | (refine decide_eq_decide.2 ?_; unfold emptyF; omega)
      | (refine (beq_eq_decide _ _).trans (decide_eq_decide.2 ?_); unfold emptyF; omega)
set_option maxRecDepth 100000 in
set_option maxHeartbeats 2000000 in
theorem empty_8 (d a b n f : Int) (len : Nat) (l1 l2 : Int) (p : Option Addr) (c : Nat) (w : World) :
    Calls Try.prog 56 #[.agg #[.int .u8 8, .int .i64 d, .int .i64 a, .int .i64 b, .int .u32 n, .int .i64 f, .slice p len c, .int .i64 l1, .int .i64 l2]] w fun e w' => e = .returned (.bool (decide (emptyF 8 d a b n f len l1 l2))) ∧ Below w.heap.size w w' := by
  have HBX := shid (Ibox_of w 8 d a b n f (.slice p len c) l1 l2 44)
  have HW0 := shid (show Below w.heap.size w (w.alloc (.cells #[.int .u8 8, .int .i64 d, .int .i64 a, .int .i64 b, .int .u32 n, .int .i64 f, .slice p len c, .int .i64 l1, .int .i64 l2] 44)) from (Below.refl _ _).alloc (Nat.le_refl _) _)
  have Cd : Hid (∀ W : World, Calls Try.prog 31 #[.string (hasS 8), .int .u8 100] W fun e w' => e = .returned (.bool false) ∧ W = w') := shid fun W => by rw [← (show inB (hasS 8) 100 = false from by decide +kernel)]; exact in_any (hasS 8) 100 (hasS_size _) W
  have Ca : Hid (∀ W : World, Calls Try.prog 31 #[.string (hasS 8), .int .u8 97] W fun e w' => e = .returned (.bool false) ∧ W = w') := shid fun W => by rw [← (show inB (hasS 8) 97 = false from by decide +kernel)]; exact in_any (hasS 8) 97 (hasS_size _) W
  have Cb : Hid (∀ W : World, Calls Try.prog 31 #[.string (hasS 8), .int .u8 98] W fun e w' => e = .returned (.bool false) ∧ W = w') := shid fun W => by rw [← (show inB (hasS 8) 98 = false from by decide +kernel)]; exact in_any (hasS 8) 98 (hasS_size _) W
  have Cn : Hid (∀ W : World, Calls Try.prog 31 #[.string (hasS 8), .int .u8 110] W fun e w' => e = .returned (.bool false) ∧ W = w') := shid fun W => by rw [← (show inB (hasS 8) 110 = false from by decide +kernel)]; exact in_any (hasS 8) 110 (hasS_size _) W
  have Cf : Hid (∀ W : World, Calls Try.prog 31 #[.string (hasS 8), .int .u8 102] W fun e w' => e = .returned (.bool false) ∧ W = w') := shid fun W => by rw [← (show inB (hasS 8) 102 = false from by decide +kernel)]; exact in_any (hasS 8) 102 (hasS_size _) W
  have Cx : Hid (∀ W : World, Calls Try.prog 31 #[.string (hasS 8), .int .u8 120] W fun e w' => e = .returned (.bool false) ∧ W = w') := shid fun W => by rw [← (show inB (hasS 8) 120 = false from by decide +kernel)]; exact in_any (hasS 8) 120 (hasS_size _) W
  have Cl : Hid (∀ W : World, Calls Try.prog 31 #[.string (hasS 8), .int .u8 108] W fun e w' => e = .returned (.bool true) ∧ W = w') := shid fun W => by rw [← (show inB (hasS 8) 108 = true from by decide +kernel)]; exact in_any (hasS 8) 108 (hasS_size _) W
  have Cm : Hid (∀ W : World, Calls Try.prog 31 #[.string (hasS 8), .int .u8 109] W fun e w' => e = .returned (.bool false) ∧ W = w') := shid fun W => by rw [← (show inB (hasS 8) 109 = false from by decide +kernel)]; exact in_any (hasS 8) 109 (hasS_size _) W
  have HH := shid (rhas_any 8 (by omega) (by omega) (w.alloc (.cells #[.int .u8 8, .int .i64 d, .int .i64 a, .int .i64 b, .int .u32 n, .int .i64 f, .slice p len c, .int .i64 l1, .int .i64 l2] 44)))
  go_enter Try.func56, Try.ntmps56
  simp only [List.append_eq, List.cons_append, List.nil_append]
  have b0 := HBX.out.c0
  go_wp2_with fail
  clear b0
  refine HH.out.mono ?_
  rintro e w1 ⟨rfl, hb1⟩
  have HB1 := shid (HBX.out.keep hb1)
  have HW1 := shid (sbt HW0.out hb1)
  clear hb1 HBX HW0 HH
  obtain ⟨blt, b0, b1, b2, b3, b4, b5, b6, b7, b8⟩ := HB1.out
  simp only at b1 b2 b3 b4 b5 b7 b8
  generalize hasS 8 = s at *
  go_wp2_with (first | (go_at_call 31; first
    | ((with_reducible refine (Cd.out _).mono ?_); rintro e w2 ⟨rfl, rfl⟩)
    | ((with_reducible refine (Ca.out _).mono ?_); rintro e w2 ⟨rfl, rfl⟩)
    | ((with_reducible refine (Cb.out _).mono ?_); rintro e w2 ⟨rfl, rfl⟩)
    | ((with_reducible refine (Cn.out _).mono ?_); rintro e w2 ⟨rfl, rfl⟩)
    | ((with_reducible refine (Cf.out _).mono ?_); rintro e w2 ⟨rfl, rfl⟩)
    | ((with_reducible refine (Cx.out _).mono ?_); rintro e w2 ⟨rfl, rfl⟩)
    | ((with_reducible refine (Cl.out _).mono ?_); rintro e w2 ⟨rfl, rfl⟩)
    | ((with_reducible refine (Cm.out _).mono ?_); rintro e w2 ⟨rfl, rfl⟩)
    ))
  all_goals
    go_ret
    refine ⟨congrArg (fun b => Ending.returned (.bool b)) (?_ : _ = decide (emptyF 8 d a b n f len l1 l2)), HW1.out⟩
    first
      | (refine (decide_eq_true ?_).symm; unfold emptyF; omega)
      | (refine (decide_eq_false ?_).symm; unfold emptyF; omega)
      | (refine decide_eq_decide.2 ?_; unfold emptyF; omega)
      | (refine (beq_eq_decide _ _).trans (decide_eq_decide.2 ?_); unfold emptyF; omega)
set_option maxRecDepth 100000 in
set_option maxHeartbeats 2000000 in
theorem empty_9 (d a b n f : Int) (len : Nat) (l1 l2 : Int) (p : Option Addr) (c : Nat) (w : World) :
    Calls Try.prog 56 #[.agg #[.int .u8 9, .int .i64 d, .int .i64 a, .int .i64 b, .int .u32 n, .int .i64 f, .slice p len c, .int .i64 l1, .int .i64 l2]] w fun e w' => e = .returned (.bool (decide (emptyF 9 d a b n f len l1 l2))) ∧ Below w.heap.size w w' := by
  have HBX := shid (Ibox_of w 9 d a b n f (.slice p len c) l1 l2 44)
  have HW0 := shid (show Below w.heap.size w (w.alloc (.cells #[.int .u8 9, .int .i64 d, .int .i64 a, .int .i64 b, .int .u32 n, .int .i64 f, .slice p len c, .int .i64 l1, .int .i64 l2] 44)) from (Below.refl _ _).alloc (Nat.le_refl _) _)
  have Cd : Hid (∀ W : World, Calls Try.prog 31 #[.string (hasS 9), .int .u8 100] W fun e w' => e = .returned (.bool false) ∧ W = w') := shid fun W => by rw [← (show inB (hasS 9) 100 = false from by decide +kernel)]; exact in_any (hasS 9) 100 (hasS_size _) W
  have Ca : Hid (∀ W : World, Calls Try.prog 31 #[.string (hasS 9), .int .u8 97] W fun e w' => e = .returned (.bool true) ∧ W = w') := shid fun W => by rw [← (show inB (hasS 9) 97 = true from by decide +kernel)]; exact in_any (hasS 9) 97 (hasS_size _) W
  have Cb : Hid (∀ W : World, Calls Try.prog 31 #[.string (hasS 9), .int .u8 98] W fun e w' => e = .returned (.bool false) ∧ W = w') := shid fun W => by rw [← (show inB (hasS 9) 98 = false from by decide +kernel)]; exact in_any (hasS 9) 98 (hasS_size _) W
  have Cn : Hid (∀ W : World, Calls Try.prog 31 #[.string (hasS 9), .int .u8 110] W fun e w' => e = .returned (.bool false) ∧ W = w') := shid fun W => by rw [← (show inB (hasS 9) 110 = false from by decide +kernel)]; exact in_any (hasS 9) 110 (hasS_size _) W
  have Cf : Hid (∀ W : World, Calls Try.prog 31 #[.string (hasS 9), .int .u8 102] W fun e w' => e = .returned (.bool false) ∧ W = w') := shid fun W => by rw [← (show inB (hasS 9) 102 = false from by decide +kernel)]; exact in_any (hasS 9) 102 (hasS_size _) W
  have Cx : Hid (∀ W : World, Calls Try.prog 31 #[.string (hasS 9), .int .u8 120] W fun e w' => e = .returned (.bool false) ∧ W = w') := shid fun W => by rw [← (show inB (hasS 9) 120 = false from by decide +kernel)]; exact in_any (hasS 9) 120 (hasS_size _) W
  have Cl : Hid (∀ W : World, Calls Try.prog 31 #[.string (hasS 9), .int .u8 108] W fun e w' => e = .returned (.bool true) ∧ W = w') := shid fun W => by rw [← (show inB (hasS 9) 108 = true from by decide +kernel)]; exact in_any (hasS 9) 108 (hasS_size _) W
  have Cm : Hid (∀ W : World, Calls Try.prog 31 #[.string (hasS 9), .int .u8 109] W fun e w' => e = .returned (.bool true) ∧ W = w') := shid fun W => by rw [← (show inB (hasS 9) 109 = true from by decide +kernel)]; exact in_any (hasS 9) 109 (hasS_size _) W
  have HH := shid (rhas_any 9 (by omega) (by omega) (w.alloc (.cells #[.int .u8 9, .int .i64 d, .int .i64 a, .int .i64 b, .int .u32 n, .int .i64 f, .slice p len c, .int .i64 l1, .int .i64 l2] 44)))
  go_enter Try.func56, Try.ntmps56
  simp only [List.append_eq, List.cons_append, List.nil_append]
  have b0 := HBX.out.c0
  go_wp2_with fail
  clear b0
  refine HH.out.mono ?_
  rintro e w1 ⟨rfl, hb1⟩
  have HB1 := shid (HBX.out.keep hb1)
  have HW1 := shid (sbt HW0.out hb1)
  clear hb1 HBX HW0 HH
  obtain ⟨blt, b0, b1, b2, b3, b4, b5, b6, b7, b8⟩ := HB1.out
  simp only at b1 b2 b3 b4 b5 b7 b8
  generalize hasS 9 = s at *
  go_wp2_with (first | (go_at_call 31; first
    | ((with_reducible refine (Cd.out _).mono ?_); rintro e w2 ⟨rfl, rfl⟩)
    | ((with_reducible refine (Ca.out _).mono ?_); rintro e w2 ⟨rfl, rfl⟩)
    | ((with_reducible refine (Cb.out _).mono ?_); rintro e w2 ⟨rfl, rfl⟩)
    | ((with_reducible refine (Cn.out _).mono ?_); rintro e w2 ⟨rfl, rfl⟩)
    | ((with_reducible refine (Cf.out _).mono ?_); rintro e w2 ⟨rfl, rfl⟩)
    | ((with_reducible refine (Cx.out _).mono ?_); rintro e w2 ⟨rfl, rfl⟩)
    | ((with_reducible refine (Cl.out _).mono ?_); rintro e w2 ⟨rfl, rfl⟩)
    | ((with_reducible refine (Cm.out _).mono ?_); rintro e w2 ⟨rfl, rfl⟩)
    ))
  all_goals
    go_ret
    refine ⟨congrArg (fun b => Ending.returned (.bool b)) (?_ : _ = decide (emptyF 9 d a b n f len l1 l2)), HW1.out⟩
    first
      | (refine (decide_eq_true ?_).symm; unfold emptyF; omega)
      | (refine (decide_eq_false ?_).symm; unfold emptyF; omega)
      | (refine decide_eq_decide.2 ?_; unfold emptyF; omega)
      | (refine (beq_eq_decide _ _).trans (decide_eq_decide.2 ?_); unfold emptyF; omega)
set_option maxRecDepth 100000 in
set_option maxHeartbeats 2000000 in
theorem empty_10 (d a b n f : Int) (len : Nat) (l1 l2 : Int) (p : Option Addr) (c : Nat) (w : World) :
    Calls Try.prog 56 #[.agg #[.int .u8 10, .int .i64 d, .int .i64 a, .int .i64 b, .int .u32 n, .int .i64 f, .slice p len c, .int .i64 l1, .int .i64 l2]] w fun e w' => e = .returned (.bool (decide (emptyF 10 d a b n f len l1 l2))) ∧ Below w.heap.size w w' := by
  have HBX := shid (Ibox_of w 10 d a b n f (.slice p len c) l1 l2 44)
  have HW0 := shid (show Below w.heap.size w (w.alloc (.cells #[.int .u8 10, .int .i64 d, .int .i64 a, .int .i64 b, .int .u32 n, .int .i64 f, .slice p len c, .int .i64 l1, .int .i64 l2] 44)) from (Below.refl _ _).alloc (Nat.le_refl _) _)
  have Cd : Hid (∀ W : World, Calls Try.prog 31 #[.string (hasS 10), .int .u8 100] W fun e w' => e = .returned (.bool false) ∧ W = w') := shid fun W => by rw [← (show inB (hasS 10) 100 = false from by decide +kernel)]; exact in_any (hasS 10) 100 (hasS_size _) W
  have Ca : Hid (∀ W : World, Calls Try.prog 31 #[.string (hasS 10), .int .u8 97] W fun e w' => e = .returned (.bool true) ∧ W = w') := shid fun W => by rw [← (show inB (hasS 10) 97 = true from by decide +kernel)]; exact in_any (hasS 10) 97 (hasS_size _) W
  have Cb : Hid (∀ W : World, Calls Try.prog 31 #[.string (hasS 10), .int .u8 98] W fun e w' => e = .returned (.bool false) ∧ W = w') := shid fun W => by rw [← (show inB (hasS 10) 98 = false from by decide +kernel)]; exact in_any (hasS 10) 98 (hasS_size _) W
  have Cn : Hid (∀ W : World, Calls Try.prog 31 #[.string (hasS 10), .int .u8 110] W fun e w' => e = .returned (.bool false) ∧ W = w') := shid fun W => by rw [← (show inB (hasS 10) 110 = false from by decide +kernel)]; exact in_any (hasS 10) 110 (hasS_size _) W
  have Cf : Hid (∀ W : World, Calls Try.prog 31 #[.string (hasS 10), .int .u8 102] W fun e w' => e = .returned (.bool false) ∧ W = w') := shid fun W => by rw [← (show inB (hasS 10) 102 = false from by decide +kernel)]; exact in_any (hasS 10) 102 (hasS_size _) W
  have Cx : Hid (∀ W : World, Calls Try.prog 31 #[.string (hasS 10), .int .u8 120] W fun e w' => e = .returned (.bool false) ∧ W = w') := shid fun W => by rw [← (show inB (hasS 10) 120 = false from by decide +kernel)]; exact in_any (hasS 10) 120 (hasS_size _) W
  have Cl : Hid (∀ W : World, Calls Try.prog 31 #[.string (hasS 10), .int .u8 108] W fun e w' => e = .returned (.bool false) ∧ W = w') := shid fun W => by rw [← (show inB (hasS 10) 108 = false from by decide +kernel)]; exact in_any (hasS 10) 108 (hasS_size _) W
  have Cm : Hid (∀ W : World, Calls Try.prog 31 #[.string (hasS 10), .int .u8 109] W fun e w' => e = .returned (.bool false) ∧ W = w') := shid fun W => by rw [← (show inB (hasS 10) 109 = false from by decide +kernel)]; exact in_any (hasS 10) 109 (hasS_size _) W
  have HH := shid (rhas_any 10 (by omega) (by omega) (w.alloc (.cells #[.int .u8 10, .int .i64 d, .int .i64 a, .int .i64 b, .int .u32 n, .int .i64 f, .slice p len c, .int .i64 l1, .int .i64 l2] 44)))
  go_enter Try.func56, Try.ntmps56
  simp only [List.append_eq, List.cons_append, List.nil_append]
  have b0 := HBX.out.c0
  go_wp2_with fail
  clear b0
  refine HH.out.mono ?_
  rintro e w1 ⟨rfl, hb1⟩
  have HB1 := shid (HBX.out.keep hb1)
  have HW1 := shid (sbt HW0.out hb1)
  clear hb1 HBX HW0 HH
  obtain ⟨blt, b0, b1, b2, b3, b4, b5, b6, b7, b8⟩ := HB1.out
  simp only at b1 b2 b3 b4 b5 b7 b8
  generalize hasS 10 = s at *
  go_wp2_with (first | (go_at_call 31; first
    | ((with_reducible refine (Cd.out _).mono ?_); rintro e w2 ⟨rfl, rfl⟩)
    | ((with_reducible refine (Ca.out _).mono ?_); rintro e w2 ⟨rfl, rfl⟩)
    | ((with_reducible refine (Cb.out _).mono ?_); rintro e w2 ⟨rfl, rfl⟩)
    | ((with_reducible refine (Cn.out _).mono ?_); rintro e w2 ⟨rfl, rfl⟩)
    | ((with_reducible refine (Cf.out _).mono ?_); rintro e w2 ⟨rfl, rfl⟩)
    | ((with_reducible refine (Cx.out _).mono ?_); rintro e w2 ⟨rfl, rfl⟩)
    | ((with_reducible refine (Cl.out _).mono ?_); rintro e w2 ⟨rfl, rfl⟩)
    | ((with_reducible refine (Cm.out _).mono ?_); rintro e w2 ⟨rfl, rfl⟩)
    ))
  all_goals
    go_ret
    refine ⟨congrArg (fun b => Ending.returned (.bool b)) (?_ : _ = decide (emptyF 10 d a b n f len l1 l2)), HW1.out⟩
    first
      | (refine (decide_eq_true ?_).symm; unfold emptyF; omega)
      | (refine (decide_eq_false ?_).symm; unfold emptyF; omega)
      | (refine decide_eq_decide.2 ?_; unfold emptyF; omega)
      | (refine (beq_eq_decide _ _).trans (decide_eq_decide.2 ?_); unfold emptyF; omega)
set_option maxRecDepth 100000 in
set_option maxHeartbeats 2000000 in
theorem empty_11 (op : Int) (ho : 10 < op) (ho2 : op < 256) (d a b n f : Int) (len : Nat) (l1 l2 : Int) (p : Option Addr) (c : Nat) (w : World) :
    Calls Try.prog 56 #[.agg #[.int .u8 op, .int .i64 d, .int .i64 a, .int .i64 b, .int .u32 n, .int .i64 f, .slice p len c, .int .i64 l1, .int .i64 l2]] w fun e w' => e = .returned (.bool (decide (emptyF op d a b n f len l1 l2))) ∧ Below w.heap.size w w' := by
  have HBX := shid (Ibox_of w op d a b n f (.slice p len c) l1 l2 44)
  have HW0 := shid (show Below w.heap.size w (w.alloc (.cells #[.int .u8 op, .int .i64 d, .int .i64 a, .int .i64 b, .int .u32 n, .int .i64 f, .slice p len c, .int .i64 l1, .int .i64 l2] 44)) from (Below.refl _ _).alloc (Nat.le_refl _) _)
  have hs : hasS op = ⟨#[]⟩ := by unfold hasS; repeat (rw [if_neg (by omega)])
  have Cd : Hid (∀ W : World, Calls Try.prog 31 #[.string (hasS op), .int .u8 100] W fun e w' => e = .returned (.bool false) ∧ W = w') := shid fun W => by rw [← (show inB (hasS op) 100 = false from by rw [hs]; decide +kernel)]; exact in_any (hasS op) 100 (hasS_size _) W
  have Ca : Hid (∀ W : World, Calls Try.prog 31 #[.string (hasS op), .int .u8 97] W fun e w' => e = .returned (.bool false) ∧ W = w') := shid fun W => by rw [← (show inB (hasS op) 97 = false from by rw [hs]; decide +kernel)]; exact in_any (hasS op) 97 (hasS_size _) W
  have Cb : Hid (∀ W : World, Calls Try.prog 31 #[.string (hasS op), .int .u8 98] W fun e w' => e = .returned (.bool false) ∧ W = w') := shid fun W => by rw [← (show inB (hasS op) 98 = false from by rw [hs]; decide +kernel)]; exact in_any (hasS op) 98 (hasS_size _) W
  have Cn : Hid (∀ W : World, Calls Try.prog 31 #[.string (hasS op), .int .u8 110] W fun e w' => e = .returned (.bool false) ∧ W = w') := shid fun W => by rw [← (show inB (hasS op) 110 = false from by rw [hs]; decide +kernel)]; exact in_any (hasS op) 110 (hasS_size _) W
  have Cf : Hid (∀ W : World, Calls Try.prog 31 #[.string (hasS op), .int .u8 102] W fun e w' => e = .returned (.bool false) ∧ W = w') := shid fun W => by rw [← (show inB (hasS op) 102 = false from by rw [hs]; decide +kernel)]; exact in_any (hasS op) 102 (hasS_size _) W
  have Cx : Hid (∀ W : World, Calls Try.prog 31 #[.string (hasS op), .int .u8 120] W fun e w' => e = .returned (.bool false) ∧ W = w') := shid fun W => by rw [← (show inB (hasS op) 120 = false from by rw [hs]; decide +kernel)]; exact in_any (hasS op) 120 (hasS_size _) W
  have Cl : Hid (∀ W : World, Calls Try.prog 31 #[.string (hasS op), .int .u8 108] W fun e w' => e = .returned (.bool false) ∧ W = w') := shid fun W => by rw [← (show inB (hasS op) 108 = false from by rw [hs]; decide +kernel)]; exact in_any (hasS op) 108 (hasS_size _) W
  have Cm : Hid (∀ W : World, Calls Try.prog 31 #[.string (hasS op), .int .u8 109] W fun e w' => e = .returned (.bool false) ∧ W = w') := shid fun W => by rw [← (show inB (hasS op) 109 = false from by rw [hs]; decide +kernel)]; exact in_any (hasS op) 109 (hasS_size _) W
  clear hs
  have HH := shid (rhas_any op (by omega) (by omega) (w.alloc (.cells #[.int .u8 op, .int .i64 d, .int .i64 a, .int .i64 b, .int .u32 n, .int .i64 f, .slice p len c, .int .i64 l1, .int .i64 l2] 44)))
  go_enter Try.func56, Try.ntmps56
  simp only [List.append_eq, List.cons_append, List.nil_append]
  have b0 := HBX.out.c0
  go_wp2_with fail
  clear b0
  refine HH.out.mono ?_
  rintro e w1 ⟨rfl, hb1⟩
  have HB1 := shid (HBX.out.keep hb1)
  have HW1 := shid (sbt HW0.out hb1)
  clear hb1 HBX HW0 HH
  obtain ⟨blt, b0, b1, b2, b3, b4, b5, b6, b7, b8⟩ := HB1.out
  simp only at b1 b2 b3 b4 b5 b7 b8
  generalize hasS op = s at *
  go_wp2_with (first | (go_at_call 31; first
    | ((with_reducible refine (Cd.out _).mono ?_); rintro e w2 ⟨rfl, rfl⟩)
    | ((with_reducible refine (Ca.out _).mono ?_); rintro e w2 ⟨rfl, rfl⟩)
    | ((with_reducible refine (Cb.out _).mono ?_); rintro e w2 ⟨rfl, rfl⟩)
    | ((with_reducible refine (Cn.out _).mono ?_); rintro e w2 ⟨rfl, rfl⟩)
    | ((with_reducible refine (Cf.out _).mono ?_); rintro e w2 ⟨rfl, rfl⟩)
    | ((with_reducible refine (Cx.out _).mono ?_); rintro e w2 ⟨rfl, rfl⟩)
    | ((with_reducible refine (Cl.out _).mono ?_); rintro e w2 ⟨rfl, rfl⟩)
    | ((with_reducible refine (Cm.out _).mono ?_); rintro e w2 ⟨rfl, rfl⟩)
    ))
  all_goals
    go_ret
    refine ⟨congrArg (fun b => Ending.returned (.bool b)) (?_ : _ = decide (emptyF op d a b n f len l1 l2)), HW1.out⟩
    first
      | (refine (decide_eq_true ?_).symm; unfold emptyF; omega)
      | (refine (decide_eq_false ?_).symm; unfold emptyF; omega)
      | (refine decide_eq_decide.2 ?_; unfold emptyF; omega)
      | (refine (beq_eq_decide _ _).trans (decide_eq_decide.2 ?_); unfold emptyF; omega)
theorem empty_any (op d a b n f : Int) (len : Nat) (l1 l2 : Int) (h0 : 0 ≤ op) (h1 : op < 256) (p : Option Addr) (c : Nat) (w : World) :
    Calls Try.prog 56 #[.agg #[.int .u8 op, .int .i64 d, .int .i64 a, .int .i64 b, .int .u32 n, .int .i64 f, .slice p len c, .int .i64 l1, .int .i64 l2]] w fun e w' => e = .returned (.bool (decide (emptyF op d a b n f len l1 l2))) ∧ Below w.heap.size w w' := by
  rcases op_cases h0 with rfl | rfl | rfl | rfl | rfl | rfl | rfl | rfl | rfl | rfl | rfl | hop
  · exact empty_0 d a b n f len l1 l2 p c w
  · exact empty_1 d a b n f len l1 l2 p c w
  · exact empty_2 d a b n f len l1 l2 p c w
  · exact empty_3 d a b n f len l1 l2 p c w
  · exact empty_4 d a b n f len l1 l2 p c w
  · exact empty_5 d a b n f len l1 l2 p c w
  · exact empty_6 d a b n f len l1 l2 p c w
  · exact empty_7 d a b n f len l1 l2 p c w
  · exact empty_8 d a b n f len l1 l2 p c w
  · exact empty_9 d a b n f len l1 l2 p c w
  · exact empty_10 d a b n f len l1 l2 p c w
  · exact empty_11 op hop h1 d a b n f len l1 l2 p c w
end Go.Proofs.Ythahjnjkiljaaaa
