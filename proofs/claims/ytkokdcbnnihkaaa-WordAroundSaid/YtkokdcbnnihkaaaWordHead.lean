/- The walk of muntinlaw01.head: the calls whose answers the document fixes. -/
import Derived.Test.YtkokdcbnnihkaaaWordDo
import Derived.Test.YtkokdcbnnihkaaaWordFlags
import Derived.Handy
import Derived.OpenShut
namespace Go.Proofs.Ytkokdcbnnihkaaa
open Go.RowKit
set_option linter.unusedVariables false
theorem Ret.mono {P : Program} {f : FuncId} {args : Array Value} {w : World} {v : Value} {R : Ending → World → Prop} (h : Ret P f args w v) (hr : ∀ e w', (e = .returned v ∧ Below w.heap.size w w') → R e w') : Calls P f args w R := Calls.mono h hr
theorem bt {a b c : World} (h : Below a.heap.size a b) (k : Below b.heap.size b c) : Below a.heap.size a c := h.trans (k.mono h.size)
theorem int_u8 {n : Int} (h : (Lit.int .u8 n).wf = true) : 0 ≤ n ∧ n < 256 := by have := bounds_u8 h; omega
theorem int_u32 {n : Int} (h : (Lit.int .u32 n).wf = true) : 0 ≤ n ∧ n < 4294967296 := by have := bounds_u32 h; omega
set_option maxHeartbeats 400000 in
theorem makes_yes (op : Int) (h1 : 0 ≤ op) (h2 : op < 256) (a b : Int) (ha : 0 ≤ a) (ha2 : a < 4294967296) (hb : 0 ≤ b) (hb2 : b < 4294967296) (want : Int) (hw : doW op.toNat a b = want) (hB : doB op.toNat b = true) (w : World) :
    Ret Try.prog 45 #[.int .u8 op, .int .u32 a, .int .u32 b, .int .u32 want] w (.bool true) := by
  unfold Ret
  have hd := do_any op h1 h2 a b ha ha2 hb hb2 w
  rw [hw, hB] at hd
  have HD := hid hd
  clear hd hw hB
  go_enter Try.func45, Try.ntmps45
  go_wp2_with fail
  refine HD.out.mono ?_
  rintro e w1 ⟨rfl, hb1⟩
  go_wp2
  go_ret
  exact ⟨rfl, hb1⟩
set_option maxHeartbeats 1000000 in
theorem head_any (w : World) : Ret Try.prog 23 #[] w (.bool true) := by
  unfold Ret
  go_enter Try.func23, Try.ntmps23
  go_wp2_with fail
  refine (do_any 3 (by omega) (by omega) 1 0 (by omega) (by omega) (by omega) (by omega) _).mono ?_
  rw [show doW (3 : Int).toNat 1 0 = 0 from by decide, show doB (3 : Int).toNat 0 = false from by decide]
  rintro e w1 ⟨rfl, hb0⟩
  go_wp2_with fail
  refine (makes_yes 1 (by omega) (by omega) 3 5 (by omega) (by omega) (by omega) (by omega) 4294967294 (by decide) (by decide) _).mono ?_
  rintro e w1 ⟨rfl, hb1⟩
  go_wp2_with fail
  refine (makes_yes 3 (by omega) (by omega) 4294967289 2 (by omega) (by omega) (by omega) (by omega) 4294967293 (by decide) (by decide) _).mono ?_
  rintro e w1 ⟨rfl, hb2⟩
  go_wp2_with fail
  refine (makes_yes 4 (by omega) (by omega) 4294967289 2 (by omega) (by omega) (by omega) (by omega) 4294967295 (by decide) (by decide) _).mono ?_
  rintro e w1 ⟨rfl, hb3⟩
  go_wp2_with fail
  refine (makes_yes 3 (by omega) (by omega) 2147483648 4294967295 (by omega) (by omega) (by omega) (by omega) 2147483648 (by decide) (by decide) _).mono ?_
  rintro e w1 ⟨rfl, hb4⟩
  go_wp2_with fail
  refine (makes_yes 10 (by omega) (by omega) 2147483648 33 (by omega) (by omega) (by omega) (by omega) 3221225472 (by decide) (by decide) _).mono ?_
  rintro e w1 ⟨rfl, hb5⟩
  go_wp2_with fail
  refine (makes_yes 11 (by omega) (by omega) 4294967295 1 (by omega) (by omega) (by omega) (by omega) 1 (by decide) (by decide) _).mono ?_
  rintro e w1 ⟨rfl, hb6⟩
  go_wp2_with fail
  refine (makes_yes 12 (by omega) (by omega) 4294967295 1 (by omega) (by omega) (by omega) (by omega) 0 (by decide) (by decide) _).mono ?_
  rintro e w1 ⟨rfl, hb7⟩
  go_wp2_with fail
  refine (flags_any 3 5 (by omega) (by omega) (by omega) (by omega) _).mono ?_
  rw [show flagsS 3 5 = 9 from by decide]
  rintro e w1 ⟨rfl, hb8⟩
  go_wp2_with fail
  refine (flags_any 5 5 (by omega) (by omega) (by omega) (by omega) _).mono ?_
  rw [show flagsS 5 5 = 4 from by decide]
  rintro e w1 ⟨rfl, hb9⟩
  go_wp2_with fail
  refine (flags_any 2147483648 1 (by omega) (by omega) (by omega) (by omega) _).mono ?_
  rw [show flagsS 2147483648 1 = 2 from by decide]
  rintro e w1 ⟨rfl, hb10⟩
  go_wp2_with fail
  refine (holds_any 3 (by omega) 9 (by omega) (by omega) _).mono ?_
  rw [show holdsS (3 : Int).toNat 9 = true from by decide]
  rintro e w1 ⟨rfl, hb11⟩
  go_wp2_with fail
  refine (holds_any 3 (by omega) 2 (by omega) (by omega) _).mono ?_
  rw [show holdsS (3 : Int).toNat 2 = true from by decide]
  rintro e w1 ⟨rfl, hb12⟩
  go_wp2_with fail
  refine (holds_any 6 (by omega) 9 (by omega) (by omega) _).mono ?_
  rw [show holdsS (6 : Int).toNat 9 = false from by decide]
  rintro e w1 ⟨rfl, hb13⟩
  go_wp2_with fail
  refine (holds_any 7 (by omega) 0 (by omega) (by omega) _).mono ?_
  rw [show holdsS (7 : Int).toNat 0 = false from by decide]
  rintro e w1 ⟨rfl, hb14⟩
  go_wp2_with fail
  go_ret
  exact ⟨rfl, (bt (bt (bt (bt (bt (bt (bt (bt (bt (bt (bt (bt (bt (bt hb0 hb1) hb2) hb3) hb4) hb5) hb6) hb7) hb8) hb9) hb10) hb11) hb12) hb13) hb14)⟩
end Go.Proofs.Ytkokdcbnnihkaaa
