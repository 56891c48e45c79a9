/- The walk of muntinlaw04.PsrWindows. -/
import Derived.Test.YtilegepenibeoaaDoorPsrHead
namespace Go.Proofs.YtilegepenibeoaaDoor
open Go.RowKit
set_option linter.unusedVariables false
set_option linter.unusedSimpArgs false
set_option maxRecDepth 100000 in
set_option maxHeartbeats 4000000 in
theorem walk_PsrWindows (x v nw : Int) (h0 : 0 ≤ v) (h1 : v < 4294967296) (w : World) (ht : Bru w) : Calls Tryd.prog 7 #[.int .i64 x, .int .u32 v, .int .i64 nw] w fun e w' => e = .returned (.bool true) ∧ Below w.heap.size w w' := by
  have K1 := phid (next_any x nw)
  have K2 := phid (rnext_any x nw 1 (fun _ => by omega))
  have K3 := phid (ahead_any x nw)
  have K4 := phid (rahead_any x nw)
  have K5 := phid (wim_any x nw)
  have K6 := phid (rwim_any x nw)
  have K7 := phid (invalid_any v nw h0 h1)
  have K8 := phid (rinvalid_any v nw h0 h1)
  have K9 := phid (resident_any x v nw h0 h1)
  have K10 := phid (rresident_any x v nw h0 h1)
  have T := phid ht
  clear ht
  generalize stepV x 1 nw = s1 at *
  generalize stepV x (nw - 1) nw = s2 at *
  generalize okE x nw = ok at *
  generalize wimV x nw = wv at *
  generalize invV v nw = iv at *
  generalize invE v nw = ie at *
  generalize resE x v nw = re at *
  generalize resV x v nw = rl at *
  go_enter Tryd.func7, Tryd.ntmps7
  go_wp2_with fail
  refine (K1.out _).mono ?_
  rintro e w1 ⟨rfl, b⟩
  replace T := phid (T.out.keep b)
  have B := phid b
  clear b
  go_wp2_with fail
  refine (K2.out _).mono ?_
  rintro e w' ⟨rfl, rfl⟩
  go_wp2_with fail
  refine (K3.out _).mono ?_
  rintro e w2 ⟨rfl, b⟩
  replace T := phid (T.out.keep b)
  replace B := phid (pbt B.out b)
  clear b
  go_wp2_with fail
  refine (K4.out _).mono ?_
  rintro e w' ⟨rfl, rfl⟩
  go_wp2_with fail
  refine (K5.out _).mono ?_
  rintro e w3 ⟨rfl, b⟩
  replace T := phid (T.out.keep b)
  replace B := phid (pbt B.out b)
  clear b
  go_wp2_with fail
  refine (K6.out _).mono ?_
  rintro e w' ⟨rfl, rfl⟩
  go_wp2_with fail
  refine (K7.out _ T.out).mono ?_
  rintro e w4 ⟨rfl, b⟩
  replace T := phid (T.out.keep b)
  replace B := phid (pbt B.out b)
  clear b
  go_wp2_with fail
  refine (K8.out _).mono ?_
  rintro e w' ⟨rfl, rfl⟩
  go_wp2_with fail
  refine (K9.out _ T.out).mono ?_
  rintro e w5 ⟨u1, rfl, hown, b⟩
  replace T := phid (T.out.keep b)
  replace B := phid (pbt B.out b)
  have R1 := phid (ReadsI.of_own hown)
  clear b hown
  go_wp2_with fail
  refine (K10.out _).mono ?_
  rintro e w6 ⟨u2, rfl, hown, b⟩
  replace T := phid (T.out.keep b)
  replace B := phid (pbt B.out b)
  replace R1 := phid (R1.out.keep b)
  have R2 := phid (ReadsI.of_own hown)
  clear b hown
  go_wp2_with fail
  refine (psame_any _ _ _ rl rl R1.out R2.out).mono ?_
  rw [show decide (rl = rl) = true from decide_eq_true rfl]
  rintro e w7 ⟨rfl, b⟩
  replace T := phid (T.out.keep b)
  replace B := phid (pbt B.out b)
  clear b
  go_wp2_with fail
  refine (phead_any _ T.out).mono ?_
  rintro e w8 ⟨rfl, b⟩
  replace B := phid (pbt B.out b)
  clear b
  go_wp2_with fail
  go_ret
  exact ⟨rfl, B.out⟩
end Go.Proofs.YtilegepenibeoaaDoor
