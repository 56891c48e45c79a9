/- The parts of a state, gone over: the contract of psr.parts's function. -/
import Derived.Test.YtilegepenibeoaaDoorPsrWalks
import Derived.RangeFuncNested
import Derived.RangeFuncBound
import Derived.RangeFuncCalls
import Derived.RangeFuncLeaves
import Derived.Shelf.Abstract
import Derived.Shelf.RegionOpen
import Derived.OwnWalkIn
import Derived.TacticsInMore
import Derived.LoopNIn
import Derived.LoopIn
import Derived.RegionIn
namespace Go.Proofs.YtilegepenibeoaaDoor
open Go.RowKit Go.Shelf
set_option linter.unusedVariables false
set_option linter.unusedSimpArgs false
attribute [local go_sem] Oper.semAt_some
/-- How many bits a part has. -/
def bitsP (i : Fin 4) : Int := if i.val = 0 ∨ i.val = 2 then 5 else 4
abbrev encP (b : Nat) (i : Fin 4) : Array Value := #[.pointer (some ⟨b, i.val, none⟩), .int .i64 (bitsP i)]
set_option maxRecDepth 100000 in
set_option maxHeartbeats 4000000 in
/-- All four, in their order; or a part of them. -/
theorem parts_stops (n : Nat) (hn : 1 ≤ n) (c b : Nat) (w : World) (hc : w.cell? ⟨c, 0, none⟩ = some (.pointer (some ⟨b, 0, none⟩))) :
    SeqStopsK Fence.wide n Tryd.prog 79 #[.pointer (some ⟨c, 0, none⟩)] (encP b) (fun _ _ => True) (fun xs => xs = [0, 1, 2, 3]) (fun _ => True) 4 w := fun l J Jx W hW hAb _ hY h0 => by
  have hc' := (hW.cell (p := ⟨c, 0, none⟩) (World.block_lt_of_cell? _ _ hc)).trans hc
  refine callsIn_of_wp Tryd.func79 rfl trivial ?_ rfl
  simp only [Tryd.ntmps79, List.size_toArray, List.length_cons, List.length_nil, Nat.reduceAdd, Nat.reduceSub, Array.replicate_succ, Array.replicate_zero, List.push_toArray, List.append_toArray, List.nil_append, List.cons_append]
  have ix0 : ∀ w, (Instr.index 129 (.agg #[.pointer (some ⟨b, 0, none⟩), .pointer (some ⟨b, 1, none⟩), .pointer (some ⟨b, 2, none⟩), .pointer (some ⟨b, 3, none⟩)]) (.int .i64 0)).run Tryd.prog w = .ok (.pointer (some ⟨b, 0, none⟩)) w := fun _ => by kernel_rfl
  have iy0 : ∀ w, (Instr.index 130 (.agg #[.int .i64 5, .int .i64 4, .int .i64 5, .int .i64 4]) (.int .i64 0)).run Tryd.prog w = .ok (.int .i64 5) w := fun _ => by kernel_rfl
  have ix1 : ∀ w, (Instr.index 129 (.agg #[.pointer (some ⟨b, 0, none⟩), .pointer (some ⟨b, 1, none⟩), .pointer (some ⟨b, 2, none⟩), .pointer (some ⟨b, 3, none⟩)]) (.int .i64 1)).run Tryd.prog w = .ok (.pointer (some ⟨b, 1, none⟩)) w := fun _ => by kernel_rfl
  have iy1 : ∀ w, (Instr.index 130 (.agg #[.int .i64 5, .int .i64 4, .int .i64 5, .int .i64 4]) (.int .i64 1)).run Tryd.prog w = .ok (.int .i64 4) w := fun _ => by kernel_rfl
  have ix2 : ∀ w, (Instr.index 129 (.agg #[.pointer (some ⟨b, 0, none⟩), .pointer (some ⟨b, 1, none⟩), .pointer (some ⟨b, 2, none⟩), .pointer (some ⟨b, 3, none⟩)]) (.int .i64 2)).run Tryd.prog w = .ok (.pointer (some ⟨b, 2, none⟩)) w := fun _ => by kernel_rfl
  have iy2 : ∀ w, (Instr.index 130 (.agg #[.int .i64 5, .int .i64 4, .int .i64 5, .int .i64 4]) (.int .i64 2)).run Tryd.prog w = .ok (.int .i64 5) w := fun _ => by kernel_rfl
  have ix3 : ∀ w, (Instr.index 129 (.agg #[.pointer (some ⟨b, 0, none⟩), .pointer (some ⟨b, 1, none⟩), .pointer (some ⟨b, 2, none⟩), .pointer (some ⟨b, 3, none⟩)]) (.int .i64 3)).run Tryd.prog w = .ok (.pointer (some ⟨b, 3, none⟩)) w := fun _ => by kernel_rfl
  have iy3 : ∀ w, (Instr.index 130 (.agg #[.int .i64 5, .int .i64 4, .int .i64 5, .int .i64 4]) (.int .i64 3)).run Tryd.prog w = .ok (.int .i64 4) w := fun _ => by kernel_rfl
  gi_wp2
  refine wpIn_wide.2 ?_
  go_quiet (fail)
  have hJ1 : J [] (W.drewN nq) := hAb [] _ _ none h0 ⟨rfl, rfl, rfl, Nat.le_refl _, fun _ _ _ => rfl⟩ (fun r e => by cases e)
  gi_wp2
  gi_loopw [18] (fun i wr => ∃ k : Nat, k ≤ 4 ∧ i = .int .i64 k ∧ J (([0, 1, 2, 3] : List (Fin 4)).take k) wr) (fun i _ => 4 - (intOf i).toNat)
  case atStart => exact ⟨0, by omega, rfl, hJ1⟩
  case round =>
    obtain ⟨k, hk, rfl, hJ⟩ := hrel
    have hk : k = 0 ∨ k = 1 ∨ k = 2 ∨ k = 3 ∨ k = 4 := by omega
    rcases hk with rfl | rfl | rfl | rfl | rfl
    · obtain ⟨fn, tmps, assign, body, hy0, hR⟩ := hY _ 0 wr hJ (by simp)
      have hy : Sem.run Tryd.prog (Instr.yield l #[.pointer (some ⟨b, 0, none⟩), .int .i64 5]) wr = .ok (Next.round l fn tmps assign body) wr := hy0
      clear hy0
      gi_wp2
      refine hR.mono ?_
      rintro e W3 (⟨rfl, hJ3, hk3⟩ | ⟨rfl, hJx3⟩)
      · gi_wp2
        go_roundw
        case rel => exact ⟨1, by omega, by go_num, hJ3⟩
        case measure => simp [intOf] <;> omega
      · gi_wp2
        refine bodyPost_ret (results_none rfl _ _ _) rfl ?_
        exact ⟨⟨_, rfl⟩, .inr ⟨_, trivial, hJx3⟩⟩
    · obtain ⟨fn, tmps, assign, body, hy0, hR⟩ := hY _ 1 wr hJ (by simp)
      have hy : Sem.run Tryd.prog (Instr.yield l #[.pointer (some ⟨b, 1, none⟩), .int .i64 4]) wr = .ok (Next.round l fn tmps assign body) wr := hy0
      clear hy0
      gi_wp2
      refine hR.mono ?_
      rintro e W3 (⟨rfl, hJ3, hk3⟩ | ⟨rfl, hJx3⟩)
      · gi_wp2
        go_roundw
        case rel => exact ⟨2, by omega, by go_num, hJ3⟩
        case measure => simp [intOf] <;> omega
      · gi_wp2
        refine bodyPost_ret (results_none rfl _ _ _) rfl ?_
        exact ⟨⟨_, rfl⟩, .inr ⟨_, trivial, hJx3⟩⟩
    · obtain ⟨fn, tmps, assign, body, hy0, hR⟩ := hY _ 2 wr hJ (by simp)
      have hy : Sem.run Tryd.prog (Instr.yield l #[.pointer (some ⟨b, 2, none⟩), .int .i64 5]) wr = .ok (Next.round l fn tmps assign body) wr := hy0
      clear hy0
      gi_wp2
      refine hR.mono ?_
      rintro e W3 (⟨rfl, hJ3, hk3⟩ | ⟨rfl, hJx3⟩)
      · gi_wp2
        go_roundw
        case rel => exact ⟨3, by omega, by go_num, hJ3⟩
        case measure => simp [intOf] <;> omega
      · gi_wp2
        refine bodyPost_ret (results_none rfl _ _ _) rfl ?_
        exact ⟨⟨_, rfl⟩, .inr ⟨_, trivial, hJx3⟩⟩
    · obtain ⟨fn, tmps, assign, body, hy0, hR⟩ := hY _ 3 wr hJ (by simp)
      have hy : Sem.run Tryd.prog (Instr.yield l #[.pointer (some ⟨b, 3, none⟩), .int .i64 4]) wr = .ok (Next.round l fn tmps assign body) wr := hy0
      clear hy0
      gi_wp2
      refine hR.mono ?_
      rintro e W3 (⟨rfl, hJ3, hk3⟩ | ⟨rfl, hJx3⟩)
      · gi_wp2
        go_roundw
        case rel => exact ⟨4, by omega, by go_num, hJ3⟩
        case measure => simp [intOf] <;> omega
      · gi_wp2
        refine bodyPost_ret (results_none rfl _ _ _) rfl ?_
        exact ⟨⟨_, rfl⟩, .inr ⟨_, trivial, hJx3⟩⟩
    · gi_wp2
      go_end0
      exact ⟨⟨_, rfl⟩, .inl ⟨_, rfl, hJ⟩⟩
set_option maxHeartbeats 1000000 in
theorem parts_any (p : Option Addr) (w : World) : Calls Tryd.prog 59 #[.pointer p] w fun e w' => e = .returned (.func (.func 79) #[] #[.pointer (some ⟨w.heap.size, 0, none⟩)]) ∧ w.alloc (.cells #[.pointer p] 105) = w' := by
  go_enter Tryd.func59, Tryd.ntmps59
  go_wp2
  go_ret
  exact ⟨rfl, rfl⟩
end Go.Proofs.YtilegepenibeoaaDoor
