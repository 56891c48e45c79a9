/- The walk of shape.bare, an operation at a time. -/
import Derived.Test.YtdefooailcbnlaaG05
import Derived.RegionTactic
namespace Go.Proofs.Ytdefooailcbnlaa
open Go.RowKit
set_option linter.unusedVariables false
set_option linter.unusedSimpArgs false
set_option maxRecDepth 100000 in
set_option maxHeartbeats 1000000 in
theorem bare_0 (x : Insx) (p : Option Addr) (n c : Nat) (w : World) :
    Calls Try.prog 75 #[.agg #[.int .u8 0, .int .i64 x.d, .int .i64 x.a, .int .i64 x.b, .int .u32 x.n, .int .i64 x.f, .slice p n c, .int .i64 x.l1, .int .i64 x.l2]] w fun e w' => e = .returned (.agg #[.int .u8 0, .int .i64 x.d, .int .i64 0, .int .i64 0, .int .u32 x.n, .int .i64 0, .slice none 0 0, .int .i64 0, .int .i64 0]) ∧ Below w.heap.size w w' := by
  go_enter Try.func75, Try.ntmps75
  go_wp2_with fail
  go_region
  all_goals
    go_wp2_with fail
    refine bodyPost_ret (by simp [results, Try.results75, go_sem]; try rfl) rfl ?_
    exact ⟨rfl, by go_grown⟩
set_option maxRecDepth 100000 in
set_option maxHeartbeats 1000000 in
theorem bare_1 (x : Insx) (p : Option Addr) (n c : Nat) (w : World) :
    Calls Try.prog 75 #[.agg #[.int .u8 1, .int .i64 x.d, .int .i64 x.a, .int .i64 x.b, .int .u32 x.n, .int .i64 x.f, .slice p n c, .int .i64 x.l1, .int .i64 x.l2]] w fun e w' => e = .returned (.agg #[.int .u8 1, .int .i64 x.d, .int .i64 x.a, .int .i64 x.b, .int .u32 x.n, .int .i64 0, .slice none 0 0, .int .i64 0, .int .i64 0]) ∧ Below w.heap.size w w' := by
  go_enter Try.func75, Try.ntmps75
  go_wp2_with fail
  refine bodyPost_ret (by simp [results, Try.results75, go_sem]; try rfl) rfl ?_
  exact ⟨rfl, by go_grown⟩
set_option maxRecDepth 100000 in
set_option maxHeartbeats 1000000 in
theorem bare_2 (x : Insx) (p : Option Addr) (n c : Nat) (w : World) :
    Calls Try.prog 75 #[.agg #[.int .u8 2, .int .i64 x.d, .int .i64 x.a, .int .i64 x.b, .int .u32 x.n, .int .i64 x.f, .slice p n c, .int .i64 x.l1, .int .i64 x.l2]] w fun e w' => e = .returned (.agg #[.int .u8 2, .int .i64 x.d, .int .i64 x.a, .int .i64 0, .int .u32 0, .int .i64 0, .slice none 0 0, .int .i64 0, .int .i64 0]) ∧ Below w.heap.size w w' := by
  go_enter Try.func75, Try.ntmps75
  go_wp2_with fail
  refine bodyPost_ret (by simp [results, Try.results75, go_sem]; try rfl) rfl ?_
  exact ⟨rfl, by go_grown⟩
set_option maxRecDepth 100000 in
set_option maxHeartbeats 1000000 in
theorem bare_3 (x : Insx) (p : Option Addr) (n c : Nat) (w : World) :
    Calls Try.prog 75 #[.agg #[.int .u8 3, .int .i64 x.d, .int .i64 x.a, .int .i64 x.b, .int .u32 x.n, .int .i64 x.f, .slice p n c, .int .i64 x.l1, .int .i64 x.l2]] w fun e w' => e = .returned (.agg #[.int .u8 3, .int .i64 x.d, .int .i64 x.a, .int .i64 0, .int .u32 0, .int .i64 0, .slice none 0 0, .int .i64 0, .int .i64 0]) ∧ Below w.heap.size w w' := by
  go_enter Try.func75, Try.ntmps75
  go_wp2_with fail
  refine bodyPost_ret (by simp [results, Try.results75, go_sem]; try rfl) rfl ?_
  exact ⟨rfl, by go_grown⟩
set_option maxRecDepth 100000 in
set_option maxHeartbeats 1000000 in
theorem bare_4 (x : Insx) (p : Option Addr) (n c : Nat) (w : World) :
    Calls Try.prog 75 #[.agg #[.int .u8 4, .int .i64 x.d, .int .i64 x.a, .int .i64 x.b, .int .u32 x.n, .int .i64 x.f, .slice p n c, .int .i64 x.l1, .int .i64 x.l2]] w fun e w' => e = .returned (.agg #[.int .u8 4, .int .i64 0, .int .i64 x.a, .int .i64 x.b, .int .u32 0, .int .i64 0, .slice none 0 0, .int .i64 0, .int .i64 0]) ∧ Below w.heap.size w w' := by
  go_enter Try.func75, Try.ntmps75
  go_wp2_with fail
  go_region
  all_goals
    go_wp2_with fail
    refine bodyPost_ret (by simp [results, Try.results75, go_sem]; try rfl) rfl ?_
    exact ⟨rfl, by go_grown⟩
set_option maxRecDepth 100000 in
set_option maxHeartbeats 1000000 in
theorem bare_5 (x : Insx) (p : Option Addr) (n c : Nat) (w : World) :
    Calls Try.prog 75 #[.agg #[.int .u8 5, .int .i64 x.d, .int .i64 x.a, .int .i64 x.b, .int .u32 x.n, .int .i64 x.f, .slice p n c, .int .i64 x.l1, .int .i64 x.l2]] w fun e w' => e = .returned (.agg #[.int .u8 5, .int .i64 x.d, .int .i64 0, .int .i64 0, .int .u32 0, .int .i64 x.f, .slice none 0 0, .int .i64 0, .int .i64 0]) ∧ Below w.heap.size w w' := by
  go_enter Try.func75, Try.ntmps75
  go_wp2_with fail
  go_region
  all_goals
    go_wp2_with fail
    refine bodyPost_ret (by simp [results, Try.results75, go_sem]; try rfl) rfl ?_
    exact ⟨rfl, by go_grown⟩
set_option maxRecDepth 100000 in
set_option maxHeartbeats 1000000 in
theorem bare_6 (x : Insx) (p : Option Addr) (n c : Nat) (w : World) :
    Calls Try.prog 75 #[.agg #[.int .u8 6, .int .i64 x.d, .int .i64 x.a, .int .i64 x.b, .int .u32 x.n, .int .i64 x.f, .slice p n c, .int .i64 x.l1, .int .i64 x.l2]] w fun e w' => e = .returned (.agg #[.int .u8 6, .int .i64 0, .int .i64 x.a, .int .i64 0, .int .u32 0, .int .i64 0, .slice none 0 0, .int .i64 0, .int .i64 0]) ∧ Below w.heap.size w w' := by
  go_enter Try.func75, Try.ntmps75
  go_wp2_with fail
  refine bodyPost_ret (by simp [results, Try.results75, go_sem]; try rfl) rfl ?_
  exact ⟨rfl, by go_grown⟩
set_option maxRecDepth 100000 in
set_option maxHeartbeats 1000000 in
theorem bare_7 (x : Insx) (p : Option Addr) (n c : Nat) (w : World) :
    Calls Try.prog 75 #[.agg #[.int .u8 7, .int .i64 x.d, .int .i64 x.a, .int .i64 x.b, .int .u32 x.n, .int .i64 x.f, .slice p n c, .int .i64 x.l1, .int .i64 x.l2]] w fun e w' => e = .returned (.agg #[.int .u8 7, .int .i64 0, .int .i64 0, .int .i64 0, .int .u32 0, .int .i64 0, .slice none 0 0, .int .i64 0, .int .i64 0]) ∧ Below w.heap.size w w' := by
  go_enter Try.func75, Try.ntmps75
  go_wp2_with fail
  refine bodyPost_ret (by simp [results, Try.results75, go_sem]; try rfl) rfl ?_
  exact ⟨rfl, by go_grown⟩
set_option maxRecDepth 100000 in
set_option maxHeartbeats 1000000 in
theorem bare_8 (x : Insx) (p : Option Addr) (n c : Nat) (w : World) :
    Calls Try.prog 75 #[.agg #[.int .u8 8, .int .i64 x.d, .int .i64 x.a, .int .i64 x.b, .int .u32 x.n, .int .i64 x.f, .slice p n c, .int .i64 x.l1, .int .i64 x.l2]] w fun e w' => e = .returned (.agg #[.int .u8 8, .int .i64 0, .int .i64 0, .int .i64 0, .int .u32 0, .int .i64 0, .slice none 0 0, .int .i64 x.l1, .int .i64 0]) ∧ Below w.heap.size w w' := by
  go_enter Try.func75, Try.ntmps75
  go_wp2_with fail
  refine bodyPost_ret (by simp [results, Try.results75, go_sem]; try rfl) rfl ?_
  exact ⟨rfl, by go_grown⟩
set_option maxRecDepth 100000 in
set_option maxHeartbeats 1000000 in
theorem bare_9 (x : Insx) (p : Option Addr) (n c : Nat) (w : World) :
    Calls Try.prog 75 #[.agg #[.int .u8 9, .int .i64 x.d, .int .i64 x.a, .int .i64 x.b, .int .u32 x.n, .int .i64 x.f, .slice p n c, .int .i64 x.l1, .int .i64 x.l2]] w fun e w' => e = .returned (.agg #[.int .u8 9, .int .i64 0, .int .i64 x.a, .int .i64 0, .int .u32 0, .int .i64 0, .slice none 0 0, .int .i64 x.l1, .int .i64 x.l2]) ∧ Below w.heap.size w w' := by
  go_enter Try.func75, Try.ntmps75
  go_wp2_with fail
  go_region
  all_goals
    go_wp2_with fail
    refine bodyPost_ret (by simp [results, Try.results75, go_sem]; try rfl) rfl ?_
    exact ⟨rfl, by go_grown⟩
set_option maxRecDepth 100000 in
set_option maxHeartbeats 1000000 in
theorem bare_10 (x : Insx) (p : Option Addr) (n c : Nat) (w : World) :
    Calls Try.prog 75 #[.agg #[.int .u8 10, .int .i64 x.d, .int .i64 x.a, .int .i64 x.b, .int .u32 x.n, .int .i64 x.f, .slice p n c, .int .i64 x.l1, .int .i64 x.l2]] w fun e w' => e = .returned (.agg #[.int .u8 10, .int .i64 0, .int .i64 x.a, .int .i64 0, .int .u32 0, .int .i64 0, .slice none 0 0, .int .i64 0, .int .i64 0]) ∧ Below w.heap.size w w' := by
  go_enter Try.func75, Try.ntmps75
  go_wp2_with fail
  refine bodyPost_ret (by simp [results, Try.results75, go_sem]; try rfl) rfl ?_
  exact ⟨rfl, by go_grown⟩
end Go.Proofs.Ytdefooailcbnlaa
