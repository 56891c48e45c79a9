/- The walks of tick.Name and muntinref09.Name: a handler's name, level by level. -/
import Derived.Test.YtgicenbjdadakaaDoorProg
import Derived.Handy
import Derived.WalkLawsBesides
import Derived.Deep.QuietTactic
import Derived.BigQuiet
import Derived.Laws.IdiomStrings
namespace Go.Proofs.YtgicenbjdadakaaDoor
open Go.RowKit
set_option linter.unusedVariables false
/-- The bytes of a handler's name. -/
def tickNm (k : Nat) : ByteArray := ⟨(match k with
  | 1 => #[116, 105, 99, 107, 49]
  | 2 => #[116, 105, 99, 107, 50]
  | 3 => #[116, 105, 99, 107, 51]
  | 4 => #[116, 105, 99, 107, 52]
  | 5 => #[116, 105, 99, 107, 53]
  | 6 => #[116, 105, 99, 107, 54]
  | 7 => #[116, 105, 99, 107, 55]
  | 8 => #[116, 105, 99, 107, 56]
  | 9 => #[116, 105, 99, 107, 57]
  | 10 => #[116, 105, 99, 107, 49, 48]
  | 11 => #[116, 105, 99, 107, 49, 49]
  | 12 => #[116, 105, 99, 107, 49, 50]
  | 13 => #[116, 105, 99, 107, 49, 51]
  | 14 => #[116, 105, 99, 107, 49, 52]
  | 15 => #[116, 105, 99, 107, 49, 53]
  | _ => #[])⟩
theorem conv1 (w : World) (b : UInt8) (n : Int) (hn : n = b.toNat) : (convert 53 9 (.slice (some ⟨w.heap.size, 0, none⟩) 1 1)).run Tryd.prog (w.alloc (.cells #[.int .u8 n] 5)) = .ok (.string ⟨#[b]⟩) (w.alloc (.cells #[.int .u8 n] 5)) := by
  subst hn
  refine run_convert_bytes_back (P := Tryd.prog) (w.alloc (.cells #[.int .u8 b.toNat] 5)) 53 9 5 ⟨w.heap.size, 0, none⟩ 1 [b] Tryd.underlying53 Tryd.underlying5 Tryd.underlying9 (fun j hj => ?_)
  obtain rfl : j = 0 := by simpa using hj
  have : (⟨w.heap.size, 0, none⟩ : Addr).add 0 = ⟨w.heap.size, 0, none⟩ := rfl
  rw [this]
  simp only [World.cell?, heap_alloc_new w _]
  simp
set_option maxRecDepth 100000 in
theorem name_1 (w : World) : Calls Tryd.prog 6 #[.int .i64 1] w fun e w' => e = .returned (.string ⟨#[116, 105, 99, 107, 49]⟩) ∧ w = w' := by
  go_enter Tryd.func6, Tryd.ntmps6
  go_wp2_with (go_in)
  go_ret
  exact ⟨rfl, rfl⟩
theorem rname_1 (w : World) : Calls Tryd.prog 7 #[.int .i64 1] w fun e w' => e = .returned (.string ⟨#[116, 105, 99, 107, 49]⟩) ∧ Below w.heap.size w w' := by
  have hc := conv1 w 49 49 rfl
  go_enter Tryd.func7, Tryd.ntmps7
  go_wp2_with (go_in)
  go_ret
  exact ⟨rfl, by go_grown⟩
set_option maxRecDepth 100000 in
theorem name_2 (w : World) : Calls Tryd.prog 6 #[.int .i64 2] w fun e w' => e = .returned (.string ⟨#[116, 105, 99, 107, 50]⟩) ∧ w = w' := by
  go_enter Tryd.func6, Tryd.ntmps6
  go_wp2_with (go_in)
  go_ret
  exact ⟨rfl, rfl⟩
theorem rname_2 (w : World) : Calls Tryd.prog 7 #[.int .i64 2] w fun e w' => e = .returned (.string ⟨#[116, 105, 99, 107, 50]⟩) ∧ Below w.heap.size w w' := by
  have hc := conv1 w 50 50 rfl
  go_enter Tryd.func7, Tryd.ntmps7
  go_wp2_with (go_in)
  go_ret
  exact ⟨rfl, by go_grown⟩
set_option maxRecDepth 100000 in
theorem name_3 (w : World) : Calls Tryd.prog 6 #[.int .i64 3] w fun e w' => e = .returned (.string ⟨#[116, 105, 99, 107, 51]⟩) ∧ w = w' := by
  go_enter Tryd.func6, Tryd.ntmps6
  go_wp2_with (go_in)
  go_ret
  exact ⟨rfl, rfl⟩
theorem rname_3 (w : World) : Calls Tryd.prog 7 #[.int .i64 3] w fun e w' => e = .returned (.string ⟨#[116, 105, 99, 107, 51]⟩) ∧ Below w.heap.size w w' := by
  have hc := conv1 w 51 51 rfl
  go_enter Tryd.func7, Tryd.ntmps7
  go_wp2_with (go_in)
  go_ret
  exact ⟨rfl, by go_grown⟩
set_option maxRecDepth 100000 in
theorem name_4 (w : World) : Calls Tryd.prog 6 #[.int .i64 4] w fun e w' => e = .returned (.string ⟨#[116, 105, 99, 107, 52]⟩) ∧ w = w' := by
  go_enter Tryd.func6, Tryd.ntmps6
  go_wp2_with (go_in)
  go_ret
  exact ⟨rfl, rfl⟩
theorem rname_4 (w : World) : Calls Tryd.prog 7 #[.int .i64 4] w fun e w' => e = .returned (.string ⟨#[116, 105, 99, 107, 52]⟩) ∧ Below w.heap.size w w' := by
  have hc := conv1 w 52 52 rfl
  go_enter Tryd.func7, Tryd.ntmps7
  go_wp2_with (go_in)
  go_ret
  exact ⟨rfl, by go_grown⟩
set_option maxRecDepth 100000 in
theorem name_5 (w : World) : Calls Tryd.prog 6 #[.int .i64 5] w fun e w' => e = .returned (.string ⟨#[116, 105, 99, 107, 53]⟩) ∧ w = w' := by
  go_enter Tryd.func6, Tryd.ntmps6
  go_wp2_with (go_in)
  go_ret
  exact ⟨rfl, rfl⟩
theorem rname_5 (w : World) : Calls Tryd.prog 7 #[.int .i64 5] w fun e w' => e = .returned (.string ⟨#[116, 105, 99, 107, 53]⟩) ∧ Below w.heap.size w w' := by
  have hc := conv1 w 53 53 rfl
  go_enter Tryd.func7, Tryd.ntmps7
  go_wp2_with (go_in)
  go_ret
  exact ⟨rfl, by go_grown⟩
set_option maxRecDepth 100000 in
theorem name_6 (w : World) : Calls Tryd.prog 6 #[.int .i64 6] w fun e w' => e = .returned (.string ⟨#[116, 105, 99, 107, 54]⟩) ∧ w = w' := by
  go_enter Tryd.func6, Tryd.ntmps6
  go_wp2_with (go_in)
  go_ret
  exact ⟨rfl, rfl⟩
theorem rname_6 (w : World) : Calls Tryd.prog 7 #[.int .i64 6] w fun e w' => e = .returned (.string ⟨#[116, 105, 99, 107, 54]⟩) ∧ Below w.heap.size w w' := by
  have hc := conv1 w 54 54 rfl
  go_enter Tryd.func7, Tryd.ntmps7
  go_wp2_with (go_in)
  go_ret
  exact ⟨rfl, by go_grown⟩
set_option maxRecDepth 100000 in
theorem name_7 (w : World) : Calls Tryd.prog 6 #[.int .i64 7] w fun e w' => e = .returned (.string ⟨#[116, 105, 99, 107, 55]⟩) ∧ w = w' := by
  go_enter Tryd.func6, Tryd.ntmps6
  go_wp2_with (go_in)
  go_ret
  exact ⟨rfl, rfl⟩
theorem rname_7 (w : World) : Calls Tryd.prog 7 #[.int .i64 7] w fun e w' => e = .returned (.string ⟨#[116, 105, 99, 107, 55]⟩) ∧ Below w.heap.size w w' := by
  have hc := conv1 w 55 55 rfl
  go_enter Tryd.func7, Tryd.ntmps7
  go_wp2_with (go_in)
  go_ret
  exact ⟨rfl, by go_grown⟩
set_option maxRecDepth 100000 in
theorem name_8 (w : World) : Calls Tryd.prog 6 #[.int .i64 8] w fun e w' => e = .returned (.string ⟨#[116, 105, 99, 107, 56]⟩) ∧ w = w' := by
  go_enter Tryd.func6, Tryd.ntmps6
  go_wp2_with (go_in)
  go_ret
  exact ⟨rfl, rfl⟩
theorem rname_8 (w : World) : Calls Tryd.prog 7 #[.int .i64 8] w fun e w' => e = .returned (.string ⟨#[116, 105, 99, 107, 56]⟩) ∧ Below w.heap.size w w' := by
  have hc := conv1 w 56 56 rfl
  go_enter Tryd.func7, Tryd.ntmps7
  go_wp2_with (go_in)
  go_ret
  exact ⟨rfl, by go_grown⟩
set_option maxRecDepth 100000 in
theorem name_9 (w : World) : Calls Tryd.prog 6 #[.int .i64 9] w fun e w' => e = .returned (.string ⟨#[116, 105, 99, 107, 57]⟩) ∧ w = w' := by
  go_enter Tryd.func6, Tryd.ntmps6
  go_wp2_with (go_in)
  go_ret
  exact ⟨rfl, rfl⟩
theorem rname_9 (w : World) : Calls Tryd.prog 7 #[.int .i64 9] w fun e w' => e = .returned (.string ⟨#[116, 105, 99, 107, 57]⟩) ∧ Below w.heap.size w w' := by
  have hc := conv1 w 57 57 rfl
  go_enter Tryd.func7, Tryd.ntmps7
  go_wp2_with (go_in)
  go_ret
  exact ⟨rfl, by go_grown⟩
set_option maxRecDepth 100000 in
theorem name_10 (w : World) : Calls Tryd.prog 6 #[.int .i64 10] w fun e w' => e = .returned (.string ⟨#[116, 105, 99, 107, 49, 48]⟩) ∧ w = w' := by
  go_enter Tryd.func6, Tryd.ntmps6
  go_wp2_with (go_in)
  go_ret
  exact ⟨rfl, rfl⟩
theorem rname_10 (w : World) : Calls Tryd.prog 7 #[.int .i64 10] w fun e w' => e = .returned (.string ⟨#[116, 105, 99, 107, 49, 48]⟩) ∧ Below w.heap.size w w' := by
  have hc := conv1 w 48 48 rfl
  go_enter Tryd.func7, Tryd.ntmps7
  go_wp2_with (go_in)
  go_ret
  exact ⟨rfl, by go_grown⟩
set_option maxRecDepth 100000 in
theorem name_11 (w : World) : Calls Tryd.prog 6 #[.int .i64 11] w fun e w' => e = .returned (.string ⟨#[116, 105, 99, 107, 49, 49]⟩) ∧ w = w' := by
  go_enter Tryd.func6, Tryd.ntmps6
  go_wp2_with (go_in)
  go_ret
  exact ⟨rfl, rfl⟩
theorem rname_11 (w : World) : Calls Tryd.prog 7 #[.int .i64 11] w fun e w' => e = .returned (.string ⟨#[116, 105, 99, 107, 49, 49]⟩) ∧ Below w.heap.size w w' := by
  have hc := conv1 w 49 49 rfl
  go_enter Tryd.func7, Tryd.ntmps7
  go_wp2_with (go_in)
  go_ret
  exact ⟨rfl, by go_grown⟩
set_option maxRecDepth 100000 in
theorem name_12 (w : World) : Calls Tryd.prog 6 #[.int .i64 12] w fun e w' => e = .returned (.string ⟨#[116, 105, 99, 107, 49, 50]⟩) ∧ w = w' := by
  go_enter Tryd.func6, Tryd.ntmps6
  go_wp2_with (go_in)
  go_ret
  exact ⟨rfl, rfl⟩
theorem rname_12 (w : World) : Calls Tryd.prog 7 #[.int .i64 12] w fun e w' => e = .returned (.string ⟨#[116, 105, 99, 107, 49, 50]⟩) ∧ Below w.heap.size w w' := by
  have hc := conv1 w 50 50 rfl
  go_enter Tryd.func7, Tryd.ntmps7
  go_wp2_with (go_in)
  go_ret
  exact ⟨rfl, by go_grown⟩
set_option maxRecDepth 100000 in
theorem name_13 (w : World) : Calls Tryd.prog 6 #[.int .i64 13] w fun e w' => e = .returned (.string ⟨#[116, 105, 99, 107, 49, 51]⟩) ∧ w = w' := by
  go_enter Tryd.func6, Tryd.ntmps6
  go_wp2_with (go_in)
  go_ret
  exact ⟨rfl, rfl⟩
theorem rname_13 (w : World) : Calls Tryd.prog 7 #[.int .i64 13] w fun e w' => e = .returned (.string ⟨#[116, 105, 99, 107, 49, 51]⟩) ∧ Below w.heap.size w w' := by
  have hc := conv1 w 51 51 rfl
  go_enter Tryd.func7, Tryd.ntmps7
  go_wp2_with (go_in)
  go_ret
  exact ⟨rfl, by go_grown⟩
set_option maxRecDepth 100000 in
theorem name_14 (w : World) : Calls Tryd.prog 6 #[.int .i64 14] w fun e w' => e = .returned (.string ⟨#[116, 105, 99, 107, 49, 52]⟩) ∧ w = w' := by
  go_enter Tryd.func6, Tryd.ntmps6
  go_wp2_with (go_in)
  go_ret
  exact ⟨rfl, rfl⟩
theorem rname_14 (w : World) : Calls Tryd.prog 7 #[.int .i64 14] w fun e w' => e = .returned (.string ⟨#[116, 105, 99, 107, 49, 52]⟩) ∧ Below w.heap.size w w' := by
  have hc := conv1 w 52 52 rfl
  go_enter Tryd.func7, Tryd.ntmps7
  go_wp2_with (go_in)
  go_ret
  exact ⟨rfl, by go_grown⟩
set_option maxRecDepth 100000 in
theorem name_15 (w : World) : Calls Tryd.prog 6 #[.int .i64 15] w fun e w' => e = .returned (.string ⟨#[116, 105, 99, 107, 49, 53]⟩) ∧ w = w' := by
  go_enter Tryd.func6, Tryd.ntmps6
  go_wp2_with (go_in)
  go_ret
  exact ⟨rfl, rfl⟩
theorem rname_15 (w : World) : Calls Tryd.prog 7 #[.int .i64 15] w fun e w' => e = .returned (.string ⟨#[116, 105, 99, 107, 49, 53]⟩) ∧ Below w.heap.size w w' := by
  have hc := conv1 w 53 53 rfl
  go_enter Tryd.func7, Tryd.ntmps7
  go_wp2_with (go_in)
  go_ret
  exact ⟨rfl, by go_grown⟩
theorem name_no (k : Int) (h : ¬ (0 < k ∧ k < 16)) (w : World) : Calls Tryd.prog 6 #[.int .i64 k] w fun e w' => e = .returned (.string ⟨#[]⟩) ∧ w = w' := by
  go_enter Tryd.func6, Tryd.ntmps6
  by_cases h1 : 0 < k
  · have h2 : ¬ k < 16 := fun e => h ⟨h1, e⟩
    go_wp2_with (go_in)
    go_ret
    exact ⟨rfl, rfl⟩
  · go_wp2_with (go_in)
    go_ret
    exact ⟨rfl, rfl⟩
theorem rname_no (k : Int) (h : ¬ (0 < k ∧ k < 16)) (w : World) : Calls Tryd.prog 7 #[.int .i64 k] w fun e w' => e = .returned (.string ⟨#[]⟩) ∧ w = w' := by
  go_enter Tryd.func7, Tryd.ntmps7
  by_cases h1 : k < 1
  · go_wp2_with (go_in)
    go_ret
    exact ⟨rfl, rfl⟩
  · have h2 : 15 < k := by omega
    go_wp2_with (go_in)
    go_ret
    exact ⟨rfl, rfl⟩
theorem tick_cases {P : Nat → Prop} (h : P 1 ∧ P 2 ∧ P 3 ∧ P 4 ∧ P 5 ∧ P 6 ∧ P 7 ∧ P 8 ∧ P 9 ∧ P 10 ∧ P 11 ∧ P 12 ∧ P 13 ∧ P 14 ∧ P 15) : ∀ k, 1 ≤ k → k ≤ 15 → P k := by
  intro k h1 h2
  obtain ⟨p1, p2, p3, p4, p5, p6, p7, p8, p9, p10, p11, p12, p13, p14, p15⟩ := h
  have : k = 1 ∨ k = 2 ∨ k = 3 ∨ k = 4 ∨ k = 5 ∨ k = 6 ∨ k = 7 ∨ k = 8 ∨ k = 9 ∨ k = 10 ∨ k = 11 ∨ k = 12 ∨ k = 13 ∨ k = 14 ∨ k = 15 := by omega
  rcases this with rfl | rfl | rfl | rfl | rfl | rfl | rfl | rfl | rfl | rfl | rfl | rfl | rfl | rfl | rfl <;> assumption
theorem tname_any : ∀ k : Nat, 1 ≤ k → k ≤ 15 → ∀ w : World, Calls Tryd.prog 6 #[.int .i64 k] w fun e w' => e = .returned (.string (tickNm k)) ∧ w = w' :=
  tick_cases ⟨name_1, name_2, name_3, name_4, name_5, name_6, name_7, name_8, name_9, name_10, name_11, name_12, name_13, name_14, name_15⟩
theorem trname_any : ∀ k : Nat, 1 ≤ k → k ≤ 15 → ∀ w : World, Calls Tryd.prog 7 #[.int .i64 k] w fun e w' => e = .returned (.string (tickNm k)) ∧ Below w.heap.size w w' :=
  tick_cases ⟨rname_1, rname_2, rname_3, rname_4, rname_5, rname_6, rname_7, rname_8, rname_9, rname_10, rname_11, rname_12, rname_13, rname_14, rname_15⟩
end Go.Proofs.YtgicenbjdadakaaDoor
