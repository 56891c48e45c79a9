/- Several texts in one: TickName, Tick, TickAll, TickAny. -/
import Derived.Test.YtkejnhleajfcjaaGreatDoorGF
import Derived.Test.YtkejnhleajfcjaaGreatDoorGG
import Derived.Test.YtkejnhleajfcjaaGreatDoorProg
import Derived.Handy
import Derived.WalkLawsBesides
import Derived.Deep.QuietTactic
import Derived.BigQuiet
import Derived.Laws.IdiomStrings
import Derived.IntWalk
/- The walks of tick.Name and muntinref09.Name: a handler's name, level by level. -/
namespace Go.Proofs.YtkejnhleajfcjaaGreatDoor
open Go.RowKit
set_option linter.unusedVariables false
/-- The bytes of a handler's name. -/
def tickNm (k : Nat) : ByteArray := ⟨(match k with
  | 1 => #[116, 105, 99, 107, 49]
  | 2 => #[116, 105, 99, 107, 50]
  | 3 => #[116, 105, 99, 107, 51]
  | 4 => #[116, 105, 99, 107, 52]
  | 5 => #[116, 105, 99, 107, 53]
  | 6 => #[116, 105, 99, 107, 54]
  | 7 => #[116, 105, 99, 107, 55]
  | 8 => #[116, 105, 99, 107, 56]
  | 9 => #[116, 105, 99, 107, 57]
  | 10 => #[116, 105, 99, 107, 49, 48]
  | 11 => #[116, 105, 99, 107, 49, 49]
  | 12 => #[116, 105, 99, 107, 49, 50]
  | 13 => #[116, 105, 99, 107, 49, 51]
  | 14 => #[116, 105, 99, 107, 49, 52]
  | 15 => #[116, 105, 99, 107, 49, 53]
  | _ => #[])⟩
theorem conv1 (w : World) (b : UInt8) (n : Int) (hn : n = b.toNat) : (convert 24 9 (.slice (some ⟨w.heap.size, 0, none⟩) 1 1)).run Tryz.prog (w.alloc (.cells #[.int .u8 n] 5)) = .ok (.string ⟨#[b]⟩) (w.alloc (.cells #[.int .u8 n] 5)) := by
  subst hn
  refine run_convert_bytes_back (P := Tryz.prog) (w.alloc (.cells #[.int .u8 b.toNat] 5)) 24 9 5 ⟨w.heap.size, 0, none⟩ 1 [b] Tryz.underlying24 Tryz.underlying5 Tryz.underlying9 (fun j hj => ?_)
  obtain rfl : j = 0 := by simpa using hj
  have : (⟨w.heap.size, 0, none⟩ : Addr).add 0 = ⟨w.heap.size, 0, none⟩ := rfl
  rw [this]
  simp only [World.cell?, heap_alloc_new w _]
  simp
set_option maxRecDepth 100000 in
theorem name_1 (w : World) : Calls Tryz.prog 153 #[.int .i64 1] w fun e w' => e = .returned (.string ⟨#[116, 105, 99, 107, 49]⟩) ∧ w = w' := by
  go_enter Tryz.func153, Tryz.ntmps153
  go_wp2_with (go_in)
  go_ret
  exact ⟨rfl, rfl⟩
set_option maxRecDepth 100000 in
theorem name_2 (w : World) : Calls Tryz.prog 153 #[.int .i64 2] w fun e w' => e = .returned (.string ⟨#[116, 105, 99, 107, 50]⟩) ∧ w = w' := by
  go_enter Tryz.func153, Tryz.ntmps153
  go_wp2_with (go_in)
  go_ret
  exact ⟨rfl, rfl⟩
set_option maxRecDepth 100000 in
theorem name_3 (w : World) : Calls Tryz.prog 153 #[.int .i64 3] w fun e w' => e = .returned (.string ⟨#[116, 105, 99, 107, 51]⟩) ∧ w = w' := by
  go_enter Tryz.func153, Tryz.ntmps153
  go_wp2_with (go_in)
  go_ret
  exact ⟨rfl, rfl⟩
set_option maxRecDepth 100000 in
theorem name_4 (w : World) : Calls Tryz.prog 153 #[.int .i64 4] w fun e w' => e = .returned (.string ⟨#[116, 105, 99, 107, 52]⟩) ∧ w = w' := by
  go_enter Tryz.func153, Tryz.ntmps153
  go_wp2_with (go_in)
  go_ret
  exact ⟨rfl, rfl⟩
set_option maxRecDepth 100000 in
theorem name_5 (w : World) : Calls Tryz.prog 153 #[.int .i64 5] w fun e w' => e = .returned (.string ⟨#[116, 105, 99, 107, 53]⟩) ∧ w = w' := by
  go_enter Tryz.func153, Tryz.ntmps153
  go_wp2_with (go_in)
  go_ret
  exact ⟨rfl, rfl⟩
set_option maxRecDepth 100000 in
theorem name_6 (w : World) : Calls Tryz.prog 153 #[.int .i64 6] w fun e w' => e = .returned (.string ⟨#[116, 105, 99, 107, 54]⟩) ∧ w = w' := by
  go_enter Tryz.func153, Tryz.ntmps153
  go_wp2_with (go_in)
  go_ret
  exact ⟨rfl, rfl⟩
set_option maxRecDepth 100000 in
theorem name_7 (w : World) : Calls Tryz.prog 153 #[.int .i64 7] w fun e w' => e = .returned (.string ⟨#[116, 105, 99, 107, 55]⟩) ∧ w = w' := by
  go_enter Tryz.func153, Tryz.ntmps153
  go_wp2_with (go_in)
  go_ret
  exact ⟨rfl, rfl⟩
set_option maxRecDepth 100000 in
theorem name_8 (w : World) : Calls Tryz.prog 153 #[.int .i64 8] w fun e w' => e = .returned (.string ⟨#[116, 105, 99, 107, 56]⟩) ∧ w = w' := by
  go_enter Tryz.func153, Tryz.ntmps153
  go_wp2_with (go_in)
  go_ret
  exact ⟨rfl, rfl⟩
set_option maxRecDepth 100000 in
theorem name_9 (w : World) : Calls Tryz.prog 153 #[.int .i64 9] w fun e w' => e = .returned (.string ⟨#[116, 105, 99, 107, 57]⟩) ∧ w = w' := by
  go_enter Tryz.func153, Tryz.ntmps153
  go_wp2_with (go_in)
  go_ret
  exact ⟨rfl, rfl⟩
set_option maxRecDepth 100000 in
theorem name_10 (w : World) : Calls Tryz.prog 153 #[.int .i64 10] w fun e w' => e = .returned (.string ⟨#[116, 105, 99, 107, 49, 48]⟩) ∧ w = w' := by
  go_enter Tryz.func153, Tryz.ntmps153
  go_wp2_with (go_in)
  go_ret
  exact ⟨rfl, rfl⟩
set_option maxRecDepth 100000 in
theorem name_11 (w : World) : Calls Tryz.prog 153 #[.int .i64 11] w fun e w' => e = .returned (.string ⟨#[116, 105, 99, 107, 49, 49]⟩) ∧ w = w' := by
  go_enter Tryz.func153, Tryz.ntmps153
  go_wp2_with (go_in)
  go_ret
  exact ⟨rfl, rfl⟩
set_option maxRecDepth 100000 in
theorem name_12 (w : World) : Calls Tryz.prog 153 #[.int .i64 12] w fun e w' => e = .returned (.string ⟨#[116, 105, 99, 107, 49, 50]⟩) ∧ w = w' := by
  go_enter Tryz.func153, Tryz.ntmps153
  go_wp2_with (go_in)
  go_ret
  exact ⟨rfl, rfl⟩
set_option maxRecDepth 100000 in
theorem name_13 (w : World) : Calls Tryz.prog 153 #[.int .i64 13] w fun e w' => e = .returned (.string ⟨#[116, 105, 99, 107, 49, 51]⟩) ∧ w = w' := by
  go_enter Tryz.func153, Tryz.ntmps153
  go_wp2_with (go_in)
  go_ret
  exact ⟨rfl, rfl⟩
set_option maxRecDepth 100000 in
theorem name_14 (w : World) : Calls Tryz.prog 153 #[.int .i64 14] w fun e w' => e = .returned (.string ⟨#[116, 105, 99, 107, 49, 52]⟩) ∧ w = w' := by
  go_enter Tryz.func153, Tryz.ntmps153
  go_wp2_with (go_in)
  go_ret
  exact ⟨rfl, rfl⟩
set_option maxRecDepth 100000 in
theorem name_15 (w : World) : Calls Tryz.prog 153 #[.int .i64 15] w fun e w' => e = .returned (.string ⟨#[116, 105, 99, 107, 49, 53]⟩) ∧ w = w' := by
  go_enter Tryz.func153, Tryz.ntmps153
  go_wp2_with (go_in)
  go_ret
  exact ⟨rfl, rfl⟩
theorem name_no (k : Int) (h : ¬ (0 < k ∧ k < 16)) (w : World) : Calls Tryz.prog 153 #[.int .i64 k] w fun e w' => e = .returned (.string ⟨#[]⟩) ∧ w = w' := by
  go_enter Tryz.func153, Tryz.ntmps153
  by_cases h1 : 0 < k
  · have h2 : ¬ k < 16 := fun e => h ⟨h1, e⟩
    go_wp2_with (go_in)
    go_ret
    exact ⟨rfl, rfl⟩
  · go_wp2_with (go_in)
    go_ret
    exact ⟨rfl, rfl⟩
theorem tick_cases {P : Nat → Prop} (h : P 1 ∧ P 2 ∧ P 3 ∧ P 4 ∧ P 5 ∧ P 6 ∧ P 7 ∧ P 8 ∧ P 9 ∧ P 10 ∧ P 11 ∧ P 12 ∧ P 13 ∧ P 14 ∧ P 15) : ∀ k, 1 ≤ k → k ≤ 15 → P k := by
  intro k h1 h2
  obtain ⟨p1, p2, p3, p4, p5, p6, p7, p8, p9, p10, p11, p12, p13, p14, p15⟩ := h
  have : k = 1 ∨ k = 2 ∨ k = 3 ∨ k = 4 ∨ k = 5 ∨ k = 6 ∨ k = 7 ∨ k = 8 ∨ k = 9 ∨ k = 10 ∨ k = 11 ∨ k = 12 ∨ k = 13 ∨ k = 14 ∨ k = 15 := by omega
  rcases this with rfl | rfl | rfl | rfl | rfl | rfl | rfl | rfl | rfl | rfl | rfl | rfl | rfl | rfl | rfl <;> assumption
theorem tname_any : ∀ k : Nat, 1 ≤ k → k ≤ 15 → ∀ w : World, Calls Tryz.prog 153 #[.int .i64 k] w fun e w' => e = .returned (.string (tickNm k)) ∧ w = w' :=
  tick_cases ⟨name_1, name_2, name_3, name_4, name_5, name_6, name_7, name_8, name_9, name_10, name_11, name_12, name_13, name_14, name_15⟩
end Go.Proofs.YtkejnhleajfcjaaGreatDoor
/- Walks of the package tick: Tick, All. -/
namespace Go.Proofs.YtkejnhleajfcjaaGreatDoor
open Go.RowKit Go.Maps
set_option linter.unusedVariables false
set_option linter.unusedSimpArgs false
/-- A handler's instructions. -/
def tickL (k : Nat) : List Ix := [⟨22, 1, 0, 0, true, 4 * k⟩, ⟨1, 1, 1, 0, true, 1⟩, ⟨23, 1, 0, 0, true, 4 * k⟩, ⟨32, 0, 0, 0, false, 0⟩]
def tickT (k : Nat) : List It := (tickL k).map .put
theorem tick_may : ∀ k, 1 ≤ k → k ≤ 15 → ∀ x ∈ tickL k, mayP x := tick_cases (by decide)
theorem tick_bd (k : Nat) (h : k ≤ 15) : ∀ x ∈ tickL k, x.bd := by
  intro x hx
  simp only [tickL, List.mem_cons, List.not_mem_nil, or_false] at hx
  rcases hx with rfl | rfl | rfl | rfl <;> unfold Ix.bd <;> simp only <;> omega
theorem putL_tick {k : Nat} (h1 : 1 ≤ k) (h2 : k ≤ 15) (L : List It) : putL L (tickL k) = L ++ tickT k ∧ putE (tickL k) = 0 := by
  unfold putL putE
  rw [if_pos (tick_may k h1 h2), if_pos (tick_may k h1 h2)]
  exact ⟨rfl, rfl⟩
theorem tickNm_size : ∀ k, 1 ≤ k → k ≤ 15 → (tickNm k).size ≤ 6 := tick_cases (by decide)
theorem tmay_any (k : Int) (w : World) : Calls Tryz.prog 238 #[.int .i64 k] w fun e w' => e = .returned (.bool (decide (0 < k ∧ k < 16))) ∧ w = w' := by
  by_cases h1 : 0 < k
  · by_cases h2 : k < 16
    · go_enter Tryz.func238, Tryz.ntmps238
      go_wp2_with fail
      go_ret
      exact ⟨by simp [h1, h2], rfl⟩
    · go_enter Tryz.func238, Tryz.ntmps238
      go_wp2_with fail
      go_ret
      exact ⟨by simp [h1, h2], rfl⟩
  · go_enter Tryz.func238, Tryz.ntmps238
    go_wp2_with fail
    go_ret
    exact ⟨by simp; omega, rfl⟩
theorem tick_nil (k : Int) (w : World) : Calls Tryz.prog 152 #[.pointer none, .int .i64 k] w fun e w' => e = .returned (.int .i64 1) ∧ w = w' := by
  go_enter Tryz.func152, Tryz.ntmps152
  go_wp2_with fail
  refine (acopy_none w _ (anone_nil w)).mono ?_
  rintro e w' ⟨rfl, rfl⟩
  go_wp2_with fail
  go_ret
  exact ⟨rfl, rfl⟩
theorem tick_arg (w : World) (p m : Nat) (sv : Value) (K : Nat → Prop) (L : List It) (M : List (List UInt8 × Int)) (h : AsmAt w p sv m K L M) (hL : L.length < 4294967296) (k : Int) (hk : ¬ (0 < k ∧ k < 16)) :
    Calls Tryz.prog 152 #[.pointer (some ⟨p, 0, none⟩), .int .i64 k] w fun e w' => e = .returned (.int .i64 2) ∧ Below w.heap.size w w' := by
  have HC := ahid (acopy_any w p m sv K L M h hL)
  have HK := ahid (show decide (0 < k ∧ k < 16) = false from decide_eq_false hk)
  clear h hL
  go_enter Tryz.func152, Tryz.ntmps152
  go_wp2_with fail
  refine HC.out.mono ?_
  rintro e w1 ⟨p2, v2, m2, rfl, _, _, hb⟩
  go_wp2_with fail
  refine (tmay_any k w1).mono ?_
  rintro e w' ⟨rfl, rfl⟩
  rw [HK.out]
  go_wp2_with fail
  go_ret
  exact ⟨rfl, hb⟩
theorem tick_old (w : World) (p m : Nat) (sv : Value) (K : Nat → Prop) (L : List It) (M : List (List UInt8 × Int)) (h : AsmAt w p sv m K L M) (hL : L.length < 4294967296) (hM : M.length < maxLen) (k : Nat) (h1 : 1 ≤ k) (h2 : k ≤ 15) (hl : (look M (tickNm k).data.toList).isSome = true) :
    Calls Tryz.prog 152 #[.pointer (some ⟨p, 0, none⟩), .int .i64 k] w fun e w' => e = .returned (.int .i64 9) ∧ Below w.heap.size w w' := by
  have HC := ahid (acopy_any w p m sv K L M h hL)
  have HK := ahid (show decide (0 < (k : Int) ∧ (k : Int) < 16) = true from decide_eq_true (by omega))
  have HH := ahid h
  obtain ⟨n, hn⟩ := Option.isSome_iff_exists.1 hl
  have hsz := tickNm_size k h1 h2
  clear h hl
  go_enter Tryz.func152, Tryz.ntmps152
  go_wp2_with fail
  refine HC.out.mono ?_
  rintro e w1 ⟨p2, v2, m2, rfl, _, _, hb⟩
  have HB := ahid hb
  clear hb
  go_wp2_with fail
  refine (tmay_any k w1).mono ?_
  rintro e w' ⟨rfl, rfl⟩
  rw [HK.out]
  go_wp2_with fail
  refine (tname_any k h1 h2 w1).mono ?_
  rintro e w' ⟨rfl, rfl⟩
  go_wp2_with fail
  refine (amark_twice w1 p m sv K L M (HH.out.keep (Only.of_below (S := fun _ => False) HB.out) (fun _ _ h => h) (fun _ _ h => h)) (tickNm k) (by unfold maxLen; omega) n hn).mono ?_
  rintro e w' ⟨rfl, rfl⟩
  go_wp2_with fail
  go_ret
  exact ⟨rfl, HB.out⟩
theorem insIn_tick (w : World) (k : Nat) (h2 : k ≤ 15) : InsIn (w.alloc (.cells #[.int .u8 22, .int .u8 1, .int .u8 0, .int .u8 0, .bool true, .int .i32 (4 * k), .int .u8 1, .int .u8 1, .int .u8 1, .int .u8 0, .bool true, .int .i32 1, .int .u8 23, .int .u8 1, .int .u8 0, .int .u8 0, .bool true, .int .i32 (4 * k), .int .u8 32, .int .u8 0, .int .u8 0, .int .u8 0, .bool false, .int .i32 0] 108)) (.slice (some ⟨w.heap.size, 0, none⟩) 4 4) (tickL k) :=
  InsIn.of_row (l := tickL k) (tick_bd k h2) (by simp [tickL, maxLen]) fun j u hu => by
    simp only [World.cell?, (MapKept.heap_alloc w _).1]
    simpa [Ix.cells, tickL] using hu
set_option maxRecDepth 100000 in
set_option maxHeartbeats 2000000 in
theorem tick_new (w : World) (ht : Tab w) (p m : Nat) (sv : Value) (K : Nat → Prop) (L : List It) (M : List (List UInt8 × Int)) (h : AsmAt w p sv m K L M) (hL : L.length + 4 < 4294967296) (hM : M.length < maxLen) (k : Nat) (h1 : 1 ≤ k) (h2 : k ≤ 15) (hl : look M (tickNm k).data.toList = none) :
    Calls Tryz.prog 152 #[.pointer (some ⟨p, 0, none⟩), .int .i64 k] w fun e w' => e = .returned (.int .i64 0) ∧ StepTo w p sv m K (L ++ tickT k) (M ++ [((tickNm k).data.toList, (L.length : Int))]) w' := by
  have HC := ahid (acopy_any w p m sv K L M h (by omega))
  have HK := ahid (show decide (0 < (k : Int) ∧ (k : Int) < 16) = true from decide_eq_true (by omega))
  have HH := ahid h
  have HT := ahid ht
  have hsz := tickNm_size k h1 h2
  have e64 : wrap64 (4 * (k : Int)) = 4 * (k : Int) := by unfold wrap64; omega
  have e32 : wrap32 (4 * (k : Int)) = 4 * (k : Int) := by unfold wrap32; omega
  clear h ht
  go_enter Tryz.func152, Tryz.ntmps152
  go_wp2_with fail
  refine HC.out.mono ?_
  rintro e w1 ⟨p2, v2, m2, rfl, _, _, hb⟩
  have HB := ahid hb
  clear hb
  go_wp2_with fail
  refine (tmay_any k w1).mono ?_
  rintro e w' ⟨rfl, rfl⟩
  rw [HK.out]
  go_wp2_with fail
  refine (tname_any k h1 h2 w1).mono ?_
  rintro e w' ⟨rfl, rfl⟩
  have H1 := ahid (HH.out.keep (Only.of_below (S := fun _ => False) HB.out) (fun _ _ h => h) (fun _ _ h => h))
  go_wp2_with fail
  refine (amark_new w1 p m sv K L M H1.out (tickNm k) (by unfold maxLen; omega) hM (by omega) hl).mono ?_
  rintro e w2 ⟨rfl, hA, hO⟩
  have HT2 := ahid (show Tab w2 from fun i hi => by
    have h0 := (HT.out.keep HB.out) i hi
    refine (hO.cell (p := ⟨0, i, none⟩) (World.block_lt_of_cell? _ _ h0) ?_).trans h0
    intro e
    obtain ⟨D, ⟨es, cl, hbm, _⟩, _⟩ := H1.out.marks
    rw [World.cell?] at h0
    have e2 : 0 = m := e
    simp [e2, hbm] at h0)
  have HA := ahid hA
  have HO := ahid hO
  clear hA hO
  go_wp2_with fail
  have hba : Below w2.heap.size w2 (w2.alloc (.cells #[.int .u8 22, .int .u8 1, .int .u8 0, .int .u8 0, .bool true, .int .i32 (4 * k), .int .u8 1, .int .u8 1, .int .u8 1, .int .u8 0, .bool true, .int .i32 1, .int .u8 23, .int .u8 1, .int .u8 0, .int .u8 0, .bool true, .int .i32 (4 * k), .int .u8 32, .int .u8 0, .int .u8 0, .int .u8 0, .bool false, .int .i32 0] 108)) := (Below.refl _ _).alloc (Nat.le_refl _) _
  have hin := insIn_tick w2 k h2
  have h4 : (tickL k).length = 4 := rfl
  generalize w2.alloc (.cells #[.int .u8 22, .int .u8 1, .int .u8 0, .int .u8 0, .bool true, .int .i32 (4 * k), .int .u8 1, .int .u8 1, .int .u8 1, .int .u8 0, .bool true, .int .i32 1, .int .u8 23, .int .u8 1, .int .u8 0, .int .u8 0, .bool true, .int .i32 (4 * k), .int .u8 32, .int .u8 0, .int .u8 0, .int .u8 0, .bool false, .int .i32 0] 108) = W at *
  have hAW := HA.out.keep (Only.of_below (S := fun _ => False) hba) (fun _ _ h => h) (fun _ _ h => h)
  refine (aput_any W (HT2.out.keep hba) p m sv K L _ hAW _ (tickL k) hin (by rw [h4]; omega)).mono ?_
  intro e w9 hh
  obtain ⟨rfl, v', K', g1, g2, g3, g4⟩ := put_step hAW hh
  rw [(putL_tick h1 h2 L).1] at g1
  rw [(putL_tick h1 h2 L).2]
  have HF := ahid (show StepTo w p sv m K (L ++ tickT k) (M ++ [((tickNm k).data.toList, (L.length : Int))]) w9 from ⟨v', K', g1, ((((Only.of_below (S := Own p sv m) HB.out).fresh HO.out (fun i _ e => .inr (.inr e)))).fresh (Only.of_below (S := fun _ => False) hba) (fun _ _ h => h.elim)).fresh g2 (fun _ _ h => h), fun i hi => g3 i (Nat.lt_of_lt_of_le hi (Nat.le_trans HB.out.size (Nat.le_trans HO.out.size hba.size))), fun i hi => g4 i (Nat.lt_of_lt_of_le hi (Nat.le_trans HB.out.size (Nat.le_trans HO.out.size hba.size)))⟩)
  clear hh g1 g2 g3 g4
  go_wp2_with fail
  go_ret
  exact ⟨rfl, HF.out⟩
/-- The handlers up to a level, and their marks. -/
def allL : Nat → List It
  | 0 => []
  | k + 1 => allL k ++ tickT (k + 1)
def allM : Nat → List (List UInt8 × Int)
  | 0 => []
  | k + 1 => allM k ++ [((tickNm (k + 1)).data.toList, ((allL k).length : Int))]
theorem all_len : ∀ k, k ≤ 15 → (allL k).length = 4 * k ∧ (allM k).length = k := by decide
theorem all_look : ∀ k, k < 15 → look (allM k) (tickNm (k + 1)).data.toList = none := by decide
theorem all_at : ∀ k, 1 ≤ k → k ≤ 15 → look (allM 15) (tickNm k).data.toList = some (4 * (k - 1 : Nat) : Int) := tick_cases (by decide)
/-- Is any level's name there? -/
def there (M : List (List UInt8 × Int)) (k : Nat) : Bool := (look M (tickNm k).data.toList).isSome
set_option maxRecDepth 100000 in
theorem all1_any (w : World) (cb p m : Nat) (sv : Value) (K : Nat → Prop) (L : List It) (M : List (List UInt8 × Int)) (h : AsmAt w p sv m K L M) (hc : w.cell? ⟨cb, 0, none⟩ = some (.pointer (some ⟨p, 0, none⟩))) (k : Nat) (h1 : 1 ≤ k) (h2 : k ≤ 15) :
    Calls Tryz.prog 241 #[.int .i64 k, .pointer (some ⟨cb, 0, none⟩)] w fun e w' => e = .returned (.int .i64 (if there M k = true then 9 else 0)) ∧ ∃ n, w' = w.drewN n := by
  have hsz := tickNm_size k h1 h2
  have HA := ahid (fun n => show Calls Tryz.prog 115 #[.pointer (some ⟨p, 0, none⟩), .string (tickNm k)] (w.drewN n) fun e w'' => e = .returned (.tuple #[.int .i64 (atN M (tickNm k)), .int .i64 (atE M (tickNm k))]) ∧ ∃ m, w'' = w.drewN m from
    (aat_made (w.drewN n) p m sv K L M (h.keep (Only.of_below (S := fun _ => False) (below_drewN (Below.refl _ _) n)) (fun _ _ h => h) (fun _ _ h => h)) (tickNm k) (by unfold maxLen; omega)).mono fun _ _ ⟨he, hm⟩ => ⟨he, n, hm.symm⟩)
  have HN := ahid (fun n => show Calls Tryz.prog 153 #[.int .i64 k] (w.drewN n) fun e w'' => e = .returned (.string (tickNm k)) ∧ ∃ m, w'' = w.drewN m from
    (tname_any k h1 h2 (w.drewN n)).mono fun _ _ ⟨he, hm⟩ => ⟨he, n, hm.symm⟩)
  clear h
  by_cases ht : there M k = true
  · have he : atE M (tickNm k) = 0 := by unfold atE; exact if_pos ht
    rw [he] at HA
    rw [if_pos ht]
    clear he ht
    generalize atN M (tickNm k) = an at *
    go_enter Tryz.func241, Tryz.ntmps241
    go_wp2_with fail
    go_quiet ((first | (go_at_call 153; exact HN.out _) | (go_at_call 115; exact HA.out _)))
    go_wp2_with fail
    go_ret
    exact ⟨rfl, _, rfl⟩
  · have he : atE M (tickNm k) = 7 := by unfold atE; exact if_neg ht
    rw [he] at HA
    rw [if_neg ht]
    clear he ht
    generalize atN M (tickNm k) = an at *
    go_enter Tryz.func241, Tryz.ntmps241
    go_wp2_with fail
    go_quiet ((first | (go_at_call 153; exact HN.out _) | (go_at_call 115; exact HA.out _)))
    go_wp2_with fail
    go_ret
    exact ⟨rfl, _, rfl⟩
end Go.Proofs.YtkejnhleajfcjaaGreatDoor
/- Walks of the package tick: each, All. -/
namespace Go.Proofs.YtkejnhleajfcjaaGreatDoor
open Go.RowKit Go.Maps
set_option linter.unusedVariables false
set_option linter.unusedSimpArgs false
theorem vcell_new (w : World) (v : Value) (t : TypeId) : (w.alloc (.cells #[v] t)).cell? ⟨w.heap.size, 0, none⟩ = some v := by
  rw [cell_of_obj (heap_alloc_new w (.cells #[v] t))]; rfl
theorem Lst.step {w0 : Nat} {w w2 : World} {p : Nat} {S : Nat → Prop} {L L' : List It} {M M' : List (List UInt8 × Int)} (h : Lst w0 w p S L M) (hw : w0 ≤ w.heap.size) (hst : ∀ sv m K, AsmAt w p sv m K L M → StepTo w p sv m K L' M' w2) :
    ∃ S', Lst w0 w2 p S' L' M' ∧ Only S w w2 ∧ (∀ k, S' k → S k ∨ w.heap.size ≤ k) := by
  obtain ⟨sv, m, K, hA, hO, hK⟩ := h.ex
  exact h.to hw hO hK (hst sv m K hA)
/-- A level's handler is put. -/
theorem tick_lst (w0 : Nat) (w : World) (p : Nat) (S : Nat → Prop) (L : List It) (M : List (List UInt8 × Int)) (h : Lst w0 w p S L M) (hw : w0 ≤ w.heap.size) (ht : TabLo w0 w) (hL : L.length + 4 < 4294967296) (hM : M.length < maxLen) (k : Nat) (h1 : 1 ≤ k) (h2 : k ≤ 15) (hl : look M (tickNm k).data.toList = none) :
    Calls Tryz.prog 152 #[.pointer (some ⟨p, 0, none⟩), .int .i64 k] w fun e w' => e = .returned (.int .i64 0) ∧ ∃ S', Lst w0 w' p S' (L ++ tickT k) (M ++ [((tickNm k).data.toList, (L.length : Int))]) ∧ Only S w w' ∧ (∀ k, S' k → S k ∨ w.heap.size ≤ k) := by
  obtain ⟨sv, m, K, hA, hO, hK⟩ := h.ex
  refine (tick_new w ht.tab p m sv K L M hA hL hM k h1 h2 hl).mono ?_
  rintro e w' ⟨rfl, hst⟩
  exact ⟨rfl, h.to hw hO hK hst⟩
theorem all2_lst (w0 : Nat) (w : World) (cb p : Nat) (S : Nat → Prop) (L : List It) (M : List (List UInt8 × Int)) (h : Lst w0 w p S L M) (hw : w0 ≤ w.heap.size) (ht : TabLo w0 w) (hc : w.cell? ⟨cb, 0, none⟩ = some (.pointer (some ⟨p, 0, none⟩))) (hL : L.length + 4 < 4294967296) (hM : M.length < maxLen) (k : Nat) (h1 : 1 ≤ k) (h2 : k ≤ 15) (hl : look M (tickNm k).data.toList = none) :
    Calls Tryz.prog 242 #[.int .i64 k, .pointer (some ⟨cb, 0, none⟩)] w fun e w' => e = .returned (.int .i64 0) ∧ ∃ S', Lst w0 w' p S' (L ++ tickT k) (M ++ [((tickNm k).data.toList, (L.length : Int))]) ∧ Only S w w' ∧ (∀ k, S' k → S k ∨ w.heap.size ≤ k) := by
  have HT := ahid (tick_lst w0 w p S L M h hw ht hL hM k h1 h2 hl)
  clear h hw ht hL hM hl
  go_enter Tryz.func242, Tryz.ntmps242
  go_wp2_with fail
  refine HT.out.mono ?_
  rintro e w' ⟨rfl, hf⟩
  go_wp2_with fail
  go_ret
  exact ⟨rfl, hf⟩
def anyT (M : List (List UInt8 × Int)) : Bool := (List.range 15).any fun k => there M (k + 1)
def thereE (M : List (List UInt8 × Int)) : Int := if anyT M = true then 9 else 0
set_option maxRecDepth 100000 in
theorem each_there (w : World) (cb p m : Nat) (sv : Value) (K : Nat → Prop) (L : List It) (M : List (List UInt8 × Int)) (h : AsmAt w p sv m K L M) (hc : w.cell? ⟨cb, 0, none⟩ = some (.pointer (some ⟨p, 0, none⟩))) :
    Calls Tryz.prog 240 #[.func (.func 241) #[] #[.pointer (some ⟨cb, 0, none⟩)]] w fun e w' => e = .returned (.int .i64 (thereE M)) ∧ Below w.heap.size w w' := by
  have H := ahid h
  have HC := ahid hc
  clear h hc
  go_enter Tryz.func240, Tryz.ntmps240
  go_wp2_with fail
  go_loopw [5] (fun i wr => ∃ k : Nat, k ≤ 15 ∧ i = .int .i64 k ∧ (∀ j, j < k → there M (j + 1) = false) ∧ Below w.heap.size w wr) (fun i _ => 15 - (intOf i).toNat)
  case atStart => exact ⟨0, by omega, rfl, fun j hj => by omega, Below.refl _ _⟩
  case round =>
    obtain ⟨k, hk, rfl, hno, hb⟩ := hrel
    have HNO := ahid hno
    have HB := ahid hb
    clear hno hb
    by_cases hlt : k < 15
    · have e1 : IntKind.i64.wrap ((k : Int) + 1) = ((k + 1 : Nat) : Int) := by rw [IntWalk.i64_in _ (by omega)]; omega
      have h15 : (k : Int) < 15 := by omega
      have hcall := all1_any wr cb p m sv K L M (H.out.keep (Only.of_below (S := fun _ => False) HB.out) (fun _ _ h => h) (fun _ _ h => h)) ((HB.out.cell (p := ⟨cb, 0, none⟩) (World.block_lt_of_cell? _ _ HC.out)).trans HC.out) (k + 1) (by omega) (by omega)
      by_cases ht : there M (k + 1) = true
      · rw [if_pos ht] at hcall
        have HT := ahid ht
        have HCALL := ahid hcall
        clear hcall ht
        go_wp2_with fail
        refine HCALL.out.mono ?_
        rintro e w' ⟨rfl, n, rfl⟩
        go_wp2_with fail
        go_ret
        have ha : anyT M = true := List.any_eq_true.2 ⟨k, List.mem_range.2 hlt, HT.out⟩
        exact ⟨by rw [show thereE M = 9 from if_pos ha]; rfl, below_drewN HB.out n⟩
      · rw [if_neg ht] at hcall
        have HT := ahid ht
        have HCALL := ahid hcall
        clear hcall ht
        go_wp2_with fail
        refine HCALL.out.mono ?_
        rintro e w' ⟨rfl, n, rfl⟩
        go_wp2_with fail
        refine ⟨⟨k + 1, by omega, by go_num, fun j hj => ?_, below_drewN HB.out n⟩, by simp [intOf]; omega⟩
        rcases Nat.lt_succ_iff_lt_or_eq.1 hj with h | rfl
        · exact HNO.out j h
        · simpa using HT.out
    · obtain rfl : k = 15 := by omega
      go_wp2_with fail
      go_ret
      have ha : ¬ anyT M = true := fun h => by
        obtain ⟨j, hj, hj2⟩ := List.any_eq_true.1 h
        rw [HNO.out j (List.mem_range.1 hj)] at hj2; cases hj2
      exact ⟨by rw [show thereE M = 0 from if_neg ha]; rfl, HB.out⟩
set_option maxRecDepth 100000 in
theorem each_puts (w0 : Nat) (w : World) (cb p : Nat) (S : Nat → Prop) (h : Lst w0 w p S [] []) (hw : w0 ≤ w.heap.size) (ht : TabLo w0 w) (hc : w.cell? ⟨cb, 0, none⟩ = some (.pointer (some ⟨p, 0, none⟩))) (hcb : ¬ S cb) :
    Calls Tryz.prog 240 #[.func (.func 242) #[] #[.pointer (some ⟨cb, 0, none⟩)]] w fun e w' => e = .returned (.int .i64 0) ∧ ∃ S', Lst w0 w' p S' (allL 15) (allM 15) ∧ Only S w w' ∧ (∀ k, S' k → S k ∨ w.heap.size ≤ k) := by
  have H := ahid h
  have HT := ahid ht
  have HC := ahid hc
  clear h ht hc
  go_enter Tryz.func240, Tryz.ntmps240
  go_wp2_with fail
  go_loopw [5] (fun i wr => ∃ (k : Nat) (S' : Nat → Prop), k ≤ 15 ∧ i = .int .i64 k ∧ Lst w0 wr p S' (allL k) (allM k) ∧ Only S w wr ∧ (∀ k, S' k → S k ∨ w.heap.size ≤ k)) (fun i _ => 15 - (intOf i).toNat)
  case atStart => exact ⟨0, S, by omega, rfl, H.out, Only.refl _ _, fun _ h => .inl h⟩
  case round =>
    obtain ⟨k, S1, hk, rfl, hl, ho, hs⟩ := hrel
    have HL := ahid hl
    have HO := ahid ho
    have HS := ahid hs
    clear hl ho hs
    by_cases hlt : k < 15
    · have e1 : IntKind.i64.wrap ((k : Int) + 1) = ((k + 1 : Nat) : Int) := by rw [IntWalk.i64_in _ (by omega)]; omega
      have h15 : (k : Int) < 15 := by omega
      have hlen := all_len k (by omega)
      have hcall := ahid (all2_lst w0 wr cb p S1 (allL k) (allM k) HL.out (Nat.le_trans hw HO.out.size) (HT.out.keepO HO.out (fun j hj => (H.out.lo j hj).1)) ((HO.out.cell (p := ⟨cb, 0, none⟩) (World.block_lt_of_cell? _ _ HC.out) hcb).trans HC.out) (by rw [hlen.1]; omega) (by rw [hlen.2]; unfold maxLen; omega) (k + 1) (by omega) (by omega) (all_look k hlt))
      clear hlen
      go_wp2_with fail
      refine hcall.out.mono ?_
      rintro e w' ⟨rfl, S2, hl2, ho2, hs2⟩
      have HF := ahid (And.intro hl2 (And.intro ho2 hs2))
      clear hl2 ho2 hs2
      go_wp2_with fail
      refine ⟨⟨k + 1, S2, by omega, by go_num, HF.out.1, HO.out.fresh HF.out.2.1 (fun i hi hh => ?_), fun i hi => ?_⟩, by simp [intOf]; omega⟩
      · rcases HS.out i hh with h | h
        · exact h
        · omega
      · rcases HF.out.2.2 i hi with h | h
        · exact HS.out i h
        · exact .inr (Nat.le_trans HO.out.size h)
    · obtain rfl : k = 15 := by omega
      go_wp2_with fail
      go_ret
      exact ⟨rfl, S1, HL.out, HO.out, HS.out⟩
theorem all_nil (w : World) : Calls Tryz.prog 154 #[.pointer none] w fun e w' => e = .returned (.int .i64 1) ∧ Below w.heap.size w w' := by
  go_enter Tryz.func154, Tryz.ntmps154
  go_wp2_with fail
  refine (acopy_none _ _ (anone_nil _)).mono ?_
  rintro e w' ⟨rfl, rfl⟩
  go_wp2_with fail
  go_ret
  exact ⟨rfl, (Below.refl _ _).alloc (Nat.le_refl _) _⟩
theorem all_there (w : World) (p m : Nat) (sv : Value) (K : Nat → Prop) (L : List It) (M : List (List UInt8 × Int)) (h : AsmAt w p sv m K L M) (hL : L.length < 4294967296) (ha : anyT M = true) :
    Calls Tryz.prog 154 #[.pointer (some ⟨p, 0, none⟩)] w fun e w' => e = .returned (.int .i64 9) ∧ Below w.heap.size w w' := by
  have HB0 := ahid (show Below w.heap.size w (w.alloc (.cells #[.pointer (some ⟨p, 0, none⟩)] 119)) from (Below.refl _ _).alloc (Nat.le_refl _) _)
  have HC0 := ahid ((vcell_new w (.pointer (some ⟨p, 0, none⟩)) 119))
  have H := ahid h
  clear h
  go_enter Tryz.func154, Tryz.ntmps154
  go_wp2_with fail
  generalize w.alloc (.cells #[.pointer (some ⟨p, 0, none⟩)] 119) = W at *
  have hA := H.out.keep (Only.of_below (S := fun _ => False) HB0.out) (fun _ _ h => h) (fun _ _ h => h)
  refine (acopy_any W p m sv K L M hA hL).mono ?_
  rintro e w2 ⟨p2, v2, m2, rfl, _, _, hb2⟩
  have HA2 := ahid (hA.keep (Only.of_below (S := fun _ => False) hb2) (fun _ _ h => h) (fun _ _ h => h))
  have HB2 := ahid (HB0.out.trans (hb2.mono HB0.out.size))
  have hc2 := (hb2.cell (p := ⟨w.heap.size, 0, none⟩) (World.block_lt_of_cell? _ _ HC0.out)).trans HC0.out
  clear hb2 hA HB0 HC0
  have HE := each_there w2 w.heap.size p m sv K L M HA2.out hc2
  rw [show thereE M = 9 from if_pos ha] at HE
  replace HE := ahid HE
  go_wp2_with fail
  refine HE.out.mono ?_
  rintro e w3 ⟨rfl, hb3⟩
  go_wp2_with fail
  go_ret
  exact ⟨rfl, HB2.out.trans (hb3.mono HB2.out.size)⟩
theorem all_lst (w0 : Nat) (w : World) (p : Nat) (S : Nat → Prop) (h : Lst w0 w p S [] []) (hw : w0 ≤ w.heap.size) (ht : TabLo w0 w) :
    Calls Tryz.prog 154 #[.pointer (some ⟨p, 0, none⟩)] w fun e w' => e = .returned (.int .i64 0) ∧ ∃ S', Lst w0 w' p S' (allL 15) (allM 15) ∧ Only S w w' ∧ (∀ k, S' k → S k ∨ w.heap.size ≤ k) := by
  have HB0 := ahid (show Below w.heap.size w (w.alloc (.cells #[.pointer (some ⟨p, 0, none⟩)] 119)) from (Below.refl _ _).alloc (Nat.le_refl _) _)
  have HC0 := ahid ((vcell_new w (.pointer (some ⟨p, 0, none⟩)) 119))
  have H := ahid h
  have HT := ahid ht
  clear h ht
  go_enter Tryz.func154, Tryz.ntmps154
  go_wp2_with fail
  generalize w.alloc (.cells #[.pointer (some ⟨p, 0, none⟩)] 119) = W at *
  have hl := H.out.keepb HB0.out
  obtain ⟨sv, m, K, hA, hO, hK⟩ := hl.ex
  refine (acopy_any W p m sv K [] [] hA (by simp)).mono ?_
  rintro e w2 ⟨p2, v2, m2, rfl, _, _, hb2⟩
  have hA2 := (hA.keep (Only.of_below (S := fun _ => False) hb2) (fun _ _ h => h) (fun _ _ h => h))
  have hB2 := HB0.out.trans (hb2.mono HB0.out.size)
  have hc2 := (hb2.cell (p := ⟨w.heap.size, 0, none⟩) (World.block_lt_of_cell? _ _ HC0.out)).trans HC0.out
  have HE := each_there w2 w.heap.size p m sv K [] [] hA2 hc2
  rw [show thereE [] = 0 by decide] at HE
  replace HE := ahid HE
  have HB2 := ahid hB2
  have HC2 := ahid hc2
  clear hb2 hA hA2 HB0 HC0 hO hK hl hB2 hc2
  go_wp2_with fail
  refine HE.out.mono ?_
  rintro e w3 ⟨rfl, hb3⟩
  have HB3 := ahid (HB2.out.trans (hb3.mono HB2.out.size))
  have HP := ahid (each_puts w0 w3 w.heap.size p S (H.out.keepb HB3.out) (Nat.le_trans hw HB3.out.size) (HT.out.keepb HB3.out) ((hb3.cell (p := ⟨w.heap.size, 0, none⟩) (World.block_lt_of_cell? _ _ HC2.out)).trans HC2.out) (fun hs => by have := (H.out.lo _ hs).2; omega))
  clear hb3
  go_wp2_with fail
  refine HP.out.mono ?_
  rintro e w4 ⟨rfl, S', h1, h2, h3⟩
  go_wp2_with fail
  go_ret
  refine ⟨rfl, S', h1, (Only.of_below HB3.out).fresh h2 (fun _ _ h => h), fun k hk => ?_⟩
  rcases h3 k hk with h | h
  · exact .inl h
  · exact .inr (Nat.le_trans HB3.out.size h)
end Go.Proofs.YtkejnhleajfcjaaGreatDoor
/- tick.All on any list without its names. -/
namespace Go.Proofs.YtkejnhleajfcjaaGreatDoor
open Go.RowKit Go.Maps
set_option linter.unusedVariables false
set_option linter.unusedSimpArgs false
def nmTick (k : Nat) : List UInt8 := (tickNm k).data.toList
def Bs.ticks (s : Bs) : Nat → Bs
  | 0 => s
  | k + 1 => ((s.ticks k).mark (nmTick (k + 1))).put (tickL (k + 1))
def noT (M : List (List UInt8 × Int)) : Prop := ∀ k, 1 ≤ k → k ≤ 15 → look M (nmTick k) = none
theorem tick_apart : ∀ i : Nat, i < 16 → ∀ j : Nat, j < 16 → 1 ≤ i → i < j → nmTick i ≠ nmTick j := by decide
theorem ticks_look (s : Bs) (h : noT s.M) : ∀ k, k ≤ 15 → ∀ j, k < j → j ≤ 15 → look (s.ticks k).M (nmTick j) = none
  | 0, _, j, h1, h2 => h j (by omega) h2
  | k + 1, hk, j, h1, h2 => by
    have ih := ticks_look s h k (by omega) j (by omega) h2
    show look ((s.ticks k).M ++ [(nmTick (k + 1), ((s.ticks k).L.length : Int))]) (nmTick j) = none
    rw [look_snoc, ih]
    simp only
    rw [if_neg (tick_apart (k + 1) (by omega) j (by omega) (by omega) (by omega))]
theorem ticks_len (s : Bs) : ∀ k, (s.ticks k).L.length = s.L.length + 4 * k ∧ (s.ticks k).M.length = s.M.length + k
  | 0 => ⟨rfl, rfl⟩
  | k + 1 => by
    obtain ⟨h1, h2⟩ := ticks_len s k
    constructor
    · show (((s.ticks k).mark _).put (tickL (k + 1))).L.length = _
      rw [Bs.put_len]
      show (s.ticks k).L.length + 4 = _
      omega
    · show ((s.ticks k).M ++ [_]).length = _
      rw [List.length_append, h2]; rfl
set_option maxRecDepth 100000 in
theorem each_ticks {W w : World} {pa cb : Nat} {S : Nat → Prop} {s : Bs} (h : BsAt W w pa S s) (hc : w.cell? ⟨cb, 0, none⟩ = some (.pointer (some ⟨pa, 0, none⟩))) (hcb : ¬ S cb) (hno : noT s.M) (hL : s.L.length + 100 < 4294967296) (hM : s.M.length + 20 < 4294967296) :
    Calls Tryz.prog 240 #[.func (.func 242) #[] #[.pointer (some ⟨cb, 0, none⟩)]] w fun e w' => e = .returned (.int .i64 0) ∧ BsGo W w pa S (s.ticks 15) w' := by
  have H := ahid h
  have HC := ahid hc
  have HNO := ahid (ticks_look s hno)
  have HLN := ahid (ticks_len s)
  clear h hc hno
  go_enter Tryz.func240, Tryz.ntmps240
  go_wp2_with fail
  go_loopw [5] (fun i wr => ∃ k : Nat, k ≤ 15 ∧ i = .int .i64 k ∧ Hid (BsGo W w pa S (s.ticks k) wr)) (fun i _ => 15 - (intOf i).toNat)
  case atStart => exact ⟨0, by omega, rfl, ahid (BsGo.same H.out)⟩
  case round =>
    obtain ⟨k, hk, rfl, hg⟩ := hrel
    have HG := ahid hg.out
    clear hg
    by_cases hlt : k < 15
    · have e1 : IntKind.i64.wrap ((k : Int) + 1) = ((k + 1 : Nat) : Int) := by rw [IntWalk.i64_in _ (by omega)]; omega
      have h15 : (k : Int) < 15 := by omega
      obtain ⟨S1, h1, o1, r1⟩ := HG.out
      have hlen := HLN.out k
      have hcall := ahid (all2_lst W.heap.size wr cb pa S1 (s.ticks k).L (s.ticks k).M h1.lst h1.bel.size h1.tab ((o1.cell (p := ⟨cb, 0, none⟩) (World.block_lt_of_cell? _ _ HC.out) hcb).trans HC.out) (by rw [hlen.1]; omega) (by rw [hlen.2]; unfold maxLen; omega) (k + 1) (by omega) (by omega) (HNO.out k hk (k + 1) (by omega) (by omega)))
      have H1 := ahid h1
      clear hlen h1
      go_wp2_with fail
      refine hcall.out.mono ?_
      rintro e w' ⟨rfl, hg⟩
      have HN := ahid (show BsGo W w pa S (s.ticks (k + 1)) w' from BsGo.then o1 r1 (H1.out.step (s' := s.ticks (k + 1)) hg))
      clear hg
      go_wp2_with fail
      exact ⟨⟨k + 1, by omega, by go_num, ahid HN.out⟩, by simp [intOf]; omega⟩
    · obtain rfl : k = 15 := by omega
      go_wp2_with fail
      go_ret
      exact ⟨rfl, HG.out⟩
theorem bs_copy2 {W w : World} {pa : Nat} {S : Nat → Prop} {s : Bs} (h : BsAt W w pa S s) (hL : s.L.length < 4294967296) :
    Calls Tryz.prog 131 #[.pointer (some ⟨pa, 0, none⟩)] w fun e w' => (∃ q, e = .returned (.pointer (some ⟨q, 0, none⟩))) ∧ Below w.heap.size w w' := by
  obtain ⟨sv, m, K, hA, hO, hK⟩ := h.lst.ex
  refine (acopy_any w pa m sv K s.L s.M hA hL).mono ?_
  rintro e w' ⟨p, v, m', rfl, -, -, hb⟩
  exact ⟨⟨p, rfl⟩, hb⟩
theorem ticks_any {W w : World} {pa : Nat} {S : Nat → Prop} {s : Bs} (h : BsAt W w pa S s) (hno : noT s.M) (hL : s.L.length + 100 < 4294967296) (hM : s.M.length + 20 < 4294967296) :
    Calls Tryz.prog 154 #[.pointer (some ⟨pa, 0, none⟩)] w fun e w' => e = .returned (.int .i64 0) ∧ BsGo W w pa S (s.ticks 15) w' := by
  have HB0 := ahid (show Below w.heap.size w (w.alloc (.cells #[.pointer (some ⟨pa, 0, none⟩)] 119)) from (Below.refl _ _).alloc (Nat.le_refl _) _)
  have HC0 := ahid ((vcell_new w (.pointer (some ⟨pa, 0, none⟩)) 119))
  have H := ahid h
  have HNO := ahid hno
  have HTE := ahid (show thereE s.M = 0 from if_neg (fun ha => by
    obtain ⟨j, hj, hj2⟩ := List.any_eq_true.1 ha
    have hj2 : (look s.M (nmTick (j + 1))).isSome = true := hj2
    rw [hno (j + 1) (by omega) (by have := List.mem_range.1 hj; omega)] at hj2
    cases hj2))
  clear h hno
  go_enter Tryz.func154, Tryz.ntmps154
  go_wp2_with fail
  generalize w.alloc (.cells #[.pointer (some ⟨pa, 0, none⟩)] 119) = W1 at *
  refine (bs_copy2 (H.out.keepb HB0.out) (by omega)).mono ?_
  rintro e w2 ⟨⟨q, rfl⟩, hb2⟩
  have HB2 := ahid (HB0.out.trans (hb2.mono HB0.out.size))
  have HC2 := ahid ((hb2.cell (p := ⟨w.heap.size, 0, none⟩) (World.block_lt_of_cell? _ _ HC0.out)).trans HC0.out)
  clear hb2
  obtain ⟨sv, m, K, hA, hO, hK⟩ := (H.out.keepb HB2.out).lst.ex
  have HE := each_there w2 w.heap.size pa m sv K s.L s.M hA HC2.out
  rw [HTE.out] at HE
  replace HE := ahid HE
  clear hA hO hK HB0 HC0
  go_wp2_with fail
  refine HE.out.mono ?_
  rintro e w3 ⟨rfl, hb3⟩
  have HB3 := ahid (HB2.out.trans (hb3.mono HB2.out.size))
  have HP := ahid (each_ticks (H.out.keepb HB3.out) ((hb3.cell (p := ⟨w.heap.size, 0, none⟩) (World.block_lt_of_cell? _ _ HC2.out)).trans HC2.out) (fun hs => by have := (H.out.lst.lo _ hs).2; omega) HNO.out hL hM)
  clear hb3
  go_wp2_with fail
  refine HP.out.mono ?_
  rintro e w4 ⟨rfl, hg⟩
  have HG := ahid (hg.behind HB3.out)
  clear hg
  go_wp2_with fail
  go_ret
  exact ⟨rfl, HG.out⟩
end Go.Proofs.YtkejnhleajfcjaaGreatDoor
