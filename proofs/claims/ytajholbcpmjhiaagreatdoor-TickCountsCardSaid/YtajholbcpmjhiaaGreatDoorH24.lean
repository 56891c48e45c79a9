/- Several texts in one: TickName, Tick, TickLaw. -/
import Derived.Test.YtajholbcpmjhiaaGreatDoorH23
import Derived.Laws.IdiomStrings
set_option linter.unusedVariables false
set_option linter.unusedSimpArgs false
/- The walks of tick.Name and muntinref09.Name: a handler's name, level by level. -/
namespace Go.Proofs.YtajholbcpmjhiaaGreatDoor
open Go.RowKit
def tickNm (k : Nat) : ByteArray := ⟨(match k with
  | 1 => #[116, 105, 99, 107, 49]
  | 2 => #[116, 105, 99, 107, 50]
  | 3 => #[116, 105, 99, 107, 51]
  | 4 => #[116, 105, 99, 107, 52]
  | 5 => #[116, 105, 99, 107, 53]
  | 6 => #[116, 105, 99, 107, 54]
  | 7 => #[116, 105, 99, 107, 55]
  | 8 => #[116, 105, 99, 107, 56]
  | 9 => #[116, 105, 99, 107, 57]
  | 10 => #[116, 105, 99, 107, 49, 48]
  | 11 => #[116, 105, 99, 107, 49, 49]
  | 12 => #[116, 105, 99, 107, 49, 50]
  | 13 => #[116, 105, 99, 107, 49, 51]
  | 14 => #[116, 105, 99, 107, 49, 52]
  | 15 => #[116, 105, 99, 107, 49, 53]
  | _ => #[])⟩
set_option maxRecDepth 100000 in
theorem name_1 (w : World) : Calls Tryz.prog 105 #[.int .i64 1] w fun e w' => e = .returned (.string ⟨#[116, 105, 99, 107, 49]⟩) ∧ w = w' := by
  go_enter Tryz.func105, Tryz.ntmps105
  go_wp2_with (go_in)
  go_ret
  exact ⟨rfl, rfl⟩
set_option maxRecDepth 100000 in
theorem name_2 (w : World) : Calls Tryz.prog 105 #[.int .i64 2] w fun e w' => e = .returned (.string ⟨#[116, 105, 99, 107, 50]⟩) ∧ w = w' := by
  go_enter Tryz.func105, Tryz.ntmps105
  go_wp2_with (go_in)
  go_ret
  exact ⟨rfl, rfl⟩
set_option maxRecDepth 100000 in
theorem name_3 (w : World) : Calls Tryz.prog 105 #[.int .i64 3] w fun e w' => e = .returned (.string ⟨#[116, 105, 99, 107, 51]⟩) ∧ w = w' := by
  go_enter Tryz.func105, Tryz.ntmps105
  go_wp2_with (go_in)
  go_ret
  exact ⟨rfl, rfl⟩
set_option maxRecDepth 100000 in
theorem name_4 (w : World) : Calls Tryz.prog 105 #[.int .i64 4] w fun e w' => e = .returned (.string ⟨#[116, 105, 99, 107, 52]⟩) ∧ w = w' := by
  go_enter Tryz.func105, Tryz.ntmps105
  go_wp2_with (go_in)
  go_ret
  exact ⟨rfl, rfl⟩
set_option maxRecDepth 100000 in
theorem name_5 (w : World) : Calls Tryz.prog 105 #[.int .i64 5] w fun e w' => e = .returned (.string ⟨#[116, 105, 99, 107, 53]⟩) ∧ w = w' := by
  go_enter Tryz.func105, Tryz.ntmps105
  go_wp2_with (go_in)
  go_ret
  exact ⟨rfl, rfl⟩
set_option maxRecDepth 100000 in
theorem name_6 (w : World) : Calls Tryz.prog 105 #[.int .i64 6] w fun e w' => e = .returned (.string ⟨#[116, 105, 99, 107, 54]⟩) ∧ w = w' := by
  go_enter Tryz.func105, Tryz.ntmps105
  go_wp2_with (go_in)
  go_ret
  exact ⟨rfl, rfl⟩
set_option maxRecDepth 100000 in
theorem name_7 (w : World) : Calls Tryz.prog 105 #[.int .i64 7] w fun e w' => e = .returned (.string ⟨#[116, 105, 99, 107, 55]⟩) ∧ w = w' := by
  go_enter Tryz.func105, Tryz.ntmps105
  go_wp2_with (go_in)
  go_ret
  exact ⟨rfl, rfl⟩
set_option maxRecDepth 100000 in
theorem name_8 (w : World) : Calls Tryz.prog 105 #[.int .i64 8] w fun e w' => e = .returned (.string ⟨#[116, 105, 99, 107, 56]⟩) ∧ w = w' := by
  go_enter Tryz.func105, Tryz.ntmps105
  go_wp2_with (go_in)
  go_ret
  exact ⟨rfl, rfl⟩
set_option maxRecDepth 100000 in
theorem name_9 (w : World) : Calls Tryz.prog 105 #[.int .i64 9] w fun e w' => e = .returned (.string ⟨#[116, 105, 99, 107, 57]⟩) ∧ w = w' := by
  go_enter Tryz.func105, Tryz.ntmps105
  go_wp2_with (go_in)
  go_ret
  exact ⟨rfl, rfl⟩
set_option maxRecDepth 100000 in
theorem name_10 (w : World) : Calls Tryz.prog 105 #[.int .i64 10] w fun e w' => e = .returned (.string ⟨#[116, 105, 99, 107, 49, 48]⟩) ∧ w = w' := by
  go_enter Tryz.func105, Tryz.ntmps105
  go_wp2_with (go_in)
  go_ret
  exact ⟨rfl, rfl⟩
set_option maxRecDepth 100000 in
theorem name_11 (w : World) : Calls Tryz.prog 105 #[.int .i64 11] w fun e w' => e = .returned (.string ⟨#[116, 105, 99, 107, 49, 49]⟩) ∧ w = w' := by
  go_enter Tryz.func105, Tryz.ntmps105
  go_wp2_with (go_in)
  go_ret
  exact ⟨rfl, rfl⟩
set_option maxRecDepth 100000 in
theorem name_12 (w : World) : Calls Tryz.prog 105 #[.int .i64 12] w fun e w' => e = .returned (.string ⟨#[116, 105, 99, 107, 49, 50]⟩) ∧ w = w' := by
  go_enter Tryz.func105, Tryz.ntmps105
  go_wp2_with (go_in)
  go_ret
  exact ⟨rfl, rfl⟩
set_option maxRecDepth 100000 in
theorem name_13 (w : World) : Calls Tryz.prog 105 #[.int .i64 13] w fun e w' => e = .returned (.string ⟨#[116, 105, 99, 107, 49, 51]⟩) ∧ w = w' := by
  go_enter Tryz.func105, Tryz.ntmps105
  go_wp2_with (go_in)
  go_ret
  exact ⟨rfl, rfl⟩
set_option maxRecDepth 100000 in
theorem name_14 (w : World) : Calls Tryz.prog 105 #[.int .i64 14] w fun e w' => e = .returned (.string ⟨#[116, 105, 99, 107, 49, 52]⟩) ∧ w = w' := by
  go_enter Tryz.func105, Tryz.ntmps105
  go_wp2_with (go_in)
  go_ret
  exact ⟨rfl, rfl⟩
set_option maxRecDepth 100000 in
theorem name_15 (w : World) : Calls Tryz.prog 105 #[.int .i64 15] w fun e w' => e = .returned (.string ⟨#[116, 105, 99, 107, 49, 53]⟩) ∧ w = w' := by
  go_enter Tryz.func105, Tryz.ntmps105
  go_wp2_with (go_in)
  go_ret
  exact ⟨rfl, rfl⟩
theorem name_no (k : Int) (h : ¬ (0 < k ∧ k < 16)) (w : World) : Calls Tryz.prog 105 #[.int .i64 k] w fun e w' => e = .returned (.string ⟨#[]⟩) ∧ w = w' := by
  go_enter Tryz.func105, Tryz.ntmps105
  by_cases h1 : 0 < k
  · have h2 : ¬ k < 16 := fun e => h ⟨h1, e⟩
    go_wp2_with (go_in)
    go_ret
    exact ⟨rfl, rfl⟩
  · go_wp2_with (go_in)
    go_ret
    exact ⟨rfl, rfl⟩
theorem tick_cases {P : Nat → Prop} (h : P 1 ∧ P 2 ∧ P 3 ∧ P 4 ∧ P 5 ∧ P 6 ∧ P 7 ∧ P 8 ∧ P 9 ∧ P 10 ∧ P 11 ∧ P 12 ∧ P 13 ∧ P 14 ∧ P 15) : ∀ k, 1 ≤ k → k ≤ 15 → P k := by
  intro k h1 h2
  obtain ⟨p1, p2, p3, p4, p5, p6, p7, p8, p9, p10, p11, p12, p13, p14, p15⟩ := h
  have : k = 1 ∨ k = 2 ∨ k = 3 ∨ k = 4 ∨ k = 5 ∨ k = 6 ∨ k = 7 ∨ k = 8 ∨ k = 9 ∨ k = 10 ∨ k = 11 ∨ k = 12 ∨ k = 13 ∨ k = 14 ∨ k = 15 := by omega
  rcases this with rfl | rfl | rfl | rfl | rfl | rfl | rfl | rfl | rfl | rfl | rfl | rfl | rfl | rfl | rfl <;> assumption
theorem tname_any : ∀ k : Nat, 1 ≤ k → k ≤ 15 → ∀ w : World, Calls Tryz.prog 105 #[.int .i64 k] w fun e w' => e = .returned (.string (tickNm k)) ∧ w = w' :=
  tick_cases ⟨name_1, name_2, name_3, name_4, name_5, name_6, name_7, name_8, name_9, name_10, name_11, name_12, name_13, name_14, name_15⟩
end Go.Proofs.YtajholbcpmjhiaaGreatDoor
/- Walks of the package tick: Tick, All. -/
namespace Go.Proofs.YtajholbcpmjhiaaGreatDoor
open Go.RowKit Go.Maps
def tickL (k : Nat) : List Ix := [⟨22, 1, 0, 0, true, 4 * k⟩, ⟨1, 1, 1, 0, true, 1⟩, ⟨23, 1, 0, 0, true, 4 * k⟩, ⟨32, 0, 0, 0, false, 0⟩]
def tickT (k : Nat) : List It := (tickL k).map .put
theorem tick_may : ∀ k, 1 ≤ k → k ≤ 15 → ∀ x ∈ tickL k, mayP x := tick_cases (by decide)
theorem tick_bd (k : Nat) (h : k ≤ 15) : ∀ x ∈ tickL k, x.bd := by
  intro x hx
  simp only [tickL, List.mem_cons, List.not_mem_nil, or_false] at hx
  rcases hx with rfl | rfl | rfl | rfl <;> unfold Ix.bd <;> simp only <;> omega
theorem putL_tick {k : Nat} (h1 : 1 ≤ k) (h2 : k ≤ 15) (L : List It) : putL L (tickL k) = L ++ tickT k ∧ putE (tickL k) = 0 := by
  unfold putL putE
  rw [if_pos (tick_may k h1 h2), if_pos (tick_may k h1 h2)]
  exact ⟨rfl, rfl⟩
theorem tickNm_size : ∀ k, 1 ≤ k → k ≤ 15 → (tickNm k).size ≤ 6 := tick_cases (by decide)
theorem tmay_any (k : Int) (w : World) : Calls Tryz.prog 151 #[.int .i64 k] w fun e w' => e = .returned (.bool (decide (0 < k ∧ k < 16))) ∧ w = w' := by
  by_cases h1 : 0 < k
  · by_cases h2 : k < 16
    · go_enter Tryz.func151, Tryz.ntmps151
      go_wp2_with fail
      go_ret
      exact ⟨by simp [h1, h2], rfl⟩
    · go_enter Tryz.func151, Tryz.ntmps151
      go_wp2_with fail
      go_ret
      exact ⟨by simp [h1, h2], rfl⟩
  · go_enter Tryz.func151, Tryz.ntmps151
    go_wp2_with fail
    go_ret
    exact ⟨by simp; omega, rfl⟩
theorem tick_nil (k : Int) (w : World) : Calls Tryz.prog 104 #[.pointer none, .int .i64 k] w fun e w' => e = .returned (.int .i64 1) ∧ w = w' := by
  go_enter Tryz.func104, Tryz.ntmps104
  go_wp2_with fail
  refine (acopy_none w _ (anone_nil w)).mono ?_
  rintro e w' ⟨rfl, rfl⟩
  go_wp2_with fail
  go_ret
  exact ⟨rfl, rfl⟩
theorem tick_arg (w : World) (p m : Nat) (sv : Value) (K : Nat → Prop) (L : List It) (M : List (List UInt8 × Int)) (h : AsmAt w p sv m K L M) (hL : L.length < 4294967296) (k : Int) (hk : ¬ (0 < k ∧ k < 16)) :
    Calls Tryz.prog 104 #[.pointer (some ⟨p, 0, none⟩), .int .i64 k] w fun e w' => e = .returned (.int .i64 2) ∧ Below w.heap.size w w' := by
  have HC := ahid (acopy_any w p m sv K L M h hL)
  have HK := ahid (show decide (0 < k ∧ k < 16) = false from decide_eq_false hk)
  clear h hL
  go_enter Tryz.func104, Tryz.ntmps104
  go_wp2_with fail
  refine HC.out.mono ?_
  rintro e w1 ⟨p2, v2, m2, rfl, _, _, hb⟩
  go_wp2_with fail
  refine (tmay_any k w1).mono ?_
  rintro e w' ⟨rfl, rfl⟩
  rw [HK.out]
  go_wp2_with fail
  go_ret
  exact ⟨rfl, hb⟩
theorem tick_old (w : World) (p m : Nat) (sv : Value) (K : Nat → Prop) (L : List It) (M : List (List UInt8 × Int)) (h : AsmAt w p sv m K L M) (hL : L.length < 4294967296) (hM : M.length < maxLen) (k : Nat) (h1 : 1 ≤ k) (h2 : k ≤ 15) (hl : (look M (tickNm k).data.toList).isSome = true) :
    Calls Tryz.prog 104 #[.pointer (some ⟨p, 0, none⟩), .int .i64 k] w fun e w' => e = .returned (.int .i64 9) ∧ Below w.heap.size w w' := by
  have HC := ahid (acopy_any w p m sv K L M h hL)
  have HK := ahid (show decide (0 < (k : Int) ∧ (k : Int) < 16) = true from decide_eq_true (by omega))
  have HH := ahid h
  obtain ⟨n, hn⟩ := Option.isSome_iff_exists.1 hl
  have hsz := tickNm_size k h1 h2
  clear h hl
  go_enter Tryz.func104, Tryz.ntmps104
  go_wp2_with fail
  refine HC.out.mono ?_
  rintro e w1 ⟨p2, v2, m2, rfl, _, _, hb⟩
  have HB := ahid hb
  clear hb
  go_wp2_with fail
  refine (tmay_any k w1).mono ?_
  rintro e w' ⟨rfl, rfl⟩
  rw [HK.out]
  go_wp2_with fail
  refine (tname_any k h1 h2 w1).mono ?_
  rintro e w' ⟨rfl, rfl⟩
  go_wp2_with fail
  refine (amark_twice w1 p m sv K L M (HH.out.keep (Only.of_below (S := fun _ => False) HB.out) (fun _ _ h => h) (fun _ _ h => h)) (tickNm k) (by unfold maxLen; omega) n hn).mono ?_
  rintro e w' ⟨rfl, rfl⟩
  go_wp2_with fail
  go_ret
  exact ⟨rfl, HB.out⟩
theorem insIn_tick (w : World) (k : Nat) (h2 : k ≤ 15) : InsIn (w.alloc (.cells #[.int .u8 22, .int .u8 1, .int .u8 0, .int .u8 0, .bool true, .int .i32 (4 * k), .int .u8 1, .int .u8 1, .int .u8 1, .int .u8 0, .bool true, .int .i32 1, .int .u8 23, .int .u8 1, .int .u8 0, .int .u8 0, .bool true, .int .i32 (4 * k), .int .u8 32, .int .u8 0, .int .u8 0, .int .u8 0, .bool false, .int .i32 0] 41)) (.slice (some ⟨w.heap.size, 0, none⟩) 4 4) (tickL k) :=
  InsIn.of_row (l := tickL k) (tick_bd k h2) (by simp [tickL, maxLen]) fun j u hu => by
    simp only [World.cell?, (MapKept.heap_alloc w _).1]
    simpa [Ix.cells, tickL] using hu
set_option maxRecDepth 100000 in
set_option maxHeartbeats 2000000 in
theorem tick_new (w : World) (ht : Tab w) (p m : Nat) (sv : Value) (K : Nat → Prop) (L : List It) (M : List (List UInt8 × Int)) (h : AsmAt w p sv m K L M) (hL : L.length + 4 < 4294967296) (hM : M.length < maxLen) (k : Nat) (h1 : 1 ≤ k) (h2 : k ≤ 15) (hl : look M (tickNm k).data.toList = none) :
    Calls Tryz.prog 104 #[.pointer (some ⟨p, 0, none⟩), .int .i64 k] w fun e w' => e = .returned (.int .i64 0) ∧ StepTo w p sv m K (L ++ tickT k) (M ++ [((tickNm k).data.toList, (L.length : Int))]) w' := by
  have HC := ahid (acopy_any w p m sv K L M h (by omega))
  have HK := ahid (show decide (0 < (k : Int) ∧ (k : Int) < 16) = true from decide_eq_true (by omega))
  have HH := ahid h
  have HT := ahid ht
  have hsz := tickNm_size k h1 h2
  have e64 : wrap64 (4 * (k : Int)) = 4 * (k : Int) := by unfold wrap64; omega
  have e32 : wrap32 (4 * (k : Int)) = 4 * (k : Int) := by unfold wrap32; omega
  clear h ht
  go_enter Tryz.func104, Tryz.ntmps104
  go_wp2_with fail
  refine HC.out.mono ?_
  rintro e w1 ⟨p2, v2, m2, rfl, _, _, hb⟩
  have HB := ahid hb
  clear hb
  go_wp2_with fail
  refine (tmay_any k w1).mono ?_
  rintro e w' ⟨rfl, rfl⟩
  rw [HK.out]
  go_wp2_with fail
  refine (tname_any k h1 h2 w1).mono ?_
  rintro e w' ⟨rfl, rfl⟩
  have H1 := ahid (HH.out.keep (Only.of_below (S := fun _ => False) HB.out) (fun _ _ h => h) (fun _ _ h => h))
  go_wp2_with fail
  refine (amark_new w1 p m sv K L M H1.out (tickNm k) (by unfold maxLen; omega) hM (by omega) hl).mono ?_
  rintro e w2 ⟨rfl, hA, hO⟩
  have HT2 := ahid (show Tab w2 from fun i hi => by
    have h0 := (HT.out.keep HB.out) i hi
    refine (hO.cell (p := ⟨0, i, none⟩) (World.block_lt_of_cell? _ _ h0) ?_).trans h0
    intro e
    obtain ⟨D, ⟨es, cl, hbm, _⟩, _⟩ := H1.out.marks
    rw [World.cell?] at h0
    have e2 : 0 = m := e
    simp [e2, hbm] at h0)
  have HA := ahid hA
  have HO := ahid hO
  clear hA hO
  go_wp2_with fail
  have hba : Below w2.heap.size w2 (w2.alloc (.cells #[.int .u8 22, .int .u8 1, .int .u8 0, .int .u8 0, .bool true, .int .i32 (4 * k), .int .u8 1, .int .u8 1, .int .u8 1, .int .u8 0, .bool true, .int .i32 1, .int .u8 23, .int .u8 1, .int .u8 0, .int .u8 0, .bool true, .int .i32 (4 * k), .int .u8 32, .int .u8 0, .int .u8 0, .int .u8 0, .bool false, .int .i32 0] 41)) := (Below.refl _ _).alloc (Nat.le_refl _) _
  have hin := insIn_tick w2 k h2
  have h4 : (tickL k).length = 4 := rfl
  generalize w2.alloc (.cells #[.int .u8 22, .int .u8 1, .int .u8 0, .int .u8 0, .bool true, .int .i32 (4 * k), .int .u8 1, .int .u8 1, .int .u8 1, .int .u8 0, .bool true, .int .i32 1, .int .u8 23, .int .u8 1, .int .u8 0, .int .u8 0, .bool true, .int .i32 (4 * k), .int .u8 32, .int .u8 0, .int .u8 0, .int .u8 0, .bool false, .int .i32 0] 41) = W at *
  have hAW := HA.out.keep (Only.of_below (S := fun _ => False) hba) (fun _ _ h => h) (fun _ _ h => h)
  refine (aput_any W (HT2.out.keep hba) p m sv K L _ hAW _ (tickL k) hin (by rw [h4]; omega)).mono ?_
  intro e w9 hh
  obtain ⟨rfl, v', K', g1, g2, g3, g4⟩ := put_step hAW hh
  rw [(putL_tick h1 h2 L).1] at g1
  rw [(putL_tick h1 h2 L).2]
  have HF := ahid (show StepTo w p sv m K (L ++ tickT k) (M ++ [((tickNm k).data.toList, (L.length : Int))]) w9 from ⟨v', K', g1, ((((Only.of_below (S := Own p sv m) HB.out).fresh HO.out (fun i _ e => .inr (.inr e)))).fresh (Only.of_below (S := fun _ => False) hba) (fun _ _ h => h.elim)).fresh g2 (fun _ _ h => h), fun i hi => g3 i (Nat.lt_of_lt_of_le hi (Nat.le_trans HB.out.size (Nat.le_trans HO.out.size hba.size))), fun i hi => g4 i (Nat.lt_of_lt_of_le hi (Nat.le_trans HB.out.size (Nat.le_trans HO.out.size hba.size)))⟩)
  clear hh g1 g2 g3 g4
  go_wp2_with fail
  go_ret
  exact ⟨rfl, HF.out⟩
def there (M : List (List UInt8 × Int)) (k : Nat) : Bool := (look M (tickNm k).data.toList).isSome
set_option maxRecDepth 100000 in
theorem all1_any (w : World) (cb p m : Nat) (sv : Value) (K : Nat → Prop) (L : List It) (M : List (List UInt8 × Int)) (h : AsmAt w p sv m K L M) (hc : w.cell? ⟨cb, 0, none⟩ = some (.pointer (some ⟨p, 0, none⟩))) (k : Nat) (h1 : 1 ≤ k) (h2 : k ≤ 15) :
    Calls Tryz.prog 154 #[.int .i64 k, .pointer (some ⟨cb, 0, none⟩)] w fun e w' => e = .returned (.int .i64 (if there M k = true then 9 else 0)) ∧ ∃ n, w' = w.drewN n := by
  have hsz := tickNm_size k h1 h2
  have HA := ahid (fun n => show Calls Tryz.prog 52 #[.pointer (some ⟨p, 0, none⟩), .string (tickNm k)] (w.drewN n) fun e w'' => e = .returned (.tuple #[.int .i64 (atN M (tickNm k)), .int .i64 (atE M (tickNm k))]) ∧ ∃ m, w'' = w.drewN m from
    (aat_made (w.drewN n) p m sv K L M (h.keep (Only.of_below (S := fun _ => False) (Go.below_drewN (Below.refl _ _) n)) (fun _ _ h => h) (fun _ _ h => h)) (tickNm k) (by unfold maxLen; omega)).mono fun _ _ ⟨he, hm⟩ => ⟨he, n, hm.symm⟩)
  have HN := ahid (fun n => show Calls Tryz.prog 105 #[.int .i64 k] (w.drewN n) fun e w'' => e = .returned (.string (tickNm k)) ∧ ∃ m, w'' = w.drewN m from
    (tname_any k h1 h2 (w.drewN n)).mono fun _ _ ⟨he, hm⟩ => ⟨he, n, hm.symm⟩)
  clear h
  by_cases ht : there M k = true
  · have he : atE M (tickNm k) = 0 := by unfold atE; exact if_pos ht
    rw [he] at HA
    rw [if_pos ht]
    clear he ht
    generalize atN M (tickNm k) = an at *
    go_enter Tryz.func154, Tryz.ntmps154
    go_wp2_with fail
    go_quiet ((first | (go_at_call 105; exact HN.out _) | (go_at_call 52; exact HA.out _)))
    go_wp2_with fail
    go_ret
    exact ⟨rfl, _, rfl⟩
  · have he : atE M (tickNm k) = 7 := by unfold atE; exact if_neg ht
    rw [he] at HA
    rw [if_neg ht]
    clear he ht
    generalize atN M (tickNm k) = an at *
    go_enter Tryz.func154, Tryz.ntmps154
    go_wp2_with fail
    go_quiet ((first | (go_at_call 105; exact HN.out _) | (go_at_call 52; exact HA.out _)))
    go_wp2_with fail
    go_ret
    exact ⟨rfl, _, rfl⟩
end Go.Proofs.YtajholbcpmjhiaaGreatDoor
/- Plain law: a machine that counts and is interrupted. No program in sight. -/
namespace Go.Proofs.YtajholbcpmjhiaaGreatDoor
open Go.RowKit
abbrev addOne : Ix := ⟨1, 8, 8, 0, true, 1⟩
abbrev jumpT : Ix := ⟨17, 0, 0, 0, true, 60⟩
structure Mem9 (d : List Int) : Prop where
  len : d.length = 2048
  main : ∀ c, c < 128 → CodeAt d (1536 + 4 * c) addOne
  vec : ∀ l, 1 ≤ l → l ≤ 15 → CodeAt d (512 + 16 * l) jumpT
  hand : ∀ l, 1 ≤ l → l ≤ 15 → ∀ i x, (tickL l)[i]? = some x → CodeAt d (768 + 16 * (l - 1) + 4 * i) x
  zero : ∀ l, l < 16 → loadS d (4 * l) 4 = 0
def tkMask (pil : Int) : List (Nat × Nat) → Int
  | [] => pil
  | (l, _) :: _ => (l : Int)
def tkPc (c : Nat) : List (Nat × Nat) → Nat
  | [] => 1536 + 4 * c
  | (l, left) :: _ => if left = 5 then 512 + 16 * l else 768 + 16 * (l - 1) + 4 * (4 - left)
theorem tkPc_cons (c l left : Nat) (r : List (Nat × Nat)) : tkPc c ((l, left) :: r) = if left = 5 then 512 + 16 * l else 768 + 16 * (l - 1) + 4 * (4 - left) := rfl
def tkP (pil : Int) : List (Nat × Nat) → Px
  | [] => ⟨0, pil, 0, 0⟩
  | (l, _) :: _ => ⟨0, l, l, 0⟩
def TkS (tpc tpsr : List Int) (pil : Int) (c : Nat) : List (Nat × Nat) → Prop
  | [] => True
  | (l, left) :: r => (1 ≤ l ∧ l ≤ 15) ∧ (1 ≤ left ∧ left ≤ 5) ∧ tkMask pil r < l ∧ tpc.getD l 0 = (tkPc c r : Nat) ∧ tpsr.getD l 0 = packW (tkP pil r) ∧ TkS tpc tpsr pil c r
theorem TkS.lt {tpc tpsr : List Int} {pil : Int} {c : Nat} : ∀ {st : List (Nat × Nat)} {l left : Nat}, TkS tpc tpsr pil c ((l, left) :: st) → ∀ e ∈ st, e.1 < l
  | [], _, _, _, e, he => by simp at he
  | (l2, k) :: r, l, left, h, e, he => by
    obtain ⟨-, -, h3, -, -, h6⟩ := h
    have h3 : (l2 : Int) < l := h3
    rcases List.mem_cons.1 he with rfl | he
    · show l2 < l; omega
    · have := TkS.lt h6 e he; omega
theorem TkS.set {tpc tpsr : List Int} {pil : Int} {c v : Nat} (x y : Int) : ∀ {st : List (Nat × Nat)}, TkS tpc tpsr pil c st → (∀ e ∈ st, e.1 ≠ v) → TkS (tpc.set v x) (tpsr.set v y) pil c st
  | [], _, _ => trivial
  | (l, left) :: r, h, hv => by
    obtain ⟨h1, h2, h3, h4, h5, h6⟩ := h
    have hl : v ≠ l := fun e => hv (l, left) (List.mem_cons_self ..) e.symm
    refine ⟨h1, h2, h3, ?_, ?_, TkS.set x y h6 (fun e he => hv e (List.mem_cons_of_mem _ he))⟩
    · rw [List.getD_eq_getElem?_getD, List.getElem?_set_ne hl, ← List.getD_eq_getElem?_getD]; exact h4
    · rw [List.getD_eq_getElem?_getD, List.getElem?_set_ne hl, ← List.getD_eq_getElem?_getD]; exact h5
structure TkM (d : List Int) (pil : Int) (c : Nat) (st : List (Nat × Nat)) (cnt : Nat → Nat) (m : Mx) : Prop where
  ok : m.ok
  kind : m.kind = 0
  nw : m.f.nw = 2
  win : m.f.win = (List.replicate 32 0).set 24 (c : Int)
  len : m.mem.length = 2048
  far : ∀ a, 64 ≤ a → m.mem.getD a 0 = d.getD a 0
  tick : ∀ l, l < 16 → loadS m.mem (4 * l) 4 = (cnt l : Int)
  pc : m.pc = (tkPc c st : Nat)
  p : m.p = tkP pil st
  saved : TkS m.tpc m.tpsr pil c st
  regs : ∀ l left, (l, left) ∈ st → (left = 3 → m.f.glo.getD (l * 8 + 1) 0 = (cnt l : Int)) ∧ (left = 2 → m.f.glo.getD (l * 8 + 1) 0 = (cnt l : Int) + 1)
theorem CodeAt.far {d e : List Int} {a : Nat} {x : Ix} (h : CodeAt d a x) (hl : e.length = d.length) (ha : 64 ≤ a) (hf : ∀ b, 64 ≤ b → e.getD b 0 = d.getD b 0) : CodeAt e a x := by
  obtain ⟨h1, h2, h3, h4, h5⟩ := h
  refine ⟨h1, by omega, ?_, h4, h5⟩
  rw [← h3]
  unfold loadS
  rw [if_pos rfl, if_pos rfl, hf _ ha, hf _ (by omega), hf _ (by omega), hf _ (by omega)]
theorem tk_mask {pil : Int} {c : Nat} {tpc tpsr : List Int} (h0 : 0 ≤ pil) {st : List (Nat × Nat)} (h : TkS tpc tpsr pil c st) : 0 ≤ tkMask pil st ∧ (tkP pil st).pil = tkMask pil st := by
  cases st with
  | nil => exact ⟨h0, rfl⟩
  | cons e r => obtain ⟨l, k⟩ := e; exact ⟨by show (0 : Int) ≤ l; omega, rfl⟩
theorem tk_not {d : List Int} {pil : Int} {c : Nat} {st : List (Nat × Nat)} {cnt : Nat → Nat} {m : Mx} (h : TkM d pil c st cnt m) (h0 : 0 ≤ pil) {v : Nat} (hv : ¬ (v < 16 ∧ tkMask pil st < (v : Int))) : ¬ ((v : Int) < 16 ∧ m.p.pil < (v : Int)) := by
  rw [h.p, (tk_mask h0 h.saved).2]; omega
theorem tk_irq {d : List Int} {pil : Int} {c : Nat} {st : List (Nat × Nat)} {cnt : Nat → Nat} {m : Mx} (h : TkM d pil c st cnt m) (h0 : 0 ≤ pil) {v : Nat} (hv : v < 16 ∧ tkMask pil st < (v : Int)) : TkM d pil c ((v, 5) :: st) cnt (stepM m v) := by
  obtain ⟨k1, k2⟩ := tk_mask h0 h.saved
  have hst : stepM m v = irqM m v := by
    unfold stepM
    rw [if_neg (by rw [h.kind]; decide), if_pos ⟨by omega, by rw [h.p, k2]; exact hv.2⟩]
  have hok := stepM_ok h.ok (level := (v : Int)) (by omega)
  rw [hst] at hok ⊢
  have hpk : packS m.p m.nw = packW m.p := by unfold packS; rw [if_pos ⟨h.ok.win, h.ok.pm⟩]
  have hlt : ∀ e ∈ st, e.1 < v := fun e he => by
    cases st with
    | nil => simp at he
    | cons e2 r =>
      obtain ⟨l2, k⟩ := e2
      have hv2 : (l2 : Int) < v := hv.2
      rcases List.mem_cons.1 he with rfl | he
      · show l2 < v; omega
      · have := TkS.lt h.saved e he; omega
  refine ⟨hok, h.kind, h.nw, h.win, h.len, h.far, h.tick, ?_, ?_, ⟨⟨by omega, by omega⟩, ⟨by omega, by omega⟩, hv.2, ?_, ?_, ?_⟩, fun l left hm => ?_⟩
  · show (256 : Int) + 16 * (16 + (v : Int)) = ((tkPc c ((v, 5) :: st) : Nat) : Int)
    rw [tkPc_cons, if_pos rfl]; omega
  · show ({ m.p with bank := (v : Int), pil := (v : Int) } : Px) = _
    rw [h.p]
    cases st with
    | nil => rfl
    | cons e r => rfl
  · show (m.tpc.set (v : Int).toNat m.pc).getD v 0 = _
    rw [Int.toNat_natCast, List.getD_eq_getElem?_getD, List.getElem?_set_self (by rw [h.ok.tl]; omega)]
    exact h.pc
  · show (m.tpsr.set (v : Int).toNat (packS m.p m.nw)).getD v 0 = _
    rw [Int.toNat_natCast, List.getD_eq_getElem?_getD, List.getElem?_set_self (by rw [h.ok.sl]; omega), hpk, h.p]
    rfl
  · show TkS (m.tpc.set (v : Int).toNat m.pc) (m.tpsr.set (v : Int).toNat (packS m.p m.nw)) pil c st
    rw [Int.toNat_natCast]
    exact h.saved.set _ _ (fun e he => by have := hlt e he; omega)
  · rcases List.mem_cons.1 hm with e | hm
    · cases e; exact ⟨fun e => absurd e (by decide), fun e => absurd e (by decide)⟩
    · exact h.regs l left hm
theorem tk_main {d : List Int} (hd : Mem9 d) {pil : Int} {c : Nat} {cnt : Nat → Nat} {m : Mx} (h : TkM d pil c [] cnt m) (h0 : 0 ≤ pil) (hc : c < 128) {v : Nat} (hv : ¬ (v < 16 ∧ tkMask pil [] < (v : Int))) : TkM d pil (c + 1) [] cnt (stepM m v) := by
  have hcode := (hd.main c hc).far (e := m.mem) (by rw [h.len, hd.len]) (by omega) h.far
  have hst := step_code (level := (v : Int)) h.kind (tk_not h h0 hv) (a := 1536 + 4 * c) h.pc hcode
  have hok := stepM_ok h.ok (level := (v : Int)) (by omega)
  have hp : m.p = ⟨0, pil, 0, 0⟩ := h.p
  have hg : getM m 8 = (c : Int) := by
    unfold getM getF
    rw [hp, h.nw, h.win]
    rfl
  have e : stepM m v = onM (setM m 8 ((c + 1 : Nat) : Int)) := by
    rw [hst]
    unfold opS sndM
    simp only
    rw [if_pos (by decide), if_pos (by rfl), if_pos trivial, hg]
    have : doW ((1 : Int) - 1).toNat (c : Int) (u32 1) = ((c + 1 : Nat) : Int) := by
      show u32 ((c : Int) + u32 1) = _
      unfold u32; omega
    rw [this]
  have ew : (setM m 8 ((c + 1 : Nat) : Int)).f = { m.f with win := (List.replicate 32 0).set 24 ((c + 1 : Nat) : Int) } := by
    unfold setM setF
    rw [hp]
    simp only
    rw [if_neg (by decide), if_neg (by decide), if_pos (by decide), h.nw, h.win]
    rw [show 16 * ((Int.toNat 0 + 2 - 1) % 2) + Int.toNat 8 = 24 from rfl, List.set_set]
  rw [e] at hok ⊢
  refine ⟨hok, h.kind, ?_, ?_, h.len, h.far, h.tick, ?_, hp, trivial, fun l left hm => by simp at hm⟩
  · show (setM m 8 ((c + 1 : Nat) : Int)).f.nw = 2
    rw [ew]; exact h.nw
  · show (setM m 8 ((c + 1 : Nat) : Int)).f.win = _
    rw [ew]
  · show u32 (m.pc + 4) = _
    rw [h.pc]
    show u32 (((1536 + 4 * c : Nat) : Int) + 4) = ((1536 + 4 * (c + 1) : Nat) : Int)
    unfold u32; omega
theorem tk_get1 {d : List Int} {pil : Int} {c l left : Nat} {r : List (Nat × Nat)} {cnt : Nat → Nat} {m : Mx} (h : TkM d pil c ((l, left) :: r) cnt m) : getM m 1 = m.f.glo.getD (l * 8 + 1) 0 ∧ ∀ x : Int, setM m 1 x = { m with f := { m.f with glo := m.f.glo.set (l * 8 + 1) x } } := by
  have hp : m.p = ⟨0, l, l, 0⟩ := h.p
  refine ⟨?_, fun x => ?_⟩
  · unfold getM getF
    rw [hp]
    rfl
  · unfold setM setF
    rw [hp]
    rfl
theorem tk_hand {d : List Int} (hd : Mem9 d) {pil : Int} {c l left : Nat} {r : List (Nat × Nat)} {cnt : Nat → Nat} {m : Mx} (h : TkM d pil c ((l, left) :: r) cnt m) {i : Nat} {x : Ix} (hx : (tickL l)[i]? = some x) (hi : left = 4 - i) (hi3 : i ≤ 3) :
    m.pc = ((768 + 16 * (l - 1) + 4 * i : Nat) : Int) ∧ CodeAt m.mem (768 + 16 * (l - 1) + 4 * i) x := by
  obtain ⟨h1, h2, -⟩ := h.saved
  refine ⟨?_, (hd.hand l h1.1 h1.2 i x hx).far (by rw [h.len, hd.len]) (by omega) h.far⟩
  rw [h.pc, tkPc_cons, if_neg (by omega)]
  congr 1; omega
theorem TkS.left {tpc tpsr : List Int} {pil : Int} {c l k k2 : Nat} {r : List (Nat × Nat)} (h : TkS tpc tpsr pil c ((l, k) :: r)) (h2 : 1 ≤ k2 ∧ k2 ≤ 5) : TkS tpc tpsr pil c ((l, k2) :: r) := ⟨h.1, h2, h.2.2.1, h.2.2.2.1, h.2.2.2.2.1, h.2.2.2.2.2⟩
theorem tk_other {l : Nat} {r : List (Nat × Nat)} {tpc tpsr : List Int} {pil : Int} {c k : Nat} (h : TkS tpc tpsr pil c ((l, k) :: r)) {l2 k2 : Nat} (hm : (l2, k2) ∈ r) : l * 8 + 1 ≠ l2 * 8 + 1 ∧ l2 ≠ l := by
  have := TkS.lt h _ hm
  exact ⟨by show l * 8 + 1 ≠ l2 * 8 + 1; have : l2 < l := this; omega, by have : l2 < l := this; omega⟩
theorem tk_jump {d : List Int} (hd : Mem9 d) {pil : Int} {c l : Nat} {r : List (Nat × Nat)} {cnt : Nat → Nat} {m : Mx} (h : TkM d pil c ((l, 5) :: r) cnt m) (h0 : 0 ≤ pil) {v : Nat} (hv : ¬ (v < 16 ∧ tkMask pil ((l, 5) :: r) < (v : Int))) : TkM d pil c ((l, 4) :: r) cnt (stepM m v) := by
  obtain ⟨h1, h2, -⟩ := h.saved
  have hpc : m.pc = ((512 + 16 * l : Nat) : Int) := by rw [h.pc, tkPc_cons, if_pos rfl]
  have hcode := (hd.vec l h1.1 h1.2).far (e := m.mem) (by rw [h.len, hd.len]) (by omega) h.far
  have hst := step_code (level := (v : Int)) h.kind (tk_not h h0 hv) hpc hcode
  have hok := stepM_ok h.ok (level := (v : Int)) (by omega)
  have e : stepM m v = { m with pc := ((752 + 16 * l : Nat) : Int) } := by
    rw [hst]
    unfold opS sndM
    simp only
    rw [if_neg (by decide), if_neg (by decide), if_neg (by decide), if_pos (by decide), if_pos (show holdsS (Int.toNat 0) _ = true from rfl), if_pos trivial, hpc]
    have : u32 (((512 + 16 * l : Nat) : Int) + 4 * u32 60) = ((752 + 16 * l : Nat) : Int) := by unfold u32; omega
    rw [this]
  rw [e] at hok ⊢
  refine ⟨hok, h.kind, h.nw, h.win, h.len, h.far, h.tick, ?_, h.p, TkS.left h.saved (by omega), fun l2 k hm => ?_⟩
  · show ((752 + 16 * l : Nat) : Int) = _
    rw [tkPc_cons, if_neg (by decide)]; congr 1; omega
  · rcases List.mem_cons.1 hm with e | hm
    · cases e; exact ⟨fun e => absurd e (by decide), fun e => absurd e (by decide)⟩
    · exact h.regs l2 k (List.mem_cons_of_mem _ hm)
theorem tk_span {m : Mx} (hl : m.mem.length = 2048) {l : Nat} (h : l ≤ 15) : spanE m.mem.length ((4 * l : Nat) : Int) 1 4 = 0 := by rw [hl]; exact span_in (by omega) (by omega)
theorem tk_ld {d : List Int} (hd : Mem9 d) {pil : Int} {c l : Nat} {r : List (Nat × Nat)} {cnt : Nat → Nat} {m : Mx} (h : TkM d pil c ((l, 4) :: r) cnt m) (h0 : 0 ≤ pil) {v : Nat} (hv : ¬ (v < 16 ∧ tkMask pil ((l, 4) :: r) < (v : Int))) : TkM d pil c ((l, 3) :: r) cnt (stepM m v) := by
  obtain ⟨h1, h2, -⟩ := h.saved
  obtain ⟨hpc, hcode⟩ := tk_hand hd h (i := 0) (x := ⟨22, 1, 0, 0, true, 4 * l⟩) rfl (by decide) (by decide)
  have hst := step_code (level := (v : Int)) h.kind (tk_not h h0 hv) hpc hcode
  have hok := stepM_ok h.ok (level := (v : Int)) (by omega)
  have hg0 : getM m 0 = 0 := rfl
  have hA : u32 (0 + u32 (4 * (l : Int))) = ((4 * l : Nat) : Int) := by unfold u32; omega
  have e : stepM m v = { m with f := { m.f with glo := m.f.glo.set (l * 8 + 1) (cnt l : Int) }, pc := ((768 + 16 * (l - 1) + 4 : Nat) : Int) } := by
    rw [hst]
    unfold opS sndM
    simp only
    rw [if_neg (by decide), if_neg (by decide), if_neg (by decide), if_neg (by decide), if_neg (by decide), if_neg (by decide), if_neg (by decide), if_neg (by decide), if_pos (by decide), if_pos trivial, hg0, hA]
    unfold loadM
    rw [if_pos (tk_span h.len h1.2), loadV_in (by omega) (by rw [h.len]; omega), h.tick l (by omega), (tk_get1 h).2]
    unfold onM
    simp only
    have : u32 (m.pc + 4) = ((768 + 16 * (l - 1) + 4 : Nat) : Int) := by rw [hpc]; unfold u32; omega
    rw [this]
  rw [e] at hok ⊢
  refine ⟨hok, h.kind, h.nw, h.win, h.len, h.far, h.tick, ?_, h.p, TkS.left h.saved (by omega), fun l2 k hm => ?_⟩
  · show ((768 + 16 * (l - 1) + 4 : Nat) : Int) = _
    rw [tkPc_cons, if_neg (by decide)]
  · rcases List.mem_cons.1 hm with e | hm
    · cases e
      refine ⟨fun _ => ?_, fun e => absurd e (by decide)⟩
      show (m.f.glo.set (l * 8 + 1) (cnt l : Int)).getD (l * 8 + 1) 0 = _
      rw [List.getD_eq_getElem?_getD, List.getElem?_set_self (by rw [h.ok.f.gl]; omega)]; rfl
    · have := h.regs l2 k (List.mem_cons_of_mem _ hm)
      show (_ → (m.f.glo.set (l * 8 + 1) (cnt l : Int)).getD (l2 * 8 + 1) 0 = _) ∧ (_ → (m.f.glo.set (l * 8 + 1) (cnt l : Int)).getD (l2 * 8 + 1) 0 = _)
      rw [List.getD_eq_getElem?_getD, List.getElem?_set_ne (tk_other h.saved hm).1, ← List.getD_eq_getElem?_getD]
      exact this
theorem tk_add {d : List Int} (hd : Mem9 d) {pil : Int} {c l : Nat} {r : List (Nat × Nat)} {cnt : Nat → Nat} {m : Mx} (h : TkM d pil c ((l, 3) :: r) cnt m) (h0 : 0 ≤ pil) (hc : cnt l < 4294967295) {v : Nat} (hv : ¬ (v < 16 ∧ tkMask pil ((l, 3) :: r) < (v : Int))) : TkM d pil c ((l, 2) :: r) cnt (stepM m v) := by
  obtain ⟨h1, h2, -⟩ := h.saved
  obtain ⟨hpc, hcode⟩ := tk_hand hd h (i := 1) (x := ⟨1, 1, 1, 0, true, 1⟩) rfl (by decide) (by decide)
  have hst := step_code (level := (v : Int)) h.kind (tk_not h h0 hv) hpc hcode
  have hok := stepM_ok h.ok (level := (v : Int)) (by omega)
  have hg1 : getM m 1 = (cnt l : Int) := (tk_get1 h).1.trans ((h.regs l 3 (List.mem_cons_self ..)).1 rfl)
  have e : stepM m v = { m with f := { m.f with glo := m.f.glo.set (l * 8 + 1) ((cnt l : Int) + 1) }, pc := ((768 + 16 * (l - 1) + 8 : Nat) : Int) } := by
    rw [hst]
    unfold opS sndM
    simp only
    rw [if_pos (by decide), if_pos (by rfl), if_pos trivial, hg1]
    have : doW ((1 : Int) - 1).toNat (cnt l : Int) (u32 1) = (cnt l : Int) + 1 := by
      show u32 ((cnt l : Int) + u32 1) = _
      unfold u32; omega
    rw [this, (tk_get1 h).2]
    unfold onM
    simp only
    have : u32 (m.pc + 4) = ((768 + 16 * (l - 1) + 8 : Nat) : Int) := by rw [hpc]; unfold u32; omega
    rw [this]
  rw [e] at hok ⊢
  refine ⟨hok, h.kind, h.nw, h.win, h.len, h.far, h.tick, ?_, h.p, TkS.left h.saved (by omega), fun l2 k hm => ?_⟩
  · show ((768 + 16 * (l - 1) + 8 : Nat) : Int) = _
    rw [tkPc_cons, if_neg (by decide)]
  · rcases List.mem_cons.1 hm with e | hm
    · cases e
      refine ⟨fun e => absurd e (by decide), fun _ => ?_⟩
      show (m.f.glo.set (l * 8 + 1) ((cnt l : Int) + 1)).getD (l * 8 + 1) 0 = _
      rw [List.getD_eq_getElem?_getD, List.getElem?_set_self (by rw [h.ok.f.gl]; omega)]; rfl
    · have := h.regs l2 k (List.mem_cons_of_mem _ hm)
      show (_ → (m.f.glo.set (l * 8 + 1) ((cnt l : Int) + 1)).getD (l2 * 8 + 1) 0 = _) ∧ (_ → (m.f.glo.set (l * 8 + 1) ((cnt l : Int) + 1)).getD (l2 * 8 + 1) 0 = _)
      rw [List.getD_eq_getElem?_getD, List.getElem?_set_ne (tk_other h.saved hm).1, ← List.getD_eq_getElem?_getD]
      exact this
def bump (cnt : Nat → Nat) (l : Nat) (j : Nat) : Nat := if j = l then cnt j + 1 else cnt j
theorem tk_st {d : List Int} (hd : Mem9 d) {pil : Int} {c l : Nat} {r : List (Nat × Nat)} {cnt : Nat → Nat} {m : Mx} (h : TkM d pil c ((l, 2) :: r) cnt m) (h0 : 0 ≤ pil) (hc : cnt l < 4294967295) {v : Nat} (hv : ¬ (v < 16 ∧ tkMask pil ((l, 2) :: r) < (v : Int))) : TkM d pil c ((l, 1) :: r) (bump cnt l) (stepM m v) := by
  obtain ⟨h1, h2, -⟩ := h.saved
  obtain ⟨hpc, hcode⟩ := tk_hand hd h (i := 2) (x := ⟨23, 1, 0, 0, true, 4 * l⟩) rfl (by decide) (by decide)
  have hst := step_code (level := (v : Int)) h.kind (tk_not h h0 hv) hpc hcode
  have hok := stepM_ok h.ok (level := (v : Int)) (by omega)
  have hg0 : getM m 0 = 0 := rfl
  have hg1 : getM m 1 = (cnt l : Int) + 1 := (tk_get1 h).1.trans ((h.regs l 2 (List.mem_cons_self ..)).2 rfl)
  have hA : u32 (0 + u32 (4 * (l : Int))) = ((4 * l : Nat) : Int) := by unfold u32; omega
  have e : stepM m v = { m with mem := storeS m.mem (4 * l) 4 ((cnt l : Int) + 1), pc := ((768 + 16 * (l - 1) + 12 : Nat) : Int) } := by
    rw [hst]
    unfold opS sndM
    simp only
    rw [if_neg (by decide), if_neg (by decide), if_neg (by decide), if_neg (by decide), if_neg (by decide), if_neg (by decide), if_neg (by decide), if_neg (by decide), if_neg (by decide), if_pos (by decide), if_pos trivial, hg0, hA]
    unfold storeM storeV
    rw [if_pos (tk_span h.len h1.2), if_pos (tk_span h.len h1.2), hg1, Int.toNat_natCast]
    unfold onM
    simp only
    have : u32 (m.pc + 4) = ((768 + 16 * (l - 1) + 12 : Nat) : Int) := by rw [hpc]; unfold u32; omega
    rw [this]
    rfl
  rw [e] at hok ⊢
  refine ⟨hok, h.kind, h.nw, h.win, by simp only [storeS_len]; exact h.len, fun a ha => ?_, fun j hj => ?_, ?_, h.p, TkS.left h.saved (by omega), fun l2 k hm => ?_⟩
  · rw [← h.far a ha]
    show (storeS m.mem (4 * l) 4 _).getD a 0 = _
    unfold storeS
    rw [if_pos rfl]
    simp only [List.getD_eq_getElem?_getD]
    rw [List.getElem?_set_ne (by omega), List.getElem?_set_ne (by omega), List.getElem?_set_ne (by omega), List.getElem?_set_ne (by omega)]
  · show loadS (storeS m.mem (4 * l) 4 ((cnt l : Int) + 1)) (4 * j) 4 = _
    unfold bump
    by_cases e : j = l
    · subst e
      rw [if_pos rfl, load_store _ _ _ (by rw [h.len]; omega) (by omega) (by omega)]; omega
    · rw [if_neg e, load_store_ne _ _ _ _ (by omega)]; exact h.tick j hj
  · show ((768 + 16 * (l - 1) + 12 : Nat) : Int) = _
    rw [tkPc_cons, if_neg (by decide)]
  · rcases List.mem_cons.1 hm with e | hm
    · cases e; exact ⟨fun e => absurd e (by decide), fun e => absurd e (by decide)⟩
    · have := h.regs l2 k (List.mem_cons_of_mem _ hm)
      unfold bump
      rw [if_neg (tk_other h.saved hm).2]
      exact this
theorem tk_rett {d : List Int} (hd : Mem9 d) {pil : Int} {c l : Nat} {r : List (Nat × Nat)} {cnt : Nat → Nat} {m : Mx} (h : TkM d pil c ((l, 1) :: r) cnt m) (h0 : 0 ≤ pil ∧ pil < 16) {v : Nat} (hv : ¬ (v < 16 ∧ tkMask pil ((l, 1) :: r) < (v : Int))) : TkM d pil c r cnt (stepM m v) := by
  obtain ⟨h1, h2, h3, h4, h5, h6⟩ := h.saved
  obtain ⟨hpc, hcode⟩ := tk_hand hd h (i := 3) (x := ⟨32, 0, 0, 0, false, 0⟩) rfl (by decide) (by decide)
  have hst := step_code (level := (v : Int)) h.kind (tk_not h h0.1 hv) hpc hcode
  have hok := stepM_ok h.ok (level := (v : Int)) (by omega)
  have hp : m.p = ⟨0, l, l, 0⟩ := h.p
  have hbd : (tkP pil r).bd ∧ pmayP (tkP pil r) m.nw := by
    have hnw : m.nw = 2 := by show (m.f.nw : Int) = 2; rw [h.nw]; rfl
    rw [hnw]
    cases r with
    | nil => exact ⟨⟨⟨by show (0 : Int) ≤ 0; omega, by show (0 : Int) < 256; omega⟩, ⟨h0.1, by show pil < 256; omega⟩, ⟨by show (0 : Int) ≤ 0; omega, by show (0 : Int) < 256; omega⟩, by show (0 : Int) ≤ 0; omega, by show (0 : Int) < 256; omega⟩, by unfold pmayP tkP; simp only; omega⟩
    | cons e r2 =>
      obtain ⟨l2, k⟩ := e
      obtain ⟨q1, -⟩ := h6
      exact ⟨⟨⟨by show (0 : Int) ≤ 0; omega, by show (0 : Int) < 256; omega⟩, ⟨by show (0 : Int) ≤ l2; omega, by show (l2 : Int) < 256; omega⟩, ⟨by show (0 : Int) ≤ l2; omega, by show (l2 : Int) < 256; omega⟩, by show (0 : Int) ≤ 0; omega, by show (0 : Int) < 256; omega⟩, by unfold pmayP tkP; simp only; omega⟩
  have e : stepM m v = { m with p := tkP pil r, pc := (tkPc c r : Nat) } := by
    rw [hst]
    unfold opS sndM
    simp only
    rw [if_neg (by decide), if_neg (by decide), if_neg (by decide), if_neg (by decide), if_neg (by decide), if_neg (by decide), if_neg (by decide), if_neg (by decide), if_neg (by decide), if_neg (by decide), if_neg (by decide), if_neg (by decide), if_neg (by decide), if_neg (by decide), if_neg (by decide), if_neg (by decide), if_neg (by decide), if_neg (by decide), if_pos (by decide)]
    rw [if_neg (by rw [hp]; show ¬ ((l : Int) = 0); omega), show m.p.bank.toNat = l by rw [hp]; exact Int.toNat_natCast _, h5, h4]
    obtain ⟨u1, u2⟩ := unpacked hbd.1 h.ok.win hbd.2
    rw [if_pos u1, u2]
  rw [e] at hok ⊢
  exact ⟨hok, h.kind, h.nw, h.win, h.len, h.far, h.tick, rfl, rfl, h6, fun l2 k hm => h.regs l2 k (List.mem_cons_of_mem _ hm)⟩
end Go.Proofs.YtajholbcpmjhiaaGreatDoor
