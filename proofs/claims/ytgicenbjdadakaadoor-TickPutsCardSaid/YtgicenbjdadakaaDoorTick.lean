/- Walks of the package tick: Tick, All. -/
import Derived.Test.YtgicenbjdadakaaDoorAsmHead
import Derived.Test.YtgicenbjdadakaaDoorTickName
namespace Go.Proofs.YtgicenbjdadakaaDoor
open Go.RowKit Go.Maps
set_option linter.unusedVariables false
set_option linter.unusedSimpArgs false
/-- A handler's instructions. -/
def tickL (k : Nat) : List Ix := [⟨22, 1, 0, 0, true, 4 * k⟩, ⟨1, 1, 1, 0, true, 1⟩, ⟨23, 1, 0, 0, true, 4 * k⟩, ⟨32, 0, 0, 0, false, 0⟩]
def tickT (k : Nat) : List It := (tickL k).map .put
theorem tick_may : ∀ k, 1 ≤ k → k ≤ 15 → ∀ x ∈ tickL k, mayP x := tick_cases (by decide)
theorem tick_bd (k : Nat) (h : k ≤ 15) : ∀ x ∈ tickL k, x.bd := by
  intro x hx
  simp only [tickL, List.mem_cons, List.not_mem_nil, or_false] at hx
  rcases hx with rfl | rfl | rfl | rfl <;> unfold Ix.bd <;> simp only <;> omega
theorem putL_tick {k : Nat} (h1 : 1 ≤ k) (h2 : k ≤ 15) (L : List It) : putL L (tickL k) = L ++ tickT k ∧ putE (tickL k) = 0 := by
  unfold putL putE
  rw [if_pos (tick_may k h1 h2), if_pos (tick_may k h1 h2)]
  exact ⟨rfl, rfl⟩
theorem tickNm_size : ∀ k, 1 ≤ k → k ≤ 15 → (tickNm k).size ≤ 6 := tick_cases (by decide)
theorem tmay_any (k : Int) (w : World) : Calls Tryd.prog 23 #[.int .i64 k] w fun e w' => e = .returned (.bool (decide (0 < k ∧ k < 16))) ∧ w = w' := by
  by_cases h1 : 0 < k
  · by_cases h2 : k < 16
    · go_enter Tryd.func23, Tryd.ntmps23
      go_wp2_with fail
      go_ret
      exact ⟨by simp [h1, h2], rfl⟩
    · go_enter Tryd.func23, Tryd.ntmps23
      go_wp2_with fail
      go_ret
      exact ⟨by simp [h1, h2], rfl⟩
  · go_enter Tryd.func23, Tryd.ntmps23
    go_wp2_with fail
    go_ret
    exact ⟨by simp; omega, rfl⟩
theorem tick_nil (k : Int) (w : World) : Calls Tryd.prog 8 #[.pointer none, .int .i64 k] w fun e w' => e = .returned (.int .i64 1) ∧ w = w' := by
  go_enter Tryd.func8, Tryd.ntmps8
  go_wp2_with fail
  refine (acopy_none w _ (anone_nil w)).mono ?_
  rintro e w' ⟨rfl, rfl⟩
  go_wp2_with fail
  go_ret
  exact ⟨rfl, rfl⟩
theorem tick_arg (w : World) (p m : Nat) (sv : Value) (K : Nat → Prop) (L : List It) (M : List (List UInt8 × Int)) (h : AsmAt w p sv m K L M) (hL : L.length < 4294967296) (k : Int) (hk : ¬ (0 < k ∧ k < 16)) :
    Calls Tryd.prog 8 #[.pointer (some ⟨p, 0, none⟩), .int .i64 k] w fun e w' => e = .returned (.int .i64 2) ∧ Below w.heap.size w w' := by
  have HC := ahid (acopy_any w p m sv K L M h hL)
  have HK := ahid (show decide (0 < k ∧ k < 16) = false from decide_eq_false hk)
  clear h hL
  go_enter Tryd.func8, Tryd.ntmps8
  go_wp2_with fail
  refine HC.out.mono ?_
  rintro e w1 ⟨p2, v2, m2, rfl, _, _, hb⟩
  go_wp2_with fail
  refine (tmay_any k w1).mono ?_
  rintro e w' ⟨rfl, rfl⟩
  rw [HK.out]
  go_wp2_with fail
  go_ret
  exact ⟨rfl, hb⟩
theorem tick_old (w : World) (p m : Nat) (sv : Value) (K : Nat → Prop) (L : List It) (M : List (List UInt8 × Int)) (h : AsmAt w p sv m K L M) (hL : L.length < 4294967296) (hM : M.length < maxLen) (k : Nat) (h1 : 1 ≤ k) (h2 : k ≤ 15) (hl : (look M (tickNm k).data.toList).isSome = true) :
    Calls Tryd.prog 8 #[.pointer (some ⟨p, 0, none⟩), .int .i64 k] w fun e w' => e = .returned (.int .i64 9) ∧ Below w.heap.size w w' := by
  have HC := ahid (acopy_any w p m sv K L M h hL)
  have HK := ahid (show decide (0 < (k : Int) ∧ (k : Int) < 16) = true from decide_eq_true (by omega))
  have HH := ahid h
  obtain ⟨n, hn⟩ := Option.isSome_iff_exists.1 hl
  have hsz := tickNm_size k h1 h2
  clear h hl
  go_enter Tryd.func8, Tryd.ntmps8
  go_wp2_with fail
  refine HC.out.mono ?_
  rintro e w1 ⟨p2, v2, m2, rfl, _, _, hb⟩
  have HB := ahid hb
  clear hb
  go_wp2_with fail
  refine (tmay_any k w1).mono ?_
  rintro e w' ⟨rfl, rfl⟩
  rw [HK.out]
  go_wp2_with fail
  refine (tname_any k h1 h2 w1).mono ?_
  rintro e w' ⟨rfl, rfl⟩
  go_wp2_with fail
  refine (amark_twice w1 p m sv K L M (HH.out.keep (Only.of_below (S := fun _ => False) HB.out) (fun _ _ h => h) (fun _ _ h => h)) (tickNm k) (by unfold maxLen; omega) n hn).mono ?_
  rintro e w' ⟨rfl, rfl⟩
  go_wp2_with fail
  go_ret
  exact ⟨rfl, HB.out⟩
theorem insIn_tick (w : World) (k : Nat) (h2 : k ≤ 15) : InsIn (w.alloc (.cells #[.int .u8 22, .int .u8 1, .int .u8 0, .int .u8 0, .bool true, .int .i32 (4 * k), .int .u8 1, .int .u8 1, .int .u8 1, .int .u8 0, .bool true, .int .i32 1, .int .u8 23, .int .u8 1, .int .u8 0, .int .u8 0, .bool true, .int .i32 (4 * k), .int .u8 32, .int .u8 0, .int .u8 0, .int .u8 0, .bool false, .int .i32 0] 55)) (.slice (some ⟨w.heap.size, 0, none⟩) 4 4) (tickL k) :=
  InsIn.of_row (l := tickL k) (tick_bd k h2) (by simp [tickL, maxLen]) fun j u hu => by
    simp only [World.cell?, (MapKept.heap_alloc w _).1]
    simpa [Ix.cells, tickL] using hu
set_option maxRecDepth 100000 in
set_option maxHeartbeats 2000000 in
theorem tick_new (w : World) (ht : Tab w) (p m : Nat) (sv : Value) (K : Nat → Prop) (L : List It) (M : List (List UInt8 × Int)) (h : AsmAt w p sv m K L M) (hL : L.length + 4 < 4294967296) (hM : M.length < maxLen) (k : Nat) (h1 : 1 ≤ k) (h2 : k ≤ 15) (hl : look M (tickNm k).data.toList = none) :
    Calls Tryd.prog 8 #[.pointer (some ⟨p, 0, none⟩), .int .i64 k] w fun e w' => e = .returned (.int .i64 0) ∧ StepTo w p sv m K (L ++ tickT k) (M ++ [((tickNm k).data.toList, (L.length : Int))]) w' := by
  have HC := ahid (acopy_any w p m sv K L M h (by omega))
  have HK := ahid (show decide (0 < (k : Int) ∧ (k : Int) < 16) = true from decide_eq_true (by omega))
  have HH := ahid h
  have HT := ahid ht
  have hsz := tickNm_size k h1 h2
  have e64 : wrap64 (4 * (k : Int)) = 4 * (k : Int) := by unfold wrap64; omega
  have e32 : wrap32 (4 * (k : Int)) = 4 * (k : Int) := by unfold wrap32; omega
  clear h ht
  go_enter Tryd.func8, Tryd.ntmps8
  go_wp2_with fail
  refine HC.out.mono ?_
  rintro e w1 ⟨p2, v2, m2, rfl, _, _, hb⟩
  have HB := ahid hb
  clear hb
  go_wp2_with fail
  refine (tmay_any k w1).mono ?_
  rintro e w' ⟨rfl, rfl⟩
  rw [HK.out]
  go_wp2_with fail
  refine (tname_any k h1 h2 w1).mono ?_
  rintro e w' ⟨rfl, rfl⟩
  have H1 := ahid (HH.out.keep (Only.of_below (S := fun _ => False) HB.out) (fun _ _ h => h) (fun _ _ h => h))
  go_wp2_with fail
  refine (amark_new w1 p m sv K L M H1.out (tickNm k) (by unfold maxLen; omega) hM (by omega) hl).mono ?_
  rintro e w2 ⟨rfl, hA, hO⟩
  have HT2 := ahid (show Tab w2 from fun i hi => by
    have h0 := (HT.out.keep HB.out) i hi
    refine (hO.cell (p := ⟨0, i, none⟩) (World.block_lt_of_cell? _ _ h0) ?_).trans h0
    intro e
    obtain ⟨D, ⟨es, cl, hbm, _⟩, _⟩ := H1.out.marks
    rw [World.cell?] at h0
    have e2 : 0 = m := e
    simp [e2, hbm] at h0)
  have HA := ahid hA
  have HO := ahid hO
  clear hA hO
  go_wp2_with fail
  have hba : Below w2.heap.size w2 (w2.alloc (.cells #[.int .u8 22, .int .u8 1, .int .u8 0, .int .u8 0, .bool true, .int .i32 (4 * k), .int .u8 1, .int .u8 1, .int .u8 1, .int .u8 0, .bool true, .int .i32 1, .int .u8 23, .int .u8 1, .int .u8 0, .int .u8 0, .bool true, .int .i32 (4 * k), .int .u8 32, .int .u8 0, .int .u8 0, .int .u8 0, .bool false, .int .i32 0] 55)) := (Below.refl _ _).alloc (Nat.le_refl _) _
  have hin := insIn_tick w2 k h2
  have h4 : (tickL k).length = 4 := rfl
  generalize w2.alloc (.cells #[.int .u8 22, .int .u8 1, .int .u8 0, .int .u8 0, .bool true, .int .i32 (4 * k), .int .u8 1, .int .u8 1, .int .u8 1, .int .u8 0, .bool true, .int .i32 1, .int .u8 23, .int .u8 1, .int .u8 0, .int .u8 0, .bool true, .int .i32 (4 * k), .int .u8 32, .int .u8 0, .int .u8 0, .int .u8 0, .bool false, .int .i32 0] 55) = W at *
  have hAW := HA.out.keep (Only.of_below (S := fun _ => False) hba) (fun _ _ h => h) (fun _ _ h => h)
  refine (aput_any W (HT2.out.keep hba) p m sv K L _ hAW _ (tickL k) hin (by rw [h4]; omega)).mono ?_
  intro e w9 hh
  obtain ⟨rfl, v', K', g1, g2, g3, g4⟩ := put_step hAW hh
  rw [(putL_tick h1 h2 L).1] at g1
  rw [(putL_tick h1 h2 L).2]
  have HF := ahid (show StepTo w p sv m K (L ++ tickT k) (M ++ [((tickNm k).data.toList, (L.length : Int))]) w9 from ⟨v', K', g1, ((((Only.of_below (S := Own p sv m) HB.out).fresh HO.out (fun i _ e => .inr (.inr e)))).fresh (Only.of_below (S := fun _ => False) hba) (fun _ _ h => h.elim)).fresh g2 (fun _ _ h => h), fun i hi => g3 i (Nat.lt_of_lt_of_le hi (Nat.le_trans HB.out.size (Nat.le_trans HO.out.size hba.size))), fun i hi => g4 i (Nat.lt_of_lt_of_le hi (Nat.le_trans HB.out.size (Nat.le_trans HO.out.size hba.size)))⟩)
  clear hh g1 g2 g3 g4
  go_wp2_with fail
  go_ret
  exact ⟨rfl, HF.out⟩
/-- The handlers up to a level, and their marks. -/
def allL : Nat → List It
  | 0 => []
  | k + 1 => allL k ++ tickT (k + 1)
def allM : Nat → List (List UInt8 × Int)
  | 0 => []
  | k + 1 => allM k ++ [((tickNm (k + 1)).data.toList, ((allL k).length : Int))]
theorem all_len : ∀ k, k ≤ 15 → (allL k).length = 4 * k ∧ (allM k).length = k := by decide
theorem all_look : ∀ k, k < 15 → look (allM k) (tickNm (k + 1)).data.toList = none := by decide
theorem all_at : ∀ k, 1 ≤ k → k ≤ 15 → look (allM 15) (tickNm k).data.toList = some (4 * (k - 1 : Nat) : Int) := tick_cases (by decide)
/-- Is any level's name there? -/
def there (M : List (List UInt8 × Int)) (k : Nat) : Bool := (look M (tickNm k).data.toList).isSome
set_option maxRecDepth 100000 in
theorem all1_any (w : World) (cb p m : Nat) (sv : Value) (K : Nat → Prop) (L : List It) (M : List (List UInt8 × Int)) (h : AsmAt w p sv m K L M) (hc : w.cell? ⟨cb, 0, none⟩ = some (.pointer (some ⟨p, 0, none⟩))) (k : Nat) (h1 : 1 ≤ k) (h2 : k ≤ 15) :
    Calls Tryd.prog 27 #[.int .i64 k, .pointer (some ⟨cb, 0, none⟩)] w fun e w' => e = .returned (.int .i64 (if there M k = true then 9 else 0)) ∧ ∃ n, w' = w.drewN n := by
  have hsz := tickNm_size k h1 h2
  have HA := ahid (fun n => show Calls Tryd.prog 16 #[.pointer (some ⟨p, 0, none⟩), .string (tickNm k)] (w.drewN n) fun e w'' => e = .returned (.tuple #[.int .i64 (atN M (tickNm k)), .int .i64 (atE M (tickNm k))]) ∧ ∃ m, w'' = w.drewN m from
    (aat_made (w.drewN n) p m sv K L M (h.keep (Only.of_below (S := fun _ => False) (below_drewN (Below.refl _ _) n)) (fun _ _ h => h) (fun _ _ h => h)) (tickNm k) (by unfold maxLen; omega)).mono fun _ _ ⟨he, hm⟩ => ⟨he, n, hm.symm⟩)
  have HN := ahid (fun n => show Calls Tryd.prog 6 #[.int .i64 k] (w.drewN n) fun e w'' => e = .returned (.string (tickNm k)) ∧ ∃ m, w'' = w.drewN m from
    (tname_any k h1 h2 (w.drewN n)).mono fun _ _ ⟨he, hm⟩ => ⟨he, n, hm.symm⟩)
  clear h
  by_cases ht : there M k = true
  · have he : atE M (tickNm k) = 0 := by unfold atE; exact if_pos ht
    rw [he] at HA
    rw [if_pos ht]
    clear he ht
    generalize atN M (tickNm k) = an at *
    go_enter Tryd.func27, Tryd.ntmps27
    go_wp2_with fail
    go_quiet ((first | (go_at_call 6; exact HN.out _) | (go_at_call 16; exact HA.out _)))
    go_wp2_with fail
    go_ret
    exact ⟨rfl, _, rfl⟩
  · have he : atE M (tickNm k) = 7 := by unfold atE; exact if_neg ht
    rw [he] at HA
    rw [if_neg ht]
    clear he ht
    generalize atN M (tickNm k) = an at *
    go_enter Tryd.func27, Tryd.ntmps27
    go_wp2_with fail
    go_quiet ((first | (go_at_call 6; exact HN.out _) | (go_at_call 16; exact HA.out _)))
    go_wp2_with fail
    go_ret
    exact ⟨rfl, _, rfl⟩
end Go.Proofs.YtgicenbjdadakaaDoor
