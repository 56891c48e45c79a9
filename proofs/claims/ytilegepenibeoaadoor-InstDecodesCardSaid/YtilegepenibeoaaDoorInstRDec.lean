/- The walk of the document's Decode (muntinref02). -/
import Derived.Test.YtilegepenibeoaaDoorInstRef
import Derived.Handy
namespace Go.Proofs.YtilegepenibeoaaDoor
open Go.RowKit
set_option linter.unusedVariables false
set_option linter.unusedSimpArgs false
theorem rawlit (w0 : Int) : (longK (kindS (w0 / 67108864)) → (kindS (w0 / 67108864) = 3 → (⟨w0 / 67108864, w0 / 2097152 % 32, 0, 0, true, w0 % 2097152⟩ : Ix) = rawS w0) ∧ (kindS (w0 / 67108864) ≠ 3 → (⟨w0 / 67108864, w0 / 2097152 % 32, 0, 0, true, sgn (w0 % 2097152) 1048576⟩ : Ix) = rawS w0)) ∧
    (¬ longK (kindS (w0 / 67108864)) → (w0 / 32768 % 2 = 1 → (⟨w0 / 67108864, w0 / 2097152 % 32, w0 / 65536 % 32, 0, true, sgn (w0 % 32768) 16384⟩ : Ix) = rawS w0) ∧ (w0 / 32768 % 2 ≠ 1 → (⟨w0 / 67108864, w0 / 2097152 % 32, w0 / 65536 % 32, w0 % 32, false, 0⟩ : Ix) = rawS w0)) := by
  unfold rawS
  refine ⟨fun hl => ⟨fun h => ?_, fun h => ?_⟩, fun hl => ⟨fun h => ?_, fun h => ?_⟩⟩
  · simp only [if_pos hl, if_pos h]
  · simp only [if_pos hl, if_neg h]
  · simp only [if_neg hl, if_pos h]
  · simp only [if_neg hl, if_neg h]
set_option maxRecDepth 100000 in
set_option maxHeartbeats 1000000 in
theorem rdec_long1 (w0 : Int) (h0 : 0 ≤ w0) (h1 : w0 < 4294967296) (hl : longK (kindS (w0 / 67108864))) (h3 : kindS (w0 / 67108864) = 3) (w : World) :
    Calls Tryd.prog 17 #[.int .u32 w0] w fun e w' => e = .returned (.tuple #[(decS w0).agg, .bool (decB w0)]) ∧ Below w.heap.size w w' := by
  have rw0 := ((rawlit w0).1 hl).1 h3
  have RW := ihid rw0
  have b0 : 0 ≤ w0 / 67108864 ∧ w0 / 67108864 < 256 := by omega
  have hk := fun W => rkind_any (w0 / 67108864) (kindS (w0 / 67108864)) b0.1 rfl W
  have HK := ihid hk
  have hk1 : decide (3 ≤ kindS (w0 / 67108864)) = true := by rcases hl with h | h | h <;> rw [h] <;> rfl
  have hk2 : decide (kindS (w0 / 67108864) ≤ 5) = true := by rcases hl with h | h | h <;> rw [h] <;> rfl
  have b1 : 0 ≤ w0 / 2097152 % 32 ∧ w0 / 2097152 % 32 < 32 := by omega
  have h3' : (kindS (w0 / 67108864) == 3) = true := by simpa using h3
  have HS := ihid (rsigned_any (w0 % 2097152) 21 1048576 (.inl ⟨rfl, rfl⟩) (by omega) (by omega))
  have henc : ∀ W, Calls Tryd.prog 14 #[(⟨w0 / 67108864, w0 / 2097152 % 32, 0, 0, true, w0 % 2097152⟩ : Ix).agg] W fun e w' => e = .returned (.tuple #[.int .u32 (encS (rawS w0)), .int .i64 (encE (rawS w0))]) ∧ Below W.heap.size W w' := by
    intro W
    have h := renc_any (rawS w0) (raw_bd h0 h1) W
    rw [← congrArg Ix.agg rw0] at h
    exact h
  have HE := ihid henc
  clear hl h3 henc rw0 hk
  generalize kindS (w0 / 67108864) = q at *
  go_enter Tryd.func17, Tryd.ntmps17
  go_wp2_with fail
  refine (HK.out _).mono ?_
  rintro e w' ⟨rfl, rfl⟩
  go_wp2_with fail
  refine (HS.out _).mono ?_
  rintro e w' ⟨rfl, rfl⟩
  go_wp2_with fail
  refine (HE.out _).mono ?_
  have DT := ihid (dec_test w0)
  generalize encS (rawS w0) = v at DT ⊢
  generalize encE (rawS w0) = u at DT ⊢
  rintro e w' ⟨rfl, hbl⟩
  obtain ⟨hc, hf⟩ := ibcell hbl
  have hz : w.heap.size + 1 < w'.heap.size := by have := hbl.size; simp [go_sem] at this; omega
  have hr0 : w'.cell? ⟨w.heap.size, 0, none⟩ = some (.int .u8 0) := by rw [hc _ _ (by simp [go_sem])]; simp [go_sem]
  have hr1 : w'.cell? ⟨w.heap.size, 1, none⟩ = some (.int .u8 0) := by rw [hc _ _ (by simp [go_sem])]; simp [go_sem]
  have hr2 : w'.cell? ⟨w.heap.size, 2, none⟩ = some (.int .u8 0) := by rw [hc _ _ (by simp [go_sem])]; simp [go_sem]
  have hr3 : w'.cell? ⟨w.heap.size, 3, none⟩ = some (.int .u8 0) := by rw [hc _ _ (by simp [go_sem])]; simp [go_sem]
  have hr4 : w'.cell? ⟨w.heap.size, 4, none⟩ = some (.bool false) := by rw [hc _ _ (by simp [go_sem])]; simp [go_sem]
  have hr5 : w'.cell? ⟨w.heap.size, 5, none⟩ = some (.int .i32 0) := by rw [hc _ _ (by simp [go_sem])]; simp [go_sem]
  have HB : Below w.heap.size w w' := (((Below.refl _ w).alloc (Nat.le_refl _) _).alloc (by simp) _).trans (hbl.mono (by simp [go_sem]; omega))
  have HB := ihid HB
  clear hbl
  by_cases hu : u = 0
  · have hu2 : (u != 0) = false := by simpa using hu
    have HU := ihid hu
    clear hu
    by_cases hv : v = w0
    · have hv2 : (v != w0) = false := by simpa using hv
      have HV := ihid hv
      clear hv
      go_wp2_with fail
      refine bodyPost_ret (by simp [results, Tryd.results17, go_sem, hr0, hr1, hr2, hr3, hr4, hr5]; try rfl) rfl ?_
      have hb := HB.out
      exact ⟨dec_yes DT.out ⟨HU.out, HV.out⟩ RW.out, by go_grown⟩
    · have hv2 : (v != w0) = true := by simpa using hv
      have HV := ihid hv
      clear hv
      go_wp2_with fail
      refine bodyPost_ret (by simp [results, Tryd.results17, go_sem, hr0, hr1, hr2, hr3, hr4, hr5]; try rfl) rfl ?_
      have hb := HB.out
      exact ⟨dec_no DT.out (fun h => HV.out h.2), by go_grown⟩
  · have hu2 : (u != 0) = true := by simpa using hu
    have HU := ihid hu
    clear hu
    go_wp2_with fail
    refine bodyPost_ret (by simp [results, Tryd.results17, go_sem, hr0, hr1, hr2, hr3, hr4, hr5]; try rfl) rfl ?_
    have hb := HB.out
    exact ⟨dec_no DT.out (fun h => HU.out h.1), by go_grown⟩
set_option maxRecDepth 100000 in
set_option maxHeartbeats 1000000 in
theorem rdec_long2 (w0 : Int) (h0 : 0 ≤ w0) (h1 : w0 < 4294967296) (hl : longK (kindS (w0 / 67108864))) (h3 : kindS (w0 / 67108864) ≠ 3) (w : World) :
    Calls Tryd.prog 17 #[.int .u32 w0] w fun e w' => e = .returned (.tuple #[(decS w0).agg, .bool (decB w0)]) ∧ Below w.heap.size w w' := by
  have rw0 := ((rawlit w0).1 hl).2 h3
  have RW := ihid rw0
  have b0 : 0 ≤ w0 / 67108864 ∧ w0 / 67108864 < 256 := by omega
  have hk := fun W => rkind_any (w0 / 67108864) (kindS (w0 / 67108864)) b0.1 rfl W
  have HK := ihid hk
  have hk1 : decide (3 ≤ kindS (w0 / 67108864)) = true := by rcases hl with h | h | h <;> rw [h] <;> rfl
  have hk2 : decide (kindS (w0 / 67108864) ≤ 5) = true := by rcases hl with h | h | h <;> rw [h] <;> rfl
  have b1 : 0 ≤ w0 / 2097152 % 32 ∧ w0 / 2097152 % 32 < 32 := by omega
  have h3' : (kindS (w0 / 67108864) == 3) = false := by simpa using h3
  have HS := ihid (rsigned_any (w0 % 2097152) 21 1048576 (.inl ⟨rfl, rfl⟩) (by omega) (by omega))
  have henc : ∀ W, Calls Tryd.prog 14 #[(⟨w0 / 67108864, w0 / 2097152 % 32, 0, 0, true, sgn (w0 % 2097152) 1048576⟩ : Ix).agg] W fun e w' => e = .returned (.tuple #[.int .u32 (encS (rawS w0)), .int .i64 (encE (rawS w0))]) ∧ Below W.heap.size W w' := by
    intro W
    have h := renc_any (rawS w0) (raw_bd h0 h1) W
    rw [← congrArg Ix.agg rw0] at h
    exact h
  have HE := ihid henc
  clear hl h3 henc rw0 hk
  generalize kindS (w0 / 67108864) = q at *
  go_enter Tryd.func17, Tryd.ntmps17
  go_wp2_with fail
  refine (HK.out _).mono ?_
  rintro e w' ⟨rfl, rfl⟩
  go_wp2_with fail
  refine (HS.out _).mono ?_
  rintro e w' ⟨rfl, rfl⟩
  go_wp2_with fail
  refine (HE.out _).mono ?_
  have DT := ihid (dec_test w0)
  generalize encS (rawS w0) = v at DT ⊢
  generalize encE (rawS w0) = u at DT ⊢
  rintro e w' ⟨rfl, hbl⟩
  obtain ⟨hc, hf⟩ := ibcell hbl
  have hz : w.heap.size + 1 < w'.heap.size := by have := hbl.size; simp [go_sem] at this; omega
  have hr0 : w'.cell? ⟨w.heap.size, 0, none⟩ = some (.int .u8 0) := by rw [hc _ _ (by simp [go_sem])]; simp [go_sem]
  have hr1 : w'.cell? ⟨w.heap.size, 1, none⟩ = some (.int .u8 0) := by rw [hc _ _ (by simp [go_sem])]; simp [go_sem]
  have hr2 : w'.cell? ⟨w.heap.size, 2, none⟩ = some (.int .u8 0) := by rw [hc _ _ (by simp [go_sem])]; simp [go_sem]
  have hr3 : w'.cell? ⟨w.heap.size, 3, none⟩ = some (.int .u8 0) := by rw [hc _ _ (by simp [go_sem])]; simp [go_sem]
  have hr4 : w'.cell? ⟨w.heap.size, 4, none⟩ = some (.bool false) := by rw [hc _ _ (by simp [go_sem])]; simp [go_sem]
  have hr5 : w'.cell? ⟨w.heap.size, 5, none⟩ = some (.int .i32 0) := by rw [hc _ _ (by simp [go_sem])]; simp [go_sem]
  have HB : Below w.heap.size w w' := (((Below.refl _ w).alloc (Nat.le_refl _) _).alloc (by simp) _).trans (hbl.mono (by simp [go_sem]; omega))
  have HB := ihid HB
  clear hbl
  by_cases hu : u = 0
  · have hu2 : (u != 0) = false := by simpa using hu
    have HU := ihid hu
    clear hu
    by_cases hv : v = w0
    · have hv2 : (v != w0) = false := by simpa using hv
      have HV := ihid hv
      clear hv
      go_wp2_with fail
      refine bodyPost_ret (by simp [results, Tryd.results17, go_sem, hr0, hr1, hr2, hr3, hr4, hr5]; try rfl) rfl ?_
      have hb := HB.out
      exact ⟨dec_yes DT.out ⟨HU.out, HV.out⟩ RW.out, by go_grown⟩
    · have hv2 : (v != w0) = true := by simpa using hv
      have HV := ihid hv
      clear hv
      go_wp2_with fail
      refine bodyPost_ret (by simp [results, Tryd.results17, go_sem, hr0, hr1, hr2, hr3, hr4, hr5]; try rfl) rfl ?_
      have hb := HB.out
      exact ⟨dec_no DT.out (fun h => HV.out h.2), by go_grown⟩
  · have hu2 : (u != 0) = true := by simpa using hu
    have HU := ihid hu
    clear hu
    go_wp2_with fail
    refine bodyPost_ret (by simp [results, Tryd.results17, go_sem, hr0, hr1, hr2, hr3, hr4, hr5]; try rfl) rfl ?_
    have hb := HB.out
    exact ⟨dec_no DT.out (fun h => HU.out h.1), by go_grown⟩
set_option maxRecDepth 100000 in
set_option maxHeartbeats 1000000 in
theorem rdec_is (w0 : Int) (h0 : 0 ≤ w0) (h1 : w0 < 4294967296) (hl : ¬ longK (kindS (w0 / 67108864))) (h3 : w0 / 32768 % 2 = 1) (w : World) :
    Calls Tryd.prog 17 #[.int .u32 w0] w fun e w' => e = .returned (.tuple #[(decS w0).agg, .bool (decB w0)]) ∧ Below w.heap.size w w' := by
  have rw0 := ((rawlit w0).2 hl).1 h3
  have RW := ihid rw0
  have b0 : 0 ≤ w0 / 67108864 ∧ w0 / 67108864 < 256 := by omega
  have hk := fun W => rkind_any (w0 / 67108864) (kindS (w0 / 67108864)) b0.1 rfl W
  have HK := ihid hk
  have hks : decide (3 ≤ kindS (w0 / 67108864)) = false ∨ decide (3 ≤ kindS (w0 / 67108864)) = true ∧ decide (kindS (w0 / 67108864) ≤ 5) = false := by
    unfold longK at hl; simp; omega
  have b1 : 0 ≤ w0 / 2097152 % 32 ∧ w0 / 2097152 % 32 < 32 := by omega
  have h3' : (w0 / 32768 % 2 == 1) = true := by simpa using h3
  have b2 : 0 ≤ w0 / 65536 % 32 ∧ w0 / 65536 % 32 < 32 := by omega
  have HS := ihid (rsigned_any (w0 % 32768) 15 16384 (.inr ⟨rfl, rfl⟩) (by omega) (by omega))
  have henc : ∀ W, Calls Tryd.prog 14 #[(⟨w0 / 67108864, w0 / 2097152 % 32, w0 / 65536 % 32, 0, true, sgn (w0 % 32768) 16384⟩ : Ix).agg] W fun e w' => e = .returned (.tuple #[.int .u32 (encS (rawS w0)), .int .i64 (encE (rawS w0))]) ∧ Below W.heap.size W w' := by
    intro W
    have h := renc_any (rawS w0) (raw_bd h0 h1) W
    rw [← congrArg Ix.agg rw0] at h
    exact h
  have HE := ihid henc
  clear hl h3 henc rw0 hk
  generalize kindS (w0 / 67108864) = q at *
  rcases hks with hk1 | ⟨hk1, hk2⟩
  all_goals
    go_enter Tryd.func17, Tryd.ntmps17
    go_wp2_with fail
    refine (HK.out _).mono ?_
    rintro e w' ⟨rfl, rfl⟩
    go_wp2_with fail
    refine (HS.out _).mono ?_
    rintro e w' ⟨rfl, rfl⟩
    go_wp2_with fail
    refine (HE.out _).mono ?_
    have DT := ihid (dec_test w0)
    generalize encS (rawS w0) = v at DT ⊢
    generalize encE (rawS w0) = u at DT ⊢
    rintro e w' ⟨rfl, hbl⟩
    obtain ⟨hc, hf⟩ := ibcell hbl
    have hz : w.heap.size + 1 < w'.heap.size := by have := hbl.size; simp [go_sem] at this; omega
    have hr0 : w'.cell? ⟨w.heap.size, 0, none⟩ = some (.int .u8 0) := by rw [hc _ _ (by simp [go_sem])]; simp [go_sem]
    have hr1 : w'.cell? ⟨w.heap.size, 1, none⟩ = some (.int .u8 0) := by rw [hc _ _ (by simp [go_sem])]; simp [go_sem]
    have hr2 : w'.cell? ⟨w.heap.size, 2, none⟩ = some (.int .u8 0) := by rw [hc _ _ (by simp [go_sem])]; simp [go_sem]
    have hr3 : w'.cell? ⟨w.heap.size, 3, none⟩ = some (.int .u8 0) := by rw [hc _ _ (by simp [go_sem])]; simp [go_sem]
    have hr4 : w'.cell? ⟨w.heap.size, 4, none⟩ = some (.bool false) := by rw [hc _ _ (by simp [go_sem])]; simp [go_sem]
    have hr5 : w'.cell? ⟨w.heap.size, 5, none⟩ = some (.int .i32 0) := by rw [hc _ _ (by simp [go_sem])]; simp [go_sem]
    have HB : Below w.heap.size w w' := (((Below.refl _ w).alloc (Nat.le_refl _) _).alloc (by simp) _).trans (hbl.mono (by simp [go_sem]; omega))
    have HB := ihid HB
    clear hbl
    by_cases hu : u = 0
    · have hu2 : (u != 0) = false := by simpa using hu
      have HU := ihid hu
      clear hu
      by_cases hv : v = w0
      · have hv2 : (v != w0) = false := by simpa using hv
        have HV := ihid hv
        clear hv
        go_wp2_with fail
        refine bodyPost_ret (by simp [results, Tryd.results17, go_sem, hr0, hr1, hr2, hr3, hr4, hr5]; try rfl) rfl ?_
        have hb := HB.out
        exact ⟨dec_yes DT.out ⟨HU.out, HV.out⟩ RW.out, by go_grown⟩
      · have hv2 : (v != w0) = true := by simpa using hv
        have HV := ihid hv
        clear hv
        go_wp2_with fail
        refine bodyPost_ret (by simp [results, Tryd.results17, go_sem, hr0, hr1, hr2, hr3, hr4, hr5]; try rfl) rfl ?_
        have hb := HB.out
        exact ⟨dec_no DT.out (fun h => HV.out h.2), by go_grown⟩
    · have hu2 : (u != 0) = true := by simpa using hu
      have HU := ihid hu
      clear hu
      go_wp2_with fail
      refine bodyPost_ret (by simp [results, Tryd.results17, go_sem, hr0, hr1, hr2, hr3, hr4, hr5]; try rfl) rfl ?_
      have hb := HB.out
      exact ⟨dec_no DT.out (fun h => HU.out h.1), by go_grown⟩
set_option maxRecDepth 100000 in
set_option maxHeartbeats 1000000 in
theorem rdec_reg (w0 : Int) (h0 : 0 ≤ w0) (h1 : w0 < 4294967296) (hl : ¬ longK (kindS (w0 / 67108864))) (h3 : w0 / 32768 % 2 ≠ 1) (w : World) :
    Calls Tryd.prog 17 #[.int .u32 w0] w fun e w' => e = .returned (.tuple #[(decS w0).agg, .bool (decB w0)]) ∧ Below w.heap.size w w' := by
  have rw0 := ((rawlit w0).2 hl).2 h3
  have RW := ihid rw0
  have b0 : 0 ≤ w0 / 67108864 ∧ w0 / 67108864 < 256 := by omega
  have hk := fun W => rkind_any (w0 / 67108864) (kindS (w0 / 67108864)) b0.1 rfl W
  have HK := ihid hk
  have hks : decide (3 ≤ kindS (w0 / 67108864)) = false ∨ decide (3 ≤ kindS (w0 / 67108864)) = true ∧ decide (kindS (w0 / 67108864) ≤ 5) = false := by
    unfold longK at hl; simp; omega
  have b1 : 0 ≤ w0 / 2097152 % 32 ∧ w0 / 2097152 % 32 < 32 := by omega
  have h3' : (w0 / 32768 % 2 == 1) = false := by simpa using h3
  have b3 : 0 ≤ w0 % 32 ∧ w0 % 32 < 32 := by omega
  have b2 : 0 ≤ w0 / 65536 % 32 ∧ w0 / 65536 % 32 < 32 := by omega
  have henc : ∀ W, Calls Tryd.prog 14 #[(⟨w0 / 67108864, w0 / 2097152 % 32, w0 / 65536 % 32, w0 % 32, false, 0⟩ : Ix).agg] W fun e w' => e = .returned (.tuple #[.int .u32 (encS (rawS w0)), .int .i64 (encE (rawS w0))]) ∧ Below W.heap.size W w' := by
    intro W
    have h := renc_any (rawS w0) (raw_bd h0 h1) W
    rw [← congrArg Ix.agg rw0] at h
    exact h
  have HE := ihid henc
  clear hl h3 henc rw0 hk
  generalize kindS (w0 / 67108864) = q at *
  rcases hks with hk1 | ⟨hk1, hk2⟩
  all_goals
    go_enter Tryd.func17, Tryd.ntmps17
    go_wp2_with fail
    refine (HK.out _).mono ?_
    rintro e w' ⟨rfl, rfl⟩
    go_wp2_with fail
    refine (HE.out _).mono ?_
    have DT := ihid (dec_test w0)
    generalize encS (rawS w0) = v at DT ⊢
    generalize encE (rawS w0) = u at DT ⊢
    rintro e w' ⟨rfl, hbl⟩
    obtain ⟨hc, hf⟩ := ibcell hbl
    have hz : w.heap.size + 1 < w'.heap.size := by have := hbl.size; simp [go_sem] at this; omega
    have hr0 : w'.cell? ⟨w.heap.size, 0, none⟩ = some (.int .u8 0) := by rw [hc _ _ (by simp [go_sem])]; simp [go_sem]
    have hr1 : w'.cell? ⟨w.heap.size, 1, none⟩ = some (.int .u8 0) := by rw [hc _ _ (by simp [go_sem])]; simp [go_sem]
    have hr2 : w'.cell? ⟨w.heap.size, 2, none⟩ = some (.int .u8 0) := by rw [hc _ _ (by simp [go_sem])]; simp [go_sem]
    have hr3 : w'.cell? ⟨w.heap.size, 3, none⟩ = some (.int .u8 0) := by rw [hc _ _ (by simp [go_sem])]; simp [go_sem]
    have hr4 : w'.cell? ⟨w.heap.size, 4, none⟩ = some (.bool false) := by rw [hc _ _ (by simp [go_sem])]; simp [go_sem]
    have hr5 : w'.cell? ⟨w.heap.size, 5, none⟩ = some (.int .i32 0) := by rw [hc _ _ (by simp [go_sem])]; simp [go_sem]
    have HB : Below w.heap.size w w' := (((Below.refl _ w).alloc (Nat.le_refl _) _).alloc (by simp) _).trans (hbl.mono (by simp [go_sem]; omega))
    have HB := ihid HB
    clear hbl
    by_cases hu : u = 0
    · have hu2 : (u != 0) = false := by simpa using hu
      have HU := ihid hu
      clear hu
      by_cases hv : v = w0
      · have hv2 : (v != w0) = false := by simpa using hv
        have HV := ihid hv
        clear hv
        go_wp2_with fail
        refine bodyPost_ret (by simp [results, Tryd.results17, go_sem, hr0, hr1, hr2, hr3, hr4, hr5]; try rfl) rfl ?_
        have hb := HB.out
        exact ⟨dec_yes DT.out ⟨HU.out, HV.out⟩ RW.out, by go_grown⟩
      · have hv2 : (v != w0) = true := by simpa using hv
        have HV := ihid hv
        clear hv
        go_wp2_with fail
        refine bodyPost_ret (by simp [results, Tryd.results17, go_sem, hr0, hr1, hr2, hr3, hr4, hr5]; try rfl) rfl ?_
        have hb := HB.out
        exact ⟨dec_no DT.out (fun h => HV.out h.2), by go_grown⟩
    · have hu2 : (u != 0) = true := by simpa using hu
      have HU := ihid hu
      clear hu
      go_wp2_with fail
      refine bodyPost_ret (by simp [results, Tryd.results17, go_sem, hr0, hr1, hr2, hr3, hr4, hr5]; try rfl) rfl ?_
      have hb := HB.out
      exact ⟨dec_no DT.out (fun h => HU.out h.1), by go_grown⟩
theorem rdec_any (w0 : Int) (h0 : 0 ≤ w0) (h1 : w0 < 4294967296) (w : World) :
    Calls Tryd.prog 17 #[.int .u32 w0] w fun e w' => e = .returned (.tuple #[(decS w0).agg, .bool (decB w0)]) ∧ Below w.heap.size w w' := by
  by_cases hl : longK (kindS (w0 / 67108864))
  · by_cases h3 : kindS (w0 / 67108864) = 3
    · exact rdec_long1 w0 h0 h1 hl h3 w
    · exact rdec_long2 w0 h0 h1 hl h3 w
  · by_cases h3 : w0 / 32768 % 2 = 1
    · exact rdec_is w0 h0 h1 hl h3 w
    · exact rdec_reg w0 h0 h1 hl h3 w
end Go.Proofs.YtilegepenibeoaaDoor
