/- Several texts in one: InstDec. -/
import Derived.Test.YtajholbcpmjhiaaGreatDoorH06
import Derived.Laws.EntriesVeiled
set_option linter.unusedVariables false
set_option linter.unusedSimpArgs false
/- The walk of inst.Decode. -/
namespace Go.Proofs.YtajholbcpmjhiaaGreatDoor
open Go.RowKit
theorem ibcell {W w1 : World} (hb : Below W.heap.size W w1) : (∀ b o, b < W.heap.size → w1.cell? ⟨b, o, none⟩ = W.cell? ⟨b, o, none⟩) ∧ (∀ b o, b < W.heap.size → w1.frozen? ⟨b, o, none⟩ = W.frozen? ⟨b, o, none⟩) :=
  ⟨fun b o h => hb.cell (p := ⟨b, o, none⟩) h, fun b o h => hb.frozen (p := ⟨b, o, none⟩) h⟩
set_option maxHeartbeats 400000 in
theorem take_any (bits many mask L : Int) (hbits : (bits = 21 ∧ many = 2097152 ∧ mask = 2097151) ∨ (bits = 15 ∧ many = 32768 ∧ mask = 32767) ∨ (bits = 1 ∧ many = 2 ∧ mask = 1) ∨ (bits = 5 ∧ many = 32 ∧ mask = 31)) (h0 : 0 ≤ L) (h1 : L < 4294967296) (g : Nat) (w : World) (hc : w.cell? ⟨g, 0, none⟩ = some (.int .u32 L)) (hf : w.frozen? ⟨g, 0, none⟩ = false) :
    Calls Tryz.prog 194 #[.int .u64 bits, .pointer (some ⟨g, 0, none⟩)] w fun e w' => e = .returned (.int .u32 (L % many)) ∧ w' = w.setCell ⟨g, 0, none⟩ (.int .u32 (L / many)) := by
  rcases hbits with ⟨rfl, rfl, rfl⟩ | ⟨rfl, rfl, rfl⟩ | ⟨rfl, rfl, rfl⟩ | ⟨rfl, rfl, rfl⟩
  · have e := and_mod 21 2097151 (by omega) (by decide) h0 h1
    have E := ihid e
    clear e
    go_enter Tryz.func194, Tryz.ntmps194
    go_wp2
    go_ret
    exact ⟨iret E.out, rfl⟩
  · have e := and_mod 15 32767 (by omega) (by decide) h0 h1
    have E := ihid e
    clear e
    go_enter Tryz.func194, Tryz.ntmps194
    go_wp2
    go_ret
    exact ⟨iret E.out, rfl⟩
  · have e := and_mod 1 1 (by omega) (by decide) h0 h1
    have E := ihid e
    clear e
    go_enter Tryz.func194, Tryz.ntmps194
    go_wp2
    go_ret
    exact ⟨iret E.out, rfl⟩
  · have e := and_mod 5 31 (by omega) (by decide) h0 h1
    have E := ihid e
    clear e
    go_enter Tryz.func194, Tryz.ntmps194
    go_wp2
    go_ret
    exact ⟨iret E.out, rfl⟩
theorem raw_long {w0 : Int} (h0 : 0 ≤ w0) (h1 : w0 < 4294967296) (hl : longK (kindS (w0 / 67108864))) :
    (w0 / 67108864 = 15 → (⟨w0 / 67108864, w0 / 2097152 % 32, 0, 0, true, w0 % 2097152⟩ : Ix) = rawS w0) ∧
    (w0 / 67108864 ≠ 15 → (⟨w0 / 67108864, w0 / 2097152 % 32, 0, 0, true, wrap32 (w0 % 2097152 * 2048) / 2048⟩ : Ix) = rawS w0) := by
  unfold rawS
  simp only [if_pos hl]
  have hk := kind_one (op := w0 / 67108864) rfl
  constructor
  · intro h
    rw [if_pos (by rw [h]; decide)]
  · intro h
    rw [if_neg (fun e => h (hk.1 e))]
    congr 1
    unfold sgn wrap32
    split <;> omega
theorem raw_short {w0 : Int} (h0 : 0 ≤ w0) (h1 : w0 < 4294967296) (hl : ¬ longK (kindS (w0 / 67108864))) :
    (w0 / 32768 % 2 = 1 → (⟨w0 / 67108864, w0 / 32768 / 2 / 32 % 32, w0 / 32768 / 2 % 32, 0, true, wrap32 (w0 % 32768 * 131072) / 131072⟩ : Ix) = rawS w0) ∧
    (w0 / 32768 % 2 ≠ 1 → (⟨w0 / 67108864, w0 / 32768 / 2 / 32 % 32, w0 / 32768 / 2 % 32, w0 % 32, false, 0⟩ : Ix) = rawS w0) := by
  unfold rawS
  simp only [if_neg hl]
  constructor
  · intro h
    rw [if_pos h]
    congr 1
    · omega
    · omega
    · unfold sgn wrap32
      split <;> omega
  · intro h
    rw [if_neg h]
    congr 1 <;> omega
theorem dec_test (w0 : Int) : decB w0 = decide (encE (rawS w0) = 0 ∧ encS (rawS w0) = w0) := by
  unfold decB encE encS
  by_cases h : mayP (rawS w0) <;> simp [h]
theorem dec_no {w0 u v : Int} (h : decB w0 = decide (u = 0 ∧ v = w0)) (hn : ¬ (u = 0 ∧ v = w0)) : Ending.returned (.tuple #[.agg #[.int .u8 0, .int .u8 0, .int .u8 0, .int .u8 0, .bool false, .int .i32 0], .bool false]) = Ending.returned (.tuple #[(decS w0).agg, .bool (decB w0)]) := by
  have hB : decB w0 = false := by rw [h]; exact decide_eq_false hn
  unfold decS; rw [hB]; rfl
theorem dec_yes {w0 u v : Int} {x : Ix} (h : decB w0 = decide (u = 0 ∧ v = w0)) (hy : u = 0 ∧ v = w0) (hx : x = rawS w0) : Ending.returned (.tuple #[x.agg, .bool true]) = Ending.returned (.tuple #[(decS w0).agg, .bool (decB w0)]) := by
  have hB : decB w0 = true := by rw [h]; exact decide_eq_true hy
  unfold decS; rw [hB, hx]; rfl
set_option maxRecDepth 100000 in
set_option maxHeartbeats 1000000 in
theorem dec_long1 (w0 : Int) (h0 : 0 ≤ w0) (h1 : w0 < 4294967296) (hl : longK (kindS (w0 / 67108864))) (h3 : w0 / 67108864 = 15) (w : World) (ht : Tab w) :
    Calls Tryz.prog 156 #[.int .u32 w0] w fun e w' => e = .returned (.tuple #[(decS w0).agg, .bool (decB w0)]) ∧ Below w.heap.size w w' := by
  have HT := ihid ht
  have rw0 := (raw_long h0 h1 hl).1 h3
  have RW := ihid rw0
  obtain ⟨q, hq, hq2⟩ := long_bit hl
  have hq3 : (q != 128) = true := by rcases hl with h | h | h <;> (rw [h] at hq; subst hq; decide)
  have HQ := ihid hq
  have T0 := ihid (take_any 21 2097152 2097151 (w0) (.inl ⟨rfl, rfl, rfl⟩) (by omega) (by omega))
  have T1 := ihid (take_any 5 32 31 (w0 / 2097152) (.inr (.inr (.inr ⟨rfl, rfl, rfl⟩))) (by omega) (by omega))
  have b0 : 0 ≤ w0 / 67108864 ∧ w0 / 67108864 < 256 := by omega
  have h3' : (w0 / 67108864 == 15) = true := by simpa using h3
  have b1 : 0 ≤ w0 / 2097152 % 32 ∧ w0 / 2097152 % 32 < 32 := by omega
  have henc : ∀ W, Tab W → Calls Tryz.prog 79 #[(⟨w0 / 67108864, w0 / 2097152 % 32, 0, 0, true, w0 % 2097152⟩ : Ix).agg] W fun e w' => e = .returned (.tuple #[.int .u32 (encS (rawS w0)), .int .i64 (encE (rawS w0))]) ∧ Below W.heap.size W w' := by
    intro W hW
    have h := encode_any (rawS w0) (raw_bd h0 h1) W hW
    rw [← congrArg Ix.agg rw0] at h
    exact h
  have HE := ihid henc
  clear ht hl hq h3 henc rw0
  go_enter Tryz.func156, Tryz.ntmps156
  go_wp2_with fail
  refine (ihas_any (w0 / 67108864) q b0.1 b0.2 HQ.out _ (HT.out.keep ((((Below.refl _ w).alloc (Nat.le_refl _) _).alloc (by simp) _).alloc (by simp; omega) _))).mono ?_
  rintro e w' ⟨rfl, rfl⟩
  go_wp2_with fail
  refine (ihas_any (w0 / 67108864) q b0.1 b0.2 HQ.out _ (HT.out.keep ((((Below.refl _ w).alloc (Nat.le_refl _) _).alloc (by simp) _).alloc (by simp; omega) _))).mono ?_
  rintro e w' ⟨rfl, rfl⟩
  go_wp2_with fail
  refine (T0.out _ _ ?_ ?_).mono ?_
  · simp [go_sem]
  · simp [go_sem]
  rintro e w' ⟨rfl, rfl⟩
  go_wp2_with fail
  refine (T1.out _ _ ?_ ?_).mono ?_
  · simp [go_sem]
  · simp [go_sem]
  rintro e w' ⟨rfl, rfl⟩
  go_wp2_with fail
  refine (HE.out _ (HT.out.keep ((((Below.refl _ w).alloc (Nat.le_refl _) _).alloc (by simp) _).alloc (by simp; omega) _))).mono ?_
  have DT := ihid (dec_test w0)
  generalize encS (rawS w0) = v at DT ⊢
  generalize encE (rawS w0) = u at DT ⊢
  rintro e w' ⟨rfl, hbl⟩
  obtain ⟨hc, hf⟩ := ibcell hbl
  have hz : w.heap.size + 1 + 1 < w'.heap.size := by have := hbl.size; simp [go_sem] at this; omega
  have hr0 : w'.cell? ⟨w.heap.size, 0, none⟩ = some (.int .u8 0) := by rw [hc _ _ (by simp [go_sem])]; simp [go_sem]
  have hr1 : w'.cell? ⟨w.heap.size, 1, none⟩ = some (.int .u8 0) := by rw [hc _ _ (by simp [go_sem])]; simp [go_sem]
  have hr2 : w'.cell? ⟨w.heap.size, 2, none⟩ = some (.int .u8 0) := by rw [hc _ _ (by simp [go_sem])]; simp [go_sem]
  have hr3 : w'.cell? ⟨w.heap.size, 3, none⟩ = some (.int .u8 0) := by rw [hc _ _ (by simp [go_sem])]; simp [go_sem]
  have hr4 : w'.cell? ⟨w.heap.size, 4, none⟩ = some (.bool false) := by rw [hc _ _ (by simp [go_sem])]; simp [go_sem]
  have hr5 : w'.cell? ⟨w.heap.size, 5, none⟩ = some (.int .i32 0) := by rw [hc _ _ (by simp [go_sem])]; simp [go_sem]
  have HB : Below w.heap.size w w' := ((((Below.refl _ w).alloc (Nat.le_refl _) _).alloc (by simp) _).alloc (by simp; omega) _).trans (hbl.mono (by simp [go_sem]; omega))
  have HB := ihid HB
  clear hbl
  by_cases hu : u = 0
  · have hu2 : (u != 0) = false := by simpa using hu
    have HU := ihid hu
    clear hu
    by_cases hv : v = w0
    · have hv2 : (v != w0) = false := by simpa using hv
      have HV := ihid hv
      clear hv
      go_wp2_with fail
      refine bodyPost_ret (by simp [results, Tryz.results156, go_sem, hr0, hr1, hr2, hr3, hr4, hr5]; try rfl) rfl ?_
      have hb := HB.out
      exact ⟨dec_yes DT.out ⟨HU.out, HV.out⟩ RW.out, by go_grown⟩
    · have hv2 : (v != w0) = true := by simpa using hv
      have HV := ihid hv
      clear hv
      go_wp2_with fail
      refine bodyPost_ret (by simp [results, Tryz.results156, go_sem, hr0, hr1, hr2, hr3, hr4, hr5]; try rfl) rfl ?_
      have hb := HB.out
      exact ⟨dec_no DT.out (fun h => HV.out h.2), by go_grown⟩
  · have hu2 : (u != 0) = true := by simpa using hu
    have HU := ihid hu
    clear hu
    go_wp2_with fail
    refine bodyPost_ret (by simp [results, Tryz.results156, go_sem, hr0, hr1, hr2, hr3, hr4, hr5]; try rfl) rfl ?_
    have hb := HB.out
    exact ⟨dec_no DT.out (fun h => HU.out h.1), by go_grown⟩
set_option maxRecDepth 100000 in
set_option maxHeartbeats 1000000 in
theorem dec_long2 (w0 : Int) (h0 : 0 ≤ w0) (h1 : w0 < 4294967296) (hl : longK (kindS (w0 / 67108864))) (h3 : w0 / 67108864 ≠ 15) (w : World) (ht : Tab w) :
    Calls Tryz.prog 156 #[.int .u32 w0] w fun e w' => e = .returned (.tuple #[(decS w0).agg, .bool (decB w0)]) ∧ Below w.heap.size w w' := by
  have HT := ihid ht
  have rw0 := (raw_long h0 h1 hl).2 h3
  have RW := ihid rw0
  obtain ⟨q, hq, hq2⟩ := long_bit hl
  have hq3 : (q != 128) = true := by rcases hl with h | h | h <;> (rw [h] at hq; subst hq; decide)
  have HQ := ihid hq
  have T0 := ihid (take_any 21 2097152 2097151 (w0) (.inl ⟨rfl, rfl, rfl⟩) (by omega) (by omega))
  have T1 := ihid (take_any 5 32 31 (w0 / 2097152) (.inr (.inr (.inr ⟨rfl, rfl, rfl⟩))) (by omega) (by omega))
  have b0 : 0 ≤ w0 / 67108864 ∧ w0 / 67108864 < 256 := by omega
  have h3' : (w0 / 67108864 == 15) = false := by simpa using h3
  have b1 : 0 ≤ w0 / 2097152 % 32 ∧ w0 / 2097152 % 32 < 32 := by omega
  have henc : ∀ W, Tab W → Calls Tryz.prog 79 #[(⟨w0 / 67108864, w0 / 2097152 % 32, 0, 0, true, wrap32 (w0 % 2097152 * 2048) / 2048⟩ : Ix).agg] W fun e w' => e = .returned (.tuple #[.int .u32 (encS (rawS w0)), .int .i64 (encE (rawS w0))]) ∧ Below W.heap.size W w' := by
    intro W hW
    have h := encode_any (rawS w0) (raw_bd h0 h1) W hW
    rw [← congrArg Ix.agg rw0] at h
    exact h
  have HE := ihid henc
  clear ht hl hq h3 henc rw0
  go_enter Tryz.func156, Tryz.ntmps156
  go_wp2_with fail
  refine (ihas_any (w0 / 67108864) q b0.1 b0.2 HQ.out _ (HT.out.keep ((((Below.refl _ w).alloc (Nat.le_refl _) _).alloc (by simp) _).alloc (by simp; omega) _))).mono ?_
  rintro e w' ⟨rfl, rfl⟩
  go_wp2_with fail
  refine (ihas_any (w0 / 67108864) q b0.1 b0.2 HQ.out _ (HT.out.keep ((((Below.refl _ w).alloc (Nat.le_refl _) _).alloc (by simp) _).alloc (by simp; omega) _))).mono ?_
  rintro e w' ⟨rfl, rfl⟩
  go_wp2_with fail
  refine (T0.out _ _ ?_ ?_).mono ?_
  · simp [go_sem]
  · simp [go_sem]
  rintro e w' ⟨rfl, rfl⟩
  go_wp2_with fail
  refine (T1.out _ _ ?_ ?_).mono ?_
  · simp [go_sem]
  · simp [go_sem]
  rintro e w' ⟨rfl, rfl⟩
  go_wp2_with fail
  refine (HE.out _ (HT.out.keep ((((Below.refl _ w).alloc (Nat.le_refl _) _).alloc (by simp) _).alloc (by simp; omega) _))).mono ?_
  have DT := ihid (dec_test w0)
  generalize encS (rawS w0) = v at DT ⊢
  generalize encE (rawS w0) = u at DT ⊢
  rintro e w' ⟨rfl, hbl⟩
  obtain ⟨hc, hf⟩ := ibcell hbl
  have hz : w.heap.size + 1 + 1 < w'.heap.size := by have := hbl.size; simp [go_sem] at this; omega
  have hr0 : w'.cell? ⟨w.heap.size, 0, none⟩ = some (.int .u8 0) := by rw [hc _ _ (by simp [go_sem])]; simp [go_sem]
  have hr1 : w'.cell? ⟨w.heap.size, 1, none⟩ = some (.int .u8 0) := by rw [hc _ _ (by simp [go_sem])]; simp [go_sem]
  have hr2 : w'.cell? ⟨w.heap.size, 2, none⟩ = some (.int .u8 0) := by rw [hc _ _ (by simp [go_sem])]; simp [go_sem]
  have hr3 : w'.cell? ⟨w.heap.size, 3, none⟩ = some (.int .u8 0) := by rw [hc _ _ (by simp [go_sem])]; simp [go_sem]
  have hr4 : w'.cell? ⟨w.heap.size, 4, none⟩ = some (.bool false) := by rw [hc _ _ (by simp [go_sem])]; simp [go_sem]
  have hr5 : w'.cell? ⟨w.heap.size, 5, none⟩ = some (.int .i32 0) := by rw [hc _ _ (by simp [go_sem])]; simp [go_sem]
  have HB : Below w.heap.size w w' := ((((Below.refl _ w).alloc (Nat.le_refl _) _).alloc (by simp) _).alloc (by simp; omega) _).trans (hbl.mono (by simp [go_sem]; omega))
  have HB := ihid HB
  clear hbl
  by_cases hu : u = 0
  · have hu2 : (u != 0) = false := by simpa using hu
    have HU := ihid hu
    clear hu
    by_cases hv : v = w0
    · have hv2 : (v != w0) = false := by simpa using hv
      have HV := ihid hv
      clear hv
      go_wp2_with fail
      refine bodyPost_ret (by simp [results, Tryz.results156, go_sem, hr0, hr1, hr2, hr3, hr4, hr5]; try rfl) rfl ?_
      have hb := HB.out
      exact ⟨dec_yes DT.out ⟨HU.out, HV.out⟩ RW.out, by go_grown⟩
    · have hv2 : (v != w0) = true := by simpa using hv
      have HV := ihid hv
      clear hv
      go_wp2_with fail
      refine bodyPost_ret (by simp [results, Tryz.results156, go_sem, hr0, hr1, hr2, hr3, hr4, hr5]; try rfl) rfl ?_
      have hb := HB.out
      exact ⟨dec_no DT.out (fun h => HV.out h.2), by go_grown⟩
  · have hu2 : (u != 0) = true := by simpa using hu
    have HU := ihid hu
    clear hu
    go_wp2_with fail
    refine bodyPost_ret (by simp [results, Tryz.results156, go_sem, hr0, hr1, hr2, hr3, hr4, hr5]; try rfl) rfl ?_
    have hb := HB.out
    exact ⟨dec_no DT.out (fun h => HU.out h.1), by go_grown⟩
set_option maxRecDepth 100000 in
set_option maxHeartbeats 1000000 in
theorem dec_is (w0 : Int) (h0 : 0 ≤ w0) (h1 : w0 < 4294967296) (hl : ¬ longK (kindS (w0 / 67108864))) (h3 : w0 / 32768 % 2 = 1) (w : World) (ht : Tab w) :
    Calls Tryz.prog 156 #[.int .u32 w0] w fun e w' => e = .returned (.tuple #[(decS w0).agg, .bool (decB w0)]) ∧ Below w.heap.size w w' := by
  have HT := ihid ht
  have rw0 := (raw_short h0 h1 hl).1 h3
  have RW := ihid rw0
  obtain ⟨q, hq, hq2⟩ : ∃ q, hasK (kindS (w0 / 67108864)) = q ∧ (bits .and .u8 q 16 != 0) = false := by
    by_cases h0 : kindS (w0 / 67108864) = 0
    · exact ⟨128, by rw [h0]; decide, by decide⟩
    · exact short_bit hl h0
  have HQ := ihid hq
  have T0 := ihid (take_any 15 32768 32767 (w0) (.inr (.inl ⟨rfl, rfl, rfl⟩)) (by omega) (by omega))
  have T1 := ihid (take_any 1 2 1 (w0 / 32768) (.inr (.inr (.inl ⟨rfl, rfl, rfl⟩))) (by omega) (by omega))
  have T2 := ihid (take_any 5 32 31 (w0 / 32768 / 2) (.inr (.inr (.inr ⟨rfl, rfl, rfl⟩))) (by omega) (by omega))
  have T3 := ihid (take_any 5 32 31 (w0 / 32768 / 2 / 32) (.inr (.inr (.inr ⟨rfl, rfl, rfl⟩))) (by omega) (by omega))
  have b0 : 0 ≤ w0 / 67108864 ∧ w0 / 67108864 < 256 := by omega
  have h3' : (w0 / 32768 % 2 == 1) = true := by simpa using h3
  have b1 : 0 ≤ w0 / 32768 / 2 % 32 ∧ w0 / 32768 / 2 % 32 < 32 := by omega
  have b2 : 0 ≤ w0 / 32768 / 2 / 32 % 32 ∧ w0 / 32768 / 2 / 32 % 32 < 32 := by omega
  have henc : ∀ W, Tab W → Calls Tryz.prog 79 #[(⟨w0 / 67108864, w0 / 32768 / 2 / 32 % 32, w0 / 32768 / 2 % 32, 0, true, wrap32 (w0 % 32768 * 131072) / 131072⟩ : Ix).agg] W fun e w' => e = .returned (.tuple #[.int .u32 (encS (rawS w0)), .int .i64 (encE (rawS w0))]) ∧ Below W.heap.size W w' := by
    intro W hW
    have h := encode_any (rawS w0) (raw_bd h0 h1) W hW
    rw [← congrArg Ix.agg rw0] at h
    exact h
  have HE := ihid henc
  clear ht hl hq h3 henc rw0
  go_enter Tryz.func156, Tryz.ntmps156
  go_wp2_with fail
  refine (ihas_any (w0 / 67108864) q b0.1 b0.2 HQ.out _ (HT.out.keep ((((Below.refl _ w).alloc (Nat.le_refl _) _).alloc (by simp) _).alloc (by simp; omega) _))).mono ?_
  rintro e w' ⟨rfl, rfl⟩
  go_wp2_with fail
  refine (T0.out _ _ ?_ ?_).mono ?_
  · simp [go_sem]
  · simp [go_sem]
  rintro e w' ⟨rfl, rfl⟩
  go_wp2_with fail
  refine (T1.out _ _ ?_ ?_).mono ?_
  · simp [go_sem]
  · simp [go_sem]
  rintro e w' ⟨rfl, rfl⟩
  go_wp2_with fail
  refine (T2.out _ _ ?_ ?_).mono ?_
  · simp [go_sem]
  · simp [go_sem]
  rintro e w' ⟨rfl, rfl⟩
  go_wp2_with fail
  refine (T3.out _ _ ?_ ?_).mono ?_
  · simp [go_sem]
  · simp [go_sem]
  rintro e w' ⟨rfl, rfl⟩
  go_wp2_with fail
  refine (HE.out _ (HT.out.keep ((((Below.refl _ w).alloc (Nat.le_refl _) _).alloc (by simp) _).alloc (by simp; omega) _))).mono ?_
  have DT := ihid (dec_test w0)
  generalize encS (rawS w0) = v at DT ⊢
  generalize encE (rawS w0) = u at DT ⊢
  rintro e w' ⟨rfl, hbl⟩
  obtain ⟨hc, hf⟩ := ibcell hbl
  have hz : w.heap.size + 1 + 1 < w'.heap.size := by have := hbl.size; simp [go_sem] at this; omega
  have hr0 : w'.cell? ⟨w.heap.size, 0, none⟩ = some (.int .u8 0) := by rw [hc _ _ (by simp [go_sem])]; simp [go_sem]
  have hr1 : w'.cell? ⟨w.heap.size, 1, none⟩ = some (.int .u8 0) := by rw [hc _ _ (by simp [go_sem])]; simp [go_sem]
  have hr2 : w'.cell? ⟨w.heap.size, 2, none⟩ = some (.int .u8 0) := by rw [hc _ _ (by simp [go_sem])]; simp [go_sem]
  have hr3 : w'.cell? ⟨w.heap.size, 3, none⟩ = some (.int .u8 0) := by rw [hc _ _ (by simp [go_sem])]; simp [go_sem]
  have hr4 : w'.cell? ⟨w.heap.size, 4, none⟩ = some (.bool false) := by rw [hc _ _ (by simp [go_sem])]; simp [go_sem]
  have hr5 : w'.cell? ⟨w.heap.size, 5, none⟩ = some (.int .i32 0) := by rw [hc _ _ (by simp [go_sem])]; simp [go_sem]
  have HB : Below w.heap.size w w' := ((((Below.refl _ w).alloc (Nat.le_refl _) _).alloc (by simp) _).alloc (by simp; omega) _).trans (hbl.mono (by simp [go_sem]; omega))
  have HB := ihid HB
  clear hbl
  by_cases hu : u = 0
  · have hu2 : (u != 0) = false := by simpa using hu
    have HU := ihid hu
    clear hu
    by_cases hv : v = w0
    · have hv2 : (v != w0) = false := by simpa using hv
      have HV := ihid hv
      clear hv
      go_wp2_with fail
      refine bodyPost_ret (by simp [results, Tryz.results156, go_sem, hr0, hr1, hr2, hr3, hr4, hr5]; try rfl) rfl ?_
      have hb := HB.out
      exact ⟨dec_yes DT.out ⟨HU.out, HV.out⟩ RW.out, by go_grown⟩
    · have hv2 : (v != w0) = true := by simpa using hv
      have HV := ihid hv
      clear hv
      go_wp2_with fail
      refine bodyPost_ret (by simp [results, Tryz.results156, go_sem, hr0, hr1, hr2, hr3, hr4, hr5]; try rfl) rfl ?_
      have hb := HB.out
      exact ⟨dec_no DT.out (fun h => HV.out h.2), by go_grown⟩
  · have hu2 : (u != 0) = true := by simpa using hu
    have HU := ihid hu
    clear hu
    go_wp2_with fail
    refine bodyPost_ret (by simp [results, Tryz.results156, go_sem, hr0, hr1, hr2, hr3, hr4, hr5]; try rfl) rfl ?_
    have hb := HB.out
    exact ⟨dec_no DT.out (fun h => HU.out h.1), by go_grown⟩
set_option maxRecDepth 100000 in
set_option maxHeartbeats 1000000 in
theorem dec_reg (w0 : Int) (h0 : 0 ≤ w0) (h1 : w0 < 4294967296) (hl : ¬ longK (kindS (w0 / 67108864))) (h3 : w0 / 32768 % 2 ≠ 1) (w : World) (ht : Tab w) :
    Calls Tryz.prog 156 #[.int .u32 w0] w fun e w' => e = .returned (.tuple #[(decS w0).agg, .bool (decB w0)]) ∧ Below w.heap.size w w' := by
  have HT := ihid ht
  have rw0 := (raw_short h0 h1 hl).2 h3
  have RW := ihid rw0
  obtain ⟨q, hq, hq2⟩ : ∃ q, hasK (kindS (w0 / 67108864)) = q ∧ (bits .and .u8 q 16 != 0) = false := by
    by_cases h0 : kindS (w0 / 67108864) = 0
    · exact ⟨128, by rw [h0]; decide, by decide⟩
    · exact short_bit hl h0
  have HQ := ihid hq
  have T0 := ihid (take_any 15 32768 32767 (w0) (.inr (.inl ⟨rfl, rfl, rfl⟩)) (by omega) (by omega))
  have T1 := ihid (take_any 1 2 1 (w0 / 32768) (.inr (.inr (.inl ⟨rfl, rfl, rfl⟩))) (by omega) (by omega))
  have T2 := ihid (take_any 5 32 31 (w0 / 32768 / 2) (.inr (.inr (.inr ⟨rfl, rfl, rfl⟩))) (by omega) (by omega))
  have T3 := ihid (take_any 5 32 31 (w0 / 32768 / 2 / 32) (.inr (.inr (.inr ⟨rfl, rfl, rfl⟩))) (by omega) (by omega))
  have b0 : 0 ≤ w0 / 67108864 ∧ w0 / 67108864 < 256 := by omega
  have h3' : (w0 / 32768 % 2 == 1) = false := by simpa using h3
  have e31 : bits .and .u32 (w0 % 32768) 31 = w0 % 32 := by rw [and_mod 5 31 (by omega) (by decide) (by omega) (by omega)]; omega
  have b3 : 0 ≤ w0 % 32 ∧ w0 % 32 < 32 := by omega
  have b1 : 0 ≤ w0 / 32768 / 2 % 32 ∧ w0 / 32768 / 2 % 32 < 32 := by omega
  have b2 : 0 ≤ w0 / 32768 / 2 / 32 % 32 ∧ w0 / 32768 / 2 / 32 % 32 < 32 := by omega
  have henc : ∀ W, Tab W → Calls Tryz.prog 79 #[(⟨w0 / 67108864, w0 / 32768 / 2 / 32 % 32, w0 / 32768 / 2 % 32, w0 % 32, false, 0⟩ : Ix).agg] W fun e w' => e = .returned (.tuple #[.int .u32 (encS (rawS w0)), .int .i64 (encE (rawS w0))]) ∧ Below W.heap.size W w' := by
    intro W hW
    have h := encode_any (rawS w0) (raw_bd h0 h1) W hW
    rw [← congrArg Ix.agg rw0] at h
    exact h
  have HE := ihid henc
  clear ht hl hq h3 henc rw0
  go_enter Tryz.func156, Tryz.ntmps156
  go_wp2_with fail
  refine (ihas_any (w0 / 67108864) q b0.1 b0.2 HQ.out _ (HT.out.keep ((((Below.refl _ w).alloc (Nat.le_refl _) _).alloc (by simp) _).alloc (by simp; omega) _))).mono ?_
  rintro e w' ⟨rfl, rfl⟩
  go_wp2_with fail
  refine (T0.out _ _ ?_ ?_).mono ?_
  · simp [go_sem]
  · simp [go_sem]
  rintro e w' ⟨rfl, rfl⟩
  go_wp2_with fail
  refine (T1.out _ _ ?_ ?_).mono ?_
  · simp [go_sem]
  · simp [go_sem]
  rintro e w' ⟨rfl, rfl⟩
  go_wp2_with fail
  refine (T2.out _ _ ?_ ?_).mono ?_
  · simp [go_sem]
  · simp [go_sem]
  rintro e w' ⟨rfl, rfl⟩
  go_wp2_with fail
  refine (T3.out _ _ ?_ ?_).mono ?_
  · simp [go_sem]
  · simp [go_sem]
  rintro e w' ⟨rfl, rfl⟩
  go_wp2_with fail
  refine (HE.out _ (HT.out.keep ((((Below.refl _ w).alloc (Nat.le_refl _) _).alloc (by simp) _).alloc (by simp; omega) _))).mono ?_
  have DT := ihid (dec_test w0)
  generalize encS (rawS w0) = v at DT ⊢
  generalize encE (rawS w0) = u at DT ⊢
  rintro e w' ⟨rfl, hbl⟩
  obtain ⟨hc, hf⟩ := ibcell hbl
  have hz : w.heap.size + 1 + 1 < w'.heap.size := by have := hbl.size; simp [go_sem] at this; omega
  have hr0 : w'.cell? ⟨w.heap.size, 0, none⟩ = some (.int .u8 0) := by rw [hc _ _ (by simp [go_sem])]; simp [go_sem]
  have hr1 : w'.cell? ⟨w.heap.size, 1, none⟩ = some (.int .u8 0) := by rw [hc _ _ (by simp [go_sem])]; simp [go_sem]
  have hr2 : w'.cell? ⟨w.heap.size, 2, none⟩ = some (.int .u8 0) := by rw [hc _ _ (by simp [go_sem])]; simp [go_sem]
  have hr3 : w'.cell? ⟨w.heap.size, 3, none⟩ = some (.int .u8 0) := by rw [hc _ _ (by simp [go_sem])]; simp [go_sem]
  have hr4 : w'.cell? ⟨w.heap.size, 4, none⟩ = some (.bool false) := by rw [hc _ _ (by simp [go_sem])]; simp [go_sem]
  have hr5 : w'.cell? ⟨w.heap.size, 5, none⟩ = some (.int .i32 0) := by rw [hc _ _ (by simp [go_sem])]; simp [go_sem]
  have HB : Below w.heap.size w w' := ((((Below.refl _ w).alloc (Nat.le_refl _) _).alloc (by simp) _).alloc (by simp; omega) _).trans (hbl.mono (by simp [go_sem]; omega))
  have HB := ihid HB
  clear hbl
  by_cases hu : u = 0
  · have hu2 : (u != 0) = false := by simpa using hu
    have HU := ihid hu
    clear hu
    by_cases hv : v = w0
    · have hv2 : (v != w0) = false := by simpa using hv
      have HV := ihid hv
      clear hv
      go_wp2_with fail
      refine bodyPost_ret (by simp [results, Tryz.results156, go_sem, hr0, hr1, hr2, hr3, hr4, hr5]; try rfl) rfl ?_
      have hb := HB.out
      exact ⟨dec_yes DT.out ⟨HU.out, HV.out⟩ RW.out, by go_grown⟩
    · have hv2 : (v != w0) = true := by simpa using hv
      have HV := ihid hv
      clear hv
      go_wp2_with fail
      refine bodyPost_ret (by simp [results, Tryz.results156, go_sem, hr0, hr1, hr2, hr3, hr4, hr5]; try rfl) rfl ?_
      have hb := HB.out
      exact ⟨dec_no DT.out (fun h => HV.out h.2), by go_grown⟩
  · have hu2 : (u != 0) = true := by simpa using hu
    have HU := ihid hu
    clear hu
    go_wp2_with fail
    refine bodyPost_ret (by simp [results, Tryz.results156, go_sem, hr0, hr1, hr2, hr3, hr4, hr5]; try rfl) rfl ?_
    have hb := HB.out
    exact ⟨dec_no DT.out (fun h => HU.out h.1), by go_grown⟩
theorem decode_any (w0 : Int) (h0 : 0 ≤ w0) (h1 : w0 < 4294967296) (w : World) (ht : Tab w) :
    Calls Tryz.prog 156 #[.int .u32 w0] w fun e w' => e = .returned (.tuple #[(decS w0).agg, .bool (decB w0)]) ∧ Below w.heap.size w w' := by
  by_cases hl : longK (kindS (w0 / 67108864))
  · by_cases h3 : w0 / 67108864 = 15
    · exact dec_long1 w0 h0 h1 hl h3 w ht
    · exact dec_long2 w0 h0 h1 hl h3 w ht
  · by_cases h3 : w0 / 32768 % 2 = 1
    · exact dec_is w0 h0 h1 hl h3 w ht
    · exact dec_reg w0 h0 h1 hl h3 w ht
end Go.Proofs.YtajholbcpmjhiaaGreatDoor
