/- The walk of muntinref12.Name. -/
import Derived.Test.YthnfkecbgfcipaaDoorShapeName
namespace Go.Proofs.YthnfkecbgfcipaaDoor
open Go.RowKit
set_option linter.unusedVariables false
set_option linter.unusedSimpArgs false
set_option maxHeartbeats 1000000 in
theorem rdigits_any (s : ByteArray) (hs : s.size ≤ 140737488352000) (w : World) :
    Calls Tryd.prog 52 #[.string s] w fun e w' => e = .returned (.bool (alldB s.data.toList && decide (0 < s.size))) ∧ w = w' := by
  have HB := shid (show alldB s.data.toList = s.data.toList.all fun x => decide (digP x.toNat) from rfl)
  go_enter Tryd.func52, Tryd.ntmps52
  go_wp2_with fail
  go_loop [3] (fun i => ∃ k : Nat, k ≤ s.size ∧ i = .int .i64 k ∧ (s.data.toList.take k).all (fun x => decide (digP x.toNat)) = true) (fun i => s.size - (intOf i).toNat)
  case atStart => exact ⟨0, Nat.zero_le _, rfl, by simp⟩
  case round =>
    obtain ⟨k, hk, rfl, hf⟩ := hrel
    have HF := shid hf
    clear hf
    by_cases hlt : k < s.size
    · have HT := shid (stake_snoc s k hlt)
      by_cases hc : digP s[k].toNat
      · have HL := shid (fun W => by have h := rdigit_any (s[k].toNat : Int) W; rw [decide_eq_true hc] at h; exact h)
        have HC := shid (decide_eq_true hc)
        clear hc
        go_wp2_with (go_at_call 54; (with_reducible refine (HL.out _).mono ?_); rintro e w7 ⟨rfl, rfl⟩)
        go_round
        case rel => exact ⟨k + 1, by omega, by go_num, by rw [HT.out, List.all_append, HF.out]; simpa using HC.out⟩
        case measure => simp [intOf]; omega
      · have HL := shid (fun W => by have h := rdigit_any (s[k].toNat : Int) W; rw [decide_eq_false hc] at h; exact h)
        have HC := shid hc
        clear hc
        go_wp2_with (go_at_call 54; (with_reducible refine (HL.out _).mono ?_); rintro e w7 ⟨rfl, rfl⟩)
        go_ret
        have hl : alldB s.data.toList = false := by
          rw [HB.out, List.all_eq_false]
          exact ⟨s[k], by rw [← List.take_append_drop (k + 1) s.data.toList, HT.out]; simp, by simpa using HC.out⟩
        exact ⟨by rw [hl]; rfl, rfl⟩
    · go_wp2_with fail
      go_ret
      have hl : alldB s.data.toList = true := by
        have h1 := HF.out
        rw [List.take_of_length_le (by simp; omega)] at h1
        exact HB.out.trans h1
      refine ⟨congrArg (fun b => Ending.returned (.bool b)) (?_ : _ = (alldB s.data.toList && decide (0 < s.size))), rfl⟩
      rw [hl]
      simp
set_option maxHeartbeats 2000000 in
theorem rname_cons (c : UInt8) (r : List UInt8) (hs : r.length + 1 ≤ 140737488352000) (w : World) :
    Calls Tryd.prog 41 #[.string ⟨(c :: r).toArray⟩] w fun e w' => e = .returned (.bool (nameB (c :: r))) ∧ w = w' := by
  have hb0 : ((r.length : Int) + 1 == 0) = false := by rw [beq_eq_false_iff_ne]; omega
  have HN := shid (show nameB (c :: r) = (decide (r.length + 1 ≤ 64) && decide (letP c.toNat) && allwB r && !(decide ((c.toNat : Int) = 118) && !r.isEmpty && alldB r)) from rfl)
  by_cases h64 : r.length + 1 ≤ 64
  case neg =>
    have hb := shid (show nameB (c :: r) = false by rw [HN.out, decide_eq_false h64]; rfl)
    have hb1 : decide ((64 : Int) < r.length + 1) = true := decide_eq_true (by omega)
    go_enter Tryd.func41, Tryd.ntmps41
    go_wp2_with fail
    go_ret
    exact ⟨sret_val (by rw [hb.out]; rfl), rfl⟩
  by_cases hl : letP c.toNat
  case neg =>
    have hb := shid (show nameB (c :: r) = false by rw [HN.out, decide_eq_false hl]; simp)
    have HL := shid (show Calls Tryd.prog 53 #[.int .u8 ((⟨(c :: r).toArray⟩ : ByteArray)[0]'(by simp [ByteArray.size])).toNat] w fun e w' => e = .returned (.bool false) ∧ w = w' by
      have h := rletter_any c.toNat w; rw [decide_eq_false hl] at h; exact h)
    have hb1 : decide ((64 : Int) < r.length + 1) = false := decide_eq_false (by omega)
    clear hl
    go_enter Tryd.func41, Tryd.ntmps41
    go_wp2_with (go_at_call 53; (with_reducible refine HL.out.mono ?_); rintro e w7 ⟨rfl, rfl⟩)
    go_ret
    exact ⟨sret_val (by rw [hb.out]; rfl), rfl⟩
  have HL := shid (show Calls Tryd.prog 53 #[.int .u8 ((⟨(c :: r).toArray⟩ : ByteArray)[0]'(by simp [ByteArray.size])).toNat] w fun e w' => e = .returned (.bool true) ∧ w = w' by
      have h := rletter_any c.toNat w; rw [decide_eq_true hl] at h; exact h)
  have hb1 : decide ((64 : Int) < r.length + 1) = false := decide_eq_false (by omega)
  have HWC : Hid (wordP c.toNat) := shid (.inl hl)
  have HN2 : Hid (nameB (c :: r) = (allwB r && !(decide ((c.toNat : Int) = 118) && !r.isEmpty && alldB r))) := shid (by rw [HN.out, decide_eq_true h64, decide_eq_true hl]; simp)
  have HDG := shid (rdigits_any ⟨r.toArray⟩ (by simp [ByteArray.size]; omega) w)
  have hext := sext c r _ rfl
  have HDG2 := shid (show Calls Tryd.prog 52 #[.string ((⟨(c :: r).toArray⟩ : ByteArray).extract 1 (r.length + 1))] w fun e w' => e = .returned (.bool (alldB r && !r.isEmpty)) ∧ w = w' by
    rw [hext]
    have h := HDG.out
    rw [show decide (0 < (⟨r.toArray⟩ : ByteArray).size) = !r.isEmpty by cases r <;> simp [ByteArray.size]] at h
    exact h)
  have hz : ((⟨(c :: r).toArray⟩ : ByteArray)).size = r.length + 1 := by simp [ByteArray.size]
  have HZ := shid hz
  clear hl hext HDG hz
  go_enter Tryd.func41, Tryd.ntmps41
  go_wp2_with (go_at_call 53; (with_reducible refine HL.out.mono ?_); rintro e w7 ⟨rfl, rfl⟩)
  go_loop [3] (fun i => ∃ k : Nat, 1 ≤ k ∧ k ≤ r.length + 1 ∧ i = .int .i64 k ∧ ((c :: r).take k).all (fun x => decide (wordP x.toNat)) = true) (fun i => r.length + 1 - (intOf i).toNat)
  case atStart => exact ⟨1, Nat.le_refl _, by omega, rfl, by simp; exact HWC.out⟩
  case round =>
    obtain ⟨k, hk1, hk, rfl, hf⟩ := hrel
    have HF := shid hf
    clear hf
    by_cases hlt : k < r.length + 1
    · have hlt2 : k < (⟨(c :: r).toArray⟩ : ByteArray).size := by rw [HZ.out]; exact hlt
      have HT := shid (stake_snoc ⟨(c :: r).toArray⟩ k hlt2)
      by_cases hc : letP (⟨(c :: r).toArray⟩ : ByteArray)[k].toNat
      · have HLa := shid (fun W => by have h := rletter_any ((⟨(c :: r).toArray⟩ : ByteArray)[k].toNat : Int) W; rw [decide_eq_true hc] at h; exact h)
        have HC := shid (decide_eq_true (show wordP (⟨(c :: r).toArray⟩ : ByteArray)[k].toNat from .inl hc))
        clear hc
        go_wp2_with (go_at_call 53; (with_reducible refine (HLa.out _).mono ?_); rintro e w7 ⟨rfl, rfl⟩)
        go_round
        case rel => exact ⟨k + 1, by omega, by omega, by go_num, by have h := HT.out; rw [h, List.all_append, HF.out]; simpa using HC.out⟩
        case measure => simp [intOf]; omega
      · by_cases hd : digP (⟨(c :: r).toArray⟩ : ByteArray)[k].toNat
        · have HLa := shid (fun W => by have h := rletter_any ((⟨(c :: r).toArray⟩ : ByteArray)[k].toNat : Int) W; rw [decide_eq_false hc] at h; exact h)
          have HDa := shid (fun W => by have h := rdigit_any ((⟨(c :: r).toArray⟩ : ByteArray)[k].toNat : Int) W; rw [decide_eq_true hd] at h; exact h)
          have HC := shid (decide_eq_true (show wordP (⟨(c :: r).toArray⟩ : ByteArray)[k].toNat from .inr hd))
          clear hc hd
          go_wp2_with (first | (go_at_call 53; (with_reducible refine (HLa.out _).mono ?_); rintro e w7 ⟨rfl, rfl⟩) | (go_at_call 54; (with_reducible refine (HDa.out _).mono ?_); rintro e w8 ⟨rfl, rfl⟩))
          go_round
          case rel => exact ⟨k + 1, by omega, by omega, by go_num, by have h := HT.out; rw [h, List.all_append, HF.out]; simpa using HC.out⟩
          case measure => simp [intOf]; omega
        · have HLa := shid (fun W => by have h := rletter_any ((⟨(c :: r).toArray⟩ : ByteArray)[k].toNat : Int) W; rw [decide_eq_false hc] at h; exact h)
          have HDa := shid (fun W => by have h := rdigit_any ((⟨(c :: r).toArray⟩ : ByteArray)[k].toNat : Int) W; rw [decide_eq_false hd] at h; exact h)
          have HC := shid (show ¬ wordP (⟨(c :: r).toArray⟩ : ByteArray)[k].toNat from fun h => h.elim hc hd)
          clear hc hd
          go_wp2_with (first | (go_at_call 53; (with_reducible refine (HLa.out _).mono ?_); rintro e w7 ⟨rfl, rfl⟩) | (go_at_call 54; (with_reducible refine (HDa.out _).mono ?_); rintro e w8 ⟨rfl, rfl⟩))
          go_ret
          have hl : nameB (c :: r) = false := by
            have h2 : allwB (c :: r) = false := by
              unfold allwB
              rw [List.all_eq_false]
              refine ⟨(⟨(c :: r).toArray⟩ : ByteArray)[k], ?_, by simpa using HC.out⟩
              have h := HT.out
              exact List.mem_of_mem_take (i := k + 1) (h ▸ by simp)
            rw [name_case, decide_eq_true HWC.out, Bool.true_and] at h2
            rw [HN2.out, h2]; rfl
          exact ⟨sret_val (by rw [hl]; rfl), rfl⟩
    · have hall : allwB r = true := by
        have h1 := HF.out
        rw [List.take_of_length_le (by simp; omega)] at h1
        have h2 : allwB (c :: r) = true := h1
        rw [name_case, decide_eq_true HWC.out, Bool.true_and] at h2
        exact h2
      have HN3 : Hid (nameB (c :: r) = !(decide ((c.toNat : Int) = 118) && !r.isEmpty && alldB r)) := shid (by rw [HN2.out, hall]; simp)
      clear hall
      by_cases hv : (c.toNat : Int) = 118
      · have hv2 : ((((⟨(c :: r).toArray⟩ : ByteArray)[0]'(by simp [ByteArray.size])).toNat : Int) == 118) = true := by rw [beq_iff_eq]; exact hv
        have hb := shid (show nameB (c :: r) = !(alldB r && !r.isEmpty) by rw [HN3.out, decide_eq_true hv, Bool.true_and, Bool.and_comm])
        clear hv
        generalize (alldB r && !r.isEmpty) = db at hb HDG2
        go_wp2_with (go_at_call 52; (with_reducible refine HDG2.out.mono ?_); rintro e w7 ⟨rfl, rfl⟩)
        go_ret
        exact ⟨sret_val (by rw [hb.out]; rfl), rfl⟩
      · have hv2 : ((((⟨(c :: r).toArray⟩ : ByteArray)[0]'(by simp [ByteArray.size])).toNat : Int) == 118) = false := by rw [beq_eq_false_iff_ne]; exact hv
        have hb := shid (show nameB (c :: r) = true by rw [HN3.out, decide_eq_false hv]; rfl)
        clear hv
        go_wp2_with fail
        go_ret
        exact ⟨sret_val (by rw [hb.out]; rfl), rfl⟩
theorem rname_nil (w : World) : Calls Tryd.prog 41 #[.string ⟨#[]⟩] w fun e w' => e = .returned (.bool false) ∧ w = w' := by
  go_enter Tryd.func41, Tryd.ntmps41
  go_wp2_with fail
  go_ret
  exact ⟨rfl, rfl⟩
theorem rname_any (s : ByteArray) (hs : s.size ≤ 140737488352000) (w : World) : Calls Tryd.prog 41 #[.string s] w fun e w' => e = .returned (.bool (nameB s.data.toList)) ∧ w = w' := by
  obtain ⟨⟨l⟩⟩ := s
  cases l with
  | nil => exact rname_nil w
  | cons c r => exact rname_cons c r (by simpa [ByteArray.size] using hs) w
end Go.Proofs.YthnfkecbgfcipaaDoor
