/- Which texts are names: the walks of lex.Name and muntinref12.Name. -/
import Derived.Test.YthnfkecbgfcipaaDoorShapeSame
import Derived.BigGuardPart
namespace Go.Proofs.YthnfkecbgfcipaaDoor
open Go.RowKit
set_option linter.unusedVariables false
set_option linter.unusedSimpArgs false
def letP (c : Int) : Prop := (97 ≤ c ∧ c ≤ 122) ∨ (65 ≤ c ∧ c ≤ 90) ∨ c = 95
def digP (c : Int) : Prop := 48 ≤ c ∧ c ≤ 57
instance (c : Int) : Decidable (letP c) := by unfold letP; infer_instance
instance (c : Int) : Decidable (digP c) := by unfold digP; infer_instance
theorem letter_any (c : Int) (w : World) : Calls Tryd.prog 49 #[.int .u8 c] w fun e w' => e = .returned (.bool (decide (letP c))) ∧ w = w' := by
  go_enter Tryd.func49, Tryd.ntmps49
  go_wp2_with fail
  all_goals
    go_ret
    refine ⟨congrArg (fun b => Ending.returned (.bool b)) (?_ : _ = decide (letP c)), rfl⟩
    first
      | (refine (decide_eq_true ?_).symm; unfold letP; omega)
      | (refine (decide_eq_false ?_).symm; unfold letP; omega)
      | (refine decide_eq_decide.2 ?_; unfold letP; omega)
      | (refine (beq_eq_decide _ _).trans (decide_eq_decide.2 ?_); unfold letP; omega)
theorem digit_any (c : Int) (w : World) : Calls Tryd.prog 46 #[.int .u8 c] w fun e w' => e = .returned (.bool (decide (digP c))) ∧ w = w' := by
  go_enter Tryd.func46, Tryd.ntmps46
  go_wp2_with fail
  all_goals
    go_ret
    refine ⟨congrArg (fun b => Ending.returned (.bool b)) (?_ : _ = decide (digP c)), rfl⟩
    first
      | (refine (decide_eq_true ?_).symm; unfold digP; omega)
      | (refine (decide_eq_false ?_).symm; unfold digP; omega)
      | (refine decide_eq_decide.2 ?_; unfold digP; omega)
theorem rletter_any (c : Int) (w : World) : Calls Tryd.prog 53 #[.int .u8 c] w fun e w' => e = .returned (.bool (decide (letP c))) ∧ w = w' := by
  go_enter Tryd.func53, Tryd.ntmps53
  go_wp2_with fail
  all_goals
    go_ret
    refine ⟨congrArg (fun b => Ending.returned (.bool b)) (?_ : _ = decide (letP c)), rfl⟩
    first
      | (refine (decide_eq_true ?_).symm; unfold letP; omega)
      | (refine (decide_eq_false ?_).symm; unfold letP; omega)
      | (refine decide_eq_decide.2 ?_; unfold letP; omega)
      | (refine (beq_eq_decide _ _).trans (decide_eq_decide.2 ?_); unfold letP; omega)
theorem rdigit_any (c : Int) (w : World) : Calls Tryd.prog 54 #[.int .u8 c] w fun e w' => e = .returned (.bool (decide (digP c))) ∧ w = w' := by
  go_enter Tryd.func54, Tryd.ntmps54
  go_wp2_with fail
  all_goals
    go_ret
    refine ⟨congrArg (fun b => Ending.returned (.bool b)) (?_ : _ = decide (digP c)), rfl⟩
    first
      | (refine (decide_eq_true ?_).symm; unfold digP; omega)
      | (refine (decide_eq_false ?_).symm; unfold digP; omega)
      | (refine decide_eq_decide.2 ?_; unfold digP; omega)
/-- What lex.Name's function says. -/
def wordP (c : Int) : Prop := letP c ∨ digP c
instance (c : Int) : Decidable (wordP c) := by unfold wordP; infer_instance
theorem word_any (c : Int) (w : World) : Calls Tryd.prog 50 #[.int .u8 c] w fun e w' => e = .returned (.bool (decide (wordP c))) ∧ w = w' := by
  by_cases hl : letP c
  · have HL := shid (fun W => by have h := letter_any c W; rw [decide_eq_true hl] at h; exact h)
    have HW := shid (decide_eq_true (show wordP c from .inl hl))
    clear hl
    go_enter Tryd.func50, Tryd.ntmps50
    go_wp2_with (go_at_call 49; (with_reducible refine (HL.out _).mono ?_); rintro e w7 ⟨rfl, rfl⟩)
    go_ret
    exact ⟨sret_val (by rw [HW.out]; rfl), rfl⟩
  · have HL := shid (fun W => by have h := letter_any c W; rw [decide_eq_false hl] at h; exact h)
    have HD := shid (fun W => digit_any c W)
    have HW : Hid (decide (wordP c) = decide (digP c)) := shid (decide_eq_decide.2 ⟨fun h => h.resolve_left hl, .inr⟩)
    clear hl
    rw [HW.out]
    generalize decide (digP c) = b at HD ⊢
    go_enter Tryd.func50, Tryd.ntmps50
    go_wp2_with (first | (go_at_call 49; (with_reducible refine (HL.out _).mono ?_); rintro e w7 ⟨rfl, rfl⟩) | (go_at_call 46; (with_reducible refine (HD.out _).mono ?_); rintro e w7 ⟨rfl, rfl⟩))
    go_ret
    exact ⟨rfl, rfl⟩
def allwB (l : List UInt8) : Bool := l.all fun x => decide (wordP x.toNat)
set_option maxHeartbeats 1000000 in
theorem allw_any (s : ByteArray) (hs : s.size ≤ 140737488352000) (w : World) :
    Calls Tryd.prog 45 #[.string s, .func (.func 50) #[] #[]] w fun e w' => e = .returned (.bool (allwB s.data.toList)) ∧ w = w' := by
  have HB := shid (show allwB s.data.toList = s.data.toList.all fun x => decide (wordP x.toNat) from rfl)
  go_enter Tryd.func45, Tryd.ntmps45
  go_wp2_with fail
  go_loop [8] (fun i => ∃ k : Nat, k ≤ s.size ∧ i = .int .i64 k ∧ (s.data.toList.take k).all (fun x => decide (wordP x.toNat)) = true) (fun i => s.size - (intOf i).toNat)
  case atStart => exact ⟨0, Nat.zero_le _, rfl, by simp⟩
  case round =>
    obtain ⟨k, hk, rfl, hf⟩ := hrel
    have HF := shid hf
    clear hf
    by_cases hlt : k < s.size
    · have HT := shid (stake_snoc s k hlt)
      by_cases hc : wordP s[k].toNat
      · have HL := shid (fun W => by have h := word_any (s[k].toNat : Int) W; rw [decide_eq_true hc] at h; exact h)
        have HC := shid (decide_eq_true hc)
        clear hc
        go_wp2_with (go_at_call 50; (with_reducible refine (HL.out _).mono ?_); rintro e w7 ⟨rfl, rfl⟩)
        go_round
        case rel => exact ⟨k + 1, by omega, by go_num, by rw [HT.out, List.all_append, HF.out]; simpa using HC.out⟩
        case measure => simp [intOf]; omega
      · have HL := shid (fun W => by have h := word_any (s[k].toNat : Int) W; rw [decide_eq_false hc] at h; exact h)
        have HC := shid hc
        clear hc
        go_wp2_with (go_at_call 50; (with_reducible refine (HL.out _).mono ?_); rintro e w7 ⟨rfl, rfl⟩)
        go_ret
        have hl : allwB s.data.toList = false := by
          rw [HB.out, List.all_eq_false]
          exact ⟨s[k], by rw [← List.take_append_drop (k + 1) s.data.toList, HT.out]; simp, by simpa using HC.out⟩
        exact ⟨by rw [hl]; rfl, rfl⟩
    · go_wp2_with fail
      go_ret
      have hl : allwB s.data.toList = true := by
        have h1 := HF.out
        rw [List.take_of_length_le (by simp; omega)] at h1
        exact HB.out.trans h1
      exact ⟨by rw [hl]; rfl, rfl⟩
def alldB (l : List UInt8) : Bool := l.all fun x => decide (digP x.toNat)
set_option maxHeartbeats 1000000 in
theorem alld_any (s : ByteArray) (hs : s.size ≤ 140737488352000) (w : World) :
    Calls Tryd.prog 45 #[.string s, .func (.func 46) #[] #[]] w fun e w' => e = .returned (.bool (alldB s.data.toList)) ∧ w = w' := by
  have HB := shid (show alldB s.data.toList = s.data.toList.all fun x => decide (digP x.toNat) from rfl)
  go_enter Tryd.func45, Tryd.ntmps45
  go_wp2_with fail
  go_loop [8] (fun i => ∃ k : Nat, k ≤ s.size ∧ i = .int .i64 k ∧ (s.data.toList.take k).all (fun x => decide (digP x.toNat)) = true) (fun i => s.size - (intOf i).toNat)
  case atStart => exact ⟨0, Nat.zero_le _, rfl, by simp⟩
  case round =>
    obtain ⟨k, hk, rfl, hf⟩ := hrel
    have HF := shid hf
    clear hf
    by_cases hlt : k < s.size
    · have HT := shid (stake_snoc s k hlt)
      by_cases hc : digP s[k].toNat
      · have HL := shid (fun W => by have h := digit_any (s[k].toNat : Int) W; rw [decide_eq_true hc] at h; exact h)
        have HC := shid (decide_eq_true hc)
        clear hc
        go_wp2_with (go_at_call 46; (with_reducible refine (HL.out _).mono ?_); rintro e w7 ⟨rfl, rfl⟩)
        go_round
        case rel => exact ⟨k + 1, by omega, by go_num, by rw [HT.out, List.all_append, HF.out]; simpa using HC.out⟩
        case measure => simp [intOf]; omega
      · have HL := shid (fun W => by have h := digit_any (s[k].toNat : Int) W; rw [decide_eq_false hc] at h; exact h)
        have HC := shid hc
        clear hc
        go_wp2_with (go_at_call 46; (with_reducible refine (HL.out _).mono ?_); rintro e w7 ⟨rfl, rfl⟩)
        go_ret
        have hl : alldB s.data.toList = false := by
          rw [HB.out, List.all_eq_false]
          exact ⟨s[k], by rw [← List.take_append_drop (k + 1) s.data.toList, HT.out]; simp, by simpa using HC.out⟩
        exact ⟨by rw [hl]; rfl, rfl⟩
    · go_wp2_with fail
      go_ret
      have hl : alldB s.data.toList = true := by
        have h1 := HF.out
        rw [List.take_of_length_le (by simp; omega)] at h1
        exact HB.out.trans h1
      exact ⟨by rw [hl]; rfl, rfl⟩
def nameB : List UInt8 → Bool
  | [] => false
  | c :: r => decide (r.length + 1 ≤ 64) && decide (letP c.toNat) && allwB r && !(decide ((c.toNat : Int) = 118) && !r.isEmpty && alldB r)
theorem sext (c : UInt8) (r : List UInt8) (n : Nat) (hn : n = r.length + 1) : (⟨(c :: r).toArray⟩ : ByteArray).extract 1 n = ⟨r.toArray⟩ := by
  subst hn
  apply ByteArray.ext
  rw [ByteArray.data_extract]
  simp
theorem name_case (c : UInt8) (r : List UInt8) : allwB (c :: r) = (decide (wordP c.toNat) && allwB r) := rfl
set_option maxHeartbeats 1000000 in
theorem name_cons (c : UInt8) (r : List UInt8) (hs : r.length + 1 ≤ 140737488352000) (w : World) :
    Calls Tryd.prog 34 #[.string ⟨(c :: r).toArray⟩] w fun e w' => e = .returned (.bool (nameB (c :: r))) ∧ w = w' := by
  have HAW := shid (allw_any ⟨(c :: r).toArray⟩ (by simpa [ByteArray.size] using hs) w)
  have HAD := shid (alld_any ⟨r.toArray⟩ (by simp [ByteArray.size]; omega) w)
  have HN := shid (show nameB (c :: r) = (decide (r.length + 1 ≤ 64) && decide (letP c.toNat) && allwB r && !(decide ((c.toNat : Int) = 118) && !r.isEmpty && alldB r)) from rfl)
  by_cases h64 : r.length + 1 ≤ 64
  case neg =>
    have hb := shid (show nameB (c :: r) = false by rw [HN.out, decide_eq_false h64]; rfl)
    have hb1 : decide ((64 : Int) < r.length + 1) = true := decide_eq_true (by omega)
    go_enter Tryd.func34, Tryd.ntmps34
    go_wp2_with fail
    go_ret
    exact ⟨sret_val (by rw [hb.out]; rfl), rfl⟩
  by_cases hl : letP c.toNat
  case neg =>
    have hb := shid (show nameB (c :: r) = false by rw [HN.out, decide_eq_false hl]; simp)
    have HL := shid (show Calls Tryd.prog 49 #[.int .u8 ((⟨(c :: r).toArray⟩ : ByteArray)[0]'(by simp [ByteArray.size])).toNat] w fun e w' => e = .returned (.bool false) ∧ w = w' by
      have h := letter_any c.toNat w; rw [decide_eq_false hl] at h; exact h)
    have hb1 : decide ((64 : Int) < r.length + 1) = false := decide_eq_false (by omega)
    clear hl
    go_enter Tryd.func34, Tryd.ntmps34
    go_wp2_with (go_at_call 49; (with_reducible refine HL.out.mono ?_); rintro e w7 ⟨rfl, rfl⟩)
    go_ret
    exact ⟨sret_val (by rw [hb.out]; rfl), rfl⟩
  have HL := shid (show Calls Tryd.prog 49 #[.int .u8 ((⟨(c :: r).toArray⟩ : ByteArray)[0]'(by simp [ByteArray.size])).toNat] w fun e w' => e = .returned (.bool true) ∧ w = w' by
      have h := letter_any c.toNat w; rw [decide_eq_true hl] at h; exact h)
  have hb1 : decide ((64 : Int) < r.length + 1) = false := decide_eq_false (by omega)
  have HW2 : Hid (allwB (c :: r) = allwB r) := shid (by rw [name_case, decide_eq_true (show wordP c.toNat from .inl hl)]; rfl)
  have HN2 : Hid (nameB (c :: r) = (allwB r && !(decide ((c.toNat : Int) = 118) && !r.isEmpty && alldB r))) := shid (by rw [HN.out, decide_eq_true h64, decide_eq_true hl]; simp)
  clear hl
  cases hw : allwB r with
  | false =>
    have HA2 := shid (by have h := HAW.out; rw [HW2.out, hw] at h; exact h)
    have hb := shid (show nameB (c :: r) = false by rw [HN2.out, hw]; rfl)
    clear hw
    go_enter Tryd.func34, Tryd.ntmps34
    go_wp2_with (first | (go_at_call 49; (with_reducible refine HL.out.mono ?_); rintro e w7 ⟨rfl, rfl⟩) | (go_at_call 45; (with_reducible refine HA2.out.mono ?_); rintro e w8 ⟨rfl, rfl⟩))
    go_ret
    exact ⟨sret_val (by rw [hb.out]; rfl), rfl⟩
  | true =>
    have HA2 := shid (by have h := HAW.out; rw [HW2.out, hw] at h; exact h)
    have HN3 : Hid (nameB (c :: r) = !(decide ((c.toNat : Int) = 118) && !r.isEmpty && alldB r)) := shid (by rw [HN2.out, hw]; simp)
    clear hw
    by_cases hv : (c.toNat : Int) = 118
    case neg =>
      have hb := shid (show nameB (c :: r) = true by rw [HN3.out, decide_eq_false hv]; rfl)
      have hv2 : ((((⟨(c :: r).toArray⟩ : ByteArray)[0]'(by simp [ByteArray.size])).toNat : Int) != 118) = true := by rw [bne_iff_ne]; exact hv
      clear hv
      go_enter Tryd.func34, Tryd.ntmps34
      go_wp2_with (first | (go_at_call 49; (with_reducible refine HL.out.mono ?_); rintro e w7 ⟨rfl, rfl⟩) | (go_at_call 45; (with_reducible refine HA2.out.mono ?_); rintro e w8 ⟨rfl, rfl⟩))
      go_ret
      exact ⟨sret_val (by rw [hb.out]; rfl), rfl⟩
    have hv2 : ((((⟨(c :: r).toArray⟩ : ByteArray)[0]'(by simp [ByteArray.size])).toNat : Int) != 118) = false := by rw [bne_eq_false_iff_eq]; exact hv
    have HN4 : Hid (nameB (c :: r) = !(!r.isEmpty && alldB r)) := shid (by rw [HN3.out, decide_eq_true hv]; rfl)
    clear hv
    cases r with
    | nil =>
      have hb2 : decide ((64 : Int) < 1) = false := by decide
      have hb := shid (show nameB [c] = true from HN4.out)
      go_enter Tryd.func34, Tryd.ntmps34
      go_wp2_with (first | (go_at_call 49; (with_reducible refine HL.out.mono ?_); rintro e w7 ⟨rfl, rfl⟩) | (go_at_call 45; (with_reducible refine HA2.out.mono ?_); rintro e w8 ⟨rfl, rfl⟩))
      go_ret
      exact ⟨sret_val (by rw [hb.out]; rfl), rfl⟩
    | cons x r =>
      have hb := shid (show nameB (c :: x :: r) = !(alldB (x :: r)) from HN4.out)
      have hb2 : decide ((64 : Int) < r.length + 1 + 1) = false := decide_eq_false (by simp at h64; omega)
      have hext : (⟨(c :: x :: r).toArray⟩ : ByteArray).extract 1 (r.length + 1 + 1) = ⟨(x :: r).toArray⟩ := sext c (x :: r) _ (by simp)
      have HAD2 := shid (show Calls Tryd.prog 45 #[.string ((⟨(c :: x :: r).toArray⟩ : ByteArray).extract 1 (r.length + 1 + 1)), .func (.func 46) #[] #[]] w fun e w' => e = .returned (.bool (alldB (x :: r))) ∧ w = w' by rw [hext]; exact HAD.out)
      clear HAD hext
      generalize alldB (x :: r) = db at hb HAD2
      have hlen : ((r.length : Int) + 1 + 1 == 1) = false := by rw [beq_eq_false_iff_ne]; omega
      go_enter Tryd.func34, Tryd.ntmps34
      go_wp2_with (first | (go_at_call 49; (with_reducible refine HL.out.mono ?_); rintro e w7 ⟨rfl, rfl⟩) | (go_at_call 45; (with_reducible refine HA2.out.mono ?_); rintro e w8 ⟨rfl, rfl⟩) | (go_at_call 45; (with_reducible refine HAD2.out.mono ?_); rintro e w8 ⟨rfl, rfl⟩))
      go_ret
      exact ⟨sret_val (by rw [hb.out]; rfl), rfl⟩
theorem name_nil (w : World) : Calls Tryd.prog 34 #[.string ⟨#[]⟩] w fun e w' => e = .returned (.bool false) ∧ w = w' := by
  go_enter Tryd.func34, Tryd.ntmps34
  go_wp2_with fail
  go_ret
  exact ⟨rfl, rfl⟩
theorem name_any (s : ByteArray) (hs : s.size ≤ 140737488352000) (w : World) : Calls Tryd.prog 34 #[.string s] w fun e w' => e = .returned (.bool (nameB s.data.toList)) ∧ w = w' := by
  obtain ⟨⟨l⟩⟩ := s
  cases l with
  | nil => exact name_nil w
  | cons c r => exact name_cons c r (by simpa [ByteArray.size] using hs) w
end Go.Proofs.YthnfkecbgfcipaaDoor
