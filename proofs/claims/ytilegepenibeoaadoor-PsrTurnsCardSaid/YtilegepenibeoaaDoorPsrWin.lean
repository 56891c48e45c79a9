/- Windows: what is beside one, its WIM, which is invalid. -/
import Derived.Test.YtilegepenibeoaaDoorPsrBits
namespace Go.Proofs.YtilegepenibeoaaDoor
open Go.RowKit
set_option linter.unusedVariables false
set_option linter.unusedSimpArgs false
def okW (x nw : Int) : Prop := winP nw ∧ 0 ≤ x ∧ x < nw
instance (x nw : Int) : Decidable (okW x nw) := by unfold okW; infer_instance
def stepV (x by' nw : Int) : Int := if okW x nw then (x + by') % nw else 0
def okE (x nw : Int) : Int := if okW x nw then 0 else 2
def wimV (x nw : Int) : Int := if okW x nw then 2 ^ x.toNat else 0
/-- The window whose WIM it is. -/
def invO (wim nw : Int) : Option Nat := (List.range nw.toNat).find? fun k => decide (wim = 2 ^ k)
def invV (wim nw : Int) : Int := if winP nw then (match invO wim nw with | some k => (k : Int) | none => 0) else 0
def invE (wim nw : Int) : Int := if winP nw then (match invO wim nw with | some _ => 0 | none => 5) else 2
theorem pow_inj {a b : Nat} (h : (2 : Int) ^ a = 2 ^ b) : a = b := by
  have h2 : (2 : Nat) ^ a = 2 ^ b := by exact_mod_cast h
  rcases Nat.lt_trichotomy a b with hl | hl | hl
  · have := Nat.pow_lt_pow_right (a := 2) (by omega) hl; omega
  · exact hl
  · have := Nat.pow_lt_pow_right (a := 2) (by omega) hl; omega
theorem inv_some {wim nw : Int} {k : Nat} (h : wim = 2 ^ k) (hk : (k : Int) < nw) : invO wim nw = some k := by
  unfold invO
  rw [List.find?_eq_some_iff_append]
  refine ⟨by simpa using h, List.range k, (List.range (nw.toNat - (k + 1))).map (· + (k + 1)), ?_, ?_⟩
  · have e : nw.toNat = (k + 1) + (nw.toNat - (k + 1)) := by omega
    rw [e, List.range_add, List.range_succ]
    simp [Nat.add_comm]
  · intro a ha
    simp only [List.mem_range] at ha
    simp only [Bool.not_eq_true', decide_eq_false_iff_not]
    intro e
    have := pow_inj (h.symm.trans e)
    omega
theorem inv_none {wim nw : Int} (h : ∀ k : Nat, (k : Int) < nw → wim ≠ 2 ^ k) : invO wim nw = none := by
  unfold invO
  rw [List.find?_eq_none]
  intro k hk
  simp only [List.mem_range] at hk
  simpa using h k (by omega)
set_option maxHeartbeats 1000000 in
theorem step_any (x by' nw : Int) (hby : winP nw → 0 ≤ by' ∧ by' ≤ 32) (w : World) : Calls Tryd.prog 62 #[.int .i64 x, .int .i64 by', .int .i64 nw] w fun e w' => e = .returned (.tuple #[.int .i64 (stepV x by' nw), .int .i64 (okE x nw)]) ∧ Below w.heap.size w w' := by
  have hq := windows_any nw
  by_cases hw : winP nw
  · rw [decide_eq_true hw] at hq
    have H1 := phid hq
    have hbl := fun W => below_any [x, nw] 1 w.heap.size (by omega) rfl W
    rw [below2_eq] at hbl
    have hb2 := hby hw
    obtain ⟨hw1, hw2⟩ := hw
    by_cases hx : 0 ≤ x ∧ x < nw
    · rw [decide_eq_true hx] at hbl
      have HB := phid hbl
      have hok : okW x nw := ⟨⟨hw1, hw2⟩, hx⟩
      have E := phid (show stepV x by' nw = (x + by') % nw ∧ okE x nw = 0 from ⟨if_pos hok, if_pos hok⟩)
      have hs : 0 ≤ x + by' ∧ x + by' ≤ 64 := by omega
      clear hbl hby hq hok
      go_enter Tryd.func62, Tryd.ntmps62
      go_wp2_with fail
      refine (H1.out _).mono ?_
      rintro e w' ⟨rfl, rfl⟩
      go_wp2_with fail
      refine (HB.out _ ?_).mono ?_
      · intro k hk
        have : k = 0 ∨ k = 1 := by simp at hk; omega
        rcases this with rfl | rfl <;> simp [go_sem]
      rintro e w' ⟨rfl, hB⟩
      have HBB := phid hB
      clear hB
      go_wp2_with fail
      go_ret2
      exact ⟨pret2 E.out.1.symm E.out.2.symm, pbt (pbal _ _) HBB.out⟩
    · rw [decide_eq_false hx] at hbl
      have HB := phid hbl
      have hok : ¬ okW x nw := fun h => hx h.2
      have E := phid (show stepV x by' nw = 0 ∧ okE x nw = 2 from ⟨if_neg hok, if_neg hok⟩)
      clear hbl hby hq hok hx
      go_enter Tryd.func62, Tryd.ntmps62
      go_wp2_with fail
      refine (H1.out _).mono ?_
      rintro e w' ⟨rfl, rfl⟩
      go_wp2_with fail
      refine (HB.out _ ?_).mono ?_
      · intro k hk
        have : k = 0 ∨ k = 1 := by simp at hk; omega
        rcases this with rfl | rfl <;> simp [go_sem]
      rintro e w' ⟨rfl, hB⟩
      have HBB := phid hB
      clear hB
      go_wp2_with fail
      go_ret2
      exact ⟨pret2 E.out.1.symm E.out.2.symm, pbt (pbal _ _) HBB.out⟩
  · rw [decide_eq_false hw] at hq
    have H1 := phid hq
    have hok : ¬ okW x nw := fun h => hw h.1
    have E := phid (show stepV x by' nw = 0 ∧ okE x nw = 2 from ⟨if_neg hok, if_neg hok⟩)
    clear hby hq hok hw
    go_enter Tryd.func62, Tryd.ntmps62
    go_wp2_with fail
    refine (H1.out _).mono ?_
    rintro e w' ⟨rfl, rfl⟩
    go_wp2_with fail
    go_ret2
    exact ⟨pret2 E.out.1.symm E.out.2.symm, Below.refl _ _⟩
theorem next_any (x nw : Int) (w : World) : Calls Tryd.prog 23 #[.int .i64 x, .int .i64 nw] w fun e w' => e = .returned (.tuple #[.int .i64 (stepV x 1 nw), .int .i64 (okE x nw)]) ∧ Below w.heap.size w w' := by
  have H := phid (step_any x 1 nw (fun _ => by omega))
  go_enter Tryd.func23, Tryd.ntmps23
  go_wp2_with fail
  refine (H.out _).mono ?_
  rintro e w' ⟨rfl, hB⟩
  have HB := phid hB
  clear hB
  go_wp2_with fail
  go_ret2
  exact ⟨rfl, HB.out⟩
theorem ahead_any (x nw : Int) (w : World) : Calls Tryd.prog 25 #[.int .i64 x, .int .i64 nw] w fun e w' => e = .returned (.tuple #[.int .i64 (stepV x (nw - 1) nw), .int .i64 (okE x nw)]) ∧ Below w.heap.size w w' := by
  have hin : winP nw → wrap64 (nw - 1) = nw - 1 := fun h => by have h1 := h.1; have h2 := h.2; rw [IntWalk.wrap64_in _ (by omega)]
  have hs := step_any x (wrap64 (nw - 1)) nw (fun h => by have h1 := h.1; have h2 := h.2; rw [hin h]; omega)
  have he : stepV x (wrap64 (nw - 1)) nw = stepV x (nw - 1) nw := by
    unfold stepV
    by_cases h : okW x nw
    · rw [if_pos h, if_pos h, hin h.1]
    · rw [if_neg h, if_neg h]
  rw [he] at hs
  have H := phid hs
  clear hs he hin
  go_enter Tryd.func25, Tryd.ntmps25
  go_wp2_with fail
  refine (H.out _).mono ?_
  rintro e w' ⟨rfl, hB⟩
  have HB := phid hB
  clear hB
  go_wp2_with fail
  go_ret2
  exact ⟨rfl, HB.out⟩
set_option maxHeartbeats 1000000 in
theorem wim_any (x nw : Int) (w : World) : Calls Tryd.prog 27 #[.int .i64 x, .int .i64 nw] w fun e w' => e = .returned (.tuple #[.int .u32 (wimV x nw), .int .i64 (okE x nw)]) ∧ Below w.heap.size w w' := by
  have hq := windows_any nw
  by_cases hw : winP nw
  · rw [decide_eq_true hw] at hq
    have H1 := phid hq
    have hbl := fun W => below_any [x, nw] 1 w.heap.size (by omega) rfl W
    rw [below2_eq] at hbl
    obtain ⟨hw1, hw2⟩ := hw
    by_cases hx : 0 ≤ x ∧ x < nw
    · rw [decide_eq_true hx] at hbl
      have HB := phid hbl
      have hok : okW x nw := ⟨⟨hw1, hw2⟩, hx⟩
      have E := phid (show wimV x nw = 2 ^ x.toNat ∧ okE x nw = 0 from ⟨if_pos hok, if_pos hok⟩)
      have hp : (2 : Int) ^ x.toNat % 4294967296 = 2 ^ x.toNat := by
        have h1 : 2 ^ x.toNat ≤ 2 ^ 31 := Nat.pow_le_pow_right (by omega) (by omega)
        have h2 : (2 : Int) ^ x.toNat = ((2 ^ x.toNat : Nat) : Int) := by simp
        rw [h2]
        generalize 2 ^ x.toNat = p at h1 ⊢
        omega
      have HP := phid hp
      have hx2 : x < 32 := by omega
      clear hbl hq hok hp
      go_enter Tryd.func27, Tryd.ntmps27
      go_wp2_with fail
      refine (H1.out _).mono ?_
      rintro e w' ⟨rfl, rfl⟩
      go_wp2_with fail
      refine (HB.out _ ?_).mono ?_
      · intro k hk
        have : k = 0 ∨ k = 1 := by simp at hk; omega
        rcases this with rfl | rfl <;> simp [go_sem]
      rintro e w' ⟨rfl, hB⟩
      have HBB := phid hB
      clear hB
      go_wp2_with fail
      go_ret2
      exact ⟨pret2 (by first | exact E.out.1.symm | (rw [E.out.1]; exact HP.out) | (rw [E.out.1]; simpa using HP.out)) E.out.2.symm, pbt (pbal _ _) HBB.out⟩
    · rw [decide_eq_false hx] at hbl
      have HB := phid hbl
      have hok : ¬ okW x nw := fun h => hx h.2
      have E := phid (show wimV x nw = 0 ∧ okE x nw = 2 from ⟨if_neg hok, if_neg hok⟩)
      clear hbl hq hok hx
      go_enter Tryd.func27, Tryd.ntmps27
      go_wp2_with fail
      refine (H1.out _).mono ?_
      rintro e w' ⟨rfl, rfl⟩
      go_wp2_with fail
      refine (HB.out _ ?_).mono ?_
      · intro k hk
        have : k = 0 ∨ k = 1 := by simp at hk; omega
        rcases this with rfl | rfl <;> simp [go_sem]
      rintro e w' ⟨rfl, hB⟩
      have HBB := phid hB
      clear hB
      go_wp2_with fail
      go_ret2
      exact ⟨pret2 E.out.1.symm E.out.2.symm, pbt (pbal _ _) HBB.out⟩
  · rw [decide_eq_false hw] at hq
    have H1 := phid hq
    have hok : ¬ okW x nw := fun h => hw h.1
    have E := phid (show wimV x nw = 0 ∧ okE x nw = 2 from ⟨if_neg hok, if_neg hok⟩)
    clear hq hok hw
    go_enter Tryd.func27, Tryd.ntmps27
    go_wp2_with fail
    refine (H1.out _).mono ?_
    rintro e w' ⟨rfl, rfl⟩
    go_wp2_with fail
    go_ret2
    exact ⟨pret2 E.out.1.symm E.out.2.symm, Below.refl _ _⟩
set_option maxHeartbeats 1000000 in
theorem invalid_any (wim nw : Int) (h0 : 0 ≤ wim) (h1 : wim < 4294967296) (w : World) (hb : Bru w) : Calls Tryd.prog 29 #[.int .u32 wim, .int .i64 nw] w fun e w' => e = .returned (.tuple #[.int .i64 (invV wim nw), .int .i64 (invE wim nw)]) ∧ Below w.heap.size w w' := by
  have hq := windows_any nw
  have BR := phid hb
  clear hb
  by_cases hw : winP nw
  · rw [decide_eq_true hw] at hq
    have H1 := phid hq
    have ho := ones_any wim h0 h1
    obtain ⟨hw1, hw2⟩ := hw
    by_cases hp : ∃ k : Nat, k < 32 ∧ wim = 2 ^ k
    · obtain ⟨k, hk, rfl⟩ := hp
      rw [show onesS (2 ^ k) = 1 from ones_pow ⟨k, hk⟩] at ho
      have HO := phid ho
      have HT := phid (tz_any k hk)
      clear hq ho
      by_cases hkn : (k : Int) < nw
      · have hi := inv_some (wim := 2 ^ k) (nw := nw) rfl hkn
        have E := phid (show invV (2 ^ k) nw = k ∧ invE (2 ^ k) nw = 0 from ⟨by unfold invV; rw [if_pos ⟨hw1, hw2⟩, hi], by unfold invE; rw [if_pos ⟨hw1, hw2⟩, hi]⟩)
        have hd : decide (nw ≤ (k : Int)) = false := by simp; omega
        clear hi
        generalize (2 : Int) ^ k = p at *
        go_enter Tryd.func29, Tryd.ntmps29
        go_wp2_with fail
        refine (H1.out _).mono ?_
        rintro e w' ⟨rfl, rfl⟩
        go_wp2_with fail
        refine (HO.out _).mono ?_
        rintro e w1 ⟨rfl, hB⟩
        have HB := phid hB
        clear hB
        go_wp2_with fail
        refine (HT.out _ (BR.out.keep HB.out)).mono ?_
        rintro e w' ⟨rfl, rfl⟩
        go_wp2_with fail
        refine (HT.out _ (BR.out.keep HB.out)).mono ?_
        rintro e w' ⟨rfl, rfl⟩
        go_wp2_with fail
        go_ret2
        exact ⟨pret2 E.out.1.symm E.out.2.symm, HB.out⟩
      · have hi : invO (2 ^ k) nw = none := inv_none (fun j hj e => by have := pow_inj e; omega)
        have E := phid (show invV (2 ^ k) nw = 0 ∧ invE (2 ^ k) nw = 5 from ⟨by unfold invV; rw [if_pos ⟨hw1, hw2⟩, hi], by unfold invE; rw [if_pos ⟨hw1, hw2⟩, hi]⟩)
        have hd : decide (nw ≤ (k : Int)) = true := by simp; omega
        clear hi hkn
        generalize (2 : Int) ^ k = p at *
        go_enter Tryd.func29, Tryd.ntmps29
        go_wp2_with fail
        refine (H1.out _).mono ?_
        rintro e w' ⟨rfl, rfl⟩
        go_wp2_with fail
        refine (HO.out _).mono ?_
        rintro e w1 ⟨rfl, hB⟩
        have HB := phid hB
        clear hB
        go_wp2_with fail
        refine (HT.out _ (BR.out.keep HB.out)).mono ?_
        rintro e w' ⟨rfl, rfl⟩
        go_wp2_with fail
        go_ret2
        exact ⟨pret2 E.out.1.symm E.out.2.symm, HB.out⟩
    · have hne : (onesS wim != 1) = true := by
        have : onesS wim ≠ 1 := fun e => hp (ones_one h0 h1 e)
        simpa using this
      have hi : invO wim nw = none := inv_none (fun j hj e => hp ⟨j, by omega, e⟩)
      have E := phid (show invV wim nw = 0 ∧ invE wim nw = 5 from ⟨by unfold invV; rw [if_pos ⟨hw1, hw2⟩, hi], by unfold invE; rw [if_pos ⟨hw1, hw2⟩, hi]⟩)
      have HO := phid ho
      clear hq ho hi hp
      generalize onesS wim = o at *
      go_enter Tryd.func29, Tryd.ntmps29
      go_wp2_with fail
      refine (H1.out _).mono ?_
      rintro e w' ⟨rfl, rfl⟩
      go_wp2_with fail
      refine (HO.out _).mono ?_
      rintro e w1 ⟨rfl, hB⟩
      have HB := phid hB
      clear hB
      go_wp2_with fail
      go_ret2
      exact ⟨pret2 E.out.1.symm E.out.2.symm, HB.out⟩
  · rw [decide_eq_false hw] at hq
    have H1 := phid hq
    have E := phid (show invV wim nw = 0 ∧ invE wim nw = 2 from ⟨if_neg hw, if_neg hw⟩)
    clear hq hw
    go_enter Tryd.func29, Tryd.ntmps29
    go_wp2_with fail
    refine (H1.out _).mono ?_
    rintro e w' ⟨rfl, rfl⟩
    go_wp2_with fail
    go_ret2
    exact ⟨pret2 E.out.1.symm E.out.2.symm, Below.refl _ _⟩
end Go.Proofs.YtilegepenibeoaaDoor
