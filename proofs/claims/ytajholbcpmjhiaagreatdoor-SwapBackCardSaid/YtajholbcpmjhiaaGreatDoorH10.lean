/- Several texts in one: WindLaw, WindRun. -/
import Derived.Test.YtajholbcpmjhiaaGreatDoorH09
set_option linter.unusedVariables false
set_option linter.unusedSimpArgs false
/- Plain law: what the handlers of window traps do. No program in sight. -/
namespace Go.Proofs.YtajholbcpmjhiaaGreatDoor
open Go.RowKit
theorem eight {g : List Int} (h : g.length = 8) : ∃ a b c d e f x y, g = [a, b, c, d, e, f, x, y] := by
  match g, h with
  | [a, b, c, d, e, f, x, y], _ => exact ⟨a, b, c, d, e, f, x, y, rfl⟩
section
variable {E : He} {win g mem tpc ch : List Int} {cwp : Nat} {wim fl : Int}
theorem store_run (t : Nat) (hx : ∀ j, j < 16 → E.L[t + j]? = some (eachI 23 j)) {A : Nat} (hA : win.getD (16 * ((cwp + E.nw - 1) % E.nw) + 14) 0 = A) (ha : 64 ≤ A ∧ A % 4 = 0 ∧ A + 64 ≤ mem.length) (hm : mem.length ≤ 4194304) (hfar : A + 64 ≤ E.lo ∨ E.lo + 4 * E.L.length ≤ A) (hw : 16 * cwp + 16 ≤ win.length) :
    ∀ n, n ≤ 16 → Hp E n ⟨win, g, mem, t, wim, cwp, fl, tpc, ch⟩ ⟨win, g, putS mem A (((win.drop (16 * cwp)).take 16).take n), t + n, wim, cwp, fl, tpc, ch⟩ := by
  intro n
  induction n with
  | zero => intro _; exact Hp.refl _ _
  | succ n ih =>
    intro hn
    refine Hp.trans (ih (by omega)) (Hp.stf n (v := win.getD (16 * cwp + n) 0) (hx n (by omega)) (by omega) hA (by rw [putS_len]; exact ha) (by rw [putS_len]; exact hm) hfar rfl ?_)
    have hl : ((win.drop (16 * cwp)).take 16).length = 16 := by rw [List.length_take, List.length_drop]; omega
    rw [putS_take _ _ _ _ (by rw [hl]; omega)]
    have e : ((win.drop (16 * cwp)).take 16).getD n 0 = win.getD (16 * cwp + n) 0 := by
      rw [List.getD_eq_getElem?_getD, List.getD_eq_getElem?_getD, List.getElem?_take_of_lt (by omega), List.getElem?_drop]
    rw [e]
    exact Hp.refl _ _
def setW (win : List Int) (w : Nat) (l : List Int) : List Int := win.take (16 * w) ++ l ++ win.drop (16 * w + l.length)
theorem setW_nil (win : List Int) (w : Nat) : setW win w [] = win := by unfold setW; simp
theorem setW_snoc {win : List Int} {w : Nat} {l : List Int} {x : Int} (h : 16 * w + l.length < win.length) : setW win w (l ++ [x]) = (setW win w l).set (16 * w + l.length) x := by
  unfold setW
  have e1 : (win.take (16 * w) ++ l).length = 16 * w + l.length := by rw [List.length_append, List.length_take]; omega
  rw [List.set_append_right _ _ (by omega), e1, Nat.sub_self, List.drop_eq_getElem_cons h]
  simp only [List.set_cons_zero, List.length_append, List.length_cons, List.length_nil, List.append_assoc, List.cons_append, List.nil_append]
  rw [show 16 * w + (l.length + (0 + 1)) = 16 * w + l.length + 1 by omega]
theorem setW_len {win : List Int} {w : Nat} {l : List Int} (h : 16 * w + l.length ≤ win.length) : (setW win w l).length = win.length := by
  unfold setW; rw [List.length_append, List.length_append, List.length_take, List.length_drop]; omega
theorem setW_out {win : List Int} {w : Nat} {l : List Int} (h : 16 * w + l.length ≤ win.length) {i : Nat} (hi : i < 16 * w ∨ 16 * w + l.length ≤ i) : (setW win w l).getD i 0 = win.getD i 0 := by
  unfold setW
  rw [List.getD_eq_getElem?_getD, List.getD_eq_getElem?_getD]
  rcases hi with hi | hi
  · rw [List.append_assoc, List.getElem?_append_left (by rw [List.length_take]; omega), List.getElem?_take_of_lt hi]
  · have e1 : (win.take (16 * w) ++ l).length = 16 * w + l.length := by rw [List.length_append, List.length_take]; omega
    rw [List.getElem?_append_right (by omega), e1, List.getElem?_drop, show 16 * w + l.length + (i - (16 * w + l.length)) = i by omega]
theorem setW_in {win : List Int} {w : Nat} {l : List Int} (h : 16 * w + l.length ≤ win.length) {j : Nat} (hj : j < l.length) : (setW win w l).getD (16 * w + j) 0 = l.getD j 0 := by
  unfold setW
  rw [List.getD_eq_getElem?_getD, List.getD_eq_getElem?_getD, List.append_assoc, List.getElem?_append_right (by rw [List.length_take]; omega), List.length_take, Nat.min_eq_left (by omega), Nat.add_sub_cancel_left, List.getElem?_append_left hj]
theorem load_run (t : Nat) (hx : ∀ j, j < 16 → E.L[t + j]? = some (eachI 22 j)) {A : Nat} (hA : win.getD (16 * ((cwp + E.nw - 1) % E.nw) + 14) 0 = A) (ha : 64 ≤ A ∧ A % 4 = 0 ∧ A + 64 ≤ mem.length) (hm : mem.length ≤ 4194304) (hw : win.length = 16 * E.nw) (hc : cwp < E.nw) (hnw : 2 ≤ E.nw) :
    ∀ n, n ≤ 16 → Hp E n ⟨win, g, mem, t, wim, cwp, fl, tpc, ch⟩ ⟨setW win cwp (wordsS mem A n), g, mem, t + n, wim, cwp, fl, tpc, ch⟩ := by
  intro n
  induction n with
  | zero => intro _; rw [show wordsS mem A 0 = [] from rfl, setW_nil]; exact Hp.refl _ _
  | succ n ih =>
    intro hn
    have hl : (wordsS mem A n).length = n := wordsS_len _ _ _
    have hne : (cwp + E.nw - 1) % E.nw ≠ cwp := by
      intro h
      rcases Nat.lt_or_ge 0 cwp with h0 | h0
      · rw [show cwp + E.nw - 1 = (cwp - 1) + E.nw by omega, Nat.add_mod_right, Nat.mod_eq_of_lt (by omega)] at h; omega
      · rw [show cwp = 0 by omega, Nat.zero_add, Nat.mod_eq_of_lt (by omega)] at h; omega
    refine Hp.trans (ih (by omega)) (Hp.ldf n (A := A) (hx n (by omega)) (by omega) ?_ ha hm rfl ?_)
    · rw [setW_out (by rw [hl]; omega) (by rw [hl]; omega)]; exact hA
    · rw [wordsS_succ, setW_snoc (by rw [hl]; omega), hl]
      exact Hp.refl _ _
end
end Go.Proofs.YtajholbcpmjhiaaGreatDoor
/- Plain law: the two handlers of window traps, run whole up to their RETT. No program in sight. -/
namespace Go.Proofs.YtajholbcpmjhiaaGreatDoor
open Go.RowKit
theorem inv_pow {nw k : Nat} (h2 : 2 ≤ nw) (h32 : nw ≤ 32) (hk : k < nw) : invE (2 ^ k) nw = 0 := by
  unfold invE; rw [if_pos (show winP (nw : Int) from ⟨by omega, by omega⟩), inv_some rfl (by omega)]
theorem inv_powV {nw k : Nat} (h2 : 2 ≤ nw) (h32 : nw ≤ 32) (hk : k < nw) : invV (2 ^ k) nw = k := by
  unfold invV; rw [if_pos (show winP (nw : Int) from ⟨by omega, by omega⟩), inv_some rfl (by omega)]
theorem wim_lt' : ∀ k : Nat, k < 32 → (2 : Int) ^ k < 4294967296 := by decide
theorem wim_lt {k nw : Nat} (h : nw ≤ 32) (hk : k < nw) : (2 : Int) ^ k < 4294967296 := wim_lt' k (by omega)
theorem and31 {n : Int} (h : 0 ≤ n) : andS n 31 = n % 32 := by
  obtain ⟨m, rfl⟩ := Int.eq_ofNat_of_zero_le h
  unfold andS
  rw [Int.toNat_natCast, show (31 : Int).toNat = 2 ^ 5 - 1 from rfl, Nat.and_two_pow_sub_one_eq_mod]
  omega
theorem andBelow {n : Int} (h : 0 ≤ n) (h2 : n < 4294967296) : andS n 4294967264 = 32 * (n / 32) := by
  obtain ⟨m, rfl⟩ := Int.eq_ofNat_of_zero_le h
  unfold andS
  rw [Int.toNat_natCast, show (4294967264 : Int).toNat = 4294967264 from rfl, nat_and_step, nat_and_step (m / 2), nat_and_step (m / 2 / 2), nat_and_step (m / 2 / 2 / 2), nat_and_step (m / 2 / 2 / 2 / 2)]
  rw [show 4294967264 / 2 / 2 / 2 / 2 / 2 = 2 ^ 27 - 1 from rfl, Nat.and_two_pow_sub_one_eq_mod]
  omega
theorem orLow {q c : Int} (hq : 0 ≤ q) (h : 0 ≤ c) (h2 : c < 32) : orS (32 * q) c = 32 * q + c := by
  obtain ⟨m, rfl⟩ := Int.eq_ofNat_of_zero_le hq
  obtain ⟨d, rfl⟩ := Int.eq_ofNat_of_zero_le h
  unfold orS
  rw [show ((32 : Int) * (m : Int)).toNat = 2 ^ 5 * m by omega, Int.toNat_natCast, ← Nat.two_pow_add_eq_or_of_lt (by omega)]
  omega
theorem pack31 {c : Nat} {p f : Int} (h : c < 32) (h0 : 0 ≤ (c : Int)) (hp : 0 ≤ p) (hf : 0 ≤ f) : andS (packW ⟨c, p, 16, f⟩) 31 = c := by
  rw [and31 (by unfold packW; simp only; omega)]
  unfold packW; simp only; omega
theorem flag_eq (a b : Int) : holdsS 1 (flagsS a b) = decide (a = b) ∧ holdsS 2 (flagsS a b) = !decide (a = b) := by
  have h : whasS (flagsS a b) 4 = decide (a = b) := by
    unfold whasS flagsS truthS
    by_cases h1 : a = b <;> simp only [h1, decide_true, decide_false, if_true, if_false, Bool.false_eq_true] <;> split <;> split <;> (try split) <;> decide
  exact ⟨h, by show (!whasS _ 4) = _; rw [h]⟩
def eachL (op : Int) : List Ix := (List.range 16).map (eachI op)
theorem each_at (op : Int) (j : Nat) (h : j < 16) : (eachL op)[j]? = some (eachI op j) := by
  unfold eachL; rw [List.getElem?_map, List.getElem?_range h]; rfl
theorem mid_at {A B R : List Ix} (j n : Nat) (hn : A.length = n) : (A ++ (B ++ R))[n + j]? = (B ++ R)[j]? := by
  rw [List.getElem?_append_right (by omega), hn, Nat.add_sub_cancel_left]
section
end
end Go.Proofs.YtajholbcpmjhiaaGreatDoor
