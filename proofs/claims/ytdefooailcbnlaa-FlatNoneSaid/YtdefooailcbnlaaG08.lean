/- The walks of shape.has, and of slices.ContainsFunc with shape.ins's function. -/
import Derived.Test.YtdefooailcbnlaaG05
import Derived.BigGuardPart
namespace Go.Proofs.Ytdefooailcbnlaa
open Go.RowKit
set_option linter.unusedVariables false
set_option linter.unusedSimpArgs false
def hasB (place many : Int) : Bool := decide (0 ≤ place ∧ place < many)
theorem has_any (place many : Int) (w : World) : Calls Try.prog 56 #[.int .i64 place, .int .i64 many] w fun e w' => e = .returned (.bool (hasB place many)) ∧ w = w' := by
  have HB := shid (show hasB place many = decide (0 ≤ place ∧ place < many) from rfl)
  by_cases h0 : 0 ≤ place
  · by_cases h1 : place < many
    · have hb := shid (HB.out.trans (decide_eq_true ⟨h0, h1⟩))
      go_enter Try.func56, Try.ntmps56
      go_wp2_with fail
      go_ret
      exact ⟨sret_val (by rw [hb.out]; rfl), rfl⟩
    · have hb := shid (HB.out.trans (decide_eq_false (fun h => h1 h.2)))
      go_enter Try.func56, Try.ntmps56
      go_wp2_with fail
      go_ret
      exact ⟨sret_val (by rw [hb.out]; simp), rfl⟩
  · have hb := shid (HB.out.trans (decide_eq_false (fun h => h0 h.1)))
    go_enter Try.func56, Try.ntmps56
    go_wp2_with fail
    go_ret
    exact ⟨sret_val (by rw [hb.out]; rfl), rfl⟩
theorem insf_any (r : Int) (w : World) : Calls Try.prog 76 #[.int .i64 r] w fun e w' => e = .returned (.bool (decide (r < 0))) ∧ w = w' := by
  go_enter Try.func76, Try.ntmps76
  go_wp2_with fail
  go_ret
  exact ⟨rfl, rfl⟩
set_option maxHeartbeats 1000000 in
/-- The first of a row of numbers of which a function says yes; the function may make memory. -/
theorem index_neg (w : World) (v : Value) (l : List Int) (h : IntsIn w v l) :
    Calls Try.prog 73 #[v, .func (.func 76) #[] #[]] w fun e w' => (∃ i : Int, e = .returned (.int .i64 i) ∧ (0 ≤ i ↔ ∃ y ∈ l, y < 0)) ∧ w = w' := by
  obtain ⟨p, c, b, o, rfl, hl, H⟩ := h.hids
  clear h
  go_enter Try.func73, Try.ntmps73
  go_wp2_with fail
  go_loop [8] (fun i => ∃ k : Nat, k ≤ l.length ∧ i = .int .i64 k ∧ ∀ y ∈ l.take k, 0 ≤ y) (fun i => l.length - (intOf i).toNat)
  case atStart => exact ⟨0, Nat.zero_le _, rfl, by simp⟩
  case round =>
    obtain ⟨k, hk, rfl, hf⟩ := hrel
    have HF := shid hf
    clear hf
    by_cases hlt : k < l.length
    · obtain rfl := H.out.1 (by omega)
      have c1 := (H.out.2 k l[k] (List.getElem?_eq_getElem hlt)).1
      have HT := shid (List.take_succ_eq_append_getElem hlt)
      have HM := shid (List.getElem_mem hlt)
      rw [Nat.mul_one] at c1
      generalize l[k] = y at c1 HT HM
      by_cases hy : y < 0
      · have hd : decide (y < 0) = true := decide_eq_true hy
        go_wp2_with (go_at_call 76; refine (insf_any y _).mono ?_; rintro e w' ⟨rfl, rfl⟩)
        go_ret
        exact ⟨⟨k, rfl, ⟨fun _ => ⟨y, HM.out, hy⟩, fun _ => by omega⟩⟩, rfl⟩
      · have hd : decide (y < 0) = false := decide_eq_false hy
        go_wp2_with (go_at_call 76; refine (insf_any y _).mono ?_; rintro e w' ⟨rfl, rfl⟩)
        go_round
        case rel => exact ⟨k + 1, by omega, by go_num, fun z hz => by
          rw [HT.out] at hz
          rcases List.mem_append.1 hz with h | h
          · exact HF.out z h
          · simp at h; omega⟩
        case measure => simp [intOf]; omega
    · go_wp2_with fail
      go_ret
      have h1 := HF.out
      rw [List.take_of_length_le (by omega)] at h1
      exact ⟨⟨-1, rfl, ⟨fun h => by omega, fun ⟨y, hy, hn⟩ => by have := h1 y hy; omega⟩⟩, rfl⟩
def anyNeg (l : List Int) : Bool := l.any fun y => decide (y < 0)
theorem contains_neg (w : World) (v : Value) (l : List Int) (h : IntsIn w v l) :
    Calls Try.prog 54 #[v, .func (.func 76) #[] #[]] w fun e w' => e = .returned (.bool (anyNeg l)) ∧ w = w' := by
  have HC := shid (index_neg w v l h)
  have HB : Hid (∀ i : Int, (0 ≤ i ↔ ∃ y ∈ l, y < 0) → decide (0 ≤ i) = anyNeg l) := shid fun i hi => by
    unfold anyNeg
    rw [Bool.eq_iff_iff]
    simp [hi]
  obtain ⟨p, c, rfl⟩ := h.shape
  clear h
  go_enter Try.func54, Try.ntmps54
  go_wp2_with fail
  refine HC.out.mono ?_
  rintro e w' ⟨⟨i, rfl, hi⟩, rfl⟩
  have HI := shid (HB.out i hi)
  clear hi HB
  go_wp2_with fail
  go_ret
  exact ⟨sret_val (by rw [← HI.out]; rfl), rfl⟩
end Go.Proofs.Ytdefooailcbnlaa
