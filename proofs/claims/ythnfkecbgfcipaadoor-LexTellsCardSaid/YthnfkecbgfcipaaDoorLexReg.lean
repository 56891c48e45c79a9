/- lex.Reg. -/
import Derived.Test.YthnfkecbgfcipaaDoorLexRow
import Derived.Test.YthnfkecbgfcipaaDoorItoa
namespace Go.Proofs.YthnfkecbgfcipaaDoor
open Go.RowKit
set_option linter.unusedVariables false
set_option linter.unusedSimpArgs false
def regS (n : Int) : List UInt8 := if n < 0 ∨ 4096 ≤ n then [] else 118 :: Lib.decDigits n.toNat
theorem decDigits_len (n : Nat) (h : n < 4096) : (Lib.decDigits n).length ≤ 4 := by
  unfold Lib.decDigits
  split
  · simp
  · rw [List.length_append]
    have : (Lib.decDigits (n / 10)).length ≤ 3 := by
      unfold Lib.decDigits
      split
      · simp
      · rw [List.length_append]
        have : (Lib.decDigits (n / 10 / 10)).length ≤ 2 := by
          unfold Lib.decDigits
          split
          · simp
          · rw [List.length_append]
            have : (Lib.decDigits (n / 10 / 10 / 10)).length ≤ 1 := by
              unfold Lib.decDigits
              rw [dif_pos (by omega)]
              simp
            simp; omega
        simp; omega
    simp; omega
theorem reg_any (n : Int) (w : World) (hW : LexW w) : Calls Tryd.prog 15 #[.int .i64 n] w fun e w' => e = .returned (.string ⟨(regS n).toArray⟩) ∧ Below w.heap.size w w' := by
  by_cases h0 : n < 0
  · have d1 : decide (n < 0) = true := decide_eq_true h0
    have HE := shid (show regS n = [] by unfold regS; rw [if_pos (.inl h0)])
    go_enter Tryd.func15, Tryd.ntmps15
    go_wp2_with fail
    go_ret
    exact ⟨sret_val (by rw [HE.out]; rfl), Below.refl _ _⟩
  have d1 : decide (n < 0) = false := decide_eq_false h0
  by_cases h1 : 4096 ≤ n
  · have d2 : decide (4096 ≤ n) = true := decide_eq_true h1
    have HE := shid (show regS n = [] by unfold regS; rw [if_pos (.inr h1)])
    go_enter Tryd.func15, Tryd.ntmps15
    go_wp2_with fail
    go_ret
    exact ⟨sret_val (by rw [HE.out]; rfl), Below.refl _ _⟩
  have d2 : decide (4096 ≤ n) = false := decide_eq_false h1
  obtain ⟨m, rfl⟩ : ∃ m : Nat, n = m := ⟨n.toNat, by omega⟩
  have hlen := decDigits_len m (by omega)
  have HI := shid (itoa_any m (by omega) w hW.tens)
  have HE := shid (show regS (m : Int) = 118 :: Lib.decDigits m by unfold regS; rw [if_neg (by omega)]; simp)
  have hl2 : decide ((9223372036854775807 : Int) < 1 + ((Lib.decDigits m).length : Nat)) = false := decide_eq_false (by omega)
  have hl3 : ¬ (9223372036854775807 < 1 + (Lib.decDigits m).length) := by omega
  clear h0 h1 hlen
  go_enter Tryd.func15, Tryd.ntmps15
  go_wp2_with fail
  go_at_call 25
  refine HI.out.mono ?_
  rintro e w1 ⟨rfl, hb⟩
  have HB := shid hb
  clear hb
  go_wp2_with fail
  go_ret
  refine ⟨sret_val (by rw [HE.out]; congr 1), HB.out⟩
end Go.Proofs.YthnfkecbgfcipaaDoor
