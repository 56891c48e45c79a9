/- What a register's word and a label are to the lexer: plain laws. -/
import Derived.Test.YthnfkecbgfcipaaDoorLexFacts
import Derived.Test.YthnfkecbgfcipaaDoorLexNum
namespace Go.Proofs.YthnfkecbgfcipaaDoor
set_option linter.unusedVariables false
theorem u8_ofNat (n : Nat) (h : n < 256) : (UInt8.ofNat n).toNat = n := by simp; omega
theorem head48_append (a b : List UInt8) (h : a ≠ []) : head48 (a ++ b) = head48 a := by
  cases a with
  | nil => exact (h rfl).elim
  | cons c r => rfl
theorem alldB_append (a b : List UInt8) : alldB (a ++ b) = (alldB a && alldB b) := by unfold alldB; rw [List.all_append]
theorem dec_all (n : Nat) : Lib.decDigits n ≠ [] ∧ alldB (Lib.decDigits n) = true ∧ valS (Lib.decDigits n) = n ∧ (head48 (Lib.decDigits n) = true → n = 0) := by
  induction n using Nat.strongRecOn with
  | _ n ih =>
    unfold Lib.decDigits
    split
    · rename_i h
      have e := u8_ofNat (48 + n) (by omega)
      refine ⟨by simp, ?_, ?_, ?_⟩
      · show (decide (digP ((UInt8.ofNat (48 + n)).toNat : Int)) && true) = true
        rw [Bool.and_true, e]; apply decide_eq_true; unfold digP; omega
      · show 10 * 0 + ((UInt8.ofNat (48 + n)).toNat - 48) = n; rw [e]; omega
      · show decide ((UInt8.ofNat (48 + n)).toNat = 48) = true → _; rw [e]; intro h2; have := of_decide_eq_true h2; omega
    · rename_i h
      obtain ⟨h1, h2, h3, h4⟩ := ih (n / 10) (by omega)
      have e := u8_ofNat (48 + n % 10) (by omega)
      refine ⟨by simp, ?_, ?_, ?_⟩
      · rw [alldB_append, h2, Bool.true_and]
        show (decide (digP ((UInt8.ofNat (48 + n % 10)).toNat : Int)) && true) = true
        rw [Bool.and_true, e]; apply decide_eq_true; unfold digP; omega
      · have h5 := foldV_append 0 (Lib.decDigits (n / 10)) [UInt8.ofNat (48 + n % 10)]
        have h6 : foldV 0 (Lib.decDigits (n / 10)) = n / 10 := h3
        rw [h6] at h5
        refine h5.trans ?_
        rw [foldV_cons, e]
        show 10 * (n / 10) + (48 + n % 10 - 48) = n
        omega
      · rw [head48_append _ _ h1]
        intro h5
        have := h4 h5
        omega
theorem dig_nonw {c : UInt8} (h : digP (c.toNat : Int)) : nonw c = true ∧ c.toNat ≠ 10 := by
  have := digP_nat h
  refine ⟨?_, by omega⟩
  unfold nonw
  rw [decide_eq_false]
  · rfl
  · unfold whiteP; omega
theorem word_nonw {c : UInt8} (h : wordP (c.toNat : Int)) : nonw c = true ∧ c.toNat ≠ 10 := by
  unfold wordP letP digP at h
  refine ⟨?_, by omega⟩
  unfold nonw
  rw [decide_eq_false]
  · rfl
  · unfold whiteP; omega
theorem reg_lex (n : Nat) (h : n < 4096) : lexS (118 :: Lib.decDigits n) = .ok [⟨2, 118 :: Lib.decDigits n, n, 1, 1⟩, ⟨6, [], 0, 1, (Lib.decDigits n).length + 2⟩] := by
  obtain ⟨h1, h2, h3, h4⟩ := dec_all n
  have hd : ∀ c ∈ Lib.decDigits n, digP (c.toNat : Int) := fun c hc => of_decide_eq_true (List.all_eq_true.1 h2 c hc)
  have ht : tokB (118 :: Lib.decDigits n) = some (2, 118 :: Lib.decDigits n, n) := by
    unfold tokB
    rw [if_neg (by simp), if_neg (by simp), if_pos ?_]
    · show some (2, _, valS (Lib.decDigits n)) = _; rw [h3]
    · show (true && numOk 4095 (Lib.decDigits n)) = true
      unfold numOk
      rw [h2, h3]
      have e1 : (Lib.decDigits n).isEmpty = false := by cases he : Lib.decDigits n with
        | nil => exact (h1 he).elim
        | cons c r => rfl
      have e2 : (head48 (Lib.decDigits n) && decide (1 < (Lib.decDigits n).length)) = false := by
        cases h5 : head48 (Lib.decDigits n) with
        | false => rfl
        | true =>
          have := h4 h5
          subst this
          rw [Bool.true_and]
          apply decide_eq_false
          unfold Lib.decDigits
          rw [dif_pos (by omega)]
          simp
      rw [e1, e2, decide_eq_true (show n ≤ 4095 by omega)]
      rfl
  have hl : linesS (118 :: Lib.decDigits n) = [118 :: Lib.decDigits n] := linesS_one _ (by simp) (fun c hc => by
    rcases List.mem_cons.1 hc with rfl | hc
    · decide
    · exact (dig_nonw (hd c hc)).2)
  have hw : wordsS 0 (118 :: Lib.decDigits n) = [(0, 118 :: Lib.decDigits n)] := by
    have := wordsS_word (118 :: Lib.decDigits n) 0 [] (by simp) (fun c hc => by
      rcases List.mem_cons.1 hc with rfl | hc
      · decide
      · exact (dig_nonw (hd c hc)).1) (.inl rfl)
    rw [List.append_nil] at this
    exact this
  unfold lexS
  rw [hl]
  unfold linesT lineT
  rw [hw]
  simp only
  rw [show begins 35 (118 :: Lib.decDigits n) = false from rfl]
  unfold toksW
  rw [ht]
  simp [toksW, linesT]
theorem label_lex (s : List UInt8) (h : nameB s = true) : lexS (120 :: 32 :: (s ++ [58])) = .ok [⟨0, [120], 0, 1, 1⟩, ⟨1, s, 0, 1, 3⟩, ⟨6, [], 0, 1, s.length + 4⟩] := by
  cases s with
  | nil => cases h
  | cons c r =>
    have h0 := h
    simp only [nameB, Bool.and_eq_true] at h0
    have hc : letP (c.toNat : Int) := of_decide_eq_true h0.1.1.2
    have hr : ∀ x ∈ r, wordP (x.toNat : Int) := fun x hx => of_decide_eq_true (List.all_eq_true.1 h0.1.2 x hx)
    have hall : ∀ x ∈ c :: r ++ [58], nonw x = true ∧ x.toNat ≠ 10 := fun x hx => by
      rcases List.mem_append.1 hx with hx | hx
      · rcases List.mem_cons.1 hx with rfl | hx
        · exact word_nonw (.inl hc)
        · exact word_nonw (hr x hx)
      · rw [List.mem_singleton.1 hx]; decide
    have hnd : ∀ t : List UInt8, alldB (t ++ [58]) = false := fun t => by rw [alldB_append]; simp [alldB, digP]
    have ht : tokB (c :: r ++ [58]) = some (1, c :: r, 0) := by
      unfold tokB
      rw [if_neg (by cases r <;> simp), if_neg (by cases r <;> simp)]
      have e1 : numOk 4095 (c :: r ++ [58]).tail = false := by
        show numOk 4095 (r ++ [58]) = false
        unfold numOk; rw [hnd]; simp
      rw [e1, Bool.and_false, if_neg (by simp)]
      have e2 : numT (c :: r ++ [58]) = none := by
        unfold numT
        have e3 : begins 45 (c :: r ++ [58]) = false := by
          show decide (c.toNat = 45) = false
          apply decide_eq_false
          unfold letP at hc
          omega
        rw [e3, if_neg (by simp)]
        have e4 : numOk 4294967295 (c :: r ++ [58]) = false := by unfold numOk; rw [hnd]; simp
        rw [e4]; rfl
      rw [e2]
      have e5 : endsColon (c :: r ++ [58]) = true := by unfold endsColon; rw [List.getLast?_append]; rfl
      have e6 : (c :: r ++ [58]).dropLast = c :: r := by rw [List.dropLast_concat]
      simp only [e5, e6, h, Bool.true_and, if_true]
    have hl : linesS (120 :: 32 :: (c :: r ++ [58])) = [120 :: 32 :: (c :: r ++ [58])] := linesS_one _ (by simp) (fun x hx => by
      rcases List.mem_cons.1 hx with rfl | hx
      · decide
      · rcases List.mem_cons.1 hx with rfl | hx
        · decide
        · exact (hall x hx).2)
    have hw : wordsS 0 (120 :: 32 :: (c :: r ++ [58])) = [(0, [120]), (2, c :: r ++ [58])] := by
      have e1 := wordsS_word [120] 0 (32 :: (c :: r ++ [58])) (by simp) (fun x hx => by rw [List.mem_singleton.1 hx]; decide) (.inr ⟨32, _, rfl, by decide⟩)
      have e2 := wordsS_white 1 32 (c :: r ++ [58]) (by decide)
      have e3 := wordsS_word (c :: r ++ [58]) 2 [] (by simp) (fun x hx => (hall x hx).1) (.inl rfl)
      rw [List.append_nil] at e3
      refine e1.trans ?_
      show (0, [120]) :: wordsS 1 (32 :: (c :: r ++ [58])) = _
      rw [e2]
      show (0, [120]) :: wordsS 2 (c :: r ++ [58]) = _
      rw [e3]
      rfl
    unfold lexS
    rw [hl]
    unfold linesT lineT
    rw [hw]
    simp only
    rw [show begins 35 [120] = false from rfl]
    unfold toksW
    rw [show tokB [120] = some (0, [120], 0) from rfl]
    unfold toksW
    rw [ht]
    simp [toksW, linesT]
end Go.Proofs.YthnfkecbgfcipaaDoor
