/- muntinref12.Word, whatever the word is. -/
import Derived.Test.YthnfkecbgfcipaaDoorLexRWord
namespace Go.Proofs.YthnfkecbgfcipaaDoor
open Go.RowKit
set_option linter.unusedVariables false
set_option linter.unusedSimpArgs false
def restT (s : List UInt8) : Option (Nat × List UInt8 × Nat) := if endsColon s && nameB s.dropLast then some (1, s.dropLast, 0) else if nameB s then some (0, s, 0) else none
theorem last_at (c : UInt8) (r : List UInt8) : (((((⟨(c :: r).toArray⟩ : ByteArray)[r.length]'(by simp [ByteArray.size])).toNat : Int) == 58) = endsColon (c :: r)) := by
  have h : (c :: r).getLast? = some ((⟨(c :: r).toArray⟩ : ByteArray)[r.length]'(by simp [ByteArray.size])) := by
    rw [List.getLast?_eq_getElem?, List.length_cons, Nat.add_sub_cancel, List.getElem?_eq_getElem (by simp)]
    rfl
  unfold endsColon
  rw [h]
  show _ = decide (_ = 58)
  rw [Bool.eq_iff_iff, beq_iff_eq, decide_eq_true_eq]
  omega
theorem name_ex (c : UInt8) (r : List UInt8) (hs : r.length + 1 ≤ 70000) : ∀ W, Calls Tryd.prog 41 #[.string ((⟨(c :: r).toArray⟩ : ByteArray).extract 0 r.length)] W fun e w' => e = .returned (.bool (nameB (c :: r).dropLast)) ∧ W = w' := fun W => by
  rw [sext0]
  exact rname_any _ (by simp [ByteArray.size]; omega) W
theorem name_all (c : UInt8) (r : List UInt8) (hs : r.length + 1 ≤ 70000) : ∀ W, Calls Tryd.prog 41 #[.string ⟨(c :: r).toArray⟩] W fun e w' => e = .returned (.bool (nameB (c :: r))) ∧ W = w' := fun W => rname_any _ (by simp [ByteArray.size]; omega) W
theorem num_ex (c : UInt8) (r : List UInt8) (hs : r.length + 1 ≤ 70000) (most : Nat) (hm : most < 1000000000000) (b : Bool) (hb : numOk most r = b) : ∀ W, Calls Tryd.prog 40 #[.string ((⟨(c :: r).toArray⟩ : ByteArray).extract 1 (r.length + 1)), .int .u64 (most : Int)] W fun e w' => (∃ n : Nat, e = .returned (.tuple #[.int .u64 (n : Int), .bool b]) ∧ (b = true → n = valS r)) ∧ W = w' := fun W => by
  rw [sext c r _ rfl]
  have h := rnumber_any r most hm (by omega) W
  rw [hb] at h
  exact h
theorem num_all (c : UInt8) (r : List UInt8) (hs : r.length + 1 ≤ 70000) (b : Bool) (hb : numOk 4294967295 (c :: r) = b) : ∀ W, Calls Tryd.prog 40 #[.string ⟨(c :: r).toArray⟩, .int .u64 4294967295] W fun e w' => (∃ n : Nat, e = .returned (.tuple #[.int .u64 (n : Int), .bool b]) ∧ (b = true → n = valS (c :: r))) ∧ W = w' := fun W => by
  have h := rnumber_any (c :: r) 4294967295 (by decide) (by simp; omega) W
  rw [hb] at h
  exact h
theorem num_no {l : List UInt8} {a : Value} {most : Value} (h : ∀ W, Calls Tryd.prog 40 #[a, most] W fun e w' => (∃ n : Nat, e = .returned (.tuple #[.int .u64 (n : Int), .bool false]) ∧ (false = true → n = valS l)) ∧ W = w') : Hid (∀ W, Calls Tryd.prog 40 #[a, most] W fun e w' => (∃ n : Nat, e = .returned (.tuple #[.int .u64 (n : Int), .bool false])) ∧ W = w') :=
  shid fun W => (h W).mono fun e w' ⟨⟨n, h1, _⟩, h2⟩ => ⟨⟨n, h1⟩, h2⟩
theorem num_yes {l : List UInt8} {a : Value} {most : Value} (h : ∀ W, Calls Tryd.prog 40 #[a, most] W fun e w' => (∃ n : Nat, e = .returned (.tuple #[.int .u64 (n : Int), .bool true]) ∧ (true = true → n = valS l)) ∧ W = w') : Hid (∀ W, Calls Tryd.prog 40 #[a, most] W fun e w' => e = .returned (.tuple #[.int .u64 (valS l : Int), .bool true]) ∧ W = w') :=
  shid fun W => (h W).mono fun e w' ⟨⟨n, h1, h3⟩, h2⟩ => ⟨by rw [h1, h3 rfl], h2⟩
theorem zf (c k : UInt8) (r : List UInt8) (h : c :: r ≠ [k]) : (c == k && r.isEmpty) = false := by
  rw [Bool.eq_false_iff]
  intro e
  simp only [Bool.and_eq_true, beq_iff_eq, List.isEmpty_iff] at e
  exact h (by rw [e.1, e.2])
theorem rword_qa (c : UInt8) (r : List UInt8) (hs : r.length + 1 ≤ 70000) (w : World) (z0 : (c == (123 : UInt8) && r.isEmpty) = false) (z1 : (c == (125 : UInt8) && r.isEmpty) = false) (a0118 : (((((⟨(c :: r).toArray⟩ : ByteArray)[0]'(by simp [ByteArray.size])).toNat : Int) == 118) = true)) (a045 : (((((⟨(c :: r).toArray⟩ : ByteArray)[0]'(by simp [ByteArray.size])).toNat : Int) == 45) = false)) (HG : Hid (∀ W, Calls Tryd.prog 40 #[.string ((⟨(c :: r).toArray⟩ : ByteArray).extract 1 (r.length + 1)), .int .u64 4095] W fun e w' => (∃ n : Nat, e = .returned (.tuple #[.int .u64 (n : Int), .bool false])) ∧ W = w')) (HF : Hid (∀ W, Calls Tryd.prog 40 #[.string ⟨(c :: r).toArray⟩, .int .u64 4294967295] W fun e w' => (∃ n : Nat, e = .returned (.tuple #[.int .u64 (n : Int), .bool false])) ∧ W = w')) (hT : tokB (c :: r) = restT (c :: r)) : Calls Tryd.prog 21 #[.string ⟨(c :: r).toArray⟩] w (RWordOk (c :: r) w) := by
  have hl := last_at c r
  have hm := name_ex c r hs
  have hq := name_all c r hs
  unfold restT at hT
  cases he : endsColon (c :: r) with
  | true =>
    rw [he] at hT hl
    cases hn : nameB (c :: r).dropLast with
    | true => rw [hn] at hT hm; exact rword_qa1 c r hs w z0 z1 a0118 a045 HG HF hl (shid hm) (shid hT)
    | false =>
      rw [hn] at hT hm
      cases hk : nameB (c :: r) with
      | true => rw [hk] at hT hq; exact rword_qa2 c r hs w z0 z1 a0118 a045 HG HF hl (shid hm) (shid hq) (shid hT)
      | false => rw [hk] at hT hq; exact rword_qa3 c r hs w z0 z1 a0118 a045 HG HF hl (shid hm) (shid hq) (shid hT)
  | false =>
    rw [he] at hT hl
    cases hk : nameB (c :: r) with
    | true => rw [hk] at hT hq; exact rword_qa4 c r hs w z0 z1 a0118 a045 HG HF hl (shid hq) (shid hT)
    | false => rw [hk] at hT hq; exact rword_qa5 c r hs w z0 z1 a0118 a045 HG HF hl (shid hq) (shid hT)
theorem rword_qb (c : UInt8) (r : List UInt8) (hs : r.length + 1 ≤ 70000) (w : World) (z0 : (c == (123 : UInt8) && r.isEmpty) = false) (z1 : (c == (125 : UInt8) && r.isEmpty) = false) (a0118 : (((((⟨(c :: r).toArray⟩ : ByteArray)[0]'(by simp [ByteArray.size])).toNat : Int) == 118) = false)) (a045 : (((((⟨(c :: r).toArray⟩ : ByteArray)[0]'(by simp [ByteArray.size])).toNat : Int) == 45) = false)) (HF : Hid (∀ W, Calls Tryd.prog 40 #[.string ⟨(c :: r).toArray⟩, .int .u64 4294967295] W fun e w' => (∃ n : Nat, e = .returned (.tuple #[.int .u64 (n : Int), .bool false])) ∧ W = w')) (hT : tokB (c :: r) = restT (c :: r)) : Calls Tryd.prog 21 #[.string ⟨(c :: r).toArray⟩] w (RWordOk (c :: r) w) := by
  have hl := last_at c r
  have hm := name_ex c r hs
  have hq := name_all c r hs
  unfold restT at hT
  cases he : endsColon (c :: r) with
  | true =>
    rw [he] at hT hl
    cases hn : nameB (c :: r).dropLast with
    | true => rw [hn] at hT hm; exact rword_qb1 c r hs w z0 z1 a0118 a045 HF hl (shid hm) (shid hT)
    | false =>
      rw [hn] at hT hm
      cases hk : nameB (c :: r) with
      | true => rw [hk] at hT hq; exact rword_qb2 c r hs w z0 z1 a0118 a045 HF hl (shid hm) (shid hq) (shid hT)
      | false => rw [hk] at hT hq; exact rword_qb3 c r hs w z0 z1 a0118 a045 HF hl (shid hm) (shid hq) (shid hT)
  | false =>
    rw [he] at hT hl
    cases hk : nameB (c :: r) with
    | true => rw [hk] at hT hq; exact rword_qb4 c r hs w z0 z1 a0118 a045 HF hl (shid hq) (shid hT)
    | false => rw [hk] at hT hq; exact rword_qb5 c r hs w z0 z1 a0118 a045 HF hl (shid hq) (shid hT)
theorem rword_qc (c : UInt8) (r : List UInt8) (hs : r.length + 1 ≤ 70000) (w : World) (z0 : (c == (123 : UInt8) && r.isEmpty) = false) (z1 : (c == (125 : UInt8) && r.isEmpty) = false) (a0118 : (((((⟨(c :: r).toArray⟩ : ByteArray)[0]'(by simp [ByteArray.size])).toNat : Int) == 118) = false)) (a045 : (((((⟨(c :: r).toArray⟩ : ByteArray)[0]'(by simp [ByteArray.size])).toNat : Int) == 45) = true)) (HF : Hid (∀ W, Calls Tryd.prog 40 #[.string ⟨(c :: r).toArray⟩, .int .u64 4294967295] W fun e w' => (∃ n : Nat, e = .returned (.tuple #[.int .u64 (n : Int), .bool false])) ∧ W = w')) (HG : Hid (∀ W, Calls Tryd.prog 40 #[.string ((⟨(c :: r).toArray⟩ : ByteArray).extract 1 (r.length + 1)), .int .u64 2147483648] W fun e w' => (∃ n : Nat, e = .returned (.tuple #[.int .u64 (n : Int), .bool false])) ∧ W = w')) (hT : tokB (c :: r) = restT (c :: r)) : Calls Tryd.prog 21 #[.string ⟨(c :: r).toArray⟩] w (RWordOk (c :: r) w) := by
  have hl := last_at c r
  have hm := name_ex c r hs
  have hq := name_all c r hs
  unfold restT at hT
  cases he : endsColon (c :: r) with
  | true =>
    rw [he] at hT hl
    cases hn : nameB (c :: r).dropLast with
    | true => rw [hn] at hT hm; exact rword_qc1 c r hs w z0 z1 a0118 a045 HF HG hl (shid hm) (shid hT)
    | false =>
      rw [hn] at hT hm
      cases hk : nameB (c :: r) with
      | true => rw [hk] at hT hq; exact rword_qc2 c r hs w z0 z1 a0118 a045 HF HG hl (shid hm) (shid hq) (shid hT)
      | false => rw [hk] at hT hq; exact rword_qc3 c r hs w z0 z1 a0118 a045 HF HG hl (shid hm) (shid hq) (shid hT)
  | false =>
    rw [he] at hT hl
    cases hk : nameB (c :: r) with
    | true => rw [hk] at hT hq; exact rword_qc4 c r hs w z0 z1 a0118 a045 HF HG hl (shid hq) (shid hT)
    | false => rw [hk] at hT hq; exact rword_qc5 c r hs w z0 z1 a0118 a045 HF HG hl (shid hq) (shid hT)
theorem rword_qd (c : UInt8) (r : List UInt8) (hs : r.length + 1 ≤ 70000) (w : World) (z0 : (c == (123 : UInt8) && r.isEmpty) = false) (z1 : (c == (125 : UInt8) && r.isEmpty) = false) (a0118 : (((((⟨(c :: r).toArray⟩ : ByteArray)[0]'(by simp [ByteArray.size])).toNat : Int) == 118) = false)) (a045 : (((((⟨(c :: r).toArray⟩ : ByteArray)[0]'(by simp [ByteArray.size])).toNat : Int) == 45) = true)) (HF : Hid (∀ W, Calls Tryd.prog 40 #[.string ⟨(c :: r).toArray⟩, .int .u64 4294967295] W fun e w' => (∃ n : Nat, e = .returned (.tuple #[.int .u64 (n : Int), .bool false])) ∧ W = w')) (HG : Hid (∀ W, Calls Tryd.prog 40 #[.string ((⟨(c :: r).toArray⟩ : ByteArray).extract 1 (r.length + 1)), .int .u64 2147483648] W fun e w' => e = .returned (.tuple #[.int .u64 (0 : Int), .bool true]) ∧ W = w')) (hT : tokB (c :: r) = restT (c :: r)) : Calls Tryd.prog 21 #[.string ⟨(c :: r).toArray⟩] w (RWordOk (c :: r) w) := by
  have hl := last_at c r
  have hm := name_ex c r hs
  have hq := name_all c r hs
  unfold restT at hT
  cases he : endsColon (c :: r) with
  | true =>
    rw [he] at hT hl
    cases hn : nameB (c :: r).dropLast with
    | true => rw [hn] at hT hm; exact rword_qd1 c r hs w z0 z1 a0118 a045 HF HG hl (shid hm) (shid hT)
    | false =>
      rw [hn] at hT hm
      cases hk : nameB (c :: r) with
      | true => rw [hk] at hT hq; exact rword_qd2 c r hs w z0 z1 a0118 a045 HF HG hl (shid hm) (shid hq) (shid hT)
      | false => rw [hk] at hT hq; exact rword_qd3 c r hs w z0 z1 a0118 a045 HF HG hl (shid hm) (shid hq) (shid hT)
  | false =>
    rw [he] at hT hl
    cases hk : nameB (c :: r) with
    | true => rw [hk] at hT hq; exact rword_qd4 c r hs w z0 z1 a0118 a045 HF HG hl (shid hq) (shid hT)
    | false => rw [hk] at hT hq; exact rword_qd5 c r hs w z0 z1 a0118 a045 HF HG hl (shid hq) (shid hT)
theorem rword_any (c : UInt8) (r : List UInt8) (hs : r.length + 1 ≤ 70000) (w : World) : Calls Tryd.prog 21 #[.string ⟨(c :: r).toArray⟩] w (RWordOk (c :: r) w) := by
  by_cases e0 : c :: r = [123]
  · exact rword_p1 c r hs w (by cases e0; rfl) (shid (by unfold tokB; rw [if_pos e0]))
  by_cases e1 : c :: r = [125]
  · exact rword_p2 c r hs w (zf c 123 r e0) (by cases e1; rfl) (shid (by unfold tokB; rw [if_neg e0, if_pos e1]))
  have z0 := zf c 123 r e0
  have z1 := zf c 125 r e1
  have HT0 : tokB (c :: r) = if decide (c.toNat = 118) && numOk 4095 r then some (2, c :: r, valS r) else match numT (c :: r) with
      | some n => some (3, c :: r, n)
      | none => restT (c :: r) := by
    unfold tokB; rw [if_neg e0, if_neg e1]; rfl
  have HNT : numT (c :: r) = if decide (c.toNat = 45) then (if numOk 2147483648 r && decide (0 < valS r) then some (4294967296 - valS r) else none) else if numOk 4294967295 (c :: r) then some (valS (c :: r)) else none := rfl
  have at0 : ∀ k : Nat, ∀ b : Bool, decide (c.toNat = k) = b → (((((⟨(c :: r).toArray⟩ : ByteArray)[0]'(by simp [ByteArray.size])).toNat : Int) == (k : Int)) = b) := fun k b h => by
    rw [← h]
    show ((c.toNat : Int) == (k : Int)) = decide (c.toNat = k)
    rw [Bool.eq_iff_iff, beq_iff_eq, decide_eq_true_eq]
    omega
  have nodig : ¬ (48 ≤ c.toNat ∧ c.toNat ≤ 57) → numOk 4294967295 (c :: r) = false := fun h => by
    refine numOk_bad ?_
    rw [alldB_cons, Bool.and_eq_false_iff]
    refine .inl (decide_eq_false fun hd => h (digP_nat hd))
  by_cases c118 : c.toNat = 118
  · have a1 := at0 118 true (decide_eq_true c118)
    have a2 := at0 45 false (decide_eq_false (by omega))
    rw [decide_eq_true c118, Bool.true_and] at HT0
    cases hn : numOk 4095 r with
    | true =>
      rw [hn] at HT0
      have hv : valS r ≤ 4095 := by unfold numOk at hn; simp only [Bool.and_eq_true, decide_eq_true_eq] at hn; exact hn.2
      exact rword_p3 c r hs w z0 z1 (valS r) hv a1 (num_yes (num_ex c r hs 4095 (by decide) true hn)) (shid HT0)
    | false =>
      rw [hn] at HT0
      have hf := nodig (by omega)
      rw [decide_eq_false (show ¬ c.toNat = 45 by omega), hf] at HNT
      simp only [Bool.false_eq_true, if_false] at HNT
      rw [HNT] at HT0
      exact rword_qa c r hs w z0 z1 a1 a2 (num_no (num_ex c r hs 4095 (by decide) false hn)) (num_no (num_all c r hs false hf)) HT0
  have a1 := at0 118 false (decide_eq_false c118)
  rw [decide_eq_false c118, Bool.false_and] at HT0
  by_cases c45 : c.toNat = 45
  · have a2 := at0 45 true (decide_eq_true c45)
    have hf := nodig (by omega)
    have HF := num_no (num_all c r hs false hf)
    rw [decide_eq_true c45] at HNT
    simp only [if_true] at HNT
    cases hn : numOk 2147483648 r with
    | true =>
      rw [hn, Bool.true_and] at HNT
      have hv : valS r ≤ 2147483648 := by unfold numOk at hn; simp only [Bool.and_eq_true, decide_eq_true_eq] at hn; exact hn.2
      have HY := num_yes (num_ex c r hs 2147483648 (by decide) true hn)
      by_cases h1 : 0 < valS r
      · rw [decide_eq_true h1] at HNT
        rw [HNT] at HT0
        exact rword_p5 c r hs w z0 z1 (valS r) hv h1 a1 a2 HF HY (shid HT0)
      · rw [decide_eq_false h1] at HNT
        rw [HNT] at HT0
        rw [show valS r = 0 by omega] at HY
        exact rword_qd c r hs w z0 z1 a1 a2 HF HY HT0
    | false =>
      rw [hn, Bool.false_and] at HNT
      rw [HNT] at HT0
      exact rword_qc c r hs w z0 z1 a1 a2 HF (num_no (num_ex c r hs 2147483648 (by decide) false hn)) HT0
  · have a2 := at0 45 false (decide_eq_false c45)
    rw [decide_eq_false c45] at HNT
    simp only [Bool.false_eq_true, if_false] at HNT
    cases hn : numOk 4294967295 (c :: r) with
    | true =>
      rw [hn] at HNT
      rw [HNT] at HT0
      have hv : valS (c :: r) ≤ 4294967295 := by unfold numOk at hn; simp only [Bool.and_eq_true, decide_eq_true_eq] at hn; exact hn.2
      exact rword_p4 c r hs w z0 z1 (valS (c :: r)) hv a1 (num_yes (num_all c r hs true hn)) (shid HT0)
    | false =>
      rw [hn] at HNT
      rw [HNT] at HT0
      exact rword_qb c r hs w z0 z1 a1 a2 (num_no (num_all c r hs false hn)) HT0
end Go.Proofs.YthnfkecbgfcipaaDoor
