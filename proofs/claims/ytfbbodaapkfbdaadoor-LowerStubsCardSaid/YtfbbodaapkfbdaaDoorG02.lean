/- Plain law of the instructions' words: which may be, an instruction's word, a word's instruction. No program in sight. -/
import Derived.WalkKit
namespace Go.Proofs.YtfbbodaapkfbdaaDoor
open Go.RowKit
set_option linter.unusedVariables false
/-- Which fields an operation has, as in the document (0: there is no such one). -/
def kindS (op : Int) : Int :=
  if (1 ≤ op ∧ op ≤ 14) ∨ (19 ≤ op ∧ op ≤ 25) then 1
  else if op = 16 ∨ op = 27 ∨ op = 29 then 2
  else if op = 15 then 3 else if op = 17 then 4 else if op = 18 then 5
  else if op = 26 ∨ op = 28 ∨ op = 34 then 6
  else if op = 30 then 7 else if op = 31 then 8 else if op = 33 then 9
  else if op = 35 ∨ op = 36 then 10 else if op = 37 then 11 else if op = 32 then 12 else 0
/-- The same as a set of bits: 1 Rd, 2 Rs1, 4 a second one, 8 a number, 16 a long one; 128: there is no such one. -/
def hasK (k : Int) : Int :=
  if k = 1 then 7 else if k = 2 then 6 else if k = 3 then 25 else if k = 4 then 25 else if k = 5 then 24 else if k = 6 then 1
  else if k = 7 then 9 else if k = 8 then 10 else if k = 9 then 8 else if k = 10 then 2 else if k = 11 then 8 else if k = 12 then 0 else 128
/-- An instruction. -/
structure Ix where
  op : Int
  rd : Int
  rs1 : Int
  rs2 : Int
  is : Bool
  imm : Int
def Ix.bd (x : Ix) : Prop := (0 ≤ x.op ∧ x.op < 256) ∧ (0 ≤ x.rd ∧ x.rd < 256) ∧ (0 ≤ x.rs1 ∧ x.rs1 < 256) ∧ (0 ≤ x.rs2 ∧ x.rs2 < 256) ∧ (-2147483648 ≤ x.imm ∧ x.imm < 2147483648)
abbrev Ix.agg (x : Ix) : Value := .agg #[.int .u8 x.op, .int .u8 x.rd, .int .u8 x.rs1, .int .u8 x.rs2, .bool x.is, .int .i32 x.imm]
def Ix.zero : Ix := ⟨0, 0, 0, 0, false, 0⟩
def okS (k : Int) (x : Ix) : Bool :=
  if k = 1 then decide ((x.is = true ∧ x.rs2 = 0 ∧ -16384 ≤ x.imm ∧ x.imm < 16384) ∨ (x.is = false ∧ x.imm = 0))
  else if k = 2 then decide (x.rd = 0 ∧ ((x.is = true ∧ x.rs2 = 0 ∧ -16384 ≤ x.imm ∧ x.imm < 16384) ∨ (x.is = false ∧ x.imm = 0)))
  else if k = 3 then decide (x.is = true ∧ x.rs1 = 0 ∧ x.rs2 = 0 ∧ 0 ≤ x.imm ∧ x.imm < 2097152)
  else if k = 4 then decide (x.is = true ∧ x.rd ≤ 6 ∧ x.rs1 = 0 ∧ x.rs2 = 0 ∧ -1048576 ≤ x.imm ∧ x.imm < 1048576)
  else if k = 5 then decide (x.is = true ∧ x.rd = 0 ∧ x.rs1 = 0 ∧ x.rs2 = 0 ∧ -1048576 ≤ x.imm ∧ x.imm < 1048576)
  else if k = 6 then decide (x.is = false ∧ x.rs1 = 0 ∧ x.rs2 = 0 ∧ x.imm = 0)
  else if k = 7 then decide (x.is = true ∧ x.rs1 = 0 ∧ x.rs2 = 0 ∧ 0 ≤ x.imm ∧ x.imm ≤ 1)
  else if k = 8 then decide (x.is = true ∧ x.rd = 0 ∧ x.rs2 = 0 ∧ 0 ≤ x.imm ∧ x.imm ≤ 1)
  else if k = 9 then decide (x.is = true ∧ x.rd = 0 ∧ x.rs1 = 0 ∧ x.rs2 = 0 ∧ 3 ≤ x.imm ∧ x.imm ≤ 4)
  else if k = 10 then decide (x.is = false ∧ x.rd = 0 ∧ x.rs2 = 0 ∧ x.imm = 0)
  else if k = 11 then decide (x.is = true ∧ x.rd = 0 ∧ x.rs1 = 0 ∧ x.rs2 = 0 ∧ 1 ≤ x.imm ∧ x.imm ≤ 3)
  else if k = 12 then decide (x.is = false ∧ x.rd = 0 ∧ x.rs1 = 0 ∧ x.rs2 = 0 ∧ x.imm = 0)
  else false
def mayP (x : Ix) : Prop := x.rd ≤ 31 ∧ x.rs1 ≤ 31 ∧ x.rs2 ≤ 31 ∧ okS (kindS x.op) x = true
instance (x : Ix) : Decidable (mayP x) := by unfold mayP; infer_instance
def mayB (x : Ix) : Bool := decide (mayP x)
def longK (k : Int) : Prop := k = 3 ∨ k = 4 ∨ k = 5
instance (k : Int) : Decidable (longK k) := by unfold longK; infer_instance
/-- What is behind the operation, and Rd. -/
def tailS (x : Ix) : Int :=
  if longK (kindS x.op) then x.imm % 2097152
  else x.rs1 * 65536 + if x.is = true then 32768 + x.imm % 32768 else x.rs2
def wordS (x : Ix) : Int := x.op * 67108864 + x.rd * 2097152 + tailS x
def encS (x : Ix) : Int := if mayP x then wordS x else 0
def encE (x : Ix) : Int := if mayP x then 0 else 2
/-- A number with its sign. -/
def sgn (n : Int) (half : Int) : Int := if half ≤ n then n - 2 * half else n
/-- What might be a word's instruction. -/
def rawS (w : Int) : Ix :=
  let op := w / 67108864
  let rd := w / 2097152 % 32
  if longK (kindS op) then ⟨op, rd, 0, 0, true, if kindS op = 3 then w % 2097152 else sgn (w % 2097152) 1048576⟩
  else if w / 32768 % 2 = 1 then ⟨op, rd, w / 65536 % 32, 0, true, sgn (w % 32768) 16384⟩
  else ⟨op, rd, w / 65536 % 32, w % 32, false, 0⟩
def decB (w : Int) : Bool := decide (mayP (rawS w) ∧ wordS (rawS w) = w)
def decS (w : Int) : Ix := if decB w = true then rawS w else Ix.zero
theorem kind_bd (op : Int) : 0 ≤ kindS op ∧ kindS op ≤ 12 := by
  unfold kindS; (repeat' split) <;> omega
theorem kind_no {op : Int} (h : op < 1 ∨ 37 < op) : kindS op = 0 := by
  unfold kindS; repeat (rw [if_neg (by omega)])
theorem kind_op {op : Int} (h : kindS op ≠ 0) : 1 ≤ op ∧ op ≤ 37 := by
  rcases Classical.em (op < 1 ∨ 37 < op) with h1 | h1
  · exact absurd (kind_no h1) h
  · omega
theorem kind_cases (op : Int) : kindS op = 0 ∨ kindS op = 1 ∨ kindS op = 2 ∨ kindS op = 3 ∨ kindS op = 4 ∨ kindS op = 5 ∨ kindS op = 6 ∨ kindS op = 7 ∨ kindS op = 8 ∨ kindS op = 9 ∨ kindS op = 10 ∨ kindS op = 11 ∨ kindS op = 12 := by
  have := kind_bd op; omega
theorem may_bd {x : Ix} (hb : x.bd) (h : mayP x) : (1 ≤ x.op ∧ x.op ≤ 37) ∧ (0 ≤ x.rd ∧ x.rd ≤ 31) ∧ (0 ≤ x.rs1 ∧ x.rs1 ≤ 31) ∧ (0 ≤ x.rs2 ∧ x.rs2 ≤ 31) := by
  obtain ⟨h1, h2, h3, h4⟩ := h
  obtain ⟨b0, b1, b2, b3, b4⟩ := hb
  refine ⟨kind_op (fun h0 => ?_), by omega, by omega, by omega⟩
  rw [h0] at h4; simp [okS] at h4
theorem tail_bd {x : Ix} (hb : x.bd) (h : mayP x) : 0 ≤ tailS x ∧ tailS x < 2097152 := by
  obtain ⟨b0, b1, b2, b3⟩ := may_bd hb h
  unfold tailS
  split
  · omega
  · split <;> omega
theorem word_bd {x : Ix} (hb : x.bd) (h : mayP x) : 0 < wordS x ∧ wordS x < 4294967296 := by
  have ht := tail_bd hb h
  obtain ⟨b0, b1, b2, b3⟩ := may_bd hb h
  unfold wordS; omega
theorem sgn_mod {n half : Int} (h1 : -half ≤ n) (h2 : n < half) : sgn (n % (2 * half)) half = n := by
  unfold sgn
  by_cases h0 : 0 ≤ n
  · rw [Int.emod_eq_of_lt h0 (by omega), if_neg (by omega)]
  · rw [show n % (2 * half) = n + 2 * half from by rw [← Int.add_emod_right]; exact Int.emod_eq_of_lt (by omega) (by omega), if_pos (by omega)]; omega
theorem ok_long {k : Int} {x : Ix} (hl : longK k) (h : okS k x = true) : x.is = true ∧ x.rs1 = 0 ∧ x.rs2 = 0 ∧ (k = 3 → 0 ≤ x.imm ∧ x.imm < 2097152) ∧ (k ≠ 3 → -1048576 ≤ x.imm ∧ x.imm < 1048576) := by
  rcases hl with rfl | rfl | rfl <;> simp [okS] at h <;> refine ⟨h.1, ?_⟩ <;> omega
theorem ok_short {k : Int} {x : Ix} (hl : ¬ longK k) (h : okS k x = true) : (x.is = true → x.rs2 = 0 ∧ -16384 ≤ x.imm ∧ x.imm < 16384) ∧ (x.is = false → x.imm = 0) := by
  unfold longK at hl
  unfold okS at h
  cases hi : x.is <;> simp only [hi] at h ⊢ <;> simp at h ⊢ <;> (repeat' (split at h)) <;> omega
/-- An instruction is what its word's instruction is. -/
theorem raw_word {x : Ix} (hb : x.bd) (h : mayP x) : rawS (wordS x) = x := by
  have ht := tail_bd hb h
  obtain ⟨b0, b1, b2, b3⟩ := may_bd hb h
  obtain ⟨_, _, _, hok⟩ := h
  obtain ⟨op, rd, rs1, rs2, is, imm⟩ := x
  simp only at *
  have e0 : wordS ⟨op, rd, rs1, rs2, is, imm⟩ = op * 67108864 + rd * 2097152 + tailS ⟨op, rd, rs1, rs2, is, imm⟩ := rfl
  have e1 : wordS ⟨op, rd, rs1, rs2, is, imm⟩ / 67108864 = op := by omega
  have e2 : wordS ⟨op, rd, rs1, rs2, is, imm⟩ / 2097152 % 32 = rd := by omega
  have e3 : wordS ⟨op, rd, rs1, rs2, is, imm⟩ % 2097152 = tailS ⟨op, rd, rs1, rs2, is, imm⟩ := by omega
  have e4 : wordS ⟨op, rd, rs1, rs2, is, imm⟩ / 32768 % 2 = tailS ⟨op, rd, rs1, rs2, is, imm⟩ / 32768 % 2 := by omega
  have e5 : wordS ⟨op, rd, rs1, rs2, is, imm⟩ / 65536 % 32 = tailS ⟨op, rd, rs1, rs2, is, imm⟩ / 65536 % 32 := by omega
  have e6 : wordS ⟨op, rd, rs1, rs2, is, imm⟩ % 32768 = tailS ⟨op, rd, rs1, rs2, is, imm⟩ % 32768 := by omega
  have e7 : wordS ⟨op, rd, rs1, rs2, is, imm⟩ % 32 = tailS ⟨op, rd, rs1, rs2, is, imm⟩ % 32 := by omega
  unfold rawS
  rw [e1, e2, e3, e4, e5, e6, e7]
  clear e0 e1 e2 e3 e4 e5 e6 e7
  by_cases hl : longK (kindS op)
  · obtain ⟨rfl, rfl, rfl, k1, k2⟩ := ok_long hl hok
    simp only [if_pos hl, tailS]
    congr 1
    by_cases k3 : kindS op = 3
    · rw [if_pos k3]; have := k1 k3; simp only at this; omega
    · rw [if_neg k3]
      have := k2 k3; simp only at this
      rw [show imm % 2097152 = imm % (2 * 1048576) from by omega]
      exact sgn_mod (by omega) (by omega)
  · have hs := ok_short hl hok
    simp only [if_neg hl, tailS] at ht ⊢
    cases is
    · have := hs.2 rfl; simp only at this; subst this
      simp only [Bool.false_eq_true, if_false] at ht ⊢
      rw [if_neg (by omega)]
      congr 1 <;> omega
    · have := hs.1 rfl; simp only at this
      obtain ⟨rfl, i1, i2⟩ := this
      simp only [if_true] at ht ⊢
      rw [if_pos (by omega)]
      congr 1
      · omega
      · rw [show (rs1 * 65536 + (32768 + imm % 32768)) % 32768 = imm % (2 * 16384) from by omega]
        exact sgn_mod (by omega) (by omega)
theorem raw_bd {w : Int} (h0 : 0 ≤ w) (h1 : w < 4294967296) : (rawS w).bd := by
  unfold rawS Ix.bd sgn
  simp only
  repeat' split
  all_goals (simp only; refine ⟨⟨?_, ?_⟩, ⟨?_, ?_⟩, ⟨?_, ?_⟩, ⟨?_, ?_⟩, ?_, ?_⟩ <;> omega)
/-- The decoding of an encoding. -/
theorem dec_enc {x : Ix} (hb : x.bd) (h : mayP x) : decB (wordS x) = true ∧ decS (wordS x) = x := by
  have e := raw_word hb h
  have hB : decB (wordS x) = true := by unfold decB; rw [e]; exact decide_eq_true ⟨h, rfl⟩
  exact ⟨hB, by unfold decS; rw [if_pos hB, e]⟩
theorem enc_dec {w : Int} (h : decB w = true) : mayP (decS w) ∧ wordS (decS w) = w := by
  unfold decS; rw [if_pos h]; unfold decB at h; exact of_decide_eq_true h
end Go.Proofs.YtfbbodaapkfbdaaDoor
