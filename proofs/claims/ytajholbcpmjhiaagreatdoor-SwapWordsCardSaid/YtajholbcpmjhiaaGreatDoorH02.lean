/- Several texts in one: WordSpec, InstSpec, PsrSpec, PsrWalks. -/
import Derived.WalkKit
import Derived.Test.YtajholbcpmjhiaaGreatDoorProg
import Derived.WalkSpells
import Derived.WalkLawsBesides
import Derived.RegionTactic
import Derived.Outline
import Derived.Deep.QuietTactic
import Derived.BigQuiet
import Derived.Handy
/- Plain arithmetic of 32-bit words: what each operation of the ALU makes, as functions on integers. No program in sight. -/
namespace Go.Proofs.YtajholbcpmjhiaaGreatDoor
open Go.RowKit
/-- An integer modulo 2^32. -/
def u32 (n : Int) : Int := n % 4294967296
/-- The signed integer that is the same modulo 2^32. -/
def s32 (n : Int) : Int := (n + 2147483648) % 4294967296 - 2147483648
theorem s32_eq (n : Int) : wrap32 n = s32 n := by unfold wrap32 s32; rfl
theorem u32_bd (n : Int) : 0 ≤ u32 n ∧ u32 n < 4294967296 := by unfold u32; omega
theorem s32_u32 (n : Int) : s32 (u32 n) = s32 n := by unfold u32 s32; omega

def andS (a b : Int) : Int := ((a.toNat &&& b.toNat : Nat) : Int)
def orS (a b : Int) : Int := ((a.toNat ||| b.toNat : Nat) : Int)
def xorS (a b : Int) : Int := ((a.toNat ^^^ b.toNat : Nat) : Int)
theorem toNat_lt {a : Int} (h : a < 4294967296) : a.toNat < 2 ^ 32 := by omega
theorem andS_bd {a : Int} (b : Int) (h : a < 4294967296) : 0 ≤ andS a b ∧ andS a b < 4294967296 := by
  unfold andS; have := Nat.and_le_left (n := a.toNat) (m := b.toNat); omega
theorem orS_bd {a b : Int} (h : a < 4294967296) (h' : b < 4294967296) : 0 ≤ orS a b ∧ orS a b < 4294967296 := by
  unfold orS; have := Nat.or_lt_two_pow (toNat_lt h) (toNat_lt h'); omega
theorem xorS_bd {a b : Int} (h : a < 4294967296) (h' : b < 4294967296) : 0 ≤ xorS a b ∧ xorS a b < 4294967296 := by
  unfold xorS; have := Nat.xor_lt_two_pow (toNat_lt h) (toNat_lt h'); omega
theorem bits_and {a b : Int} (h : 0 ≤ a) (h' : a < 4294967296) (k : 0 ≤ b) (k' : b < 4294967296) : bits .and .u32 a b = andS a b := u32_and a b h h' k k'
theorem bits_or {a b : Int} (h : 0 ≤ a) (h' : a < 4294967296) (k : 0 ≤ b) (k' : b < 4294967296) : bits .or .u32 a b = orS a b := u32_or a b h h' k k'
theorem bits_xor {a b : Int} (h : 0 ≤ a) (h' : a < 4294967296) (k : 0 ≤ b) (k' : b < 4294967296) : bits .xor .u32 a b = xorS a b := u32_xor a b h h' k k'

def truthS (p : Bool) : Int := if p then 1 else 0
/-- How far a shift goes. -/
def shS (b : Int) : Nat := (b % 32).toNat
def shlS (a b : Int) : Int := u32 (a * 2 ^ shS b)
def shrS (a b : Int) : Int := a / 2 ^ shS b
def sarS (a b : Int) : Int := u32 (s32 a / 2 ^ shS b)
/-- What the operation numbered so makes: the word, and whether it makes one. -/
def doW (op : Nat) (a b : Int) : Int :=
  match op with
  | 0 => u32 (a + b) | 1 => u32 (a - b) | 2 => u32 (a * b)
  | 3 => if b = 0 then 0 else u32 ((s32 a).tdiv (s32 b)) | 4 => if b = 0 then 0 else u32 ((s32 a).tmod (s32 b))
  | 5 => andS a b | 6 => orS a b | 7 => xorS a b
  | 8 => shlS a b | 9 => shrS a b | 10 => sarS a b
  | 11 => truthS (decide (s32 a < s32 b)) | 12 => truthS (decide (a < b)) | 13 => truthS (decide (a = b))
  | _ => 0
def doB (op : Nat) (b : Int) : Bool :=
  match op with
  | 3 => !decide (b = 0) | 4 => !decide (b = 0)
  | n => decide (n < 14)
theorem truthS_bd (p : Bool) : 0 ≤ truthS p ∧ truthS p < 4294967296 := by unfold truthS; split <;> omega
theorem two_pow_pos (n : Nat) : (1 : Int) ≤ 2 ^ n := Int.pow_pos (by decide)
theorem shrS_bd {a : Int} (b : Int) (h : 0 ≤ a) (h' : a < 4294967296) : 0 ≤ shrS a b ∧ shrS a b < 4294967296 := by
  unfold shrS
  have hp := two_pow_pos (shS b)
  have := Int.ediv_nonneg h (by omega : (0 : Int) ≤ 2 ^ shS b)
  have := Int.ediv_le_self (b := (2 : Int) ^ shS b) h
  omega
theorem doW_bd (op : Nat) {a b : Int} (ha : 0 ≤ a) (ha' : a < 4294967296) (hb' : b < 4294967296) : 0 ≤ doW op a b ∧ doW op a b < 4294967296 := by
  unfold doW
  split
  · exact u32_bd _
  · exact u32_bd _
  · exact u32_bd _
  · split
    · omega
    · exact u32_bd _
  · split
    · omega
    · exact u32_bd _
  · exact andS_bd b ha'
  · exact orS_bd ha' hb'
  · exact xorS_bd ha' hb'
  · exact u32_bd _
  · exact shrS_bd b ha ha'
  · exact u32_bd _
  · exact truthS_bd _
  · exact truthS_bd _
  · exact truthS_bd _
  · omega

/-- The flags of a difference; whether a condition holds. -/
def flagsS (a b : Int) : Int :=
  8 * truthS (decide (s32 (a - b) < 0)) + 4 * truthS (decide (a = b)) + 2 * truthS (!decide (s32 a - s32 b = s32 (a - b))) + truthS (decide (a < b))
theorem flagsS_bd (a b : Int) : 0 ≤ flagsS a b ∧ flagsS a b < 16 := by
  unfold flagsS truthS; split <;> split <;> split <;> split <;> omega
def whasS (f n : Int) : Bool := decide (f / n % 2 = 1)
def holdsS (c : Nat) (f : Int) : Bool :=
  match c with
  | 0 => true | 1 => whasS f 4 | 2 => !whasS f 4
  | 3 => whasS f 8 != whasS f 2 | 4 => !(whasS f 8 != whasS f 2)
  | 5 => whasS f 1 | 6 => !whasS f 1
  | _ => false

/-! The bit-by-bit loop of the document, and its shift by ones. -/
theorem nat_and_step (x y : Nat) : x &&& y = 2 * (x / 2 &&& y / 2) + (x % 2) * (y % 2) := by
  have h1 : (x &&& y) / 2 = (x / 2 &&& y / 2) := Nat.and_div_two
  have h2 : (x &&& y) % 2 = (x % 2) * (y % 2) := by
    rw [show (2 : Nat) = 2 ^ 1 from rfl, Nat.and_mod_two_pow]
    have hx : x % 2 ^ 1 = 0 ∨ x % 2 ^ 1 = 1 := by omega
    have hy : y % 2 ^ 1 = 0 ∨ y % 2 ^ 1 = 1 := by omega
    rcases hx with hx | hx <;> rcases hy with hy | hy <;> rw [hx, hy] <;> rfl
  omega
end Go.Proofs.YtajholbcpmjhiaaGreatDoor
/- Plain law of the instructions' words: which may be, an instruction's word, a word's instruction. No program in sight. -/
namespace Go.Proofs.YtajholbcpmjhiaaGreatDoor
open Go.RowKit
set_option linter.unusedVariables false
/-- Which fields an operation has, as in the document (0: there is no such one). -/
def kindS (op : Int) : Int :=
  if (1 ≤ op ∧ op ≤ 14) ∨ (19 ≤ op ∧ op ≤ 25) then 1
  else if op = 16 ∨ op = 27 ∨ op = 29 then 2
  else if op = 15 then 3 else if op = 17 then 4 else if op = 18 then 5
  else if op = 26 ∨ op = 28 ∨ op = 34 then 6
  else if op = 30 then 7 else if op = 31 then 8 else if op = 33 then 9
  else if op = 35 ∨ op = 36 then 10 else if op = 37 then 11 else if op = 32 then 12 else 0
/-- The same as a set of bits: 1 Rd, 2 Rs1, 4 a second one, 8 a number, 16 a long one; 128: there is no such one. -/
def hasK (k : Int) : Int :=
  if k = 1 then 7 else if k = 2 then 6 else if k = 3 then 25 else if k = 4 then 25 else if k = 5 then 24 else if k = 6 then 1
  else if k = 7 then 9 else if k = 8 then 10 else if k = 9 then 8 else if k = 10 then 2 else if k = 11 then 8 else if k = 12 then 0 else 128
/-- An instruction. -/
structure Ix where
  op : Int
  rd : Int
  rs1 : Int
  rs2 : Int
  is : Bool
  imm : Int
def Ix.bd (x : Ix) : Prop := (0 ≤ x.op ∧ x.op < 256) ∧ (0 ≤ x.rd ∧ x.rd < 256) ∧ (0 ≤ x.rs1 ∧ x.rs1 < 256) ∧ (0 ≤ x.rs2 ∧ x.rs2 < 256) ∧ (-2147483648 ≤ x.imm ∧ x.imm < 2147483648)
abbrev Ix.agg (x : Ix) : Value := .agg #[.int .u8 x.op, .int .u8 x.rd, .int .u8 x.rs1, .int .u8 x.rs2, .bool x.is, .int .i32 x.imm]
def Ix.zero : Ix := ⟨0, 0, 0, 0, false, 0⟩
def okS (k : Int) (x : Ix) : Bool :=
  if k = 1 then decide ((x.is = true ∧ x.rs2 = 0 ∧ -16384 ≤ x.imm ∧ x.imm < 16384) ∨ (x.is = false ∧ x.imm = 0))
  else if k = 2 then decide (x.rd = 0 ∧ ((x.is = true ∧ x.rs2 = 0 ∧ -16384 ≤ x.imm ∧ x.imm < 16384) ∨ (x.is = false ∧ x.imm = 0)))
  else if k = 3 then decide (x.is = true ∧ x.rs1 = 0 ∧ x.rs2 = 0 ∧ 0 ≤ x.imm ∧ x.imm < 2097152)
  else if k = 4 then decide (x.is = true ∧ x.rd ≤ 6 ∧ x.rs1 = 0 ∧ x.rs2 = 0 ∧ -1048576 ≤ x.imm ∧ x.imm < 1048576)
  else if k = 5 then decide (x.is = true ∧ x.rd = 0 ∧ x.rs1 = 0 ∧ x.rs2 = 0 ∧ -1048576 ≤ x.imm ∧ x.imm < 1048576)
  else if k = 6 then decide (x.is = false ∧ x.rs1 = 0 ∧ x.rs2 = 0 ∧ x.imm = 0)
  else if k = 7 then decide (x.is = true ∧ x.rs1 = 0 ∧ x.rs2 = 0 ∧ 0 ≤ x.imm ∧ x.imm ≤ 1)
  else if k = 8 then decide (x.is = true ∧ x.rd = 0 ∧ x.rs2 = 0 ∧ 0 ≤ x.imm ∧ x.imm ≤ 1)
  else if k = 9 then decide (x.is = true ∧ x.rd = 0 ∧ x.rs1 = 0 ∧ x.rs2 = 0 ∧ 3 ≤ x.imm ∧ x.imm ≤ 4)
  else if k = 10 then decide (x.is = false ∧ x.rd = 0 ∧ x.rs2 = 0 ∧ x.imm = 0)
  else if k = 11 then decide (x.is = true ∧ x.rd = 0 ∧ x.rs1 = 0 ∧ x.rs2 = 0 ∧ 1 ≤ x.imm ∧ x.imm ≤ 3)
  else if k = 12 then decide (x.is = false ∧ x.rd = 0 ∧ x.rs1 = 0 ∧ x.rs2 = 0 ∧ x.imm = 0)
  else false
def mayP (x : Ix) : Prop := x.rd ≤ 31 ∧ x.rs1 ≤ 31 ∧ x.rs2 ≤ 31 ∧ okS (kindS x.op) x = true
instance (x : Ix) : Decidable (mayP x) := by unfold mayP; infer_instance
def mayB (x : Ix) : Bool := decide (mayP x)
def longK (k : Int) : Prop := k = 3 ∨ k = 4 ∨ k = 5
instance (k : Int) : Decidable (longK k) := by unfold longK; infer_instance
/-- What is behind the operation, and Rd. -/
def tailS (x : Ix) : Int :=
  if longK (kindS x.op) then x.imm % 2097152
  else x.rs1 * 65536 + if x.is = true then 32768 + x.imm % 32768 else x.rs2
def wordS (x : Ix) : Int := x.op * 67108864 + x.rd * 2097152 + tailS x
def encS (x : Ix) : Int := if mayP x then wordS x else 0
def encE (x : Ix) : Int := if mayP x then 0 else 2
/-- A number with its sign. -/
def sgn (n : Int) (half : Int) : Int := if half ≤ n then n - 2 * half else n
/-- What might be a word's instruction. -/
def rawS (w : Int) : Ix :=
  let op := w / 67108864
  let rd := w / 2097152 % 32
  if longK (kindS op) then ⟨op, rd, 0, 0, true, if kindS op = 3 then w % 2097152 else sgn (w % 2097152) 1048576⟩
  else if w / 32768 % 2 = 1 then ⟨op, rd, w / 65536 % 32, 0, true, sgn (w % 32768) 16384⟩
  else ⟨op, rd, w / 65536 % 32, w % 32, false, 0⟩
def decB (w : Int) : Bool := decide (mayP (rawS w) ∧ wordS (rawS w) = w)
def decS (w : Int) : Ix := if decB w = true then rawS w else Ix.zero
theorem kind_bd (op : Int) : 0 ≤ kindS op ∧ kindS op ≤ 12 := by
  unfold kindS; (repeat' split) <;> omega
theorem kind_no {op : Int} (h : op < 1 ∨ 37 < op) : kindS op = 0 := by
  unfold kindS; repeat (rw [if_neg (by omega)])
theorem kind_op {op : Int} (h : kindS op ≠ 0) : 1 ≤ op ∧ op ≤ 37 := by
  rcases Classical.em (op < 1 ∨ 37 < op) with h1 | h1
  · exact absurd (kind_no h1) h
  · omega
theorem kind_cases (op : Int) : kindS op = 0 ∨ kindS op = 1 ∨ kindS op = 2 ∨ kindS op = 3 ∨ kindS op = 4 ∨ kindS op = 5 ∨ kindS op = 6 ∨ kindS op = 7 ∨ kindS op = 8 ∨ kindS op = 9 ∨ kindS op = 10 ∨ kindS op = 11 ∨ kindS op = 12 := by
  have := kind_bd op; omega
theorem may_bd {x : Ix} (hb : x.bd) (h : mayP x) : (1 ≤ x.op ∧ x.op ≤ 37) ∧ (0 ≤ x.rd ∧ x.rd ≤ 31) ∧ (0 ≤ x.rs1 ∧ x.rs1 ≤ 31) ∧ (0 ≤ x.rs2 ∧ x.rs2 ≤ 31) := by
  obtain ⟨h1, h2, h3, h4⟩ := h
  obtain ⟨b0, b1, b2, b3, b4⟩ := hb
  refine ⟨kind_op (fun h0 => ?_), by omega, by omega, by omega⟩
  rw [h0] at h4; simp [okS] at h4
theorem tail_bd {x : Ix} (hb : x.bd) (h : mayP x) : 0 ≤ tailS x ∧ tailS x < 2097152 := by
  obtain ⟨b0, b1, b2, b3⟩ := may_bd hb h
  unfold tailS
  split
  · omega
  · split <;> omega
theorem word_bd {x : Ix} (hb : x.bd) (h : mayP x) : 0 < wordS x ∧ wordS x < 4294967296 := by
  have ht := tail_bd hb h
  obtain ⟨b0, b1, b2, b3⟩ := may_bd hb h
  unfold wordS; omega
theorem sgn_mod {n half : Int} (h1 : -half ≤ n) (h2 : n < half) : sgn (n % (2 * half)) half = n := by
  unfold sgn
  by_cases h0 : 0 ≤ n
  · rw [Int.emod_eq_of_lt h0 (by omega), if_neg (by omega)]
  · rw [show n % (2 * half) = n + 2 * half from by rw [← Int.add_emod_right]; exact Int.emod_eq_of_lt (by omega) (by omega), if_pos (by omega)]; omega
theorem ok_long {k : Int} {x : Ix} (hl : longK k) (h : okS k x = true) : x.is = true ∧ x.rs1 = 0 ∧ x.rs2 = 0 ∧ (k = 3 → 0 ≤ x.imm ∧ x.imm < 2097152) ∧ (k ≠ 3 → -1048576 ≤ x.imm ∧ x.imm < 1048576) := by
  rcases hl with rfl | rfl | rfl <;> simp [okS] at h <;> refine ⟨h.1, ?_⟩ <;> omega
theorem ok_short {k : Int} {x : Ix} (hl : ¬ longK k) (h : okS k x = true) : (x.is = true → x.rs2 = 0 ∧ -16384 ≤ x.imm ∧ x.imm < 16384) ∧ (x.is = false → x.imm = 0) := by
  unfold longK at hl
  unfold okS at h
  cases hi : x.is <;> simp only [hi] at h ⊢ <;> simp at h ⊢ <;> (repeat' (split at h)) <;> omega
/-- An instruction is what its word's instruction is. -/
theorem raw_word {x : Ix} (hb : x.bd) (h : mayP x) : rawS (wordS x) = x := by
  have ht := tail_bd hb h
  obtain ⟨b0, b1, b2, b3⟩ := may_bd hb h
  obtain ⟨_, _, _, hok⟩ := h
  obtain ⟨op, rd, rs1, rs2, is, imm⟩ := x
  simp only at *
  have e0 : wordS ⟨op, rd, rs1, rs2, is, imm⟩ = op * 67108864 + rd * 2097152 + tailS ⟨op, rd, rs1, rs2, is, imm⟩ := rfl
  have e1 : wordS ⟨op, rd, rs1, rs2, is, imm⟩ / 67108864 = op := by omega
  have e2 : wordS ⟨op, rd, rs1, rs2, is, imm⟩ / 2097152 % 32 = rd := by omega
  have e3 : wordS ⟨op, rd, rs1, rs2, is, imm⟩ % 2097152 = tailS ⟨op, rd, rs1, rs2, is, imm⟩ := by omega
  have e4 : wordS ⟨op, rd, rs1, rs2, is, imm⟩ / 32768 % 2 = tailS ⟨op, rd, rs1, rs2, is, imm⟩ / 32768 % 2 := by omega
  have e5 : wordS ⟨op, rd, rs1, rs2, is, imm⟩ / 65536 % 32 = tailS ⟨op, rd, rs1, rs2, is, imm⟩ / 65536 % 32 := by omega
  have e6 : wordS ⟨op, rd, rs1, rs2, is, imm⟩ % 32768 = tailS ⟨op, rd, rs1, rs2, is, imm⟩ % 32768 := by omega
  have e7 : wordS ⟨op, rd, rs1, rs2, is, imm⟩ % 32 = tailS ⟨op, rd, rs1, rs2, is, imm⟩ % 32 := by omega
  unfold rawS
  rw [e1, e2, e3, e4, e5, e6, e7]
  clear e0 e1 e2 e3 e4 e5 e6 e7
  by_cases hl : longK (kindS op)
  · obtain ⟨rfl, rfl, rfl, k1, k2⟩ := ok_long hl hok
    simp only [if_pos hl, tailS]
    congr 1
    by_cases k3 : kindS op = 3
    · rw [if_pos k3]; have := k1 k3; simp only at this; omega
    · rw [if_neg k3]
      have := k2 k3; simp only at this
      rw [show imm % 2097152 = imm % (2 * 1048576) from by omega]
      exact sgn_mod (by omega) (by omega)
  · have hs := ok_short hl hok
    simp only [if_neg hl, tailS] at ht ⊢
    cases is
    · have := hs.2 rfl; simp only at this; subst this
      simp only [Bool.false_eq_true, if_false] at ht ⊢
      rw [if_neg (by omega)]
      congr 1 <;> omega
    · have := hs.1 rfl; simp only at this
      obtain ⟨rfl, i1, i2⟩ := this
      simp only [if_true] at ht ⊢
      rw [if_pos (by omega)]
      congr 1
      · omega
      · rw [show (rs1 * 65536 + (32768 + imm % 32768)) % 32768 = imm % (2 * 16384) from by omega]
        exact sgn_mod (by omega) (by omega)
theorem raw_bd {w : Int} (h0 : 0 ≤ w) (h1 : w < 4294967296) : (rawS w).bd := by
  unfold rawS Ix.bd sgn
  simp only
  repeat' split
  all_goals (simp only; refine ⟨⟨?_, ?_⟩, ⟨?_, ?_⟩, ⟨?_, ?_⟩, ⟨?_, ?_⟩, ?_, ?_⟩ <;> omega)
/-- The decoding of an encoding. -/
theorem dec_enc {x : Ix} (hb : x.bd) (h : mayP x) : decB (wordS x) = true ∧ decS (wordS x) = x := by
  have e := raw_word hb h
  have hB : decB (wordS x) = true := by unfold decB; rw [e]; exact decide_eq_true ⟨h, rfl⟩
  exact ⟨hB, by unfold decS; rw [if_pos hB, e]⟩
theorem enc_dec {w : Int} (h : decB w = true) : mayP (decS w) ∧ wordS (decS w) = w := by
  unfold decS; rw [if_pos h]; unfold decB at h; exact of_decide_eq_true h
end Go.Proofs.YtajholbcpmjhiaaGreatDoor
/- Plain law of the state word: what its parts are, the windows, the WIM. No program in sight. -/
namespace Go.Proofs.YtajholbcpmjhiaaGreatDoor
open Go.RowKit
set_option linter.unusedVariables false
/-- A state. -/
structure Px where
  cwp : Int
  pil : Int
  bank : Int
  flags : Int
def Px.bd (p : Px) : Prop := (0 ≤ p.cwp ∧ p.cwp < 256) ∧ (0 ≤ p.pil ∧ p.pil < 256) ∧ (0 ≤ p.bank ∧ p.bank < 256) ∧ (0 ≤ p.flags ∧ p.flags < 256)
instance (p : Px) : Decidable p.bd := by unfold Px.bd; infer_instance
abbrev Px.agg (p : Px) : Value := .agg #[.int .u8 p.cwp, .int .u8 p.pil, .int .u8 p.bank, .int .u8 p.flags]
def Px.zero : Px := ⟨0, 0, 0, 0⟩
def winP (nw : Int) : Prop := 2 ≤ nw ∧ nw ≤ 32
instance (nw : Int) : Decidable (winP nw) := by unfold winP; infer_instance
def pmayP (p : Px) (nw : Int) : Prop := p.cwp < nw ∧ p.pil < 16 ∧ p.bank < 17 ∧ p.flags < 16
instance (p : Px) (nw : Int) : Decidable (pmayP p nw) := by unfold pmayP; infer_instance
def packW (p : Px) : Int := p.cwp + 32 * p.pil + 512 * p.bank + 16384 * p.flags
def packS (p : Px) (nw : Int) : Int := if winP nw ∧ pmayP p nw then packW p else 0
def packE (p : Px) (nw : Int) : Int := if winP nw ∧ pmayP p nw then 0 else 2
def unW (w : Int) : Px := ⟨w % 32, w / 32 % 16, w / 512 % 32, w / 16384 % 16⟩
def unOk (w nw : Int) : Prop := w < 262144 ∧ pmayP (unW w) nw
instance (w nw : Int) : Decidable (unOk w nw) := by unfold unOk; infer_instance
def unS (w nw : Int) : Px := if winP nw ∧ unOk w nw then unW w else Px.zero
def unE (w nw : Int) : Int := if winP nw then (if unOk w nw then 0 else 5) else 2
theorem pack_bd {p : Px} {nw : Int} (hb : p.bd) (hw : winP nw) (h : pmayP p nw) : 0 ≤ packW p ∧ packW p < 262144 := by
  obtain ⟨⟨a, _⟩, ⟨b, _⟩, ⟨c, _⟩, ⟨d, _⟩⟩ := hb
  obtain ⟨h1, h2, h3, h4⟩ := h
  obtain ⟨_, hw⟩ := hw
  unfold packW; omega
theorem un_pack {p : Px} {nw : Int} (hb : p.bd) (hw : winP nw) (h : pmayP p nw) : unW (packW p) = p := by
  obtain ⟨cwp, pil, bank, flags⟩ := p
  obtain ⟨⟨a, _⟩, ⟨b, _⟩, ⟨c, _⟩, ⟨d, _⟩⟩ := hb
  obtain ⟨h1, h2, h3, h4⟩ := h
  obtain ⟨_, hw⟩ := hw
  simp only at *
  unfold unW packW
  congr 1 <;> simp only <;> omega
theorem un_bd {w : Int} (h0 : 0 ≤ w) : (unW w).bd := by
  unfold unW Px.bd; simp only; omega
/-- Numbers below others, pair by pair, and none below 0. -/
def belowB (l : List Int) (m : Nat) : Bool := (List.range m).all fun j => decide (0 ≤ l.getD (2 * j) 0 ∧ l.getD (2 * j) 0 < l.getD (2 * j + 1) 0)
theorem below_step {l : List Int} {k : Nat} (h : belowB l k = true) (a b : Int) (ha : l.getD (2 * k) 0 = a) (hb : l.getD (2 * k + 1) 0 = b) : belowB l (k + 1) = decide (0 ≤ a ∧ a < b) := by
  unfold belowB at h ⊢
  rw [List.range_succ, List.all_append, h, ← ha, ← hb]; simp
theorem below_stop {l : List Int} {k m : Nat} (hk : k < m) (a b : Int) (ha : l.getD (2 * k) 0 = a) (hb : l.getD (2 * k + 1) 0 = b) (hn : ¬ (0 ≤ a ∧ a < b)) : belowB l m = false := by
  unfold belowB
  rw [List.all_eq_false]
  exact ⟨k, by simpa using hk, by rw [ha, hb]; simpa using hn⟩
end Go.Proofs.YtajholbcpmjhiaaGreatDoor
/- Walks of the package psr: below, windows, may. -/
namespace Go.Proofs.YtajholbcpmjhiaaGreatDoor
open Go.RowKit
set_option linter.unusedVariables false
set_option linter.unusedSimpArgs false
theorem phid {p : Prop} (h : p) : Hid p := h
theorem pretb {a b : Bool} (h : a = b) : Ending.returned (.bool a) = .returned (.bool b) := by rw [h]
theorem pret {k : IntKind} {a b : Int} (h : a = b) : Ending.returned (.int k a) = .returned (.int k b) := by rw [h]
theorem pret2 {k l : IntKind} {a b c d : Int} (h : a = b) (g : c = d) : Ending.returned (.tuple #[.int k a, .int l c]) = .returned (.tuple #[.int k b, .int l d]) := by rw [h, g]
theorem pbt {a b c : World} (h : Below a.heap.size a b) (k : Below b.heap.size b c) : Below a.heap.size a c := h.trans (k.mono h.size)
theorem pbal (w : World) (o : Obj) : Below w.heap.size w (w.alloc o) := (Below.refl _ _).alloc (Nat.le_refl _) _
theorem pdrew {n : Nat} {a b : World} (h : Below n a b) (k : Nat) : Below n a (b.drewN k) := h.trans ⟨rfl, rfl, rfl, Nat.le_refl _, fun _ _ => rfl⟩
set_option maxRecDepth 100000 in
set_option maxHeartbeats 1000000 in
theorem below_any (l : List Int) (m g : Nat) (hm : m ≤ 4) (hl : l.length = 2 * m) (w : World) (hc : ∀ k, k < l.length → w.cell? ⟨g, k, none⟩ = some (.int .i64 (l.getD k 0))) :
    Calls Tryz.prog 138 #[.slice (some ⟨g, 0, none⟩) l.length l.length] w fun e w' => e = .returned (.bool (belowB l m)) ∧ Below w.heap.size w w' := by
  rw [hl] at hc ⊢
  have HC := phid hc
  clear hc hl
  go_enter Tryz.func138, Tryz.ntmps138
  go_wp2_with fail
  go_loopw [3] (fun i wr => ∃ k : Nat, k ≤ m ∧ i = .int .i64 (2 * (k : Int)) ∧ belowB l k = true ∧ Below w.heap.size w wr) (fun i _ => 2 * m - (intOf i).toNat)
  case atStart => exact ⟨0, Nat.zero_le _, rfl, rfl, Below.refl _ _⟩
  case round =>
    obtain ⟨k, hk, rfl, hbk, hB⟩ := hrel
    by_cases hlt : k < m
    · have c0 := (hB.cell (p := ⟨g, 2 * k, none⟩) (World.block_lt_of_cell? _ _ (HC.out (2 * k) (by omega)))).trans (HC.out (2 * k) (by omega))
      have c1 := (hB.cell (p := ⟨g, 2 * k + 1, none⟩) (World.block_lt_of_cell? _ _ (HC.out (2 * k + 1) (by omega)))).trans (HC.out (2 * k + 1) (by omega))
      generalize ha : l.getD (2 * k) 0 = a at c0
      generalize hb : l.getD (2 * k + 1) 0 = b at c1
      have HA := phid (And.intro ha hb)
      have HK := phid hbk
      have HB := phid hB
      clear ha hb hbk hB
      have f1 : IntKind.i64.wrap (2 * (k : Int) + 1) = 2 * (k : Int) + 1 := IntWalk.i64_in _ (by omega)
      have f2 : (0 : Int) ≤ 2 * (k : Int) + 1 := by omega
      have f3 : (2 * (k : Int) + 1).toNat = 2 * k + 1 := by omega
      have f4 : (2 * (k : Int)).toNat = 2 * k := by omega
      have f5 : (0 : Int) ≤ 2 * (k : Int) := by omega
      have f6 : 2 * (k : Int) + 1 < 2 * (m : Int) := by omega
      have f7 : 2 * (k : Int) < 2 * (m : Int) := by omega
      by_cases h1 : a < 0
      · have e1 : decide (a < 0) = true := by simpa using h1
        go_wp2_with fail
        go_quiet (fail)
        go_wp2_with fail
        go_ret
        exact ⟨pretb (below_stop hlt a b HA.out.1 HA.out.2 (by omega)).symm, pdrew HB.out _⟩
      · have e1 : decide (a < 0) = false := by simpa using h1
        by_cases h2 : b ≤ a
        · have e2 : decide (b ≤ a) = true := by simpa using h2
          go_wp2_with fail
          go_quiet (fail)
          go_wp2_with fail
          go_ret
          exact ⟨pretb (below_stop hlt a b HA.out.1 HA.out.2 (by omega)).symm, pdrew HB.out _⟩
        · have e2 : decide (b ≤ a) = false := by simpa using h2
          have HS := phid ((below_step HK.out a b HA.out.1 HA.out.2).trans (decide_eq_true (by omega)))
          have f8 : IntKind.i64.wrap (2 * (k : Int) + 2) = 2 * (k : Int) + 2 := IntWalk.i64_in _ (by omega)
          go_wp2_with fail
          go_quiet (fail)
          go_wp2_with fail
          go_roundw
          case rel => exact ⟨k + 1, by omega, by go_num, HS.out, pdrew HB.out _⟩
          case measure => simp [intOf] <;> omega
    · obtain rfl : k = m := by omega
      go_wp2_with fail
      go_ret
      exact ⟨pretb hbk.symm, hB⟩
theorem windows_any (nw : Int) (w : World) : Calls Tryz.prog 137 #[.int .i64 nw] w fun e w' => e = .returned (.bool (decide (winP nw))) ∧ w = w' := by
  by_cases h1 : 2 ≤ nw
  · by_cases h2 : nw ≤ 32
    · have e1 : decide (2 ≤ nw) = true := by simpa using h1
      have e2 : decide (nw ≤ 32) = true := by simpa using h2
      have E := phid (show decide (winP nw) = true from decide_eq_true ⟨h1, h2⟩)
      clear h1 h2
      go_enter Tryz.func137, Tryz.ntmps137
      go_wp2
      go_ret
      exact ⟨pretb E.out.symm, rfl⟩
    · have e1 : decide (2 ≤ nw) = true := by simpa using h1
      have e2 : decide (nw ≤ 32) = false := by simpa using h2
      have E := phid (show decide (winP nw) = false from decide_eq_false (fun h => h2 h.2))
      clear h1 h2
      go_enter Tryz.func137, Tryz.ntmps137
      go_wp2
      go_ret
      exact ⟨pretb E.out.symm, rfl⟩
  · have e1 : decide (2 ≤ nw) = false := by simpa using h1
    have E := phid (show decide (winP nw) = false from decide_eq_false (fun h => h1 h.1))
    clear h1
    go_enter Tryz.func137, Tryz.ntmps137
    go_wp2
    go_ret
    exact ⟨pretb E.out.symm, rfl⟩
theorem below8_eq (p : Px) (hb : p.bd) (nw : Int) : belowB [p.cwp, nw, p.pil, 16, p.bank, 17, p.flags, 16] 4 = decide (pmayP p nw) := by
  obtain ⟨⟨a, _⟩, ⟨b, _⟩, ⟨c, _⟩, ⟨d, _⟩⟩ := hb
  unfold belowB
  rw [Bool.eq_iff_iff, decide_eq_true_iff]
  unfold pmayP
  simp [show List.range 4 = [0, 1, 2, 3] from rfl]
  omega
theorem below2_eq (w nw : Int) : belowB [w, nw] 1 = decide (0 ≤ w ∧ w < nw) := by
  unfold belowB
  simp [show List.range 1 = [0] from rfl]
set_option maxRecDepth 100000 in
set_option maxHeartbeats 1000000 in
theorem pmay_any (p : Px) (hb : p.bd) (nw : Int) (w : World) : Calls Tryz.prog 187 #[p.agg, .int .i64 nw] w fun e w' => e = .returned (.bool (decide (pmayP p nw))) ∧ Below w.heap.size w w' := by
  have E := phid (below8_eq p hb nw)
  obtain ⟨cwp, pil, bank, flags⟩ := p
  obtain ⟨b0, b1, b2, b3⟩ := hb
  simp only at b0 b1 b2 b3
  go_enter Tryz.func187, Tryz.ntmps187
  go_wp2_with fail
  refine (below_any [cwp, nw, pil, 16, bank, 17, flags, 16] 4 _ (by omega) rfl _ ?_).mono ?_
  · intro k hk
    have : k = 0 ∨ k = 1 ∨ k = 2 ∨ k = 3 ∨ k = 4 ∨ k = 5 ∨ k = 6 ∨ k = 7 := by simp at hk; omega
    rcases this with rfl | rfl | rfl | rfl | rfl | rfl | rfl | rfl <;> simp [go_sem]
  rw [E.out]
  rintro e w' ⟨rfl, hB⟩
  have HB := phid hB
  clear hB
  go_wp2_with fail
  go_ret
  exact ⟨rfl, pbt (pbt (pbal _ _) (pbal _ _)) HB.out⟩
end Go.Proofs.YtajholbcpmjhiaaGreatDoor
