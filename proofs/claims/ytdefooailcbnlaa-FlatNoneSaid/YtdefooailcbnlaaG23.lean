/- Plain arithmetic of 32-bit words: what each operation of the ALU makes, as functions on integers. No program in sight. -/
import Derived.WalkKit
namespace Go.Proofs.Ytdefooailcbnlaa
open Go.RowKit
/-- An integer modulo 2^32. -/
def u32 (n : Int) : Int := n % 4294967296
/-- The signed integer that is the same modulo 2^32. -/
def s32 (n : Int) : Int := (n + 2147483648) % 4294967296 - 2147483648
def W32 (n : Int) : Prop := 0 ≤ n ∧ n < 4294967296
theorem s32_eq (n : Int) : wrap32 n = s32 n := by unfold wrap32 s32; rfl
theorem u32_bd (n : Int) : 0 ≤ u32 n ∧ u32 n < 4294967296 := by unfold u32; omega
theorem s32_bd (n : Int) : -2147483648 ≤ s32 n ∧ s32 n < 2147483648 := by unfold s32; omega
theorem u32_id {n : Int} (h : 0 ≤ n) (h' : n < 4294967296) : u32 n = n := by unfold u32; omega
theorem u32_s32 (n : Int) : u32 (s32 n) = u32 n := by unfold u32 s32; omega
theorem s32_u32 (n : Int) : s32 (u32 n) = s32 n := by unfold u32 s32; omega

def andS (a b : Int) : Int := ((a.toNat &&& b.toNat : Nat) : Int)
def orS (a b : Int) : Int := ((a.toNat ||| b.toNat : Nat) : Int)
def xorS (a b : Int) : Int := ((a.toNat ^^^ b.toNat : Nat) : Int)
theorem toNat_lt {a : Int} (h : a < 4294967296) : a.toNat < 2 ^ 32 := by omega
theorem andS_bd {a : Int} (b : Int) (h : a < 4294967296) : 0 ≤ andS a b ∧ andS a b < 4294967296 := by
  unfold andS; have := Nat.and_le_left (n := a.toNat) (m := b.toNat); omega
theorem orS_bd {a b : Int} (h : a < 4294967296) (h' : b < 4294967296) : 0 ≤ orS a b ∧ orS a b < 4294967296 := by
  unfold orS; have := Nat.or_lt_two_pow (toNat_lt h) (toNat_lt h'); omega
theorem xorS_bd {a b : Int} (h : a < 4294967296) (h' : b < 4294967296) : 0 ≤ xorS a b ∧ xorS a b < 4294967296 := by
  unfold xorS; have := Nat.xor_lt_two_pow (toNat_lt h) (toNat_lt h'); omega
theorem bits_and {a b : Int} (h : 0 ≤ a) (h' : a < 4294967296) (k : 0 ≤ b) (k' : b < 4294967296) : bits .and .u32 a b = andS a b := u32_and a b h h' k k'
theorem bits_or {a b : Int} (h : 0 ≤ a) (h' : a < 4294967296) (k : 0 ≤ b) (k' : b < 4294967296) : bits .or .u32 a b = orS a b := u32_or a b h h' k k'
theorem bits_xor {a b : Int} (h : 0 ≤ a) (h' : a < 4294967296) (k : 0 ≤ b) (k' : b < 4294967296) : bits .xor .u32 a b = xorS a b := u32_xor a b h h' k k'

def truthS (p : Bool) : Int := if p then 1 else 0
/-- How far a shift goes. -/
def shS (b : Int) : Nat := (b % 32).toNat
def shlS (a b : Int) : Int := u32 (a * 2 ^ shS b)
def shrS (a b : Int) : Int := a / 2 ^ shS b
def sarS (a b : Int) : Int := u32 (s32 a / 2 ^ shS b)
/-- What the operation numbered so makes: the word, and whether it makes one. -/
def doW (op : Nat) (a b : Int) : Int :=
  match op with
  | 0 => u32 (a + b) | 1 => u32 (a - b) | 2 => u32 (a * b)
  | 3 => if b = 0 then 0 else u32 ((s32 a).tdiv (s32 b)) | 4 => if b = 0 then 0 else u32 ((s32 a).tmod (s32 b))
  | 5 => andS a b | 6 => orS a b | 7 => xorS a b
  | 8 => shlS a b | 9 => shrS a b | 10 => sarS a b
  | 11 => truthS (decide (s32 a < s32 b)) | 12 => truthS (decide (a < b)) | 13 => truthS (decide (a = b))
  | _ => 0
def doB (op : Nat) (b : Int) : Bool :=
  match op with
  | 3 => !decide (b = 0) | 4 => !decide (b = 0)
  | n => decide (n < 14)
theorem truthS_bd (p : Bool) : 0 ≤ truthS p ∧ truthS p < 4294967296 := by unfold truthS; split <;> omega
theorem two_pow_pos (n : Nat) : (1 : Int) ≤ 2 ^ n := Int.pow_pos (by decide)
theorem shrS_bd {a : Int} (b : Int) (h : 0 ≤ a) (h' : a < 4294967296) : 0 ≤ shrS a b ∧ shrS a b < 4294967296 := by
  unfold shrS
  have hp := two_pow_pos (shS b)
  have := Int.ediv_nonneg h (by omega : (0 : Int) ≤ 2 ^ shS b)
  have := Int.ediv_le_self (b := (2 : Int) ^ shS b) h
  omega
theorem doW_bd (op : Nat) {a b : Int} (ha : 0 ≤ a) (ha' : a < 4294967296) (hb' : b < 4294967296) : 0 ≤ doW op a b ∧ doW op a b < 4294967296 := by
  unfold doW
  split
  · exact u32_bd _
  · exact u32_bd _
  · exact u32_bd _
  · split
    · omega
    · exact u32_bd _
  · split
    · omega
    · exact u32_bd _
  · exact andS_bd b ha'
  · exact orS_bd ha' hb'
  · exact xorS_bd ha' hb'
  · exact u32_bd _
  · exact shrS_bd b ha ha'
  · exact u32_bd _
  · exact truthS_bd _
  · exact truthS_bd _
  · exact truthS_bd _
  · omega

/-- The flags of a difference; whether a condition holds. -/
def flagsS (a b : Int) : Int :=
  8 * truthS (decide (s32 (a - b) < 0)) + 4 * truthS (decide (a = b)) + 2 * truthS (!decide (s32 a - s32 b = s32 (a - b))) + truthS (decide (a < b))
theorem flagsS_bd (a b : Int) : 0 ≤ flagsS a b ∧ flagsS a b < 16 := by
  unfold flagsS truthS; split <;> split <;> split <;> split <;> omega
def whasS (f n : Int) : Bool := decide (f / n % 2 = 1)
def holdsS (c : Nat) (f : Int) : Bool :=
  match c with
  | 0 => true | 1 => whasS f 4 | 2 => !whasS f 4
  | 3 => whasS f 8 != whasS f 2 | 4 => !(whasS f 8 != whasS f 2)
  | 5 => whasS f 1 | 6 => !whasS f 1
  | _ => false

/-! The bit-by-bit loop of the document, and its shift by ones. -/
theorem nat_and_step (x y : Nat) : x &&& y = 2 * (x / 2 &&& y / 2) + (x % 2) * (y % 2) := by
  have h1 : (x &&& y) / 2 = (x / 2 &&& y / 2) := Nat.and_div_two
  have h2 : (x &&& y) % 2 = (x % 2) * (y % 2) := by
    rw [show (2 : Nat) = 2 ^ 1 from rfl, Nat.and_mod_two_pow]
    have hx : x % 2 ^ 1 = 0 ∨ x % 2 ^ 1 = 1 := by omega
    have hy : y % 2 ^ 1 = 0 ∨ y % 2 ^ 1 = 1 := by omega
    rcases hx with hx | hx <;> rcases hy with hy | hy <;> rw [hx, hy] <;> rfl
  omega
theorem nat_or_step (x y : Nat) : x ||| y = 2 * (x / 2 ||| y / 2) + max (x % 2) (y % 2) := by
  have h1 : (x ||| y) / 2 = (x / 2 ||| y / 2) := Nat.or_div_two
  have h2 : (x ||| y) % 2 = max (x % 2) (y % 2) := by
    rw [show (2 : Nat) = 2 ^ 1 from rfl, Nat.or_mod_two_pow]
    have hx : x % 2 ^ 1 = 0 ∨ x % 2 ^ 1 = 1 := by omega
    have hy : y % 2 ^ 1 = 0 ∨ y % 2 ^ 1 = 1 := by omega
    rcases hx with hx | hx <;> rcases hy with hy | hy <;> rw [hx, hy] <;> rfl
  omega
theorem nat_xor_step (x y : Nat) : x ^^^ y = 2 * (x / 2 ^^^ y / 2) + (x % 2 + y % 2) % 2 := by
  have h1 : (x ^^^ y) / 2 = (x / 2 ^^^ y / 2) := Nat.xor_div_two
  have h2 : (x ^^^ y) % 2 = (x % 2 + y % 2) % 2 := by
    rw [show (2 : Nat) = 2 ^ 1 from rfl, Nat.xor_mod_two_pow]
    have hx : x % 2 ^ 1 = 0 ∨ x % 2 ^ 1 = 1 := by omega
    have hy : y % 2 ^ 1 = 0 ∨ y % 2 ^ 1 = 1 := by omega
    rcases hx with hx | hx <;> rcases hy with hy | hy <;> rw [hx, hy] <;> rfl
  omega
def bitS (op : Nat) (x y : Int) : Int := if op = 5 then andS x y else if op = 6 then orS x y else xorS x y
/-- What one bit of each makes. -/
def oneS (op : Nat) (x y : Int) : Int := if op = 5 then x * y else if op = 6 then max x y else (x + y) % 2
theorem bitS_step (op : Nat) (a b : Nat) (i : Nat) :
    bitS op ((a / 2 ^ i : Nat) : Int) ((b / 2 ^ i : Nat) : Int) = 2 * bitS op ((a / 2 ^ (i + 1) : Nat) : Int) ((b / 2 ^ (i + 1) : Nat) : Int) + oneS op ((a / 2 ^ i % 2 : Nat) : Int) ((b / 2 ^ i % 2 : Nat) : Int) := by
  have ea : a / 2 ^ (i + 1) = a / 2 ^ i / 2 := by rw [Nat.div_div_eq_div_mul, Nat.pow_succ]
  have eb : b / 2 ^ (i + 1) = b / 2 ^ i / 2 := by rw [Nat.div_div_eq_div_mul, Nat.pow_succ]
  rw [ea, eb]
  generalize a / 2 ^ i = x
  generalize b / 2 ^ i = y
  unfold bitS oneS
  split
  · have := nat_and_step x y
    unfold andS; simp only [Int.toNat_natCast]; rw [this]; simp
  · split
    · have := nat_or_step x y
      unfold orS; simp only [Int.toNat_natCast]; rw [this]; push_cast; omega
    · have := nat_xor_step x y
      unfold xorS; simp only [Int.toNat_natCast]; rw [this]; push_cast; omega
theorem bitS_top (op : Nat) (a b : Nat) (ha : a < 4294967296) (hb : b < 4294967296) : bitS op ((a / 2 ^ 32 : Nat) : Int) ((b / 2 ^ 32 : Nat) : Int) = 0 := by
  rw [Nat.div_eq_of_lt (by simpa using ha), Nat.div_eq_of_lt (by simpa using hb)]
  unfold bitS andS orS xorS; simp
theorem bitS_bd (op : Nat) {a b : Int} (h : a < 4294967296) (h' : b < 4294967296) : 0 ≤ bitS op a b ∧ bitS op a b < 4294967296 := by
  unfold bitS; split
  · exact andS_bd b h
  · split
    · exact orS_bd h h'
    · exact xorS_bd h h'
end Go.Proofs.Ytdefooailcbnlaa
