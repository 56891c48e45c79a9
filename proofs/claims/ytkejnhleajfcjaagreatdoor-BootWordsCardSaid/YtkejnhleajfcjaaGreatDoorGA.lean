/- Several texts in one: InstSpec, InstWalks, Only, AsmSpec, AsmWalks, AsmMark. -/
import Derived.WalkKit
import Derived.Test.YtkejnhleajfcjaaGreatDoorProg
import Derived.WalkSpells
import Derived.WalkLawsBesides
import Derived.RegionTactic
import Derived.Outline
import Derived.BigRegion
import Derived.ChangeAlike
import Derived.Deep.QuietTactic
import Derived.BigQuiet
import Derived.StillTailTactics
import Derived.Laws.AppendOwn
import Derived.Below
import Derived.Maps.OwnSet
import Derived.Maps.Views
import Derived.Laws.AppendOwnNone
import Derived.Handy
import Derived.WalkArith
/- Plain law of the instructions' words: which may be, an instruction's word, a word's instruction. No program in sight. -/
namespace Go.Proofs.YtkejnhleajfcjaaGreatDoor
open Go.RowKit
set_option linter.unusedVariables false
/-- Which fields an operation has, as in the document (0: there is no such one). -/
def kindS (op : Int) : Int :=
  if (1 ≤ op ∧ op ≤ 14) ∨ (19 ≤ op ∧ op ≤ 25) then 1
  else if op = 16 ∨ op = 27 ∨ op = 29 then 2
  else if op = 15 then 3 else if op = 17 then 4 else if op = 18 then 5
  else if op = 26 ∨ op = 28 ∨ op = 34 then 6
  else if op = 30 then 7 else if op = 31 then 8 else if op = 33 then 9
  else if op = 35 ∨ op = 36 then 10 else if op = 37 then 11 else if op = 32 then 12 else 0
/-- The same as a set of bits: 1 Rd, 2 Rs1, 4 a second one, 8 a number, 16 a long one; 128: there is no such one. -/
def hasK (k : Int) : Int :=
  if k = 1 then 7 else if k = 2 then 6 else if k = 3 then 25 else if k = 4 then 25 else if k = 5 then 24 else if k = 6 then 1
  else if k = 7 then 9 else if k = 8 then 10 else if k = 9 then 8 else if k = 10 then 2 else if k = 11 then 8 else if k = 12 then 0 else 128
/-- An instruction. -/
structure Ix where
  op : Int
  rd : Int
  rs1 : Int
  rs2 : Int
  is : Bool
  imm : Int
def Ix.bd (x : Ix) : Prop := (0 ≤ x.op ∧ x.op < 256) ∧ (0 ≤ x.rd ∧ x.rd < 256) ∧ (0 ≤ x.rs1 ∧ x.rs1 < 256) ∧ (0 ≤ x.rs2 ∧ x.rs2 < 256) ∧ (-2147483648 ≤ x.imm ∧ x.imm < 2147483648)
abbrev Ix.agg (x : Ix) : Value := .agg #[.int .u8 x.op, .int .u8 x.rd, .int .u8 x.rs1, .int .u8 x.rs2, .bool x.is, .int .i32 x.imm]
def Ix.zero : Ix := ⟨0, 0, 0, 0, false, 0⟩
def okS (k : Int) (x : Ix) : Bool :=
  if k = 1 then decide ((x.is = true ∧ x.rs2 = 0 ∧ -16384 ≤ x.imm ∧ x.imm < 16384) ∨ (x.is = false ∧ x.imm = 0))
  else if k = 2 then decide (x.rd = 0 ∧ ((x.is = true ∧ x.rs2 = 0 ∧ -16384 ≤ x.imm ∧ x.imm < 16384) ∨ (x.is = false ∧ x.imm = 0)))
  else if k = 3 then decide (x.is = true ∧ x.rs1 = 0 ∧ x.rs2 = 0 ∧ 0 ≤ x.imm ∧ x.imm < 2097152)
  else if k = 4 then decide (x.is = true ∧ x.rd ≤ 6 ∧ x.rs1 = 0 ∧ x.rs2 = 0 ∧ -1048576 ≤ x.imm ∧ x.imm < 1048576)
  else if k = 5 then decide (x.is = true ∧ x.rd = 0 ∧ x.rs1 = 0 ∧ x.rs2 = 0 ∧ -1048576 ≤ x.imm ∧ x.imm < 1048576)
  else if k = 6 then decide (x.is = false ∧ x.rs1 = 0 ∧ x.rs2 = 0 ∧ x.imm = 0)
  else if k = 7 then decide (x.is = true ∧ x.rs1 = 0 ∧ x.rs2 = 0 ∧ 0 ≤ x.imm ∧ x.imm ≤ 1)
  else if k = 8 then decide (x.is = true ∧ x.rd = 0 ∧ x.rs2 = 0 ∧ 0 ≤ x.imm ∧ x.imm ≤ 1)
  else if k = 9 then decide (x.is = true ∧ x.rd = 0 ∧ x.rs1 = 0 ∧ x.rs2 = 0 ∧ 3 ≤ x.imm ∧ x.imm ≤ 4)
  else if k = 10 then decide (x.is = false ∧ x.rd = 0 ∧ x.rs2 = 0 ∧ x.imm = 0)
  else if k = 11 then decide (x.is = true ∧ x.rd = 0 ∧ x.rs1 = 0 ∧ x.rs2 = 0 ∧ 1 ≤ x.imm ∧ x.imm ≤ 3)
  else if k = 12 then decide (x.is = false ∧ x.rd = 0 ∧ x.rs1 = 0 ∧ x.rs2 = 0 ∧ x.imm = 0)
  else false
def mayP (x : Ix) : Prop := x.rd ≤ 31 ∧ x.rs1 ≤ 31 ∧ x.rs2 ≤ 31 ∧ okS (kindS x.op) x = true
instance (x : Ix) : Decidable (mayP x) := by unfold mayP; infer_instance
def mayB (x : Ix) : Bool := decide (mayP x)
def longK (k : Int) : Prop := k = 3 ∨ k = 4 ∨ k = 5
instance (k : Int) : Decidable (longK k) := by unfold longK; infer_instance
/-- What is behind the operation, and Rd. -/
def tailS (x : Ix) : Int :=
  if longK (kindS x.op) then x.imm % 2097152
  else x.rs1 * 65536 + if x.is = true then 32768 + x.imm % 32768 else x.rs2
def wordS (x : Ix) : Int := x.op * 67108864 + x.rd * 2097152 + tailS x
def encS (x : Ix) : Int := if mayP x then wordS x else 0
def encE (x : Ix) : Int := if mayP x then 0 else 2
/-- A number with its sign. -/
def sgn (n : Int) (half : Int) : Int := if half ≤ n then n - 2 * half else n
/-- What might be a word's instruction. -/
def rawS (w : Int) : Ix :=
  let op := w / 67108864
  let rd := w / 2097152 % 32
  if longK (kindS op) then ⟨op, rd, 0, 0, true, if kindS op = 3 then w % 2097152 else sgn (w % 2097152) 1048576⟩
  else if w / 32768 % 2 = 1 then ⟨op, rd, w / 65536 % 32, 0, true, sgn (w % 32768) 16384⟩
  else ⟨op, rd, w / 65536 % 32, w % 32, false, 0⟩
def decB (w : Int) : Bool := decide (mayP (rawS w) ∧ wordS (rawS w) = w)
def decS (w : Int) : Ix := if decB w = true then rawS w else Ix.zero
theorem kind_bd (op : Int) : 0 ≤ kindS op ∧ kindS op ≤ 12 := by
  unfold kindS; (repeat' split) <;> omega
theorem kind_no {op : Int} (h : op < 1 ∨ 37 < op) : kindS op = 0 := by
  unfold kindS; repeat (rw [if_neg (by omega)])
theorem kind_op {op : Int} (h : kindS op ≠ 0) : 1 ≤ op ∧ op ≤ 37 := by
  rcases Classical.em (op < 1 ∨ 37 < op) with h1 | h1
  · exact absurd (kind_no h1) h
  · omega
theorem kind_cases (op : Int) : kindS op = 0 ∨ kindS op = 1 ∨ kindS op = 2 ∨ kindS op = 3 ∨ kindS op = 4 ∨ kindS op = 5 ∨ kindS op = 6 ∨ kindS op = 7 ∨ kindS op = 8 ∨ kindS op = 9 ∨ kindS op = 10 ∨ kindS op = 11 ∨ kindS op = 12 := by
  have := kind_bd op; omega
theorem may_bd {x : Ix} (hb : x.bd) (h : mayP x) : (1 ≤ x.op ∧ x.op ≤ 37) ∧ (0 ≤ x.rd ∧ x.rd ≤ 31) ∧ (0 ≤ x.rs1 ∧ x.rs1 ≤ 31) ∧ (0 ≤ x.rs2 ∧ x.rs2 ≤ 31) := by
  obtain ⟨h1, h2, h3, h4⟩ := h
  obtain ⟨b0, b1, b2, b3, b4⟩ := hb
  refine ⟨kind_op (fun h0 => ?_), by omega, by omega, by omega⟩
  rw [h0] at h4; simp [okS] at h4
theorem tail_bd {x : Ix} (hb : x.bd) (h : mayP x) : 0 ≤ tailS x ∧ tailS x < 2097152 := by
  obtain ⟨b0, b1, b2, b3⟩ := may_bd hb h
  unfold tailS
  split
  · omega
  · split <;> omega
theorem word_bd {x : Ix} (hb : x.bd) (h : mayP x) : 0 < wordS x ∧ wordS x < 4294967296 := by
  have ht := tail_bd hb h
  obtain ⟨b0, b1, b2, b3⟩ := may_bd hb h
  unfold wordS; omega
theorem sgn_mod {n half : Int} (h1 : -half ≤ n) (h2 : n < half) : sgn (n % (2 * half)) half = n := by
  unfold sgn
  by_cases h0 : 0 ≤ n
  · rw [Int.emod_eq_of_lt h0 (by omega), if_neg (by omega)]
  · rw [show n % (2 * half) = n + 2 * half from by rw [← Int.add_emod_right]; exact Int.emod_eq_of_lt (by omega) (by omega), if_pos (by omega)]; omega
theorem ok_long {k : Int} {x : Ix} (hl : longK k) (h : okS k x = true) : x.is = true ∧ x.rs1 = 0 ∧ x.rs2 = 0 ∧ (k = 3 → 0 ≤ x.imm ∧ x.imm < 2097152) ∧ (k ≠ 3 → -1048576 ≤ x.imm ∧ x.imm < 1048576) := by
  rcases hl with rfl | rfl | rfl <;> simp [okS] at h <;> refine ⟨h.1, ?_⟩ <;> omega
theorem ok_short {k : Int} {x : Ix} (hl : ¬ longK k) (h : okS k x = true) : (x.is = true → x.rs2 = 0 ∧ -16384 ≤ x.imm ∧ x.imm < 16384) ∧ (x.is = false → x.imm = 0) := by
  unfold longK at hl
  unfold okS at h
  cases hi : x.is <;> simp only [hi] at h ⊢ <;> simp at h ⊢ <;> (repeat' (split at h)) <;> omega
/-- An instruction is what its word's instruction is. -/
theorem raw_word {x : Ix} (hb : x.bd) (h : mayP x) : rawS (wordS x) = x := by
  have ht := tail_bd hb h
  obtain ⟨b0, b1, b2, b3⟩ := may_bd hb h
  obtain ⟨_, _, _, hok⟩ := h
  obtain ⟨op, rd, rs1, rs2, is, imm⟩ := x
  simp only at *
  have e0 : wordS ⟨op, rd, rs1, rs2, is, imm⟩ = op * 67108864 + rd * 2097152 + tailS ⟨op, rd, rs1, rs2, is, imm⟩ := rfl
  have e1 : wordS ⟨op, rd, rs1, rs2, is, imm⟩ / 67108864 = op := by omega
  have e2 : wordS ⟨op, rd, rs1, rs2, is, imm⟩ / 2097152 % 32 = rd := by omega
  have e3 : wordS ⟨op, rd, rs1, rs2, is, imm⟩ % 2097152 = tailS ⟨op, rd, rs1, rs2, is, imm⟩ := by omega
  have e4 : wordS ⟨op, rd, rs1, rs2, is, imm⟩ / 32768 % 2 = tailS ⟨op, rd, rs1, rs2, is, imm⟩ / 32768 % 2 := by omega
  have e5 : wordS ⟨op, rd, rs1, rs2, is, imm⟩ / 65536 % 32 = tailS ⟨op, rd, rs1, rs2, is, imm⟩ / 65536 % 32 := by omega
  have e6 : wordS ⟨op, rd, rs1, rs2, is, imm⟩ % 32768 = tailS ⟨op, rd, rs1, rs2, is, imm⟩ % 32768 := by omega
  have e7 : wordS ⟨op, rd, rs1, rs2, is, imm⟩ % 32 = tailS ⟨op, rd, rs1, rs2, is, imm⟩ % 32 := by omega
  unfold rawS
  rw [e1, e2, e3, e4, e5, e6, e7]
  clear e0 e1 e2 e3 e4 e5 e6 e7
  by_cases hl : longK (kindS op)
  · obtain ⟨rfl, rfl, rfl, k1, k2⟩ := ok_long hl hok
    simp only [if_pos hl, tailS]
    congr 1
    by_cases k3 : kindS op = 3
    · rw [if_pos k3]; have := k1 k3; simp only at this; omega
    · rw [if_neg k3]
      have := k2 k3; simp only at this
      rw [show imm % 2097152 = imm % (2 * 1048576) from by omega]
      exact sgn_mod (by omega) (by omega)
  · have hs := ok_short hl hok
    simp only [if_neg hl, tailS] at ht ⊢
    cases is
    · have := hs.2 rfl; simp only at this; subst this
      simp only [Bool.false_eq_true, if_false] at ht ⊢
      rw [if_neg (by omega)]
      congr 1 <;> omega
    · have := hs.1 rfl; simp only at this
      obtain ⟨rfl, i1, i2⟩ := this
      simp only [if_true] at ht ⊢
      rw [if_pos (by omega)]
      congr 1
      · omega
      · rw [show (rs1 * 65536 + (32768 + imm % 32768)) % 32768 = imm % (2 * 16384) from by omega]
        exact sgn_mod (by omega) (by omega)
theorem raw_bd {w : Int} (h0 : 0 ≤ w) (h1 : w < 4294967296) : (rawS w).bd := by
  unfold rawS Ix.bd sgn
  simp only
  repeat' split
  all_goals (simp only; refine ⟨⟨?_, ?_⟩, ⟨?_, ?_⟩, ⟨?_, ?_⟩, ⟨?_, ?_⟩, ?_, ?_⟩ <;> omega)
/-- The decoding of an encoding. -/
theorem dec_enc {x : Ix} (hb : x.bd) (h : mayP x) : decB (wordS x) = true ∧ decS (wordS x) = x := by
  have e := raw_word hb h
  have hB : decB (wordS x) = true := by unfold decB; rw [e]; exact decide_eq_true ⟨h, rfl⟩
  exact ⟨hB, by unfold decS; rw [if_pos hB, e]⟩
theorem enc_dec {w : Int} (h : decB w = true) : mayP (decS w) ∧ wordS (decS w) = w := by
  unfold decS; rw [if_pos h]; unfold decB at h; exact of_decide_eq_true h
end Go.Proofs.YtkejnhleajfcjaaGreatDoor
/- Walks of the package inst: has, bounds, may, Encode. -/
namespace Go.Proofs.YtkejnhleajfcjaaGreatDoor
open Go.RowKit
set_option linter.unusedVariables false
theorem ihid {p : Prop} (h : p) : Hid p := h
theorem iret {k : IntKind} {a b : Int} (h : a = b) : Ending.returned (.int k a) = .returned (.int k b) := by rw [h]
theorem iret2 {k l : IntKind} {a b c d : Int} (h : a = b) (g : c = d) : Ending.returned (.tuple #[.int k a, .int l c]) = .returned (.tuple #[.int k b, .int l d]) := by rw [h, g]
theorem iretb {a b : Bool} (h : a = b) : Ending.returned (.bool a) = .returned (.bool b) := by rw [h]
/-- The table of what operations have. -/
def Tab (w : World) : Prop := ∀ i : Nat, i < 38 → w.cell? ⟨0, i, none⟩ = some (.int .u8 (hasK (kindS i)))
theorem Tab.keep {w w' : World} (h : Tab w) (hb : Below w.heap.size w w') : Tab w' := fun i hi => by
  have h1 := h i hi
  exact (hb.cell (p := ⟨0, i, none⟩) (World.block_lt_of_cell? _ _ h1)).trans h1
set_option maxRecDepth 100000 in
theorem ihas_any (op h : Int) (h0 : 0 ≤ op) (h1 : op < 256) (hv : hasK (kindS op) = h) (w : World) (ht : Tab w) : Calls Tryz.prog 223 #[.int .u8 op] w fun e w' => e = .returned (.int .u8 h) ∧ w = w' := by
  obtain ⟨n, rfl⟩ := Int.eq_ofNat_of_zero_le h0
  by_cases hn : n < 38
  · have hc := ht n hn
    rw [hv] at hc
    have hn2 : (n : Int) < 38 := by omega
    clear ht hv
    go_enter Tryz.func223, Tryz.ntmps223
    go_wp2
    go_ret
    exact ⟨rfl, rfl⟩
  · have hn2 : (38 : Int) ≤ n := by omega
    have E := ihid (show h = 128 by rw [← hv, kind_no (by omega)]; rfl)
    clear ht hv hn
    go_enter Tryz.func223, Tryz.ntmps223
    go_wp2
    go_ret
    exact ⟨iret E.out.symm, rfl⟩
def lowS (op : Int) : Int := if op = 15 then 0 else if op = 17 ∨ op = 18 then -1048576 else if op = 30 ∨ op = 31 then 0 else if op = 33 then 3 else if op = 37 then 1 else -16384
def highS (op : Int) : Int := if op = 15 then 2097151 else if op = 17 ∨ op = 18 then 1048575 else if op = 30 ∨ op = 31 then 1 else if op = 33 then 4 else if op = 37 then 3 else 16383
set_option maxHeartbeats 400000 in
theorem bounds_any (op lo hi : Int) (hl : lowS op = lo) (hh : highS op = hi) (w : World) : Calls Tryz.prog 271 #[.int .u8 op] w fun e w' => e = .returned (.tuple #[.int .i32 lo, .int .i32 hi]) ∧ w = w' := by
  subst hl hh
  by_cases h : op = 15 ∨ op = 17 ∨ op = 18 ∨ op = 30 ∨ op = 31 ∨ op = 33 ∨ op = 37
  · rcases h with rfl | rfl | rfl | rfl | rfl | rfl | rfl
    all_goals
      go_enter Tryz.func271, Tryz.ntmps271
      go_wp2
      go_ret2
      exact ⟨rfl, rfl⟩
  · have e1 : (op == 15) = false := by simp; omega
    have e2 : (op == 17) = false := by simp; omega
    have e3 : (op == 18) = false := by simp; omega
    have e4 : (op == 30) = false := by simp; omega
    have e5 : (op == 31) = false := by simp; omega
    have e6 : (op == 33) = false := by simp; omega
    have e7 : (op == 37) = false := by simp; omega
    have E := ihid (show lowS op = -16384 ∧ highS op = 16383 from ⟨by unfold lowS; repeat (rw [if_neg (by omega)]), by unfold highS; repeat (rw [if_neg (by omega)])⟩)
    clear h
    go_enter Tryz.func271, Tryz.ntmps271
    go_wp2
    go_ret2
    exact ⟨iret2 E.out.1.symm E.out.2.symm, rfl⟩
theorem low_of {op : Int} (h : kindS op = 1 ∨ kindS op = 2 ∨ kindS op = 6 ∨ kindS op = 10 ∨ kindS op = 12) : (op ≠ 15 ∧ op ≠ 17 ∧ op ≠ 18 ∧ op ≠ 30 ∧ op ≠ 31 ∧ op ≠ 33 ∧ op ≠ 37) ∧ lowS op = -16384 ∧ highS op = 16383 := by
  have hn : op ≠ 15 ∧ op ≠ 17 ∧ op ≠ 18 ∧ op ≠ 30 ∧ op ≠ 31 ∧ op ≠ 33 ∧ op ≠ 37 := by
    refine ⟨?_, ?_, ?_, ?_, ?_, ?_, ?_⟩ <;> (intro e; subst e; simp [kindS] at h)
  exact ⟨hn, by unfold lowS; repeat (rw [if_neg (by omega)]), by unfold highS; repeat (rw [if_neg (by omega)])⟩
theorem may_below (w : World) (a b : Obj) : Below w.heap.size w ((w.alloc a).alloc b) := ((Below.refl _ _).alloc (Nat.le_refl _) _).alloc (by simp) _
theorem may_below2 (w : World) (a b : Obj) : Below w.heap.size w ((w.alloc a).alloc b).drew := (may_below w a b).drew
end Go.Proofs.YtkejnhleajfcjaaGreatDoor
/- What stays when some blocks may change; rows of cells. No function of the program is walked here. -/
namespace Go.Proofs.YtkejnhleajfcjaaGreatDoor
open Go.RowKit
set_option linter.unusedVariables false

/-- Of the blocks that were there only those of S may have changed. -/
structure Only (S : Nat → Prop) (w w' : World) : Prop where
  os : w'.os = w.os
  tape : w'.tape = w.tape
  output : w'.output = w.output
  size : w.heap.size ≤ w'.heap.size
  block : ∀ k, k < w.heap.size → ¬ S k → w'.heap[k]? = w.heap[k]?
theorem Only.refl (S : Nat → Prop) (w : World) : Only S w w := ⟨rfl, rfl, rfl, Nat.le_refl _, fun _ _ _ => rfl⟩
theorem Only.trans {S : Nat → Prop} {a b c : World} (h : Only S a b) (k : Only S b c) : Only S a c :=
  ⟨k.os.trans h.os, k.tape.trans h.tape, k.output.trans h.output, Nat.le_trans h.size k.size, fun i hi hs => (k.block i (Nat.lt_of_lt_of_le hi h.size) hs).trans (h.block i hi hs)⟩
theorem Only.mono {S S' : Nat → Prop} {a b : World} (h : Only S a b) (hs : ∀ k, k < a.heap.size → S k → S' k) : Only S' a b :=
  ⟨h.os, h.tape, h.output, h.size, fun i hi hn => h.block i hi (fun hk => hn (hs i hi hk))⟩
theorem Only.of_below {S : Nat → Prop} {a b : World} (h : Below a.heap.size a b) : Only S a b := ⟨h.os, h.tape, h.output, h.size, fun i hi _ => h.block i hi⟩
theorem Only.below {S : Nat → Prop} {B : Nat} {a b : World} (h : Only S a b) (hB : B ≤ a.heap.size) (hs : ∀ k, k < B → ¬ S k) : Below B a b :=
  ⟨h.os, h.tape, h.output, h.size, fun i hi => h.block i (Nat.lt_of_lt_of_le hi hB) (hs i hi)⟩
theorem Only.cell {S : Nat → Prop} {a b : World} (h : Only S a b) {p : Addr} (hp : p.block < a.heap.size) (hs : ¬ S p.block) : b.cell? p = a.cell? p := World.cell?_of_block (h.block p.block hp hs)
theorem Only.setCell {S : Nat → Prop} {a b : World} (h : Only S a b) {p : Addr} (hp : S p.block) (u : Value) : Only S a (b.setCell p u) :=
  h.trans ⟨rfl, rfl, rfl, by simp [World.setCell], fun k _ hk => Below.heap_setCell _ _ _ _ (fun e => hk (e ▸ hp))⟩
theorem Only.alloc {S : Nat → Prop} {a b : World} (h : Only S a b) (o : Obj) : Only S a (b.alloc o) :=
  h.trans ⟨rfl, rfl, rfl, by simp, fun k hk _ => Below.heap_alloc _ _ _ hk⟩
theorem Only.drew {S : Nat → Prop} {a b : World} (h : Only S a b) : Only S a b.drew := h.trans ⟨rfl, rfl, rfl, Nat.le_refl _, fun _ _ _ => rfl⟩
theorem Only.drewN {S : Nat → Prop} {a b : World} (h : Only S a b) (n : Nat) : Only S a (b.drewN n) := h.trans ⟨rfl, rfl, rfl, Nat.le_refl _, fun _ _ _ => rfl⟩
theorem Only.grown {S : Nat → Prop} {a b c : World} {row : Option Nat} (h : Only S a b) (g : b.grownBy c row) (hr : ∀ k, row = some k → k < a.heap.size → S k) : Only S a c :=
  ⟨g.os.trans h.os, g.tape.trans h.tape, g.output.trans h.output, Nat.le_trans h.size g.size, fun k hk hs =>
    (g.block k (Nat.lt_of_lt_of_le hk h.size) (fun e => hs (hr k e.symm hk))).trans (h.block k hk hs)⟩
/-- What was laid since may change too. -/
theorem Only.fresh {S T : Nat → Prop} {a b c : World} (h : Only S a b) (k : Only T b c) (ht : ∀ i, i < a.heap.size → T i → S i) : Only S a c :=
  ⟨k.os.trans h.os, k.tape.trans h.tape, k.output.trans h.output, Nat.le_trans h.size k.size, fun i hi hs =>
    (k.block i (Nat.lt_of_lt_of_le hi h.size) (fun e => hs (ht i hi e))).trans (h.block i hi hs)⟩

theorem lt_of_block {w : World} {k : Nat} {o : Obj} (h : w.heap[k]? = some o) : k < w.heap.size := (Array.getElem?_eq_some_iff.1 h).1
theorem Only.obj {S : Nat → Prop} {a b : World} (h : Only S a b) {k : Nat} {o : Obj} (hk : a.heap[k]? = some o) (hs : ¬ S k) : b.heap[k]? = some o := (h.block k (lt_of_block hk) hs).trans hk

/-- A row of cells of a block, and a store into it. -/
theorem cell_of_obj {w : World} {g i : Nat} {c : Array Value} {t : TypeId} {fz : Nat × Nat} (h : w.heap[g]? = some (.cells c t fz)) : w.cell? ⟨g, i, none⟩ = c[i]? := by
  simp [World.cell?, h]
theorem free_of_obj {w : World} {g i : Nat} {c : Array Value} {t : TypeId} (h : w.heap[g]? = some (.cells c t (0, 0))) : w.frozen? ⟨g, i, none⟩ = false := by
  simp [World.frozen?, h]
theorem obj_setCell {w : World} {g i : Nat} {c : Array Value} {t : TypeId} {fz : Nat × Nat} (h : w.heap[g]? = some (.cells c t fz)) (v : Value) :
    (w.setCell ⟨g, i, none⟩ v).heap[g]? = some (.cells (c.setIfInBounds i v) t fz) := by
  simp [World.setCell, Array.getElem?_modify, h]
theorem obj_setCell_ne {w : World} {g k i : Nat} (hne : k ≠ g) (v : Value) : (w.setCell ⟨g, i, none⟩ v).heap[k]? = w.heap[k]? := Below.heap_setCell _ _ _ _ hne

theorem _root_.Go.World.ownsRow.keepw {S : Nat → Prop} {a b : World} {e : TypeId} {size n : Nat} {v : Value} {xs : List Value} (h : a.ownsRow 0 e size v n xs) (o : Only S a b) (hs : ∀ k, v.ownBlock = some k → ¬ S k) : b.ownsRow 0 e size v n xs := by
  refine ⟨h.1, ?_⟩
  rcases h.2 with h | ⟨g, cap, cur, e1, e2, e3, e4⟩
  · exact .inl h
  · exact .inr ⟨g, cap, cur, e1, e2, o.obj e3 (hs g (by rw [e1]; rfl)), e4⟩
/-- What lies in a row of equally long things. -/
theorem flat_get {α : Type} (f : α → List Value) (s : Nat) (hs : ∀ x, (f x).length = s) : ∀ (l : List α) (k j : Nat) (x : α), l[k]? = some x → j < s → (l.flatMap f)[k * s + j]? = (f x)[j]? := by
  intro l
  induction l with
  | nil => intro k j x h; simp at h
  | cons y l ih =>
    intro k j x h hj
    rw [List.flatMap_cons]
    cases k with
    | zero =>
      simp only [List.getElem?_cons_zero, Option.some.injEq] at h
      subst h
      rw [Nat.zero_mul, Nat.zero_add, List.getElem?_append_left (by rw [hs]; exact hj)]
    | succ k =>
      rw [List.getElem?_cons_succ] at h
      rw [List.getElem?_append_right (by rw [hs, Nat.succ_mul]; omega), hs, show (k + 1) * s + j - s = k * s + j by rw [Nat.succ_mul]; omega]
      exact ih k j x h hj
theorem flat_len {α : Type} (f : α → List Value) (s : Nat) (hs : ∀ x, (f x).length = s) (l : List α) : (l.flatMap f).length = l.length * s := by
  induction l with
  | nil => simp
  | cons y l ih => rw [List.flatMap_cons, List.length_append, ih, hs, List.length_cons, Nat.succ_mul]; omega
theorem addr_add0 (g n : Nat) : (⟨g, 0, none⟩ : Addr).add n = ⟨g, n, none⟩ := by unfold Addr.add; split <;> simp [*]
/-- Cells of a block that was just laid. -/
theorem cells_new (w : World) (cs : Array Value) (t : TypeId) : ∀ (j : Nat) u, cs.toList[j]? = some u → (w.alloc (.cells cs t)).cell? ((⟨w.heap.size, 0, none⟩ : Addr).add j) = some u := fun j u hu => by
  rw [addr_add0]
  simp only [World.cell?, heap_alloc_new w _]
  simpa using hu
theorem own_new (w : World) (B : Nat) (cs : Array Value) (e : TypeId) (n size : Nat) (h : cs.size = n * size) (hn : n ≤ maxLen) (hB : B ≤ w.heap.size) : (w.alloc (.cells cs e)).ownsRow B e size (.slice (some ⟨w.heap.size, 0, none⟩) n n) n cs.toList :=
  ⟨by simp [h], .inr ⟨w.heap.size, n, cs, rfl, hB, heap_alloc_new w _, Nat.le_refl _, hn, h, by rw [← h, show cs.size = cs.toList.length from rfl, List.take_length]⟩⟩
/-- Words. -/
def u32s (l : List Int) : List Value := l.map (.int .u32)
def Words (l : List Int) : Prop := ∀ x ∈ l, 0 ≤ x ∧ x < 4294967296
/-- A slice of words, as it is read; it lies in no block of S. -/
def U32s (S : Nat → Prop) (w : World) (v : Value) (l : List Int) : Prop :=
  Words l ∧ ∃ p c, v = .slice p l.length c ∧ (0 < l.length → ∃ b o, p = some ⟨b, o, none⟩ ∧ ¬ S b ∧ b < w.heap.size ∧ ∀ k, k < l.length → w.cell? ⟨b, o + k, none⟩ = some (.int .u32 (l.getD k 0)))
theorem Words.at {l : List Int} (h : Words l) (i : Nat) : 0 ≤ l.getD i 0 ∧ l.getD i 0 < 4294967296 := by
  rw [List.getD_eq_getElem?_getD]
  cases hd : l[i]? with
  | none => simp
  | some x => exact h x (List.mem_of_getElem? hd)
theorem mhid {p : Prop} (h : p) : Hid p := h
theorem mret_val {a b : Value} (h : a = b) : Ending.returned a = .returned b := by rw [h]
theorem mret_i {k : IntKind} {a b : Int} (h : a = b) : Ending.returned (.int k a) = .returned (.int k b) := by rw [h]
theorem mret_ii {k j : IntKind} {a b c d : Int} (h : a = b) (g : c = d) : Ending.returned (.tuple #[.int k a, .int j c]) = .returned (.tuple #[.int k b, .int j d]) := by rw [h, g]
end Go.Proofs.YtkejnhleajfcjaaGreatDoor
/- A list of instructions with marks, as it lies in the world; what stays when some blocks may change. No function of the program is walked here. -/
namespace Go.Proofs.YtkejnhleajfcjaaGreatDoor
open Go.RowKit Go.Maps
set_option linter.unusedVariables false

/-- An instruction that was put, or one that goes to a name. -/
inductive It
  | put (x : Ix)
  | far (x : Ix) (name : ByteArray)
/-- A function value that makes an instruction whole; what it captured lies in blocks of K. -/
def CloAt (w : World) (K : Nat → Prop) (v : Value) : It → Prop
  | .put x => ∃ c, v = .func (.func 130) #[] #[.pointer (some ⟨c, 0, none⟩)] ∧ K c ∧ w.cell? ⟨c, 0, none⟩ = some (.int .u32 (encS x))
  | .far x name => ∃ c d, v = .func (.func 299) #[] #[.pointer (some ⟨c, 0, none⟩), .pointer (some ⟨d, 0, none⟩)] ∧ K c ∧ K d ∧ w.cell? ⟨c, 0, none⟩ = some (.string name) ∧
      (∀ (i : Nat) (u : Value), x.agg.cells[i]? = some u → w.cell? ⟨d, i, none⟩ = some u) ∧ name.size ≤ maxLen ∧ x.bd
theorem CloAt.keep {S K K' : Nat → Prop} {a b : World} {v : Value} {it : It} (h : CloAt a K v it) (o : Only S a b) (hs : ∀ k, K k → ¬ S k) (hk : ∀ k, k < a.heap.size → K k → K' k) : CloAt b K' v it := by
  cases it with
  | put x =>
    obtain ⟨c, h1, h2, h3⟩ := h
    have hc : c < a.heap.size := World.block_lt_of_cell? _ _ h3
    exact ⟨c, h1, hk c hc h2, (o.cell (p := ⟨c, 0, none⟩) hc (hs c h2)).trans h3⟩
  | far x name =>
    obtain ⟨c, d, h1, h2, h3, h4, h5, h6, h7⟩ := h
    have hc : c < a.heap.size := World.block_lt_of_cell? _ _ h4
    have hd : d < a.heap.size := World.block_lt_of_cell? _ _ (h5 0 (.int .u8 x.op) (by simp [Value.cells]))
    exact ⟨c, d, h1, hk c hc h2, hk d hd h3, (o.cell (p := ⟨c, 0, none⟩) hc (hs c h2)).trans h4, fun i u hu => (o.cell (p := ⟨d, i, none⟩) hd (hs d h3)).trans (h5 i u hu), h6, h7⟩

/-- Where a name stands. -/
def look (M : List (List UInt8 × Int)) (nm : List UInt8) : Option Int := (M.find? (fun e => e.1 == nm)).map (·.2)
/-- A map's reading has the marks. -/
structure MarkD (D : DataW Unit) (M : List (List UInt8 × Int)) : Prop where
  map : IsMap D
  has : ∀ nm, Maps.has D (.string nm) = (look M nm).isSome
  at' : ∀ nm z, D.atKey (.string nm) z = match look M nm with | some n => .lit (.int .i64 n) | none => z
theorem MarkD.nil : MarkD (.map []) [] := ⟨isMap_empty, fun nm => rfl, fun nm z => rfl⟩
theorem look_snoc (M : List (List UInt8 × Int)) (nm nm' : List UInt8) (n : Int) : look (M ++ [(nm, n)]) nm' = match look M nm' with | some k => some k | none => if nm = nm' then some n else none := by
  unfold look
  rw [List.find?_append]
  cases h : M.find? (fun e => e.1 == nm') with
  | some e => simp
  | none => by_cases he : nm = nm' <;> simp [he]
theorem MarkD.put {D : DataW Unit} {M : List (List UInt8 × Int)} (h : MarkD D M) (nm : List UInt8) (n : Int) (hn : look M nm = none) : MarkD (D.put (.string nm) (.lit (.int .i64 n))) (M ++ [(nm, n)]) := by
  refine ⟨h.map.put _ _, fun nm' => ?_, fun nm' z => ?_⟩
  · rw [look_snoc]
    by_cases he : nm = nm'
    · subst he
      rw [has_put_same h.map (by trivial), hn]; simp
    · rw [has_put_other (by intro e; exact he (by cases e; rfl)), h.has, if_neg he]
      cases look M nm' <;> rfl
  · rw [look_snoc]
    by_cases he : nm = nm'
    · subst he
      rw [atKey_put_same h.map (by trivial), hn]; simp
    · rw [atKey_put_other (by intro e; exact he (by cases e; rfl)), h.at', if_neg he]
      cases look M nm' <;> rfl

/-- The list at block p: its row is the slice sv, its marks lie at block m; what its function values captured lies in blocks of K. -/
structure AsmAt (w : World) (p : Nat) (sv : Value) (m : Nat) (K : Nat → Prop) (L : List It) (M : List (List UInt8 × Int)) : Prop where
  ptr : w.heap[p]? = some (.cells #[sv, .map (some m)] 218 (0, 0))
  row : ∃ vs : List Value, w.ownsRow 0 231 1 sv L.length vs ∧ vs.length = L.length ∧ ∀ (i : Nat) (v : Value) (it : It), vs[i]? = some v → L[i]? = some it → CloAt w K v it
  marks : ∃ D : DataW Unit, w.ownsMap Tryz.prog 9 (plainElem Tryz.prog 3) m M.length D ∧ MarkD D M
  ne : p ≠ m ∧ sv.ownBlock ≠ some p ∧ sv.ownBlock ≠ some m
  apart : ∀ k, K k → k ≠ p ∧ sv.ownBlock ≠ some k ∧ k ≠ m
/-- A list's own blocks. -/
def Own (p : Nat) (sv : Value) (m : Nat) (k : Nat) : Prop := k = p ∨ sv.ownBlock = some k ∨ k = m
theorem AsmAt.keep {S : Nat → Prop} {a b : World} {p m : Nat} {sv : Value} {K : Nat → Prop} {L : List It} {M : List (List UInt8 × Int)} (h : AsmAt a p sv m K L M) (o : Only S a b) (hs : ∀ k, Own p sv m k → ¬ S k) (hk : ∀ k, K k → ¬ S k) : AsmAt b p sv m K L M := by
  obtain ⟨h1, ⟨vs, h2, h3, h4⟩, ⟨D, ⟨es, cl, hb, F, hz, hD⟩, h6⟩, h7, h8⟩ := h
  refine ⟨o.obj h1 (hs p (.inl rfl)), ⟨vs, ⟨h2.1, ?_⟩, h3, fun i v it hv hi => (h4 i v it hv hi).keep o hk (fun _ _ h => h)⟩, ⟨D, ⟨es, cl, o.obj hb (hs m (.inr (.inr rfl))), F, hz, hD⟩, h6⟩, h7, h8⟩
  rcases h2.2 with h | ⟨g, cap, cur, e1, e2, e3, e4⟩
  · exact .inl h
  · refine .inr ⟨g, cap, cur, e1, e2, o.obj e3 (hs g (.inr (.inl ?_))), e4⟩
    rw [e1]; rfl
/-- What lies beyond the heap is no captured block. -/
theorem AsmAt.trim {w : World} {p m : Nat} {sv : Value} {K : Nat → Prop} {L : List It} {M : List (List UInt8 × Int)} (h : AsmAt w p sv m K L M) : AsmAt w p sv m (fun k => K k ∧ k < w.heap.size) L M := by
  obtain ⟨h1, ⟨vs, h2, h3, h4⟩, h5, h7, h8⟩ := h
  exact ⟨h1, ⟨vs, h2, h3, fun i v it hv hi => (h4 i v it hv hi).keep (Only.refl (fun _ => False) w) (fun _ _ h => h) (fun k hl hk => ⟨hk, hl⟩)⟩, h5, h7, fun k hk => h8 k hk.1⟩
theorem AsmAt.blocks {w : World} {p m : Nat} {sv : Value} {K : Nat → Prop} {L : List It} {M : List (List UInt8 × Int)} (h : AsmAt w p sv m K L M) : p < w.heap.size ∧ m < w.heap.size ∧ ∀ k, sv.ownBlock = some k → k < w.heap.size := by
  obtain ⟨h1, ⟨vs, h2, h3, h4⟩, ⟨D, ⟨es, cl, hb, F, hz, hD⟩, h6⟩, h7, h8⟩ := h
  exact ⟨lt_of_block h1, lt_of_block hb, fun k hk => (h2.lt k hk).2⟩
end Go.Proofs.YtkejnhleajfcjaaGreatDoor
/- Walks of the package asm: none, New, Len, At, Mark. -/
namespace Go.Proofs.YtkejnhleajfcjaaGreatDoor
open Go.RowKit Go.Maps
set_option linter.unusedVariables false
set_option linter.unusedSimpArgs false
theorem ahid {p : Prop} (h : p) : Hid p := h
theorem AsmAt.cells {w : World} {p m : Nat} {sv : Value} {K : Nat → Prop} {L : List It} {M : List (List UInt8 × Int)} (h : AsmAt w p sv m K L M) :
    w.cell? ⟨p, 0, none⟩ = some sv ∧ w.cell? ⟨p, 1, none⟩ = some (.map (some m)) ∧ w.frozen? ⟨p, 0, none⟩ = false ∧ w.frozen? ⟨p, 1, none⟩ = false := by
  refine ⟨?_, ?_, ?_, ?_⟩ <;> simp [World.cell?, World.frozen?, h.ptr]
theorem AsmAt.slice {w : World} {p m : Nat} {sv : Value} {K : Nat → Prop} {L : List It} {M : List (List UInt8 × Int)} (h : AsmAt w p sv m K L M) :
    (sv = .slice none 0 0 ∧ L.length = 0) ∨ ∃ g cap, sv = .slice (some ⟨g, 0, none⟩) L.length cap ∧ L.length ≤ cap ∧ cap ≤ maxLen := by
  obtain ⟨vs, h2, _⟩ := h.row
  rcases h2.2 with h | ⟨g, cap, cur, e1, _, _, e2, e3, _⟩
  · exact .inl h
  · exact .inr ⟨g, cap, e1, e2, e3⟩
theorem azero (w : World) : (zeroValue 3).run Tryz.prog w = .ok (.int .i64 0) w := by kernel_rfl
/-- A name's place, as the code looks it up. -/
theorem AsmAt.lookup {w : World} {p m : Nat} {sv : Value} {K : Nat → Prop} {L : List It} {M : List (List UInt8 × Int)} (h : AsmAt w p sv m K L M) (nm : ByteArray) (hn : nm.size ≤ maxLen) :
    (Instr.lookup 215 (.map (some m)) (.string nm) true).run Tryz.prog w = .ok (.tuple #[.int .i64 ((look M nm.data.toList).getD 0), .bool (look M nm.data.toList).isSome]) w := by
  obtain ⟨D, h1, h2⟩ := h.marks
  obtain ⟨v, ps, hrun, hv⟩ := h1.look_ok (string_keyed Tryz.underlying9) Tryz.underlying215 (z := .int .i64 0) (zd := .lit (.int .i64 0)) (zp := []) (azero w) (plainElem_int Tryz.underlying3 (by decide)) (WideMaps.keyOf_string_mk Tryz.underlying9 hn)
  obtain ⟨c, rfl, hc, _⟩ := plainElem_int_inv Tryz.underlying3 hv
  rw [hrun, h2.has]
  have hc2 := congrArg Prod.fst hc
  simp only at hc2
  rw [h2.at'] at hc2
  cases hl : look M nm.data.toList <;> rw [hl] at hc2 <;> simp at hc2 <;> simp [hc2]

theorem anone_nil (w : World) : Calls Tryz.prog 128 #[.pointer none] w fun e w' => e = .returned (.bool true) ∧ w = w' := by
  go_enter Tryz.func128, Tryz.ntmps128
  go_wp2
  go_ret
  exact ⟨rfl, rfl⟩
theorem anone_unmade (w : World) (p : Nat) (h : w.cell? ⟨p, 1, none⟩ = some (.map none)) : Calls Tryz.prog 128 #[.pointer (some ⟨p, 0, none⟩)] w fun e w' => e = .returned (.bool true) ∧ w = w' := by
  have qT : ∀ (w : World) (r : Option Nat), (binOp .eql 215 (.map r) (.map none)).run Tryz.prog w = .ok (.bool r.isNone) w := fun w r => run_eql_map_nil w _ _ _ r Tryz.underlying215
  go_enter Tryz.func128, Tryz.ntmps128
  go_wp2
  go_ret
  exact ⟨rfl, rfl⟩
theorem anone_made (w : World) (p m : Nat) (h : w.cell? ⟨p, 1, none⟩ = some (.map (some m))) : Calls Tryz.prog 128 #[.pointer (some ⟨p, 0, none⟩)] w fun e w' => e = .returned (.bool false) ∧ w = w' := by
  have qT : ∀ (w : World) (r : Option Nat), (binOp .eql 215 (.map r) (.map none)).run Tryz.prog w = .ok (.bool r.isNone) w := fun w r => run_eql_map_nil w _ _ _ r Tryz.underlying215
  go_enter Tryz.func128, Tryz.ntmps128
  go_wp2
  go_ret
  exact ⟨rfl, rfl⟩
/-- A mark's place: the number, and the answer. -/
def atN (M : List (List UInt8 × Int)) (nm : ByteArray) : Int := (look M nm.data.toList).getD 0
def atE (M : List (List UInt8 × Int)) (nm : ByteArray) : Int := if (look M nm.data.toList).isSome = true then 0 else 7
set_option maxRecDepth 100000 in
theorem aat_made (w : World) (p m : Nat) (sv : Value) (K : Nat → Prop) (L : List It) (M : List (List UInt8 × Int)) (h : AsmAt w p sv m K L M) (nm : ByteArray) (hs : nm.size ≤ maxLen) :
    Calls Tryz.prog 115 #[.pointer (some ⟨p, 0, none⟩), .string nm] w fun e w' => e = .returned (.tuple #[.int .i64 (atN M nm), .int .i64 (atE M nm)]) ∧ w = w' := by
  obtain ⟨c0, c1, f0, f1⟩ := h.cells
  have hn := anone_made w p m c1
  have hk := h.lookup nm hs
  unfold atN atE
  cases hl : look M nm.data.toList with
  | none =>
    rw [hl] at hk
    simp only [Option.getD_none, Option.isSome_none] at hk
    go_enter Tryz.func115, Tryz.ntmps115
    go_wp2_with fail
    refine hn.mono ?_
    rintro e w' ⟨rfl, rfl⟩
    go_wp2_with fail
    go_ret2
    exact ⟨rfl, rfl⟩
  | some n =>
    rw [hl] at hk
    simp only [Option.getD_some, Option.isSome_some] at hk
    go_enter Tryz.func115, Tryz.ntmps115
    go_wp2_with fail
    refine hn.mono ?_
    rintro e w' ⟨rfl, rfl⟩
    go_wp2_with fail
    go_ret2
    exact ⟨rfl, rfl⟩
set_option maxRecDepth 100000 in
theorem aat_none (w : World) (a : Value) (nm : ByteArray) (hn : Calls Tryz.prog 128 #[a] w fun e w' => e = .returned (.bool true) ∧ w = w') :
    Calls Tryz.prog 115 #[a, .string nm] w fun e w' => e = .returned (.tuple #[.int .i64 0, .int .i64 1]) ∧ w = w' := by
  go_enter Tryz.func115, Tryz.ntmps115
  go_wp2_with fail
  refine hn.mono ?_
  rintro e w' ⟨rfl, rfl⟩
  go_wp2_with fail
  go_ret2
  exact ⟨rfl, rfl⟩
end Go.Proofs.YtkejnhleajfcjaaGreatDoor
/- Walks of the package asm: New, Mark. -/
namespace Go.Proofs.YtkejnhleajfcjaaGreatDoor
open Go.RowKit Go.Maps
set_option linter.unusedVariables false
set_option linter.unusedSimpArgs false
theorem AsmAt.mark {w w1 : World} {p m : Nat} {sv : Value} {K : Nat → Prop} {L : List It} {M : List (List UInt8 × Int)} {D : DataW Unit} (h : AsmAt w p sv m K L M) (g : w.grownBy w1 (some m)) (nm : List UInt8) (n : Int)
    (o : w1.ownsMap Tryz.prog 9 (plainElem Tryz.prog 3) m (M.length + 1) (D.put (.string nm) (.lit (.int .i64 n)))) (hD : MarkD D M) (hn : look M nm = none) : AsmAt w1 p sv m K L (M ++ [(nm, n)]) := by
  have on : Only (fun k => k = m) w w1 := (Only.refl _ w).grown g (fun k hk _ => by cases hk; rfl)
  obtain ⟨h1, ⟨vs, h2, h3, h4⟩, _, h7, h8⟩ := h
  refine ⟨on.obj h1 h7.1, ⟨vs, ⟨h2.1, ?_⟩, h3, fun i v it hv hi => (h4 i v it hv hi).keep on (fun k hk => (h8 k hk).2.2) (fun _ _ h => h)⟩, ⟨_, by rw [List.length_append]; exact o, hD.put nm n hn⟩, h7, h8⟩
  rcases h2.2 with h | ⟨g, cap, cur, e1, e2, e3, e4⟩
  · exact .inl h
  · refine .inr ⟨g, cap, cur, e1, e2, on.obj e3 ?_, e4⟩
    intro e
    subst e
    exact h7.2.2 (by rw [e1]; rfl)
theorem amark_none (w : World) (a : Value) (nm : ByteArray) (hn : Calls Tryz.prog 128 #[a] w fun e w' => e = .returned (.bool true) ∧ w = w') :
    Calls Tryz.prog 215 #[a, .string nm] w fun e w' => e = .returned (.int .i64 1) ∧ w = w' := by
  go_enter Tryz.func215, Tryz.ntmps215
  go_wp2_with fail
  refine hn.mono ?_
  rintro e w' ⟨rfl, rfl⟩
  go_wp2_with fail
  go_ret
  exact ⟨rfl, rfl⟩
theorem amark_twice (w : World) (p m : Nat) (sv : Value) (K : Nat → Prop) (L : List It) (M : List (List UInt8 × Int)) (h : AsmAt w p sv m K L M) (nm : ByteArray) (hs : nm.size ≤ maxLen) (n : Int) (hl : look M nm.data.toList = some n) :
    Calls Tryz.prog 215 #[.pointer (some ⟨p, 0, none⟩), .string nm] w fun e w' => e = .returned (.int .i64 9) ∧ w = w' := by
  obtain ⟨c0, c1, f0, f1⟩ := h.cells
  have hn := anone_made w p m c1
  have hk := h.lookup nm hs
  rw [hl] at hk
  simp only [Option.getD_some, Option.isSome_some] at hk
  go_enter Tryz.func215, Tryz.ntmps215
  go_wp2_with fail
  refine hn.mono ?_
  rintro e w' ⟨rfl, rfl⟩
  go_wp2_with fail
  go_ret
  exact ⟨rfl, rfl⟩
/-- What a mark leaves. -/
def MarkOk (w : World) (p m : Nat) (sv : Value) (K : Nat → Prop) (L : List It) (M : List (List UInt8 × Int)) (nm : ByteArray) (e : Ending) (w' : World) : Prop :=
  e = .returned (.int .i64 0) ∧ AsmAt w' p sv m K L (M ++ [(nm.data.toList, (L.length : Int))]) ∧ Only (fun k => k = m) w w'
set_option maxRecDepth 100000 in
set_option maxHeartbeats 1000000 in
theorem amark_new (w : World) (p m : Nat) (sv : Value) (K : Nat → Prop) (L : List It) (M : List (List UInt8 × Int)) (h : AsmAt w p sv m K L M) (nm : ByteArray) (hs : nm.size ≤ maxLen) (hM : M.length < maxLen) (hL : L.length < 9223372036854775808) (hl : look M nm.data.toList = none) :
    Calls Tryz.prog 215 #[.pointer (some ⟨p, 0, none⟩), .string nm] w (MarkOk w p m sv K L M nm) := by
  obtain ⟨c0, c1, f0, f1⟩ := h.cells
  have hn := anone_made w p m c1
  have hk := h.lookup nm hs
  rw [hl] at hk
  simp only [Option.getD_none, Option.isSome_none] at hk
  obtain ⟨D, hown, hD⟩ := h.marks
  have H := ahid h
  have HO := ahid hown
  clear h hown
  rcases H.out.slice with ⟨rfl, hl0⟩ | ⟨g, cap, rfl, hcap, hcap2⟩
  · have e0 : (L.length : Int) = 0 := by omega
    unfold MarkOk
    rw [e0]
    go_enter Tryz.func215, Tryz.ntmps215
    go_wp2_with fail
    refine hn.mono ?_
    rintro e w' ⟨rfl, rfl⟩
    go_wp2_with fail
    go_still_tail 10, (by kernel_rfl)
    change wpList _ _ _ _ _ w.drew
    have HM2 := H.out.keep ((Only.refl (fun _ => False) w).drew) (fun _ _ h => h) (fun _ _ h => h)
    have HO2 := HO.out.drew
    have HB := ahid ((Only.refl (fun k => k = m) w).drew)
    generalize w.drew = w2 at HM2 HO2 HB ⊢
    have HA := ahid HM2
    clear HM2 c0 c1 f0 f1 hn hk
    go_wp2_with (first | (at_mapUpdate; refine wpList_mapUpdate_own _ rfl _ _ _ 215 rfl 9 3 (string_keyed Tryz.underlying9) Tryz.underlying215 _ m M.length D rfl HO2 hM _ _ (.string nm.data.toList) rfl rfl (WideMaps.keyOf_string_mk Tryz.underlying9 hs) (.lit (.int .i64 0)) [] (plainElem_int Tryz.underlying3 (by decide)) ?_))
    intro w3 ho3 hg3
    have HA3 := HA.out.mark hg3 nm.data.toList _ ho3 hD hl
    have HB3 := HB.out.grown hg3 (fun k hk _ => by cases hk; rfl)
    clear ho3 hg3 HO2 HA HB
    go_wp2_with fail
    go_ret
    exact ⟨rfl, HA3, HB3⟩
  · have hwf : (Lit.int .i64 (L.length : Int)).wf = true := WalkArith.wf_i64 (by omega)
    go_enter Tryz.func215, Tryz.ntmps215
    go_wp2_with fail
    refine hn.mono ?_
    rintro e w' ⟨rfl, rfl⟩
    go_wp2_with fail
    go_still_tail 10, (by kernel_rfl)
    change wpList _ _ _ _ _ w.drew
    have HM2 := H.out.keep ((Only.refl (fun _ => False) w).drew) (fun _ _ h => h) (fun _ _ h => h)
    have HO2 := HO.out.drew
    have HB := ahid ((Only.refl (fun k => k = m) w).drew)
    generalize w.drew = w2 at HM2 HO2 HB ⊢
    have HA := ahid HM2
    clear HM2 c0 c1 f0 f1 hn hk
    go_wp2_with (first | (at_mapUpdate; refine wpList_mapUpdate_own _ rfl _ _ _ 215 rfl 9 3 (string_keyed Tryz.underlying9) Tryz.underlying215 _ m M.length D rfl HO2 hM _ _ (.string nm.data.toList) rfl rfl (WideMaps.keyOf_string_mk Tryz.underlying9 hs) (.lit (.int .i64 L.length)) [] (plainElem_int Tryz.underlying3 hwf) ?_))
    intro w3 ho3 hg3
    have HA3 := HA.out.mark hg3 nm.data.toList _ ho3 hD hl
    have HB3 := HB.out.grown hg3 (fun k hk _ => by cases hk; rfl)
    clear ho3 hg3 HO2 HA HB
    go_wp2_with fail
    go_ret
    exact ⟨rfl, HA3, HB3⟩
end Go.Proofs.YtkejnhleajfcjaaGreatDoor
