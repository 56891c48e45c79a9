/- Several texts in one: InstSpec, PsrSpec, PsrWalks, PsrBits. -/
import Derived.WalkKit
import Derived.Test.YtajholbcpmjhiaaGreatDoorProg
import Derived.WalkSpells
import Derived.WalkLawsBesides
import Derived.RegionTactic
import Derived.Outline
import Derived.Deep.QuietTactic
import Derived.BigQuiet
import Derived.Handy
import Derived.Lib.BitFns
set_option linter.unusedVariables false
set_option linter.unusedSimpArgs false
/- Plain law of the instructions' words: which may be, an instruction's word, a word's instruction. No program in sight. -/
namespace Go.Proofs.YtajholbcpmjhiaaGreatDoor
open Go.RowKit
def kindS (op : Int) : Int :=
  if (1 ≤ op ∧ op ≤ 14) ∨ (19 ≤ op ∧ op ≤ 25) then 1
  else if op = 16 ∨ op = 27 ∨ op = 29 then 2
  else if op = 15 then 3 else if op = 17 then 4 else if op = 18 then 5
  else if op = 26 ∨ op = 28 ∨ op = 34 then 6
  else if op = 30 then 7 else if op = 31 then 8 else if op = 33 then 9
  else if op = 35 ∨ op = 36 then 10 else if op = 37 then 11 else if op = 32 then 12 else 0
def hasK (k : Int) : Int :=
  if k = 1 then 7 else if k = 2 then 6 else if k = 3 then 25 else if k = 4 then 25 else if k = 5 then 24 else if k = 6 then 1
  else if k = 7 then 9 else if k = 8 then 10 else if k = 9 then 8 else if k = 10 then 2 else if k = 11 then 8 else if k = 12 then 0 else 128
structure Ix where
  op : Int
  rd : Int
  rs1 : Int
  rs2 : Int
  is : Bool
  imm : Int
def Ix.bd (x : Ix) : Prop := (0 ≤ x.op ∧ x.op < 256) ∧ (0 ≤ x.rd ∧ x.rd < 256) ∧ (0 ≤ x.rs1 ∧ x.rs1 < 256) ∧ (0 ≤ x.rs2 ∧ x.rs2 < 256) ∧ (-2147483648 ≤ x.imm ∧ x.imm < 2147483648)
abbrev Ix.agg (x : Ix) : Value := .agg #[.int .u8 x.op, .int .u8 x.rd, .int .u8 x.rs1, .int .u8 x.rs2, .bool x.is, .int .i32 x.imm]
def Ix.zero : Ix := ⟨0, 0, 0, 0, false, 0⟩
def okS (k : Int) (x : Ix) : Bool :=
  if k = 1 then decide ((x.is = true ∧ x.rs2 = 0 ∧ -16384 ≤ x.imm ∧ x.imm < 16384) ∨ (x.is = false ∧ x.imm = 0))
  else if k = 2 then decide (x.rd = 0 ∧ ((x.is = true ∧ x.rs2 = 0 ∧ -16384 ≤ x.imm ∧ x.imm < 16384) ∨ (x.is = false ∧ x.imm = 0)))
  else if k = 3 then decide (x.is = true ∧ x.rs1 = 0 ∧ x.rs2 = 0 ∧ 0 ≤ x.imm ∧ x.imm < 2097152)
  else if k = 4 then decide (x.is = true ∧ x.rd ≤ 6 ∧ x.rs1 = 0 ∧ x.rs2 = 0 ∧ -1048576 ≤ x.imm ∧ x.imm < 1048576)
  else if k = 5 then decide (x.is = true ∧ x.rd = 0 ∧ x.rs1 = 0 ∧ x.rs2 = 0 ∧ -1048576 ≤ x.imm ∧ x.imm < 1048576)
  else if k = 6 then decide (x.is = false ∧ x.rs1 = 0 ∧ x.rs2 = 0 ∧ x.imm = 0)
  else if k = 7 then decide (x.is = true ∧ x.rs1 = 0 ∧ x.rs2 = 0 ∧ 0 ≤ x.imm ∧ x.imm ≤ 1)
  else if k = 8 then decide (x.is = true ∧ x.rd = 0 ∧ x.rs2 = 0 ∧ 0 ≤ x.imm ∧ x.imm ≤ 1)
  else if k = 9 then decide (x.is = true ∧ x.rd = 0 ∧ x.rs1 = 0 ∧ x.rs2 = 0 ∧ 3 ≤ x.imm ∧ x.imm ≤ 4)
  else if k = 10 then decide (x.is = false ∧ x.rd = 0 ∧ x.rs2 = 0 ∧ x.imm = 0)
  else if k = 11 then decide (x.is = true ∧ x.rd = 0 ∧ x.rs1 = 0 ∧ x.rs2 = 0 ∧ 1 ≤ x.imm ∧ x.imm ≤ 3)
  else if k = 12 then decide (x.is = false ∧ x.rd = 0 ∧ x.rs1 = 0 ∧ x.rs2 = 0 ∧ x.imm = 0)
  else false
def mayP (x : Ix) : Prop := x.rd ≤ 31 ∧ x.rs1 ≤ 31 ∧ x.rs2 ≤ 31 ∧ okS (kindS x.op) x = true
instance (x : Ix) : Decidable (mayP x) := by unfold mayP; infer_instance
def mayB (x : Ix) : Bool := decide (mayP x)
def longK (k : Int) : Prop := k = 3 ∨ k = 4 ∨ k = 5
instance (k : Int) : Decidable (longK k) := by unfold longK; infer_instance
def tailS (x : Ix) : Int :=
  if longK (kindS x.op) then x.imm % 2097152
  else x.rs1 * 65536 + if x.is = true then 32768 + x.imm % 32768 else x.rs2
def wordS (x : Ix) : Int := x.op * 67108864 + x.rd * 2097152 + tailS x
def encS (x : Ix) : Int := if mayP x then wordS x else 0
def encE (x : Ix) : Int := if mayP x then 0 else 2
def sgn (n : Int) (half : Int) : Int := if half ≤ n then n - 2 * half else n
def rawS (w : Int) : Ix :=
  let op := w / 67108864
  let rd := w / 2097152 % 32
  if longK (kindS op) then ⟨op, rd, 0, 0, true, if kindS op = 3 then w % 2097152 else sgn (w % 2097152) 1048576⟩
  else if w / 32768 % 2 = 1 then ⟨op, rd, w / 65536 % 32, 0, true, sgn (w % 32768) 16384⟩
  else ⟨op, rd, w / 65536 % 32, w % 32, false, 0⟩
def decB (w : Int) : Bool := decide (mayP (rawS w) ∧ wordS (rawS w) = w)
def decS (w : Int) : Ix := if decB w = true then rawS w else Ix.zero
theorem kind_bd (op : Int) : 0 ≤ kindS op ∧ kindS op ≤ 12 := by
  unfold kindS; (repeat' split) <;> omega
theorem kind_no {op : Int} (h : op < 1 ∨ 37 < op) : kindS op = 0 := by
  unfold kindS; repeat (rw [if_neg (by omega)])
theorem kind_op {op : Int} (h : kindS op ≠ 0) : 1 ≤ op ∧ op ≤ 37 := by
  rcases Classical.em (op < 1 ∨ 37 < op) with h1 | h1
  · exact absurd (kind_no h1) h
  · omega
theorem kind_cases (op : Int) : kindS op = 0 ∨ kindS op = 1 ∨ kindS op = 2 ∨ kindS op = 3 ∨ kindS op = 4 ∨ kindS op = 5 ∨ kindS op = 6 ∨ kindS op = 7 ∨ kindS op = 8 ∨ kindS op = 9 ∨ kindS op = 10 ∨ kindS op = 11 ∨ kindS op = 12 := by
  have := kind_bd op; omega
theorem may_bd {x : Ix} (hb : x.bd) (h : mayP x) : (1 ≤ x.op ∧ x.op ≤ 37) ∧ (0 ≤ x.rd ∧ x.rd ≤ 31) ∧ (0 ≤ x.rs1 ∧ x.rs1 ≤ 31) ∧ (0 ≤ x.rs2 ∧ x.rs2 ≤ 31) := by
  obtain ⟨h1, h2, h3, h4⟩ := h
  obtain ⟨b0, b1, b2, b3, b4⟩ := hb
  refine ⟨kind_op (fun h0 => ?_), by omega, by omega, by omega⟩
  rw [h0] at h4; simp [okS] at h4
theorem tail_bd {x : Ix} (hb : x.bd) (h : mayP x) : 0 ≤ tailS x ∧ tailS x < 2097152 := by
  obtain ⟨b0, b1, b2, b3⟩ := may_bd hb h
  unfold tailS
  split
  · omega
  · split <;> omega
theorem word_bd {x : Ix} (hb : x.bd) (h : mayP x) : 0 < wordS x ∧ wordS x < 4294967296 := by
  have ht := tail_bd hb h
  obtain ⟨b0, b1, b2, b3⟩ := may_bd hb h
  unfold wordS; omega
theorem sgn_mod {n half : Int} (h1 : -half ≤ n) (h2 : n < half) : sgn (n % (2 * half)) half = n := by
  unfold sgn
  by_cases h0 : 0 ≤ n
  · rw [Int.emod_eq_of_lt h0 (by omega), if_neg (by omega)]
  · rw [show n % (2 * half) = n + 2 * half from by rw [← Int.add_emod_right]; exact Int.emod_eq_of_lt (by omega) (by omega), if_pos (by omega)]; omega
theorem ok_long {k : Int} {x : Ix} (hl : longK k) (h : okS k x = true) : x.is = true ∧ x.rs1 = 0 ∧ x.rs2 = 0 ∧ (k = 3 → 0 ≤ x.imm ∧ x.imm < 2097152) ∧ (k ≠ 3 → -1048576 ≤ x.imm ∧ x.imm < 1048576) := by
  rcases hl with rfl | rfl | rfl <;> simp [okS] at h <;> refine ⟨h.1, ?_⟩ <;> omega
theorem ok_short {k : Int} {x : Ix} (hl : ¬ longK k) (h : okS k x = true) : (x.is = true → x.rs2 = 0 ∧ -16384 ≤ x.imm ∧ x.imm < 16384) ∧ (x.is = false → x.imm = 0) := by
  unfold longK at hl
  unfold okS at h
  cases hi : x.is <;> simp only [hi] at h ⊢ <;> simp at h ⊢ <;> (repeat' (split at h)) <;> omega
theorem raw_word {x : Ix} (hb : x.bd) (h : mayP x) : rawS (wordS x) = x := by
  have ht := tail_bd hb h
  obtain ⟨b0, b1, b2, b3⟩ := may_bd hb h
  obtain ⟨_, _, _, hok⟩ := h
  obtain ⟨op, rd, rs1, rs2, is, imm⟩ := x
  simp only at *
  have e0 : wordS ⟨op, rd, rs1, rs2, is, imm⟩ = op * 67108864 + rd * 2097152 + tailS ⟨op, rd, rs1, rs2, is, imm⟩ := rfl
  have e1 : wordS ⟨op, rd, rs1, rs2, is, imm⟩ / 67108864 = op := by omega
  have e2 : wordS ⟨op, rd, rs1, rs2, is, imm⟩ / 2097152 % 32 = rd := by omega
  have e3 : wordS ⟨op, rd, rs1, rs2, is, imm⟩ % 2097152 = tailS ⟨op, rd, rs1, rs2, is, imm⟩ := by omega
  have e4 : wordS ⟨op, rd, rs1, rs2, is, imm⟩ / 32768 % 2 = tailS ⟨op, rd, rs1, rs2, is, imm⟩ / 32768 % 2 := by omega
  have e5 : wordS ⟨op, rd, rs1, rs2, is, imm⟩ / 65536 % 32 = tailS ⟨op, rd, rs1, rs2, is, imm⟩ / 65536 % 32 := by omega
  have e6 : wordS ⟨op, rd, rs1, rs2, is, imm⟩ % 32768 = tailS ⟨op, rd, rs1, rs2, is, imm⟩ % 32768 := by omega
  have e7 : wordS ⟨op, rd, rs1, rs2, is, imm⟩ % 32 = tailS ⟨op, rd, rs1, rs2, is, imm⟩ % 32 := by omega
  unfold rawS
  rw [e1, e2, e3, e4, e5, e6, e7]
  clear e0 e1 e2 e3 e4 e5 e6 e7
  by_cases hl : longK (kindS op)
  · obtain ⟨rfl, rfl, rfl, k1, k2⟩ := ok_long hl hok
    simp only [if_pos hl, tailS]
    congr 1
    by_cases k3 : kindS op = 3
    · rw [if_pos k3]; have := k1 k3; simp only at this; omega
    · rw [if_neg k3]
      have := k2 k3; simp only at this
      rw [show imm % 2097152 = imm % (2 * 1048576) from by omega]
      exact sgn_mod (by omega) (by omega)
  · have hs := ok_short hl hok
    simp only [if_neg hl, tailS] at ht ⊢
    cases is
    · have := hs.2 rfl; simp only at this; subst this
      simp only [Bool.false_eq_true, if_false] at ht ⊢
      rw [if_neg (by omega)]
      congr 1 <;> omega
    · have := hs.1 rfl; simp only at this
      obtain ⟨rfl, i1, i2⟩ := this
      simp only [if_true] at ht ⊢
      rw [if_pos (by omega)]
      congr 1
      · omega
      · rw [show (rs1 * 65536 + (32768 + imm % 32768)) % 32768 = imm % (2 * 16384) from by omega]
        exact sgn_mod (by omega) (by omega)
theorem raw_bd {w : Int} (h0 : 0 ≤ w) (h1 : w < 4294967296) : (rawS w).bd := by
  unfold rawS Ix.bd sgn
  simp only
  repeat' split
  all_goals (simp only; refine ⟨⟨?_, ?_⟩, ⟨?_, ?_⟩, ⟨?_, ?_⟩, ⟨?_, ?_⟩, ?_, ?_⟩ <;> omega)
theorem dec_enc {x : Ix} (hb : x.bd) (h : mayP x) : decB (wordS x) = true ∧ decS (wordS x) = x := by
  have e := raw_word hb h
  have hB : decB (wordS x) = true := by unfold decB; rw [e]; exact decide_eq_true ⟨h, rfl⟩
  exact ⟨hB, by unfold decS; rw [if_pos hB, e]⟩
theorem enc_dec {w : Int} (h : decB w = true) : mayP (decS w) ∧ wordS (decS w) = w := by
  unfold decS; rw [if_pos h]; unfold decB at h; exact of_decide_eq_true h
end Go.Proofs.YtajholbcpmjhiaaGreatDoor
/- Plain law of the state word: what its parts are, the windows, the WIM. No program in sight. -/
namespace Go.Proofs.YtajholbcpmjhiaaGreatDoor
open Go.RowKit
structure Px where
  cwp : Int
  pil : Int
  bank : Int
  flags : Int
def Px.bd (p : Px) : Prop := (0 ≤ p.cwp ∧ p.cwp < 256) ∧ (0 ≤ p.pil ∧ p.pil < 256) ∧ (0 ≤ p.bank ∧ p.bank < 256) ∧ (0 ≤ p.flags ∧ p.flags < 256)
instance (p : Px) : Decidable p.bd := by unfold Px.bd; infer_instance
abbrev Px.agg (p : Px) : Value := .agg #[.int .u8 p.cwp, .int .u8 p.pil, .int .u8 p.bank, .int .u8 p.flags]
def Px.zero : Px := ⟨0, 0, 0, 0⟩
def winP (nw : Int) : Prop := 2 ≤ nw ∧ nw ≤ 32
instance (nw : Int) : Decidable (winP nw) := by unfold winP; infer_instance
def pmayP (p : Px) (nw : Int) : Prop := p.cwp < nw ∧ p.pil < 16 ∧ p.bank < 17 ∧ p.flags < 16
instance (p : Px) (nw : Int) : Decidable (pmayP p nw) := by unfold pmayP; infer_instance
def packW (p : Px) : Int := p.cwp + 32 * p.pil + 512 * p.bank + 16384 * p.flags
def packS (p : Px) (nw : Int) : Int := if winP nw ∧ pmayP p nw then packW p else 0
def packE (p : Px) (nw : Int) : Int := if winP nw ∧ pmayP p nw then 0 else 2
def unW (w : Int) : Px := ⟨w % 32, w / 32 % 16, w / 512 % 32, w / 16384 % 16⟩
def unOk (w nw : Int) : Prop := w < 262144 ∧ pmayP (unW w) nw
instance (w nw : Int) : Decidable (unOk w nw) := by unfold unOk; infer_instance
def unS (w nw : Int) : Px := if winP nw ∧ unOk w nw then unW w else Px.zero
def unE (w nw : Int) : Int := if winP nw then (if unOk w nw then 0 else 5) else 2
theorem pack_bd {p : Px} {nw : Int} (hb : p.bd) (hw : winP nw) (h : pmayP p nw) : 0 ≤ packW p ∧ packW p < 262144 := by
  obtain ⟨⟨a, _⟩, ⟨b, _⟩, ⟨c, _⟩, ⟨d, _⟩⟩ := hb
  obtain ⟨h1, h2, h3, h4⟩ := h
  obtain ⟨_, hw⟩ := hw
  unfold packW; omega
theorem un_pack {p : Px} {nw : Int} (hb : p.bd) (hw : winP nw) (h : pmayP p nw) : unW (packW p) = p := by
  obtain ⟨cwp, pil, bank, flags⟩ := p
  obtain ⟨⟨a, _⟩, ⟨b, _⟩, ⟨c, _⟩, ⟨d, _⟩⟩ := hb
  obtain ⟨h1, h2, h3, h4⟩ := h
  obtain ⟨_, hw⟩ := hw
  simp only at *
  unfold unW packW
  congr 1 <;> simp only <;> omega
theorem un_bd {w : Int} (h0 : 0 ≤ w) : (unW w).bd := by
  unfold unW Px.bd; simp only; omega
def belowB (l : List Int) (m : Nat) : Bool := (List.range m).all fun j => decide (0 ≤ l.getD (2 * j) 0 ∧ l.getD (2 * j) 0 < l.getD (2 * j + 1) 0)
theorem below_step {l : List Int} {k : Nat} (h : belowB l k = true) (a b : Int) (ha : l.getD (2 * k) 0 = a) (hb : l.getD (2 * k + 1) 0 = b) : belowB l (k + 1) = decide (0 ≤ a ∧ a < b) := by
  unfold belowB at h ⊢
  rw [List.range_succ, List.all_append, h, ← ha, ← hb]; simp
theorem below_stop {l : List Int} {k m : Nat} (hk : k < m) (a b : Int) (ha : l.getD (2 * k) 0 = a) (hb : l.getD (2 * k + 1) 0 = b) (hn : ¬ (0 ≤ a ∧ a < b)) : belowB l m = false := by
  unfold belowB
  rw [List.all_eq_false]
  exact ⟨k, by simpa using hk, by rw [ha, hb]; simpa using hn⟩
end Go.Proofs.YtajholbcpmjhiaaGreatDoor
/- Walks of the package psr: below, windows, may. -/
namespace Go.Proofs.YtajholbcpmjhiaaGreatDoor
open Go.RowKit
theorem phid {p : Prop} (h : p) : Hid p := h
theorem pretb {a b : Bool} (h : a = b) : Ending.returned (.bool a) = .returned (.bool b) := by rw [h]
theorem pret {k : IntKind} {a b : Int} (h : a = b) : Ending.returned (.int k a) = .returned (.int k b) := by rw [h]
theorem pret2 {k l : IntKind} {a b c d : Int} (h : a = b) (g : c = d) : Ending.returned (.tuple #[.int k a, .int l c]) = .returned (.tuple #[.int k b, .int l d]) := by rw [h, g]
theorem pbt {a b c : World} (h : Below a.heap.size a b) (k : Below b.heap.size b c) : Below a.heap.size a c := h.trans (k.mono h.size)
theorem pbal (w : World) (o : Obj) : Below w.heap.size w (w.alloc o) := (Below.refl _ _).alloc (Nat.le_refl _) _
theorem pdrew {n : Nat} {a b : World} (h : Below n a b) (k : Nat) : Below n a (b.drewN k) := h.trans ⟨rfl, rfl, rfl, Nat.le_refl _, fun _ _ => rfl⟩
set_option maxRecDepth 100000 in
set_option maxHeartbeats 1000000 in
theorem below_any (l : List Int) (m g : Nat) (hm : m ≤ 4) (hl : l.length = 2 * m) (w : World) (hc : ∀ k, k < l.length → w.cell? ⟨g, k, none⟩ = some (.int .i64 (l.getD k 0))) :
    Calls Tryz.prog 138 #[.slice (some ⟨g, 0, none⟩) l.length l.length] w fun e w' => e = .returned (.bool (belowB l m)) ∧ Below w.heap.size w w' := by
  rw [hl] at hc ⊢
  have HC := phid hc
  clear hc hl
  go_enter Tryz.func138, Tryz.ntmps138
  go_wp2_with fail
  go_loopw [3] (fun i wr => ∃ k : Nat, k ≤ m ∧ i = .int .i64 (2 * (k : Int)) ∧ belowB l k = true ∧ Below w.heap.size w wr) (fun i _ => 2 * m - (intOf i).toNat)
  case atStart => exact ⟨0, Nat.zero_le _, rfl, rfl, Below.refl _ _⟩
  case round =>
    obtain ⟨k, hk, rfl, hbk, hB⟩ := hrel
    by_cases hlt : k < m
    · have c0 := (hB.cell (p := ⟨g, 2 * k, none⟩) (World.block_lt_of_cell? _ _ (HC.out (2 * k) (by omega)))).trans (HC.out (2 * k) (by omega))
      have c1 := (hB.cell (p := ⟨g, 2 * k + 1, none⟩) (World.block_lt_of_cell? _ _ (HC.out (2 * k + 1) (by omega)))).trans (HC.out (2 * k + 1) (by omega))
      generalize ha : l.getD (2 * k) 0 = a at c0
      generalize hb : l.getD (2 * k + 1) 0 = b at c1
      have HA := phid (And.intro ha hb)
      have HK := phid hbk
      have HB := phid hB
      clear ha hb hbk hB
      have f1 : IntKind.i64.wrap (2 * (k : Int) + 1) = 2 * (k : Int) + 1 := IntWalk.i64_in _ (by omega)
      have f2 : (0 : Int) ≤ 2 * (k : Int) + 1 := by omega
      have f3 : (2 * (k : Int) + 1).toNat = 2 * k + 1 := by omega
      have f4 : (2 * (k : Int)).toNat = 2 * k := by omega
      have f5 : (0 : Int) ≤ 2 * (k : Int) := by omega
      have f6 : 2 * (k : Int) + 1 < 2 * (m : Int) := by omega
      have f7 : 2 * (k : Int) < 2 * (m : Int) := by omega
      by_cases h1 : a < 0
      · have e1 : decide (a < 0) = true := by simpa using h1
        go_wp2_with fail
        go_quiet (fail)
        go_wp2_with fail
        go_ret
        exact ⟨pretb (below_stop hlt a b HA.out.1 HA.out.2 (by omega)).symm, pdrew HB.out _⟩
      · have e1 : decide (a < 0) = false := by simpa using h1
        by_cases h2 : b ≤ a
        · have e2 : decide (b ≤ a) = true := by simpa using h2
          go_wp2_with fail
          go_quiet (fail)
          go_wp2_with fail
          go_ret
          exact ⟨pretb (below_stop hlt a b HA.out.1 HA.out.2 (by omega)).symm, pdrew HB.out _⟩
        · have e2 : decide (b ≤ a) = false := by simpa using h2
          have HS := phid ((below_step HK.out a b HA.out.1 HA.out.2).trans (decide_eq_true (by omega)))
          have f8 : IntKind.i64.wrap (2 * (k : Int) + 2) = 2 * (k : Int) + 2 := IntWalk.i64_in _ (by omega)
          go_wp2_with fail
          go_quiet (fail)
          go_wp2_with fail
          go_roundw
          case rel => exact ⟨k + 1, by omega, by go_num, HS.out, pdrew HB.out _⟩
          case measure => simp [intOf] <;> omega
    · obtain rfl : k = m := by omega
      go_wp2_with fail
      go_ret
      exact ⟨pretb hbk.symm, hB⟩
theorem windows_any (nw : Int) (w : World) : Calls Tryz.prog 137 #[.int .i64 nw] w fun e w' => e = .returned (.bool (decide (winP nw))) ∧ w = w' := by
  by_cases h1 : 2 ≤ nw
  · by_cases h2 : nw ≤ 32
    · have e1 : decide (2 ≤ nw) = true := by simpa using h1
      have e2 : decide (nw ≤ 32) = true := by simpa using h2
      have E := phid (show decide (winP nw) = true from decide_eq_true ⟨h1, h2⟩)
      clear h1 h2
      go_enter Tryz.func137, Tryz.ntmps137
      go_wp2
      go_ret
      exact ⟨pretb E.out.symm, rfl⟩
    · have e1 : decide (2 ≤ nw) = true := by simpa using h1
      have e2 : decide (nw ≤ 32) = false := by simpa using h2
      have E := phid (show decide (winP nw) = false from decide_eq_false (fun h => h2 h.2))
      clear h1 h2
      go_enter Tryz.func137, Tryz.ntmps137
      go_wp2
      go_ret
      exact ⟨pretb E.out.symm, rfl⟩
  · have e1 : decide (2 ≤ nw) = false := by simpa using h1
    have E := phid (show decide (winP nw) = false from decide_eq_false (fun h => h1 h.1))
    clear h1
    go_enter Tryz.func137, Tryz.ntmps137
    go_wp2
    go_ret
    exact ⟨pretb E.out.symm, rfl⟩
theorem below8_eq (p : Px) (hb : p.bd) (nw : Int) : belowB [p.cwp, nw, p.pil, 16, p.bank, 17, p.flags, 16] 4 = decide (pmayP p nw) := by
  obtain ⟨⟨a, _⟩, ⟨b, _⟩, ⟨c, _⟩, ⟨d, _⟩⟩ := hb
  unfold belowB
  rw [Bool.eq_iff_iff, decide_eq_true_iff]
  unfold pmayP
  simp [show List.range 4 = [0, 1, 2, 3] from rfl]
  omega
theorem below2_eq (w nw : Int) : belowB [w, nw] 1 = decide (0 ≤ w ∧ w < nw) := by
  unfold belowB
  simp [show List.range 1 = [0] from rfl]
set_option maxRecDepth 100000 in
set_option maxHeartbeats 1000000 in
theorem pmay_any (p : Px) (hb : p.bd) (nw : Int) (w : World) : Calls Tryz.prog 187 #[p.agg, .int .i64 nw] w fun e w' => e = .returned (.bool (decide (pmayP p nw))) ∧ Below w.heap.size w w' := by
  have E := phid (below8_eq p hb nw)
  obtain ⟨cwp, pil, bank, flags⟩ := p
  obtain ⟨b0, b1, b2, b3⟩ := hb
  simp only at b0 b1 b2 b3
  go_enter Tryz.func187, Tryz.ntmps187
  go_wp2_with fail
  refine (below_any [cwp, nw, pil, 16, bank, 17, flags, 16] 4 _ (by omega) rfl _ ?_).mono ?_
  · intro k hk
    have : k = 0 ∨ k = 1 ∨ k = 2 ∨ k = 3 ∨ k = 4 ∨ k = 5 ∨ k = 6 ∨ k = 7 := by simp at hk; omega
    rcases this with rfl | rfl | rfl | rfl | rfl | rfl | rfl | rfl <;> simp [go_sem]
  rw [E.out]
  rintro e w' ⟨rfl, hB⟩
  have HB := phid hB
  clear hB
  go_wp2_with fail
  go_ret
  exact ⟨rfl, pbt (pbt (pbal _ _) (pbal _ _)) HB.out⟩
end Go.Proofs.YtajholbcpmjhiaaGreatDoor
/- Walks of math/bits.OnesCount32, and of TrailingZeros32 at powers of two; the plain law of the WIM. -/
namespace Go.Proofs.YtajholbcpmjhiaaGreatDoor
open Go.RowKit
theorem bmask (x : Int) (h0 : 0 ≤ x) (h1 : x < 4294967296) : bits .and .u32 x 255 = x % 256 := by
  rw [u32_and x 255 h0 h1 (by omega) (by omega)]
  rw [show ((x.toNat &&& (255 : Int).toNat : Nat) : Int) = ((x.toNat % 2 ^ 8 : Nat) : Int) from congrArg _ (Nat.and_two_pow_sub_one_eq_mod x.toNat 8)]
  omega
def onesS (x : Int) : Int := (Lib.pop8 (x / 16777216) + Lib.pop8 (x / 65536 % 256) + Lib.pop8 (x / 256 % 256) + Lib.pop8 (x % 256)) % 256
set_option maxRecDepth 100000 in
set_option maxHeartbeats 2000000 in
theorem ones_any (x : Int) (h0 : 0 ≤ x) (h1 : x < 4294967296) (w : World) : Calls Tryz.prog 189 #[.int .u32 x] w fun e w' => e = .returned (.int .i64 (onesS x)) ∧ Below w.heap.size w w' := by
  have a0 : 0 ≤ x / 16777216 ∧ x / 16777216 ≤ 255 := by omega
  have a1 : 0 ≤ x / 65536 ∧ x / 65536 < 4294967296 := by omega
  have a2 : 0 ≤ x / 256 ∧ x / 256 < 4294967296 := by omega
  have m1 := bmask (x / 65536) (by omega) (by omega)
  have m2 := bmask (x / 256) (by omega) (by omega)
  have m3 := bmask x h0 h1
  have c1 : 0 ≤ x / 65536 % 256 ∧ x / 65536 % 256 ≤ 255 := by omega
  have c2 : 0 ≤ x / 256 % 256 ∧ x / 256 % 256 ≤ 255 := by omega
  have c3 : 0 ≤ x % 256 ∧ x % 256 ≤ 255 := by omega
  go_enter Tryz.func189, Tryz.ntmps189
  go_wp2_with fail
  go_quiet (fail)
  go_wp2_with fail
  go_ret
  exact ⟨pret rfl, pdrew (Below.refl _ _) _⟩
def Bru (w : World) : Prop := ∀ i : Nat, i < 32 → w.cell? ⟨1, i, none⟩ = some (.int .u8 (([0, 1, 28, 2, 29, 14, 24, 3, 30, 22, 20, 15, 25, 17, 4, 8, 31, 27, 13, 23, 21, 19, 16, 7, 26, 12, 18, 6, 11, 5, 10, 9] : List Int).getD i 0))
theorem Bru.keep {w w' : World} (h : Bru w) (hb : Below w.heap.size w w') : Bru w' := fun i hi => by
  have h1 := h i hi
  exact (hb.cell (p := ⟨1, i, none⟩) (World.block_lt_of_cell? _ _ h1)).trans h1
set_option maxRecDepth 100000 in
set_option maxHeartbeats 2000000 in
theorem tz_0 (w : World) (hb : Bru w) : Calls Tryz.prog 190 #[.int .u32 1] w fun e w' => e = .returned (.int .i64 0) ∧ w = w' := by
  have hc : w.cell? ⟨1, 0, none⟩ = some (.int .u8 0) := hb 0 (by omega)
  clear hb
  have e1 : bits .and .u32 1 4294967295 = 1 := by decide +kernel
  go_enter Tryz.func190, Tryz.ntmps190
  go_wp2_with fail
  go_ret
  exact ⟨rfl, rfl⟩
set_option maxRecDepth 100000 in
set_option maxHeartbeats 2000000 in
theorem tz_1 (w : World) (hb : Bru w) : Calls Tryz.prog 190 #[.int .u32 2] w fun e w' => e = .returned (.int .i64 1) ∧ w = w' := by
  have hc : w.cell? ⟨1, 1, none⟩ = some (.int .u8 1) := hb 1 (by omega)
  clear hb
  have e1 : bits .and .u32 2 4294967294 = 2 := by decide +kernel
  go_enter Tryz.func190, Tryz.ntmps190
  go_wp2_with fail
  go_ret
  exact ⟨rfl, rfl⟩
set_option maxRecDepth 100000 in
set_option maxHeartbeats 2000000 in
theorem tz_2 (w : World) (hb : Bru w) : Calls Tryz.prog 190 #[.int .u32 4] w fun e w' => e = .returned (.int .i64 2) ∧ w = w' := by
  have hc : w.cell? ⟨1, 3, none⟩ = some (.int .u8 2) := hb 3 (by omega)
  clear hb
  have e1 : bits .and .u32 4 4294967292 = 4 := by decide +kernel
  go_enter Tryz.func190, Tryz.ntmps190
  go_wp2_with fail
  go_ret
  exact ⟨rfl, rfl⟩
set_option maxRecDepth 100000 in
set_option maxHeartbeats 2000000 in
theorem tz_3 (w : World) (hb : Bru w) : Calls Tryz.prog 190 #[.int .u32 8] w fun e w' => e = .returned (.int .i64 3) ∧ w = w' := by
  have hc : w.cell? ⟨1, 7, none⟩ = some (.int .u8 3) := hb 7 (by omega)
  clear hb
  have e1 : bits .and .u32 8 4294967288 = 8 := by decide +kernel
  go_enter Tryz.func190, Tryz.ntmps190
  go_wp2_with fail
  go_ret
  exact ⟨rfl, rfl⟩
set_option maxRecDepth 100000 in
set_option maxHeartbeats 2000000 in
theorem tz_4 (w : World) (hb : Bru w) : Calls Tryz.prog 190 #[.int .u32 16] w fun e w' => e = .returned (.int .i64 4) ∧ w = w' := by
  have hc : w.cell? ⟨1, 14, none⟩ = some (.int .u8 4) := hb 14 (by omega)
  clear hb
  have e1 : bits .and .u32 16 4294967280 = 16 := by decide +kernel
  go_enter Tryz.func190, Tryz.ntmps190
  go_wp2_with fail
  go_ret
  exact ⟨rfl, rfl⟩
set_option maxRecDepth 100000 in
set_option maxHeartbeats 2000000 in
theorem tz_5 (w : World) (hb : Bru w) : Calls Tryz.prog 190 #[.int .u32 32] w fun e w' => e = .returned (.int .i64 5) ∧ w = w' := by
  have hc : w.cell? ⟨1, 29, none⟩ = some (.int .u8 5) := hb 29 (by omega)
  clear hb
  have e1 : bits .and .u32 32 4294967264 = 32 := by decide +kernel
  go_enter Tryz.func190, Tryz.ntmps190
  go_wp2_with fail
  go_ret
  exact ⟨rfl, rfl⟩
set_option maxRecDepth 100000 in
set_option maxHeartbeats 2000000 in
theorem tz_6 (w : World) (hb : Bru w) : Calls Tryz.prog 190 #[.int .u32 64] w fun e w' => e = .returned (.int .i64 6) ∧ w = w' := by
  have hc : w.cell? ⟨1, 27, none⟩ = some (.int .u8 6) := hb 27 (by omega)
  clear hb
  have e1 : bits .and .u32 64 4294967232 = 64 := by decide +kernel
  go_enter Tryz.func190, Tryz.ntmps190
  go_wp2_with fail
  go_ret
  exact ⟨rfl, rfl⟩
set_option maxRecDepth 100000 in
set_option maxHeartbeats 2000000 in
theorem tz_7 (w : World) (hb : Bru w) : Calls Tryz.prog 190 #[.int .u32 128] w fun e w' => e = .returned (.int .i64 7) ∧ w = w' := by
  have hc : w.cell? ⟨1, 23, none⟩ = some (.int .u8 7) := hb 23 (by omega)
  clear hb
  have e1 : bits .and .u32 128 4294967168 = 128 := by decide +kernel
  go_enter Tryz.func190, Tryz.ntmps190
  go_wp2_with fail
  go_ret
  exact ⟨rfl, rfl⟩
set_option maxRecDepth 100000 in
set_option maxHeartbeats 2000000 in
theorem tz_8 (w : World) (hb : Bru w) : Calls Tryz.prog 190 #[.int .u32 256] w fun e w' => e = .returned (.int .i64 8) ∧ w = w' := by
  have hc : w.cell? ⟨1, 15, none⟩ = some (.int .u8 8) := hb 15 (by omega)
  clear hb
  have e1 : bits .and .u32 256 4294967040 = 256 := by decide +kernel
  go_enter Tryz.func190, Tryz.ntmps190
  go_wp2_with fail
  go_ret
  exact ⟨rfl, rfl⟩
set_option maxRecDepth 100000 in
set_option maxHeartbeats 2000000 in
theorem tz_9 (w : World) (hb : Bru w) : Calls Tryz.prog 190 #[.int .u32 512] w fun e w' => e = .returned (.int .i64 9) ∧ w = w' := by
  have hc : w.cell? ⟨1, 31, none⟩ = some (.int .u8 9) := hb 31 (by omega)
  clear hb
  have e1 : bits .and .u32 512 4294966784 = 512 := by decide +kernel
  go_enter Tryz.func190, Tryz.ntmps190
  go_wp2_with fail
  go_ret
  exact ⟨rfl, rfl⟩
set_option maxRecDepth 100000 in
set_option maxHeartbeats 2000000 in
theorem tz_10 (w : World) (hb : Bru w) : Calls Tryz.prog 190 #[.int .u32 1024] w fun e w' => e = .returned (.int .i64 10) ∧ w = w' := by
  have hc : w.cell? ⟨1, 30, none⟩ = some (.int .u8 10) := hb 30 (by omega)
  clear hb
  have e1 : bits .and .u32 1024 4294966272 = 1024 := by decide +kernel
  go_enter Tryz.func190, Tryz.ntmps190
  go_wp2_with fail
  go_ret
  exact ⟨rfl, rfl⟩
set_option maxRecDepth 100000 in
set_option maxHeartbeats 2000000 in
theorem tz_11 (w : World) (hb : Bru w) : Calls Tryz.prog 190 #[.int .u32 2048] w fun e w' => e = .returned (.int .i64 11) ∧ w = w' := by
  have hc : w.cell? ⟨1, 28, none⟩ = some (.int .u8 11) := hb 28 (by omega)
  clear hb
  have e1 : bits .and .u32 2048 4294965248 = 2048 := by decide +kernel
  go_enter Tryz.func190, Tryz.ntmps190
  go_wp2_with fail
  go_ret
  exact ⟨rfl, rfl⟩
set_option maxRecDepth 100000 in
set_option maxHeartbeats 2000000 in
theorem tz_12 (w : World) (hb : Bru w) : Calls Tryz.prog 190 #[.int .u32 4096] w fun e w' => e = .returned (.int .i64 12) ∧ w = w' := by
  have hc : w.cell? ⟨1, 25, none⟩ = some (.int .u8 12) := hb 25 (by omega)
  clear hb
  have e1 : bits .and .u32 4096 4294963200 = 4096 := by decide +kernel
  go_enter Tryz.func190, Tryz.ntmps190
  go_wp2_with fail
  go_ret
  exact ⟨rfl, rfl⟩
set_option maxRecDepth 100000 in
set_option maxHeartbeats 2000000 in
theorem tz_13 (w : World) (hb : Bru w) : Calls Tryz.prog 190 #[.int .u32 8192] w fun e w' => e = .returned (.int .i64 13) ∧ w = w' := by
  have hc : w.cell? ⟨1, 18, none⟩ = some (.int .u8 13) := hb 18 (by omega)
  clear hb
  have e1 : bits .and .u32 8192 4294959104 = 8192 := by decide +kernel
  go_enter Tryz.func190, Tryz.ntmps190
  go_wp2_with fail
  go_ret
  exact ⟨rfl, rfl⟩
set_option maxRecDepth 100000 in
set_option maxHeartbeats 2000000 in
theorem tz_14 (w : World) (hb : Bru w) : Calls Tryz.prog 190 #[.int .u32 16384] w fun e w' => e = .returned (.int .i64 14) ∧ w = w' := by
  have hc : w.cell? ⟨1, 5, none⟩ = some (.int .u8 14) := hb 5 (by omega)
  clear hb
  have e1 : bits .and .u32 16384 4294950912 = 16384 := by decide +kernel
  go_enter Tryz.func190, Tryz.ntmps190
  go_wp2_with fail
  go_ret
  exact ⟨rfl, rfl⟩
set_option maxRecDepth 100000 in
set_option maxHeartbeats 2000000 in
theorem tz_15 (w : World) (hb : Bru w) : Calls Tryz.prog 190 #[.int .u32 32768] w fun e w' => e = .returned (.int .i64 15) ∧ w = w' := by
  have hc : w.cell? ⟨1, 11, none⟩ = some (.int .u8 15) := hb 11 (by omega)
  clear hb
  have e1 : bits .and .u32 32768 4294934528 = 32768 := by decide +kernel
  go_enter Tryz.func190, Tryz.ntmps190
  go_wp2_with fail
  go_ret
  exact ⟨rfl, rfl⟩
set_option maxRecDepth 100000 in
set_option maxHeartbeats 2000000 in
theorem tz_16 (w : World) (hb : Bru w) : Calls Tryz.prog 190 #[.int .u32 65536] w fun e w' => e = .returned (.int .i64 16) ∧ w = w' := by
  have hc : w.cell? ⟨1, 22, none⟩ = some (.int .u8 16) := hb 22 (by omega)
  clear hb
  have e1 : bits .and .u32 65536 4294901760 = 65536 := by decide +kernel
  go_enter Tryz.func190, Tryz.ntmps190
  go_wp2_with fail
  go_ret
  exact ⟨rfl, rfl⟩
set_option maxRecDepth 100000 in
set_option maxHeartbeats 2000000 in
theorem tz_17 (w : World) (hb : Bru w) : Calls Tryz.prog 190 #[.int .u32 131072] w fun e w' => e = .returned (.int .i64 17) ∧ w = w' := by
  have hc : w.cell? ⟨1, 13, none⟩ = some (.int .u8 17) := hb 13 (by omega)
  clear hb
  have e1 : bits .and .u32 131072 4294836224 = 131072 := by decide +kernel
  go_enter Tryz.func190, Tryz.ntmps190
  go_wp2_with fail
  go_ret
  exact ⟨rfl, rfl⟩
set_option maxRecDepth 100000 in
set_option maxHeartbeats 2000000 in
theorem tz_18 (w : World) (hb : Bru w) : Calls Tryz.prog 190 #[.int .u32 262144] w fun e w' => e = .returned (.int .i64 18) ∧ w = w' := by
  have hc : w.cell? ⟨1, 26, none⟩ = some (.int .u8 18) := hb 26 (by omega)
  clear hb
  have e1 : bits .and .u32 262144 4294705152 = 262144 := by decide +kernel
  go_enter Tryz.func190, Tryz.ntmps190
  go_wp2_with fail
  go_ret
  exact ⟨rfl, rfl⟩
set_option maxRecDepth 100000 in
set_option maxHeartbeats 2000000 in
theorem tz_19 (w : World) (hb : Bru w) : Calls Tryz.prog 190 #[.int .u32 524288] w fun e w' => e = .returned (.int .i64 19) ∧ w = w' := by
  have hc : w.cell? ⟨1, 21, none⟩ = some (.int .u8 19) := hb 21 (by omega)
  clear hb
  have e1 : bits .and .u32 524288 4294443008 = 524288 := by decide +kernel
  go_enter Tryz.func190, Tryz.ntmps190
  go_wp2_with fail
  go_ret
  exact ⟨rfl, rfl⟩
set_option maxRecDepth 100000 in
set_option maxHeartbeats 2000000 in
theorem tz_20 (w : World) (hb : Bru w) : Calls Tryz.prog 190 #[.int .u32 1048576] w fun e w' => e = .returned (.int .i64 20) ∧ w = w' := by
  have hc : w.cell? ⟨1, 10, none⟩ = some (.int .u8 20) := hb 10 (by omega)
  clear hb
  have e1 : bits .and .u32 1048576 4293918720 = 1048576 := by decide +kernel
  go_enter Tryz.func190, Tryz.ntmps190
  go_wp2_with fail
  go_ret
  exact ⟨rfl, rfl⟩
set_option maxRecDepth 100000 in
set_option maxHeartbeats 2000000 in
theorem tz_21 (w : World) (hb : Bru w) : Calls Tryz.prog 190 #[.int .u32 2097152] w fun e w' => e = .returned (.int .i64 21) ∧ w = w' := by
  have hc : w.cell? ⟨1, 20, none⟩ = some (.int .u8 21) := hb 20 (by omega)
  clear hb
  have e1 : bits .and .u32 2097152 4292870144 = 2097152 := by decide +kernel
  go_enter Tryz.func190, Tryz.ntmps190
  go_wp2_with fail
  go_ret
  exact ⟨rfl, rfl⟩
set_option maxRecDepth 100000 in
set_option maxHeartbeats 2000000 in
theorem tz_22 (w : World) (hb : Bru w) : Calls Tryz.prog 190 #[.int .u32 4194304] w fun e w' => e = .returned (.int .i64 22) ∧ w = w' := by
  have hc : w.cell? ⟨1, 9, none⟩ = some (.int .u8 22) := hb 9 (by omega)
  clear hb
  have e1 : bits .and .u32 4194304 4290772992 = 4194304 := by decide +kernel
  go_enter Tryz.func190, Tryz.ntmps190
  go_wp2_with fail
  go_ret
  exact ⟨rfl, rfl⟩
set_option maxRecDepth 100000 in
set_option maxHeartbeats 2000000 in
theorem tz_23 (w : World) (hb : Bru w) : Calls Tryz.prog 190 #[.int .u32 8388608] w fun e w' => e = .returned (.int .i64 23) ∧ w = w' := by
  have hc : w.cell? ⟨1, 19, none⟩ = some (.int .u8 23) := hb 19 (by omega)
  clear hb
  have e1 : bits .and .u32 8388608 4286578688 = 8388608 := by decide +kernel
  go_enter Tryz.func190, Tryz.ntmps190
  go_wp2_with fail
  go_ret
  exact ⟨rfl, rfl⟩
set_option maxRecDepth 100000 in
set_option maxHeartbeats 2000000 in
theorem tz_24 (w : World) (hb : Bru w) : Calls Tryz.prog 190 #[.int .u32 16777216] w fun e w' => e = .returned (.int .i64 24) ∧ w = w' := by
  have hc : w.cell? ⟨1, 6, none⟩ = some (.int .u8 24) := hb 6 (by omega)
  clear hb
  have e1 : bits .and .u32 16777216 4278190080 = 16777216 := by decide +kernel
  go_enter Tryz.func190, Tryz.ntmps190
  go_wp2_with fail
  go_ret
  exact ⟨rfl, rfl⟩
set_option maxRecDepth 100000 in
set_option maxHeartbeats 2000000 in
theorem tz_25 (w : World) (hb : Bru w) : Calls Tryz.prog 190 #[.int .u32 33554432] w fun e w' => e = .returned (.int .i64 25) ∧ w = w' := by
  have hc : w.cell? ⟨1, 12, none⟩ = some (.int .u8 25) := hb 12 (by omega)
  clear hb
  have e1 : bits .and .u32 33554432 4261412864 = 33554432 := by decide +kernel
  go_enter Tryz.func190, Tryz.ntmps190
  go_wp2_with fail
  go_ret
  exact ⟨rfl, rfl⟩
set_option maxRecDepth 100000 in
set_option maxHeartbeats 2000000 in
theorem tz_26 (w : World) (hb : Bru w) : Calls Tryz.prog 190 #[.int .u32 67108864] w fun e w' => e = .returned (.int .i64 26) ∧ w = w' := by
  have hc : w.cell? ⟨1, 24, none⟩ = some (.int .u8 26) := hb 24 (by omega)
  clear hb
  have e1 : bits .and .u32 67108864 4227858432 = 67108864 := by decide +kernel
  go_enter Tryz.func190, Tryz.ntmps190
  go_wp2_with fail
  go_ret
  exact ⟨rfl, rfl⟩
set_option maxRecDepth 100000 in
set_option maxHeartbeats 2000000 in
theorem tz_27 (w : World) (hb : Bru w) : Calls Tryz.prog 190 #[.int .u32 134217728] w fun e w' => e = .returned (.int .i64 27) ∧ w = w' := by
  have hc : w.cell? ⟨1, 17, none⟩ = some (.int .u8 27) := hb 17 (by omega)
  clear hb
  have e1 : bits .and .u32 134217728 4160749568 = 134217728 := by decide +kernel
  go_enter Tryz.func190, Tryz.ntmps190
  go_wp2_with fail
  go_ret
  exact ⟨rfl, rfl⟩
set_option maxRecDepth 100000 in
set_option maxHeartbeats 2000000 in
theorem tz_28 (w : World) (hb : Bru w) : Calls Tryz.prog 190 #[.int .u32 268435456] w fun e w' => e = .returned (.int .i64 28) ∧ w = w' := by
  have hc : w.cell? ⟨1, 2, none⟩ = some (.int .u8 28) := hb 2 (by omega)
  clear hb
  have e1 : bits .and .u32 268435456 4026531840 = 268435456 := by decide +kernel
  go_enter Tryz.func190, Tryz.ntmps190
  go_wp2_with fail
  go_ret
  exact ⟨rfl, rfl⟩
set_option maxRecDepth 100000 in
set_option maxHeartbeats 2000000 in
theorem tz_29 (w : World) (hb : Bru w) : Calls Tryz.prog 190 #[.int .u32 536870912] w fun e w' => e = .returned (.int .i64 29) ∧ w = w' := by
  have hc : w.cell? ⟨1, 4, none⟩ = some (.int .u8 29) := hb 4 (by omega)
  clear hb
  have e1 : bits .and .u32 536870912 3758096384 = 536870912 := by decide +kernel
  go_enter Tryz.func190, Tryz.ntmps190
  go_wp2_with fail
  go_ret
  exact ⟨rfl, rfl⟩
set_option maxRecDepth 100000 in
set_option maxHeartbeats 2000000 in
theorem tz_30 (w : World) (hb : Bru w) : Calls Tryz.prog 190 #[.int .u32 1073741824] w fun e w' => e = .returned (.int .i64 30) ∧ w = w' := by
  have hc : w.cell? ⟨1, 8, none⟩ = some (.int .u8 30) := hb 8 (by omega)
  clear hb
  have e1 : bits .and .u32 1073741824 3221225472 = 1073741824 := by decide +kernel
  go_enter Tryz.func190, Tryz.ntmps190
  go_wp2_with fail
  go_ret
  exact ⟨rfl, rfl⟩
set_option maxRecDepth 100000 in
set_option maxHeartbeats 2000000 in
theorem tz_31 (w : World) (hb : Bru w) : Calls Tryz.prog 190 #[.int .u32 2147483648] w fun e w' => e = .returned (.int .i64 31) ∧ w = w' := by
  have hc : w.cell? ⟨1, 16, none⟩ = some (.int .u8 31) := hb 16 (by omega)
  clear hb
  have e1 : bits .and .u32 2147483648 2147483648 = 2147483648 := by decide +kernel
  go_enter Tryz.func190, Tryz.ntmps190
  go_wp2_with fail
  go_ret
  exact ⟨rfl, rfl⟩
theorem tz_any (k : Nat) (hk : k < 32) (w : World) (hb : Bru w) : Calls Tryz.prog 190 #[.int .u32 (2 ^ k)] w fun e w' => e = .returned (.int .i64 k) ∧ w = w' := by
  match k, hk with
  | 0, _ => exact tz_0 w hb
  | 1, _ => exact tz_1 w hb
  | 2, _ => exact tz_2 w hb
  | 3, _ => exact tz_3 w hb
  | 4, _ => exact tz_4 w hb
  | 5, _ => exact tz_5 w hb
  | 6, _ => exact tz_6 w hb
  | 7, _ => exact tz_7 w hb
  | 8, _ => exact tz_8 w hb
  | 9, _ => exact tz_9 w hb
  | 10, _ => exact tz_10 w hb
  | 11, _ => exact tz_11 w hb
  | 12, _ => exact tz_12 w hb
  | 13, _ => exact tz_13 w hb
  | 14, _ => exact tz_14 w hb
  | 15, _ => exact tz_15 w hb
  | 16, _ => exact tz_16 w hb
  | 17, _ => exact tz_17 w hb
  | 18, _ => exact tz_18 w hb
  | 19, _ => exact tz_19 w hb
  | 20, _ => exact tz_20 w hb
  | 21, _ => exact tz_21 w hb
  | 22, _ => exact tz_22 w hb
  | 23, _ => exact tz_23 w hb
  | 24, _ => exact tz_24 w hb
  | 25, _ => exact tz_25 w hb
  | 26, _ => exact tz_26 w hb
  | 27, _ => exact tz_27 w hb
  | 28, _ => exact tz_28 w hb
  | 29, _ => exact tz_29 w hb
  | 30, _ => exact tz_30 w hb
  | 31, _ => exact tz_31 w hb
  | (k + 32), hk => omega
theorem pop_facts : ∀ n : Fin 256, 0 ≤ Lib.pop8 (n.val : Int) ∧ Lib.pop8 (n.val : Int) ≤ 8 ∧ (Lib.pop8 (n.val : Int) = 0 → n.val = 0) ∧ (Lib.pop8 (n.val : Int) = 1 → n.val = 1 ∨ n.val = 2 ∨ n.val = 4 ∨ n.val = 8 ∨ n.val = 16 ∨ n.val = 32 ∨ n.val = 64 ∨ n.val = 128) := by decide +kernel
theorem pop_fact (b : Int) (h0 : 0 ≤ b) (h1 : b < 256) : 0 ≤ Lib.pop8 b ∧ Lib.pop8 b ≤ 8 ∧ (Lib.pop8 b = 0 → b = 0) ∧ (Lib.pop8 b = 1 → b = 1 ∨ b = 2 ∨ b = 4 ∨ b = 8 ∨ b = 16 ∨ b = 32 ∨ b = 64 ∨ b = 128) := by
  obtain ⟨n, rfl⟩ := Int.eq_ofNat_of_zero_le h0
  have h := pop_facts ⟨n, by omega⟩
  simp only at h
  refine ⟨h.1, h.2.1, fun e => by have := h.2.2.1 e; omega, fun e => by have := h.2.2.2 e; omega⟩
theorem ones_pow : ∀ k : Fin 32, onesS (2 ^ k.val) = 1 := by decide +kernel
theorem pow_list (x : Int) (h : x = 1 ∨ x = 2 ∨ x = 4 ∨ x = 8 ∨ x = 16 ∨ x = 32 ∨ x = 64 ∨ x = 128) : ∃ k : Nat, k < 8 ∧ x = 2 ^ k := by
  rcases h with h | h | h | h | h | h | h | h
  · exact ⟨0, by omega, h⟩
  · exact ⟨1, by omega, h⟩
  · exact ⟨2, by omega, h⟩
  · exact ⟨3, by omega, h⟩
  · exact ⟨4, by omega, h⟩
  · exact ⟨5, by omega, h⟩
  · exact ⟨6, by omega, h⟩
  · exact ⟨7, by omega, h⟩
theorem ones_one {x : Int} (h0 : 0 ≤ x) (h1 : x < 4294967296) (h : onesS x = 1) : ∃ k : Nat, k < 32 ∧ x = 2 ^ k := by
  have p3 := pop_fact (x / 16777216) (by omega) (by omega)
  have p2 := pop_fact (x / 65536 % 256) (by omega) (by omega)
  have p1 := pop_fact (x / 256 % 256) (by omega) (by omega)
  have p0 := pop_fact (x % 256) (by omega) (by omega)
  unfold onesS at h
  generalize Lib.pop8 (x / 16777216) = a3 at *
  generalize Lib.pop8 (x / 65536 % 256) = a2 at *
  generalize Lib.pop8 (x / 256 % 256) = a1 at *
  generalize Lib.pop8 (x % 256) = a0 at *
  obtain ⟨l3, u3, z3, o3⟩ := p3
  obtain ⟨l2, u2, z2, o2⟩ := p2
  obtain ⟨l1, u1, z1, o1⟩ := p1
  obtain ⟨l0, u0, z0, o0⟩ := p0
  have hs : a3 + a2 + a1 + a0 = 1 := by omega
  have hc : (a3 = 1 ∧ a2 = 0 ∧ a1 = 0 ∧ a0 = 0) ∨ (a3 = 0 ∧ a2 = 1 ∧ a1 = 0 ∧ a0 = 0) ∨ (a3 = 0 ∧ a2 = 0 ∧ a1 = 1 ∧ a0 = 0) ∨ (a3 = 0 ∧ a2 = 0 ∧ a1 = 0 ∧ a0 = 1) := by omega
  rcases hc with ⟨e3, e2, e1, e0⟩ | ⟨e3, e2, e1, e0⟩ | ⟨e3, e2, e1, e0⟩ | ⟨e3, e2, e1, e0⟩
  · obtain ⟨k, hk, hx⟩ := pow_list _ (o3 e3)
    have q2 := z2 e2; have q1 := z1 e1; have q0 := z0 e0
    exact ⟨k + 24, by omega, by rw [Int.pow_add, ← hx]; omega⟩
  · obtain ⟨k, hk, hx⟩ := pow_list _ (o2 e2)
    have q3 := z3 e3; have q1 := z1 e1; have q0 := z0 e0
    exact ⟨k + 16, by omega, by rw [Int.pow_add, ← hx]; omega⟩
  · obtain ⟨k, hk, hx⟩ := pow_list _ (o1 e1)
    have q3 := z3 e3; have q2 := z2 e2; have q0 := z0 e0
    exact ⟨k + 8, by omega, by rw [Int.pow_add, ← hx]; omega⟩
  · obtain ⟨k, hk, hx⟩ := pow_list _ (o0 e0)
    have q3 := z3 e3; have q2 := z2 e2; have q1 := z1 e1
    exact ⟨k, by omega, by rw [← hx]; omega⟩
end Go.Proofs.YtajholbcpmjhiaaGreatDoor
