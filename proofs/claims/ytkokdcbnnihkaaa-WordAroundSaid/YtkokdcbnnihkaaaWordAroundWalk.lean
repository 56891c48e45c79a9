/- The walk of muntinlaw01.WordAround: which word is first. -/
import Derived.Test.YtkokdcbnnihkaaaWordHead
import Derived.Handy
namespace Go.Proofs.Ytkokdcbnnihkaaa
open Go.RowKit
set_option linter.unusedVariables false

theorem pow_le_pow_r {b : Int} (hb : 1 ≤ b) {m n : Nat} (h : m ≤ n) : b ^ m ≤ b ^ n := by
  obtain ⟨k, rfl⟩ := Nat.exists_eq_add_of_le h
  rw [Int.pow_add]
  have h1 : 0 < b ^ m := Int.pow_pos (by omega)
  have h2 : 0 < b ^ k := Int.pow_pos (by omega)
  have := Int.mul_le_mul_of_nonneg_left (show 1 ≤ b ^ k by omega) (show 0 ≤ b ^ m by omega)
  omega
theorem keepc {a b : World} {p : Addr} {v : Value} (hb : Below a.heap.size a b) (h : a.cell? p = some v) : b.cell? p = some v := (hb.cell (World.block_lt_of_cell? _ _ h)).trans h
theorem comm0 (a b : Int) : doW 0 b a = doW 0 a b := by show u32 (b + a) = u32 (a + b); rw [Int.add_comm]
theorem comm2 (a b : Int) : doW 2 b a = doW 2 a b := by show u32 (b * a) = u32 (a * b); rw [Int.mul_comm]
theorem comm5 (a b : Int) : doW 5 b a = doW 5 a b := by show andS b a = andS a b; unfold andS; rw [Nat.and_comm]
theorem comm6 (a b : Int) : doW 6 b a = doW 6 a b := by show orS b a = orS a b; unfold orS; rw [Nat.or_comm]
theorem comm7 (a b : Int) : doW 7 b a = doW 7 a b := by show xorS b a = xorS a b; unfold xorS; rw [Nat.xor_comm]
theorem comm13 (a b : Int) : doW 13 b a = doW 13 a b := by show truthS (decide (b = a)) = truthS (decide (a = b)); rw [show (decide (b = a)) = decide (a = b) from by rw [Bool.eq_iff_iff]; simp; omega]
theorem assoc0 (a b c : Int) : doW 0 a (doW 0 b c) = doW 0 (doW 0 a b) c := by show u32 (a + u32 (b + c)) = u32 (u32 (a + b) + c); unfold u32; omega
theorem assoc2 (a b c : Int) : doW 2 a (doW 2 b c) = doW 2 (doW 2 a b) c := by
  show u32 (a * u32 (b * c)) = u32 (u32 (a * b) * c); unfold u32
  rw [Int.mul_emod, Int.emod_emod, ← Int.mul_emod, Int.mul_emod (a * b % 4294967296) c, Int.emod_emod, ← Int.mul_emod, Int.mul_assoc]
theorem assoc5 (a b c : Int) : doW 5 a (doW 5 b c) = doW 5 (doW 5 a b) c := by show andS a (andS b c) = andS (andS a b) c; unfold andS; simp only [Int.toNat_natCast]; rw [Nat.and_assoc]
theorem assoc6 (a b c : Int) : doW 6 a (doW 6 b c) = doW 6 (doW 6 a b) c := by show orS a (orS b c) = orS (orS a b) c; unfold orS; simp only [Int.toNat_natCast]; rw [Nat.or_assoc]
theorem assoc7 (a b c : Int) : doW 7 a (doW 7 b c) = doW 7 (doW 7 a b) c := by show xorS a (xorS b c) = xorS (xorS a b) c; unfold xorS; simp only [Int.toNat_natCast]; rw [Nat.xor_assoc]
def opAt (k : Nat) : Int := match k with | 0 => 0 | 1 => 2 | 2 => 5 | 3 => 6 | 4 => 7 | _ => 13
def RowsThere (B : Nat) (wr : World) : Prop := ∀ k, k < 6 → wr.cell? ⟨B, k, none⟩ = some (.int .u8 (opAt k))
theorem RowsThere.keep {B : Nat} {a b : World} (h : RowsThere B a) (hb : Below a.heap.size a b) : RowsThere B b := fun k hk => keepc hb (h k hk)
theorem RowsThere.new (w : World) : RowsThere w.heap.size (w.alloc (.cells #[.int .u8 0, .int .u8 2, .int .u8 5, .int .u8 6, .int .u8 7, .int .u8 13] 5)) := by
  intro k hk
  have hc : k = 0 ∨ k = 1 ∨ k = 2 ∨ k = 3 ∨ k = 4 ∨ k = 5 := by omega
  rcases hc with rfl | rfl | rfl | rfl | rfl | rfl <;> simp [opAt]

set_option maxRecDepth 100000 in
set_option maxHeartbeats 2000000 in
theorem walk_WordAround (a0 a1 a2 : Int) (w0 : (Lit.int .u32 a0).wf = true) (w1 : (Lit.int .u32 a1).wf = true) (w2 : (Lit.int .u32 a2).wf = true) (w : World) :
    Calls Try.prog 11 #[.int .u32 a0, .int .u32 a1, .int .u32 a2] w fun e w' => e = .returned (.bool true) ∧ Below w.heap.size w w' := by
  have b1 := int_u32 w0
  have b2 := int_u32 w1
  have b3 := int_u32 w2
  clear w0 w1 w2
  go_enter Try.func11, Try.ntmps11
  go_wp2_with fail
  go_loopw [8] (fun i wr => ∃ k : Nat, k ≤ 6 ∧ i = .int .i64 k ∧ RowsThere w.heap.size wr ∧ Below w.heap.size w wr) (fun i _ => 6 - (intOf i).toNat)
  case atStart => exact ⟨0, Nat.zero_le _, rfl, RowsThere.new w, (Below.refl _ _).alloc (Nat.le_refl _) _⟩
  case round =>
    obtain ⟨k, hk, rfl, hrow, hbl⟩ := hrel
    have hcase : k = 0 ∨ k = 1 ∨ k = 2 ∨ k = 3 ∨ k = 4 ∨ k = 5 ∨ k = 6 := by omega
    rcases hcase with rfl | rfl | rfl | rfl | rfl | rfl | rfl
    · have c0 : wr.cell? ⟨w.heap.size, 0, none⟩ = some (.int .u8 0) := hrow 0 (by omega)
      go_wp2_with fail
      refine (do0_any a0 a1 b1.1 b1.2 b2.1 b2.2 _).mono ?_
      rintro e w1 ⟨rfl, hb1⟩
      have c1 := keepc hb1 c0
      go_wp2_with fail
      refine (do0_any a1 a0 b2.1 b2.2 b1.1 b1.2 _).mono ?_
      rw [comm0]
      rintro e w2 ⟨rfl, hb2⟩
      have c2 := keepc hb2 c1
      go_wp2_with fail
      have X := doW_bd 0 b1.1 b1.2 b2.2
      have Y := doW_bd 0 b2.1 b2.2 b3.2
      refine (do0_any (doW 0 a0 a1) a2 X.1 X.2 b3.1 b3.2 _).mono ?_
      rintro e w3 ⟨rfl, hb3⟩
      have c3 := keepc hb3 c2
      go_wp2_with fail
      refine (do0_any a1 a2 b2.1 b2.2 b3.1 b3.2 _).mono ?_
      rintro e w4 ⟨rfl, hb4⟩
      have c4 := keepc hb4 c3
      go_wp2_with fail
      refine (do0_any a0 (doW 0 a1 a2) b1.1 b1.2 Y.1 Y.2 _).mono ?_
      rw [assoc0]
      rintro e w5 ⟨rfl, hb5⟩
      go_wp2_with fail
      have hb := bt (bt (bt (bt hb1 hb2) hb3) hb4) hb5
      go_roundw
      case rel => exact ⟨1, by omega, by go_num, hrow.keep hb, hbl.trans (hb.mono hbl.size)⟩
      case measure => simp [intOf] <;> omega
    · have c0 : wr.cell? ⟨w.heap.size, 1, none⟩ = some (.int .u8 2) := hrow 1 (by omega)
      go_wp2_with fail
      refine (do2_any a0 a1 b1.1 b1.2 b2.1 b2.2 _).mono ?_
      rintro e w1 ⟨rfl, hb1⟩
      have c1 := keepc hb1 c0
      go_wp2_with fail
      refine (do2_any a1 a0 b2.1 b2.2 b1.1 b1.2 _).mono ?_
      rw [comm2]
      rintro e w2 ⟨rfl, hb2⟩
      have c2 := keepc hb2 c1
      go_wp2_with fail
      have X := doW_bd 2 b1.1 b1.2 b2.2
      have Y := doW_bd 2 b2.1 b2.2 b3.2
      refine (do2_any (doW 2 a0 a1) a2 X.1 X.2 b3.1 b3.2 _).mono ?_
      rintro e w3 ⟨rfl, hb3⟩
      have c3 := keepc hb3 c2
      go_wp2_with fail
      refine (do2_any a1 a2 b2.1 b2.2 b3.1 b3.2 _).mono ?_
      rintro e w4 ⟨rfl, hb4⟩
      have c4 := keepc hb4 c3
      go_wp2_with fail
      refine (do2_any a0 (doW 2 a1 a2) b1.1 b1.2 Y.1 Y.2 _).mono ?_
      rw [assoc2]
      rintro e w5 ⟨rfl, hb5⟩
      go_wp2_with fail
      have hb := bt (bt (bt (bt hb1 hb2) hb3) hb4) hb5
      go_roundw
      case rel => exact ⟨2, by omega, by go_num, hrow.keep hb, hbl.trans (hb.mono hbl.size)⟩
      case measure => simp [intOf] <;> omega
    · have c0 : wr.cell? ⟨w.heap.size, 2, none⟩ = some (.int .u8 5) := hrow 2 (by omega)
      go_wp2_with fail
      refine (do5_any a0 a1 b1.1 b1.2 b2.1 b2.2 _).mono ?_
      rintro e w1 ⟨rfl, hb1⟩
      have c1 := keepc hb1 c0
      go_wp2_with fail
      refine (do5_any a1 a0 b2.1 b2.2 b1.1 b1.2 _).mono ?_
      rw [comm5]
      rintro e w2 ⟨rfl, hb2⟩
      have c2 := keepc hb2 c1
      go_wp2_with fail
      have X := doW_bd 5 b1.1 b1.2 b2.2
      have Y := doW_bd 5 b2.1 b2.2 b3.2
      refine (do5_any (doW 5 a0 a1) a2 X.1 X.2 b3.1 b3.2 _).mono ?_
      rintro e w3 ⟨rfl, hb3⟩
      have c3 := keepc hb3 c2
      go_wp2_with fail
      refine (do5_any a1 a2 b2.1 b2.2 b3.1 b3.2 _).mono ?_
      rintro e w4 ⟨rfl, hb4⟩
      have c4 := keepc hb4 c3
      go_wp2_with fail
      refine (do5_any a0 (doW 5 a1 a2) b1.1 b1.2 Y.1 Y.2 _).mono ?_
      rw [assoc5]
      rintro e w5 ⟨rfl, hb5⟩
      go_wp2_with fail
      have hb := bt (bt (bt (bt hb1 hb2) hb3) hb4) hb5
      go_roundw
      case rel => exact ⟨3, by omega, by go_num, hrow.keep hb, hbl.trans (hb.mono hbl.size)⟩
      case measure => simp [intOf] <;> omega
    · have c0 : wr.cell? ⟨w.heap.size, 3, none⟩ = some (.int .u8 6) := hrow 3 (by omega)
      go_wp2_with fail
      refine (do6_any a0 a1 b1.1 b1.2 b2.1 b2.2 _).mono ?_
      rintro e w1 ⟨rfl, hb1⟩
      have c1 := keepc hb1 c0
      go_wp2_with fail
      refine (do6_any a1 a0 b2.1 b2.2 b1.1 b1.2 _).mono ?_
      rw [comm6]
      rintro e w2 ⟨rfl, hb2⟩
      have c2 := keepc hb2 c1
      go_wp2_with fail
      have X := doW_bd 6 b1.1 b1.2 b2.2
      have Y := doW_bd 6 b2.1 b2.2 b3.2
      refine (do6_any (doW 6 a0 a1) a2 X.1 X.2 b3.1 b3.2 _).mono ?_
      rintro e w3 ⟨rfl, hb3⟩
      have c3 := keepc hb3 c2
      go_wp2_with fail
      refine (do6_any a1 a2 b2.1 b2.2 b3.1 b3.2 _).mono ?_
      rintro e w4 ⟨rfl, hb4⟩
      have c4 := keepc hb4 c3
      go_wp2_with fail
      refine (do6_any a0 (doW 6 a1 a2) b1.1 b1.2 Y.1 Y.2 _).mono ?_
      rw [assoc6]
      rintro e w5 ⟨rfl, hb5⟩
      go_wp2_with fail
      have hb := bt (bt (bt (bt hb1 hb2) hb3) hb4) hb5
      go_roundw
      case rel => exact ⟨4, by omega, by go_num, hrow.keep hb, hbl.trans (hb.mono hbl.size)⟩
      case measure => simp [intOf] <;> omega
    · have c0 : wr.cell? ⟨w.heap.size, 4, none⟩ = some (.int .u8 7) := hrow 4 (by omega)
      go_wp2_with fail
      refine (do7_any a0 a1 b1.1 b1.2 b2.1 b2.2 _).mono ?_
      rintro e w1 ⟨rfl, hb1⟩
      have c1 := keepc hb1 c0
      go_wp2_with fail
      refine (do7_any a1 a0 b2.1 b2.2 b1.1 b1.2 _).mono ?_
      rw [comm7]
      rintro e w2 ⟨rfl, hb2⟩
      have c2 := keepc hb2 c1
      go_wp2_with fail
      have X := doW_bd 7 b1.1 b1.2 b2.2
      have Y := doW_bd 7 b2.1 b2.2 b3.2
      refine (do7_any (doW 7 a0 a1) a2 X.1 X.2 b3.1 b3.2 _).mono ?_
      rintro e w3 ⟨rfl, hb3⟩
      have c3 := keepc hb3 c2
      go_wp2_with fail
      refine (do7_any a1 a2 b2.1 b2.2 b3.1 b3.2 _).mono ?_
      rintro e w4 ⟨rfl, hb4⟩
      have c4 := keepc hb4 c3
      go_wp2_with fail
      refine (do7_any a0 (doW 7 a1 a2) b1.1 b1.2 Y.1 Y.2 _).mono ?_
      rw [assoc7]
      rintro e w5 ⟨rfl, hb5⟩
      go_wp2_with fail
      have hb := bt (bt (bt (bt hb1 hb2) hb3) hb4) hb5
      go_roundw
      case rel => exact ⟨5, by omega, by go_num, hrow.keep hb, hbl.trans (hb.mono hbl.size)⟩
      case measure => simp [intOf] <;> omega
    · have c0 : wr.cell? ⟨w.heap.size, 5, none⟩ = some (.int .u8 13) := hrow 5 (by omega)
      go_wp2_with fail
      refine (do13_any a0 a1 b1.1 b1.2 b2.1 b2.2 _).mono ?_
      rintro e w1 ⟨rfl, hb1⟩
      have c1 := keepc hb1 c0
      go_wp2_with fail
      refine (do13_any a1 a0 b2.1 b2.2 b1.1 b1.2 _).mono ?_
      rw [comm13]
      rintro e w2 ⟨rfl, hb2⟩
      have c2 := keepc hb2 c1
      go_wp2_with fail
      have hb := bt hb1 hb2
      go_roundw
      case rel => exact ⟨6, by omega, by go_num, hrow.keep hb, hbl.trans (hb.mono hbl.size)⟩
      case measure => simp [intOf] <;> omega
    · have hm1 : (0 : Int) ≤ a1 % 32 := by omega
      have hm2 : a1 % 32 < 32 := by omega
      have hp1 : (1 : Int) ≤ (2 : Int) ^ (a1 % 32).toNat := two_pow_pos _
      have hp2 : (2 : Int) ^ (a1 % 32).toNat ≤ 2147483648 := by
        have : (2 : Int) ^ (a1 % 32).toNat ≤ 2 ^ 31 := pow_le_pow_r (by decide) (by omega)
        omega
      have e2 : doW 2 a0 ((2 : Int) ^ (a1 % 32).toNat) = doW 8 a0 a1 := rfl
      have E2 := hid e2
      clear e2
      go_wp2_with fail
      refine (do2_any a0 ((2 : Int) ^ (a1 % 32).toNat) b1.1 b1.2 (by omega) (by omega) _).mono ?_
      rw [E2.out]
      rintro e w1 ⟨rfl, hb1⟩
      go_wp2_with fail
      refine (do8_any a0 a1 b1.1 b1.2 b2.1 b2.2 _).mono ?_
      rintro e w2 ⟨rfl, hb2⟩
      go_wp2_with fail
      refine (head_any _).mono ?_
      rintro e w3 ⟨rfl, hb3⟩
      go_wp2_with fail
      go_ret
      exact ⟨rfl, hbl.trans ((bt (bt hb1 hb2) hb3).mono hbl.size)⟩
end Go.Proofs.Ytkokdcbnnihkaaa
