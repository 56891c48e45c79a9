/- Several texts in one: InstEnc, AsmNew, AsmFar, AsmAdd, AsmApp, AsmPutFar, AsmPutLaw. -/
import Derived.Test.YtajholbcpmjhiaaGreatDoorH05
import Derived.OneCell
import Derived.ArgAppend
import Derived.Lib.SliceRun
set_option linter.unusedVariables false
set_option linter.unusedSimpArgs false
/- Walks of inst.may, whole, and of inst.Encode. -/
namespace Go.Proofs.YtajholbcpmjhiaaGreatDoor
open Go.RowKit
theorem may_out {x : Ix} (h : 31 < x.rd ∨ 31 < x.rs1 ∨ 31 < x.rs2 ∨ kindS x.op = 0 ∨ (x.op = 17 ∧ 6 < x.rd)) : mayB x = false := by
  unfold mayB mayP
  refine decide_eq_false ?_
  rintro ⟨h1, h2, h3, h4⟩
  rcases h with h | h | h | h | ⟨h, h'⟩
  · omega
  · omega
  · omega
  · rw [h] at h4; simp [okS] at h4
  · rw [h, show kindS 17 = 4 from by decide] at h4; simp [okS] at h4; omega
theorem hasK_no {k : Int} (h : k ≠ 0) (h0 : 0 ≤ k ∧ k ≤ 12) : (hasK k == 128) = false := by
  obtain ⟨n, rfl⟩ := Int.eq_ofNat_of_zero_le h0.1
  match n, h, h0 with
  | 0, h, _ => exact absurd rfl h
  | 1, _, _ => decide
  | 2, _, _ => decide
  | 3, _, _ => decide
  | 4, _, _ => decide
  | 5, _, _ => decide
  | 6, _, _ => decide
  | 7, _, _ => decide
  | 8, _, _ => decide
  | 9, _, _ => decide
  | 10, _, _ => decide
  | 11, _, _ => decide
  | 12, _, _ => decide
  | (n + 13), _, h0 => omega
set_option maxRecDepth 100000 in
set_option maxHeartbeats 1000000 in
theorem may_no (x : Ix) (hb : x.bd) (h : 31 < x.rd ∨ 31 < x.rs1 ∨ 31 < x.rs2 ∨ kindS x.op = 0 ∨ (x.op = 17 ∧ 6 < x.rd)) (w : World) (ht : Tab w) :
    Calls Tryz.prog 133 #[x.agg] w fun e w' => e = .returned (.bool (mayB x)) ∧ Below w.heap.size w w' := by
  rw [may_out h]
  obtain ⟨op, rd, rs1, rs2, is, imm⟩ := x
  obtain ⟨b0, b1, b2, b3, b4⟩ := hb
  simp only at b0 b1 b2 b3 b4 h
  have HT := ihid ht
  clear ht
  by_cases hk : kindS op = 0
  · have E1 := ihid (show hasK (kindS op) = 128 by rw [hk]; rfl)
    clear h hk
    go_enter Tryz.func133, Tryz.ntmps133
    go_wp2_with fail
    refine (ihas_any op 128 b0.1 b0.2 E1.out _ (HT.out.keep ((Below.refl _ w).alloc (Nat.le_refl _) _))).mono ?_
    rintro e w' ⟨rfl, rfl⟩
    go_wp2_with fail
    go_ret
    exact ⟨rfl, (Below.refl _ _).alloc (Nat.le_refl _) _⟩
  · have hh := hasK_no hk (kind_bd op)
    generalize hq : hasK (kindS op) = q at hh
    have E1 := ihid hq
    clear hq hk
    by_cases g1 : 31 < rd
    · have g1' : decide (31 < rd) = true := by simpa using g1
      clear h
      go_enter Tryz.func133, Tryz.ntmps133
      go_wp2_with fail
      refine (ihas_any op q b0.1 b0.2 E1.out _ (HT.out.keep ((Below.refl _ w).alloc (Nat.le_refl _) _))).mono ?_
      rintro e w' ⟨rfl, rfl⟩
      go_wp2_with fail
      go_ret
      exact ⟨rfl, (Below.refl _ _).alloc (Nat.le_refl _) _⟩
    · have g1' : decide (31 < rd) = false := by simpa using g1
      by_cases g2 : 31 < rs1
      · have g2' : decide (31 < rs1) = true := by simpa using g2
        clear h
        go_enter Tryz.func133, Tryz.ntmps133
        go_wp2_with fail
        refine (ihas_any op q b0.1 b0.2 E1.out _ (HT.out.keep ((Below.refl _ w).alloc (Nat.le_refl _) _))).mono ?_
        rintro e w' ⟨rfl, rfl⟩
        go_wp2_with fail
        go_ret
        exact ⟨rfl, (Below.refl _ _).alloc (Nat.le_refl _) _⟩
      · have g2' : decide (31 < rs1) = false := by simpa using g2
        by_cases g3 : 31 < rs2
        · have g3' : decide (31 < rs2) = true := by simpa using g3
          clear h
          go_enter Tryz.func133, Tryz.ntmps133
          go_wp2_with fail
          refine (ihas_any op q b0.1 b0.2 E1.out _ (HT.out.keep ((Below.refl _ w).alloc (Nat.le_refl _) _))).mono ?_
          rintro e w' ⟨rfl, rfl⟩
          go_wp2_with fail
          go_ret
          exact ⟨rfl, (Below.refl _ _).alloc (Nat.le_refl _) _⟩
        · have g3' : decide (31 < rs2) = false := by simpa using g3
          obtain ⟨rfl, g6⟩ : op = 17 ∧ 6 < rd := by
            rcases h with h | h | h | h | h
            · omega
            · omega
            · omega
            · exfalso; rw [h] at E1; have := E1.out; rw [← this] at hh; simp [hasK] at hh
            · exact h
          have g6' : decide (6 < rd) = true := by simpa using g6
          clear h
          go_enter Tryz.func133, Tryz.ntmps133
          go_wp2_with fail
          refine (ihas_any 17 q b0.1 b0.2 E1.out _ (HT.out.keep ((Below.refl _ w).alloc (Nat.le_refl _) _))).mono ?_
          rintro e w' ⟨rfl, rfl⟩
          go_wp2_with fail
          go_ret
          exact ⟨rfl, (Below.refl _ _).alloc (Nat.le_refl _) _⟩
theorem kind_fin : ∀ n : Fin 38, (kindS (n.val : Int) = 3 → n.val = 15) ∧ (kindS (n.val : Int) = 4 → n.val = 17) ∧ (kindS (n.val : Int) = 5 → n.val = 18) ∧ (kindS (n.val : Int) = 7 → n.val = 30) ∧ (kindS (n.val : Int) = 8 → n.val = 31) ∧ (kindS (n.val : Int) = 9 → n.val = 33) ∧ (kindS (n.val : Int) = 11 → n.val = 37) ∧ (kindS (n.val : Int) = 12 → n.val = 32) := by decide
theorem kind_one {op k : Int} (h : kindS op = k) : (k = 3 → op = 15) ∧ (k = 4 → op = 17) ∧ (k = 5 → op = 18) ∧ (k = 7 → op = 30) ∧ (k = 8 → op = 31) ∧ (k = 9 → op = 33) ∧ (k = 11 → op = 37) ∧ (k = 12 → op = 32) := by
  by_cases h0 : kindS op = 0
  · rw [h0] at h; omega
  · have hr := kind_op h0
    obtain ⟨n, rfl⟩ := Int.eq_ofNat_of_zero_le (show 0 ≤ op by omega)
    have hf := kind_fin ⟨n, by omega⟩
    simp only at hf
    rw [h] at hf
    omega
theorem may_any (x : Ix) (hb : x.bd) (w : World) (ht : Tab w) :
    Calls Tryz.prog 133 #[x.agg] w fun e w' => e = .returned (.bool (mayB x)) ∧ Below w.heap.size w w' := by
  by_cases h : 31 < x.rd ∨ 31 < x.rs1 ∨ 31 < x.rs2 ∨ kindS x.op = 0 ∨ (x.op = 17 ∧ 6 < x.rd)
  · exact may_no x hb h w ht
  · obtain ⟨op, rd, rs1, rs2, is, imm⟩ := x
    simp only [not_or] at h
    obtain ⟨h1, h2, h3, h4, h5⟩ := h
    have h1 : rd ≤ 31 := by omega
    have h2 : rs1 ≤ 31 := by omega
    have h3 : rs2 ≤ 31 := by omega
    obtain ⟨k3, k4, k5, k7, k8, k9, k11, k12⟩ := kind_one (op := op) rfl
    rcases kind_cases op with hk | hk | hk | hk | hk | hk | hk | hk | hk | hk | hk | hk | hk
    · exact absurd hk h4
    · cases is
      · exact may_1f _ _ _ _ _ hb hk h1 h2 h3 w ht
      · exact may_1t _ _ _ _ _ hb hk h1 h2 h3 w ht
    · cases is
      · exact may_2f _ _ _ _ _ hb hk h1 h2 h3 w ht
      · exact may_2t _ _ _ _ _ hb hk h1 h2 h3 w ht
    · obtain rfl := k3 hk
      cases is
      · exact may_3f _ _ _ _ hb h1 h2 h3 w ht
      · exact may_3t _ _ _ _ hb h1 h2 h3 w ht
    · obtain rfl := k4 hk
      have h6 : rd ≤ 6 := by omega
      cases is
      · exact may_4f _ _ _ _ hb h1 h2 h3 h6 w ht
      · exact may_4t _ _ _ _ hb h1 h2 h3 h6 w ht
    · obtain rfl := k5 hk
      cases is
      · exact may_5f _ _ _ _ hb h1 h2 h3 w ht
      · exact may_5t _ _ _ _ hb h1 h2 h3 w ht
    · cases is
      · exact may_6f _ _ _ _ _ hb hk h1 h2 h3 w ht
      · exact may_6t _ _ _ _ _ hb hk h1 h2 h3 w ht
    · obtain rfl := k7 hk
      cases is
      · exact may_7f _ _ _ _ hb h1 h2 h3 w ht
      · exact may_7t _ _ _ _ hb h1 h2 h3 w ht
    · obtain rfl := k8 hk
      cases is
      · exact may_8f _ _ _ _ hb h1 h2 h3 w ht
      · exact may_8t _ _ _ _ hb h1 h2 h3 w ht
    · obtain rfl := k9 hk
      cases is
      · exact may_9f _ _ _ _ hb h1 h2 h3 w ht
      · exact may_9t _ _ _ _ hb h1 h2 h3 w ht
    · cases is
      · exact may_10f _ _ _ _ _ hb hk h1 h2 h3 w ht
      · exact may_10t _ _ _ _ _ hb hk h1 h2 h3 w ht
    · obtain rfl := k11 hk
      cases is
      · exact may_11f _ _ _ _ hb h1 h2 h3 w ht
      · exact may_11t _ _ _ _ hb h1 h2 h3 w ht
    · obtain rfl := k12 hk
      cases is
      · exact may_12f _ _ _ _ hb h1 h2 h3 w ht
      · exact may_12t _ _ _ _ hb h1 h2 h3 w ht
set_option maxRecDepth 100000 in
set_option maxHeartbeats 1000000 in
theorem enc_no (x : Ix) (hb : x.bd) (hm : mayB x = false) (w : World) (ht : Tab w) :
    Calls Tryz.prog 79 #[x.agg] w fun e w' => e = .returned (.tuple #[.int .u32 0, .int .i64 2]) ∧ Below w.heap.size w w' := by
  have h := may_any x hb (w.alloc (.cells #[.int .u8 x.op, .int .u8 x.rd, .int .u8 x.rs1, .int .u8 x.rs2, .bool x.is, .int .i32 x.imm] 41)) (ht.keep ((Below.refl _ w).alloc (Nat.le_refl _) _))
  rw [hm] at h
  have H := ihid h
  clear h hm hb
  obtain ⟨op, rd, rs1, rs2, is, imm⟩ := x
  go_enter Tryz.func79, Tryz.ntmps79
  go_wp2_with fail
  refine H.out.mono ?_
  rintro e w' ⟨rfl, hbl⟩
  have HB := ihid hbl
  clear hbl
  go_wp2_with fail
  go_ret2
  exact ⟨rfl, ((Below.refl _ _).alloc (Nat.le_refl _) _).trans (HB.out.mono (by simp))⟩
theorem or_add {a b : Int} (k : Nat) (hk : k ≤ 32) (ha : 0 ≤ a) (ha2 : a < 4294967296) (hd : a % 2 ^ k = 0) (hb : 0 ≤ b) (hb2 : b < 2 ^ k) : bits .or .u32 a b = a + b := by
  obtain ⟨A, rfl⟩ := Int.eq_ofNat_of_zero_le ha
  obtain ⟨B, rfl⟩ := Int.eq_ofNat_of_zero_le hb
  have hp : (2 : Int) ^ k = ((2 ^ k : Nat) : Int) := by simp
  rw [hp] at hd hb2
  have hp2 : 2 ^ k ≤ 2 ^ 32 := Nat.pow_le_pow_right (by omega) hk
  have hB : B < 2 ^ k := by omega
  have hA : 2 ^ k * (A / 2 ^ k) = A := by
    have h1 : A % 2 ^ k = 0 := by omega
    have h2 := Nat.div_add_mod A (2 ^ k)
    omega
  rw [u32_or _ _ (by omega) ha2 (by omega) (by omega)]
  simp only [Int.toNat_natCast]
  rw [← hA, ← Nat.two_pow_add_eq_or_of_lt hB]
  omega
theorem and_mod {a : Int} (k : Nat) (m : Int) (hk : k ≤ 32) (hm : m = 2 ^ k - 1) (ha : 0 ≤ a) (ha2 : a < 4294967296) : bits .and .u32 a m = a % 2 ^ k := by
  subst hm
  obtain ⟨A, rfl⟩ := Int.eq_ofNat_of_zero_le ha
  have hp : (2 : Int) ^ k = ((2 ^ k : Nat) : Int) := by simp
  have h1 : 1 ≤ 2 ^ k := Nat.one_le_two_pow
  have hp2 : 2 ^ k ≤ 2 ^ 32 := Nat.pow_le_pow_right (by omega) hk
  rw [hp, u32_and _ _ (by omega) ha2 (by omega) (by omega)]
  rw [show ((2 ^ k : Nat) : Int) - 1 = ((2 ^ k - 1 : Nat) : Int) from by omega]
  simp only [Int.toNat_natCast]
  rw [Nat.and_two_pow_sub_one_eq_mod]
  omega
theorem or_two {op rd : Int} (b0 : 1 ≤ op ∧ op ≤ 37) (b1 : 0 ≤ rd ∧ rd ≤ 31) : bits .or .u32 (op * 67108864) (rd * 2097152) = op * 67108864 + rd * 2097152 :=
  or_add 26 (by omega) (by omega) (by omega) (by omega) (by omega) (by omega)
theorem imm_mod (imm : Int) (k : Nat) (m d : Int) (hk : k ≤ 32) (hm : m = 2 ^ k - 1) (hd : d = 2 ^ k) (hdd : (4294967296 : Int) % d = 0) : bits .and .u32 (imm % 4294967296) m = imm % d := by
  rw [and_mod k m hk hm (by omega) (by omega), ← hd]
  exact Int.emod_emod_of_dvd _ (Int.dvd_of_emod_eq_zero hdd)
theorem enc_w1 {op rd imm : Int} (b0 : 1 ≤ op ∧ op ≤ 37) (b1 : 0 ≤ rd ∧ rd ≤ 31) : bits .or .u32 (bits .or .u32 (op * 67108864) (rd * 2097152)) (bits .and .u32 (imm % 4294967296) 2097151) = op * 67108864 + rd * 2097152 + imm % 2097152 := by
  rw [or_two b0 b1, imm_mod imm 21 2097151 2097152 (by omega) (by decide) (by decide) (by decide)]
  exact or_add 21 (by omega) (by omega) (by omega) (by omega) (by omega) (by omega)
theorem enc_w2 {op rd rs1 imm : Int} (b0 : 1 ≤ op ∧ op ≤ 37) (b1 : 0 ≤ rd ∧ rd ≤ 31) (b2 : 0 ≤ rs1 ∧ rs1 ≤ 31) : bits .or .u32 (bits .or .u32 (bits .or .u32 (bits .or .u32 (op * 67108864) (rd * 2097152)) (rs1 * 65536)) 32768) (bits .and .u32 (imm % 4294967296) 32767) = op * 67108864 + rd * 2097152 + (rs1 * 65536 + (32768 + imm % 32768)) := by
  rw [or_two b0 b1, imm_mod imm 15 32767 32768 (by omega) (by decide) (by decide) (by decide)]
  rw [or_add (b := rs1 * 65536) 21 (by omega) (by omega) (by omega) (by omega) (by omega) (by omega)]
  rw [or_add (b := 32768) 16 (by omega) (by omega) (by omega) (by omega) (by omega) (by omega)]
  rw [or_add 15 (by omega) (by omega) (by omega) (by omega) (by omega) (by omega)]
  omega
theorem enc_w3 {op rd rs1 rs2 : Int} (b0 : 1 ≤ op ∧ op ≤ 37) (b1 : 0 ≤ rd ∧ rd ≤ 31) (b2 : 0 ≤ rs1 ∧ rs1 ≤ 31) (b3 : 0 ≤ rs2 ∧ rs2 ≤ 31) : bits .or .u32 (bits .or .u32 (bits .or .u32 (op * 67108864) (rd * 2097152)) (rs1 * 65536)) rs2 = op * 67108864 + rd * 2097152 + (rs1 * 65536 + rs2) := by
  rw [or_two b0 b1]
  rw [or_add (b := rs1 * 65536) 21 (by omega) (by omega) (by omega) (by omega) (by omega) (by omega)]
  rw [or_add 16 (by omega) (by omega) (by omega) (by omega) (by omega) (by omega)]
  omega
theorem long_bit {k : Int} (hl : longK k) : ∃ q, hasK k = q ∧ (bits .and .u8 q 16 != 0) = true := by
  rcases hl with rfl | rfl | rfl <;> exact ⟨_, rfl, by decide⟩
theorem kind_of_may {x : Ix} (h : mayP x) : kindS x.op ≠ 0 := by
  intro h0
  have := h.2.2.2
  rw [h0] at this; simp [okS] at this
theorem short_bit {op : Int} (hl : ¬ longK (kindS op)) (h0 : kindS op ≠ 0) : ∃ q, hasK (kindS op) = q ∧ (bits .and .u8 q 16 != 0) = false := by
  unfold longK at hl
  rcases kind_cases op with hk | hk | hk | hk | hk | hk | hk | hk | hk | hk | hk | hk | hk <;> rw [hk] at hl h0 ⊢ <;> first | (exfalso; omega) | exact ⟨_, rfl, by decide⟩
set_option maxRecDepth 100000 in
set_option maxHeartbeats 1000000 in
theorem enc_long (op rd rs1 rs2 imm : Int) (hb : (⟨op, rd, rs1, rs2, true, imm⟩ : Ix).bd) (hm : mayP ⟨op, rd, rs1, rs2, true, imm⟩) (hl : longK (kindS op)) (w : World) (ht : Tab w) :
    Calls Tryz.prog 79 #[(⟨op, rd, rs1, rs2, true, imm⟩ : Ix).agg] w fun e w' => e = .returned (.tuple #[.int .u32 (wordS ⟨op, rd, rs1, rs2, true, imm⟩), .int .i64 0]) ∧ Below w.heap.size w w' := by
  have h := may_any ⟨op, rd, rs1, rs2, true, imm⟩ hb (w.alloc (.cells #[.int .u8 op, .int .u8 rd, .int .u8 rs1, .int .u8 rs2, .bool true, .int .i32 imm] 41)) (ht.keep ((Below.refl _ w).alloc (Nat.le_refl _) _))
  rw [show mayB ⟨op, rd, rs1, rs2, true, imm⟩ = true from decide_eq_true hm] at h
  have H := ihid h
  have HT := ihid ht
  have B := may_bd hb hm
  obtain ⟨q, hq, hq2⟩ : ∃ q, hasK (kindS op) = q ∧ (bits .and .u8 q 16 != 0) = true := long_bit hl
  obtain ⟨b0, b1, b2, b3, b4⟩ := hb
  simp only at b0 b1 b2 b3 b4 B
  clear h hm ht
  have HQ := ihid hq
  have HL := ihid hl
  clear hq hl
  go_enter Tryz.func79, Tryz.ntmps79
  go_wp2_with fail
  refine H.out.mono ?_
  rintro e w' ⟨rfl, hbl⟩
  have hx := hbl.cell (p := ⟨w.heap.size, 0, none⟩) (by simp)
  have hx1 := hbl.cell (p := ⟨w.heap.size, 1, none⟩) (by simp)
  have hx2 := hbl.cell (p := ⟨w.heap.size, 2, none⟩) (by simp)
  have hx3 := hbl.cell (p := ⟨w.heap.size, 3, none⟩) (by simp)
  have hx4 := hbl.cell (p := ⟨w.heap.size, 4, none⟩) (by simp)
  have hx5 := hbl.cell (p := ⟨w.heap.size, 5, none⟩) (by simp)
  simp at hx hx1 hx2 hx3 hx4 hx5
  have HB := ihid hbl
  clear hbl
  go_wp2_with fail
  refine (ihas_any op q b0.1 b0.2 HQ.out _ ((HT.out.keep ((Below.refl _ w).alloc (Nat.le_refl _) _)).keep HB.out)).mono ?_
  rintro e w' ⟨rfl, rfl⟩
  go_wp2_with fail
  go_ret2
  exact ⟨iret2 ((enc_w1 B.1 B.2.1).trans (by simp only [wordS, tailS, if_pos HL.out])) rfl, ((Below.refl _ _).alloc (Nat.le_refl _) _).trans (HB.out.mono (by simp))⟩
set_option maxRecDepth 100000 in
set_option maxHeartbeats 1000000 in
theorem enc_is (op rd rs1 rs2 imm : Int) (hb : (⟨op, rd, rs1, rs2, true, imm⟩ : Ix).bd) (hm : mayP ⟨op, rd, rs1, rs2, true, imm⟩) (hl : ¬ longK (kindS op)) (w : World) (ht : Tab w) :
    Calls Tryz.prog 79 #[(⟨op, rd, rs1, rs2, true, imm⟩ : Ix).agg] w fun e w' => e = .returned (.tuple #[.int .u32 (wordS ⟨op, rd, rs1, rs2, true, imm⟩), .int .i64 0]) ∧ Below w.heap.size w w' := by
  have h := may_any ⟨op, rd, rs1, rs2, true, imm⟩ hb (w.alloc (.cells #[.int .u8 op, .int .u8 rd, .int .u8 rs1, .int .u8 rs2, .bool true, .int .i32 imm] 41)) (ht.keep ((Below.refl _ w).alloc (Nat.le_refl _) _))
  rw [show mayB ⟨op, rd, rs1, rs2, true, imm⟩ = true from decide_eq_true hm] at h
  have H := ihid h
  have HT := ihid ht
  have B := may_bd hb hm
  obtain ⟨q, hq, hq2⟩ : ∃ q, hasK (kindS op) = q ∧ (bits .and .u8 q 16 != 0) = false := short_bit hl (kind_of_may hm)
  obtain ⟨b0, b1, b2, b3, b4⟩ := hb
  simp only at b0 b1 b2 b3 b4 B
  clear h hm ht
  have HQ := ihid hq
  have HL := ihid hl
  clear hq hl
  go_enter Tryz.func79, Tryz.ntmps79
  go_wp2_with fail
  refine H.out.mono ?_
  rintro e w' ⟨rfl, hbl⟩
  have hx := hbl.cell (p := ⟨w.heap.size, 0, none⟩) (by simp)
  have hx1 := hbl.cell (p := ⟨w.heap.size, 1, none⟩) (by simp)
  have hx2 := hbl.cell (p := ⟨w.heap.size, 2, none⟩) (by simp)
  have hx3 := hbl.cell (p := ⟨w.heap.size, 3, none⟩) (by simp)
  have hx4 := hbl.cell (p := ⟨w.heap.size, 4, none⟩) (by simp)
  have hx5 := hbl.cell (p := ⟨w.heap.size, 5, none⟩) (by simp)
  simp at hx hx1 hx2 hx3 hx4 hx5
  have HB := ihid hbl
  clear hbl
  go_wp2_with fail
  refine (ihas_any op q b0.1 b0.2 HQ.out _ ((HT.out.keep ((Below.refl _ w).alloc (Nat.le_refl _) _)).keep HB.out)).mono ?_
  rintro e w' ⟨rfl, rfl⟩
  go_wp2_with fail
  go_ret2
  exact ⟨iret2 ((enc_w2 B.1 B.2.1 B.2.2.1).trans (by simp only [wordS, tailS, if_neg HL.out, if_true])) rfl, ((Below.refl _ _).alloc (Nat.le_refl _) _).trans (HB.out.mono (by simp))⟩
set_option maxRecDepth 100000 in
set_option maxHeartbeats 1000000 in
theorem enc_reg (op rd rs1 rs2 imm : Int) (hb : (⟨op, rd, rs1, rs2, false, imm⟩ : Ix).bd) (hm : mayP ⟨op, rd, rs1, rs2, false, imm⟩) (hl : ¬ longK (kindS op)) (w : World) (ht : Tab w) :
    Calls Tryz.prog 79 #[(⟨op, rd, rs1, rs2, false, imm⟩ : Ix).agg] w fun e w' => e = .returned (.tuple #[.int .u32 (wordS ⟨op, rd, rs1, rs2, false, imm⟩), .int .i64 0]) ∧ Below w.heap.size w w' := by
  have h := may_any ⟨op, rd, rs1, rs2, false, imm⟩ hb (w.alloc (.cells #[.int .u8 op, .int .u8 rd, .int .u8 rs1, .int .u8 rs2, .bool false, .int .i32 imm] 41)) (ht.keep ((Below.refl _ w).alloc (Nat.le_refl _) _))
  rw [show mayB ⟨op, rd, rs1, rs2, false, imm⟩ = true from decide_eq_true hm] at h
  have H := ihid h
  have HT := ihid ht
  have B := may_bd hb hm
  obtain ⟨q, hq, hq2⟩ : ∃ q, hasK (kindS op) = q ∧ (bits .and .u8 q 16 != 0) = false := short_bit hl (kind_of_may hm)
  obtain ⟨b0, b1, b2, b3, b4⟩ := hb
  simp only at b0 b1 b2 b3 b4 B
  clear h hm ht
  have HQ := ihid hq
  have HL := ihid hl
  clear hq hl
  go_enter Tryz.func79, Tryz.ntmps79
  go_wp2_with fail
  refine H.out.mono ?_
  rintro e w' ⟨rfl, hbl⟩
  have hx := hbl.cell (p := ⟨w.heap.size, 0, none⟩) (by simp)
  have hx1 := hbl.cell (p := ⟨w.heap.size, 1, none⟩) (by simp)
  have hx2 := hbl.cell (p := ⟨w.heap.size, 2, none⟩) (by simp)
  have hx3 := hbl.cell (p := ⟨w.heap.size, 3, none⟩) (by simp)
  have hx4 := hbl.cell (p := ⟨w.heap.size, 4, none⟩) (by simp)
  have hx5 := hbl.cell (p := ⟨w.heap.size, 5, none⟩) (by simp)
  simp at hx hx1 hx2 hx3 hx4 hx5
  have HB := ihid hbl
  clear hbl
  go_wp2_with fail
  refine (ihas_any op q b0.1 b0.2 HQ.out _ ((HT.out.keep ((Below.refl _ w).alloc (Nat.le_refl _) _)).keep HB.out)).mono ?_
  rintro e w' ⟨rfl, rfl⟩
  go_wp2_with fail
  go_ret2
  exact ⟨iret2 ((enc_w3 B.1 B.2.1 B.2.2.1 B.2.2.2).trans (by simp only [wordS, tailS, if_neg HL.out, Bool.false_eq_true, if_false])) rfl, ((Below.refl _ _).alloc (Nat.le_refl _) _).trans (HB.out.mono (by simp))⟩
theorem encode_any (x : Ix) (hb : x.bd) (w : World) (ht : Tab w) :
    Calls Tryz.prog 79 #[x.agg] w fun e w' => e = .returned (.tuple #[.int .u32 (encS x), .int .i64 (encE x)]) ∧ Below w.heap.size w w' := by
  unfold encS encE
  by_cases hm : mayP x
  · rw [if_pos hm, if_pos hm]
    obtain ⟨op, rd, rs1, rs2, is, imm⟩ := x
    by_cases hl : longK (kindS op)
    · cases is
      · have := (ok_long hl hm.2.2.2).1; simp at this
      · exact enc_long op rd rs1 rs2 imm hb hm hl w ht
    · cases is
      · exact enc_reg op rd rs1 rs2 imm hb hm hl w ht
      · exact enc_is op rd rs1 rs2 imm hb hm hl w ht
  · rw [if_neg hm, if_neg hm]
    exact enc_no x hb (decide_eq_false hm) w ht
end Go.Proofs.YtajholbcpmjhiaaGreatDoor
/- Walks of the package asm: New; what a function value makes. -/
namespace Go.Proofs.YtajholbcpmjhiaaGreatDoor
open Go.RowKit Go.Maps
theorem anew_any (w : World) :
    Calls Tryz.prog 28 #[] w fun e w' => ∃ p m, e = .returned (.pointer (some ⟨p, 0, none⟩)) ∧ w.heap.size ≤ p ∧ w.heap.size ≤ m ∧ AsmAt w' p (.slice none 0 0) m (fun _ => False) [] [] ∧ Below w.heap.size w w' := by
  have hmm := @run_makeMap Tryz.prog
  go_enter Tryz.func28, Tryz.ntmps28
  go_wp2
  go_ret
  refine ⟨w.heap.size + 1, w.heap.size, rfl, by omega, by omega, ⟨?_, ⟨[], ⟨rfl, .inl ⟨rfl, rfl⟩⟩, rfl, fun i v it hv => by simp at hv⟩, ⟨.map [], ?_, MarkD.nil⟩, ⟨by omega, by simp [Value.ownBlock], by simp [Value.ownBlock]⟩, fun k hk => hk.elim⟩, ?_⟩
  · have h := (MapKept.heap_alloc (w.alloc (.map #[] 0)) (.cells #[.slice none 0 0, .map (some w.heap.size)] 136)).1
    rw [show (w.alloc (.map #[] 0)).heap.size = w.heap.size + 1 by simp] at h
    exact h
  · exact (World.ownsMap_made w _ _ _).alloc _
  · exact ((Below.refl _ _).alloc (Nat.le_refl _) _).alloc (by simp) _
theorem aput1_any (w : World) (K : Nat → Prop) (v : Value) (x : Ix) (h : CloAt w K v (.put x)) (at' : Int) (mv : Value) (c : Nat) (hv : v = .func (.func 80) #[] #[.pointer (some ⟨c, 0, none⟩)]) (hc : w.cell? ⟨c, 0, none⟩ = some (.int .u32 (encS x))) :
    Calls Tryz.prog 80 #[.int .i64 at', mv, .pointer (some ⟨c, 0, none⟩)] w fun e w' => e = .returned (.tuple #[.int .u32 (encS x), .int .i64 0]) ∧ w = w' := by
  clear h hv
  generalize encS x = n at *
  go_enter Tryz.func80, Tryz.ntmps80
  go_wp2
  go_ret2
  exact ⟨rfl, rfl⟩
end Go.Proofs.YtajholbcpmjhiaaGreatDoor
/- Walks of the package asm: what a function value of far makes. -/
namespace Go.Proofs.YtajholbcpmjhiaaGreatDoor
open Go.RowKit Go.Maps
def farW (x : Ix) (d : Int) : Int := if mayP { x with imm := d } ∧ -2147483648 ≤ d ∧ d < 2147483648 then encS { x with imm := d } else 0
def farE (x : Ix) (d : Int) : Int := if mayP { x with imm := d } ∧ -2147483648 ≤ d ∧ d < 2147483648 then 0 else 50
theorem aret2 {k l : IntKind} {a b c d : Int} (h : a = b) (g : c = d) : Ending.returned (.tuple #[.int k a, .int l c]) = .returned (.tuple #[.int k b, .int l d]) := by rw [h, g]
theorem i32w (d : Int) : (-2147483648 ≤ wrap32 d ∧ wrap32 d < 2147483648) ∧ (wrap32 d = d ↔ -2147483648 ≤ d ∧ d < 2147483648) := by
  unfold wrap32
  exact ⟨⟨by omega, by omega⟩, fun h => by omega, fun h => by omega⟩
theorem afar1_lost (w : World) (p m : Nat) (sv : Value) (K : Nat → Prop) (L : List It) (M : List (List UInt8 × Int)) (h : AsmAt w p sv m K L M) (at' : Int) (nm : ByteArray) (hs : nm.size ≤ maxLen) (c d : Nat) (hc : w.cell? ⟨c, 0, none⟩ = some (.string nm)) (hl : look M nm.data.toList = none) :
    Calls Tryz.prog 207 #[.int .i64 at', .map (some m), .pointer (some ⟨c, 0, none⟩), .pointer (some ⟨d, 0, none⟩)] w fun e w' => e = .returned (.tuple #[.int .u32 0, .int .i64 7]) ∧ w = w' := by
  have hk := h.lookup nm hs
  rw [hl] at hk
  simp only [Option.getD_none, Option.isSome_none] at hk
  clear h
  go_enter Tryz.func207, Tryz.ntmps207
  go_wp2_with fail
  go_ret2
  exact ⟨rfl, rfl⟩
set_option maxRecDepth 100000 in
set_option maxHeartbeats 1000000 in
theorem afar1_there (w : World) (ht : Tab w) (p m : Nat) (sv : Value) (K : Nat → Prop) (L : List It) (M : List (List UInt8 × Int)) (h : AsmAt w p sv m K L M) (at' : Int) (nm : ByteArray) (hs : nm.size ≤ maxLen) (c d : Nat) (hc : w.cell? ⟨c, 0, none⟩ = some (.string nm))
    (x : Ix) (hx : x.bd) (hd : ∀ (i : Nat) (u : Value), x.agg.cells[i]? = some u → w.cell? ⟨d, i, none⟩ = some u) (to : Int) (hl : look M nm.data.toList = some to) (hwb : -9223372036854775808 ≤ to - at' ∧ to - at' ≤ 9223372036854775807) :
    Calls Tryz.prog 207 #[.int .i64 at', .map (some m), .pointer (some ⟨c, 0, none⟩), .pointer (some ⟨d, 0, none⟩)] w fun e w' => e = .returned (.tuple #[.int .u32 (farW x (to - at')), .int .i64 (farE x (to - at'))]) ∧ Below w.heap.size w w' := by
  have hk := h.lookup nm hs
  rw [hl] at hk
  simp only [Option.getD_some, Option.isSome_some] at hk
  have d0 := hd 0 _ rfl
  have d1 := hd 1 _ rfl
  have d2 := hd 2 _ rfl
  have d3 := hd 3 _ rfl
  have d4 := hd 4 _ rfl
  have d5 := hd 5 _ rfl
  obtain ⟨op, rd, rs1, rs2, is, imm⟩ := x
  have HX := ahid hx
  have hw : IntKind.i64.wrap (to - at') = to - at' := IntWalk.i64_in _ (by omega)
  have hw64 : wrap64 (to - at') = to - at' := by unfold wrap64; omega
  clear hwb
  have HT := ahid ht
  clear h hd hl hx ht
  go_enter Tryz.func207, Tryz.ntmps207
  go_wp2_with fail
  generalize hq : wrap32 (to - at') = q
  have hq2 := i32w (to - at')
  rw [hq] at hq2
  have hb2 : Below w.heap.size w (w.alloc (.cells #[.int .u8 op, .int .u8 rd, .int .u8 rs1, .int .u8 rs2, .bool is, .int .i32 q] 41)) := (Below.refl _ _).alloc (Nat.le_refl _) _
  have hy : (Ix.mk op rd rs1 rs2 is q).bd := ⟨HX.out.1, HX.out.2.1, HX.out.2.2.1, HX.out.2.2.2.1, hq2.1⟩
  have hE := encode_any ⟨op, rd, rs1, rs2, is, q⟩ hy _ (HT.out.keep hb2)
  have cq : (w.alloc (.cells #[.int .u8 op, .int .u8 rd, .int .u8 rs1, .int .u8 rs2, .bool is, .int .i32 q] 41)).cell? ⟨w.heap.size, 5, none⟩ = some (.int .i32 q) := by simp [go_sem]
  have HB2 := ahid hb2
  have HQ := ahid hq2
  clear hq2
  clear hb2 hy hq d0 d1 d2 d3 d4 d5 hk hc
  generalize w.alloc (.cells #[.int .u8 op, .int .u8 rd, .int .u8 rs1, .int .u8 rs2, .bool is, .int .i32 q] 41) = w2 at *
  refine hE.mono ?_
  rintro e w3 ⟨rfl, bl⟩
  have cq3 := (bl.cell (p := ⟨w.heap.size, 5, none⟩) (World.block_lt_of_cell? _ _ cq)).trans cq
  have HB3 := ahid (HB2.out.trans (bl.mono HB2.out.size))
  clear bl hE cq HB2
  have hq64 : wrap64 q = q := by have := HQ.out.1; unfold wrap64; omega
  by_cases hm : mayP ⟨op, rd, rs1, rs2, is, q⟩
  · have he : encE ⟨op, rd, rs1, rs2, is, q⟩ = 0 := if_pos hm
    rw [he]
    by_cases hqD : q = to - at'
    · have hfw : encS ⟨op, rd, rs1, rs2, is, q⟩ = farW ⟨op, rd, rs1, rs2, is, imm⟩ (to - at') := by
        unfold farW; rw [if_pos ⟨hqD ▸ hm, HQ.out.2.1 hqD⟩, hqD]
      have hfe : (0 : Int) = farE ⟨op, rd, rs1, rs2, is, imm⟩ (to - at') := by
        unfold farE; rw [if_pos ⟨hqD ▸ hm, HQ.out.2.1 hqD⟩]
      have HF := ahid (And.intro hfw hfe)
      clear hfw hfe hm he
      generalize encS ⟨op, rd, rs1, rs2, is, q⟩ = W at *
      have hb : (q != to - at') = false := by simpa using hqD
      clear hqD
      go_wp2_with fail
      go_ret2
      exact ⟨aret2 HF.out.1 HF.out.2, HB3.out⟩
    · have hn : ¬ (mayP { (Ix.mk op rd rs1 rs2 is imm) with imm := to - at' } ∧ -2147483648 ≤ to - at' ∧ to - at' < 2147483648) := fun h => hqD (HQ.out.2.2 h.2)
      have hfw : (0 : Int) = farW ⟨op, rd, rs1, rs2, is, imm⟩ (to - at') := by unfold farW; rw [if_neg hn]
      have hfe : (50 : Int) = farE ⟨op, rd, rs1, rs2, is, imm⟩ (to - at') := by unfold farE; rw [if_neg hn]
      have HF := ahid (And.intro hfw hfe)
      have hb2 : (q != to - at') = true := by simpa using hqD
      have hb : (q == to - at') = false := by simpa using hqD
      clear hfw hfe hm he hn
      generalize encS ⟨op, rd, rs1, rs2, is, q⟩ = W at *
      go_wp2_with fail
      go_ret2
      exact ⟨aret2 HF.out.1 HF.out.2, HB3.out⟩
  · have he : encE ⟨op, rd, rs1, rs2, is, q⟩ = 2 := if_neg hm
    rw [he]
    have hn : ¬ (mayP { (Ix.mk op rd rs1 rs2 is imm) with imm := to - at' } ∧ -2147483648 ≤ to - at' ∧ to - at' < 2147483648) := fun h => by
      have := HQ.out.2.2 h.2
      exact hm (this ▸ h.1)
    have hfw : (0 : Int) = farW ⟨op, rd, rs1, rs2, is, imm⟩ (to - at') := by unfold farW; rw [if_neg hn]
    have hfe : (50 : Int) = farE ⟨op, rd, rs1, rs2, is, imm⟩ (to - at') := by unfold farE; rw [if_neg hn]
    have HF := ahid (And.intro hfw hfe)
    clear hfw hfe hm he hn
    generalize encS ⟨op, rd, rs1, rs2, is, q⟩ = W at *
    go_wp2_with fail
    go_ret2
    exact ⟨aret2 HF.out.1 HF.out.2, HB3.out⟩
end Go.Proofs.YtajholbcpmjhiaaGreatDoor
/- A list to which function values were added. No function of the program is walked here. -/
namespace Go.Proofs.YtajholbcpmjhiaaGreatDoor
open Go.RowKit Go.Maps
theorem aobj_setCell {w : World} {g i : Nat} {c : Array Value} {t : TypeId} {fz : Nat × Nat} (h : w.heap[g]? = some (.cells c t fz)) (v : Value) :
    (w.setCell ⟨g, i, none⟩ v).heap[g]? = some (.cells (c.setIfInBounds i v) t fz) := by
  simp [World.setCell, Array.getElem?_modify, h]
theorem AsmAt.add {w w' : World} {p m : Nat} {sv v' : Value} {K K2 : Nat → Prop} {L L2 : List It} {M : List (List UInt8 × Int)} {vs new : List Value} (h : AsmAt w p sv m K L M) (g : w.grownBy w' sv.ownBlock)
    (hr : w'.ownsRow 0 150 1 v' (L.length + L2.length) (vs ++ new)) (hpl : v'.ownBlock = sv.ownBlock ∨ ∀ k, v'.ownBlock = some k → w.heap.size ≤ k) (hlen : vs.length = L.length)
    (hvs : ∀ (i : Nat) (v : Value) (it : It), vs[i]? = some v → L[i]? = some it → CloAt w K v it) (hl2 : new.length = L2.length) (hnew : ∀ (i : Nat) (v : Value) (it : It), new[i]? = some v → L2[i]? = some it → CloAt w K2 v it)
    (hk2 : ∀ k, K2 k → k < w.heap.size ∧ k ≠ p ∧ sv.ownBlock ≠ some k ∧ k ≠ m) (hk : ∀ k, k < w.heap.size → K k → K2 k) :
    AsmAt (w'.setCell ⟨p, 0, none⟩ v') p v' m K2 (L ++ L2) M ∧ Only (Own p sv m) w (w'.setCell ⟨p, 0, none⟩ v') := by
  have on : Only (fun k => sv.ownBlock = some k) w w' := (Only.refl _ w).grown g (fun k hk _ => hk.symm ▸ rfl)
  have on2 : Only (Own p sv m) w (w'.setCell ⟨p, 0, none⟩ v') := (on.mono (fun k _ hk => .inr (.inl hk))).setCell (.inl rfl) _
  have on3 : Only (fun k => k = p ∨ sv.ownBlock = some k) w (w'.setCell ⟨p, 0, none⟩ v') := (on.mono (fun k _ hk => .inr hk)).setCell (.inl rfl) _
  refine ⟨?_, on2⟩
  obtain ⟨h1, _, ⟨D, ⟨es, cl, hb, F, hz, hD⟩, h6⟩, h7, h8⟩ := h
  have hp := lt_of_block h1
  have hm := lt_of_block hb
  have np : v'.ownBlock ≠ some p := by
    rcases hpl with e | e
    · rw [e]; exact h7.2.1
    · intro e2; have := e p e2; omega
  have nm : v'.ownBlock ≠ some m := by
    rcases hpl with e | e
    · rw [e]; exact h7.2.2
    · intro e2; have := e m e2; omega
  refine ⟨?_, ⟨vs ++ new, ?_, by rw [List.length_append, List.length_append, hlen, hl2], ?_⟩, ⟨D, ⟨es, cl, on3.obj hb ?_, F, hz, hD⟩, h6⟩, ⟨h7.1, np, nm⟩, ?_⟩
  · have := aobj_setCell (i := 0) (on.obj h1 h7.2.1) v'
    rw [this]; rfl
  · rw [List.length_append]
    exact ownsRow_setCell_other hr np v'
  · intro i v it hv hi
    by_cases hlt : i < vs.length
    · rw [List.getElem?_append_left hlt] at hv
      rw [List.getElem?_append_left (by omega)] at hi
      exact (hvs i v it hv hi).keep on3 (fun k hk => by
        have := h8 k hk
        rintro (e | e)
        · exact this.1 e
        · exact this.2.1 e) hk
    · rw [List.getElem?_append_right (by omega)] at hv
      rw [List.getElem?_append_right (by omega), ← hlen] at hi
      exact (hnew _ v it hv hi).keep on3 (fun k hk => by
        have := hk2 k hk
        rintro (e | e)
        · exact this.2.1 e
        · exact this.2.2.1 e) (fun _ _ h => h)
  · rintro (e | e)
    · exact h7.1 e.symm
    · exact h7.2.2 e
  · intro k hk
    obtain ⟨a1, a2, a3, a4⟩ := hk2 k hk
    refine ⟨a2, ?_, a4⟩
    rcases hpl with e | e
    · rw [e]; exact a3
    · intro e2; have := e k e2; omega
def AddOk (w : World) (p : Nat) (sv : Value) (m : Nat) (K : Nat → Prop) (L : List It) (M : List (List UInt8 × Int)) (L2 : List It) (w' : World) : Prop :=
  ∃ v' K2, AsmAt w' p v' m K2 (L ++ L2) M ∧ Only (Own p sv m) w w' ∧ (∀ k, k < w.heap.size → Own p v' m k → Own p sv m k) ∧ (∀ k, k < w.heap.size → K2 k → K k)
end Go.Proofs.YtajholbcpmjhiaaGreatDoor
/- append onto a slice of one's own, of which one wants to know where it lies then: where it lay, or in a new block. -/
namespace Go.Proofs.YtajholbcpmjhiaaGreatDoor
open Go
variable {P : Program} (w : World)
theorem run_append_place (t ty e : TypeId) (i : TypeInfo) (z : Value) (bytes : Nat) (ht : P.underlying t = some (.slice e)) (hi : P.info? e = some i) (hz : i.zero = some z)
    (hsize : i.size = 1) (hby : i.bytes = bytes) (hzs : z.cells.size = 1) (v : Value) (n : Nat) (xs : List Value) (hown : w.ownsRow 0 e 1 v n xs)
    (a : Addr) (m c : Nat) (news : List Value) (hl : news.length = m * 1) (hnews : ∀ j u, news[j]? = some u → w.cell? (a.add j) = some u) (h1 : ∀ u ∈ news, u.oneCell' = true)
    (h63 : n + m ≤ maxLen) (hbytes : (n + m) * bytes ≤ 140737488355328) :
    ∃ v' w', (Builtin.append_ #[t, t] ty #[v, .slice (some a) m c]).run P w = .ok v' w' ∧ w'.ownsRow 0 e 1 v' (n + m) (xs ++ news) ∧ w.grownBy w' v.ownBlock ∧
      (v'.ownBlock = v.ownBlock ∨ ∀ k, v'.ownBlock = some k → w.heap.size ≤ k) := by
  obtain ⟨v', w', hrun, r1, r2, r3⟩ := run_append_own w 0 t ty e i z 1 bytes ht hi hz hsize hby hzs (by decide) v n xs hown a m c news hl hnews h1 h63 hbytes (Nat.zero_le _)
  refine ⟨v', w', hrun, r1, r2, ?_⟩
  rcases hown.2 with ⟨rfl, rfl⟩ | ⟨g, cap, cur, rfl, hb, hg, hn, hcap, hsz, hxs⟩
  · obtain rfl : xs = [] := List.eq_nil_of_length_eq_zero (by simpa using hown.1)
    obtain ⟨v2, w2, hrun2, s1, _, _⟩ := run_append_own w w.heap.size t ty e i z 1 bytes ht hi hz hsize hby hzs (by decide) (.slice none 0 0) 0 [] (World.ownsRow_nil w _ e 1) a m c news hl hnews h1 h63 hbytes (Nat.le_refl _)
    rw [hrun] at hrun2
    cases hrun2
    exact .inr fun k hk => (s1.lt k hk).1
  · by_cases hr : n + m ≤ cap
    · have hrun2 := run_append_room_cells (P := P) w t ty e i ht hi g 0 n cap a m c news (by rw [hsize]; exact hl) hnews h1 hr (fun j hj => by
        simp only [hsize, Nat.zero_add, Nat.mul_one] at *
        simp only [World.cell?, hg]
        have : n + j < cur.size := by omega
        simp [this]) (fun j hj => by simp [World.frozen?, hg])
      rw [hrun] at hrun2
      cases hrun2
      exact .inl rfl
    · obtain ⟨v2, w2, hrun2, s1, _⟩ := run_append_arg_grows (P := P) w t ty e i z 1 bytes ht hi hz hsize hby hzs (by decide) ⟨g, 0, none⟩ n cap xs hown.1 (hown.cells rfl) a m c news hl hnews (by omega) h63 hbytes
      rw [hrun] at hrun2
      cases hrun2
      exact .inr fun k hk => (s1.lt k hk).1
theorem wpList_append_place {ops : Array Oper} {rest : List Oper} {o : Oper} {a : Act} {Q : Exit → Act → World → Prop} (hgd : o.guard = none) (s x : Operand) (t : TypeId)
    (ho : o.op = .call { callee := .builtin .append, args := #[s, x], argTypes := #[t, t] }) (e : TypeId) (i : TypeInfo) (z : Value) (bytes : Nat) (ht : P.underlying t = some (.slice e)) (hi : P.info? e = some i) (hz : i.zero = some z)
    (hsize : i.size = 1) (hby : i.bytes = bytes) (hzs : z.cells.size = 1) (v : Value) (n : Nat) (xs : List Value) (hs : a.eval s = v) (hown : w.ownsRow 0 e 1 v n xs)
    (ad : Addr) (m c : Nat) (news : List Value) (hx : a.eval x = .slice (some ad) m c) (hl : news.length = m * 1) (hnews : ∀ j u, news[j]? = some u → w.cell? (ad.add j) = some u) (h1 : ∀ u ∈ news, u.oneCell' = true)
    (h63 : n + m ≤ maxLen) (hbytes : (n + m) * bytes ≤ 140737488355328)
    (h : ∀ v' w', w'.ownsRow 0 e 1 v' (n + m) (xs ++ news) → w.grownBy w' v.ownBlock → (v'.ownBlock = v.ownBlock ∨ ∀ k, v'.ownBlock = some k → w.heap.size ≤ k) → wpList P ops Q rest (a.put o.dst v') w') :
    wpList P ops Q (o :: rest) a w := by
  refine wpList_plain hgd fun K hK' => ?_
  obtain ⟨v', w', hrun, r1, r2, r3⟩ := run_append_place (P := P) w t o.type e i z bytes ht hi hz hsize hby hzs v n xs hown ad m c news hl hnews h1 h63 hbytes
  unfold Oper.wp
  simp [execOp, ho, resolve, invoke, builtin, hs, hx, hrun, Result.andThen]
  exact hK' _ _ (h v' w' r1 r2 r3)
end Go.Proofs.YtajholbcpmjhiaaGreatDoor
/- Walks of the package asm: far. -/
namespace Go.Proofs.YtajholbcpmjhiaaGreatDoor
open Go.RowKit Go.Maps
theorem infow : (Tryz.prog.info? 150).map (fun i => (i.zero, i.size, i.bytes)) = some (some .nilFunc, 1, 8) := by kernel_rfl
end Go.Proofs.YtajholbcpmjhiaaGreatDoor
/- Put of the package asm: what its loop keeps. No function of the program is walked here. -/
namespace Go.Proofs.YtajholbcpmjhiaaGreatDoor
open Go.RowKit Go.Maps
structure InsAt (w : World) (b o : Nat) (x : Ix) : Prop where
  c0 : w.cell? ⟨b, o, none⟩ = some (.int .u8 x.op)
  c1 : w.cell? ⟨b, o + 1, none⟩ = some (.int .u8 x.rd)
  c2 : w.cell? ⟨b, o + 2, none⟩ = some (.int .u8 x.rs1)
  c3 : w.cell? ⟨b, o + 3, none⟩ = some (.int .u8 x.rs2)
  c4 : w.cell? ⟨b, o + 4, none⟩ = some (.bool x.is)
  c5 : w.cell? ⟨b, o + 5, none⟩ = some (.int .i32 x.imm)
  bd : x.bd
theorem InsAt.lt {w : World} {b o : Nat} {x : Ix} (h : InsAt w b o x) : b < w.heap.size := World.block_lt_of_cell? _ _ h.c0
theorem InsAt.keep {S : Nat → Prop} {w w' : World} {b o : Nat} {x : Ix} (h : InsAt w b o x) (hb : Only S w w') (hs : ¬ S b) : InsAt w' b o x :=
  have hl := h.lt
  ⟨(hb.cell (p := ⟨b, o, none⟩) hl hs).trans h.c0, (hb.cell (p := ⟨b, o + 1, none⟩) hl hs).trans h.c1, (hb.cell (p := ⟨b, o + 2, none⟩) hl hs).trans h.c2, (hb.cell (p := ⟨b, o + 3, none⟩) hl hs).trans h.c3, (hb.cell (p := ⟨b, o + 4, none⟩) hl hs).trans h.c4, (hb.cell (p := ⟨b, o + 5, none⟩) hl hs).trans h.c5, h.bd⟩
theorem InsAt.keepb {w w' : World} {b o : Nat} {x : Ix} (h : InsAt w b o x) (hb : Below w.heap.size w w') : InsAt w' b o x := h.keep (Only.of_below (S := fun _ => False) hb) id
def InsIn (w : World) (v : Value) (l : List Ix) : Prop :=
  l.length ≤ maxLen ∧ ∃ p c b o, v = .slice p l.length c ∧ (0 < l.length → p = some ⟨b, o, none⟩) ∧ ∀ k x, l[k]? = some x → InsAt w b (o + k * 6) x
structure PutAt (w : World) (l : List Ix) (mv : Value) (k : Nat) (wr : World) : Prop where
  ex : ∃ (vs : List Value) (C : Nat → Prop), wr.ownsRow 0 150 1 mv k vs ∧ vs.length = k ∧ (∀ (i : Nat) (v : Value) (x : Ix), vs[i]? = some v → l[i]? = some x → CloAt wr C v (.put x)) ∧ (∀ i, C i → w.heap.size ≤ i ∧ i < wr.heap.size ∧ mv.ownBlock ≠ some i)
  fresh : ∀ i, mv.ownBlock = some i → w.heap.size ≤ i
  may : ∀ (i : Nat) (x : Ix), i < k → l[i]? = some x → mayP x
  below : Below w.heap.size w wr
theorem PutAt.start (w : World) (l : List Ix) : PutAt w l (.slice none 0 0) 0 w :=
  ⟨⟨[], fun _ => False, World.ownsRow_nil w 0 _ 1, rfl, fun i v x hv => by simp at hv, fun i h => h.elim⟩, fun i h => by simp [Value.ownBlock] at h, fun i x h => by omega, Below.refl _ _⟩
theorem PutAt.more {w wr w2 w3 : World} {l : List Ix} {mv v' : Value} {k : Nat} {x : Ix} (h : PutAt w l mv k wr) (hx : l[k]? = some x) (hm : mayP x) (hb : Below wr.heap.size wr w2) (c : Nat) (hc1 : wr.heap.size ≤ c) (hc2 : c < w2.heap.size) (hc3 : w2.cell? ⟨c, 0, none⟩ = some (.int .u32 (encS x)))
    {vs : List Value} {C : Nat → Prop} (hown : wr.ownsRow 0 150 1 mv k vs) (hlen : vs.length = k) (hvs : ∀ (i : Nat) (v : Value) (x : Ix), vs[i]? = some v → l[i]? = some x → CloAt wr C v (.put x)) (hC : ∀ i, C i → w.heap.size ≤ i ∧ i < wr.heap.size ∧ mv.ownBlock ≠ some i)
    (h3 : w3.ownsRow 0 150 1 v' (k + 1) (vs ++ [.func (.func 80) #[] #[.pointer (some ⟨c, 0, none⟩)]])) (hg : w2.grownBy w3 mv.ownBlock) (hp : v'.ownBlock = mv.ownBlock ∨ ∀ i, v'.ownBlock = some i → w2.heap.size ≤ i) : PutAt w l v' (k + 1) w3 := by
  have hwr := h.below.size
  have o2 : Only (fun i => mv.ownBlock = some i) wr w3 := (Only.of_below hb).grown hg (fun i hi _ => hi.symm ▸ rfl)
  have o3 : Only (fun i => mv.ownBlock = some i) w2 w3 := (Only.refl _ _).grown hg (fun i hi _ => hi.symm ▸ rfl)
  have hne : mv.ownBlock ≠ some c := fun e => by have := (hown.lt c e).2; omega
  refine ⟨⟨_, fun i => C i ∨ i = c, h3, by simp [hlen], ?_, ?_⟩, ?_, ?_, ?_⟩
  · intro i v y hv hy
    by_cases hi : i < vs.length
    · rw [List.getElem?_append_left hi] at hv
      exact (hvs i v y hv hy).keep o2 (fun j hj e => (hC j hj).2.2 e) (fun j _ hj => .inl hj)
    · rw [List.getElem?_append_right (by omega)] at hv
      have hik : i - vs.length = 0 := by
        rcases Nat.eq_zero_or_pos (i - vs.length) with e | e
        · exact e
        · rw [List.getElem?_eq_none (by simp; omega)] at hv; cases hv
      rw [hik] at hv
      simp only [List.getElem?_cons_zero, Option.some.injEq] at hv
      obtain rfl : i = k := by omega
      rw [hx] at hy
      cases hy
      exact ⟨c, hv.symm, .inr rfl, (o3.cell (p := ⟨c, 0, none⟩) hc2 hne).trans hc3⟩
  · have hs3 := hg.size
    have hs2 := hb.size
    rintro i (hi | rfl)
    · obtain ⟨a1, a2, a3⟩ := hC i hi
      refine ⟨a1, by omega, ?_⟩
      rcases hp with e | e
      · rw [e]; exact a3
      · intro e2; have := e i e2; omega
    · refine ⟨by omega, by omega, ?_⟩
      rcases hp with e | e
      · rw [e]; exact hne
      · intro e2; have := e i e2; omega
  · intro i hi
    have hs2 := hb.size
    rcases hp with e | e
    · exact h.fresh i (e ▸ hi)
    · have := e i hi; omega
  · intro i y hi hy
    by_cases hik : i < k
    · exact h.may i y hik hy
    · obtain rfl : i = k := by omega
      rw [hx] at hy; cases hy; exact hm
  · exact o2.below (B := w.heap.size) hwr (fun i hi e => by have := h.fresh i e; omega) |> h.below.trans
def PutOk (w : World) (p : Nat) (sv : Value) (m : Nat) (K : Nat → Prop) (L : List It) (M : List (List UInt8 × Int)) (l : List Ix) (e : Ending) (w' : World) : Prop :=
  if ∀ x ∈ l, mayP x then e = .returned (.int .i64 0) ∧ AddOk w p sv m K L M (l.map .put) w' else e = .returned (.int .i64 2) ∧ Below w.heap.size w w'
theorem PutAt.fin {w wr w3 : World} {l : List Ix} {mv v' : Value} {p m : Nat} {sv : Value} {K : Nat → Prop} {L : List It} {M : List (List UInt8 × Int)} (hA : AsmAt w p sv m K L M) (h : PutAt w l mv l.length wr) {vs : List Value} {C : Nat → Prop}
    (hlen : vs.length = l.length) (hvs : ∀ (i : Nat) (v : Value) (x : Ix), vs[i]? = some v → l[i]? = some x → CloAt wr C v (.put x)) (hC : ∀ i, C i → w.heap.size ≤ i ∧ i < wr.heap.size ∧ mv.ownBlock ≠ some i)
    {us : List Value} (hul : us.length = L.length) (hus : ∀ (i : Nat) (v : Value) (it : It), us[i]? = some v → L[i]? = some it → CloAt wr (fun k => K k ∧ k < w.heap.size) v it)
    (hr : w3.ownsRow 0 150 1 v' (L.length + l.length) (us ++ vs)) (g : wr.grownBy w3 sv.ownBlock) (hpl : v'.ownBlock = sv.ownBlock ∨ ∀ k, v'.ownBlock = some k → wr.heap.size ≤ k) :
    AddOk w p sv m K L M (l.map .put) (w3.setCell ⟨p, 0, none⟩ v') := by
  have hbl := hA.blocks
  have hA2 := (hA.trim).keep (Only.of_below (S := fun _ => False) h.below) (fun _ _ h => h) (fun _ _ h => h)
  have hwr := h.below.size
  have hadd := hA2.add (L2 := l.map .put) (K2 := fun k => (K k ∧ k < w.heap.size) ∨ C k) (vs := us) (new := vs) g (by rw [List.length_map]; exact hr) hpl hul hus (by rw [List.length_map]; exact hlen)
    (fun i v it hv hi => by
      rw [List.getElem?_map] at hi
      cases hli : l[i]? with
      | none => rw [hli] at hi; cases hi
      | some x =>
        rw [hli] at hi
        cases hi
        exact (hvs i v x hv hli).keep (Only.refl (fun _ => False) wr) (fun _ _ h => h) (fun k _ hk => .inr hk))
    (fun k hk => by
      rcases hk with hk | hk
      · exact ⟨by omega, hA.apart k hk.1⟩
      · obtain ⟨a1, a2, a3⟩ := hC k hk
        exact ⟨a2, by omega, fun e => by have := hbl.2.2 k e; omega, by omega⟩)
    (fun k _ hk => .inl hk)
  refine ⟨v', _, hadd.1, ?_, ?_, ?_⟩
  · exact (Only.of_below h.below).fresh hadd.2 (fun _ _ h => h)
  · intro k hk ho
    rcases ho with h | h | h
    · exact .inl h
    · rcases hpl with e | e
      · exact .inr (.inl (e ▸ h))
      · have := e k h; omega
    · exact .inr (.inr h)
  · intro k hk ho
    rcases ho with h | h
    · exact h.1
    · have := (hC k h).1; omega
end Go.Proofs.YtajholbcpmjhiaaGreatDoor
