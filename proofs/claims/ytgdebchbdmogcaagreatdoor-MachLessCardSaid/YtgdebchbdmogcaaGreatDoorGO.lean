/- Several texts in one: InstEnc, InstRKind, InstRMayNo. -/
import Derived.Test.YtgdebchbdmogcaaGreatDoorGN
import Derived.Outline
/- Walks of inst.may, whole, and of inst.Encode. -/
namespace Go.Proofs.YtgdebchbdmogcaaGreatDoor
open Go.RowKit
set_option linter.unusedVariables false
set_option linter.unusedSimpArgs false
theorem may_out {x : Ix} (h : 31 < x.rd ∨ 31 < x.rs1 ∨ 31 < x.rs2 ∨ kindS x.op = 0 ∨ (x.op = 17 ∧ 6 < x.rd)) : mayB x = false := by
  unfold mayB mayP
  refine decide_eq_false ?_
  rintro ⟨h1, h2, h3, h4⟩
  rcases h with h | h | h | h | ⟨h, h'⟩
  · omega
  · omega
  · omega
  · rw [h] at h4; simp [okS] at h4
  · rw [h, show kindS 17 = 4 from by decide] at h4; simp [okS] at h4; omega
theorem hasK_no {k : Int} (h : k ≠ 0) (h0 : 0 ≤ k ∧ k ≤ 12) : (hasK k == 128) = false := by
  obtain ⟨n, rfl⟩ := Int.eq_ofNat_of_zero_le h0.1
  match n, h, h0 with
  | 0, h, _ => exact absurd rfl h
  | 1, _, _ => decide
  | 2, _, _ => decide
  | 3, _, _ => decide
  | 4, _, _ => decide
  | 5, _, _ => decide
  | 6, _, _ => decide
  | 7, _, _ => decide
  | 8, _, _ => decide
  | 9, _, _ => decide
  | 10, _, _ => decide
  | 11, _, _ => decide
  | 12, _, _ => decide
  | (n + 13), _, h0 => omega
set_option maxRecDepth 100000 in
set_option maxHeartbeats 1000000 in
theorem may_no (x : Ix) (hb : x.bd) (h : 31 < x.rd ∨ 31 < x.rs1 ∨ 31 < x.rs2 ∨ kindS x.op = 0 ∨ (x.op = 17 ∧ 6 < x.rd)) (w : World) (ht : Tab w) :
    Calls Tryz.prog 117 #[x.agg] w fun e w' => e = .returned (.bool (mayB x)) ∧ Below w.heap.size w w' := by
  rw [may_out h]
  obtain ⟨op, rd, rs1, rs2, is, imm⟩ := x
  obtain ⟨b0, b1, b2, b3, b4⟩ := hb
  simp only at b0 b1 b2 b3 b4 h
  have HT := ihid ht
  clear ht
  by_cases hk : kindS op = 0
  · have E1 := ihid (show hasK (kindS op) = 128 by rw [hk]; rfl)
    clear h hk
    go_enter Tryz.func117, Tryz.ntmps117
    go_wp2_with fail
    refine (ihas_any op 128 b0.1 b0.2 E1.out _ (HT.out.keep ((Below.refl _ w).alloc (Nat.le_refl _) _))).mono ?_
    rintro e w' ⟨rfl, rfl⟩
    go_wp2_with fail
    go_ret
    exact ⟨rfl, (Below.refl _ _).alloc (Nat.le_refl _) _⟩
  · have hh := hasK_no hk (kind_bd op)
    generalize hq : hasK (kindS op) = q at hh
    have E1 := ihid hq
    clear hq hk
    by_cases g1 : 31 < rd
    · have g1' : decide (31 < rd) = true := by simpa using g1
      clear h
      go_enter Tryz.func117, Tryz.ntmps117
      go_wp2_with fail
      refine (ihas_any op q b0.1 b0.2 E1.out _ (HT.out.keep ((Below.refl _ w).alloc (Nat.le_refl _) _))).mono ?_
      rintro e w' ⟨rfl, rfl⟩
      go_wp2_with fail
      go_ret
      exact ⟨rfl, (Below.refl _ _).alloc (Nat.le_refl _) _⟩
    · have g1' : decide (31 < rd) = false := by simpa using g1
      by_cases g2 : 31 < rs1
      · have g2' : decide (31 < rs1) = true := by simpa using g2
        clear h
        go_enter Tryz.func117, Tryz.ntmps117
        go_wp2_with fail
        refine (ihas_any op q b0.1 b0.2 E1.out _ (HT.out.keep ((Below.refl _ w).alloc (Nat.le_refl _) _))).mono ?_
        rintro e w' ⟨rfl, rfl⟩
        go_wp2_with fail
        go_ret
        exact ⟨rfl, (Below.refl _ _).alloc (Nat.le_refl _) _⟩
      · have g2' : decide (31 < rs1) = false := by simpa using g2
        by_cases g3 : 31 < rs2
        · have g3' : decide (31 < rs2) = true := by simpa using g3
          clear h
          go_enter Tryz.func117, Tryz.ntmps117
          go_wp2_with fail
          refine (ihas_any op q b0.1 b0.2 E1.out _ (HT.out.keep ((Below.refl _ w).alloc (Nat.le_refl _) _))).mono ?_
          rintro e w' ⟨rfl, rfl⟩
          go_wp2_with fail
          go_ret
          exact ⟨rfl, (Below.refl _ _).alloc (Nat.le_refl _) _⟩
        · have g3' : decide (31 < rs2) = false := by simpa using g3
          obtain ⟨rfl, g6⟩ : op = 17 ∧ 6 < rd := by
            rcases h with h | h | h | h | h
            · omega
            · omega
            · omega
            · exfalso; rw [h] at E1; have := E1.out; rw [← this] at hh; simp [hasK] at hh
            · exact h
          have g6' : decide (6 < rd) = true := by simpa using g6
          clear h
          go_enter Tryz.func117, Tryz.ntmps117
          go_wp2_with fail
          refine (ihas_any 17 q b0.1 b0.2 E1.out _ (HT.out.keep ((Below.refl _ w).alloc (Nat.le_refl _) _))).mono ?_
          rintro e w' ⟨rfl, rfl⟩
          go_wp2_with fail
          go_ret
          exact ⟨rfl, (Below.refl _ _).alloc (Nat.le_refl _) _⟩
theorem kind_fin : ∀ n : Fin 38, (kindS (n.val : Int) = 3 → n.val = 15) ∧ (kindS (n.val : Int) = 4 → n.val = 17) ∧ (kindS (n.val : Int) = 5 → n.val = 18) ∧ (kindS (n.val : Int) = 7 → n.val = 30) ∧ (kindS (n.val : Int) = 8 → n.val = 31) ∧ (kindS (n.val : Int) = 9 → n.val = 33) ∧ (kindS (n.val : Int) = 11 → n.val = 37) ∧ (kindS (n.val : Int) = 12 → n.val = 32) := by decide
theorem kind_one {op k : Int} (h : kindS op = k) : (k = 3 → op = 15) ∧ (k = 4 → op = 17) ∧ (k = 5 → op = 18) ∧ (k = 7 → op = 30) ∧ (k = 8 → op = 31) ∧ (k = 9 → op = 33) ∧ (k = 11 → op = 37) ∧ (k = 12 → op = 32) := by
  by_cases h0 : kindS op = 0
  · rw [h0] at h; omega
  · have hr := kind_op h0
    obtain ⟨n, rfl⟩ := Int.eq_ofNat_of_zero_le (show 0 ≤ op by omega)
    have hf := kind_fin ⟨n, by omega⟩
    simp only at hf
    rw [h] at hf
    omega
theorem may_any (x : Ix) (hb : x.bd) (w : World) (ht : Tab w) :
    Calls Tryz.prog 117 #[x.agg] w fun e w' => e = .returned (.bool (mayB x)) ∧ Below w.heap.size w w' := by
  by_cases h : 31 < x.rd ∨ 31 < x.rs1 ∨ 31 < x.rs2 ∨ kindS x.op = 0 ∨ (x.op = 17 ∧ 6 < x.rd)
  · exact may_no x hb h w ht
  · obtain ⟨op, rd, rs1, rs2, is, imm⟩ := x
    simp only [not_or] at h
    obtain ⟨h1, h2, h3, h4, h5⟩ := h
    have h1 : rd ≤ 31 := by omega
    have h2 : rs1 ≤ 31 := by omega
    have h3 : rs2 ≤ 31 := by omega
    obtain ⟨k3, k4, k5, k7, k8, k9, k11, k12⟩ := kind_one (op := op) rfl
    rcases kind_cases op with hk | hk | hk | hk | hk | hk | hk | hk | hk | hk | hk | hk | hk
    · exact absurd hk h4
    · cases is
      · exact may_1f _ _ _ _ _ hb hk h1 h2 h3 w ht
      · exact may_1t _ _ _ _ _ hb hk h1 h2 h3 w ht
    · cases is
      · exact may_2f _ _ _ _ _ hb hk h1 h2 h3 w ht
      · exact may_2t _ _ _ _ _ hb hk h1 h2 h3 w ht
    · obtain rfl := k3 hk
      cases is
      · exact may_3f _ _ _ _ hb h1 h2 h3 w ht
      · exact may_3t _ _ _ _ hb h1 h2 h3 w ht
    · obtain rfl := k4 hk
      have h6 : rd ≤ 6 := by omega
      cases is
      · exact may_4f _ _ _ _ hb h1 h2 h3 h6 w ht
      · exact may_4t _ _ _ _ hb h1 h2 h3 h6 w ht
    · obtain rfl := k5 hk
      cases is
      · exact may_5f _ _ _ _ hb h1 h2 h3 w ht
      · exact may_5t _ _ _ _ hb h1 h2 h3 w ht
    · cases is
      · exact may_6f _ _ _ _ _ hb hk h1 h2 h3 w ht
      · exact may_6t _ _ _ _ _ hb hk h1 h2 h3 w ht
    · obtain rfl := k7 hk
      cases is
      · exact may_7f _ _ _ _ hb h1 h2 h3 w ht
      · exact may_7t _ _ _ _ hb h1 h2 h3 w ht
    · obtain rfl := k8 hk
      cases is
      · exact may_8f _ _ _ _ hb h1 h2 h3 w ht
      · exact may_8t _ _ _ _ hb h1 h2 h3 w ht
    · obtain rfl := k9 hk
      cases is
      · exact may_9f _ _ _ _ hb h1 h2 h3 w ht
      · exact may_9t _ _ _ _ hb h1 h2 h3 w ht
    · cases is
      · exact may_10f _ _ _ _ _ hb hk h1 h2 h3 w ht
      · exact may_10t _ _ _ _ _ hb hk h1 h2 h3 w ht
    · obtain rfl := k11 hk
      cases is
      · exact may_11f _ _ _ _ hb h1 h2 h3 w ht
      · exact may_11t _ _ _ _ hb h1 h2 h3 w ht
    · obtain rfl := k12 hk
      cases is
      · exact may_12f _ _ _ _ hb h1 h2 h3 w ht
      · exact may_12t _ _ _ _ hb h1 h2 h3 w ht
set_option maxRecDepth 100000 in
set_option maxHeartbeats 1000000 in
theorem enc_no (x : Ix) (hb : x.bd) (hm : mayB x = false) (w : World) (ht : Tab w) :
    Calls Tryz.prog 99 #[x.agg] w fun e w' => e = .returned (.tuple #[.int .u32 0, .int .i64 2]) ∧ Below w.heap.size w w' := by
  have h := may_any x hb (w.alloc (.cells #[.int .u8 x.op, .int .u8 x.rd, .int .u8 x.rs1, .int .u8 x.rs2, .bool x.is, .int .i32 x.imm] 65)) (ht.keep ((Below.refl _ w).alloc (Nat.le_refl _) _))
  rw [hm] at h
  have H := ihid h
  clear h hm hb
  obtain ⟨op, rd, rs1, rs2, is, imm⟩ := x
  go_enter Tryz.func99, Tryz.ntmps99
  go_wp2_with fail
  refine H.out.mono ?_
  rintro e w' ⟨rfl, hbl⟩
  have HB := ihid hbl
  clear hbl
  go_wp2_with fail
  go_ret2
  exact ⟨rfl, ((Below.refl _ _).alloc (Nat.le_refl _) _).trans (HB.out.mono (by simp))⟩
/-- A number put behind another one is a sum. -/
theorem or_add {a b : Int} (k : Nat) (hk : k ≤ 32) (ha : 0 ≤ a) (ha2 : a < 4294967296) (hd : a % 2 ^ k = 0) (hb : 0 ≤ b) (hb2 : b < 2 ^ k) : bits .or .u32 a b = a + b := by
  obtain ⟨A, rfl⟩ := Int.eq_ofNat_of_zero_le ha
  obtain ⟨B, rfl⟩ := Int.eq_ofNat_of_zero_le hb
  have hp : (2 : Int) ^ k = ((2 ^ k : Nat) : Int) := by simp
  rw [hp] at hd hb2
  have hp2 : 2 ^ k ≤ 2 ^ 32 := Nat.pow_le_pow_right (by omega) hk
  have hB : B < 2 ^ k := by omega
  have hA : 2 ^ k * (A / 2 ^ k) = A := by
    have h1 : A % 2 ^ k = 0 := by omega
    have h2 := Nat.div_add_mod A (2 ^ k)
    omega
  rw [u32_or _ _ (by omega) ha2 (by omega) (by omega)]
  simp only [Int.toNat_natCast]
  rw [← hA, ← Nat.two_pow_add_eq_or_of_lt hB]
  omega
theorem and_mod {a : Int} (k : Nat) (m : Int) (hk : k ≤ 32) (hm : m = 2 ^ k - 1) (ha : 0 ≤ a) (ha2 : a < 4294967296) : bits .and .u32 a m = a % 2 ^ k := by
  subst hm
  obtain ⟨A, rfl⟩ := Int.eq_ofNat_of_zero_le ha
  have hp : (2 : Int) ^ k = ((2 ^ k : Nat) : Int) := by simp
  have h1 : 1 ≤ 2 ^ k := Nat.one_le_two_pow
  have hp2 : 2 ^ k ≤ 2 ^ 32 := Nat.pow_le_pow_right (by omega) hk
  rw [hp, u32_and _ _ (by omega) ha2 (by omega) (by omega)]
  rw [show ((2 ^ k : Nat) : Int) - 1 = ((2 ^ k - 1 : Nat) : Int) from by omega]
  simp only [Int.toNat_natCast]
  rw [Nat.and_two_pow_sub_one_eq_mod]
  omega
theorem or_two {op rd : Int} (b0 : 1 ≤ op ∧ op ≤ 37) (b1 : 0 ≤ rd ∧ rd ≤ 31) : bits .or .u32 (op * 67108864) (rd * 2097152) = op * 67108864 + rd * 2097152 :=
  or_add 26 (by omega) (by omega) (by omega) (by omega) (by omega) (by omega)
theorem imm_mod (imm : Int) (k : Nat) (m d : Int) (hk : k ≤ 32) (hm : m = 2 ^ k - 1) (hd : d = 2 ^ k) (hdd : (4294967296 : Int) % d = 0) : bits .and .u32 (imm % 4294967296) m = imm % d := by
  rw [and_mod k m hk hm (by omega) (by omega), ← hd]
  exact Int.emod_emod_of_dvd _ (Int.dvd_of_emod_eq_zero hdd)
theorem enc_w1 {op rd imm : Int} (b0 : 1 ≤ op ∧ op ≤ 37) (b1 : 0 ≤ rd ∧ rd ≤ 31) : bits .or .u32 (bits .or .u32 (op * 67108864) (rd * 2097152)) (bits .and .u32 (imm % 4294967296) 2097151) = op * 67108864 + rd * 2097152 + imm % 2097152 := by
  rw [or_two b0 b1, imm_mod imm 21 2097151 2097152 (by omega) (by decide) (by decide) (by decide)]
  exact or_add 21 (by omega) (by omega) (by omega) (by omega) (by omega) (by omega)
theorem enc_w2 {op rd rs1 imm : Int} (b0 : 1 ≤ op ∧ op ≤ 37) (b1 : 0 ≤ rd ∧ rd ≤ 31) (b2 : 0 ≤ rs1 ∧ rs1 ≤ 31) : bits .or .u32 (bits .or .u32 (bits .or .u32 (bits .or .u32 (op * 67108864) (rd * 2097152)) (rs1 * 65536)) 32768) (bits .and .u32 (imm % 4294967296) 32767) = op * 67108864 + rd * 2097152 + (rs1 * 65536 + (32768 + imm % 32768)) := by
  rw [or_two b0 b1, imm_mod imm 15 32767 32768 (by omega) (by decide) (by decide) (by decide)]
  rw [or_add (b := rs1 * 65536) 21 (by omega) (by omega) (by omega) (by omega) (by omega) (by omega)]
  rw [or_add (b := 32768) 16 (by omega) (by omega) (by omega) (by omega) (by omega) (by omega)]
  rw [or_add 15 (by omega) (by omega) (by omega) (by omega) (by omega) (by omega)]
  omega
theorem enc_w3 {op rd rs1 rs2 : Int} (b0 : 1 ≤ op ∧ op ≤ 37) (b1 : 0 ≤ rd ∧ rd ≤ 31) (b2 : 0 ≤ rs1 ∧ rs1 ≤ 31) (b3 : 0 ≤ rs2 ∧ rs2 ≤ 31) : bits .or .u32 (bits .or .u32 (bits .or .u32 (op * 67108864) (rd * 2097152)) (rs1 * 65536)) rs2 = op * 67108864 + rd * 2097152 + (rs1 * 65536 + rs2) := by
  rw [or_two b0 b1]
  rw [or_add (b := rs1 * 65536) 21 (by omega) (by omega) (by omega) (by omega) (by omega) (by omega)]
  rw [or_add 16 (by omega) (by omega) (by omega) (by omega) (by omega) (by omega)]
  omega
theorem long_bit {k : Int} (hl : longK k) : ∃ q, hasK k = q ∧ (bits .and .u8 q 16 != 0) = true := by
  rcases hl with rfl | rfl | rfl <;> exact ⟨_, rfl, by decide⟩
theorem kind_of_may {x : Ix} (h : mayP x) : kindS x.op ≠ 0 := by
  intro h0
  have := h.2.2.2
  rw [h0] at this; simp [okS] at this
theorem short_bit {op : Int} (hl : ¬ longK (kindS op)) (h0 : kindS op ≠ 0) : ∃ q, hasK (kindS op) = q ∧ (bits .and .u8 q 16 != 0) = false := by
  unfold longK at hl
  rcases kind_cases op with hk | hk | hk | hk | hk | hk | hk | hk | hk | hk | hk | hk | hk <;> rw [hk] at hl h0 ⊢ <;> first | (exfalso; omega) | exact ⟨_, rfl, by decide⟩
set_option maxRecDepth 100000 in
set_option maxHeartbeats 1000000 in
theorem enc_long (op rd rs1 rs2 imm : Int) (hb : (⟨op, rd, rs1, rs2, true, imm⟩ : Ix).bd) (hm : mayP ⟨op, rd, rs1, rs2, true, imm⟩) (hl : longK (kindS op)) (w : World) (ht : Tab w) :
    Calls Tryz.prog 99 #[(⟨op, rd, rs1, rs2, true, imm⟩ : Ix).agg] w fun e w' => e = .returned (.tuple #[.int .u32 (wordS ⟨op, rd, rs1, rs2, true, imm⟩), .int .i64 0]) ∧ Below w.heap.size w w' := by
  have h := may_any ⟨op, rd, rs1, rs2, true, imm⟩ hb (w.alloc (.cells #[.int .u8 op, .int .u8 rd, .int .u8 rs1, .int .u8 rs2, .bool true, .int .i32 imm] 65)) (ht.keep ((Below.refl _ w).alloc (Nat.le_refl _) _))
  rw [show mayB ⟨op, rd, rs1, rs2, true, imm⟩ = true from decide_eq_true hm] at h
  have H := ihid h
  have HT := ihid ht
  have B := may_bd hb hm
  obtain ⟨q, hq, hq2⟩ : ∃ q, hasK (kindS op) = q ∧ (bits .and .u8 q 16 != 0) = true := long_bit hl
  obtain ⟨b0, b1, b2, b3, b4⟩ := hb
  simp only at b0 b1 b2 b3 b4 B
  clear h hm ht
  have HQ := ihid hq
  have HL := ihid hl
  clear hq hl
  go_enter Tryz.func99, Tryz.ntmps99
  go_wp2_with fail
  refine H.out.mono ?_
  rintro e w' ⟨rfl, hbl⟩
  have hx := hbl.cell (p := ⟨w.heap.size, 0, none⟩) (by simp)
  have hx1 := hbl.cell (p := ⟨w.heap.size, 1, none⟩) (by simp)
  have hx2 := hbl.cell (p := ⟨w.heap.size, 2, none⟩) (by simp)
  have hx3 := hbl.cell (p := ⟨w.heap.size, 3, none⟩) (by simp)
  have hx4 := hbl.cell (p := ⟨w.heap.size, 4, none⟩) (by simp)
  have hx5 := hbl.cell (p := ⟨w.heap.size, 5, none⟩) (by simp)
  simp at hx hx1 hx2 hx3 hx4 hx5
  have HB := ihid hbl
  clear hbl
  go_wp2_with fail
  refine (ihas_any op q b0.1 b0.2 HQ.out _ ((HT.out.keep ((Below.refl _ w).alloc (Nat.le_refl _) _)).keep HB.out)).mono ?_
  rintro e w' ⟨rfl, rfl⟩
  go_wp2_with fail
  go_ret2
  exact ⟨iret2 ((enc_w1 B.1 B.2.1).trans (by simp only [wordS, tailS, if_pos HL.out])) rfl, ((Below.refl _ _).alloc (Nat.le_refl _) _).trans (HB.out.mono (by simp))⟩
set_option maxRecDepth 100000 in
set_option maxHeartbeats 1000000 in
theorem enc_is (op rd rs1 rs2 imm : Int) (hb : (⟨op, rd, rs1, rs2, true, imm⟩ : Ix).bd) (hm : mayP ⟨op, rd, rs1, rs2, true, imm⟩) (hl : ¬ longK (kindS op)) (w : World) (ht : Tab w) :
    Calls Tryz.prog 99 #[(⟨op, rd, rs1, rs2, true, imm⟩ : Ix).agg] w fun e w' => e = .returned (.tuple #[.int .u32 (wordS ⟨op, rd, rs1, rs2, true, imm⟩), .int .i64 0]) ∧ Below w.heap.size w w' := by
  have h := may_any ⟨op, rd, rs1, rs2, true, imm⟩ hb (w.alloc (.cells #[.int .u8 op, .int .u8 rd, .int .u8 rs1, .int .u8 rs2, .bool true, .int .i32 imm] 65)) (ht.keep ((Below.refl _ w).alloc (Nat.le_refl _) _))
  rw [show mayB ⟨op, rd, rs1, rs2, true, imm⟩ = true from decide_eq_true hm] at h
  have H := ihid h
  have HT := ihid ht
  have B := may_bd hb hm
  obtain ⟨q, hq, hq2⟩ : ∃ q, hasK (kindS op) = q ∧ (bits .and .u8 q 16 != 0) = false := short_bit hl (kind_of_may hm)
  obtain ⟨b0, b1, b2, b3, b4⟩ := hb
  simp only at b0 b1 b2 b3 b4 B
  clear h hm ht
  have HQ := ihid hq
  have HL := ihid hl
  clear hq hl
  go_enter Tryz.func99, Tryz.ntmps99
  go_wp2_with fail
  refine H.out.mono ?_
  rintro e w' ⟨rfl, hbl⟩
  have hx := hbl.cell (p := ⟨w.heap.size, 0, none⟩) (by simp)
  have hx1 := hbl.cell (p := ⟨w.heap.size, 1, none⟩) (by simp)
  have hx2 := hbl.cell (p := ⟨w.heap.size, 2, none⟩) (by simp)
  have hx3 := hbl.cell (p := ⟨w.heap.size, 3, none⟩) (by simp)
  have hx4 := hbl.cell (p := ⟨w.heap.size, 4, none⟩) (by simp)
  have hx5 := hbl.cell (p := ⟨w.heap.size, 5, none⟩) (by simp)
  simp at hx hx1 hx2 hx3 hx4 hx5
  have HB := ihid hbl
  clear hbl
  go_wp2_with fail
  refine (ihas_any op q b0.1 b0.2 HQ.out _ ((HT.out.keep ((Below.refl _ w).alloc (Nat.le_refl _) _)).keep HB.out)).mono ?_
  rintro e w' ⟨rfl, rfl⟩
  go_wp2_with fail
  go_ret2
  exact ⟨iret2 ((enc_w2 B.1 B.2.1 B.2.2.1).trans (by simp only [wordS, tailS, if_neg HL.out, if_true])) rfl, ((Below.refl _ _).alloc (Nat.le_refl _) _).trans (HB.out.mono (by simp))⟩
set_option maxRecDepth 100000 in
set_option maxHeartbeats 1000000 in
theorem enc_reg (op rd rs1 rs2 imm : Int) (hb : (⟨op, rd, rs1, rs2, false, imm⟩ : Ix).bd) (hm : mayP ⟨op, rd, rs1, rs2, false, imm⟩) (hl : ¬ longK (kindS op)) (w : World) (ht : Tab w) :
    Calls Tryz.prog 99 #[(⟨op, rd, rs1, rs2, false, imm⟩ : Ix).agg] w fun e w' => e = .returned (.tuple #[.int .u32 (wordS ⟨op, rd, rs1, rs2, false, imm⟩), .int .i64 0]) ∧ Below w.heap.size w w' := by
  have h := may_any ⟨op, rd, rs1, rs2, false, imm⟩ hb (w.alloc (.cells #[.int .u8 op, .int .u8 rd, .int .u8 rs1, .int .u8 rs2, .bool false, .int .i32 imm] 65)) (ht.keep ((Below.refl _ w).alloc (Nat.le_refl _) _))
  rw [show mayB ⟨op, rd, rs1, rs2, false, imm⟩ = true from decide_eq_true hm] at h
  have H := ihid h
  have HT := ihid ht
  have B := may_bd hb hm
  obtain ⟨q, hq, hq2⟩ : ∃ q, hasK (kindS op) = q ∧ (bits .and .u8 q 16 != 0) = false := short_bit hl (kind_of_may hm)
  obtain ⟨b0, b1, b2, b3, b4⟩ := hb
  simp only at b0 b1 b2 b3 b4 B
  clear h hm ht
  have HQ := ihid hq
  have HL := ihid hl
  clear hq hl
  go_enter Tryz.func99, Tryz.ntmps99
  go_wp2_with fail
  refine H.out.mono ?_
  rintro e w' ⟨rfl, hbl⟩
  have hx := hbl.cell (p := ⟨w.heap.size, 0, none⟩) (by simp)
  have hx1 := hbl.cell (p := ⟨w.heap.size, 1, none⟩) (by simp)
  have hx2 := hbl.cell (p := ⟨w.heap.size, 2, none⟩) (by simp)
  have hx3 := hbl.cell (p := ⟨w.heap.size, 3, none⟩) (by simp)
  have hx4 := hbl.cell (p := ⟨w.heap.size, 4, none⟩) (by simp)
  have hx5 := hbl.cell (p := ⟨w.heap.size, 5, none⟩) (by simp)
  simp at hx hx1 hx2 hx3 hx4 hx5
  have HB := ihid hbl
  clear hbl
  go_wp2_with fail
  refine (ihas_any op q b0.1 b0.2 HQ.out _ ((HT.out.keep ((Below.refl _ w).alloc (Nat.le_refl _) _)).keep HB.out)).mono ?_
  rintro e w' ⟨rfl, rfl⟩
  go_wp2_with fail
  go_ret2
  exact ⟨iret2 ((enc_w3 B.1 B.2.1 B.2.2.1 B.2.2.2).trans (by simp only [wordS, tailS, if_neg HL.out, Bool.false_eq_true, if_false])) rfl, ((Below.refl _ _).alloc (Nat.le_refl _) _).trans (HB.out.mono (by simp))⟩
theorem encode_any (x : Ix) (hb : x.bd) (w : World) (ht : Tab w) :
    Calls Tryz.prog 99 #[x.agg] w fun e w' => e = .returned (.tuple #[.int .u32 (encS x), .int .i64 (encE x)]) ∧ Below w.heap.size w w' := by
  unfold encS encE
  by_cases hm : mayP x
  · rw [if_pos hm, if_pos hm]
    obtain ⟨op, rd, rs1, rs2, is, imm⟩ := x
    by_cases hl : longK (kindS op)
    · cases is
      · have := (ok_long hl hm.2.2.2).1; simp at this
      · exact enc_long op rd rs1 rs2 imm hb hm hl w ht
    · cases is
      · exact enc_reg op rd rs1 rs2 imm hb hm hl w ht
      · exact enc_is op rd rs1 rs2 imm hb hm hl w ht
  · rw [if_neg hm, if_neg hm]
    exact enc_no x hb (decide_eq_false hm) w ht
end Go.Proofs.YtgdebchbdmogcaaGreatDoor
/- Walks of the document's Kind and May (muntinref02). -/
namespace Go.Proofs.YtgdebchbdmogcaaGreatDoor
open Go.RowKit
set_option linter.unusedVariables false
set_option linter.unusedSimpArgs false
set_option maxHeartbeats 1000000 in
theorem rkind_one (op : Int) (h : (1 ≤ op ∧ op ≤ 14) ∨ (19 ≤ op ∧ op ≤ 25)) (w : World) : Calls Tryz.prog 113 #[.int .u8 op] w fun e w' => e = .returned (.int .i64 1) ∧ w = w' := by
  rcases h with ⟨h1, h2⟩ | ⟨h1, h2⟩
  · have g1 : decide (1 ≤ op) = true := by simpa using h1
    have g2 : decide (op ≤ 14) = true := by simpa using h2
    go_enter Tryz.func113, Tryz.ntmps113
    go_wp2
    go_ret
    exact ⟨rfl, rfl⟩
  · have g0 : decide (1 ≤ op) = true := by simp; omega
    have g1 : decide (op ≤ 14) = false := by simp; omega
    have g2 : decide (19 ≤ op) = true := by simpa using h1
    have g3 : decide (op ≤ 25) = true := by simpa using h2
    go_enter Tryz.func113, Tryz.ntmps113
    go_wp2
    go_ret
    exact ⟨rfl, rfl⟩
set_option maxHeartbeats 1000000 in
theorem rkind_far (op : Int) (h : 37 < op) (w : World) : Calls Tryz.prog 113 #[.int .u8 op] w fun e w' => e = .returned (.int .i64 0) ∧ w = w' := by
  have g0 : decide (1 ≤ op) = true := by simp; omega
  have g1 : decide (op ≤ 14) = false := by simp; omega
  have g2 : decide (19 ≤ op) = true := by simp; omega
  have g3 : decide (op ≤ 25) = false := by simp; omega
  have e15 : (op == 15) = false := by simp; omega
  have e16 : (op == 16) = false := by simp; omega
  have e17 : (op == 17) = false := by simp; omega
  have e18 : (op == 18) = false := by simp; omega
  have e26 : (op == 26) = false := by simp; omega
  have e27 : (op == 27) = false := by simp; omega
  have e28 : (op == 28) = false := by simp; omega
  have e29 : (op == 29) = false := by simp; omega
  have e30 : (op == 30) = false := by simp; omega
  have e31 : (op == 31) = false := by simp; omega
  have e32 : (op == 32) = false := by simp; omega
  have e33 : (op == 33) = false := by simp; omega
  have e34 : (op == 34) = false := by simp; omega
  have e35 : (op == 35) = false := by simp; omega
  have e36 : (op == 36) = false := by simp; omega
  have e37 : (op == 37) = false := by simp; omega
  go_enter Tryz.func113, Tryz.ntmps113
  go_wp2
  go_ret
  exact ⟨rfl, rfl⟩
set_option maxHeartbeats 4000000 in
theorem rkind_lit (op : Int) (h : op = 0 ∨ op = 15 ∨ op = 16 ∨ op = 17 ∨ op = 18 ∨ op = 26 ∨ op = 27 ∨ op = 28 ∨ op = 29 ∨ op = 30 ∨ op = 31 ∨ op = 32 ∨ op = 33 ∨ op = 34 ∨ op = 35 ∨ op = 36 ∨ op = 37) (w : World) : Calls Tryz.prog 113 #[.int .u8 op] w fun e w' => e = .returned (.int .i64 (kindS op)) ∧ w = w' := by
  rcases h with rfl | rfl | rfl | rfl | rfl | rfl | rfl | rfl | rfl | rfl | rfl | rfl | rfl | rfl | rfl | rfl | rfl
  all_goals
    go_enter Tryz.func113, Tryz.ntmps113
    go_wp2
    go_ret
    exact ⟨iret (by decide), rfl⟩
theorem rkind_any (op k : Int) (h0 : 0 ≤ op) (hk : kindS op = k) (w : World) : Calls Tryz.prog 113 #[.int .u8 op] w fun e w' => e = .returned (.int .i64 k) ∧ w = w' := by
  subst hk
  by_cases h1 : (1 ≤ op ∧ op ≤ 14) ∨ (19 ≤ op ∧ op ≤ 25)
  · rw [show kindS op = 1 from if_pos h1]; exact rkind_one op h1 w
  · by_cases h2 : 37 < op
    · rw [kind_no (.inr h2)]; exact rkind_far op h2 w
    · exact rkind_lit op (by omega) w
set_option maxHeartbeats 1000000 in
theorem rbetween_any (n low high : Int) (w : World) : Calls Tryz.prog 137 #[.int .i32 n, .int .i32 low, .int .i32 high] w fun e w' => e = .returned (.bool (decide (low ≤ n ∧ n ≤ high))) ∧ w = w' := by
  by_cases h1 : low ≤ n
  · by_cases h2 : n ≤ high
    · have g1 : decide (low ≤ n) = true := by simpa using h1
      have g2 : decide (n ≤ high) = true := by simpa using h2
      have E := ihid (show decide (low ≤ n ∧ n ≤ high) = true from decide_eq_true ⟨h1, h2⟩)
      clear h1 h2
      go_enter Tryz.func137, Tryz.ntmps137
      go_wp2
      go_ret
      exact ⟨iretb E.out.symm, rfl⟩
    · have g1 : decide (low ≤ n) = true := by simpa using h1
      have g2 : decide (n ≤ high) = false := by simpa using h2
      have E := ihid (show decide (low ≤ n ∧ n ≤ high) = false from decide_eq_false (fun h => h2 h.2))
      clear h1 h2
      go_enter Tryz.func137, Tryz.ntmps137
      go_wp2
      go_ret
      exact ⟨iretb E.out.symm, rfl⟩
  · have g1 : decide (low ≤ n) = false := by simpa using h1
    have E := ihid (show decide (low ≤ n ∧ n ≤ high) = false from decide_eq_false (fun h => h1 h.1))
    clear h1
    go_enter Tryz.func137, Tryz.ntmps137
    go_wp2
    go_ret
    exact ⟨iretb E.out.symm, rfl⟩
end Go.Proofs.YtgdebchbdmogcaaGreatDoor
/- The document's May refuses what no operation has. -/
namespace Go.Proofs.YtgdebchbdmogcaaGreatDoor
open Go.RowKit
set_option linter.unusedVariables false
set_option linter.unusedSimpArgs false
theorem may_out2 {x : Ix} (h : (x.is = true ∧ x.rs2 ≠ 0) ∨ (x.is = false ∧ x.imm ≠ 0)) : mayB x = false := by
  unfold mayB mayP
  refine decide_eq_false ?_
  rintro ⟨h1, h2, h3, h4⟩
  by_cases hl : longK (kindS x.op)
  · have := ok_long hl h4
    rcases h with h | h
    · exact h.2 this.2.2.1
    · rw [this.1] at h; simp at h
  · have := ok_short hl h4
    rcases h with h | h
    · exact h.2 (this.1 h.1).1
    · exact h.2 (this.2 h.1)
set_option maxRecDepth 100000 in
set_option maxHeartbeats 2000000 in
theorem rmay_out (x : Ix) (hb : x.bd) (h0 : kindS x.op ≠ 0) (h : ¬ (x.rd ≤ 31 ∧ x.rs1 ≤ 31 ∧ x.rs2 ≤ 31 ∧ (x.is = true → x.rs2 = 0) ∧ (x.is = false → x.imm = 0))) (w : World) :
    Calls Tryz.prog 112 #[x.agg] w fun e w' => e = .returned (.bool (mayB x)) ∧ Below w.heap.size w w' := by
  have E : mayB x = false := by
    by_cases c : 31 < x.rd ∨ 31 < x.rs1 ∨ 31 < x.rs2
    · exact may_out (by omega)
    · refine may_out2 ?_
      cases hi : x.is
      · right; refine ⟨rfl, fun e => h ?_⟩; simp [hi, e]; omega
      · left; refine ⟨rfl, fun e => h ?_⟩; simp [hi, e]; omega
  have E := ihid E
  obtain ⟨op, rd, rs1, rs2, is, imm⟩ := x
  have b0 := hb.1
  simp only at b0 h0 h
  have k0 : (kindS op == 0) = false := by simpa using h0
  have HK := ihid (show kindS op = kindS op from rfl)
  generalize hq : kindS op = q at k0
  have HQ := ihid hq
  clear hq hb h0 HK
  have arm := fun W => rkind_any op q b0.1 HQ.out W
  have ARM := ihid arm
  clear arm
  by_cases g1 : 31 < rd
  · have g1' : decide (31 < rd) = true := by simpa using g1
    clear h
    go_enter Tryz.func112, Tryz.ntmps112
    go_wp2_with fail
    refine (ARM.out _).mono ?_
    rintro e w' ⟨rfl, rfl⟩
    go_wp2_with fail
    go_ret
    exact ⟨iretb E.out.symm, (Below.refl _ _).alloc (Nat.le_refl _) _⟩
  · have g1' : decide (31 < rd) = false := by simpa using g1
    by_cases g2 : 31 < rs1
    · have g2' : decide (31 < rs1) = true := by simpa using g2
      clear h
      go_enter Tryz.func112, Tryz.ntmps112
      go_wp2_with fail
      refine (ARM.out _).mono ?_
      rintro e w' ⟨rfl, rfl⟩
      go_wp2_with fail
      go_ret
      exact ⟨iretb E.out.symm, (Below.refl _ _).alloc (Nat.le_refl _) _⟩
    · have g2' : decide (31 < rs1) = false := by simpa using g2
      by_cases g3 : 31 < rs2
      · have g3' : decide (31 < rs2) = true := by simpa using g3
        clear h
        go_enter Tryz.func112, Tryz.ntmps112
        go_wp2_with fail
        refine (ARM.out _).mono ?_
        rintro e w' ⟨rfl, rfl⟩
        go_wp2_with fail
        go_ret
        exact ⟨iretb E.out.symm, (Below.refl _ _).alloc (Nat.le_refl _) _⟩
      · have g3' : decide (31 < rs2) = false := by simpa using g3
        cases is
        · have hi : imm ≠ 0 := fun e => h (by simp [e]; omega)
          have hi2 : (imm != 0) = true := by simpa using hi
          clear h
          go_enter Tryz.func112, Tryz.ntmps112
          go_wp2_with fail
          refine (ARM.out _).mono ?_
          rintro e w' ⟨rfl, rfl⟩
          go_wp2_with fail
          go_ret
          exact ⟨iretb E.out.symm, (Below.refl _ _).alloc (Nat.le_refl _) _⟩
        · have hi : rs2 ≠ 0 := fun e => h (by simp [e]; omega)
          have hi2 : (rs2 != 0) = true := by simpa using hi
          clear h
          go_enter Tryz.func112, Tryz.ntmps112
          go_wp2_with fail
          refine (ARM.out _).mono ?_
          rintro e w' ⟨rfl, rfl⟩
          go_wp2_with fail
          go_ret
          exact ⟨iretb E.out.symm, (Below.refl _ _).alloc (Nat.le_refl _) _⟩
end Go.Proofs.YtgdebchbdmogcaaGreatDoor
