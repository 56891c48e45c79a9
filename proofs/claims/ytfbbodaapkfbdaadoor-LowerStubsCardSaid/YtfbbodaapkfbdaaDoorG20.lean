/- Walks of the document's May and Encode (muntinref02). -/
import Derived.Test.YtfbbodaapkfbdaaDoorG06
import Derived.Test.YtfbbodaapkfbdaaDoorG07
import Derived.Test.YtfbbodaapkfbdaaDoorG08
namespace Go.Proofs.YtfbbodaapkfbdaaDoor
open Go.RowKit
set_option linter.unusedVariables false
set_option linter.unusedSimpArgs false
set_option maxRecDepth 100000 in
set_option maxHeartbeats 1000000 in
theorem rmay_zero (x : Ix) (hb : x.bd) (hk : kindS x.op = 0) (w : World) :
    Calls Tryd.prog 66 #[x.agg] w fun e w' => e = .returned (.bool (mayB x)) ∧ Below w.heap.size w w' := by
  have E := ihid (may_out (.inr (.inr (.inr (.inl hk)))))
  obtain ⟨op, rd, rs1, rs2, is, imm⟩ := x
  have b0 := hb.1
  simp only at b0 hk
  have HK := ihid hk
  clear hk hb
  go_enter Tryd.func66, Tryd.ntmps66
  go_wp2_with fail
  refine (rkind_any op 0 b0.1 HK.out _).mono ?_
  rintro e w' ⟨rfl, rfl⟩
  go_wp2_with fail
  go_ret
  exact ⟨iretb E.out.symm, (Below.refl _ _).alloc (Nat.le_refl _) _⟩
theorem rmay_any (x : Ix) (hb : x.bd) (w : World) :
    Calls Tryd.prog 66 #[x.agg] w fun e w' => e = .returned (.bool (mayB x)) ∧ Below w.heap.size w w' := by
  by_cases h0 : kindS x.op = 0
  · exact rmay_zero x hb h0 w
  · by_cases ho : x.rd ≤ 31 ∧ x.rs1 ≤ 31 ∧ x.rs2 ≤ 31 ∧ (x.is = true → x.rs2 = 0) ∧ (x.is = false → x.imm = 0)
    · obtain ⟨h1, h2, h3, h4, h5⟩ := ho
      obtain ⟨op, rd, rs1, rs2, is, imm⟩ := x
      simp only at h1 h2 h3 h4 h5
      rcases kind_cases op with hk | hk | hk | hk | hk | hk | hk | hk | hk | hk | hk | hk | hk
      · exact absurd hk h0
      · cases is
        · exact rmay_1f _ _ _ _ _ hb hk h1 h2 h3 (h5 rfl) w
        · exact rmay_1t _ _ _ _ _ hb hk h1 h2 h3 (h4 rfl) w
      · cases is
        · exact rmay_2f _ _ _ _ _ hb hk h1 h2 h3 (h5 rfl) w
        · exact rmay_2t _ _ _ _ _ hb hk h1 h2 h3 (h4 rfl) w
      · cases is
        · exact rmay_3f _ _ _ _ _ hb hk h1 h2 h3 (h5 rfl) w
        · exact rmay_3t _ _ _ _ _ hb hk h1 h2 h3 (h4 rfl) w
      · cases is
        · exact rmay_4f _ _ _ _ _ hb hk h1 h2 h3 (h5 rfl) w
        · by_cases h6 : rd ≤ 6
          · exact rmay_4ty _ _ _ _ _ hb hk h1 h2 h3 (h4 rfl) h6 w
          · exact rmay_4tn _ _ _ _ _ hb hk h1 h2 h3 (h4 rfl) (by omega) w
      · cases is
        · exact rmay_5f _ _ _ _ _ hb hk h1 h2 h3 (h5 rfl) w
        · exact rmay_5t _ _ _ _ _ hb hk h1 h2 h3 (h4 rfl) w
      · cases is
        · exact rmay_6f _ _ _ _ _ hb hk h1 h2 h3 (h5 rfl) w
        · exact rmay_6t _ _ _ _ _ hb hk h1 h2 h3 (h4 rfl) w
      · cases is
        · exact rmay_7f _ _ _ _ _ hb hk h1 h2 h3 (h5 rfl) w
        · exact rmay_7t _ _ _ _ _ hb hk h1 h2 h3 (h4 rfl) w
      · cases is
        · exact rmay_8f _ _ _ _ _ hb hk h1 h2 h3 (h5 rfl) w
        · exact rmay_8t _ _ _ _ _ hb hk h1 h2 h3 (h4 rfl) w
      · cases is
        · exact rmay_9f _ _ _ _ _ hb hk h1 h2 h3 (h5 rfl) w
        · exact rmay_9t _ _ _ _ _ hb hk h1 h2 h3 (h4 rfl) w
      · cases is
        · exact rmay_10f _ _ _ _ _ hb hk h1 h2 h3 (h5 rfl) w
        · exact rmay_10t _ _ _ _ _ hb hk h1 h2 h3 (h4 rfl) w
      · cases is
        · exact rmay_11f _ _ _ _ _ hb hk h1 h2 h3 (h5 rfl) w
        · exact rmay_11t _ _ _ _ _ hb hk h1 h2 h3 (h4 rfl) w
      · cases is
        · exact rmay_12f _ _ _ _ _ hb hk h1 h2 h3 (h5 rfl) w
        · exact rmay_12t _ _ _ _ _ hb hk h1 h2 h3 (h4 rfl) w
    · exact rmay_out x hb h0 ho w
set_option maxHeartbeats 400000 in
theorem rlow_any (n of : Int) (hof : of = 2097152 ∨ of = 32768) (h0 : -2147483648 ≤ n) (h1 : n < 2147483648) (w : World) : Calls Tryd.prog 67 #[.int .i32 n, .int .i64 of] w fun e w' => e = .returned (.int .u32 (n % of)) ∧ w = w' := by
  have hm : 0 ≤ n.tmod of ∧ n.tmod of = n % of ∨ n.tmod of < 0 ∧ n.tmod of + of = n % of := by
    rw [Int.tmod_eq_emod]
    have hd : of ∣ n ↔ n % of = 0 := Int.dvd_iff_emod_eq_zero
    have : 0 ≤ n % of ∧ n % of < of := by rcases hof with rfl | rfl <;> omega
    have ho : (of.natAbs : Int) = of := by rcases hof with rfl | rfl <;> rfl
    split <;> rename_i h
    · left; omega
    · have hh : ¬ (0 ≤ n ∨ n % of = 0) := fun h2 => h (h2.imp id hd.2)
      right; omega
  have hr : 0 ≤ n % of ∧ n % of < of := by rcases hof with rfl | rfl <;> omega
  have ht : -4294967296 < n.tmod of ∧ n.tmod of < 4294967296 := by rcases hof with rfl | rfl <;> omega
  have ho : 0 < of ∧ of < 4294967296 := by rcases hof with rfl | rfl <;> omega
  have h00 : (of == 0) = false := by rcases hof with rfl | rfl <;> rfl
  have hw : IntKind.i64.wrap (n.tmod of) = n.tmod of := IntWalk.i64_in _ (by omega)
  have hw3 : wrap64 (n.tmod of) = n.tmod of := by rw [IntWalk.wrap64_in _ (by omega)]
  have HM := ihid hm
  have HR := ihid hr
  clear hm hr hof
  by_cases hs : n.tmod of < 0
  · have hs2 : decide (n.tmod of < 0) = true := by simpa using hs
    have HE : n.tmod of + of = n % of := by have := HM.out; omega
    have hb : 0 ≤ n.tmod of + of ∧ n.tmod of + of < 4294967296 := by have := HR.out; omega
    have hw5 : wrap64 (n.tmod of + of) = n.tmod of + of := by rw [IntWalk.wrap64_in _ (by omega)]
    have hw6 : (n.tmod of + of) % 4294967296 = n.tmod of + of := Int.emod_eq_of_lt hb.1 hb.2
    replace HE := ihid HE
    go_enter Tryd.func67, Tryd.ntmps67
    go_wp2
    go_ret
    exact ⟨iret (by first | exact HE.out | (rw [hw5, hw6]; exact HE.out)), rfl⟩
  · have hs2 : decide (n.tmod of < 0) = false := by simpa using hs
    have HE : n.tmod of = n % of := by have := HM.out; omega
    have hb : 0 ≤ n.tmod of ∧ n.tmod of < 4294967296 := by omega
    replace HE := ihid HE
    go_enter Tryd.func67, Tryd.ntmps67
    go_wp2
    go_ret
    exact ⟨iret HE.out, rfl⟩
set_option maxRecDepth 100000 in
set_option maxHeartbeats 1000000 in
theorem renc_any (x : Ix) (hb : x.bd) (w : World) :
    Calls Tryd.prog 33 #[x.agg] w fun e w' => e = .returned (.tuple #[.int .u32 (encS x), .int .i64 (encE x)]) ∧ Below w.heap.size w w' := by
  have hm := rmay_any x hb (w.alloc (.cells #[.int .u8 x.op, .int .u8 x.rd, .int .u8 x.rs1, .int .u8 x.rs2, .bool x.is, .int .i32 x.imm] 50))
  unfold encS encE
  by_cases h : mayP x
  · rw [if_pos h, if_pos h]
    rw [show mayB x = true from decide_eq_true h] at hm
    have HM := ihid hm
    have B := may_bd hb h
    have HP := ihid h
    obtain ⟨op, rd, rs1, rs2, is, imm⟩ := x
    obtain ⟨b0, b1, b2, b3, b4⟩ := hb
    simp only at b0 b1 b2 b3 b4 B
    have hl1 := rlow_any imm 2097152 (.inl rfl) b4.1 b4.2
    have hl2 := rlow_any imm 32768 (.inr rfl) b4.1 b4.2
    have HL1 := ihid hl1
    have HL2 := ihid hl2
    have hk := fun W => rkind_any op (kindS op) b0.1 rfl W
    have HK := ihid hk
    have c1 : 0 ≤ imm % 2097152 ∧ imm % 2097152 < 2097152 := by omega
    have c2 : 0 ≤ imm % 32768 ∧ imm % 32768 < 32768 := by omega
    clear hm h hl1 hl2 hk
    have hnext : ∀ w' : World, Below (w.alloc (.cells #[.int .u8 op, .int .u8 rd, .int .u8 rs1, .int .u8 rs2, .bool is, .int .i32 imm] 50)).heap.size (w.alloc (.cells #[.int .u8 op, .int .u8 rd, .int .u8 rs1, .int .u8 rs2, .bool is, .int .i32 imm] 50)) w' →
        w'.cell? ⟨w.heap.size, 0, none⟩ = some (.int .u8 op) ∧ w'.cell? ⟨w.heap.size, 1, none⟩ = some (.int .u8 rd) ∧ w'.cell? ⟨w.heap.size, 2, none⟩ = some (.int .u8 rs1) ∧ w'.cell? ⟨w.heap.size, 3, none⟩ = some (.int .u8 rs2) ∧ w'.cell? ⟨w.heap.size, 4, none⟩ = some (.bool is) ∧ w'.cell? ⟨w.heap.size, 5, none⟩ = some (.int .i32 imm) ∧ Below w.heap.size w w' := by
      intro w' hbl
      refine ⟨?_, ?_, ?_, ?_, ?_, ?_, ((Below.refl _ _).alloc (Nat.le_refl _) _).trans (hbl.mono (by simp))⟩
      · exact (hbl.cell (p := ⟨w.heap.size, 0, none⟩) (by simp)).trans (by simp)
      · exact (hbl.cell (p := ⟨w.heap.size, 1, none⟩) (by simp)).trans (by simp)
      · exact (hbl.cell (p := ⟨w.heap.size, 2, none⟩) (by simp)).trans (by simp)
      · exact (hbl.cell (p := ⟨w.heap.size, 3, none⟩) (by simp)).trans (by simp)
      · exact (hbl.cell (p := ⟨w.heap.size, 4, none⟩) (by simp)).trans (by simp)
      · exact (hbl.cell (p := ⟨w.heap.size, 5, none⟩) (by simp)).trans (by simp)
    have HN := ihid hnext
    clear hnext
    by_cases hl : longK (kindS op)
    · have hk1 : decide (3 ≤ kindS op) = true := by rcases hl with h | h | h <;> rw [h] <;> rfl
      have hk2 : decide (kindS op ≤ 5) = true := by rcases hl with h | h | h <;> rw [h] <;> rfl
      have E := ihid (show wordS ⟨op, rd, rs1, rs2, is, imm⟩ = op * 67108864 + rd * 2097152 + imm % 2097152 by unfold wordS tailS; rw [if_pos hl])
      clear hl
      generalize kindS op = q at hk1 hk2 HK
      go_enter Tryd.func33, Tryd.ntmps33
      go_wp2_with fail
      refine HM.out.mono ?_
      rintro e w' ⟨rfl, hbl⟩
      obtain ⟨x0, x1, x2, x3, x4, x5, xb⟩ := HN.out w' hbl
      have XB := ihid xb
      clear hbl xb
      go_wp2_with fail
      refine (HK.out _).mono ?_
      rintro e w'' ⟨rfl, rfl⟩
      go_wp2_with fail
      refine (HL1.out _).mono ?_
      rintro e w'' ⟨rfl, rfl⟩
      go_wp2_with fail
      go_ret2
      exact ⟨iret2 E.out.symm rfl, XB.out⟩
    · have hkd : (decide (3 ≤ kindS op) && decide (kindS op ≤ 5)) = false := by
        unfold longK at hl; simp; omega
      have hks : decide (3 ≤ kindS op) = false ∨ decide (3 ≤ kindS op) = true ∧ decide (kindS op ≤ 5) = false := by
        simp at hkd ⊢; omega
      have E1 := ihid (show wordS ⟨op, rd, rs1, rs2, true, imm⟩ = op * 67108864 + rd * 2097152 + rs1 * 65536 + 32768 + imm % 32768 by unfold wordS tailS; rw [if_neg hl]; simp; omega)
      have E2 := ihid (show wordS ⟨op, rd, rs1, rs2, false, imm⟩ = op * 67108864 + rd * 2097152 + rs1 * 65536 + rs2 by unfold wordS tailS; rw [if_neg hl]; simp; omega)
      clear hl hkd
      generalize kindS op = q at hks HK
      rcases hks with hk1 | ⟨hk1, hk2⟩ <;> cases is
      all_goals
        go_enter Tryd.func33, Tryd.ntmps33
        go_wp2_with fail
        refine HM.out.mono ?_
        rintro e w' ⟨rfl, hbl⟩
        obtain ⟨x0, x1, x2, x3, x4, x5, xb⟩ := HN.out w' hbl
        have XB := ihid xb
        clear hbl xb
        go_wp2_with fail
        refine (HK.out _).mono ?_
        rintro e w'' ⟨rfl, rfl⟩
        go_wp2_with (go_at_call 67; refine (HL2.out _).mono ?_; rintro e w'' ⟨rfl, rfl⟩)
        go_ret2
        first | exact ⟨iret2 E1.out.symm rfl, XB.out⟩ | exact ⟨iret2 E2.out.symm rfl, XB.out⟩
  · rw [if_neg h, if_neg h]
    rw [show mayB x = false from decide_eq_false h] at hm
    have HM := ihid hm
    clear hm h hb
    obtain ⟨op, rd, rs1, rs2, is, imm⟩ := x
    go_enter Tryd.func33, Tryd.ntmps33
    go_wp2_with fail
    refine HM.out.mono ?_
    rintro e w' ⟨rfl, hbl⟩
    have HB := ihid hbl
    clear hbl
    go_wp2_with fail
    go_ret2
    exact ⟨rfl, ((Below.refl _ _).alloc (Nat.le_refl _) _).trans (HB.out.mono (by simp))⟩
end Go.Proofs.YtfbbodaapkfbdaaDoor
