/- The walk of muntinlaw02.InstUnlike. -/
import Derived.Test.YtilegepenibeoaaDoorInstHead
namespace Go.Proofs.YtilegepenibeoaaDoor
open Go.RowKit
set_option linter.unusedVariables false
set_option linter.unusedSimpArgs false
theorem word_inj {a b : Ix} (ha : a.bd) (hb : b.bd) (ma : mayP a) (mb : mayP b) (h : wordS a = wordS b) : a = b := by
  rw [← raw_word ha ma, ← raw_word hb mb, h]
/-- A word of which one bit is turned. -/
theorem flip_bd {v : Int} (n : Nat) (hn : n < 32) (h0 : 0 ≤ v) (h1 : v < 4294967296) : 0 ≤ bits .xor .u32 v (2 ^ n) ∧ bits .xor .u32 v (2 ^ n) < 4294967296 ∧ bits .xor .u32 v (2 ^ n) ≠ v := by
  obtain ⟨V, rfl⟩ := Int.eq_ofNat_of_zero_le h0
  have hp : (2 : Int) ^ n = ((2 ^ n : Nat) : Int) := by simp
  have hp2 : 2 ^ n ≤ 2 ^ 31 := Nat.pow_le_pow_right (by omega) (by omega)
  have hp1 : 1 ≤ 2 ^ n := Nat.one_le_two_pow
  rw [hp]
  generalize 2 ^ n = p at *
  rw [u32_xor _ _ (by omega) h1 (by omega) (by omega)]
  simp only [Int.toNat_natCast]
  have hx := Nat.xor_lt_two_pow (x := V) (y := p) (n := 32) (by omega) (by omega)
  refine ⟨by omega, by omega, fun h => ?_⟩
  have h2 : V ^^^ p = V := by omega
  have h3 : (V ^^^ p) ^^^ V = V ^^^ V := by rw [h2]
  rw [Nat.xor_self, Nat.xor_comm V, Nat.xor_assoc, Nat.xor_self, Nat.xor_zero] at h3
  omega
/-- The last test: what the other word is, is not this one. -/
theorem flip_not {a : Ix} {v y : Int} (ha : a.bd) (hm : mayP a) (hv : wordS a = v) (hy : y ≠ v) (hB : decB y = true) : decS y ≠ a := by
  intro h
  have hd := enc_dec hB
  rw [h, hv] at hd
  exact hy hd.2.symm
set_option maxRecDepth 100000 in
set_option maxHeartbeats 1000000 in
theorem unlike_no (a b : Ix) (bit : Int) (ha : a.bd) (hb : b.bd) (hbit : 0 ≤ bit ∧ bit < 256) (hm : ¬ mayP a) (w : World) (ht : Tab w) : Calls Tryd.prog 5 #[a.agg, b.agg, .int .u8 bit] w fun e w' => e = .returned (.bool true) ∧ Below w.heap.size w w' := by
  have h1 := encode_any a ha
  have h2 := encode_any b hb
  rw [show encS a = 0 from if_neg hm, show encE a = 2 from if_neg hm] at h1
  generalize encS b = q at h2
  generalize encE b = f at h2
  have H1 := ihid h1
  have H2 := ihid h2
  have HT := ihid ht
  clear h1 h2 hm ha hb ht
  obtain ⟨op, rd, rs1, rs2, is, imm⟩ := a
  obtain ⟨op', rd', rs1', rs2', is', imm'⟩ := b
  go_enter Tryd.func5, Tryd.ntmps5
  go_wp2_with fail
  refine (H1.out _ ?_).mono ?_
  · exact (HT.out.al _).al _
  rintro e w1 ⟨rfl, b1⟩
  have X := (BoxI.new (w.alloc (.cells #[.int .u8 op, .int .u8 rd, .int .u8 rs1, .int .u8 rs2, .bool is, .int .i32 imm] 23)) ⟨op', rd', rs1', rs2', is', imm'⟩).keep b1
  rw [World.size_alloc] at X
  have T1 := ihid (((HT.out.al _).al _).keep b1)
  have B1 := ihid (ibt (ibt (bal _ _) (bal _ _)) b1)
  have ⟨x0, x1, x2, x3, x4, x5⟩ := X
  clear b1
  go_wp2_with fail
  refine (H2.out _ T1.out).mono ?_
  rintro e w2 ⟨rfl, b2⟩
  replace T1 := ihid (T1.out.keep b2)
  replace B1 := ihid (ibt B1.out b2)
  clear b2 x0 x1 x2 x3 x4 x5 X
  go_wp2_with fail
  refine (ihead_any _ T1.out).mono ?_
  rintro e w4 ⟨rfl, b4⟩
  replace B1 := ihid (ibt B1.out b4)
  clear b4
  go_wp2_with fail
  go_ret
  exact ⟨rfl, B1.out⟩
set_option maxRecDepth 100000 in
set_option maxHeartbeats 2000000 in
theorem unlike_yes (a b : Ix) (bit : Int) (ha : a.bd) (hb : b.bd) (hbit : 0 ≤ bit ∧ bit < 256) (hm : mayP a) (f : Int) (hf : encE b = f) (w : World) (ht : Tab w) : Calls Tryd.prog 5 #[a.agg, b.agg, .int .u8 bit] w fun e w' => e = .returned (.bool true) ∧ Below w.heap.size w w' := by
  have h1 := encode_any a ha
  have h2 := encode_any b hb
  have hr := word_bd ha hm
  have hsame : f = 0 → (a = b ↔ wordS a = encS b) := by
    intro h0
    have mb : mayP b := by
      refine Decidable.byContradiction (fun hn => ?_)
      have : encE b = 2 := if_neg hn
      omega
    rw [show encS b = wordS b from if_pos mb]
    exact ⟨fun h => by rw [h], word_inj ha hb hm mb⟩
  rw [show encS a = wordS a from if_pos hm, show encE a = 0 from if_pos hm] at h1
  rw [hf] at h2
  have hfl := flip_bd (v := wordS a) (bit % 32).toNat (by omega) (by omega) hr.2
  have hp : (2 : Int) ^ (bit % 32).toNat % 4294967296 = 2 ^ (bit % 32).toNat := by
    have h1 : 2 ^ (bit % 32).toNat ≤ 2 ^ 31 := Nat.pow_le_pow_right (by omega) (by omega)
    have h2 : (2 : Int) ^ (bit % 32).toNat = ((2 ^ (bit % 32).toNat : Nat) : Int) := by simp
    rw [h2]
    generalize 2 ^ (bit % 32).toNat = p at h1 ⊢
    omega
  rw [← hp] at hfl
  have hnot := flip_not ha hm rfl hfl.2.2
  have h3 := decode_any (bits .xor .u32 (wordS a) (2 ^ (bit % 32).toNat % 4294967296)) hfl.1 hfl.2.1
  clear hp
  generalize wordS a = v at *
  generalize encS b = q at *
  have H1 := ihid h1
  have H2 := ihid h2
  have H3 := ihid h3
  have HT := ihid ht
  have HS := ihid hsame
  have HN := ihid hnot
  clear h1 h2 h3 hm ha hb ht hsame hnot hf hfl hr
  obtain ⟨op, rd, rs1, rs2, is, imm⟩ := a
  obtain ⟨op', rd', rs1', rs2', is', imm'⟩ := b
  go_enter Tryd.func5, Tryd.ntmps5
  go_wp2_with fail
  refine (H1.out _ ?_).mono ?_
  · exact (HT.out.al _).al _
  rintro e w1 ⟨rfl, b1⟩
  have X := (BoxI.new (w.alloc (.cells #[.int .u8 op, .int .u8 rd, .int .u8 rs1, .int .u8 rs2, .bool is, .int .i32 imm] 23)) ⟨op', rd', rs1', rs2', is', imm'⟩).keep b1
  have Y := ((BoxI.new w ⟨op, rd, rs1, rs2, is, imm⟩).al (.cells #[.int .u8 op', .int .u8 rd', .int .u8 rs1', .int .u8 rs2', .bool is', .int .i32 imm'] 23)).keep b1
  rw [World.size_alloc] at X
  have T1 := ihid (((HT.out.al _).al _).keep b1)
  have B1 := ihid (ibt (ibt (bal _ _) (bal _ _)) b1)
  have ⟨x0, x1, x2, x3, x4, x5⟩ := X
  clear b1
  go_wp2_with fail
  refine (H2.out _ T1.out).mono ?_
  rintro e w2 ⟨rfl, b2⟩
  replace T1 := ihid (T1.out.keep b2)
  replace B1 := ihid (ibt B1.out b2)
  replace X := X.keep b2
  replace Y := Y.keep b2
  clear b2 x0 x1 x2 x3 x4 x5
  have ⟨x0, x1, x2, x3, x4, x5⟩ := X
  have ⟨y0, y1, y2, y3, y4, y5⟩ := Y
  go_wp2_with fail
  all_goals (try (exfalso; have hs := HS.out (by assumption); simp_all; done))
  all_goals
    refine (H3.out _ T1.out).mono ?_
    rintro e w3 ⟨rfl, b3⟩
    replace Y := Y.keep b3
    have hlt := Y.lt
    have T1 := T1.out.keep b3
    have B1 := ibt B1.out b3
    clear b3 x0 x1 x2 x3 x4 x5 y0 y1 y2 y3 y4 y5
    generalize decB (bits .xor .u32 v (2 ^ (bit % 32).toNat % 4294967296)) = db at HN ⊢
    generalize decS (bits .xor .u32 v (2 ^ (bit % 32).toNat % 4294967296)) = z at HN ⊢
    obtain ⟨zop, zrd, zrs1, zrs2, zis, zimm⟩ := z
    have Y := Y.al (.cells #[.int .u8 zop, .int .u8 zrd, .int .u8 zrs1, .int .u8 zrs2, .bool zis, .int .i32 zimm] 23)
    have T2 := ihid T1
    have B2 := ihid B1
    clear T1 B1
    have ⟨y0, y1, y2, y3, y4, y5⟩ := Y
    cases db
    · go_wp2_with fail
      refine (ihead_any _ (T2.out.al _)).mono ?_
      rintro e w4 ⟨rfl, b4⟩
      have B3 := ihid (ibt (ibt B2.out (bal _ _)) b4)
      clear b4 y0 y1 y2 y3 y4 y5
      go_wp2_with fail
      go_ret
      exact ⟨rfl, B3.out⟩
    · go_wp2_with fail
      all_goals first
        | ((with_reducible refine (ihead_any _ ?_).mono ?_)
           · exact T2.out.al _
           rintro e w4 ⟨rfl, b4⟩
           have B3 := ihid (ibt (ibt B2.out (bal _ _)) b4)
           clear b4 y0 y1 y2 y3 y4 y5
           go_wp2_with fail
           go_ret
           exact ⟨rfl, B3.out⟩)
        | (exfalso; have hn := HN.out (by simp); apply hn; simp_all; done)
theorem walk_InstUnlike (a b : Ix) (bit : Int) (ha : a.bd) (hb : b.bd) (hbit : 0 ≤ bit ∧ bit < 256) (w : World) (ht : Tab w) : Calls Tryd.prog 5 #[a.agg, b.agg, .int .u8 bit] w fun e w' => e = .returned (.bool true) ∧ Below w.heap.size w w' := by
  by_cases hm : mayP a
  · exact unlike_yes a b bit ha hb hbit hm _ rfl w ht
  · exact unlike_no a b bit ha hb hbit hm w ht
end Go.Proofs.YtilegepenibeoaaDoor
