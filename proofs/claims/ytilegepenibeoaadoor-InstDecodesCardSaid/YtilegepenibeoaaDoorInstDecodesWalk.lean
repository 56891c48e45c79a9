/- The walk of muntinlaw02.InstDecodes. -/
import Derived.Test.YtilegepenibeoaaDoorInstHead
import Derived.Test.YtilegepenibeoaaDoorInstRDec
namespace Go.Proofs.YtilegepenibeoaaDoor
open Go.RowKit
set_option linter.unusedVariables false
set_option linter.unusedSimpArgs false
set_option maxRecDepth 100000 in
set_option maxHeartbeats 1000000 in
theorem walk_InstDecodes (v : Int) (h0 : 0 ≤ v) (hv : v < 4294967296) (w : World) (ht : Tab w) : Calls Tryd.prog 4 #[.int .u32 v] w fun e w' => e = .returned (.bool true) ∧ Below w.heap.size w w' := by
  have h1 := decode_any v h0 hv
  have h2 := rdec_any v h0 hv
  have HT := ihid ht
  clear ht
  by_cases hB : decB v = true
  · have hd := enc_dec hB
    rw [hB] at h1 h2
    have hraw : decS v = rawS v := if_pos hB
    have hbd : (decS v).bd := by rw [hraw]; exact raw_bd h0 hv
    have h3 := encode_any (decS v) hbd
    rw [show encS (decS v) = v from (if_pos hd.1).trans hd.2, show encE (decS v) = 0 from if_pos hd.1] at h3
    clear hd hraw hbd hB
    generalize decS v = x at h1 h2 h3
    have H1 := ihid h1
    have H2 := ihid h2
    have H3 := ihid h3
    clear h1 h2 h3
    obtain ⟨op, rd, rs1, rs2, is, imm⟩ := x
    go_enter Tryd.func4, Tryd.ntmps4
    go_wp2_with fail
    refine (H1.out _ HT.out).mono ?_
    rintro e w1 ⟨rfl, b1⟩
    have T1 := ihid ((HT.out.keep b1).al (.cells #[.int .u8 op, .int .u8 rd, .int .u8 rs1, .int .u8 rs2, .bool is, .int .i32 imm] 23))
    have B1 := ihid (ibt b1 (bal w1 (.cells #[.int .u8 op, .int .u8 rd, .int .u8 rs1, .int .u8 rs2, .bool is, .int .i32 imm] 23)))
    have X := BoxI.new w1 ⟨op, rd, rs1, rs2, is, imm⟩
    clear b1
    go_wp2_with fail
    refine (H2.out _).mono ?_
    rintro e w2 ⟨rfl, b2⟩
    replace X := X.keep b2
    have hlt := X.lt
    replace X := X.al (.cells #[.int .u8 op, .int .u8 rd, .int .u8 rs1, .int .u8 rs2, .bool is, .int .i32 imm] 23)
    have T1 := ihid ((T1.out.keep b2).al (.cells #[.int .u8 op, .int .u8 rd, .int .u8 rs1, .int .u8 rs2, .bool is, .int .i32 imm] 23))
    have B1 := ihid (ibt (ibt B1.out b2) (bal w2 (.cells #[.int .u8 op, .int .u8 rd, .int .u8 rs1, .int .u8 rs2, .bool is, .int .i32 imm] 23)))
    have ⟨x0, x1, x2, x3, x4, x5⟩ := X
    clear b2
    go_wp2_with fail
    refine (H3.out _ T1.out).mono ?_
    rintro e w3 ⟨rfl, b3⟩
    replace T1 := ihid (T1.out.keep b3)
    replace B1 := ihid (ibt B1.out b3)
    clear b3 x0 x1 x2 x3 x4 x5
    go_wp2_with fail
    refine (ihead_any _ T1.out).mono ?_
    rintro e w4 ⟨rfl, b4⟩
    replace B1 := ihid (ibt B1.out b4)
    clear b4
    go_wp2_with fail
    go_ret
    exact ⟨rfl, B1.out⟩
  · replace hB : decB v = false := by simpa using hB
    have hS : decS v = ⟨0, 0, 0, 0, false, 0⟩ := by unfold decS; rw [hB]; rfl
    rw [hB, hS] at h1 h2
    have H1 := ihid h1
    have H2 := ihid h2
    clear h1 h2 hB hS
    go_enter Tryd.func4, Tryd.ntmps4
    go_wp2_with fail
    refine (H1.out _ HT.out).mono ?_
    rintro e w1 ⟨rfl, b1⟩
    have T1 := ihid ((HT.out.keep b1).al (.cells #[.int .u8 0, .int .u8 0, .int .u8 0, .int .u8 0, .bool false, .int .i32 0] 23))
    have B1 := ihid (ibt b1 (bal w1 (.cells #[.int .u8 0, .int .u8 0, .int .u8 0, .int .u8 0, .bool false, .int .i32 0] 23)))
    have X := BoxI.new w1 ⟨0, 0, 0, 0, false, 0⟩
    clear b1
    go_wp2_with fail
    refine (H2.out _).mono ?_
    rintro e w2 ⟨rfl, b2⟩
    replace X := X.keep b2
    have hlt := X.lt
    replace X := X.al (.cells #[.int .u8 0, .int .u8 0, .int .u8 0, .int .u8 0, .bool false, .int .i32 0] 23)
    have T1 := ihid ((T1.out.keep b2).al (.cells #[.int .u8 0, .int .u8 0, .int .u8 0, .int .u8 0, .bool false, .int .i32 0] 23))
    have B1 := ihid (ibt (ibt B1.out b2) (bal w2 (.cells #[.int .u8 0, .int .u8 0, .int .u8 0, .int .u8 0, .bool false, .int .i32 0] 23)))
    have ⟨x0, x1, x2, x3, x4, x5⟩ := X
    clear b2
    go_wp2_with fail
    refine (ihead_any _ T1.out).mono ?_
    rintro e w4 ⟨rfl, b4⟩
    replace B1 := ihid (ibt B1.out b4)
    clear b4 x0 x1 x2 x3 x4 x5
    go_wp2_with fail
    go_ret
    exact ⟨rfl, B1.out⟩
end Go.Proofs.YtilegepenibeoaaDoor
