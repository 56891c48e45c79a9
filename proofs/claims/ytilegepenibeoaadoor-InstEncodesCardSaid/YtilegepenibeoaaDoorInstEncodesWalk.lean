/- The walk of muntinlaw02.InstEncodes. -/
import Derived.Test.YtilegepenibeoaaDoorInstHead
import Derived.Test.YtilegepenibeoaaDoorInstRef
namespace Go.Proofs.YtilegepenibeoaaDoor
open Go.RowKit
set_option linter.unusedVariables false
set_option linter.unusedSimpArgs false
set_option maxRecDepth 100000 in
set_option maxHeartbeats 1000000 in
theorem encodes_yes (x : Ix) (hb : x.bd) (hm : mayP x) (w : World) (ht : Tab w) : Calls Tryd.prog 3 #[x.agg] w fun e w' => e = .returned (.bool true) ∧ Below w.heap.size w w' := by
  have h1 := encode_any x hb
  have h2 := renc_any x hb
  have hr := word_bd hb hm
  have hd := dec_enc hb hm
  rw [show encS x = wordS x from if_pos hm, show encE x = 0 from if_pos hm] at h1 h2
  have h3 := decode_any (wordS x) (by omega) hr.2
  rw [hd.1, hd.2] at h3
  have hz : (wordS x != 0) = true := by simp; omega
  generalize wordS x = v at h1 h2 h3 hz
  have H1 := ihid h1
  have H2 := ihid h2
  have H3 := ihid h3
  have HT := ihid ht
  clear h1 h2 h3 hd hr hm hb ht
  obtain ⟨op, rd, rs1, rs2, is, imm⟩ := x
  go_enter Tryd.func3, Tryd.ntmps3
  go_wp2_with fail
  refine (H1.out _ ?_).mono ?_
  · exact HT.out.al _
  rintro e w1 ⟨rfl, b1⟩
  have X := (BoxI.new w ⟨op, rd, rs1, rs2, is, imm⟩).keep b1
  have T1 := ihid ((HT.out.al _).keep b1)
  have B1 := ihid (ibt (bal _ _) b1)
  have ⟨x0, x1, x2, x3, x4, x5⟩ := X
  clear b1
  go_wp2_with fail
  refine (H2.out _).mono ?_
  rintro e w2 ⟨rfl, b2⟩
  replace X := X.keep b2
  replace T1 := ihid (T1.out.keep b2)
  replace B1 := ihid (ibt B1.out b2)
  clear b2 x0 x1 x2 x3 x4 x5
  go_wp2_with fail
  refine (H3.out _ T1.out).mono ?_
  rintro e w3 ⟨rfl, b3⟩
  replace X := X.keep b3
  have hlt := X.lt
  replace X := X.al (.cells #[.int .u8 op, .int .u8 rd, .int .u8 rs1, .int .u8 rs2, .bool is, .int .i32 imm] 23)
  replace T1 := ihid ((T1.out.keep b3).al (.cells #[.int .u8 op, .int .u8 rd, .int .u8 rs1, .int .u8 rs2, .bool is, .int .i32 imm] 23))
  replace B1 := ihid (ibt (ibt B1.out b3) (bal w3 (.cells #[.int .u8 op, .int .u8 rd, .int .u8 rs1, .int .u8 rs2, .bool is, .int .i32 imm] 23)))
  have ⟨x0, x1, x2, x3, x4, x5⟩ := X
  clear b3
  go_wp2_with fail
  refine (ihead_any _ T1.out).mono ?_
  rintro e w4 ⟨rfl, b4⟩
  replace B1 := ihid (ibt B1.out b4)
  clear b4 x0 x1 x2 x3 x4 x5
  go_wp2_with fail
  go_ret
  exact ⟨rfl, B1.out⟩
set_option maxRecDepth 100000 in
set_option maxHeartbeats 1000000 in
theorem encodes_no (x : Ix) (hb : x.bd) (hm : ¬ mayP x) (w : World) (ht : Tab w) : Calls Tryd.prog 3 #[x.agg] w fun e w' => e = .returned (.bool true) ∧ Below w.heap.size w w' := by
  have h1 := encode_any x hb
  have h2 := renc_any x hb
  rw [show encS x = 0 from if_neg hm, show encE x = 2 from if_neg hm] at h1 h2
  have H1 := ihid h1
  have H2 := ihid h2
  have HT := ihid ht
  clear h1 h2 hm hb ht
  obtain ⟨op, rd, rs1, rs2, is, imm⟩ := x
  go_enter Tryd.func3, Tryd.ntmps3
  go_wp2_with fail
  refine (H1.out _ ?_).mono ?_
  · exact HT.out.al _
  rintro e w1 ⟨rfl, b1⟩
  have X := (BoxI.new w ⟨op, rd, rs1, rs2, is, imm⟩).keep b1
  have T1 := ihid ((HT.out.al _).keep b1)
  have B1 := ihid (ibt (bal _ _) b1)
  have ⟨x0, x1, x2, x3, x4, x5⟩ := X
  clear b1
  go_wp2_with fail
  refine (H2.out _).mono ?_
  rintro e w2 ⟨rfl, b2⟩
  replace T1 := ihid (T1.out.keep b2)
  replace B1 := ihid (ibt B1.out b2)
  clear b2 x0 x1 x2 x3 x4 x5 X
  go_wp2_with fail
  refine (ihead_any _ T1.out).mono ?_
  rintro e w4 ⟨rfl, b4⟩
  replace B1 := ihid (ibt B1.out b4)
  clear b4
  go_wp2_with fail
  go_ret
  exact ⟨rfl, B1.out⟩
theorem walk_InstEncodes (x : Ix) (hb : x.bd) (w : World) (ht : Tab w) : Calls Tryd.prog 3 #[x.agg] w fun e w' => e = .returned (.bool true) ∧ Below w.heap.size w w' := by
  by_cases hm : mayP x
  · exact encodes_yes x hb hm w ht
  · exact encodes_no x hb hm w ht
end Go.Proofs.YtilegepenibeoaaDoor
