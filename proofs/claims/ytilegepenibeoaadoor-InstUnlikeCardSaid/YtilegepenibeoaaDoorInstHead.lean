/- The walk of muntinlaw02.head: the words that the document fixes. -/
import Derived.Test.YtilegepenibeoaaDoorInstDec
import Derived.Outline
namespace Go.Proofs.YtilegepenibeoaaDoor
open Go.RowKit
set_option linter.unusedVariables false
set_option linter.unusedSimpArgs false
instance (x : Ix) : Decidable x.bd := by unfold Ix.bd; infer_instance
theorem ibt {a b c : World} (h : Below a.heap.size a b) (k : Below b.heap.size b c) : Below a.heap.size a c := h.trans (k.mono h.size)
theorem Tab.al {w : World} (h : Tab w) (o : Obj) : Tab (w.alloc o) := h.keep ((Below.refl _ _).alloc (Nat.le_refl _) _)
theorem bal (w : World) (o : Obj) : Below w.heap.size w (w.alloc o) := (Below.refl _ _).alloc (Nat.le_refl _) _
/-- An instruction in a box. -/
structure BoxI (w : World) (b : Nat) (x : Ix) : Prop where
  c0 : w.cell? ⟨b, 0, none⟩ = some (.int .u8 x.op)
  c1 : w.cell? ⟨b, 1, none⟩ = some (.int .u8 x.rd)
  c2 : w.cell? ⟨b, 2, none⟩ = some (.int .u8 x.rs1)
  c3 : w.cell? ⟨b, 3, none⟩ = some (.int .u8 x.rs2)
  c4 : w.cell? ⟨b, 4, none⟩ = some (.bool x.is)
  c5 : w.cell? ⟨b, 5, none⟩ = some (.int .i32 x.imm)
theorem BoxI.new (w : World) (x : Ix) : BoxI (w.alloc (.cells #[.int .u8 x.op, .int .u8 x.rd, .int .u8 x.rs1, .int .u8 x.rs2, .bool x.is, .int .i32 x.imm] 23)) w.heap.size x :=
  ⟨by simp, by simp, by simp, by simp, by simp, by simp⟩
theorem BoxI.lt {w : World} {b : Nat} {x : Ix} (h : BoxI w b x) : b < w.heap.size := World.block_lt_of_cell? _ _ h.c0
theorem BoxI.keep {w w' : World} {b : Nat} {x : Ix} (h : BoxI w b x) (hb : Below w.heap.size w w') : BoxI w' b x :=
  have hl := h.lt
  ⟨(hb.cell (p := ⟨b, 0, none⟩) hl).trans h.c0, (hb.cell (p := ⟨b, 1, none⟩) hl).trans h.c1, (hb.cell (p := ⟨b, 2, none⟩) hl).trans h.c2, (hb.cell (p := ⟨b, 3, none⟩) hl).trans h.c3, (hb.cell (p := ⟨b, 4, none⟩) hl).trans h.c4, (hb.cell (p := ⟨b, 5, none⟩) hl).trans h.c5⟩
theorem BoxI.al {w : World} {b : Nat} {x : Ix} (h : BoxI w b x) (o : Obj) : BoxI (w.alloc o) b x := h.keep (bal w o)
set_option maxRecDepth 100000 in
set_option maxHeartbeats 1000000 in
theorem is_yes (x : Ix) (w0 : Int) (hb : x.bd) (hm : mayP x) (hw : wordS x = w0) (w : World) (ht : Tab w) :
    Calls Tryd.prog 54 #[x.agg, .int .u32 w0] w fun e w' => e = .returned (.bool true) ∧ Below w.heap.size w w' := by
  have h1 := encode_any x hb
  rw [show encS x = w0 by unfold encS; rw [if_pos hm, hw], show encE x = 0 from if_pos hm] at h1
  have hr := word_bd hb hm
  rw [hw] at hr
  have h2 := decode_any w0 (by omega) hr.2
  have hd := dec_enc hb hm
  rw [hw] at hd
  rw [hd.1, hd.2] at h2
  have H1 := ihid h1
  have H2 := ihid h2
  have HT := ihid ht
  clear h1 h2 hd hr hw hm hb ht
  obtain ⟨op, rd, rs1, rs2, is, imm⟩ := x
  go_enter Tryd.func54, Tryd.ntmps54
  go_wp2_with fail
  refine (H1.out _ ?_).mono ?_
  · exact HT.out.al _
  rintro e w1 ⟨rfl, b1⟩
  have X := (BoxI.new w ⟨op, rd, rs1, rs2, is, imm⟩).keep b1
  have B1 := ihid b1
  clear b1
  go_wp2_with fail
  refine (H2.out _ ?_).mono ?_
  · exact (HT.out.al _).keep B1.out
  rintro e w2 ⟨rfl, b2⟩
  replace X := X.keep b2
  have hz := X.lt
  have X2 := X.al (.cells #[.int .u8 op, .int .u8 rd, .int .u8 rs1, .int .u8 rs2, .bool is, .int .i32 imm] 23)
  obtain ⟨x0, x1, x2, x3, x4, x5⟩ := X2
  have B2 := ihid b2
  clear b2 X
  go_wp2_with fail
  go_ret
  exact ⟨rfl, ibt (ibt (ibt (bal _ _) B1.out) B2.out) (bal _ _)⟩
set_option maxRecDepth 100000 in
set_option maxHeartbeats 4000000 in
theorem ihead_any (w : World) (ht : Tab w) : Calls Tryd.prog 15 #[] w fun e w' => e = .returned (.bool true) ∧ Below w.heap.size w w' := by
  have T := ihid ht
  clear ht
  go_enter Tryd.func15, Tryd.ntmps15
  go_wp2_with fail
  refine (encode_any ⟨33, 0, 0, 0, true, 5⟩ (by decide) _ T.out).mono ?_
  rw [show encS ⟨33, 0, 0, 0, true, 5⟩ = 0 from by decide, show encE ⟨33, 0, 0, 0, true, 5⟩ = 2 from by decide]
  rintro e w1 ⟨rfl, b⟩
  replace T := ihid (T.out.keep b)
  have B := ihid b
  clear b
  go_wp2_with fail
  refine (encode_any ⟨32, 1, 0, 0, false, 0⟩ (by decide) _ T.out).mono ?_
  rw [show encS ⟨32, 1, 0, 0, false, 0⟩ = 0 from by decide, show encE ⟨32, 1, 0, 0, false, 0⟩ = 2 from by decide]
  rintro e w1 ⟨rfl, b⟩
  replace T := ihid (T.out.keep b)
  replace B := ihid (ibt B.out b)
  clear b
  go_wp2_with fail
  refine (decode_any 1 (by omega) (by omega) _ T.out).mono ?_
  rw [show decB 1 = false from by decide]
  rintro e w1 ⟨rfl, b⟩
  replace T := ihid (T.out.keep b)
  replace B := ihid (ibt B.out b)
  clear b
  go_wp2_with fail
  refine (is_yes ⟨1, 9, 8, 0, true, -1⟩ 86573055 (by decide) (by decide) (by decide) _ (T.out.al _)).mono ?_
  rintro e w1 ⟨rfl, b⟩
  replace T := ihid ((T.out.al _).keep b)
  replace B := ihid (ibt (ibt B.out (bal _ _)) b)
  clear b
  go_wp2_with fail
  refine (is_yes ⟨2, 1, 2, 3, false, 0⟩ 136445955 (by decide) (by decide) (by decide) _ T.out).mono ?_
  rintro e w1 ⟨rfl, b⟩
  replace T := ihid (T.out.keep b)
  replace B := ihid (ibt B.out b)
  clear b
  go_wp2_with fail
  refine (is_yes ⟨15, 5, 0, 0, true, 1⟩ 1017118721 (by decide) (by decide) (by decide) _ T.out).mono ?_
  rintro e w1 ⟨rfl, b⟩
  replace T := ihid (T.out.keep b)
  replace B := ihid (ibt B.out b)
  clear b
  go_wp2_with fail
  refine (is_yes ⟨17, 2, 0, 0, true, -2⟩ 1147142142 (by decide) (by decide) (by decide) _ T.out).mono ?_
  rintro e w1 ⟨rfl, b⟩
  replace T := ihid (T.out.keep b)
  replace B := ihid (ibt B.out b)
  clear b
  go_wp2_with fail
  refine (is_yes ⟨32, 0, 0, 0, false, 0⟩ 2147483648 (by decide) (by decide) (by decide) _ T.out).mono ?_
  rintro e w1 ⟨rfl, b⟩
  replace T := ihid (T.out.keep b)
  replace B := ihid (ibt B.out b)
  clear b
  go_wp2_with fail
  refine (is_yes ⟨33, 0, 0, 0, true, 3⟩ 2214625283 (by decide) (by decide) (by decide) _ T.out).mono ?_
  rintro e w1 ⟨rfl, b⟩
  replace T := ihid (T.out.keep b)
  replace B := ihid (ibt B.out b)
  clear b
  go_wp2_with fail
  go_ret
  exact ⟨rfl, B.out⟩
end Go.Proofs.YtilegepenibeoaaDoor
