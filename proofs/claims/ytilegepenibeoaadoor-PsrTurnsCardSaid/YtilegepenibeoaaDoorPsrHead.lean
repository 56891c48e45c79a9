/- The walk of muntinlaw04.head: the calls whose answers the document fixes. -/
import Derived.Test.YtilegepenibeoaaDoorPsrPackAny
import Derived.Test.YtilegepenibeoaaDoorPsrUnpack
import Derived.Test.YtilegepenibeoaaDoorPsrRRes
namespace Go.Proofs.YtilegepenibeoaaDoor
open Go.RowKit
set_option linter.unusedVariables false
set_option linter.unusedSimpArgs false
/-- A state in a box. -/
structure BoxP (w : World) (b : Nat) (x : Px) : Prop where
  c0 : w.cell? ⟨b, 0, none⟩ = some (.int .u8 x.cwp)
  c1 : w.cell? ⟨b, 1, none⟩ = some (.int .u8 x.pil)
  c2 : w.cell? ⟨b, 2, none⟩ = some (.int .u8 x.bank)
  c3 : w.cell? ⟨b, 3, none⟩ = some (.int .u8 x.flags)
theorem BoxP.new (w : World) (x : Px) : BoxP (w.alloc (.cells #[.int .u8 x.cwp, .int .u8 x.pil, .int .u8 x.bank, .int .u8 x.flags] 37)) w.heap.size x :=
  ⟨by simp, by simp, by simp, by simp⟩
theorem BoxP.lt {w : World} {b : Nat} {x : Px} (h : BoxP w b x) : b < w.heap.size := World.block_lt_of_cell? _ _ h.c0
theorem BoxP.keep {w w' : World} {b : Nat} {x : Px} (h : BoxP w b x) (hb : Below w.heap.size w w') : BoxP w' b x :=
  have hl := h.lt
  ⟨(hb.cell (p := ⟨b, 0, none⟩) hl).trans h.c0, (hb.cell (p := ⟨b, 1, none⟩) hl).trans h.c1, (hb.cell (p := ⟨b, 2, none⟩) hl).trans h.c2, (hb.cell (p := ⟨b, 3, none⟩) hl).trans h.c3⟩
theorem BoxP.al {w : World} {b : Nat} {x : Px} (h : BoxP w b x) (o : Obj) : BoxP (w.alloc o) b x := h.keep (pbal w o)
theorem ReadsI.keep {a b : World} {v : Value} {l : List Int} (h : ReadsI a v l) (hb : Below a.heap.size a b) : ReadsI b v l := by
  obtain ⟨h1, p, c, rfl, h2⟩ := h
  refine ⟨h1, p, c, rfl, fun h0 => ?_⟩
  obtain ⟨k, o, rfl, h3⟩ := h2 h0
  exact ⟨k, o, rfl, fun j hj => (hb.cell (World.block_lt_of_cell? _ _ (h3 j hj))).trans (h3 j hj)⟩
theorem lit_reads (w : World) (l : List Int) (hl : l.length ≤ maxLen) : ReadsI (w.alloc (.cells (l.map (Value.int .i64)).toArray 3)) (.slice (some ⟨w.heap.size, 0, none⟩) l.length l.length) l := by
  refine ⟨hl, _, _, rfl, fun _ => ⟨w.heap.size, 0, rfl, fun k hk => ?_⟩⟩
  simp [hk]
set_option maxRecDepth 100000 in
set_option maxHeartbeats 4000000 in
theorem phead_any (w : World) (hb : Bru w) : Calls Tryd.prog 22 #[] w fun e w' => e = .returned (.bool true) ∧ Below w.heap.size w w' := by
  have T := phid hb
  clear hb
  go_enter Tryd.func22, Tryd.ntmps22
  go_wp2_with fail
  refine (pack_any ⟨3, 2, 16, 9⟩ (by decide) 8 _).mono ?_
  rw [show packS ⟨3, 2, 16, 9⟩ 8 = 155715 from by decide, show packE ⟨3, 2, 16, 9⟩ 8 = 0 from by decide]
  rintro e w1 ⟨rfl, b⟩
  replace T := phid (T.out.keep b)
  have B := phid b
  clear b
  go_wp2_with fail
  refine (unpack_any 155715 (by omega) (by omega) 8 _).mono ?_
  rw [show unS 155715 8 = ⟨3, 2, 16, 9⟩ from by kernel_rfl, show unE 155715 8 = 0 from by decide]
  rintro e w2 ⟨rfl, b⟩
  replace T := phid ((T.out.keep b).al (.cells #[.int .u8 3, .int .u8 2, .int .u8 16, .int .u8 9] 37))
  replace B := phid (pbt (pbt B.out b) (pbal w2 (.cells #[.int .u8 3, .int .u8 2, .int .u8 16, .int .u8 9] 37)))
  have X := phid (BoxP.new w2 ⟨3, 2, 16, 9⟩)
  clear b
  go_wp2_with fail
  refine (unpack_any 155715 (by omega) (by omega) 3 _).mono ?_
  rw [show unS 155715 3 = ⟨0, 0, 0, 0⟩ from by kernel_rfl, show unE 155715 3 = 5 from by decide]
  rintro e w3 ⟨rfl, b⟩
  replace T := phid ((T.out.keep b).al (.cells #[.int .u8 0, .int .u8 0, .int .u8 0, .int .u8 0] 37))
  replace B := phid (pbt (pbt B.out b) (pbal w3 (.cells #[.int .u8 0, .int .u8 0, .int .u8 0, .int .u8 0] 37)))
  replace X := phid ((X.out.keep b).al (.cells #[.int .u8 0, .int .u8 0, .int .u8 0, .int .u8 0] 37))
  clear b
  go_wp2_with fail
  refine (unpack_any 262144 (by omega) (by omega) 8 _).mono ?_
  rw [show unS 262144 8 = ⟨0, 0, 0, 0⟩ from by kernel_rfl, show unE 262144 8 = 5 from by decide]
  rintro e w4 ⟨rfl, b⟩
  replace T := phid ((T.out.keep b).al (.cells #[.int .u8 0, .int .u8 0, .int .u8 0, .int .u8 0] 37))
  replace B := phid (pbt (pbt B.out b) (pbal w4 (.cells #[.int .u8 0, .int .u8 0, .int .u8 0, .int .u8 0] 37)))
  replace X := phid ((X.out.keep b).al (.cells #[.int .u8 0, .int .u8 0, .int .u8 0, .int .u8 0] 37))
  clear b
  go_wp2_with fail
  refine (next_any 7 8 _).mono ?_
  rw [show stepV 7 1 8 = 0 from by decide, show okE 7 8 = 0 from by decide]
  rintro e w5 ⟨rfl, b⟩
  replace T := phid (T.out.keep b)
  replace B := phid (pbt B.out b)
  replace X := phid (X.out.keep b)
  clear b
  go_wp2_with fail
  refine (ahead_any 0 8 _).mono ?_
  rw [show stepV 0 (8 - 1) 8 = 7 from by decide, show okE 0 8 = 0 from by decide]
  rintro e w6 ⟨rfl, b⟩
  replace T := phid (T.out.keep b)
  replace B := phid (pbt B.out b)
  replace X := phid (X.out.keep b)
  clear b
  go_wp2_with fail
  refine (invalid_any 8 8 (by omega) (by omega) _ T.out).mono ?_
  rw [show invV 8 8 = 3 from by kernel_rfl, show invE 8 8 = 0 from by kernel_rfl]
  rintro e w7 ⟨rfl, b⟩
  replace T := phid (T.out.keep b)
  replace B := phid (pbt B.out b)
  replace X := phid (X.out.keep b)
  clear b
  go_wp2_with fail
  refine (invalid_any 9 8 (by omega) (by omega) _ T.out).mono ?_
  rw [show invV 9 8 = 0 from by kernel_rfl, show invE 9 8 = 5 from by kernel_rfl]
  rintro e w8 ⟨rfl, b⟩
  replace T := phid (T.out.keep b)
  replace B := phid (pbt B.out b)
  replace X := phid (X.out.keep b)
  clear b
  go_wp2_with fail
  refine (invalid_any 256 8 (by omega) (by omega) _ T.out).mono ?_
  rw [show invV 256 8 = 0 from by kernel_rfl, show invE 256 8 = 5 from by kernel_rfl]
  rintro e w9 ⟨rfl, b⟩
  replace T := phid (T.out.keep b)
  replace B := phid (pbt B.out b)
  replace X := phid (X.out.keep b)
  clear b
  go_wp2_with fail
  refine (resident_any 6 8 8 (by omega) (by omega) _ T.out).mono ?_
  rw [show resV 6 8 8 = [6, 7, 0, 1, 2] from by kernel_rfl, show resE 6 8 8 = 0 from by kernel_rfl]
  rintro e w10 ⟨v, rfl, hown, b⟩
  replace T := phid (T.out.keep b)
  replace B := phid (pbt B.out b)
  replace X := phid (X.out.keep b)
  have R1 := phid (ReadsI.of_own hown)
  clear b hown
  go_wp2_with fail
  refine (resident_any 1 1 2 (by omega) (by omega) _ T.out).mono ?_
  rw [show resV 1 1 2 = [1] from by kernel_rfl, show resE 1 1 2 = 0 from by kernel_rfl]
  rintro e w11 ⟨u, rfl, hown, b⟩
  replace B := phid (pbt B.out b)
  replace X := X.out.keep b
  replace R1 := phid (R1.out.keep b)
  have R2 := phid (ReadsI.of_own hown)
  clear b hown T
  have ⟨x0, x1, x2, x3⟩ := X
  go_wp2_with fail
  have R3 : ReadsI (w11.alloc (.cells #[.int .i64 6, .int .i64 7, .int .i64 0, .int .i64 1, .int .i64 2] 3)) (.slice (some ⟨w11.heap.size, 0, none⟩) 5 5) [6, 7, 0, 1, 2] := lit_reads w11 [6, 7, 0, 1, 2] (by unfold maxLen; simp)
  refine (psame_any _ v _ [6, 7, 0, 1, 2] [6, 7, 0, 1, 2] (R1.out.keep (pbal _ _)) R3).mono ?_
  rintro e w12 ⟨rfl, b⟩
  replace B := phid (pbt (pbt B.out (pbal _ _)) b)
  replace R2 := phid ((R2.out.keep (pbal _ _)).keep b)
  clear b R1 R3 X x0 x1 x2 x3
  go_wp2_with fail
  have R3 : ReadsI (w12.alloc (.cells #[.int .i64 1] 3)) (.slice (some ⟨w12.heap.size, 0, none⟩) 1 1) [1] := lit_reads w12 [1] (by unfold maxLen; simp)
  refine (psame_any _ u _ [1] [1] (R2.out.keep (pbal _ _)) R3).mono ?_
  rintro e w13 ⟨rfl, b⟩
  replace B := phid (pbt (pbt B.out (pbal _ _)) b)
  clear b R2 R3
  go_wp2_with fail
  go_ret
  exact ⟨rfl, B.out⟩
end Go.Proofs.YtilegepenibeoaaDoor
