/- Walks of the package lower: may. -/
import Derived.Test.YtfbbodaapkfbdaaDoorG27
namespace Go.Proofs.YtfbbodaapkfbdaaDoor
open Go.RowKit
set_option linter.unusedVariables false
set_option linter.unusedSimpArgs false
theorem doP_0 (nf nb : Nat) (id ia ib inn iff il1 il2 k xd xa xb : Int) (al xl : List Int) : doP nf nb ⟨0, id, ia, ib, inn, iff, al, il1, il2⟩ ⟨1, k, xd, xa, xb, xl⟩ ↔ (regP xd (true = true) ∧ regP xa (false = true) ∧ regP xb (false = true) ∧ xl.length = al.length ∧ xl.any badReg = false ∧ True) := by
  have h : hasS 0 = 4 := by rfl
  have ha : xl.any badReg = false ↔ ∀ r ∈ xl, 0 ≤ r ∧ r < 32 := by
    rw [← Bool.not_eq_true, List.any_eq_true]
    simp [badReg]
  rw [ha]
  unfold doP
  simp only [h]
  unfold regP
  simp (decide := true) [and_assoc]
set_option maxRecDepth 100000 in
set_option maxHeartbeats 4000000 in
theorem may_0 {g f nf nb : Nat} {pf : Option Addr} {cf : Nat} {bf of cb : Nat} {pb : Option Addr} {bi oi : Nat} {w : World} {nm : ByteArray} {pi px pa : Option Addr} {ni ci nx cx na ca : Nat} {xt xd xa xb id ia ib inn iff il1 il2 : Int} {xl al : List Int}
    (k3 : w.cell? ⟨g, 3, none⟩ = some (.slice (some ⟨bf, of, none⟩) nf cf)) (k4 : w.cell? ⟨g, 4, none⟩ = some (.int .i64 f)) (hfn : f < nf)
    (kb : w.cell? ⟨bf, of + f * 4 + 3, none⟩ = some (.slice pb nb cb))
    (hx : IntsIn w (.slice px nx cx) xl) (hxl : nx = xl.length)
    (hat : 0 ≤ xt ∧ xt < ni) (hpi : pi = some ⟨bi, oi, none⟩)
    (i0 : w.cell? ⟨bi, oi + xt.toNat * 9, none⟩ = some (.int .u8 0)) (i1 : w.cell? ⟨bi, oi + xt.toNat * 9 + 1, none⟩ = some (.int .i64 id)) (i2 : w.cell? ⟨bi, oi + xt.toNat * 9 + 2, none⟩ = some (.int .i64 ia)) (i3 : w.cell? ⟨bi, oi + xt.toNat * 9 + 3, none⟩ = some (.int .i64 ib)) (i4 : w.cell? ⟨bi, oi + xt.toNat * 9 + 4, none⟩ = some (.int .u32 inn)) (i5 : w.cell? ⟨bi, oi + xt.toNat * 9 + 5, none⟩ = some (.int .i64 iff)) (i6 : w.cell? ⟨bi, oi + xt.toNat * 9 + 6, none⟩ = some (.slice pa na ca)) (i7 : w.cell? ⟨bi, oi + xt.toNat * 9 + 7, none⟩ = some (.int .i64 il1)) (i8 : w.cell? ⟨bi, oi + xt.toNat * 9 + 8, none⟩ = some (.int .i64 il2)) (hal : na = al.length) :
    Calls Tryd.prog 51 #[.pointer (some ⟨g, 0, none⟩), .agg #[.string nm, .slice pi ni ci], .agg #[.int .u8 1, .int .i64 xt, .int .i64 xd, .int .i64 xa, .int .i64 xb, .slice px nx cx]] w fun e w' => e = .returned (.bool (decide (doP nf nb ⟨0, id, ia, ib, inn, iff, al, il1, il2⟩ ⟨1, xt, xd, xa, xb, xl⟩))) ∧ Below w.heap.size w w' := by
  obtain ⟨k, rfl⟩ : ∃ k : Nat, xt = k := ⟨xt.toNat, by omega⟩
  simp only [Int.toNat_natCast] at i0 i1 i2 i3 i4 i5 i6 i7 i8
  have hkl : k < ni := by omega
  have hat' := hat
  subst hpi hxl hal
  have g1 := World.block_lt_of_cell? _ _ i0
  have g2 := World.block_lt_of_cell? _ _ k3
  have g3 := World.block_lt_of_cell? _ _ kb
  have g4 := World.block_lt_of_cell? _ _ k4
  have HD := ahid ((decide_eq_true_iff (p := doP nf nb ⟨0, id, ia, ib, inn, iff, al, il1, il2⟩ ⟨1, k, xd, xa, xb, xl⟩)).trans (doP_0 nf nb id ia ib inn iff il1 il2 k xd xa xb al xl))
  generalize decide (doP nf nb ⟨0, id, ia, ib, inn, iff, al, il1, il2⟩ ⟨1, k, xd, xa, xb, xl⟩) = B at HD ⊢
  have HNO : Hid (∀ w', Below w.heap.size w w' → B = false → Ending.returned (.bool false) = .returned (.bool B) ∧ Below w.heap.size w w') := ahid fun w' hb hB => ⟨by rw [hB], hb⟩
  go_enter Tryd.func51, Tryd.ntmps51
  go_wp2_with fail
  refine (within_any _ _ _).mono ?_
  rintro e w' ⟨rfl, rfl⟩
  rw [decide_eq_true hat']
  go_wp2_with fail
  obtain ⟨W3, hW3⟩ : ∃ W3, W3 = (((w.alloc (.cells #[.string nm, .slice (some ⟨bi, oi, none⟩) ni ci] 76)).alloc (.cells #[.int .u8 1, .int .i64 k, .int .i64 xd, .int .i64 xa, .int .i64 xb, .slice px xl.length cx] 41)).alloc (.cells #[.int .u8 0, .int .i64 id, .int .i64 ia, .int .i64 ib, .int .u32 inn, .int .i64 iff, .slice pa al.length ca, .int .i64 il1, .int .i64 il2] 73)) := ⟨_, rfl⟩
  have hb3 : Below w.heap.size w W3 := by rw [hW3]; exact (((Below.refl _ w).alloc (Nat.le_refl _) _).alloc (by simp [go_sem]) _).alloc (by simp [go_sem]; omega) _
  have x0 : W3.cell? ⟨w.heap.size + 1 + 1, 0, none⟩ = some (.int .u8 0) := by rw [hW3]; simp [go_sem]
  have x4 : W3.cell? ⟨w.heap.size + 1 + 1, 4, none⟩ = some (.int .u32 inn) := by rw [hW3]; simp [go_sem]
  have x5 : W3.cell? ⟨w.heap.size + 1 + 1, 5, none⟩ = some (.int .i64 iff) := by rw [hW3]; simp [go_sem]
  have x6 : W3.cell? ⟨w.heap.size + 1 + 1, 6, none⟩ = some (.slice pa al.length ca) := by rw [hW3]; simp [go_sem]
  have x7 : W3.cell? ⟨w.heap.size + 1 + 1, 7, none⟩ = some (.int .i64 il1) := by rw [hW3]; simp [go_sem]
  have x8 : W3.cell? ⟨w.heap.size + 1 + 1, 8, none⟩ = some (.int .i64 il2) := by rw [hW3]; simp [go_sem]
  have y2 : W3.cell? ⟨w.heap.size + 1, 2, none⟩ = some (.int .i64 xd) := by rw [hW3]; simp [go_sem]
  have y3 : W3.cell? ⟨w.heap.size + 1, 3, none⟩ = some (.int .i64 xa) := by rw [hW3]; simp [go_sem]
  have y4 : W3.cell? ⟨w.heap.size + 1, 4, none⟩ = some (.int .i64 xb) := by rw [hW3]; simp [go_sem]
  have y5 : W3.cell? ⟨w.heap.size + 1, 5, none⟩ = some (.slice px xl.length cx) := by rw [hW3]; simp [go_sem]
  rw [← hW3]
  clear hW3
  refine (has_0 W3).mono ?_
  rintro e w2 ⟨rfl, hb4⟩
  replace x0 := (hb4.cell (World.block_lt_of_cell? _ _ x0)).trans x0
  replace x4 := (hb4.cell (World.block_lt_of_cell? _ _ x4)).trans x4
  replace x5 := (hb4.cell (World.block_lt_of_cell? _ _ x5)).trans x5
  replace x6 := (hb4.cell (World.block_lt_of_cell? _ _ x6)).trans x6
  replace x7 := (hb4.cell (World.block_lt_of_cell? _ _ x7)).trans x7
  replace x8 := (hb4.cell (World.block_lt_of_cell? _ _ x8)).trans x8
  replace y2 := (hb4.cell (World.block_lt_of_cell? _ _ y2)).trans y2
  replace y3 := (hb4.cell (World.block_lt_of_cell? _ _ y3)).trans y3
  replace y4 := (hb4.cell (World.block_lt_of_cell? _ _ y4)).trans y4
  replace y5 := (hb4.cell (World.block_lt_of_cell? _ _ y5)).trans y5
  have hb5 : Below w.heap.size w w2 := hb3.trans (hb4.mono hb3.size)
  replace k3 := (hb5.cell g2).trans k3
  replace k4 := (hb5.cell g4).trans k4
  replace kb := (hb5.cell g3).trans kb
  have HX := ahid (hx.keep fun _ _ _ _ hh => hh.keep hb5)
  have HB5 := ahid hb5
  have HBN := ahid (fun n => (⟨hb5.os, hb5.tape, hb5.output, hb5.size, hb5.block⟩ : Below w.heap.size w (w2.drewN n)))
  clear hb3 hb4 hb5 i0 i1 i2 i3 i4 i5 i6 i7 i8 hx g1 g2 g3 g4
  by_cases hlen : xl.length = al.length
  rotate_left
  · have hne : ((xl.length : Int) != (al.length : Int)) = true := by simp; omega
    go_wp2_with fail
    rw [show (bits BinOp.and IntKind.i64 4 4 != 0) = true from by decide]
    refine (reg_any xd true w2).mono ?_
    rintro e w' ⟨rfl, rfl⟩
    by_cases r1 : regP xd (true = true)
    rotate_left
    · rw [decide_eq_false r1]
      go_wp2_with fail
      go_ret
      exact HNO.out _ (by first | exact HB5.out | exact HBN.out _) (Bool.eq_false_iff.2 fun h => r1 ((HD.out.1 h).1))
    rw [decide_eq_true r1]
    go_wp2_with fail
    rw [show (bits BinOp.and IntKind.i64 4 2 != 0) = false from by decide]
    refine (reg_any xa false w2).mono ?_
    rintro e w' ⟨rfl, rfl⟩
    by_cases r2 : regP xa (false = true)
    rotate_left
    · rw [decide_eq_false r2]
      go_wp2_with fail
      go_ret
      exact HNO.out _ (by first | exact HB5.out | exact HBN.out _) (Bool.eq_false_iff.2 fun h => r2 ((HD.out.1 h).2.1))
    rw [decide_eq_true r2]
    go_wp2_with fail
    rw [show (bits BinOp.and IntKind.i64 4 1 != 0) = false from by decide]
    refine (reg_any xb false w2).mono ?_
    rintro e w' ⟨rfl, rfl⟩
    by_cases r3 : regP xb (false = true)
    rotate_left
    · rw [decide_eq_false r3]
      go_wp2_with fail
      go_ret
      exact HNO.out _ (by first | exact HB5.out | exact HBN.out _) (Bool.eq_false_iff.2 fun h => r3 ((HD.out.1 h).2.2.1))
    rw [decide_eq_true r3]
    go_wp2_with fail
    go_ret
    exact HNO.out _ (by first | exact HB5.out | exact HBN.out _) (Bool.eq_false_iff.2 fun h => hlen ((HD.out.1 h).2.2.2.1))
  have hne : ((xl.length : Int) != (al.length : Int)) = false := by simp; omega
  have HL := ahid hlen
  clear hlen
  go_wp2_with fail
  rw [show (bits BinOp.and IntKind.i64 4 4 != 0) = true from by decide]
  refine (reg_any xd true w2).mono ?_
  rintro e w' ⟨rfl, rfl⟩
  by_cases r1 : regP xd (true = true)
  rotate_left
  · rw [decide_eq_false r1]
    go_wp2_with fail
    go_ret
    exact HNO.out _ (by first | exact HB5.out | exact HBN.out _) (Bool.eq_false_iff.2 fun h => r1 ((HD.out.1 h).1))
  rw [decide_eq_true r1]
  go_wp2_with fail
  rw [show (bits BinOp.and IntKind.i64 4 2 != 0) = false from by decide]
  refine (reg_any xa false w2).mono ?_
  rintro e w' ⟨rfl, rfl⟩
  by_cases r2 : regP xa (false = true)
  rotate_left
  · rw [decide_eq_false r2]
    go_wp2_with fail
    go_ret
    exact HNO.out _ (by first | exact HB5.out | exact HBN.out _) (Bool.eq_false_iff.2 fun h => r2 ((HD.out.1 h).2.1))
  rw [decide_eq_true r2]
  go_wp2_with fail
  rw [show (bits BinOp.and IntKind.i64 4 1 != 0) = false from by decide]
  refine (reg_any xb false w2).mono ?_
  rintro e w' ⟨rfl, rfl⟩
  by_cases r3 : regP xb (false = true)
  rotate_left
  · rw [decide_eq_false r3]
    go_wp2_with fail
    go_ret
    exact HNO.out _ (by first | exact HB5.out | exact HBN.out _) (Bool.eq_false_iff.2 fun h => r3 ((HD.out.1 h).2.2.1))
  rw [decide_eq_true r3]
  go_wp2_with fail
  refine (contains_reg w2 _ xl HX.out).mono ?_
  rintro e w' ⟨rfl, rfl⟩
  cases hany : xl.any badReg with
  | true =>
    go_wp2_with fail
    go_ret
    exact HNO.out _ (by first | exact HB5.out | exact HBN.out _) (Bool.eq_false_iff.2 fun h => by have hh := (HD.out.1 h).2.2.2.2.1; rw [hany] at hh; cases hh)
  | false =>
    have hf0 : (0 : Int) ≤ (f : Int) := by omega
    have hf1 : (f : Int) < (nf : Int) := by omega
    go_wp2_with fail
    go_quiet (fail)
    go_wp2_with fail
    go_ret
    exact ⟨congrArg (fun b => Ending.returned (.bool b)) (Bool.eq_iff_iff.2 (by rw [HD.out]; exact ⟨fun h => ⟨r1, r2, r3, HL.out, hany, trivial⟩, fun h => rfl⟩)), (by first | exact HB5.out | exact HBN.out _)⟩
theorem doP_1 (nf nb : Nat) (id ia ib inn iff il1 il2 k xd xa xb : Int) (al xl : List Int) : doP nf nb ⟨1, id, ia, ib, inn, iff, al, il1, il2⟩ ⟨1, k, xd, xa, xb, xl⟩ ↔ (regP xd (true = true) ∧ regP xa (true = true) ∧ regP xb (true = true) ∧ xl.length = al.length ∧ xl.any badReg = false ∧ inn ≤ 13) := by
  have h : hasS 1 = 7 := by rfl
  have ha : xl.any badReg = false ↔ ∀ r ∈ xl, 0 ≤ r ∧ r < 32 := by
    rw [← Bool.not_eq_true, List.any_eq_true]
    simp [badReg]
  rw [ha]
  unfold doP
  simp only [h]
  unfold regP
  simp (decide := true) [and_assoc]
set_option maxRecDepth 100000 in
set_option maxHeartbeats 4000000 in
theorem may_1 {g f nf nb : Nat} {pf : Option Addr} {cf : Nat} {bf of cb : Nat} {pb : Option Addr} {bi oi : Nat} {w : World} {nm : ByteArray} {pi px pa : Option Addr} {ni ci nx cx na ca : Nat} {xt xd xa xb id ia ib inn iff il1 il2 : Int} {xl al : List Int}
    (k3 : w.cell? ⟨g, 3, none⟩ = some (.slice (some ⟨bf, of, none⟩) nf cf)) (k4 : w.cell? ⟨g, 4, none⟩ = some (.int .i64 f)) (hfn : f < nf)
    (kb : w.cell? ⟨bf, of + f * 4 + 3, none⟩ = some (.slice pb nb cb))
    (hx : IntsIn w (.slice px nx cx) xl) (hxl : nx = xl.length)
    (hat : 0 ≤ xt ∧ xt < ni) (hpi : pi = some ⟨bi, oi, none⟩)
    (i0 : w.cell? ⟨bi, oi + xt.toNat * 9, none⟩ = some (.int .u8 1)) (i1 : w.cell? ⟨bi, oi + xt.toNat * 9 + 1, none⟩ = some (.int .i64 id)) (i2 : w.cell? ⟨bi, oi + xt.toNat * 9 + 2, none⟩ = some (.int .i64 ia)) (i3 : w.cell? ⟨bi, oi + xt.toNat * 9 + 3, none⟩ = some (.int .i64 ib)) (i4 : w.cell? ⟨bi, oi + xt.toNat * 9 + 4, none⟩ = some (.int .u32 inn)) (i5 : w.cell? ⟨bi, oi + xt.toNat * 9 + 5, none⟩ = some (.int .i64 iff)) (i6 : w.cell? ⟨bi, oi + xt.toNat * 9 + 6, none⟩ = some (.slice pa na ca)) (i7 : w.cell? ⟨bi, oi + xt.toNat * 9 + 7, none⟩ = some (.int .i64 il1)) (i8 : w.cell? ⟨bi, oi + xt.toNat * 9 + 8, none⟩ = some (.int .i64 il2)) (hal : na = al.length) :
    Calls Tryd.prog 51 #[.pointer (some ⟨g, 0, none⟩), .agg #[.string nm, .slice pi ni ci], .agg #[.int .u8 1, .int .i64 xt, .int .i64 xd, .int .i64 xa, .int .i64 xb, .slice px nx cx]] w fun e w' => e = .returned (.bool (decide (doP nf nb ⟨1, id, ia, ib, inn, iff, al, il1, il2⟩ ⟨1, xt, xd, xa, xb, xl⟩))) ∧ Below w.heap.size w w' := by
  obtain ⟨k, rfl⟩ : ∃ k : Nat, xt = k := ⟨xt.toNat, by omega⟩
  simp only [Int.toNat_natCast] at i0 i1 i2 i3 i4 i5 i6 i7 i8
  have hkl : k < ni := by omega
  have hat' := hat
  subst hpi hxl hal
  have g1 := World.block_lt_of_cell? _ _ i0
  have g2 := World.block_lt_of_cell? _ _ k3
  have g3 := World.block_lt_of_cell? _ _ kb
  have g4 := World.block_lt_of_cell? _ _ k4
  have HD := ahid ((decide_eq_true_iff (p := doP nf nb ⟨1, id, ia, ib, inn, iff, al, il1, il2⟩ ⟨1, k, xd, xa, xb, xl⟩)).trans (doP_1 nf nb id ia ib inn iff il1 il2 k xd xa xb al xl))
  generalize decide (doP nf nb ⟨1, id, ia, ib, inn, iff, al, il1, il2⟩ ⟨1, k, xd, xa, xb, xl⟩) = B at HD ⊢
  have HNO : Hid (∀ w', Below w.heap.size w w' → B = false → Ending.returned (.bool false) = .returned (.bool B) ∧ Below w.heap.size w w') := ahid fun w' hb hB => ⟨by rw [hB], hb⟩
  go_enter Tryd.func51, Tryd.ntmps51
  go_wp2_with fail
  refine (within_any _ _ _).mono ?_
  rintro e w' ⟨rfl, rfl⟩
  rw [decide_eq_true hat']
  go_wp2_with fail
  obtain ⟨W3, hW3⟩ : ∃ W3, W3 = (((w.alloc (.cells #[.string nm, .slice (some ⟨bi, oi, none⟩) ni ci] 76)).alloc (.cells #[.int .u8 1, .int .i64 k, .int .i64 xd, .int .i64 xa, .int .i64 xb, .slice px xl.length cx] 41)).alloc (.cells #[.int .u8 1, .int .i64 id, .int .i64 ia, .int .i64 ib, .int .u32 inn, .int .i64 iff, .slice pa al.length ca, .int .i64 il1, .int .i64 il2] 73)) := ⟨_, rfl⟩
  have hb3 : Below w.heap.size w W3 := by rw [hW3]; exact (((Below.refl _ w).alloc (Nat.le_refl _) _).alloc (by simp [go_sem]) _).alloc (by simp [go_sem]; omega) _
  have x0 : W3.cell? ⟨w.heap.size + 1 + 1, 0, none⟩ = some (.int .u8 1) := by rw [hW3]; simp [go_sem]
  have x4 : W3.cell? ⟨w.heap.size + 1 + 1, 4, none⟩ = some (.int .u32 inn) := by rw [hW3]; simp [go_sem]
  have x5 : W3.cell? ⟨w.heap.size + 1 + 1, 5, none⟩ = some (.int .i64 iff) := by rw [hW3]; simp [go_sem]
  have x6 : W3.cell? ⟨w.heap.size + 1 + 1, 6, none⟩ = some (.slice pa al.length ca) := by rw [hW3]; simp [go_sem]
  have x7 : W3.cell? ⟨w.heap.size + 1 + 1, 7, none⟩ = some (.int .i64 il1) := by rw [hW3]; simp [go_sem]
  have x8 : W3.cell? ⟨w.heap.size + 1 + 1, 8, none⟩ = some (.int .i64 il2) := by rw [hW3]; simp [go_sem]
  have y2 : W3.cell? ⟨w.heap.size + 1, 2, none⟩ = some (.int .i64 xd) := by rw [hW3]; simp [go_sem]
  have y3 : W3.cell? ⟨w.heap.size + 1, 3, none⟩ = some (.int .i64 xa) := by rw [hW3]; simp [go_sem]
  have y4 : W3.cell? ⟨w.heap.size + 1, 4, none⟩ = some (.int .i64 xb) := by rw [hW3]; simp [go_sem]
  have y5 : W3.cell? ⟨w.heap.size + 1, 5, none⟩ = some (.slice px xl.length cx) := by rw [hW3]; simp [go_sem]
  rw [← hW3]
  clear hW3
  refine (has_1 W3).mono ?_
  rintro e w2 ⟨rfl, hb4⟩
  replace x0 := (hb4.cell (World.block_lt_of_cell? _ _ x0)).trans x0
  replace x4 := (hb4.cell (World.block_lt_of_cell? _ _ x4)).trans x4
  replace x5 := (hb4.cell (World.block_lt_of_cell? _ _ x5)).trans x5
  replace x6 := (hb4.cell (World.block_lt_of_cell? _ _ x6)).trans x6
  replace x7 := (hb4.cell (World.block_lt_of_cell? _ _ x7)).trans x7
  replace x8 := (hb4.cell (World.block_lt_of_cell? _ _ x8)).trans x8
  replace y2 := (hb4.cell (World.block_lt_of_cell? _ _ y2)).trans y2
  replace y3 := (hb4.cell (World.block_lt_of_cell? _ _ y3)).trans y3
  replace y4 := (hb4.cell (World.block_lt_of_cell? _ _ y4)).trans y4
  replace y5 := (hb4.cell (World.block_lt_of_cell? _ _ y5)).trans y5
  have hb5 : Below w.heap.size w w2 := hb3.trans (hb4.mono hb3.size)
  replace k3 := (hb5.cell g2).trans k3
  replace k4 := (hb5.cell g4).trans k4
  replace kb := (hb5.cell g3).trans kb
  have HX := ahid (hx.keep fun _ _ _ _ hh => hh.keep hb5)
  have HB5 := ahid hb5
  have HBN := ahid (fun n => (⟨hb5.os, hb5.tape, hb5.output, hb5.size, hb5.block⟩ : Below w.heap.size w (w2.drewN n)))
  clear hb3 hb4 hb5 i0 i1 i2 i3 i4 i5 i6 i7 i8 hx g1 g2 g3 g4
  by_cases hlen : xl.length = al.length
  rotate_left
  · have hne : ((xl.length : Int) != (al.length : Int)) = true := by simp; omega
    go_wp2_with fail
    rw [show (bits BinOp.and IntKind.i64 7 4 != 0) = true from by decide]
    refine (reg_any xd true w2).mono ?_
    rintro e w' ⟨rfl, rfl⟩
    by_cases r1 : regP xd (true = true)
    rotate_left
    · rw [decide_eq_false r1]
      go_wp2_with fail
      go_ret
      exact HNO.out _ (by first | exact HB5.out | exact HBN.out _) (Bool.eq_false_iff.2 fun h => r1 ((HD.out.1 h).1))
    rw [decide_eq_true r1]
    go_wp2_with fail
    rw [show (bits BinOp.and IntKind.i64 7 2 != 0) = true from by decide]
    refine (reg_any xa true w2).mono ?_
    rintro e w' ⟨rfl, rfl⟩
    by_cases r2 : regP xa (true = true)
    rotate_left
    · rw [decide_eq_false r2]
      go_wp2_with fail
      go_ret
      exact HNO.out _ (by first | exact HB5.out | exact HBN.out _) (Bool.eq_false_iff.2 fun h => r2 ((HD.out.1 h).2.1))
    rw [decide_eq_true r2]
    go_wp2_with fail
    rw [show (bits BinOp.and IntKind.i64 7 1 != 0) = true from by decide]
    refine (reg_any xb true w2).mono ?_
    rintro e w' ⟨rfl, rfl⟩
    by_cases r3 : regP xb (true = true)
    rotate_left
    · rw [decide_eq_false r3]
      go_wp2_with fail
      go_ret
      exact HNO.out _ (by first | exact HB5.out | exact HBN.out _) (Bool.eq_false_iff.2 fun h => r3 ((HD.out.1 h).2.2.1))
    rw [decide_eq_true r3]
    go_wp2_with fail
    go_ret
    exact HNO.out _ (by first | exact HB5.out | exact HBN.out _) (Bool.eq_false_iff.2 fun h => hlen ((HD.out.1 h).2.2.2.1))
  have hne : ((xl.length : Int) != (al.length : Int)) = false := by simp; omega
  have HL := ahid hlen
  clear hlen
  go_wp2_with fail
  rw [show (bits BinOp.and IntKind.i64 7 4 != 0) = true from by decide]
  refine (reg_any xd true w2).mono ?_
  rintro e w' ⟨rfl, rfl⟩
  by_cases r1 : regP xd (true = true)
  rotate_left
  · rw [decide_eq_false r1]
    go_wp2_with fail
    go_ret
    exact HNO.out _ (by first | exact HB5.out | exact HBN.out _) (Bool.eq_false_iff.2 fun h => r1 ((HD.out.1 h).1))
  rw [decide_eq_true r1]
  go_wp2_with fail
  rw [show (bits BinOp.and IntKind.i64 7 2 != 0) = true from by decide]
  refine (reg_any xa true w2).mono ?_
  rintro e w' ⟨rfl, rfl⟩
  by_cases r2 : regP xa (true = true)
  rotate_left
  · rw [decide_eq_false r2]
    go_wp2_with fail
    go_ret
    exact HNO.out _ (by first | exact HB5.out | exact HBN.out _) (Bool.eq_false_iff.2 fun h => r2 ((HD.out.1 h).2.1))
  rw [decide_eq_true r2]
  go_wp2_with fail
  rw [show (bits BinOp.and IntKind.i64 7 1 != 0) = true from by decide]
  refine (reg_any xb true w2).mono ?_
  rintro e w' ⟨rfl, rfl⟩
  by_cases r3 : regP xb (true = true)
  rotate_left
  · rw [decide_eq_false r3]
    go_wp2_with fail
    go_ret
    exact HNO.out _ (by first | exact HB5.out | exact HBN.out _) (Bool.eq_false_iff.2 fun h => r3 ((HD.out.1 h).2.2.1))
  rw [decide_eq_true r3]
  go_wp2_with fail
  refine (contains_reg w2 _ xl HX.out).mono ?_
  rintro e w' ⟨rfl, rfl⟩
  cases hany : xl.any badReg with
  | true =>
    go_wp2_with fail
    go_ret
    exact HNO.out _ (by first | exact HB5.out | exact HBN.out _) (Bool.eq_false_iff.2 fun h => by have hh := (HD.out.1 h).2.2.2.2.1; rw [hany] at hh; cases hh)
  | false =>
    have hf0 : (0 : Int) ≤ (f : Int) := by omega
    have hf1 : (f : Int) < (nf : Int) := by omega
    go_wp2_with fail
    go_quiet (fail)
    go_wp2_with fail
    go_ret
    exact ⟨congrArg (fun b => Ending.returned (.bool b)) (Bool.eq_iff_iff.2 (by rw [HD.out]; (first | rw [decide_eq_true_iff] | rw [Bool.and_eq_true, decide_eq_true_iff, decide_eq_true_iff]); exact ⟨fun h => ⟨r1, r2, r3, HL.out, hany, h⟩, fun h => h.2.2.2.2.2⟩)), (by first | exact HB5.out | exact HBN.out _)⟩
theorem doP_2 (nf nb : Nat) (id ia ib inn iff il1 il2 k xd xa xb : Int) (al xl : List Int) : doP nf nb ⟨2, id, ia, ib, inn, iff, al, il1, il2⟩ ⟨1, k, xd, xa, xb, xl⟩ ↔ (regP xd (true = true) ∧ regP xa (true = true) ∧ regP xb (false = true) ∧ xl.length = al.length ∧ xl.any badReg = false ∧ True) := by
  have h : hasS 2 = 6 := by rfl
  have ha : xl.any badReg = false ↔ ∀ r ∈ xl, 0 ≤ r ∧ r < 32 := by
    rw [← Bool.not_eq_true, List.any_eq_true]
    simp [badReg]
  rw [ha]
  unfold doP
  simp only [h]
  unfold regP
  simp (decide := true) [and_assoc]
set_option maxRecDepth 100000 in
set_option maxHeartbeats 4000000 in
theorem may_2 {g f nf nb : Nat} {pf : Option Addr} {cf : Nat} {bf of cb : Nat} {pb : Option Addr} {bi oi : Nat} {w : World} {nm : ByteArray} {pi px pa : Option Addr} {ni ci nx cx na ca : Nat} {xt xd xa xb id ia ib inn iff il1 il2 : Int} {xl al : List Int}
    (k3 : w.cell? ⟨g, 3, none⟩ = some (.slice (some ⟨bf, of, none⟩) nf cf)) (k4 : w.cell? ⟨g, 4, none⟩ = some (.int .i64 f)) (hfn : f < nf)
    (kb : w.cell? ⟨bf, of + f * 4 + 3, none⟩ = some (.slice pb nb cb))
    (hx : IntsIn w (.slice px nx cx) xl) (hxl : nx = xl.length)
    (hat : 0 ≤ xt ∧ xt < ni) (hpi : pi = some ⟨bi, oi, none⟩)
    (i0 : w.cell? ⟨bi, oi + xt.toNat * 9, none⟩ = some (.int .u8 2)) (i1 : w.cell? ⟨bi, oi + xt.toNat * 9 + 1, none⟩ = some (.int .i64 id)) (i2 : w.cell? ⟨bi, oi + xt.toNat * 9 + 2, none⟩ = some (.int .i64 ia)) (i3 : w.cell? ⟨bi, oi + xt.toNat * 9 + 3, none⟩ = some (.int .i64 ib)) (i4 : w.cell? ⟨bi, oi + xt.toNat * 9 + 4, none⟩ = some (.int .u32 inn)) (i5 : w.cell? ⟨bi, oi + xt.toNat * 9 + 5, none⟩ = some (.int .i64 iff)) (i6 : w.cell? ⟨bi, oi + xt.toNat * 9 + 6, none⟩ = some (.slice pa na ca)) (i7 : w.cell? ⟨bi, oi + xt.toNat * 9 + 7, none⟩ = some (.int .i64 il1)) (i8 : w.cell? ⟨bi, oi + xt.toNat * 9 + 8, none⟩ = some (.int .i64 il2)) (hal : na = al.length) :
    Calls Tryd.prog 51 #[.pointer (some ⟨g, 0, none⟩), .agg #[.string nm, .slice pi ni ci], .agg #[.int .u8 1, .int .i64 xt, .int .i64 xd, .int .i64 xa, .int .i64 xb, .slice px nx cx]] w fun e w' => e = .returned (.bool (decide (doP nf nb ⟨2, id, ia, ib, inn, iff, al, il1, il2⟩ ⟨1, xt, xd, xa, xb, xl⟩))) ∧ Below w.heap.size w w' := by
  obtain ⟨k, rfl⟩ : ∃ k : Nat, xt = k := ⟨xt.toNat, by omega⟩
  simp only [Int.toNat_natCast] at i0 i1 i2 i3 i4 i5 i6 i7 i8
  have hkl : k < ni := by omega
  have hat' := hat
  subst hpi hxl hal
  have g1 := World.block_lt_of_cell? _ _ i0
  have g2 := World.block_lt_of_cell? _ _ k3
  have g3 := World.block_lt_of_cell? _ _ kb
  have g4 := World.block_lt_of_cell? _ _ k4
  have HD := ahid ((decide_eq_true_iff (p := doP nf nb ⟨2, id, ia, ib, inn, iff, al, il1, il2⟩ ⟨1, k, xd, xa, xb, xl⟩)).trans (doP_2 nf nb id ia ib inn iff il1 il2 k xd xa xb al xl))
  generalize decide (doP nf nb ⟨2, id, ia, ib, inn, iff, al, il1, il2⟩ ⟨1, k, xd, xa, xb, xl⟩) = B at HD ⊢
  have HNO : Hid (∀ w', Below w.heap.size w w' → B = false → Ending.returned (.bool false) = .returned (.bool B) ∧ Below w.heap.size w w') := ahid fun w' hb hB => ⟨by rw [hB], hb⟩
  go_enter Tryd.func51, Tryd.ntmps51
  go_wp2_with fail
  refine (within_any _ _ _).mono ?_
  rintro e w' ⟨rfl, rfl⟩
  rw [decide_eq_true hat']
  go_wp2_with fail
  obtain ⟨W3, hW3⟩ : ∃ W3, W3 = (((w.alloc (.cells #[.string nm, .slice (some ⟨bi, oi, none⟩) ni ci] 76)).alloc (.cells #[.int .u8 1, .int .i64 k, .int .i64 xd, .int .i64 xa, .int .i64 xb, .slice px xl.length cx] 41)).alloc (.cells #[.int .u8 2, .int .i64 id, .int .i64 ia, .int .i64 ib, .int .u32 inn, .int .i64 iff, .slice pa al.length ca, .int .i64 il1, .int .i64 il2] 73)) := ⟨_, rfl⟩
  have hb3 : Below w.heap.size w W3 := by rw [hW3]; exact (((Below.refl _ w).alloc (Nat.le_refl _) _).alloc (by simp [go_sem]) _).alloc (by simp [go_sem]; omega) _
  have x0 : W3.cell? ⟨w.heap.size + 1 + 1, 0, none⟩ = some (.int .u8 2) := by rw [hW3]; simp [go_sem]
  have x4 : W3.cell? ⟨w.heap.size + 1 + 1, 4, none⟩ = some (.int .u32 inn) := by rw [hW3]; simp [go_sem]
  have x5 : W3.cell? ⟨w.heap.size + 1 + 1, 5, none⟩ = some (.int .i64 iff) := by rw [hW3]; simp [go_sem]
  have x6 : W3.cell? ⟨w.heap.size + 1 + 1, 6, none⟩ = some (.slice pa al.length ca) := by rw [hW3]; simp [go_sem]
  have x7 : W3.cell? ⟨w.heap.size + 1 + 1, 7, none⟩ = some (.int .i64 il1) := by rw [hW3]; simp [go_sem]
  have x8 : W3.cell? ⟨w.heap.size + 1 + 1, 8, none⟩ = some (.int .i64 il2) := by rw [hW3]; simp [go_sem]
  have y2 : W3.cell? ⟨w.heap.size + 1, 2, none⟩ = some (.int .i64 xd) := by rw [hW3]; simp [go_sem]
  have y3 : W3.cell? ⟨w.heap.size + 1, 3, none⟩ = some (.int .i64 xa) := by rw [hW3]; simp [go_sem]
  have y4 : W3.cell? ⟨w.heap.size + 1, 4, none⟩ = some (.int .i64 xb) := by rw [hW3]; simp [go_sem]
  have y5 : W3.cell? ⟨w.heap.size + 1, 5, none⟩ = some (.slice px xl.length cx) := by rw [hW3]; simp [go_sem]
  rw [← hW3]
  clear hW3
  refine (has_2 W3).mono ?_
  rintro e w2 ⟨rfl, hb4⟩
  replace x0 := (hb4.cell (World.block_lt_of_cell? _ _ x0)).trans x0
  replace x4 := (hb4.cell (World.block_lt_of_cell? _ _ x4)).trans x4
  replace x5 := (hb4.cell (World.block_lt_of_cell? _ _ x5)).trans x5
  replace x6 := (hb4.cell (World.block_lt_of_cell? _ _ x6)).trans x6
  replace x7 := (hb4.cell (World.block_lt_of_cell? _ _ x7)).trans x7
  replace x8 := (hb4.cell (World.block_lt_of_cell? _ _ x8)).trans x8
  replace y2 := (hb4.cell (World.block_lt_of_cell? _ _ y2)).trans y2
  replace y3 := (hb4.cell (World.block_lt_of_cell? _ _ y3)).trans y3
  replace y4 := (hb4.cell (World.block_lt_of_cell? _ _ y4)).trans y4
  replace y5 := (hb4.cell (World.block_lt_of_cell? _ _ y5)).trans y5
  have hb5 : Below w.heap.size w w2 := hb3.trans (hb4.mono hb3.size)
  replace k3 := (hb5.cell g2).trans k3
  replace k4 := (hb5.cell g4).trans k4
  replace kb := (hb5.cell g3).trans kb
  have HX := ahid (hx.keep fun _ _ _ _ hh => hh.keep hb5)
  have HB5 := ahid hb5
  have HBN := ahid (fun n => (⟨hb5.os, hb5.tape, hb5.output, hb5.size, hb5.block⟩ : Below w.heap.size w (w2.drewN n)))
  clear hb3 hb4 hb5 i0 i1 i2 i3 i4 i5 i6 i7 i8 hx g1 g2 g3 g4
  by_cases hlen : xl.length = al.length
  rotate_left
  · have hne : ((xl.length : Int) != (al.length : Int)) = true := by simp; omega
    go_wp2_with fail
    rw [show (bits BinOp.and IntKind.i64 6 4 != 0) = true from by decide]
    refine (reg_any xd true w2).mono ?_
    rintro e w' ⟨rfl, rfl⟩
    by_cases r1 : regP xd (true = true)
    rotate_left
    · rw [decide_eq_false r1]
      go_wp2_with fail
      go_ret
      exact HNO.out _ (by first | exact HB5.out | exact HBN.out _) (Bool.eq_false_iff.2 fun h => r1 ((HD.out.1 h).1))
    rw [decide_eq_true r1]
    go_wp2_with fail
    rw [show (bits BinOp.and IntKind.i64 6 2 != 0) = true from by decide]
    refine (reg_any xa true w2).mono ?_
    rintro e w' ⟨rfl, rfl⟩
    by_cases r2 : regP xa (true = true)
    rotate_left
    · rw [decide_eq_false r2]
      go_wp2_with fail
      go_ret
      exact HNO.out _ (by first | exact HB5.out | exact HBN.out _) (Bool.eq_false_iff.2 fun h => r2 ((HD.out.1 h).2.1))
    rw [decide_eq_true r2]
    go_wp2_with fail
    rw [show (bits BinOp.and IntKind.i64 6 1 != 0) = false from by decide]
    refine (reg_any xb false w2).mono ?_
    rintro e w' ⟨rfl, rfl⟩
    by_cases r3 : regP xb (false = true)
    rotate_left
    · rw [decide_eq_false r3]
      go_wp2_with fail
      go_ret
      exact HNO.out _ (by first | exact HB5.out | exact HBN.out _) (Bool.eq_false_iff.2 fun h => r3 ((HD.out.1 h).2.2.1))
    rw [decide_eq_true r3]
    go_wp2_with fail
    go_ret
    exact HNO.out _ (by first | exact HB5.out | exact HBN.out _) (Bool.eq_false_iff.2 fun h => hlen ((HD.out.1 h).2.2.2.1))
  have hne : ((xl.length : Int) != (al.length : Int)) = false := by simp; omega
  have HL := ahid hlen
  clear hlen
  go_wp2_with fail
  rw [show (bits BinOp.and IntKind.i64 6 4 != 0) = true from by decide]
  refine (reg_any xd true w2).mono ?_
  rintro e w' ⟨rfl, rfl⟩
  by_cases r1 : regP xd (true = true)
  rotate_left
  · rw [decide_eq_false r1]
    go_wp2_with fail
    go_ret
    exact HNO.out _ (by first | exact HB5.out | exact HBN.out _) (Bool.eq_false_iff.2 fun h => r1 ((HD.out.1 h).1))
  rw [decide_eq_true r1]
  go_wp2_with fail
  rw [show (bits BinOp.and IntKind.i64 6 2 != 0) = true from by decide]
  refine (reg_any xa true w2).mono ?_
  rintro e w' ⟨rfl, rfl⟩
  by_cases r2 : regP xa (true = true)
  rotate_left
  · rw [decide_eq_false r2]
    go_wp2_with fail
    go_ret
    exact HNO.out _ (by first | exact HB5.out | exact HBN.out _) (Bool.eq_false_iff.2 fun h => r2 ((HD.out.1 h).2.1))
  rw [decide_eq_true r2]
  go_wp2_with fail
  rw [show (bits BinOp.and IntKind.i64 6 1 != 0) = false from by decide]
  refine (reg_any xb false w2).mono ?_
  rintro e w' ⟨rfl, rfl⟩
  by_cases r3 : regP xb (false = true)
  rotate_left
  · rw [decide_eq_false r3]
    go_wp2_with fail
    go_ret
    exact HNO.out _ (by first | exact HB5.out | exact HBN.out _) (Bool.eq_false_iff.2 fun h => r3 ((HD.out.1 h).2.2.1))
  rw [decide_eq_true r3]
  go_wp2_with fail
  refine (contains_reg w2 _ xl HX.out).mono ?_
  rintro e w' ⟨rfl, rfl⟩
  cases hany : xl.any badReg with
  | true =>
    go_wp2_with fail
    go_ret
    exact HNO.out _ (by first | exact HB5.out | exact HBN.out _) (Bool.eq_false_iff.2 fun h => by have hh := (HD.out.1 h).2.2.2.2.1; rw [hany] at hh; cases hh)
  | false =>
    have hf0 : (0 : Int) ≤ (f : Int) := by omega
    have hf1 : (f : Int) < (nf : Int) := by omega
    go_wp2_with fail
    go_quiet (fail)
    go_wp2_with fail
    go_ret
    exact ⟨congrArg (fun b => Ending.returned (.bool b)) (Bool.eq_iff_iff.2 (by rw [HD.out]; exact ⟨fun h => ⟨r1, r2, r3, HL.out, hany, trivial⟩, fun h => rfl⟩)), (by first | exact HB5.out | exact HBN.out _)⟩
theorem doP_3 (nf nb : Nat) (id ia ib inn iff il1 il2 k xd xa xb : Int) (al xl : List Int) : doP nf nb ⟨3, id, ia, ib, inn, iff, al, il1, il2⟩ ⟨1, k, xd, xa, xb, xl⟩ ↔ (regP xd (true = true) ∧ regP xa (true = true) ∧ regP xb (false = true) ∧ xl.length = al.length ∧ xl.any badReg = false ∧ True) := by
  have h : hasS 3 = 6 := by rfl
  have ha : xl.any badReg = false ↔ ∀ r ∈ xl, 0 ≤ r ∧ r < 32 := by
    rw [← Bool.not_eq_true, List.any_eq_true]
    simp [badReg]
  rw [ha]
  unfold doP
  simp only [h]
  unfold regP
  simp (decide := true) [and_assoc]
set_option maxRecDepth 100000 in
set_option maxHeartbeats 4000000 in
theorem may_3 {g f nf nb : Nat} {pf : Option Addr} {cf : Nat} {bf of cb : Nat} {pb : Option Addr} {bi oi : Nat} {w : World} {nm : ByteArray} {pi px pa : Option Addr} {ni ci nx cx na ca : Nat} {xt xd xa xb id ia ib inn iff il1 il2 : Int} {xl al : List Int}
    (k3 : w.cell? ⟨g, 3, none⟩ = some (.slice (some ⟨bf, of, none⟩) nf cf)) (k4 : w.cell? ⟨g, 4, none⟩ = some (.int .i64 f)) (hfn : f < nf)
    (kb : w.cell? ⟨bf, of + f * 4 + 3, none⟩ = some (.slice pb nb cb))
    (hx : IntsIn w (.slice px nx cx) xl) (hxl : nx = xl.length)
    (hat : 0 ≤ xt ∧ xt < ni) (hpi : pi = some ⟨bi, oi, none⟩)
    (i0 : w.cell? ⟨bi, oi + xt.toNat * 9, none⟩ = some (.int .u8 3)) (i1 : w.cell? ⟨bi, oi + xt.toNat * 9 + 1, none⟩ = some (.int .i64 id)) (i2 : w.cell? ⟨bi, oi + xt.toNat * 9 + 2, none⟩ = some (.int .i64 ia)) (i3 : w.cell? ⟨bi, oi + xt.toNat * 9 + 3, none⟩ = some (.int .i64 ib)) (i4 : w.cell? ⟨bi, oi + xt.toNat * 9 + 4, none⟩ = some (.int .u32 inn)) (i5 : w.cell? ⟨bi, oi + xt.toNat * 9 + 5, none⟩ = some (.int .i64 iff)) (i6 : w.cell? ⟨bi, oi + xt.toNat * 9 + 6, none⟩ = some (.slice pa na ca)) (i7 : w.cell? ⟨bi, oi + xt.toNat * 9 + 7, none⟩ = some (.int .i64 il1)) (i8 : w.cell? ⟨bi, oi + xt.toNat * 9 + 8, none⟩ = some (.int .i64 il2)) (hal : na = al.length) :
    Calls Tryd.prog 51 #[.pointer (some ⟨g, 0, none⟩), .agg #[.string nm, .slice pi ni ci], .agg #[.int .u8 1, .int .i64 xt, .int .i64 xd, .int .i64 xa, .int .i64 xb, .slice px nx cx]] w fun e w' => e = .returned (.bool (decide (doP nf nb ⟨3, id, ia, ib, inn, iff, al, il1, il2⟩ ⟨1, xt, xd, xa, xb, xl⟩))) ∧ Below w.heap.size w w' := by
  obtain ⟨k, rfl⟩ : ∃ k : Nat, xt = k := ⟨xt.toNat, by omega⟩
  simp only [Int.toNat_natCast] at i0 i1 i2 i3 i4 i5 i6 i7 i8
  have hkl : k < ni := by omega
  have hat' := hat
  subst hpi hxl hal
  have g1 := World.block_lt_of_cell? _ _ i0
  have g2 := World.block_lt_of_cell? _ _ k3
  have g3 := World.block_lt_of_cell? _ _ kb
  have g4 := World.block_lt_of_cell? _ _ k4
  have HD := ahid ((decide_eq_true_iff (p := doP nf nb ⟨3, id, ia, ib, inn, iff, al, il1, il2⟩ ⟨1, k, xd, xa, xb, xl⟩)).trans (doP_3 nf nb id ia ib inn iff il1 il2 k xd xa xb al xl))
  generalize decide (doP nf nb ⟨3, id, ia, ib, inn, iff, al, il1, il2⟩ ⟨1, k, xd, xa, xb, xl⟩) = B at HD ⊢
  have HNO : Hid (∀ w', Below w.heap.size w w' → B = false → Ending.returned (.bool false) = .returned (.bool B) ∧ Below w.heap.size w w') := ahid fun w' hb hB => ⟨by rw [hB], hb⟩
  go_enter Tryd.func51, Tryd.ntmps51
  go_wp2_with fail
  refine (within_any _ _ _).mono ?_
  rintro e w' ⟨rfl, rfl⟩
  rw [decide_eq_true hat']
  go_wp2_with fail
  obtain ⟨W3, hW3⟩ : ∃ W3, W3 = (((w.alloc (.cells #[.string nm, .slice (some ⟨bi, oi, none⟩) ni ci] 76)).alloc (.cells #[.int .u8 1, .int .i64 k, .int .i64 xd, .int .i64 xa, .int .i64 xb, .slice px xl.length cx] 41)).alloc (.cells #[.int .u8 3, .int .i64 id, .int .i64 ia, .int .i64 ib, .int .u32 inn, .int .i64 iff, .slice pa al.length ca, .int .i64 il1, .int .i64 il2] 73)) := ⟨_, rfl⟩
  have hb3 : Below w.heap.size w W3 := by rw [hW3]; exact (((Below.refl _ w).alloc (Nat.le_refl _) _).alloc (by simp [go_sem]) _).alloc (by simp [go_sem]; omega) _
  have x0 : W3.cell? ⟨w.heap.size + 1 + 1, 0, none⟩ = some (.int .u8 3) := by rw [hW3]; simp [go_sem]
  have x4 : W3.cell? ⟨w.heap.size + 1 + 1, 4, none⟩ = some (.int .u32 inn) := by rw [hW3]; simp [go_sem]
  have x5 : W3.cell? ⟨w.heap.size + 1 + 1, 5, none⟩ = some (.int .i64 iff) := by rw [hW3]; simp [go_sem]
  have x6 : W3.cell? ⟨w.heap.size + 1 + 1, 6, none⟩ = some (.slice pa al.length ca) := by rw [hW3]; simp [go_sem]
  have x7 : W3.cell? ⟨w.heap.size + 1 + 1, 7, none⟩ = some (.int .i64 il1) := by rw [hW3]; simp [go_sem]
  have x8 : W3.cell? ⟨w.heap.size + 1 + 1, 8, none⟩ = some (.int .i64 il2) := by rw [hW3]; simp [go_sem]
  have y2 : W3.cell? ⟨w.heap.size + 1, 2, none⟩ = some (.int .i64 xd) := by rw [hW3]; simp [go_sem]
  have y3 : W3.cell? ⟨w.heap.size + 1, 3, none⟩ = some (.int .i64 xa) := by rw [hW3]; simp [go_sem]
  have y4 : W3.cell? ⟨w.heap.size + 1, 4, none⟩ = some (.int .i64 xb) := by rw [hW3]; simp [go_sem]
  have y5 : W3.cell? ⟨w.heap.size + 1, 5, none⟩ = some (.slice px xl.length cx) := by rw [hW3]; simp [go_sem]
  rw [← hW3]
  clear hW3
  refine (has_3 W3).mono ?_
  rintro e w2 ⟨rfl, hb4⟩
  replace x0 := (hb4.cell (World.block_lt_of_cell? _ _ x0)).trans x0
  replace x4 := (hb4.cell (World.block_lt_of_cell? _ _ x4)).trans x4
  replace x5 := (hb4.cell (World.block_lt_of_cell? _ _ x5)).trans x5
  replace x6 := (hb4.cell (World.block_lt_of_cell? _ _ x6)).trans x6
  replace x7 := (hb4.cell (World.block_lt_of_cell? _ _ x7)).trans x7
  replace x8 := (hb4.cell (World.block_lt_of_cell? _ _ x8)).trans x8
  replace y2 := (hb4.cell (World.block_lt_of_cell? _ _ y2)).trans y2
  replace y3 := (hb4.cell (World.block_lt_of_cell? _ _ y3)).trans y3
  replace y4 := (hb4.cell (World.block_lt_of_cell? _ _ y4)).trans y4
  replace y5 := (hb4.cell (World.block_lt_of_cell? _ _ y5)).trans y5
  have hb5 : Below w.heap.size w w2 := hb3.trans (hb4.mono hb3.size)
  replace k3 := (hb5.cell g2).trans k3
  replace k4 := (hb5.cell g4).trans k4
  replace kb := (hb5.cell g3).trans kb
  have HX := ahid (hx.keep fun _ _ _ _ hh => hh.keep hb5)
  have HB5 := ahid hb5
  have HBN := ahid (fun n => (⟨hb5.os, hb5.tape, hb5.output, hb5.size, hb5.block⟩ : Below w.heap.size w (w2.drewN n)))
  clear hb3 hb4 hb5 i0 i1 i2 i3 i4 i5 i6 i7 i8 hx g1 g2 g3 g4
  by_cases hlen : xl.length = al.length
  rotate_left
  · have hne : ((xl.length : Int) != (al.length : Int)) = true := by simp; omega
    go_wp2_with fail
    rw [show (bits BinOp.and IntKind.i64 6 4 != 0) = true from by decide]
    refine (reg_any xd true w2).mono ?_
    rintro e w' ⟨rfl, rfl⟩
    by_cases r1 : regP xd (true = true)
    rotate_left
    · rw [decide_eq_false r1]
      go_wp2_with fail
      go_ret
      exact HNO.out _ (by first | exact HB5.out | exact HBN.out _) (Bool.eq_false_iff.2 fun h => r1 ((HD.out.1 h).1))
    rw [decide_eq_true r1]
    go_wp2_with fail
    rw [show (bits BinOp.and IntKind.i64 6 2 != 0) = true from by decide]
    refine (reg_any xa true w2).mono ?_
    rintro e w' ⟨rfl, rfl⟩
    by_cases r2 : regP xa (true = true)
    rotate_left
    · rw [decide_eq_false r2]
      go_wp2_with fail
      go_ret
      exact HNO.out _ (by first | exact HB5.out | exact HBN.out _) (Bool.eq_false_iff.2 fun h => r2 ((HD.out.1 h).2.1))
    rw [decide_eq_true r2]
    go_wp2_with fail
    rw [show (bits BinOp.and IntKind.i64 6 1 != 0) = false from by decide]
    refine (reg_any xb false w2).mono ?_
    rintro e w' ⟨rfl, rfl⟩
    by_cases r3 : regP xb (false = true)
    rotate_left
    · rw [decide_eq_false r3]
      go_wp2_with fail
      go_ret
      exact HNO.out _ (by first | exact HB5.out | exact HBN.out _) (Bool.eq_false_iff.2 fun h => r3 ((HD.out.1 h).2.2.1))
    rw [decide_eq_true r3]
    go_wp2_with fail
    go_ret
    exact HNO.out _ (by first | exact HB5.out | exact HBN.out _) (Bool.eq_false_iff.2 fun h => hlen ((HD.out.1 h).2.2.2.1))
  have hne : ((xl.length : Int) != (al.length : Int)) = false := by simp; omega
  have HL := ahid hlen
  clear hlen
  go_wp2_with fail
  rw [show (bits BinOp.and IntKind.i64 6 4 != 0) = true from by decide]
  refine (reg_any xd true w2).mono ?_
  rintro e w' ⟨rfl, rfl⟩
  by_cases r1 : regP xd (true = true)
  rotate_left
  · rw [decide_eq_false r1]
    go_wp2_with fail
    go_ret
    exact HNO.out _ (by first | exact HB5.out | exact HBN.out _) (Bool.eq_false_iff.2 fun h => r1 ((HD.out.1 h).1))
  rw [decide_eq_true r1]
  go_wp2_with fail
  rw [show (bits BinOp.and IntKind.i64 6 2 != 0) = true from by decide]
  refine (reg_any xa true w2).mono ?_
  rintro e w' ⟨rfl, rfl⟩
  by_cases r2 : regP xa (true = true)
  rotate_left
  · rw [decide_eq_false r2]
    go_wp2_with fail
    go_ret
    exact HNO.out _ (by first | exact HB5.out | exact HBN.out _) (Bool.eq_false_iff.2 fun h => r2 ((HD.out.1 h).2.1))
  rw [decide_eq_true r2]
  go_wp2_with fail
  rw [show (bits BinOp.and IntKind.i64 6 1 != 0) = false from by decide]
  refine (reg_any xb false w2).mono ?_
  rintro e w' ⟨rfl, rfl⟩
  by_cases r3 : regP xb (false = true)
  rotate_left
  · rw [decide_eq_false r3]
    go_wp2_with fail
    go_ret
    exact HNO.out _ (by first | exact HB5.out | exact HBN.out _) (Bool.eq_false_iff.2 fun h => r3 ((HD.out.1 h).2.2.1))
  rw [decide_eq_true r3]
  go_wp2_with fail
  refine (contains_reg w2 _ xl HX.out).mono ?_
  rintro e w' ⟨rfl, rfl⟩
  cases hany : xl.any badReg with
  | true =>
    go_wp2_with fail
    go_ret
    exact HNO.out _ (by first | exact HB5.out | exact HBN.out _) (Bool.eq_false_iff.2 fun h => by have hh := (HD.out.1 h).2.2.2.2.1; rw [hany] at hh; cases hh)
  | false =>
    have hf0 : (0 : Int) ≤ (f : Int) := by omega
    have hf1 : (f : Int) < (nf : Int) := by omega
    go_wp2_with fail
    go_quiet (fail)
    go_wp2_with fail
    go_ret
    exact ⟨congrArg (fun b => Ending.returned (.bool b)) (Bool.eq_iff_iff.2 (by rw [HD.out]; exact ⟨fun h => ⟨r1, r2, r3, HL.out, hany, trivial⟩, fun h => rfl⟩)), (by first | exact HB5.out | exact HBN.out _)⟩
theorem doP_4 (nf nb : Nat) (id ia ib inn iff il1 il2 k xd xa xb : Int) (al xl : List Int) : doP nf nb ⟨4, id, ia, ib, inn, iff, al, il1, il2⟩ ⟨1, k, xd, xa, xb, xl⟩ ↔ (regP xd (false = true) ∧ regP xa (true = true) ∧ regP xb (true = true) ∧ xl.length = al.length ∧ xl.any badReg = false ∧ True) := by
  have h : hasS 4 = 3 := by rfl
  have ha : xl.any badReg = false ↔ ∀ r ∈ xl, 0 ≤ r ∧ r < 32 := by
    rw [← Bool.not_eq_true, List.any_eq_true]
    simp [badReg]
  rw [ha]
  unfold doP
  simp only [h]
  unfold regP
  simp (decide := true) [and_assoc]
set_option maxRecDepth 100000 in
set_option maxHeartbeats 4000000 in
theorem may_4 {g f nf nb : Nat} {pf : Option Addr} {cf : Nat} {bf of cb : Nat} {pb : Option Addr} {bi oi : Nat} {w : World} {nm : ByteArray} {pi px pa : Option Addr} {ni ci nx cx na ca : Nat} {xt xd xa xb id ia ib inn iff il1 il2 : Int} {xl al : List Int}
    (k3 : w.cell? ⟨g, 3, none⟩ = some (.slice (some ⟨bf, of, none⟩) nf cf)) (k4 : w.cell? ⟨g, 4, none⟩ = some (.int .i64 f)) (hfn : f < nf)
    (kb : w.cell? ⟨bf, of + f * 4 + 3, none⟩ = some (.slice pb nb cb))
    (hx : IntsIn w (.slice px nx cx) xl) (hxl : nx = xl.length)
    (hat : 0 ≤ xt ∧ xt < ni) (hpi : pi = some ⟨bi, oi, none⟩)
    (i0 : w.cell? ⟨bi, oi + xt.toNat * 9, none⟩ = some (.int .u8 4)) (i1 : w.cell? ⟨bi, oi + xt.toNat * 9 + 1, none⟩ = some (.int .i64 id)) (i2 : w.cell? ⟨bi, oi + xt.toNat * 9 + 2, none⟩ = some (.int .i64 ia)) (i3 : w.cell? ⟨bi, oi + xt.toNat * 9 + 3, none⟩ = some (.int .i64 ib)) (i4 : w.cell? ⟨bi, oi + xt.toNat * 9 + 4, none⟩ = some (.int .u32 inn)) (i5 : w.cell? ⟨bi, oi + xt.toNat * 9 + 5, none⟩ = some (.int .i64 iff)) (i6 : w.cell? ⟨bi, oi + xt.toNat * 9 + 6, none⟩ = some (.slice pa na ca)) (i7 : w.cell? ⟨bi, oi + xt.toNat * 9 + 7, none⟩ = some (.int .i64 il1)) (i8 : w.cell? ⟨bi, oi + xt.toNat * 9 + 8, none⟩ = some (.int .i64 il2)) (hal : na = al.length) :
    Calls Tryd.prog 51 #[.pointer (some ⟨g, 0, none⟩), .agg #[.string nm, .slice pi ni ci], .agg #[.int .u8 1, .int .i64 xt, .int .i64 xd, .int .i64 xa, .int .i64 xb, .slice px nx cx]] w fun e w' => e = .returned (.bool (decide (doP nf nb ⟨4, id, ia, ib, inn, iff, al, il1, il2⟩ ⟨1, xt, xd, xa, xb, xl⟩))) ∧ Below w.heap.size w w' := by
  obtain ⟨k, rfl⟩ : ∃ k : Nat, xt = k := ⟨xt.toNat, by omega⟩
  simp only [Int.toNat_natCast] at i0 i1 i2 i3 i4 i5 i6 i7 i8
  have hkl : k < ni := by omega
  have hat' := hat
  subst hpi hxl hal
  have g1 := World.block_lt_of_cell? _ _ i0
  have g2 := World.block_lt_of_cell? _ _ k3
  have g3 := World.block_lt_of_cell? _ _ kb
  have g4 := World.block_lt_of_cell? _ _ k4
  have HD := ahid ((decide_eq_true_iff (p := doP nf nb ⟨4, id, ia, ib, inn, iff, al, il1, il2⟩ ⟨1, k, xd, xa, xb, xl⟩)).trans (doP_4 nf nb id ia ib inn iff il1 il2 k xd xa xb al xl))
  generalize decide (doP nf nb ⟨4, id, ia, ib, inn, iff, al, il1, il2⟩ ⟨1, k, xd, xa, xb, xl⟩) = B at HD ⊢
  have HNO : Hid (∀ w', Below w.heap.size w w' → B = false → Ending.returned (.bool false) = .returned (.bool B) ∧ Below w.heap.size w w') := ahid fun w' hb hB => ⟨by rw [hB], hb⟩
  go_enter Tryd.func51, Tryd.ntmps51
  go_wp2_with fail
  refine (within_any _ _ _).mono ?_
  rintro e w' ⟨rfl, rfl⟩
  rw [decide_eq_true hat']
  go_wp2_with fail
  obtain ⟨W3, hW3⟩ : ∃ W3, W3 = (((w.alloc (.cells #[.string nm, .slice (some ⟨bi, oi, none⟩) ni ci] 76)).alloc (.cells #[.int .u8 1, .int .i64 k, .int .i64 xd, .int .i64 xa, .int .i64 xb, .slice px xl.length cx] 41)).alloc (.cells #[.int .u8 4, .int .i64 id, .int .i64 ia, .int .i64 ib, .int .u32 inn, .int .i64 iff, .slice pa al.length ca, .int .i64 il1, .int .i64 il2] 73)) := ⟨_, rfl⟩
  have hb3 : Below w.heap.size w W3 := by rw [hW3]; exact (((Below.refl _ w).alloc (Nat.le_refl _) _).alloc (by simp [go_sem]) _).alloc (by simp [go_sem]; omega) _
  have x0 : W3.cell? ⟨w.heap.size + 1 + 1, 0, none⟩ = some (.int .u8 4) := by rw [hW3]; simp [go_sem]
  have x4 : W3.cell? ⟨w.heap.size + 1 + 1, 4, none⟩ = some (.int .u32 inn) := by rw [hW3]; simp [go_sem]
  have x5 : W3.cell? ⟨w.heap.size + 1 + 1, 5, none⟩ = some (.int .i64 iff) := by rw [hW3]; simp [go_sem]
  have x6 : W3.cell? ⟨w.heap.size + 1 + 1, 6, none⟩ = some (.slice pa al.length ca) := by rw [hW3]; simp [go_sem]
  have x7 : W3.cell? ⟨w.heap.size + 1 + 1, 7, none⟩ = some (.int .i64 il1) := by rw [hW3]; simp [go_sem]
  have x8 : W3.cell? ⟨w.heap.size + 1 + 1, 8, none⟩ = some (.int .i64 il2) := by rw [hW3]; simp [go_sem]
  have y2 : W3.cell? ⟨w.heap.size + 1, 2, none⟩ = some (.int .i64 xd) := by rw [hW3]; simp [go_sem]
  have y3 : W3.cell? ⟨w.heap.size + 1, 3, none⟩ = some (.int .i64 xa) := by rw [hW3]; simp [go_sem]
  have y4 : W3.cell? ⟨w.heap.size + 1, 4, none⟩ = some (.int .i64 xb) := by rw [hW3]; simp [go_sem]
  have y5 : W3.cell? ⟨w.heap.size + 1, 5, none⟩ = some (.slice px xl.length cx) := by rw [hW3]; simp [go_sem]
  rw [← hW3]
  clear hW3
  refine (has_4 W3).mono ?_
  rintro e w2 ⟨rfl, hb4⟩
  replace x0 := (hb4.cell (World.block_lt_of_cell? _ _ x0)).trans x0
  replace x4 := (hb4.cell (World.block_lt_of_cell? _ _ x4)).trans x4
  replace x5 := (hb4.cell (World.block_lt_of_cell? _ _ x5)).trans x5
  replace x6 := (hb4.cell (World.block_lt_of_cell? _ _ x6)).trans x6
  replace x7 := (hb4.cell (World.block_lt_of_cell? _ _ x7)).trans x7
  replace x8 := (hb4.cell (World.block_lt_of_cell? _ _ x8)).trans x8
  replace y2 := (hb4.cell (World.block_lt_of_cell? _ _ y2)).trans y2
  replace y3 := (hb4.cell (World.block_lt_of_cell? _ _ y3)).trans y3
  replace y4 := (hb4.cell (World.block_lt_of_cell? _ _ y4)).trans y4
  replace y5 := (hb4.cell (World.block_lt_of_cell? _ _ y5)).trans y5
  have hb5 : Below w.heap.size w w2 := hb3.trans (hb4.mono hb3.size)
  replace k3 := (hb5.cell g2).trans k3
  replace k4 := (hb5.cell g4).trans k4
  replace kb := (hb5.cell g3).trans kb
  have HX := ahid (hx.keep fun _ _ _ _ hh => hh.keep hb5)
  have HB5 := ahid hb5
  have HBN := ahid (fun n => (⟨hb5.os, hb5.tape, hb5.output, hb5.size, hb5.block⟩ : Below w.heap.size w (w2.drewN n)))
  clear hb3 hb4 hb5 i0 i1 i2 i3 i4 i5 i6 i7 i8 hx g1 g2 g3 g4
  by_cases hlen : xl.length = al.length
  rotate_left
  · have hne : ((xl.length : Int) != (al.length : Int)) = true := by simp; omega
    go_wp2_with fail
    rw [show (bits BinOp.and IntKind.i64 3 4 != 0) = false from by decide]
    refine (reg_any xd false w2).mono ?_
    rintro e w' ⟨rfl, rfl⟩
    by_cases r1 : regP xd (false = true)
    rotate_left
    · rw [decide_eq_false r1]
      go_wp2_with fail
      go_ret
      exact HNO.out _ (by first | exact HB5.out | exact HBN.out _) (Bool.eq_false_iff.2 fun h => r1 ((HD.out.1 h).1))
    rw [decide_eq_true r1]
    go_wp2_with fail
    rw [show (bits BinOp.and IntKind.i64 3 2 != 0) = true from by decide]
    refine (reg_any xa true w2).mono ?_
    rintro e w' ⟨rfl, rfl⟩
    by_cases r2 : regP xa (true = true)
    rotate_left
    · rw [decide_eq_false r2]
      go_wp2_with fail
      go_ret
      exact HNO.out _ (by first | exact HB5.out | exact HBN.out _) (Bool.eq_false_iff.2 fun h => r2 ((HD.out.1 h).2.1))
    rw [decide_eq_true r2]
    go_wp2_with fail
    rw [show (bits BinOp.and IntKind.i64 3 1 != 0) = true from by decide]
    refine (reg_any xb true w2).mono ?_
    rintro e w' ⟨rfl, rfl⟩
    by_cases r3 : regP xb (true = true)
    rotate_left
    · rw [decide_eq_false r3]
      go_wp2_with fail
      go_ret
      exact HNO.out _ (by first | exact HB5.out | exact HBN.out _) (Bool.eq_false_iff.2 fun h => r3 ((HD.out.1 h).2.2.1))
    rw [decide_eq_true r3]
    go_wp2_with fail
    go_ret
    exact HNO.out _ (by first | exact HB5.out | exact HBN.out _) (Bool.eq_false_iff.2 fun h => hlen ((HD.out.1 h).2.2.2.1))
  have hne : ((xl.length : Int) != (al.length : Int)) = false := by simp; omega
  have HL := ahid hlen
  clear hlen
  go_wp2_with fail
  rw [show (bits BinOp.and IntKind.i64 3 4 != 0) = false from by decide]
  refine (reg_any xd false w2).mono ?_
  rintro e w' ⟨rfl, rfl⟩
  by_cases r1 : regP xd (false = true)
  rotate_left
  · rw [decide_eq_false r1]
    go_wp2_with fail
    go_ret
    exact HNO.out _ (by first | exact HB5.out | exact HBN.out _) (Bool.eq_false_iff.2 fun h => r1 ((HD.out.1 h).1))
  rw [decide_eq_true r1]
  go_wp2_with fail
  rw [show (bits BinOp.and IntKind.i64 3 2 != 0) = true from by decide]
  refine (reg_any xa true w2).mono ?_
  rintro e w' ⟨rfl, rfl⟩
  by_cases r2 : regP xa (true = true)
  rotate_left
  · rw [decide_eq_false r2]
    go_wp2_with fail
    go_ret
    exact HNO.out _ (by first | exact HB5.out | exact HBN.out _) (Bool.eq_false_iff.2 fun h => r2 ((HD.out.1 h).2.1))
  rw [decide_eq_true r2]
  go_wp2_with fail
  rw [show (bits BinOp.and IntKind.i64 3 1 != 0) = true from by decide]
  refine (reg_any xb true w2).mono ?_
  rintro e w' ⟨rfl, rfl⟩
  by_cases r3 : regP xb (true = true)
  rotate_left
  · rw [decide_eq_false r3]
    go_wp2_with fail
    go_ret
    exact HNO.out _ (by first | exact HB5.out | exact HBN.out _) (Bool.eq_false_iff.2 fun h => r3 ((HD.out.1 h).2.2.1))
  rw [decide_eq_true r3]
  go_wp2_with fail
  refine (contains_reg w2 _ xl HX.out).mono ?_
  rintro e w' ⟨rfl, rfl⟩
  cases hany : xl.any badReg with
  | true =>
    go_wp2_with fail
    go_ret
    exact HNO.out _ (by first | exact HB5.out | exact HBN.out _) (Bool.eq_false_iff.2 fun h => by have hh := (HD.out.1 h).2.2.2.2.1; rw [hany] at hh; cases hh)
  | false =>
    have hf0 : (0 : Int) ≤ (f : Int) := by omega
    have hf1 : (f : Int) < (nf : Int) := by omega
    go_wp2_with fail
    go_quiet (fail)
    go_wp2_with fail
    go_ret
    exact ⟨congrArg (fun b => Ending.returned (.bool b)) (Bool.eq_iff_iff.2 (by rw [HD.out]; exact ⟨fun h => ⟨r1, r2, r3, HL.out, hany, trivial⟩, fun h => rfl⟩)), (by first | exact HB5.out | exact HBN.out _)⟩
theorem doP_5 (nf nb : Nat) (id ia ib inn iff il1 il2 k xd xa xb : Int) (al xl : List Int) : doP nf nb ⟨5, id, ia, ib, inn, iff, al, il1, il2⟩ ⟨1, k, xd, xa, xb, xl⟩ ↔ (regP xd (true = true) ∧ regP xa (false = true) ∧ regP xb (false = true) ∧ xl.length = al.length ∧ xl.any badReg = false ∧ (0 ≤ iff ∧ iff < nf)) := by
  have h : hasS 5 = 4 := by rfl
  have ha : xl.any badReg = false ↔ ∀ r ∈ xl, 0 ≤ r ∧ r < 32 := by
    rw [← Bool.not_eq_true, List.any_eq_true]
    simp [badReg]
  rw [ha]
  unfold doP
  simp only [h]
  unfold regP
  simp (decide := true) [and_assoc]
set_option maxRecDepth 100000 in
set_option maxHeartbeats 4000000 in
theorem may_5 {g f nf nb : Nat} {pf : Option Addr} {cf : Nat} {bf of cb : Nat} {pb : Option Addr} {bi oi : Nat} {w : World} {nm : ByteArray} {pi px pa : Option Addr} {ni ci nx cx na ca : Nat} {xt xd xa xb id ia ib inn iff il1 il2 : Int} {xl al : List Int}
    (k3 : w.cell? ⟨g, 3, none⟩ = some (.slice (some ⟨bf, of, none⟩) nf cf)) (k4 : w.cell? ⟨g, 4, none⟩ = some (.int .i64 f)) (hfn : f < nf)
    (kb : w.cell? ⟨bf, of + f * 4 + 3, none⟩ = some (.slice pb nb cb))
    (hx : IntsIn w (.slice px nx cx) xl) (hxl : nx = xl.length)
    (hat : 0 ≤ xt ∧ xt < ni) (hpi : pi = some ⟨bi, oi, none⟩)
    (i0 : w.cell? ⟨bi, oi + xt.toNat * 9, none⟩ = some (.int .u8 5)) (i1 : w.cell? ⟨bi, oi + xt.toNat * 9 + 1, none⟩ = some (.int .i64 id)) (i2 : w.cell? ⟨bi, oi + xt.toNat * 9 + 2, none⟩ = some (.int .i64 ia)) (i3 : w.cell? ⟨bi, oi + xt.toNat * 9 + 3, none⟩ = some (.int .i64 ib)) (i4 : w.cell? ⟨bi, oi + xt.toNat * 9 + 4, none⟩ = some (.int .u32 inn)) (i5 : w.cell? ⟨bi, oi + xt.toNat * 9 + 5, none⟩ = some (.int .i64 iff)) (i6 : w.cell? ⟨bi, oi + xt.toNat * 9 + 6, none⟩ = some (.slice pa na ca)) (i7 : w.cell? ⟨bi, oi + xt.toNat * 9 + 7, none⟩ = some (.int .i64 il1)) (i8 : w.cell? ⟨bi, oi + xt.toNat * 9 + 8, none⟩ = some (.int .i64 il2)) (hal : na = al.length) :
    Calls Tryd.prog 51 #[.pointer (some ⟨g, 0, none⟩), .agg #[.string nm, .slice pi ni ci], .agg #[.int .u8 1, .int .i64 xt, .int .i64 xd, .int .i64 xa, .int .i64 xb, .slice px nx cx]] w fun e w' => e = .returned (.bool (decide (doP nf nb ⟨5, id, ia, ib, inn, iff, al, il1, il2⟩ ⟨1, xt, xd, xa, xb, xl⟩))) ∧ Below w.heap.size w w' := by
  obtain ⟨k, rfl⟩ : ∃ k : Nat, xt = k := ⟨xt.toNat, by omega⟩
  simp only [Int.toNat_natCast] at i0 i1 i2 i3 i4 i5 i6 i7 i8
  have hkl : k < ni := by omega
  have hat' := hat
  subst hpi hxl hal
  have g1 := World.block_lt_of_cell? _ _ i0
  have g2 := World.block_lt_of_cell? _ _ k3
  have g3 := World.block_lt_of_cell? _ _ kb
  have g4 := World.block_lt_of_cell? _ _ k4
  have HD := ahid ((decide_eq_true_iff (p := doP nf nb ⟨5, id, ia, ib, inn, iff, al, il1, il2⟩ ⟨1, k, xd, xa, xb, xl⟩)).trans (doP_5 nf nb id ia ib inn iff il1 il2 k xd xa xb al xl))
  generalize decide (doP nf nb ⟨5, id, ia, ib, inn, iff, al, il1, il2⟩ ⟨1, k, xd, xa, xb, xl⟩) = B at HD ⊢
  have HNO : Hid (∀ w', Below w.heap.size w w' → B = false → Ending.returned (.bool false) = .returned (.bool B) ∧ Below w.heap.size w w') := ahid fun w' hb hB => ⟨by rw [hB], hb⟩
  go_enter Tryd.func51, Tryd.ntmps51
  go_wp2_with fail
  refine (within_any _ _ _).mono ?_
  rintro e w' ⟨rfl, rfl⟩
  rw [decide_eq_true hat']
  go_wp2_with fail
  obtain ⟨W3, hW3⟩ : ∃ W3, W3 = (((w.alloc (.cells #[.string nm, .slice (some ⟨bi, oi, none⟩) ni ci] 76)).alloc (.cells #[.int .u8 1, .int .i64 k, .int .i64 xd, .int .i64 xa, .int .i64 xb, .slice px xl.length cx] 41)).alloc (.cells #[.int .u8 5, .int .i64 id, .int .i64 ia, .int .i64 ib, .int .u32 inn, .int .i64 iff, .slice pa al.length ca, .int .i64 il1, .int .i64 il2] 73)) := ⟨_, rfl⟩
  have hb3 : Below w.heap.size w W3 := by rw [hW3]; exact (((Below.refl _ w).alloc (Nat.le_refl _) _).alloc (by simp [go_sem]) _).alloc (by simp [go_sem]; omega) _
  have x0 : W3.cell? ⟨w.heap.size + 1 + 1, 0, none⟩ = some (.int .u8 5) := by rw [hW3]; simp [go_sem]
  have x4 : W3.cell? ⟨w.heap.size + 1 + 1, 4, none⟩ = some (.int .u32 inn) := by rw [hW3]; simp [go_sem]
  have x5 : W3.cell? ⟨w.heap.size + 1 + 1, 5, none⟩ = some (.int .i64 iff) := by rw [hW3]; simp [go_sem]
  have x6 : W3.cell? ⟨w.heap.size + 1 + 1, 6, none⟩ = some (.slice pa al.length ca) := by rw [hW3]; simp [go_sem]
  have x7 : W3.cell? ⟨w.heap.size + 1 + 1, 7, none⟩ = some (.int .i64 il1) := by rw [hW3]; simp [go_sem]
  have x8 : W3.cell? ⟨w.heap.size + 1 + 1, 8, none⟩ = some (.int .i64 il2) := by rw [hW3]; simp [go_sem]
  have y2 : W3.cell? ⟨w.heap.size + 1, 2, none⟩ = some (.int .i64 xd) := by rw [hW3]; simp [go_sem]
  have y3 : W3.cell? ⟨w.heap.size + 1, 3, none⟩ = some (.int .i64 xa) := by rw [hW3]; simp [go_sem]
  have y4 : W3.cell? ⟨w.heap.size + 1, 4, none⟩ = some (.int .i64 xb) := by rw [hW3]; simp [go_sem]
  have y5 : W3.cell? ⟨w.heap.size + 1, 5, none⟩ = some (.slice px xl.length cx) := by rw [hW3]; simp [go_sem]
  rw [← hW3]
  clear hW3
  refine (has_5 W3).mono ?_
  rintro e w2 ⟨rfl, hb4⟩
  replace x0 := (hb4.cell (World.block_lt_of_cell? _ _ x0)).trans x0
  replace x4 := (hb4.cell (World.block_lt_of_cell? _ _ x4)).trans x4
  replace x5 := (hb4.cell (World.block_lt_of_cell? _ _ x5)).trans x5
  replace x6 := (hb4.cell (World.block_lt_of_cell? _ _ x6)).trans x6
  replace x7 := (hb4.cell (World.block_lt_of_cell? _ _ x7)).trans x7
  replace x8 := (hb4.cell (World.block_lt_of_cell? _ _ x8)).trans x8
  replace y2 := (hb4.cell (World.block_lt_of_cell? _ _ y2)).trans y2
  replace y3 := (hb4.cell (World.block_lt_of_cell? _ _ y3)).trans y3
  replace y4 := (hb4.cell (World.block_lt_of_cell? _ _ y4)).trans y4
  replace y5 := (hb4.cell (World.block_lt_of_cell? _ _ y5)).trans y5
  have hb5 : Below w.heap.size w w2 := hb3.trans (hb4.mono hb3.size)
  replace k3 := (hb5.cell g2).trans k3
  replace k4 := (hb5.cell g4).trans k4
  replace kb := (hb5.cell g3).trans kb
  have HX := ahid (hx.keep fun _ _ _ _ hh => hh.keep hb5)
  have HB5 := ahid hb5
  have HBN := ahid (fun n => (⟨hb5.os, hb5.tape, hb5.output, hb5.size, hb5.block⟩ : Below w.heap.size w (w2.drewN n)))
  clear hb3 hb4 hb5 i0 i1 i2 i3 i4 i5 i6 i7 i8 hx g1 g2 g3 g4
  by_cases hlen : xl.length = al.length
  rotate_left
  · have hne : ((xl.length : Int) != (al.length : Int)) = true := by simp; omega
    go_wp2_with fail
    rw [show (bits BinOp.and IntKind.i64 4 4 != 0) = true from by decide]
    refine (reg_any xd true w2).mono ?_
    rintro e w' ⟨rfl, rfl⟩
    by_cases r1 : regP xd (true = true)
    rotate_left
    · rw [decide_eq_false r1]
      go_wp2_with fail
      go_ret
      exact HNO.out _ (by first | exact HB5.out | exact HBN.out _) (Bool.eq_false_iff.2 fun h => r1 ((HD.out.1 h).1))
    rw [decide_eq_true r1]
    go_wp2_with fail
    rw [show (bits BinOp.and IntKind.i64 4 2 != 0) = false from by decide]
    refine (reg_any xa false w2).mono ?_
    rintro e w' ⟨rfl, rfl⟩
    by_cases r2 : regP xa (false = true)
    rotate_left
    · rw [decide_eq_false r2]
      go_wp2_with fail
      go_ret
      exact HNO.out _ (by first | exact HB5.out | exact HBN.out _) (Bool.eq_false_iff.2 fun h => r2 ((HD.out.1 h).2.1))
    rw [decide_eq_true r2]
    go_wp2_with fail
    rw [show (bits BinOp.and IntKind.i64 4 1 != 0) = false from by decide]
    refine (reg_any xb false w2).mono ?_
    rintro e w' ⟨rfl, rfl⟩
    by_cases r3 : regP xb (false = true)
    rotate_left
    · rw [decide_eq_false r3]
      go_wp2_with fail
      go_ret
      exact HNO.out _ (by first | exact HB5.out | exact HBN.out _) (Bool.eq_false_iff.2 fun h => r3 ((HD.out.1 h).2.2.1))
    rw [decide_eq_true r3]
    go_wp2_with fail
    go_ret
    exact HNO.out _ (by first | exact HB5.out | exact HBN.out _) (Bool.eq_false_iff.2 fun h => hlen ((HD.out.1 h).2.2.2.1))
  have hne : ((xl.length : Int) != (al.length : Int)) = false := by simp; omega
  have HL := ahid hlen
  clear hlen
  go_wp2_with fail
  rw [show (bits BinOp.and IntKind.i64 4 4 != 0) = true from by decide]
  refine (reg_any xd true w2).mono ?_
  rintro e w' ⟨rfl, rfl⟩
  by_cases r1 : regP xd (true = true)
  rotate_left
  · rw [decide_eq_false r1]
    go_wp2_with fail
    go_ret
    exact HNO.out _ (by first | exact HB5.out | exact HBN.out _) (Bool.eq_false_iff.2 fun h => r1 ((HD.out.1 h).1))
  rw [decide_eq_true r1]
  go_wp2_with fail
  rw [show (bits BinOp.and IntKind.i64 4 2 != 0) = false from by decide]
  refine (reg_any xa false w2).mono ?_
  rintro e w' ⟨rfl, rfl⟩
  by_cases r2 : regP xa (false = true)
  rotate_left
  · rw [decide_eq_false r2]
    go_wp2_with fail
    go_ret
    exact HNO.out _ (by first | exact HB5.out | exact HBN.out _) (Bool.eq_false_iff.2 fun h => r2 ((HD.out.1 h).2.1))
  rw [decide_eq_true r2]
  go_wp2_with fail
  rw [show (bits BinOp.and IntKind.i64 4 1 != 0) = false from by decide]
  refine (reg_any xb false w2).mono ?_
  rintro e w' ⟨rfl, rfl⟩
  by_cases r3 : regP xb (false = true)
  rotate_left
  · rw [decide_eq_false r3]
    go_wp2_with fail
    go_ret
    exact HNO.out _ (by first | exact HB5.out | exact HBN.out _) (Bool.eq_false_iff.2 fun h => r3 ((HD.out.1 h).2.2.1))
  rw [decide_eq_true r3]
  go_wp2_with fail
  refine (contains_reg w2 _ xl HX.out).mono ?_
  rintro e w' ⟨rfl, rfl⟩
  cases hany : xl.any badReg with
  | true =>
    go_wp2_with fail
    go_ret
    exact HNO.out _ (by first | exact HB5.out | exact HBN.out _) (Bool.eq_false_iff.2 fun h => by have hh := (HD.out.1 h).2.2.2.2.1; rw [hany] at hh; cases hh)
  | false =>
    have hf0 : (0 : Int) ≤ (f : Int) := by omega
    have hf1 : (f : Int) < (nf : Int) := by omega
    go_wp2_with fail
    go_quiet (fail)
    go_wp2_with fail
    go_region_held3 (fun w' => w'.cell? ⟨g, 3, none⟩ = some (.slice (some ⟨bf, of, none⟩) nf cf) ∧ w'.cell? ⟨w.heap.size + 1 + 1, 5, none⟩ = some (.int .i64 iff)) (first | (exact ⟨k3, x5⟩)) (first | (go_at_call 34; refine (within_any _ _ _).mono ?_; rintro e w' ⟨rfl, rfl⟩))
    go_wp2_with fail
    go_ret
    exact ⟨congrArg (fun b => Ending.returned (.bool b)) (Bool.eq_iff_iff.2 (by rw [HD.out]; (first | rw [decide_eq_true_iff] | rw [Bool.and_eq_true, decide_eq_true_iff, decide_eq_true_iff]); exact ⟨fun h => ⟨r1, r2, r3, HL.out, hany, h⟩, fun h => h.2.2.2.2.2⟩)), (by first | exact HB5.out | exact HBN.out _)⟩
theorem doP_6 (nf nb : Nat) (id ia ib inn iff il1 il2 k xd xa xb : Int) (al xl : List Int) : doP nf nb ⟨6, id, ia, ib, inn, iff, al, il1, il2⟩ ⟨1, k, xd, xa, xb, xl⟩ ↔ (regP xd (false = true) ∧ regP xa (true = true) ∧ regP xb (false = true) ∧ xl.length = al.length ∧ xl.any badReg = false ∧ True) := by
  have h : hasS 6 = 2 := by rfl
  have ha : xl.any badReg = false ↔ ∀ r ∈ xl, 0 ≤ r ∧ r < 32 := by
    rw [← Bool.not_eq_true, List.any_eq_true]
    simp [badReg]
  rw [ha]
  unfold doP
  simp only [h]
  unfold regP
  simp (decide := true) [and_assoc]
set_option maxRecDepth 100000 in
set_option maxHeartbeats 4000000 in
theorem may_6 {g f nf nb : Nat} {pf : Option Addr} {cf : Nat} {bf of cb : Nat} {pb : Option Addr} {bi oi : Nat} {w : World} {nm : ByteArray} {pi px pa : Option Addr} {ni ci nx cx na ca : Nat} {xt xd xa xb id ia ib inn iff il1 il2 : Int} {xl al : List Int}
    (k3 : w.cell? ⟨g, 3, none⟩ = some (.slice (some ⟨bf, of, none⟩) nf cf)) (k4 : w.cell? ⟨g, 4, none⟩ = some (.int .i64 f)) (hfn : f < nf)
    (kb : w.cell? ⟨bf, of + f * 4 + 3, none⟩ = some (.slice pb nb cb))
    (hx : IntsIn w (.slice px nx cx) xl) (hxl : nx = xl.length)
    (hat : 0 ≤ xt ∧ xt < ni) (hpi : pi = some ⟨bi, oi, none⟩)
    (i0 : w.cell? ⟨bi, oi + xt.toNat * 9, none⟩ = some (.int .u8 6)) (i1 : w.cell? ⟨bi, oi + xt.toNat * 9 + 1, none⟩ = some (.int .i64 id)) (i2 : w.cell? ⟨bi, oi + xt.toNat * 9 + 2, none⟩ = some (.int .i64 ia)) (i3 : w.cell? ⟨bi, oi + xt.toNat * 9 + 3, none⟩ = some (.int .i64 ib)) (i4 : w.cell? ⟨bi, oi + xt.toNat * 9 + 4, none⟩ = some (.int .u32 inn)) (i5 : w.cell? ⟨bi, oi + xt.toNat * 9 + 5, none⟩ = some (.int .i64 iff)) (i6 : w.cell? ⟨bi, oi + xt.toNat * 9 + 6, none⟩ = some (.slice pa na ca)) (i7 : w.cell? ⟨bi, oi + xt.toNat * 9 + 7, none⟩ = some (.int .i64 il1)) (i8 : w.cell? ⟨bi, oi + xt.toNat * 9 + 8, none⟩ = some (.int .i64 il2)) (hal : na = al.length) :
    Calls Tryd.prog 51 #[.pointer (some ⟨g, 0, none⟩), .agg #[.string nm, .slice pi ni ci], .agg #[.int .u8 1, .int .i64 xt, .int .i64 xd, .int .i64 xa, .int .i64 xb, .slice px nx cx]] w fun e w' => e = .returned (.bool (decide (doP nf nb ⟨6, id, ia, ib, inn, iff, al, il1, il2⟩ ⟨1, xt, xd, xa, xb, xl⟩))) ∧ Below w.heap.size w w' := by
  obtain ⟨k, rfl⟩ : ∃ k : Nat, xt = k := ⟨xt.toNat, by omega⟩
  simp only [Int.toNat_natCast] at i0 i1 i2 i3 i4 i5 i6 i7 i8
  have hkl : k < ni := by omega
  have hat' := hat
  subst hpi hxl hal
  have g1 := World.block_lt_of_cell? _ _ i0
  have g2 := World.block_lt_of_cell? _ _ k3
  have g3 := World.block_lt_of_cell? _ _ kb
  have g4 := World.block_lt_of_cell? _ _ k4
  have HD := ahid ((decide_eq_true_iff (p := doP nf nb ⟨6, id, ia, ib, inn, iff, al, il1, il2⟩ ⟨1, k, xd, xa, xb, xl⟩)).trans (doP_6 nf nb id ia ib inn iff il1 il2 k xd xa xb al xl))
  generalize decide (doP nf nb ⟨6, id, ia, ib, inn, iff, al, il1, il2⟩ ⟨1, k, xd, xa, xb, xl⟩) = B at HD ⊢
  have HNO : Hid (∀ w', Below w.heap.size w w' → B = false → Ending.returned (.bool false) = .returned (.bool B) ∧ Below w.heap.size w w') := ahid fun w' hb hB => ⟨by rw [hB], hb⟩
  go_enter Tryd.func51, Tryd.ntmps51
  go_wp2_with fail
  refine (within_any _ _ _).mono ?_
  rintro e w' ⟨rfl, rfl⟩
  rw [decide_eq_true hat']
  go_wp2_with fail
  obtain ⟨W3, hW3⟩ : ∃ W3, W3 = (((w.alloc (.cells #[.string nm, .slice (some ⟨bi, oi, none⟩) ni ci] 76)).alloc (.cells #[.int .u8 1, .int .i64 k, .int .i64 xd, .int .i64 xa, .int .i64 xb, .slice px xl.length cx] 41)).alloc (.cells #[.int .u8 6, .int .i64 id, .int .i64 ia, .int .i64 ib, .int .u32 inn, .int .i64 iff, .slice pa al.length ca, .int .i64 il1, .int .i64 il2] 73)) := ⟨_, rfl⟩
  have hb3 : Below w.heap.size w W3 := by rw [hW3]; exact (((Below.refl _ w).alloc (Nat.le_refl _) _).alloc (by simp [go_sem]) _).alloc (by simp [go_sem]; omega) _
  have x0 : W3.cell? ⟨w.heap.size + 1 + 1, 0, none⟩ = some (.int .u8 6) := by rw [hW3]; simp [go_sem]
  have x4 : W3.cell? ⟨w.heap.size + 1 + 1, 4, none⟩ = some (.int .u32 inn) := by rw [hW3]; simp [go_sem]
  have x5 : W3.cell? ⟨w.heap.size + 1 + 1, 5, none⟩ = some (.int .i64 iff) := by rw [hW3]; simp [go_sem]
  have x6 : W3.cell? ⟨w.heap.size + 1 + 1, 6, none⟩ = some (.slice pa al.length ca) := by rw [hW3]; simp [go_sem]
  have x7 : W3.cell? ⟨w.heap.size + 1 + 1, 7, none⟩ = some (.int .i64 il1) := by rw [hW3]; simp [go_sem]
  have x8 : W3.cell? ⟨w.heap.size + 1 + 1, 8, none⟩ = some (.int .i64 il2) := by rw [hW3]; simp [go_sem]
  have y2 : W3.cell? ⟨w.heap.size + 1, 2, none⟩ = some (.int .i64 xd) := by rw [hW3]; simp [go_sem]
  have y3 : W3.cell? ⟨w.heap.size + 1, 3, none⟩ = some (.int .i64 xa) := by rw [hW3]; simp [go_sem]
  have y4 : W3.cell? ⟨w.heap.size + 1, 4, none⟩ = some (.int .i64 xb) := by rw [hW3]; simp [go_sem]
  have y5 : W3.cell? ⟨w.heap.size + 1, 5, none⟩ = some (.slice px xl.length cx) := by rw [hW3]; simp [go_sem]
  rw [← hW3]
  clear hW3
  refine (has_6 W3).mono ?_
  rintro e w2 ⟨rfl, hb4⟩
  replace x0 := (hb4.cell (World.block_lt_of_cell? _ _ x0)).trans x0
  replace x4 := (hb4.cell (World.block_lt_of_cell? _ _ x4)).trans x4
  replace x5 := (hb4.cell (World.block_lt_of_cell? _ _ x5)).trans x5
  replace x6 := (hb4.cell (World.block_lt_of_cell? _ _ x6)).trans x6
  replace x7 := (hb4.cell (World.block_lt_of_cell? _ _ x7)).trans x7
  replace x8 := (hb4.cell (World.block_lt_of_cell? _ _ x8)).trans x8
  replace y2 := (hb4.cell (World.block_lt_of_cell? _ _ y2)).trans y2
  replace y3 := (hb4.cell (World.block_lt_of_cell? _ _ y3)).trans y3
  replace y4 := (hb4.cell (World.block_lt_of_cell? _ _ y4)).trans y4
  replace y5 := (hb4.cell (World.block_lt_of_cell? _ _ y5)).trans y5
  have hb5 : Below w.heap.size w w2 := hb3.trans (hb4.mono hb3.size)
  replace k3 := (hb5.cell g2).trans k3
  replace k4 := (hb5.cell g4).trans k4
  replace kb := (hb5.cell g3).trans kb
  have HX := ahid (hx.keep fun _ _ _ _ hh => hh.keep hb5)
  have HB5 := ahid hb5
  have HBN := ahid (fun n => (⟨hb5.os, hb5.tape, hb5.output, hb5.size, hb5.block⟩ : Below w.heap.size w (w2.drewN n)))
  clear hb3 hb4 hb5 i0 i1 i2 i3 i4 i5 i6 i7 i8 hx g1 g2 g3 g4
  by_cases hlen : xl.length = al.length
  rotate_left
  · have hne : ((xl.length : Int) != (al.length : Int)) = true := by simp; omega
    go_wp2_with fail
    rw [show (bits BinOp.and IntKind.i64 2 4 != 0) = false from by decide]
    refine (reg_any xd false w2).mono ?_
    rintro e w' ⟨rfl, rfl⟩
    by_cases r1 : regP xd (false = true)
    rotate_left
    · rw [decide_eq_false r1]
      go_wp2_with fail
      go_ret
      exact HNO.out _ (by first | exact HB5.out | exact HBN.out _) (Bool.eq_false_iff.2 fun h => r1 ((HD.out.1 h).1))
    rw [decide_eq_true r1]
    go_wp2_with fail
    rw [show (bits BinOp.and IntKind.i64 2 2 != 0) = true from by decide]
    refine (reg_any xa true w2).mono ?_
    rintro e w' ⟨rfl, rfl⟩
    by_cases r2 : regP xa (true = true)
    rotate_left
    · rw [decide_eq_false r2]
      go_wp2_with fail
      go_ret
      exact HNO.out _ (by first | exact HB5.out | exact HBN.out _) (Bool.eq_false_iff.2 fun h => r2 ((HD.out.1 h).2.1))
    rw [decide_eq_true r2]
    go_wp2_with fail
    rw [show (bits BinOp.and IntKind.i64 2 1 != 0) = false from by decide]
    refine (reg_any xb false w2).mono ?_
    rintro e w' ⟨rfl, rfl⟩
    by_cases r3 : regP xb (false = true)
    rotate_left
    · rw [decide_eq_false r3]
      go_wp2_with fail
      go_ret
      exact HNO.out _ (by first | exact HB5.out | exact HBN.out _) (Bool.eq_false_iff.2 fun h => r3 ((HD.out.1 h).2.2.1))
    rw [decide_eq_true r3]
    go_wp2_with fail
    go_ret
    exact HNO.out _ (by first | exact HB5.out | exact HBN.out _) (Bool.eq_false_iff.2 fun h => hlen ((HD.out.1 h).2.2.2.1))
  have hne : ((xl.length : Int) != (al.length : Int)) = false := by simp; omega
  have HL := ahid hlen
  clear hlen
  go_wp2_with fail
  rw [show (bits BinOp.and IntKind.i64 2 4 != 0) = false from by decide]
  refine (reg_any xd false w2).mono ?_
  rintro e w' ⟨rfl, rfl⟩
  by_cases r1 : regP xd (false = true)
  rotate_left
  · rw [decide_eq_false r1]
    go_wp2_with fail
    go_ret
    exact HNO.out _ (by first | exact HB5.out | exact HBN.out _) (Bool.eq_false_iff.2 fun h => r1 ((HD.out.1 h).1))
  rw [decide_eq_true r1]
  go_wp2_with fail
  rw [show (bits BinOp.and IntKind.i64 2 2 != 0) = true from by decide]
  refine (reg_any xa true w2).mono ?_
  rintro e w' ⟨rfl, rfl⟩
  by_cases r2 : regP xa (true = true)
  rotate_left
  · rw [decide_eq_false r2]
    go_wp2_with fail
    go_ret
    exact HNO.out _ (by first | exact HB5.out | exact HBN.out _) (Bool.eq_false_iff.2 fun h => r2 ((HD.out.1 h).2.1))
  rw [decide_eq_true r2]
  go_wp2_with fail
  rw [show (bits BinOp.and IntKind.i64 2 1 != 0) = false from by decide]
  refine (reg_any xb false w2).mono ?_
  rintro e w' ⟨rfl, rfl⟩
  by_cases r3 : regP xb (false = true)
  rotate_left
  · rw [decide_eq_false r3]
    go_wp2_with fail
    go_ret
    exact HNO.out _ (by first | exact HB5.out | exact HBN.out _) (Bool.eq_false_iff.2 fun h => r3 ((HD.out.1 h).2.2.1))
  rw [decide_eq_true r3]
  go_wp2_with fail
  refine (contains_reg w2 _ xl HX.out).mono ?_
  rintro e w' ⟨rfl, rfl⟩
  cases hany : xl.any badReg with
  | true =>
    go_wp2_with fail
    go_ret
    exact HNO.out _ (by first | exact HB5.out | exact HBN.out _) (Bool.eq_false_iff.2 fun h => by have hh := (HD.out.1 h).2.2.2.2.1; rw [hany] at hh; cases hh)
  | false =>
    have hf0 : (0 : Int) ≤ (f : Int) := by omega
    have hf1 : (f : Int) < (nf : Int) := by omega
    go_wp2_with fail
    go_quiet (fail)
    go_wp2_with fail
    go_ret
    exact ⟨congrArg (fun b => Ending.returned (.bool b)) (Bool.eq_iff_iff.2 (by rw [HD.out]; exact ⟨fun h => ⟨r1, r2, r3, HL.out, hany, trivial⟩, fun h => rfl⟩)), (by first | exact HB5.out | exact HBN.out _)⟩
theorem doP_7 (nf nb : Nat) (id ia ib inn iff il1 il2 k xd xa xb : Int) (al xl : List Int) : doP nf nb ⟨7, id, ia, ib, inn, iff, al, il1, il2⟩ ⟨1, k, xd, xa, xb, xl⟩ ↔ (regP xd (false = true) ∧ regP xa (false = true) ∧ regP xb (false = true) ∧ xl.length = al.length ∧ xl.any badReg = false ∧ True) := by
  have h : hasS 7 = 0 := by rfl
  have ha : xl.any badReg = false ↔ ∀ r ∈ xl, 0 ≤ r ∧ r < 32 := by
    rw [← Bool.not_eq_true, List.any_eq_true]
    simp [badReg]
  rw [ha]
  unfold doP
  simp only [h]
  unfold regP
  simp (decide := true) [and_assoc]
set_option maxRecDepth 100000 in
set_option maxHeartbeats 4000000 in
theorem may_7 {g f nf nb : Nat} {pf : Option Addr} {cf : Nat} {bf of cb : Nat} {pb : Option Addr} {bi oi : Nat} {w : World} {nm : ByteArray} {pi px pa : Option Addr} {ni ci nx cx na ca : Nat} {xt xd xa xb id ia ib inn iff il1 il2 : Int} {xl al : List Int}
    (k3 : w.cell? ⟨g, 3, none⟩ = some (.slice (some ⟨bf, of, none⟩) nf cf)) (k4 : w.cell? ⟨g, 4, none⟩ = some (.int .i64 f)) (hfn : f < nf)
    (kb : w.cell? ⟨bf, of + f * 4 + 3, none⟩ = some (.slice pb nb cb))
    (hx : IntsIn w (.slice px nx cx) xl) (hxl : nx = xl.length)
    (hat : 0 ≤ xt ∧ xt < ni) (hpi : pi = some ⟨bi, oi, none⟩)
    (i0 : w.cell? ⟨bi, oi + xt.toNat * 9, none⟩ = some (.int .u8 7)) (i1 : w.cell? ⟨bi, oi + xt.toNat * 9 + 1, none⟩ = some (.int .i64 id)) (i2 : w.cell? ⟨bi, oi + xt.toNat * 9 + 2, none⟩ = some (.int .i64 ia)) (i3 : w.cell? ⟨bi, oi + xt.toNat * 9 + 3, none⟩ = some (.int .i64 ib)) (i4 : w.cell? ⟨bi, oi + xt.toNat * 9 + 4, none⟩ = some (.int .u32 inn)) (i5 : w.cell? ⟨bi, oi + xt.toNat * 9 + 5, none⟩ = some (.int .i64 iff)) (i6 : w.cell? ⟨bi, oi + xt.toNat * 9 + 6, none⟩ = some (.slice pa na ca)) (i7 : w.cell? ⟨bi, oi + xt.toNat * 9 + 7, none⟩ = some (.int .i64 il1)) (i8 : w.cell? ⟨bi, oi + xt.toNat * 9 + 8, none⟩ = some (.int .i64 il2)) (hal : na = al.length) :
    Calls Tryd.prog 51 #[.pointer (some ⟨g, 0, none⟩), .agg #[.string nm, .slice pi ni ci], .agg #[.int .u8 1, .int .i64 xt, .int .i64 xd, .int .i64 xa, .int .i64 xb, .slice px nx cx]] w fun e w' => e = .returned (.bool (decide (doP nf nb ⟨7, id, ia, ib, inn, iff, al, il1, il2⟩ ⟨1, xt, xd, xa, xb, xl⟩))) ∧ Below w.heap.size w w' := by
  obtain ⟨k, rfl⟩ : ∃ k : Nat, xt = k := ⟨xt.toNat, by omega⟩
  simp only [Int.toNat_natCast] at i0 i1 i2 i3 i4 i5 i6 i7 i8
  have hkl : k < ni := by omega
  have hat' := hat
  subst hpi hxl hal
  have g1 := World.block_lt_of_cell? _ _ i0
  have g2 := World.block_lt_of_cell? _ _ k3
  have g3 := World.block_lt_of_cell? _ _ kb
  have g4 := World.block_lt_of_cell? _ _ k4
  have HD := ahid ((decide_eq_true_iff (p := doP nf nb ⟨7, id, ia, ib, inn, iff, al, il1, il2⟩ ⟨1, k, xd, xa, xb, xl⟩)).trans (doP_7 nf nb id ia ib inn iff il1 il2 k xd xa xb al xl))
  generalize decide (doP nf nb ⟨7, id, ia, ib, inn, iff, al, il1, il2⟩ ⟨1, k, xd, xa, xb, xl⟩) = B at HD ⊢
  have HNO : Hid (∀ w', Below w.heap.size w w' → B = false → Ending.returned (.bool false) = .returned (.bool B) ∧ Below w.heap.size w w') := ahid fun w' hb hB => ⟨by rw [hB], hb⟩
  go_enter Tryd.func51, Tryd.ntmps51
  go_wp2_with fail
  refine (within_any _ _ _).mono ?_
  rintro e w' ⟨rfl, rfl⟩
  rw [decide_eq_true hat']
  go_wp2_with fail
  obtain ⟨W3, hW3⟩ : ∃ W3, W3 = (((w.alloc (.cells #[.string nm, .slice (some ⟨bi, oi, none⟩) ni ci] 76)).alloc (.cells #[.int .u8 1, .int .i64 k, .int .i64 xd, .int .i64 xa, .int .i64 xb, .slice px xl.length cx] 41)).alloc (.cells #[.int .u8 7, .int .i64 id, .int .i64 ia, .int .i64 ib, .int .u32 inn, .int .i64 iff, .slice pa al.length ca, .int .i64 il1, .int .i64 il2] 73)) := ⟨_, rfl⟩
  have hb3 : Below w.heap.size w W3 := by rw [hW3]; exact (((Below.refl _ w).alloc (Nat.le_refl _) _).alloc (by simp [go_sem]) _).alloc (by simp [go_sem]; omega) _
  have x0 : W3.cell? ⟨w.heap.size + 1 + 1, 0, none⟩ = some (.int .u8 7) := by rw [hW3]; simp [go_sem]
  have x4 : W3.cell? ⟨w.heap.size + 1 + 1, 4, none⟩ = some (.int .u32 inn) := by rw [hW3]; simp [go_sem]
  have x5 : W3.cell? ⟨w.heap.size + 1 + 1, 5, none⟩ = some (.int .i64 iff) := by rw [hW3]; simp [go_sem]
  have x6 : W3.cell? ⟨w.heap.size + 1 + 1, 6, none⟩ = some (.slice pa al.length ca) := by rw [hW3]; simp [go_sem]
  have x7 : W3.cell? ⟨w.heap.size + 1 + 1, 7, none⟩ = some (.int .i64 il1) := by rw [hW3]; simp [go_sem]
  have x8 : W3.cell? ⟨w.heap.size + 1 + 1, 8, none⟩ = some (.int .i64 il2) := by rw [hW3]; simp [go_sem]
  have y2 : W3.cell? ⟨w.heap.size + 1, 2, none⟩ = some (.int .i64 xd) := by rw [hW3]; simp [go_sem]
  have y3 : W3.cell? ⟨w.heap.size + 1, 3, none⟩ = some (.int .i64 xa) := by rw [hW3]; simp [go_sem]
  have y4 : W3.cell? ⟨w.heap.size + 1, 4, none⟩ = some (.int .i64 xb) := by rw [hW3]; simp [go_sem]
  have y5 : W3.cell? ⟨w.heap.size + 1, 5, none⟩ = some (.slice px xl.length cx) := by rw [hW3]; simp [go_sem]
  rw [← hW3]
  clear hW3
  refine (has_7 W3).mono ?_
  rintro e w2 ⟨rfl, hb4⟩
  replace x0 := (hb4.cell (World.block_lt_of_cell? _ _ x0)).trans x0
  replace x4 := (hb4.cell (World.block_lt_of_cell? _ _ x4)).trans x4
  replace x5 := (hb4.cell (World.block_lt_of_cell? _ _ x5)).trans x5
  replace x6 := (hb4.cell (World.block_lt_of_cell? _ _ x6)).trans x6
  replace x7 := (hb4.cell (World.block_lt_of_cell? _ _ x7)).trans x7
  replace x8 := (hb4.cell (World.block_lt_of_cell? _ _ x8)).trans x8
  replace y2 := (hb4.cell (World.block_lt_of_cell? _ _ y2)).trans y2
  replace y3 := (hb4.cell (World.block_lt_of_cell? _ _ y3)).trans y3
  replace y4 := (hb4.cell (World.block_lt_of_cell? _ _ y4)).trans y4
  replace y5 := (hb4.cell (World.block_lt_of_cell? _ _ y5)).trans y5
  have hb5 : Below w.heap.size w w2 := hb3.trans (hb4.mono hb3.size)
  replace k3 := (hb5.cell g2).trans k3
  replace k4 := (hb5.cell g4).trans k4
  replace kb := (hb5.cell g3).trans kb
  have HX := ahid (hx.keep fun _ _ _ _ hh => hh.keep hb5)
  have HB5 := ahid hb5
  have HBN := ahid (fun n => (⟨hb5.os, hb5.tape, hb5.output, hb5.size, hb5.block⟩ : Below w.heap.size w (w2.drewN n)))
  clear hb3 hb4 hb5 i0 i1 i2 i3 i4 i5 i6 i7 i8 hx g1 g2 g3 g4
  by_cases hlen : xl.length = al.length
  rotate_left
  · have hne : ((xl.length : Int) != (al.length : Int)) = true := by simp; omega
    go_wp2_with fail
    rw [show (bits BinOp.and IntKind.i64 0 4 != 0) = false from by decide]
    refine (reg_any xd false w2).mono ?_
    rintro e w' ⟨rfl, rfl⟩
    by_cases r1 : regP xd (false = true)
    rotate_left
    · rw [decide_eq_false r1]
      go_wp2_with fail
      go_ret
      exact HNO.out _ (by first | exact HB5.out | exact HBN.out _) (Bool.eq_false_iff.2 fun h => r1 ((HD.out.1 h).1))
    rw [decide_eq_true r1]
    go_wp2_with fail
    rw [show (bits BinOp.and IntKind.i64 0 2 != 0) = false from by decide]
    refine (reg_any xa false w2).mono ?_
    rintro e w' ⟨rfl, rfl⟩
    by_cases r2 : regP xa (false = true)
    rotate_left
    · rw [decide_eq_false r2]
      go_wp2_with fail
      go_ret
      exact HNO.out _ (by first | exact HB5.out | exact HBN.out _) (Bool.eq_false_iff.2 fun h => r2 ((HD.out.1 h).2.1))
    rw [decide_eq_true r2]
    go_wp2_with fail
    rw [show (bits BinOp.and IntKind.i64 0 1 != 0) = false from by decide]
    refine (reg_any xb false w2).mono ?_
    rintro e w' ⟨rfl, rfl⟩
    by_cases r3 : regP xb (false = true)
    rotate_left
    · rw [decide_eq_false r3]
      go_wp2_with fail
      go_ret
      exact HNO.out _ (by first | exact HB5.out | exact HBN.out _) (Bool.eq_false_iff.2 fun h => r3 ((HD.out.1 h).2.2.1))
    rw [decide_eq_true r3]
    go_wp2_with fail
    go_ret
    exact HNO.out _ (by first | exact HB5.out | exact HBN.out _) (Bool.eq_false_iff.2 fun h => hlen ((HD.out.1 h).2.2.2.1))
  have hne : ((xl.length : Int) != (al.length : Int)) = false := by simp; omega
  have HL := ahid hlen
  clear hlen
  go_wp2_with fail
  rw [show (bits BinOp.and IntKind.i64 0 4 != 0) = false from by decide]
  refine (reg_any xd false w2).mono ?_
  rintro e w' ⟨rfl, rfl⟩
  by_cases r1 : regP xd (false = true)
  rotate_left
  · rw [decide_eq_false r1]
    go_wp2_with fail
    go_ret
    exact HNO.out _ (by first | exact HB5.out | exact HBN.out _) (Bool.eq_false_iff.2 fun h => r1 ((HD.out.1 h).1))
  rw [decide_eq_true r1]
  go_wp2_with fail
  rw [show (bits BinOp.and IntKind.i64 0 2 != 0) = false from by decide]
  refine (reg_any xa false w2).mono ?_
  rintro e w' ⟨rfl, rfl⟩
  by_cases r2 : regP xa (false = true)
  rotate_left
  · rw [decide_eq_false r2]
    go_wp2_with fail
    go_ret
    exact HNO.out _ (by first | exact HB5.out | exact HBN.out _) (Bool.eq_false_iff.2 fun h => r2 ((HD.out.1 h).2.1))
  rw [decide_eq_true r2]
  go_wp2_with fail
  rw [show (bits BinOp.and IntKind.i64 0 1 != 0) = false from by decide]
  refine (reg_any xb false w2).mono ?_
  rintro e w' ⟨rfl, rfl⟩
  by_cases r3 : regP xb (false = true)
  rotate_left
  · rw [decide_eq_false r3]
    go_wp2_with fail
    go_ret
    exact HNO.out _ (by first | exact HB5.out | exact HBN.out _) (Bool.eq_false_iff.2 fun h => r3 ((HD.out.1 h).2.2.1))
  rw [decide_eq_true r3]
  go_wp2_with fail
  refine (contains_reg w2 _ xl HX.out).mono ?_
  rintro e w' ⟨rfl, rfl⟩
  cases hany : xl.any badReg with
  | true =>
    go_wp2_with fail
    go_ret
    exact HNO.out _ (by first | exact HB5.out | exact HBN.out _) (Bool.eq_false_iff.2 fun h => by have hh := (HD.out.1 h).2.2.2.2.1; rw [hany] at hh; cases hh)
  | false =>
    have hf0 : (0 : Int) ≤ (f : Int) := by omega
    have hf1 : (f : Int) < (nf : Int) := by omega
    go_wp2_with fail
    go_quiet (fail)
    go_wp2_with fail
    go_ret
    exact ⟨congrArg (fun b => Ending.returned (.bool b)) (Bool.eq_iff_iff.2 (by rw [HD.out]; exact ⟨fun h => ⟨r1, r2, r3, HL.out, hany, trivial⟩, fun h => rfl⟩)), (by first | exact HB5.out | exact HBN.out _)⟩
theorem doP_8 (nf nb : Nat) (id ia ib inn iff il1 il2 k xd xa xb : Int) (al xl : List Int) : doP nf nb ⟨8, id, ia, ib, inn, iff, al, il1, il2⟩ ⟨1, k, xd, xa, xb, xl⟩ ↔ (regP xd (false = true) ∧ regP xa (false = true) ∧ regP xb (false = true) ∧ xl.length = al.length ∧ xl.any badReg = false ∧ (0 ≤ il1 ∧ il1 < nb)) := by
  have h : hasS 8 = 0 := by rfl
  have ha : xl.any badReg = false ↔ ∀ r ∈ xl, 0 ≤ r ∧ r < 32 := by
    rw [← Bool.not_eq_true, List.any_eq_true]
    simp [badReg]
  rw [ha]
  unfold doP
  simp only [h]
  unfold regP
  simp (decide := true) [and_assoc]
set_option maxRecDepth 100000 in
set_option maxHeartbeats 4000000 in
theorem may_8 {g f nf nb : Nat} {pf : Option Addr} {cf : Nat} {bf of cb : Nat} {pb : Option Addr} {bi oi : Nat} {w : World} {nm : ByteArray} {pi px pa : Option Addr} {ni ci nx cx na ca : Nat} {xt xd xa xb id ia ib inn iff il1 il2 : Int} {xl al : List Int}
    (k3 : w.cell? ⟨g, 3, none⟩ = some (.slice (some ⟨bf, of, none⟩) nf cf)) (k4 : w.cell? ⟨g, 4, none⟩ = some (.int .i64 f)) (hfn : f < nf)
    (kb : w.cell? ⟨bf, of + f * 4 + 3, none⟩ = some (.slice pb nb cb))
    (hx : IntsIn w (.slice px nx cx) xl) (hxl : nx = xl.length)
    (hat : 0 ≤ xt ∧ xt < ni) (hpi : pi = some ⟨bi, oi, none⟩)
    (i0 : w.cell? ⟨bi, oi + xt.toNat * 9, none⟩ = some (.int .u8 8)) (i1 : w.cell? ⟨bi, oi + xt.toNat * 9 + 1, none⟩ = some (.int .i64 id)) (i2 : w.cell? ⟨bi, oi + xt.toNat * 9 + 2, none⟩ = some (.int .i64 ia)) (i3 : w.cell? ⟨bi, oi + xt.toNat * 9 + 3, none⟩ = some (.int .i64 ib)) (i4 : w.cell? ⟨bi, oi + xt.toNat * 9 + 4, none⟩ = some (.int .u32 inn)) (i5 : w.cell? ⟨bi, oi + xt.toNat * 9 + 5, none⟩ = some (.int .i64 iff)) (i6 : w.cell? ⟨bi, oi + xt.toNat * 9 + 6, none⟩ = some (.slice pa na ca)) (i7 : w.cell? ⟨bi, oi + xt.toNat * 9 + 7, none⟩ = some (.int .i64 il1)) (i8 : w.cell? ⟨bi, oi + xt.toNat * 9 + 8, none⟩ = some (.int .i64 il2)) (hal : na = al.length) :
    Calls Tryd.prog 51 #[.pointer (some ⟨g, 0, none⟩), .agg #[.string nm, .slice pi ni ci], .agg #[.int .u8 1, .int .i64 xt, .int .i64 xd, .int .i64 xa, .int .i64 xb, .slice px nx cx]] w fun e w' => e = .returned (.bool (decide (doP nf nb ⟨8, id, ia, ib, inn, iff, al, il1, il2⟩ ⟨1, xt, xd, xa, xb, xl⟩))) ∧ Below w.heap.size w w' := by
  obtain ⟨k, rfl⟩ : ∃ k : Nat, xt = k := ⟨xt.toNat, by omega⟩
  simp only [Int.toNat_natCast] at i0 i1 i2 i3 i4 i5 i6 i7 i8
  have hkl : k < ni := by omega
  have hat' := hat
  subst hpi hxl hal
  have g1 := World.block_lt_of_cell? _ _ i0
  have g2 := World.block_lt_of_cell? _ _ k3
  have g3 := World.block_lt_of_cell? _ _ kb
  have g4 := World.block_lt_of_cell? _ _ k4
  have HD := ahid ((decide_eq_true_iff (p := doP nf nb ⟨8, id, ia, ib, inn, iff, al, il1, il2⟩ ⟨1, k, xd, xa, xb, xl⟩)).trans (doP_8 nf nb id ia ib inn iff il1 il2 k xd xa xb al xl))
  generalize decide (doP nf nb ⟨8, id, ia, ib, inn, iff, al, il1, il2⟩ ⟨1, k, xd, xa, xb, xl⟩) = B at HD ⊢
  have HNO : Hid (∀ w', Below w.heap.size w w' → B = false → Ending.returned (.bool false) = .returned (.bool B) ∧ Below w.heap.size w w') := ahid fun w' hb hB => ⟨by rw [hB], hb⟩
  go_enter Tryd.func51, Tryd.ntmps51
  go_wp2_with fail
  refine (within_any _ _ _).mono ?_
  rintro e w' ⟨rfl, rfl⟩
  rw [decide_eq_true hat']
  go_wp2_with fail
  obtain ⟨W3, hW3⟩ : ∃ W3, W3 = (((w.alloc (.cells #[.string nm, .slice (some ⟨bi, oi, none⟩) ni ci] 76)).alloc (.cells #[.int .u8 1, .int .i64 k, .int .i64 xd, .int .i64 xa, .int .i64 xb, .slice px xl.length cx] 41)).alloc (.cells #[.int .u8 8, .int .i64 id, .int .i64 ia, .int .i64 ib, .int .u32 inn, .int .i64 iff, .slice pa al.length ca, .int .i64 il1, .int .i64 il2] 73)) := ⟨_, rfl⟩
  have hb3 : Below w.heap.size w W3 := by rw [hW3]; exact (((Below.refl _ w).alloc (Nat.le_refl _) _).alloc (by simp [go_sem]) _).alloc (by simp [go_sem]; omega) _
  have x0 : W3.cell? ⟨w.heap.size + 1 + 1, 0, none⟩ = some (.int .u8 8) := by rw [hW3]; simp [go_sem]
  have x4 : W3.cell? ⟨w.heap.size + 1 + 1, 4, none⟩ = some (.int .u32 inn) := by rw [hW3]; simp [go_sem]
  have x5 : W3.cell? ⟨w.heap.size + 1 + 1, 5, none⟩ = some (.int .i64 iff) := by rw [hW3]; simp [go_sem]
  have x6 : W3.cell? ⟨w.heap.size + 1 + 1, 6, none⟩ = some (.slice pa al.length ca) := by rw [hW3]; simp [go_sem]
  have x7 : W3.cell? ⟨w.heap.size + 1 + 1, 7, none⟩ = some (.int .i64 il1) := by rw [hW3]; simp [go_sem]
  have x8 : W3.cell? ⟨w.heap.size + 1 + 1, 8, none⟩ = some (.int .i64 il2) := by rw [hW3]; simp [go_sem]
  have y2 : W3.cell? ⟨w.heap.size + 1, 2, none⟩ = some (.int .i64 xd) := by rw [hW3]; simp [go_sem]
  have y3 : W3.cell? ⟨w.heap.size + 1, 3, none⟩ = some (.int .i64 xa) := by rw [hW3]; simp [go_sem]
  have y4 : W3.cell? ⟨w.heap.size + 1, 4, none⟩ = some (.int .i64 xb) := by rw [hW3]; simp [go_sem]
  have y5 : W3.cell? ⟨w.heap.size + 1, 5, none⟩ = some (.slice px xl.length cx) := by rw [hW3]; simp [go_sem]
  rw [← hW3]
  clear hW3
  refine (has_8 W3).mono ?_
  rintro e w2 ⟨rfl, hb4⟩
  replace x0 := (hb4.cell (World.block_lt_of_cell? _ _ x0)).trans x0
  replace x4 := (hb4.cell (World.block_lt_of_cell? _ _ x4)).trans x4
  replace x5 := (hb4.cell (World.block_lt_of_cell? _ _ x5)).trans x5
  replace x6 := (hb4.cell (World.block_lt_of_cell? _ _ x6)).trans x6
  replace x7 := (hb4.cell (World.block_lt_of_cell? _ _ x7)).trans x7
  replace x8 := (hb4.cell (World.block_lt_of_cell? _ _ x8)).trans x8
  replace y2 := (hb4.cell (World.block_lt_of_cell? _ _ y2)).trans y2
  replace y3 := (hb4.cell (World.block_lt_of_cell? _ _ y3)).trans y3
  replace y4 := (hb4.cell (World.block_lt_of_cell? _ _ y4)).trans y4
  replace y5 := (hb4.cell (World.block_lt_of_cell? _ _ y5)).trans y5
  have hb5 : Below w.heap.size w w2 := hb3.trans (hb4.mono hb3.size)
  replace k3 := (hb5.cell g2).trans k3
  replace k4 := (hb5.cell g4).trans k4
  replace kb := (hb5.cell g3).trans kb
  have HX := ahid (hx.keep fun _ _ _ _ hh => hh.keep hb5)
  have HB5 := ahid hb5
  have HBN := ahid (fun n => (⟨hb5.os, hb5.tape, hb5.output, hb5.size, hb5.block⟩ : Below w.heap.size w (w2.drewN n)))
  clear hb3 hb4 hb5 i0 i1 i2 i3 i4 i5 i6 i7 i8 hx g1 g2 g3 g4
  by_cases hlen : xl.length = al.length
  rotate_left
  · have hne : ((xl.length : Int) != (al.length : Int)) = true := by simp; omega
    go_wp2_with fail
    rw [show (bits BinOp.and IntKind.i64 0 4 != 0) = false from by decide]
    refine (reg_any xd false w2).mono ?_
    rintro e w' ⟨rfl, rfl⟩
    by_cases r1 : regP xd (false = true)
    rotate_left
    · rw [decide_eq_false r1]
      go_wp2_with fail
      go_ret
      exact HNO.out _ (by first | exact HB5.out | exact HBN.out _) (Bool.eq_false_iff.2 fun h => r1 ((HD.out.1 h).1))
    rw [decide_eq_true r1]
    go_wp2_with fail
    rw [show (bits BinOp.and IntKind.i64 0 2 != 0) = false from by decide]
    refine (reg_any xa false w2).mono ?_
    rintro e w' ⟨rfl, rfl⟩
    by_cases r2 : regP xa (false = true)
    rotate_left
    · rw [decide_eq_false r2]
      go_wp2_with fail
      go_ret
      exact HNO.out _ (by first | exact HB5.out | exact HBN.out _) (Bool.eq_false_iff.2 fun h => r2 ((HD.out.1 h).2.1))
    rw [decide_eq_true r2]
    go_wp2_with fail
    rw [show (bits BinOp.and IntKind.i64 0 1 != 0) = false from by decide]
    refine (reg_any xb false w2).mono ?_
    rintro e w' ⟨rfl, rfl⟩
    by_cases r3 : regP xb (false = true)
    rotate_left
    · rw [decide_eq_false r3]
      go_wp2_with fail
      go_ret
      exact HNO.out _ (by first | exact HB5.out | exact HBN.out _) (Bool.eq_false_iff.2 fun h => r3 ((HD.out.1 h).2.2.1))
    rw [decide_eq_true r3]
    go_wp2_with fail
    go_ret
    exact HNO.out _ (by first | exact HB5.out | exact HBN.out _) (Bool.eq_false_iff.2 fun h => hlen ((HD.out.1 h).2.2.2.1))
  have hne : ((xl.length : Int) != (al.length : Int)) = false := by simp; omega
  have HL := ahid hlen
  clear hlen
  go_wp2_with fail
  rw [show (bits BinOp.and IntKind.i64 0 4 != 0) = false from by decide]
  refine (reg_any xd false w2).mono ?_
  rintro e w' ⟨rfl, rfl⟩
  by_cases r1 : regP xd (false = true)
  rotate_left
  · rw [decide_eq_false r1]
    go_wp2_with fail
    go_ret
    exact HNO.out _ (by first | exact HB5.out | exact HBN.out _) (Bool.eq_false_iff.2 fun h => r1 ((HD.out.1 h).1))
  rw [decide_eq_true r1]
  go_wp2_with fail
  rw [show (bits BinOp.and IntKind.i64 0 2 != 0) = false from by decide]
  refine (reg_any xa false w2).mono ?_
  rintro e w' ⟨rfl, rfl⟩
  by_cases r2 : regP xa (false = true)
  rotate_left
  · rw [decide_eq_false r2]
    go_wp2_with fail
    go_ret
    exact HNO.out _ (by first | exact HB5.out | exact HBN.out _) (Bool.eq_false_iff.2 fun h => r2 ((HD.out.1 h).2.1))
  rw [decide_eq_true r2]
  go_wp2_with fail
  rw [show (bits BinOp.and IntKind.i64 0 1 != 0) = false from by decide]
  refine (reg_any xb false w2).mono ?_
  rintro e w' ⟨rfl, rfl⟩
  by_cases r3 : regP xb (false = true)
  rotate_left
  · rw [decide_eq_false r3]
    go_wp2_with fail
    go_ret
    exact HNO.out _ (by first | exact HB5.out | exact HBN.out _) (Bool.eq_false_iff.2 fun h => r3 ((HD.out.1 h).2.2.1))
  rw [decide_eq_true r3]
  go_wp2_with fail
  refine (contains_reg w2 _ xl HX.out).mono ?_
  rintro e w' ⟨rfl, rfl⟩
  cases hany : xl.any badReg with
  | true =>
    go_wp2_with fail
    go_ret
    exact HNO.out _ (by first | exact HB5.out | exact HBN.out _) (Bool.eq_false_iff.2 fun h => by have hh := (HD.out.1 h).2.2.2.2.1; rw [hany] at hh; cases hh)
  | false =>
    have hf0 : (0 : Int) ≤ (f : Int) := by omega
    have hf1 : (f : Int) < (nf : Int) := by omega
    go_wp2_with fail
    go_quiet (fail)
    go_wp2_with fail
    refine (within_any _ _ _).mono ?_
    rintro e w' ⟨rfl, rfl⟩
    go_wp2_with fail
    go_ret
    exact ⟨congrArg (fun b => Ending.returned (.bool b)) (Bool.eq_iff_iff.2 (by rw [HD.out]; (first | rw [decide_eq_true_iff] | rw [Bool.and_eq_true, decide_eq_true_iff, decide_eq_true_iff]); exact ⟨fun h => ⟨r1, r2, r3, HL.out, hany, h⟩, fun h => h.2.2.2.2.2⟩)), (by first | exact HB5.out | exact HBN.out _)⟩
theorem doP_9 (nf nb : Nat) (id ia ib inn iff il1 il2 k xd xa xb : Int) (al xl : List Int) : doP nf nb ⟨9, id, ia, ib, inn, iff, al, il1, il2⟩ ⟨1, k, xd, xa, xb, xl⟩ ↔ (regP xd (false = true) ∧ regP xa (true = true) ∧ regP xb (false = true) ∧ xl.length = al.length ∧ xl.any badReg = false ∧ ((0 ≤ il1 ∧ il1 < nb) ∧ (0 ≤ il2 ∧ il2 < nb))) := by
  have h : hasS 9 = 2 := by rfl
  have ha : xl.any badReg = false ↔ ∀ r ∈ xl, 0 ≤ r ∧ r < 32 := by
    rw [← Bool.not_eq_true, List.any_eq_true]
    simp [badReg]
  rw [ha]
  unfold doP
  simp only [h]
  unfold regP
  simp (decide := true) [and_assoc]
set_option maxRecDepth 100000 in
set_option maxHeartbeats 4000000 in
theorem may_9 {g f nf nb : Nat} {pf : Option Addr} {cf : Nat} {bf of cb : Nat} {pb : Option Addr} {bi oi : Nat} {w : World} {nm : ByteArray} {pi px pa : Option Addr} {ni ci nx cx na ca : Nat} {xt xd xa xb id ia ib inn iff il1 il2 : Int} {xl al : List Int}
    (k3 : w.cell? ⟨g, 3, none⟩ = some (.slice (some ⟨bf, of, none⟩) nf cf)) (k4 : w.cell? ⟨g, 4, none⟩ = some (.int .i64 f)) (hfn : f < nf)
    (kb : w.cell? ⟨bf, of + f * 4 + 3, none⟩ = some (.slice pb nb cb))
    (hx : IntsIn w (.slice px nx cx) xl) (hxl : nx = xl.length)
    (hat : 0 ≤ xt ∧ xt < ni) (hpi : pi = some ⟨bi, oi, none⟩)
    (i0 : w.cell? ⟨bi, oi + xt.toNat * 9, none⟩ = some (.int .u8 9)) (i1 : w.cell? ⟨bi, oi + xt.toNat * 9 + 1, none⟩ = some (.int .i64 id)) (i2 : w.cell? ⟨bi, oi + xt.toNat * 9 + 2, none⟩ = some (.int .i64 ia)) (i3 : w.cell? ⟨bi, oi + xt.toNat * 9 + 3, none⟩ = some (.int .i64 ib)) (i4 : w.cell? ⟨bi, oi + xt.toNat * 9 + 4, none⟩ = some (.int .u32 inn)) (i5 : w.cell? ⟨bi, oi + xt.toNat * 9 + 5, none⟩ = some (.int .i64 iff)) (i6 : w.cell? ⟨bi, oi + xt.toNat * 9 + 6, none⟩ = some (.slice pa na ca)) (i7 : w.cell? ⟨bi, oi + xt.toNat * 9 + 7, none⟩ = some (.int .i64 il1)) (i8 : w.cell? ⟨bi, oi + xt.toNat * 9 + 8, none⟩ = some (.int .i64 il2)) (hal : na = al.length) :
    Calls Tryd.prog 51 #[.pointer (some ⟨g, 0, none⟩), .agg #[.string nm, .slice pi ni ci], .agg #[.int .u8 1, .int .i64 xt, .int .i64 xd, .int .i64 xa, .int .i64 xb, .slice px nx cx]] w fun e w' => e = .returned (.bool (decide (doP nf nb ⟨9, id, ia, ib, inn, iff, al, il1, il2⟩ ⟨1, xt, xd, xa, xb, xl⟩))) ∧ Below w.heap.size w w' := by
  obtain ⟨k, rfl⟩ : ∃ k : Nat, xt = k := ⟨xt.toNat, by omega⟩
  simp only [Int.toNat_natCast] at i0 i1 i2 i3 i4 i5 i6 i7 i8
  have hkl : k < ni := by omega
  have hat' := hat
  subst hpi hxl hal
  have g1 := World.block_lt_of_cell? _ _ i0
  have g2 := World.block_lt_of_cell? _ _ k3
  have g3 := World.block_lt_of_cell? _ _ kb
  have g4 := World.block_lt_of_cell? _ _ k4
  have HD := ahid ((decide_eq_true_iff (p := doP nf nb ⟨9, id, ia, ib, inn, iff, al, il1, il2⟩ ⟨1, k, xd, xa, xb, xl⟩)).trans (doP_9 nf nb id ia ib inn iff il1 il2 k xd xa xb al xl))
  generalize decide (doP nf nb ⟨9, id, ia, ib, inn, iff, al, il1, il2⟩ ⟨1, k, xd, xa, xb, xl⟩) = B at HD ⊢
  have HNO : Hid (∀ w', Below w.heap.size w w' → B = false → Ending.returned (.bool false) = .returned (.bool B) ∧ Below w.heap.size w w') := ahid fun w' hb hB => ⟨by rw [hB], hb⟩
  go_enter Tryd.func51, Tryd.ntmps51
  go_wp2_with fail
  refine (within_any _ _ _).mono ?_
  rintro e w' ⟨rfl, rfl⟩
  rw [decide_eq_true hat']
  go_wp2_with fail
  obtain ⟨W3, hW3⟩ : ∃ W3, W3 = (((w.alloc (.cells #[.string nm, .slice (some ⟨bi, oi, none⟩) ni ci] 76)).alloc (.cells #[.int .u8 1, .int .i64 k, .int .i64 xd, .int .i64 xa, .int .i64 xb, .slice px xl.length cx] 41)).alloc (.cells #[.int .u8 9, .int .i64 id, .int .i64 ia, .int .i64 ib, .int .u32 inn, .int .i64 iff, .slice pa al.length ca, .int .i64 il1, .int .i64 il2] 73)) := ⟨_, rfl⟩
  have hb3 : Below w.heap.size w W3 := by rw [hW3]; exact (((Below.refl _ w).alloc (Nat.le_refl _) _).alloc (by simp [go_sem]) _).alloc (by simp [go_sem]; omega) _
  have x0 : W3.cell? ⟨w.heap.size + 1 + 1, 0, none⟩ = some (.int .u8 9) := by rw [hW3]; simp [go_sem]
  have x4 : W3.cell? ⟨w.heap.size + 1 + 1, 4, none⟩ = some (.int .u32 inn) := by rw [hW3]; simp [go_sem]
  have x5 : W3.cell? ⟨w.heap.size + 1 + 1, 5, none⟩ = some (.int .i64 iff) := by rw [hW3]; simp [go_sem]
  have x6 : W3.cell? ⟨w.heap.size + 1 + 1, 6, none⟩ = some (.slice pa al.length ca) := by rw [hW3]; simp [go_sem]
  have x7 : W3.cell? ⟨w.heap.size + 1 + 1, 7, none⟩ = some (.int .i64 il1) := by rw [hW3]; simp [go_sem]
  have x8 : W3.cell? ⟨w.heap.size + 1 + 1, 8, none⟩ = some (.int .i64 il2) := by rw [hW3]; simp [go_sem]
  have y2 : W3.cell? ⟨w.heap.size + 1, 2, none⟩ = some (.int .i64 xd) := by rw [hW3]; simp [go_sem]
  have y3 : W3.cell? ⟨w.heap.size + 1, 3, none⟩ = some (.int .i64 xa) := by rw [hW3]; simp [go_sem]
  have y4 : W3.cell? ⟨w.heap.size + 1, 4, none⟩ = some (.int .i64 xb) := by rw [hW3]; simp [go_sem]
  have y5 : W3.cell? ⟨w.heap.size + 1, 5, none⟩ = some (.slice px xl.length cx) := by rw [hW3]; simp [go_sem]
  rw [← hW3]
  clear hW3
  refine (has_9 W3).mono ?_
  rintro e w2 ⟨rfl, hb4⟩
  replace x0 := (hb4.cell (World.block_lt_of_cell? _ _ x0)).trans x0
  replace x4 := (hb4.cell (World.block_lt_of_cell? _ _ x4)).trans x4
  replace x5 := (hb4.cell (World.block_lt_of_cell? _ _ x5)).trans x5
  replace x6 := (hb4.cell (World.block_lt_of_cell? _ _ x6)).trans x6
  replace x7 := (hb4.cell (World.block_lt_of_cell? _ _ x7)).trans x7
  replace x8 := (hb4.cell (World.block_lt_of_cell? _ _ x8)).trans x8
  replace y2 := (hb4.cell (World.block_lt_of_cell? _ _ y2)).trans y2
  replace y3 := (hb4.cell (World.block_lt_of_cell? _ _ y3)).trans y3
  replace y4 := (hb4.cell (World.block_lt_of_cell? _ _ y4)).trans y4
  replace y5 := (hb4.cell (World.block_lt_of_cell? _ _ y5)).trans y5
  have hb5 : Below w.heap.size w w2 := hb3.trans (hb4.mono hb3.size)
  replace k3 := (hb5.cell g2).trans k3
  replace k4 := (hb5.cell g4).trans k4
  replace kb := (hb5.cell g3).trans kb
  have HX := ahid (hx.keep fun _ _ _ _ hh => hh.keep hb5)
  have HB5 := ahid hb5
  have HBN := ahid (fun n => (⟨hb5.os, hb5.tape, hb5.output, hb5.size, hb5.block⟩ : Below w.heap.size w (w2.drewN n)))
  clear hb3 hb4 hb5 i0 i1 i2 i3 i4 i5 i6 i7 i8 hx g1 g2 g3 g4
  by_cases hlen : xl.length = al.length
  rotate_left
  · have hne : ((xl.length : Int) != (al.length : Int)) = true := by simp; omega
    go_wp2_with fail
    rw [show (bits BinOp.and IntKind.i64 2 4 != 0) = false from by decide]
    refine (reg_any xd false w2).mono ?_
    rintro e w' ⟨rfl, rfl⟩
    by_cases r1 : regP xd (false = true)
    rotate_left
    · rw [decide_eq_false r1]
      go_wp2_with fail
      go_ret
      exact HNO.out _ (by first | exact HB5.out | exact HBN.out _) (Bool.eq_false_iff.2 fun h => r1 ((HD.out.1 h).1))
    rw [decide_eq_true r1]
    go_wp2_with fail
    rw [show (bits BinOp.and IntKind.i64 2 2 != 0) = true from by decide]
    refine (reg_any xa true w2).mono ?_
    rintro e w' ⟨rfl, rfl⟩
    by_cases r2 : regP xa (true = true)
    rotate_left
    · rw [decide_eq_false r2]
      go_wp2_with fail
      go_ret
      exact HNO.out _ (by first | exact HB5.out | exact HBN.out _) (Bool.eq_false_iff.2 fun h => r2 ((HD.out.1 h).2.1))
    rw [decide_eq_true r2]
    go_wp2_with fail
    rw [show (bits BinOp.and IntKind.i64 2 1 != 0) = false from by decide]
    refine (reg_any xb false w2).mono ?_
    rintro e w' ⟨rfl, rfl⟩
    by_cases r3 : regP xb (false = true)
    rotate_left
    · rw [decide_eq_false r3]
      go_wp2_with fail
      go_ret
      exact HNO.out _ (by first | exact HB5.out | exact HBN.out _) (Bool.eq_false_iff.2 fun h => r3 ((HD.out.1 h).2.2.1))
    rw [decide_eq_true r3]
    go_wp2_with fail
    go_ret
    exact HNO.out _ (by first | exact HB5.out | exact HBN.out _) (Bool.eq_false_iff.2 fun h => hlen ((HD.out.1 h).2.2.2.1))
  have hne : ((xl.length : Int) != (al.length : Int)) = false := by simp; omega
  have HL := ahid hlen
  clear hlen
  go_wp2_with fail
  rw [show (bits BinOp.and IntKind.i64 2 4 != 0) = false from by decide]
  refine (reg_any xd false w2).mono ?_
  rintro e w' ⟨rfl, rfl⟩
  by_cases r1 : regP xd (false = true)
  rotate_left
  · rw [decide_eq_false r1]
    go_wp2_with fail
    go_ret
    exact HNO.out _ (by first | exact HB5.out | exact HBN.out _) (Bool.eq_false_iff.2 fun h => r1 ((HD.out.1 h).1))
  rw [decide_eq_true r1]
  go_wp2_with fail
  rw [show (bits BinOp.and IntKind.i64 2 2 != 0) = true from by decide]
  refine (reg_any xa true w2).mono ?_
  rintro e w' ⟨rfl, rfl⟩
  by_cases r2 : regP xa (true = true)
  rotate_left
  · rw [decide_eq_false r2]
    go_wp2_with fail
    go_ret
    exact HNO.out _ (by first | exact HB5.out | exact HBN.out _) (Bool.eq_false_iff.2 fun h => r2 ((HD.out.1 h).2.1))
  rw [decide_eq_true r2]
  go_wp2_with fail
  rw [show (bits BinOp.and IntKind.i64 2 1 != 0) = false from by decide]
  refine (reg_any xb false w2).mono ?_
  rintro e w' ⟨rfl, rfl⟩
  by_cases r3 : regP xb (false = true)
  rotate_left
  · rw [decide_eq_false r3]
    go_wp2_with fail
    go_ret
    exact HNO.out _ (by first | exact HB5.out | exact HBN.out _) (Bool.eq_false_iff.2 fun h => r3 ((HD.out.1 h).2.2.1))
  rw [decide_eq_true r3]
  go_wp2_with fail
  refine (contains_reg w2 _ xl HX.out).mono ?_
  rintro e w' ⟨rfl, rfl⟩
  cases hany : xl.any badReg with
  | true =>
    go_wp2_with fail
    go_ret
    exact HNO.out _ (by first | exact HB5.out | exact HBN.out _) (Bool.eq_false_iff.2 fun h => by have hh := (HD.out.1 h).2.2.2.2.1; rw [hany] at hh; cases hh)
  | false =>
    have hf0 : (0 : Int) ≤ (f : Int) := by omega
    have hf1 : (f : Int) < (nf : Int) := by omega
    go_wp2_with fail
    go_quiet (fail)
    go_wp2_with fail
    refine (within_any _ _ _).mono ?_
    rintro e w' ⟨rfl, rfl⟩
    by_cases q1 : 0 ≤ il1 ∧ il1 < nb
    rotate_left
    · rw [decide_eq_false q1]
      go_wp2_with fail
      go_ret
      exact HNO.out _ (by first | exact HB5.out | exact HBN.out _) (Bool.eq_false_iff.2 fun h => q1 (HD.out.1 h).2.2.2.2.2.1)
    rw [decide_eq_true q1]
    go_wp2_with fail
    refine (within_any _ _ _).mono ?_
    rintro e w' ⟨rfl, rfl⟩
    go_wp2_with fail
    go_ret
    exact ⟨congrArg (fun b => Ending.returned (.bool b)) (Bool.eq_iff_iff.2 (by rw [HD.out]; (first | rw [decide_eq_true_iff] | rw [Bool.and_eq_true, decide_eq_true_iff, decide_eq_true_iff]); exact ⟨fun h => ⟨r1, r2, r3, HL.out, hany, q1, h⟩, fun h => h.2.2.2.2.2.2⟩)), (by first | exact HB5.out | exact HBN.out _)⟩
theorem doP_10 (nf nb : Nat) (id ia ib inn iff il1 il2 k xd xa xb : Int) (al xl : List Int) : doP nf nb ⟨10, id, ia, ib, inn, iff, al, il1, il2⟩ ⟨1, k, xd, xa, xb, xl⟩ ↔ (regP xd (false = true) ∧ regP xa (true = true) ∧ regP xb (false = true) ∧ xl.length = al.length ∧ xl.any badReg = false ∧ True) := by
  have h : hasS 10 = 2 := by rfl
  have ha : xl.any badReg = false ↔ ∀ r ∈ xl, 0 ≤ r ∧ r < 32 := by
    rw [← Bool.not_eq_true, List.any_eq_true]
    simp [badReg]
  rw [ha]
  unfold doP
  simp only [h]
  unfold regP
  simp (decide := true) [and_assoc]
set_option maxRecDepth 100000 in
set_option maxHeartbeats 4000000 in
theorem may_10 {g f nf nb : Nat} {pf : Option Addr} {cf : Nat} {bf of cb : Nat} {pb : Option Addr} {bi oi : Nat} {w : World} {nm : ByteArray} {pi px pa : Option Addr} {ni ci nx cx na ca : Nat} {xt xd xa xb id ia ib inn iff il1 il2 : Int} {xl al : List Int}
    (k3 : w.cell? ⟨g, 3, none⟩ = some (.slice (some ⟨bf, of, none⟩) nf cf)) (k4 : w.cell? ⟨g, 4, none⟩ = some (.int .i64 f)) (hfn : f < nf)
    (kb : w.cell? ⟨bf, of + f * 4 + 3, none⟩ = some (.slice pb nb cb))
    (hx : IntsIn w (.slice px nx cx) xl) (hxl : nx = xl.length)
    (hat : 0 ≤ xt ∧ xt < ni) (hpi : pi = some ⟨bi, oi, none⟩)
    (i0 : w.cell? ⟨bi, oi + xt.toNat * 9, none⟩ = some (.int .u8 10)) (i1 : w.cell? ⟨bi, oi + xt.toNat * 9 + 1, none⟩ = some (.int .i64 id)) (i2 : w.cell? ⟨bi, oi + xt.toNat * 9 + 2, none⟩ = some (.int .i64 ia)) (i3 : w.cell? ⟨bi, oi + xt.toNat * 9 + 3, none⟩ = some (.int .i64 ib)) (i4 : w.cell? ⟨bi, oi + xt.toNat * 9 + 4, none⟩ = some (.int .u32 inn)) (i5 : w.cell? ⟨bi, oi + xt.toNat * 9 + 5, none⟩ = some (.int .i64 iff)) (i6 : w.cell? ⟨bi, oi + xt.toNat * 9 + 6, none⟩ = some (.slice pa na ca)) (i7 : w.cell? ⟨bi, oi + xt.toNat * 9 + 7, none⟩ = some (.int .i64 il1)) (i8 : w.cell? ⟨bi, oi + xt.toNat * 9 + 8, none⟩ = some (.int .i64 il2)) (hal : na = al.length) :
    Calls Tryd.prog 51 #[.pointer (some ⟨g, 0, none⟩), .agg #[.string nm, .slice pi ni ci], .agg #[.int .u8 1, .int .i64 xt, .int .i64 xd, .int .i64 xa, .int .i64 xb, .slice px nx cx]] w fun e w' => e = .returned (.bool (decide (doP nf nb ⟨10, id, ia, ib, inn, iff, al, il1, il2⟩ ⟨1, xt, xd, xa, xb, xl⟩))) ∧ Below w.heap.size w w' := by
  obtain ⟨k, rfl⟩ : ∃ k : Nat, xt = k := ⟨xt.toNat, by omega⟩
  simp only [Int.toNat_natCast] at i0 i1 i2 i3 i4 i5 i6 i7 i8
  have hkl : k < ni := by omega
  have hat' := hat
  subst hpi hxl hal
  have g1 := World.block_lt_of_cell? _ _ i0
  have g2 := World.block_lt_of_cell? _ _ k3
  have g3 := World.block_lt_of_cell? _ _ kb
  have g4 := World.block_lt_of_cell? _ _ k4
  have HD := ahid ((decide_eq_true_iff (p := doP nf nb ⟨10, id, ia, ib, inn, iff, al, il1, il2⟩ ⟨1, k, xd, xa, xb, xl⟩)).trans (doP_10 nf nb id ia ib inn iff il1 il2 k xd xa xb al xl))
  generalize decide (doP nf nb ⟨10, id, ia, ib, inn, iff, al, il1, il2⟩ ⟨1, k, xd, xa, xb, xl⟩) = B at HD ⊢
  have HNO : Hid (∀ w', Below w.heap.size w w' → B = false → Ending.returned (.bool false) = .returned (.bool B) ∧ Below w.heap.size w w') := ahid fun w' hb hB => ⟨by rw [hB], hb⟩
  go_enter Tryd.func51, Tryd.ntmps51
  go_wp2_with fail
  refine (within_any _ _ _).mono ?_
  rintro e w' ⟨rfl, rfl⟩
  rw [decide_eq_true hat']
  go_wp2_with fail
  obtain ⟨W3, hW3⟩ : ∃ W3, W3 = (((w.alloc (.cells #[.string nm, .slice (some ⟨bi, oi, none⟩) ni ci] 76)).alloc (.cells #[.int .u8 1, .int .i64 k, .int .i64 xd, .int .i64 xa, .int .i64 xb, .slice px xl.length cx] 41)).alloc (.cells #[.int .u8 10, .int .i64 id, .int .i64 ia, .int .i64 ib, .int .u32 inn, .int .i64 iff, .slice pa al.length ca, .int .i64 il1, .int .i64 il2] 73)) := ⟨_, rfl⟩
  have hb3 : Below w.heap.size w W3 := by rw [hW3]; exact (((Below.refl _ w).alloc (Nat.le_refl _) _).alloc (by simp [go_sem]) _).alloc (by simp [go_sem]; omega) _
  have x0 : W3.cell? ⟨w.heap.size + 1 + 1, 0, none⟩ = some (.int .u8 10) := by rw [hW3]; simp [go_sem]
  have x4 : W3.cell? ⟨w.heap.size + 1 + 1, 4, none⟩ = some (.int .u32 inn) := by rw [hW3]; simp [go_sem]
  have x5 : W3.cell? ⟨w.heap.size + 1 + 1, 5, none⟩ = some (.int .i64 iff) := by rw [hW3]; simp [go_sem]
  have x6 : W3.cell? ⟨w.heap.size + 1 + 1, 6, none⟩ = some (.slice pa al.length ca) := by rw [hW3]; simp [go_sem]
  have x7 : W3.cell? ⟨w.heap.size + 1 + 1, 7, none⟩ = some (.int .i64 il1) := by rw [hW3]; simp [go_sem]
  have x8 : W3.cell? ⟨w.heap.size + 1 + 1, 8, none⟩ = some (.int .i64 il2) := by rw [hW3]; simp [go_sem]
  have y2 : W3.cell? ⟨w.heap.size + 1, 2, none⟩ = some (.int .i64 xd) := by rw [hW3]; simp [go_sem]
  have y3 : W3.cell? ⟨w.heap.size + 1, 3, none⟩ = some (.int .i64 xa) := by rw [hW3]; simp [go_sem]
  have y4 : W3.cell? ⟨w.heap.size + 1, 4, none⟩ = some (.int .i64 xb) := by rw [hW3]; simp [go_sem]
  have y5 : W3.cell? ⟨w.heap.size + 1, 5, none⟩ = some (.slice px xl.length cx) := by rw [hW3]; simp [go_sem]
  rw [← hW3]
  clear hW3
  refine (has_10 W3).mono ?_
  rintro e w2 ⟨rfl, hb4⟩
  replace x0 := (hb4.cell (World.block_lt_of_cell? _ _ x0)).trans x0
  replace x4 := (hb4.cell (World.block_lt_of_cell? _ _ x4)).trans x4
  replace x5 := (hb4.cell (World.block_lt_of_cell? _ _ x5)).trans x5
  replace x6 := (hb4.cell (World.block_lt_of_cell? _ _ x6)).trans x6
  replace x7 := (hb4.cell (World.block_lt_of_cell? _ _ x7)).trans x7
  replace x8 := (hb4.cell (World.block_lt_of_cell? _ _ x8)).trans x8
  replace y2 := (hb4.cell (World.block_lt_of_cell? _ _ y2)).trans y2
  replace y3 := (hb4.cell (World.block_lt_of_cell? _ _ y3)).trans y3
  replace y4 := (hb4.cell (World.block_lt_of_cell? _ _ y4)).trans y4
  replace y5 := (hb4.cell (World.block_lt_of_cell? _ _ y5)).trans y5
  have hb5 : Below w.heap.size w w2 := hb3.trans (hb4.mono hb3.size)
  replace k3 := (hb5.cell g2).trans k3
  replace k4 := (hb5.cell g4).trans k4
  replace kb := (hb5.cell g3).trans kb
  have HX := ahid (hx.keep fun _ _ _ _ hh => hh.keep hb5)
  have HB5 := ahid hb5
  have HBN := ahid (fun n => (⟨hb5.os, hb5.tape, hb5.output, hb5.size, hb5.block⟩ : Below w.heap.size w (w2.drewN n)))
  clear hb3 hb4 hb5 i0 i1 i2 i3 i4 i5 i6 i7 i8 hx g1 g2 g3 g4
  by_cases hlen : xl.length = al.length
  rotate_left
  · have hne : ((xl.length : Int) != (al.length : Int)) = true := by simp; omega
    go_wp2_with fail
    rw [show (bits BinOp.and IntKind.i64 2 4 != 0) = false from by decide]
    refine (reg_any xd false w2).mono ?_
    rintro e w' ⟨rfl, rfl⟩
    by_cases r1 : regP xd (false = true)
    rotate_left
    · rw [decide_eq_false r1]
      go_wp2_with fail
      go_ret
      exact HNO.out _ (by first | exact HB5.out | exact HBN.out _) (Bool.eq_false_iff.2 fun h => r1 ((HD.out.1 h).1))
    rw [decide_eq_true r1]
    go_wp2_with fail
    rw [show (bits BinOp.and IntKind.i64 2 2 != 0) = true from by decide]
    refine (reg_any xa true w2).mono ?_
    rintro e w' ⟨rfl, rfl⟩
    by_cases r2 : regP xa (true = true)
    rotate_left
    · rw [decide_eq_false r2]
      go_wp2_with fail
      go_ret
      exact HNO.out _ (by first | exact HB5.out | exact HBN.out _) (Bool.eq_false_iff.2 fun h => r2 ((HD.out.1 h).2.1))
    rw [decide_eq_true r2]
    go_wp2_with fail
    rw [show (bits BinOp.and IntKind.i64 2 1 != 0) = false from by decide]
    refine (reg_any xb false w2).mono ?_
    rintro e w' ⟨rfl, rfl⟩
    by_cases r3 : regP xb (false = true)
    rotate_left
    · rw [decide_eq_false r3]
      go_wp2_with fail
      go_ret
      exact HNO.out _ (by first | exact HB5.out | exact HBN.out _) (Bool.eq_false_iff.2 fun h => r3 ((HD.out.1 h).2.2.1))
    rw [decide_eq_true r3]
    go_wp2_with fail
    go_ret
    exact HNO.out _ (by first | exact HB5.out | exact HBN.out _) (Bool.eq_false_iff.2 fun h => hlen ((HD.out.1 h).2.2.2.1))
  have hne : ((xl.length : Int) != (al.length : Int)) = false := by simp; omega
  have HL := ahid hlen
  clear hlen
  go_wp2_with fail
  rw [show (bits BinOp.and IntKind.i64 2 4 != 0) = false from by decide]
  refine (reg_any xd false w2).mono ?_
  rintro e w' ⟨rfl, rfl⟩
  by_cases r1 : regP xd (false = true)
  rotate_left
  · rw [decide_eq_false r1]
    go_wp2_with fail
    go_ret
    exact HNO.out _ (by first | exact HB5.out | exact HBN.out _) (Bool.eq_false_iff.2 fun h => r1 ((HD.out.1 h).1))
  rw [decide_eq_true r1]
  go_wp2_with fail
  rw [show (bits BinOp.and IntKind.i64 2 2 != 0) = true from by decide]
  refine (reg_any xa true w2).mono ?_
  rintro e w' ⟨rfl, rfl⟩
  by_cases r2 : regP xa (true = true)
  rotate_left
  · rw [decide_eq_false r2]
    go_wp2_with fail
    go_ret
    exact HNO.out _ (by first | exact HB5.out | exact HBN.out _) (Bool.eq_false_iff.2 fun h => r2 ((HD.out.1 h).2.1))
  rw [decide_eq_true r2]
  go_wp2_with fail
  rw [show (bits BinOp.and IntKind.i64 2 1 != 0) = false from by decide]
  refine (reg_any xb false w2).mono ?_
  rintro e w' ⟨rfl, rfl⟩
  by_cases r3 : regP xb (false = true)
  rotate_left
  · rw [decide_eq_false r3]
    go_wp2_with fail
    go_ret
    exact HNO.out _ (by first | exact HB5.out | exact HBN.out _) (Bool.eq_false_iff.2 fun h => r3 ((HD.out.1 h).2.2.1))
  rw [decide_eq_true r3]
  go_wp2_with fail
  refine (contains_reg w2 _ xl HX.out).mono ?_
  rintro e w' ⟨rfl, rfl⟩
  cases hany : xl.any badReg with
  | true =>
    go_wp2_with fail
    go_ret
    exact HNO.out _ (by first | exact HB5.out | exact HBN.out _) (Bool.eq_false_iff.2 fun h => by have hh := (HD.out.1 h).2.2.2.2.1; rw [hany] at hh; cases hh)
  | false =>
    have hf0 : (0 : Int) ≤ (f : Int) := by omega
    have hf1 : (f : Int) < (nf : Int) := by omega
    go_wp2_with fail
    go_quiet (fail)
    go_wp2_with fail
    go_ret
    exact ⟨congrArg (fun b => Ending.returned (.bool b)) (Bool.eq_iff_iff.2 (by rw [HD.out]; exact ⟨fun h => ⟨r1, r2, r3, HL.out, hany, trivial⟩, fun h => rfl⟩)), (by first | exact HB5.out | exact HBN.out _)⟩
end Go.Proofs.YtfbbodaapkfbdaaDoor
