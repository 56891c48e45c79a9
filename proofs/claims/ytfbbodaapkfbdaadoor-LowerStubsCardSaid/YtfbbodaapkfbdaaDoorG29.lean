/- Several texts in one: LowMayAny, LowAll, LowAllAny. -/
import Derived.Test.YtfbbodaapkfbdaaDoorG28
/- Walks of the package lower: may, of every cell. -/
namespace Go.Proofs.YtfbbodaapkfbdaaDoor
open Go.RowKit
set_option linter.unusedVariables false
set_option linter.unusedSimpArgs false
theorem RowIn.in {α : Type} {At : World → Nat → Nat → α → Prop} {size bytes : Nat} {w : World} {p : Option Addr} {n c : Nat} {l : List α} (h : RowIn At size bytes w (.slice p n c) l) {k : Nat} {x : α} (hx : l[k]? = some x) : ∃ b o, p = some ⟨b, o, none⟩ ∧ n = l.length ∧ k < l.length ∧ At w b (o + k * size) x := by
  obtain ⟨h1, p', c', b, o, h2, ⟨h3, _⟩, h4⟩ := h
  have hk : k < l.length := (List.getElem?_eq_some_iff.1 hx).1
  injection h2 with e1 e2 e3
  exact ⟨b, o, e1.trans (h3 (by omega)), e2, hk, h4 k x hx⟩
set_option maxRecDepth 100000 in
set_option maxHeartbeats 4000000 in
theorem may_move {g : Nat} {sl : Int} {w : World} (hs : sl < 1000000000000) (h6 : w.cell? ⟨g, 6, none⟩ = some (.int .i64 sl)) {nm : ByteArray} {pi : Option Addr} {ni ci : Nat} {x : Acx} {v : Value} (hv : AcV w v x) (hk : x.kind = 0) :
    Calls Tryd.prog 51 #[.pointer (some ⟨g, 0, none⟩), .agg #[.string nm, .slice pi ni ci], v] w fun e w' => e = .returned (.bool (decide (moveP sl x))) ∧ Below w.heap.size w w' := by
  obtain ⟨px, cx, rfl, hi, hb⟩ := hv
  obtain ⟨xk, xt, xd, xa, xb, xl⟩ := x
  simp only at hk hi hb ⊢
  subst hk
  have hlt := World.block_lt_of_cell? _ _ h6
  obtain ⟨w2, hw2⟩ : ∃ w2, w2 = ((w.alloc (.cells #[.string nm, .slice pi ni ci] 76)).alloc (.cells #[.int .u8 0, .int .i64 xt, .int .i64 xd, .int .i64 xa, .int .i64 xb, .slice px xl.length cx] 41)) := ⟨_, rfl⟩
  have hb2 : Below w.heap.size w w2 := by rw [hw2]; exact ((Below.refl _ w).alloc (Nat.le_refl _) _).alloc (by simp [go_sem]) _
  have HM := ahid (move_any (g := g) (w := w2) (v := .agg #[.int .u8 0, .int .i64 xt, .int .i64 xd, .int .i64 xa, .int .i64 xb, .slice px xl.length cx]) (c := ⟨0, xt, xd, xa, xb, xl⟩) hs ((hb2.cell (p := ⟨g, 6, none⟩) hlt).trans h6) ⟨px, cx, rfl, hi.keep fun _ _ _ _ hh => hh.keep hb2, hb⟩)
  have HB := ahid hb2
  rw [hw2] at HM
  clear hb2 hi hb h6 hlt
  generalize decide (moveP sl ⟨0, xt, xd, xa, xb, xl⟩) = B at HM ⊢
  generalize xl.length = nx at *
  go_enter Tryd.func51, Tryd.ntmps51
  go_wp2_with fail
  refine HM.out.mono ?_
  rintro e w3 ⟨rfl, hb3⟩
  rw [← hw2] at hb3
  have HB3 := ahid (HB.out.trans (hb3.mono HB.out.size))
  clear hb3 hw2
  go_wp2_with fail
  go_ret
  exact ⟨rfl, HB3.out⟩
set_option maxRecDepth 100000 in
set_option maxHeartbeats 4000000 in
theorem may_odd {g : Nat} {w : World} {nm : ByteArray} {pi px : Option Addr} {ni ci nx cx : Nat} {xk xt xd xa xb : Int} (h0 : ¬ xk = 0) (h1 : ¬ xk = 1) :
    Calls Tryd.prog 51 #[.pointer (some ⟨g, 0, none⟩), .agg #[.string nm, .slice pi ni ci], .agg #[.int .u8 xk, .int .i64 xt, .int .i64 xd, .int .i64 xa, .int .i64 xb, .slice px nx cx]] w fun e w' => e = .returned (.bool false) ∧ Below w.heap.size w w' := by
  have HB := ahid (show Below w.heap.size w ((w.alloc (.cells #[.string nm, .slice pi ni ci] 76)).alloc (.cells #[.int .u8 xk, .int .i64 xt, .int .i64 xd, .int .i64 xa, .int .i64 xb, .slice px nx cx] 41)) from ((Below.refl _ w).alloc (Nat.le_refl _) _).alloc (by simp [go_sem]) _)
  have q0 : (xk == 0) = false := by simpa using h0
  have q1 : (xk != 1) = true := by simpa using h1
  go_enter Tryd.func51, Tryd.ntmps51
  go_wp2_with fail
  go_ret
  exact ⟨rfl, HB.out⟩
set_option maxRecDepth 100000 in
set_option maxHeartbeats 4000000 in
theorem may_beyond {g : Nat} {w : World} {nm : ByteArray} {pi px : Option Addr} {ni ci nx cx : Nat} {xt xd xa xb : Int} (h0 : ¬ (0 ≤ xt ∧ xt < ni)) :
    Calls Tryd.prog 51 #[.pointer (some ⟨g, 0, none⟩), .agg #[.string nm, .slice pi ni ci], .agg #[.int .u8 1, .int .i64 xt, .int .i64 xd, .int .i64 xa, .int .i64 xb, .slice px nx cx]] w fun e w' => e = .returned (.bool false) ∧ Below w.heap.size w w' := by
  have HB := ahid (show Below w.heap.size w ((w.alloc (.cells #[.string nm, .slice pi ni ci] 76)).alloc (.cells #[.int .u8 1, .int .i64 xt, .int .i64 xd, .int .i64 xa, .int .i64 xb, .slice px nx cx] 41)) from ((Below.refl _ w).alloc (Nat.le_refl _) _).alloc (by simp [go_sem]) _)
  go_enter Tryd.func51, Tryd.ntmps51
  go_wp2_with fail
  refine (within_any _ _ _).mono ?_
  rintro e w' ⟨rfl, rfl⟩
  rw [decide_eq_false h0]
  go_wp2_with fail
  go_ret
  exact ⟨rfl, HB.out⟩
set_option maxRecDepth 100000 in
set_option maxHeartbeats 4000000 in
theorem may_none {g : Nat} {w : World} {nm : ByteArray} {px pa : Option Addr} {ni ci nx cx na ca bi oi : Nat} {op xt xd xa xb id ia ib inn iff il1 il2 : Int} (hat : 0 ≤ xt ∧ xt < ni) (ho : 10 < op ∧ op < 256)
    (i0 : w.cell? ⟨bi, oi + xt.toNat * 9, none⟩ = some (.int .u8 op)) (i1 : w.cell? ⟨bi, oi + xt.toNat * 9 + 1, none⟩ = some (.int .i64 id)) (i2 : w.cell? ⟨bi, oi + xt.toNat * 9 + 2, none⟩ = some (.int .i64 ia)) (i3 : w.cell? ⟨bi, oi + xt.toNat * 9 + 3, none⟩ = some (.int .i64 ib)) (i4 : w.cell? ⟨bi, oi + xt.toNat * 9 + 4, none⟩ = some (.int .u32 inn)) (i5 : w.cell? ⟨bi, oi + xt.toNat * 9 + 5, none⟩ = some (.int .i64 iff)) (i6 : w.cell? ⟨bi, oi + xt.toNat * 9 + 6, none⟩ = some (.slice pa na ca)) (i7 : w.cell? ⟨bi, oi + xt.toNat * 9 + 7, none⟩ = some (.int .i64 il1)) (i8 : w.cell? ⟨bi, oi + xt.toNat * 9 + 8, none⟩ = some (.int .i64 il2)) :
    Calls Tryd.prog 51 #[.pointer (some ⟨g, 0, none⟩), .agg #[.string nm, .slice (some ⟨bi, oi, none⟩) ni ci], .agg #[.int .u8 1, .int .i64 xt, .int .i64 xd, .int .i64 xa, .int .i64 xb, .slice px nx cx]] w fun e w' => e = .returned (.bool false) ∧ Below w.heap.size w w' := by
  obtain ⟨k, rfl⟩ : ∃ k : Nat, xt = k := ⟨xt.toNat, by omega⟩
  simp only [Int.toNat_natCast] at i0 i1 i2 i3 i4 i5 i6 i7 i8
  have hkl : k < ni := by omega
  have hat' := hat
  have g1 := World.block_lt_of_cell? _ _ i0
  have HH := ahid (fun w' => has_any (op := op) (by omega) (by omega) w')
  have e1 : decide (0 ≤ hasS op) = false := by unfold hasS; rw [if_neg (by omega)]; rfl
  have e2 : max (hasS op) 0 = 0 := by unfold hasS; rw [if_neg (by omega)]; rfl
  rw [e1, e2] at HH
  obtain ⟨W3, hW3⟩ : ∃ W3, W3 = (((w.alloc (.cells #[.string nm, .slice (some ⟨bi, oi, none⟩) ni ci] 76)).alloc (.cells #[.int .u8 1, .int .i64 k, .int .i64 xd, .int .i64 xa, .int .i64 xb, .slice px nx cx] 41)).alloc (.cells #[.int .u8 op, .int .i64 id, .int .i64 ia, .int .i64 ib, .int .u32 inn, .int .i64 iff, .slice pa na ca, .int .i64 il1, .int .i64 il2] 73)) := ⟨_, rfl⟩
  have HB3 := ahid (show Below w.heap.size w W3 by rw [hW3]; exact (((Below.refl _ w).alloc (Nat.le_refl _) _).alloc (by simp [go_sem]) _).alloc (by simp [go_sem]; omega) _)
  clear e1 e2 ho
  go_enter Tryd.func51, Tryd.ntmps51
  go_wp2_with fail
  refine (within_any _ _ _).mono ?_
  rintro e w' ⟨rfl, rfl⟩
  rw [decide_eq_true hat']
  go_wp2_with fail
  rw [← hW3]
  refine (HH.out W3).mono ?_
  rintro e w2 ⟨rfl, hb4⟩
  have HB4 := ahid (HB3.out.trans (hb4.mono HB3.out.size))
  clear hb4 hW3
  go_wp2_with fail
  go_ret
  exact ⟨rfl, HB4.out⟩
/-- May a cell be. -/
theorem lmay_any {g f : Nat} {sl : Int} {w : World} (hs : sl < 1000000000000) {pf : Option Addr} {nf cf : Nat} {fs : List Fnx} (k3 : w.cell? ⟨g, 3, none⟩ = some (.slice pf nf cf)) (k4 : w.cell? ⟨g, 4, none⟩ = some (.int .i64 f)) (k6 : w.cell? ⟨g, 6, none⟩ = some (.int .i64 sl)) (hF : FnsIn w (.slice pf nf cf) fs) {fn : Fnx} (hf : fs[f]? = some fn)
    {nm : ByteArray} {vi : Value} {l : List Insx} (hl : InsxIn w vi l) {x : Acx} {v : Value} (hv : AcV w v x) :
    Calls Tryd.prog 51 #[.pointer (some ⟨g, 0, none⟩), .agg #[.string nm, vi], v] w fun e w' => e = .returned (.bool (cellB fs.length fn.blocks.length sl l x)) ∧ Below w.heap.size w w' := by
  obtain ⟨pi, ci, rfl⟩ := hl.shape
  unfold cellB
  by_cases q0 : x.kind = 0
  · rw [if_pos q0]
    exact may_move hs k6 hv q0
  rw [if_neg q0]
  obtain ⟨px, cx, rfl, hi, hb⟩ := hv
  by_cases q1 : x.kind = 1
  rotate_left
  · rw [if_neg q1]
    exact may_odd q0 q1
  rw [if_pos q1]
  obtain ⟨xk, xt, xd, xa, xb, xl⟩ := x
  simp only at q0 q1 hi hb ⊢
  subst q1
  unfold insAtS
  by_cases q2 : 0 ≤ xt ∧ xt < l.length
  rotate_left
  · have e : (if 0 ≤ xt then l[xt.toNat]? else none) = none := by
      by_cases q3 : 0 ≤ xt
      · rw [if_pos q3]; exact List.getElem?_eq_none (by omega)
      · rw [if_neg q3]
    rw [e]
    exact may_beyond q2
  have hk : l[xt.toNat]? = some l[xt.toNat] := List.getElem?_eq_getElem (by omega)
  rw [if_pos q2.1, hk]
  simp only
  obtain ⟨bi, oi, hpi, -, -, ha⟩ := hl.in hk
  generalize l[xt.toNat] = y at ha
  subst hpi
  obtain ⟨bf, of, rfl, hnf, hfl, hfa⟩ := hF.in hf
  subst hnf
  obtain ⟨i0, i1, i2, i3, i4, i5, ⟨vv, i6, hargs⟩, i7, i8, hbd⟩ := ha
  obtain ⟨pa, ca, rfl⟩ := hargs.shape
  obtain ⟨vb, kb, hbk⟩ := hfa.c3
  obtain ⟨pb, cb, rfl⟩ := hbk.shape
  obtain ⟨op, id, ia, ib, inn, iff, al, il1, il2⟩ := y
  have hop := hbd.1
  simp only at i0 i1 i2 i3 i4 i5 i6 i7 i8 hop
  by_cases q4 : op ≤ 10
  · have hc : op = 0 ∨ op = 1 ∨ op = 2 ∨ op = 3 ∨ op = 4 ∨ op = 5 ∨ op = 6 ∨ op = 7 ∨ op = 8 ∨ op = 9 ∨ op = 10 := by omega
    rcases hc with rfl | rfl | rfl | rfl | rfl | rfl | rfl | rfl | rfl | rfl | rfl
    · exact may_0 (pf := none) k3 k4 hfl kb hi rfl q2 rfl i0 i1 i2 i3 i4 i5 i6 i7 i8 rfl
    · exact may_1 (pf := none) k3 k4 hfl kb hi rfl q2 rfl i0 i1 i2 i3 i4 i5 i6 i7 i8 rfl
    · exact may_2 (pf := none) k3 k4 hfl kb hi rfl q2 rfl i0 i1 i2 i3 i4 i5 i6 i7 i8 rfl
    · exact may_3 (pf := none) k3 k4 hfl kb hi rfl q2 rfl i0 i1 i2 i3 i4 i5 i6 i7 i8 rfl
    · exact may_4 (pf := none) k3 k4 hfl kb hi rfl q2 rfl i0 i1 i2 i3 i4 i5 i6 i7 i8 rfl
    · exact may_5 (pf := none) k3 k4 hfl kb hi rfl q2 rfl i0 i1 i2 i3 i4 i5 i6 i7 i8 rfl
    · exact may_6 (pf := none) k3 k4 hfl kb hi rfl q2 rfl i0 i1 i2 i3 i4 i5 i6 i7 i8 rfl
    · exact may_7 (pf := none) k3 k4 hfl kb hi rfl q2 rfl i0 i1 i2 i3 i4 i5 i6 i7 i8 rfl
    · exact may_8 (pf := none) k3 k4 hfl kb hi rfl q2 rfl i0 i1 i2 i3 i4 i5 i6 i7 i8 rfl
    · exact may_9 (pf := none) k3 k4 hfl kb hi rfl q2 rfl i0 i1 i2 i3 i4 i5 i6 i7 i8 rfl
    · exact may_10 (pf := none) k3 k4 hfl kb hi rfl q2 rfl i0 i1 i2 i3 i4 i5 i6 i7 i8 rfl
  · have e : decide (doP fs.length fn.blocks.length ⟨op, id, ia, ib, inn, iff, al, il1, il2⟩ ⟨1, xt, xd, xa, xb, xl⟩) = false := by
      refine decide_eq_false (fun h => ?_)
      have h1 := h.1
      unfold hasS at h1
      simp only at h1
      rw [if_neg (by omega)] at h1
      omega
    rw [e]
    exact may_none q2 ⟨by omega, hop.2⟩ i0 i1 i2 i3 i4 i5 i6 i7 i8
end Go.Proofs.YtfbbodaapkfbdaaDoor
/- Walks of the package lower: all. -/
namespace Go.Proofs.YtfbbodaapkfbdaaDoor
open Go.RowKit
set_option linter.unusedVariables false
set_option linter.unusedSimpArgs false
theorem blocksB_iff (nf nb : Nat) (sl : Int) (bs : List Blk) (ls : List (List Acx)) : blocksB nf nb sl bs ls = true ↔ bs.length = ls.length ∧ ∀ (j : Nat) (b : Blk) (l : List Acx), bs[j]? = some b → ls[j]? = some l → l.all (cellB nf nb sl b.ins) = true := by
  induction bs generalizing ls with
  | nil => cases ls with
    | nil => simp [blocksB]
    | cons l ls => simp [blocksB]
  | cons b bs ih => cases ls with
    | nil => simp [blocksB]
    | cons l ls =>
      simp only [blocksB, Bool.and_eq_true, ih, List.length_cons, Nat.add_right_cancel_iff]
      constructor
      · rintro ⟨h1, h2, h3⟩
        refine ⟨h2, fun j b' l' hb hl => ?_⟩
        cases j with
        | zero => simp at hb hl; subst hb hl; exact h1
        | succ j => exact h3 j b' l' (by simpa using hb) (by simpa using hl)
      · rintro ⟨h1, h2⟩
        exact ⟨h2 0 b l rfl rfl, h1, fun j b' l' hb hl => h2 (j + 1) b' l' (by simpa using hb) (by simpa using hl)⟩
set_option maxRecDepth 100000 in
set_option maxHeartbeats 4000000 in
theorem all1_any {g m1 : Nat} {sl : Int} {w : World} (hs : sl < 1000000000000) (c1 : w.cell? ⟨m1, 0, none⟩ = some (.pointer (some ⟨g, 0, none⟩))) (k6 : w.cell? ⟨g, 6, none⟩ = some (.int .i64 sl)) {x : Acx} {v : Value} (hv : AcV w v x) :
    Calls Tryd.prog 48 #[v, .pointer (some ⟨m1, 0, none⟩)] w fun e w' => e = .returned (.bool (!decide (x.kind = 0 ∧ moveP sl x))) ∧ Below w.heap.size w w' := by
  obtain ⟨px, cx, rfl, hi, hb⟩ := hv
  obtain ⟨xk, xt, xd, xa, xb, xl⟩ := x
  simp only at hi hb ⊢
  have hlt := World.block_lt_of_cell? _ _ k6
  have hlt1 := World.block_lt_of_cell? _ _ c1
  obtain ⟨w2, hw2⟩ : ∃ w2, w2 = (w.alloc (.cells #[.int .u8 xk, .int .i64 xt, .int .i64 xd, .int .i64 xa, .int .i64 xb, .slice px xl.length cx] 41)) := ⟨_, rfl⟩
  have hb2 : Below w.heap.size w w2 := by rw [hw2]; exact (Below.refl _ w).alloc (Nat.le_refl _) _
  have HM := ahid (move_any (g := g) (w := w2) (v := .agg #[.int .u8 xk, .int .i64 xt, .int .i64 xd, .int .i64 xa, .int .i64 xb, .slice px xl.length cx]) (c := ⟨xk, xt, xd, xa, xb, xl⟩) hs ((hb2.cell (p := ⟨g, 6, none⟩) hlt).trans k6) ⟨px, cx, rfl, hi.keep fun _ _ _ _ hh => hh.keep hb2, hb⟩)
  have HB := ahid hb2
  have c2 := (hb2.cell (p := ⟨m1, 0, none⟩) hlt1).trans c1
  rw [hw2] at HM c2
  clear hb2 hi hb k6 hlt c1 hlt1
  by_cases hk : xk = 0
  · subst hk
    have e : (!decide ((0 : Int) = 0 ∧ moveP sl ⟨0, xt, xd, xa, xb, xl⟩)) = !decide (moveP sl ⟨0, xt, xd, xa, xb, xl⟩) := by simp
    rw [e]
    generalize decide (moveP sl ⟨0, xt, xd, xa, xb, xl⟩) = B at HM ⊢
    clear e
    generalize xl.length = nx at *
    go_enter Tryd.func48, Tryd.ntmps48
    go_wp2_with fail
    refine HM.out.mono ?_
    rintro e w3 ⟨rfl, hb3⟩
    rw [← hw2] at hb3
    have HB3 := ahid (HB.out.trans (hb3.mono HB.out.size))
    clear hb3 hw2 c2
    go_wp2_with fail
    go_ret
    exact ⟨rfl, HB3.out⟩
  · have e : (!decide (xk = 0 ∧ moveP sl ⟨xk, xt, xd, xa, xb, xl⟩)) = true := by simp [hk]
    rw [e]
    clear HM e
    have q : (xk != 0) = true := by simpa using hk
    generalize xl.length = nx at *
    go_enter Tryd.func48, Tryd.ntmps48
    go_wp2_with fail
    go_ret
    rw [hw2] at HB
    exact ⟨rfl, HB.out⟩
set_option maxRecDepth 100000 in
set_option maxHeartbeats 4000000 in
theorem all2_any {g f m1 m2 b : Nat} {sl : Int} {w : World} (hs : sl < 1000000000000) {pf : Option Addr} {nf cf : Nat} {fs : List Fnx} (k3 : w.cell? ⟨g, 3, none⟩ = some (.slice pf nf cf)) (k4 : w.cell? ⟨g, 4, none⟩ = some (.int .i64 f)) (k6 : w.cell? ⟨g, 6, none⟩ = some (.int .i64 sl)) (hF : FnsIn w (.slice pf nf cf) fs) {fn : Fnx} (hf : fs[f]? = some fn)
    (c1 : w.cell? ⟨m1, 0, none⟩ = some (.pointer (some ⟨g, 0, none⟩))) (c2 : w.cell? ⟨m2, 0, none⟩ = some (.int .i64 b)) {bk : Blk} (hb : fn.blocks[b]? = some bk) {x : Acx} {v : Value} (hv : AcV w v x) :
    Calls Tryd.prog 50 #[v, .pointer (some ⟨m1, 0, none⟩), .pointer (some ⟨m2, 0, none⟩)] w fun e w' => e = .returned (.bool (!cellB fs.length fn.blocks.length sl bk.ins x)) ∧ Below w.heap.size w w' := by
  obtain ⟨px, cx, rfl, hi, hbd⟩ := hv
  obtain ⟨bf, of, rfl, hnf, hfl, hfa⟩ := hF.in hf
  obtain ⟨vb, kb, hbk⟩ := hfa.c3
  obtain ⟨pb, cb, rfl⟩ := hbk.shape
  obtain ⟨bb, ob, rfl, -, hbl, hba⟩ := hbk.in hb
  have kn := hba.c0
  obtain ⟨vi, ki, hins⟩ := hba.c1
  obtain ⟨pi, ci, rfl⟩ := hins.shape
  obtain ⟨w2, hw2⟩ : ∃ w2, w2 = (w.alloc (.cells #[.int .u8 x.kind, .int .i64 x.at', .int .i64 x.d, .int .i64 x.a, .int .i64 x.b, .slice px x.args.length cx] 41)) := ⟨_, rfl⟩
  have hb2 : Below w.heap.size w w2 := by rw [hw2]; exact (Below.refl _ w).alloc (Nat.le_refl _) _
  have y0 : w2.cell? ⟨w.heap.size, 0, none⟩ = some (.int .u8 x.kind) := by rw [hw2]; simp [go_sem]
  have y1 : w2.cell? ⟨w.heap.size, 1, none⟩ = some (.int .i64 x.at') := by rw [hw2]; simp [go_sem]
  have y2 : w2.cell? ⟨w.heap.size, 2, none⟩ = some (.int .i64 x.d) := by rw [hw2]; simp [go_sem]
  have y3 : w2.cell? ⟨w.heap.size, 3, none⟩ = some (.int .i64 x.a) := by rw [hw2]; simp [go_sem]
  have y4 : w2.cell? ⟨w.heap.size, 4, none⟩ = some (.int .i64 x.b) := by rw [hw2]; simp [go_sem]
  have y5 : w2.cell? ⟨w.heap.size, 5, none⟩ = some (.slice px x.args.length cx) := by rw [hw2]; simp [go_sem]
  replace k3 := (hb2.cell (World.block_lt_of_cell? _ _ k3)).trans k3
  replace k4 := (hb2.cell (World.block_lt_of_cell? _ _ k4)).trans k4
  replace k6 := (hb2.cell (World.block_lt_of_cell? _ _ k6)).trans k6
  replace kb := (hb2.cell (World.block_lt_of_cell? _ _ kb)).trans kb
  replace kn := (hb2.cell (World.block_lt_of_cell? _ _ kn)).trans kn
  replace ki := (hb2.cell (World.block_lt_of_cell? _ _ ki)).trans ki
  replace c1 := (hb2.cell (World.block_lt_of_cell? _ _ c1)).trans c1
  replace c2 := (hb2.cell (World.block_lt_of_cell? _ _ c2)).trans c2
  have HM := ahid (fun w' (hd : Below w2.heap.size w2 w') => lmay_any (g := g) (f := f) (w := w') (nm := bk.name) (v := .agg #[.int .u8 x.kind, .int .i64 x.at', .int .i64 x.d, .int .i64 x.a, .int .i64 x.b, .slice px x.args.length cx]) (x := x) hs ((hd.cell (World.block_lt_of_cell? _ _ k3)).trans k3) ((hd.cell (World.block_lt_of_cell? _ _ k4)).trans k4) ((hd.cell (World.block_lt_of_cell? _ _ k6)).trans k6) ((hF.keep fun _ _ _ _ hh => hh.keep hb2).keep fun _ _ _ _ hh => hh.keep hd) hf ((hins.keep fun _ _ _ _ hh => hh.keep hb2).keep fun _ _ _ _ hh => hh.keep hd) ⟨px, cx, rfl, (hi.keep fun _ _ _ _ hh => hh.keep hb2).keep fun _ _ _ _ hh => hh.keep hd, hbd⟩)
  have HB := ahid hb2
  have hfl' : (f : Int) < (nf : Int) := by omega
  have hbl' : (b : Int) < (fn.blocks.length : Int) := by omega
  have hf0 : (0 : Int) ≤ (f : Int) := by omega
  have hb0 : (0 : Int) ≤ (b : Int) := by omega
  have hfl2 : f < nf := by omega
  clear hF hf hfa hbk hb hba hins hi hbd hb2 hnf hfl
  generalize cellB fs.length fn.blocks.length sl bk.ins x = B at HM ⊢
  generalize fn.blocks.length = nb at *
  generalize bk.ins.length = ni at *
  generalize bk.name = nm at *
  generalize x.args.length = nx at *
  generalize x.kind = xk at *
  generalize x.at' = xt at *
  generalize x.d = xd at *
  generalize x.a = xa at *
  generalize x.b = xb at *
  go_enter Tryd.func50, Tryd.ntmps50
  go_wp2_with fail
  rw [← hw2]
  clear hw2
  have HS := ahid (show ∀ w', Below w2.heap.size w2 w' → w'.cell? ⟨m1, 0, none⟩ = some (.pointer (some ⟨g, 0, none⟩)) ∧ w'.cell? ⟨g, 3, none⟩ = some (.slice (some ⟨bf, of, none⟩) nf cf) ∧ w'.cell? ⟨g, 4, none⟩ = some (.int .i64 f) ∧ w'.cell? ⟨bf, of + f * 4 + 3, none⟩ = some (.slice (some ⟨bb, ob, none⟩) nb cb) ∧ w'.cell? ⟨m2, 0, none⟩ = some (.int .i64 b) ∧ w'.cell? ⟨bb, ob + b * 2, none⟩ = some (.string nm) ∧ w'.cell? ⟨bb, ob + b * 2 + 1, none⟩ = some (.slice pi ni ci) ∧ w'.cell? ⟨w.heap.size, 0, none⟩ = some (.int .u8 xk) ∧ w'.cell? ⟨w.heap.size, 1, none⟩ = some (.int .i64 xt) ∧ w'.cell? ⟨w.heap.size, 2, none⟩ = some (.int .i64 xd) ∧ w'.cell? ⟨w.heap.size, 3, none⟩ = some (.int .i64 xa) ∧ w'.cell? ⟨w.heap.size, 4, none⟩ = some (.int .i64 xb) ∧ w'.cell? ⟨w.heap.size, 5, none⟩ = some (.slice px nx cx) from fun w' hd =>
    have z {p : Addr} {u : Value} (e : w2.cell? p = some u) : w'.cell? p = some u := (hd.cell (World.block_lt_of_cell? _ _ e)).trans e
    ⟨z c1, z k3, z k4, z kb, z c2, z kn, z ki, z y0, z y1, z y2, z y3, z y4, z y5⟩)
  go_region_held3 (fun w' => w'.cell? ⟨m1, 0, none⟩ = some (.pointer (some ⟨g, 0, none⟩)) ∧ w'.cell? ⟨g, 3, none⟩ = some (.slice (some ⟨bf, of, none⟩) nf cf) ∧ w'.cell? ⟨g, 4, none⟩ = some (.int .i64 f) ∧ w'.cell? ⟨bf, of + f * 4 + 3, none⟩ = some (.slice (some ⟨bb, ob, none⟩) nb cb) ∧ w'.cell? ⟨m2, 0, none⟩ = some (.int .i64 b) ∧ w'.cell? ⟨bb, ob + b * 2, none⟩ = some (.string nm) ∧ w'.cell? ⟨bb, ob + b * 2 + 1, none⟩ = some (.slice pi ni ci) ∧ w'.cell? ⟨w.heap.size, 0, none⟩ = some (.int .u8 xk) ∧ w'.cell? ⟨w.heap.size, 1, none⟩ = some (.int .i64 xt) ∧ w'.cell? ⟨w.heap.size, 2, none⟩ = some (.int .i64 xd) ∧ w'.cell? ⟨w.heap.size, 3, none⟩ = some (.int .i64 xa) ∧ w'.cell? ⟨w.heap.size, 4, none⟩ = some (.int .i64 xb) ∧ w'.cell? ⟨w.heap.size, 5, none⟩ = some (.slice px nx cx))
    (first | (with_reducible exact HS.out _ (Below.refl _ _)) | (with_reducible exact HS.out _ hb3) | (refine HS.out _ ?_; go_grown; done))
    (first | (go_at_call 51; (with_reducible refine (HM.out _ ((Below.refl w2.heap.size w2).drew)).mono ?_); rintro e W3 ⟨rfl, hb30⟩; have hb3 : Below w2.heap.size w2 W3 := ((Below.refl w2.heap.size w2).drew).trans hb30))
  have HB3 := ahid (HB.out.trans (hb3.mono HB.out.size))
  clear hb3 hb30
  go_wp2_with fail
  go_ret
  exact ⟨rfl, HB3.out⟩
end Go.Proofs.YtfbbodaapkfbdaaDoor
/- Walks of the package lower: all, whole. -/
namespace Go.Proofs.YtfbbodaapkfbdaaDoor
open Go.RowKit
set_option linter.unusedVariables false
set_option linter.unusedSimpArgs false
theorem ldrewN {B : Nat} {a w : World} (h : Below B a w) (n : Nat) : Below B a (w.drewN n) := ⟨h.os, h.tape, h.output, h.size, h.block⟩
theorem within_quiet (f n : Int) {b : Bool} (hb : decide (0 ≤ f ∧ f < n) = b) (w : World) (m : Nat) : Calls Tryd.prog 34 #[.int .i64 f, .int .i64 n] (w.drewN m) fun e w' => e = .returned (.bool b) ∧ ∃ q, w' = w.drewN q :=
  (within_any f n (w.drewN m)).mono fun e w' ⟨h1, h2⟩ => ⟨by rw [h1, hb], m, h2.symm⟩
set_option maxRecDepth 100000 in
set_option maxHeartbeats 4000000 in
theorem all_far {g : Nat} {f : Int} {w : World} {pf : Option Addr} {nf cf : Nat} (k3 : w.cell? ⟨g, 3, none⟩ = some (.slice pf nf cf)) (k4 : w.cell? ⟨g, 4, none⟩ = some (.int .i64 f)) (hf : ¬ (0 ≤ f ∧ f < nf)) :
    Calls Tryd.prog 24 #[.pointer (some ⟨g, 0, none⟩)] w fun e w' => e = .returned (.bool false) ∧ Below w.heap.size w w' := by
  obtain ⟨w1, hw1⟩ : ∃ w1, w1 = w.alloc (.cells #[.pointer (some ⟨g, 0, none⟩)] 82) := ⟨_, rfl⟩
  have hb1 : Below w.heap.size w w1 := by rw [hw1]; exact (Below.refl _ w).alloc (Nat.le_refl _) _
  have c1 : w1.cell? ⟨w.heap.size, 0, none⟩ = some (.pointer (some ⟨g, 0, none⟩)) := by rw [hw1]; simp [go_sem]
  replace k3 := (hb1.cell (World.block_lt_of_cell? _ _ k3)).trans k3
  replace k4 := (hb1.cell (World.block_lt_of_cell? _ _ k4)).trans k4
  have HB := ahid hb1
  have HW := ahid (fun m => within_quiet f nf (decide_eq_false hf) w1 m)
  clear hb1 hf
  go_enter Tryd.func24, Tryd.ntmps24
  go_wp2_with fail
  rw [← hw1]
  clear hw1
  go_quiet ((go_at_call 34; exact HW.out _))
  go_wp2_with fail
  go_ret
  exact ⟨rfl, ldrewN HB.out _⟩
set_option maxRecDepth 100000 in
set_option maxHeartbeats 4000000 in
theorem all_odd {g f : Nat} {w : World} {nf cf nb cb nx cx bf of : Nat} {pb px : Option Addr} (k3 : w.cell? ⟨g, 3, none⟩ = some (.slice (some ⟨bf, of, none⟩) nf cf)) (k4 : w.cell? ⟨g, 4, none⟩ = some (.int .i64 f)) (k8 : w.cell? ⟨g, 8, none⟩ = some (.slice px nx cx)) (kb : w.cell? ⟨bf, of + f * 4 + 3, none⟩ = some (.slice pb nb cb)) (hf : f < nf) (hn : ¬ nx = nb) :
    Calls Tryd.prog 24 #[.pointer (some ⟨g, 0, none⟩)] w fun e w' => e = .returned (.bool false) ∧ Below w.heap.size w w' := by
  obtain ⟨w1, hw1⟩ : ∃ w1, w1 = w.alloc (.cells #[.pointer (some ⟨g, 0, none⟩)] 82) := ⟨_, rfl⟩
  have hb1 : Below w.heap.size w w1 := by rw [hw1]; exact (Below.refl _ w).alloc (Nat.le_refl _) _
  have c1 : w1.cell? ⟨w.heap.size, 0, none⟩ = some (.pointer (some ⟨g, 0, none⟩)) := by rw [hw1]; simp [go_sem]
  replace k3 := (hb1.cell (World.block_lt_of_cell? _ _ k3)).trans k3
  replace k4 := (hb1.cell (World.block_lt_of_cell? _ _ k4)).trans k4
  replace k8 := (hb1.cell (World.block_lt_of_cell? _ _ k8)).trans k8
  replace kb := (hb1.cell (World.block_lt_of_cell? _ _ kb)).trans kb
  have HB := ahid hb1
  have HW := ahid (fun m => within_quiet f nf (decide_eq_true ⟨by omega, by omega⟩) w1 m)
  have hne : ((nx : Int) != (nb : Int)) = true := by simp; omega
  have hf0 : (0 : Int) ≤ (f : Int) := by omega
  have hf1 : (f : Int) < (nf : Int) := by omega
  clear hb1
  go_enter Tryd.func24, Tryd.ntmps24
  go_wp2_with fail
  rw [← hw1]
  clear hw1
  go_quiet ((go_at_call 34; exact HW.out _))
  go_wp2_with fail
  go_ret
  exact ⟨rfl, ldrewN HB.out _⟩
set_option maxRecDepth 100000 in
set_option maxHeartbeats 4000000 in
theorem all_in {g f : Nat} {w : World} {sl : Int} (hs : sl < 1000000000000) {nf cf : Nat} {pf : Option Addr} {vx ve : Value} {fs : List Fnx} {fn : Fnx} (k3 : w.cell? ⟨g, 3, none⟩ = some (.slice pf nf cf)) (k4 : w.cell? ⟨g, 4, none⟩ = some (.int .i64 f)) (k6 : w.cell? ⟨g, 6, none⟩ = some (.int .i64 sl)) (k7 : w.cell? ⟨g, 7, none⟩ = some ve) (k8 : w.cell? ⟨g, 8, none⟩ = some vx)
    (hF : FnsIn w (.slice pf nf cf) fs) (hf : fs[f]? = some fn) {en : List Acx} (hE : AcsIn w ve en) {bl : List (List Acx)} (hB : AbsIn w vx bl) :
    Calls Tryd.prog 24 #[.pointer (some ⟨g, 0, none⟩)] w fun e w' => e = .returned (.bool (en.all (fun c => decide (c.kind = 0 ∧ moveP sl c)) && blocksB fs.length fn.blocks.length sl fn.blocks bl)) ∧ Below w.heap.size w w' := by
  obtain ⟨bf, of, rfl, hnf, hfl, hfa⟩ := hF.in hf
  obtain ⟨vb, kb, hbk⟩ := hfa.c3
  obtain ⟨pb, cb, rfl⟩ := hbk.shape
  obtain ⟨px, cx, rfl⟩ := hB.shape
  obtain ⟨pe, ce, rfl⟩ := hE.shape
  by_cases hn : bl.length = fn.blocks.length
  rotate_left
  · have e : (en.all (fun c => decide (c.kind = 0 ∧ moveP sl c)) && blocksB fs.length fn.blocks.length sl fn.blocks bl) = false := by
      rw [Bool.and_eq_false_iff]
      exact .inr (Bool.eq_false_iff.2 fun h => hn ((blocksB_iff _ _ _ _ _).1 h).1.symm)
    rw [e]
    exact all_odd k3 k4 k8 kb (by omega) hn
  obtain ⟨w1, hw1⟩ : ∃ w1, w1 = w.alloc (.cells #[.pointer (some ⟨g, 0, none⟩)] 82) := ⟨_, rfl⟩
  have hb1 : Below w.heap.size w w1 := by rw [hw1]; exact (Below.refl _ w).alloc (Nat.le_refl _) _
  have c1 : w1.cell? ⟨w.heap.size, 0, none⟩ = some (.pointer (some ⟨g, 0, none⟩)) := by rw [hw1]; simp [go_sem]
  replace k3 := (hb1.cell (World.block_lt_of_cell? _ _ k3)).trans k3
  replace k4 := (hb1.cell (World.block_lt_of_cell? _ _ k4)).trans k4
  replace k6 := (hb1.cell (World.block_lt_of_cell? _ _ k6)).trans k6
  replace k7 := (hb1.cell (World.block_lt_of_cell? _ _ k7)).trans k7
  replace k8 := (hb1.cell (World.block_lt_of_cell? _ _ k8)).trans k8
  replace kb := (hb1.cell (World.block_lt_of_cell? _ _ kb)).trans kb
  replace hF := hF.keep fun _ _ _ _ hh => FnAt.keep hh hb1
  replace hE := hE.keep hb1
  replace hB := hB.keep hb1
  have HW := ahid (fun m => within_quiet f nf (decide_eq_true ⟨by omega, by omega⟩) w1 m)
  have hne : ((bl.length : Int) != (fn.blocks.length : Int)) = false := by simp; omega
  have hf0 : (0 : Int) ≤ (f : Int) := by omega
  have hf1 : (f : Int) < (nf : Int) := by omega
  -- what holds in every world above
  have HU := ahid (show ∀ w', Below w1.heap.size w1 w' → ∀ (k : Nat) (x : Acx), en[k]? = some x → ∀ (w2 : World) (u : Value), Below w'.heap.size w' w2 → AcV w2 u x → Calls Tryd.prog 48 #[u, .pointer (some ⟨w.heap.size, 0, none⟩)] w2 fun e w3 => e = .returned (.bool (!decide (x.kind = 0 ∧ moveP sl x))) ∧ Below w2.heap.size w2 w3 from fun w' hd k x _ w2 u hd2 hu => by
    have hd3 : Below w1.heap.size w1 w2 := hd.trans (hd2.mono hd.size)
    exact all1_any hs ((hd3.cell (p := ⟨w.heap.size, 0, none⟩) (World.block_lt_of_cell? _ _ c1)).trans c1) ((hd3.cell (p := ⟨g, 6, none⟩) (World.block_lt_of_cell? _ _ k6)).trans k6) hu)
  have HC1 := ahid (fun w' (hd : Below w1.heap.size w1 w') => contains_ac1 w' _ en (hE.keep hd) (fun x => !decide (x.kind = 0 ∧ moveP sl x)) (HU.out w' hd))
  have HV := ahid (show ∀ w', Below w1.heap.size w1 w' → ∀ (m2 b : Nat) (bk : Blk), w'.cell? ⟨m2, 0, none⟩ = some (.int .i64 b) → fn.blocks[b]? = some bk → ∀ (l : List Acx) (v : Value), AcsIn w' v l → Calls Tryd.prog 47 #[v, .func (.func 50) #[] #[.pointer (some ⟨w.heap.size, 0, none⟩), .pointer (some ⟨m2, 0, none⟩)]] w' fun e w2 => e = .returned (.bool (l.any (fun x => !cellB fs.length fn.blocks.length sl bk.ins x))) ∧ Below w'.heap.size w' w2 from fun w' hd m2 b bk hm hb l v hv => by
    refine contains_ac2 w' v l hv _ fun k x _ w2 u hd2 hu => ?_
    have hd3 : Below w1.heap.size w1 w2 := hd.trans (hd2.mono hd.size)
    exact all2_any hs ((hd3.cell (p := ⟨g, 3, none⟩) (World.block_lt_of_cell? _ _ k3)).trans k3) ((hd3.cell (p := ⟨g, 4, none⟩) (World.block_lt_of_cell? _ _ k4)).trans k4) ((hd3.cell (p := ⟨g, 6, none⟩) (World.block_lt_of_cell? _ _ k6)).trans k6) (hF.keep fun _ _ _ _ hh => FnAt.keep hh hd3) hf ((hd3.cell (p := ⟨w.heap.size, 0, none⟩) (World.block_lt_of_cell? _ _ c1)).trans c1) ((hd2.cell (World.block_lt_of_cell? _ _ hm)).trans hm) hb hu)
  have HB := ahid hb1
  have HE : Hid (∀ b : Bool, (b = true ↔ (∀ x ∈ en, (x.kind = 0 ∧ moveP sl x)) ∧ blocksB fs.length fn.blocks.length sl fn.blocks bl = true) → (en.all (fun c => decide (c.kind = 0 ∧ moveP sl c)) && blocksB fs.length fn.blocks.length sl fn.blocks bl) = b) := ahid fun b hb => by
    rw [Bool.eq_iff_iff, hb, Bool.and_eq_true, List.all_eq_true]
    simp only [decide_eq_true_iff]
  have HBI := ahid (blocksB_iff fs.length fn.blocks.length sl fn.blocks bl)
  obtain ⟨px', cx', bx, ox, hpx, hlx, HX⟩ := hB.lhids
  injection hpx with e1 _ e3
  subst e1 e3
  generalize (en.all (fun c => decide (c.kind = 0 ∧ moveP sl c)) && blocksB fs.length fn.blocks.length sl fn.blocks bl) = R at HE ⊢
  have HN := ahid hn
  clear hb1 hF hE hB hf hfa hbk hnf hfl hn k6
  go_enter Tryd.func24, Tryd.ntmps24
  go_wp2_with fail
  rw [← hw1]
  clear hw1
  go_quiet ((go_at_call 34; exact HW.out _))
  clear HW
  go_wp2_with fail
  refine (HC1.out _ (ldrewN (Below.refl _ _) _)).mono ?_
  rintro e w3 ⟨rfl, hb3⟩
  have hb4 : Below w1.heap.size w1 w3 := (ldrewN (Below.refl _ w1) _).trans hb3
  replace c1 := (hb4.cell (World.block_lt_of_cell? _ _ c1)).trans c1
  replace k8 := (hb4.cell (World.block_lt_of_cell? _ _ k8)).trans k8
  have HB4 := ahid hb4
  have HAN := ahid (show (en.any fun x => !decide (x.kind = 0 ∧ moveP sl x)) = true ↔ ¬ ∀ x ∈ en, (x.kind = 0 ∧ moveP sl x) by
    rw [List.any_eq_true]
    simp only [Bool.not_eq_true', decide_eq_false_iff_not]
    constructor
    · rintro ⟨x, hx, h⟩ h2; exact h (h2 x hx)
    · intro h
      refine Classical.byContradiction fun h3 => h fun x hx => Classical.byContradiction fun h4 => h3 ⟨x, hx, h4⟩)
  clear hb3 hb4 k3 k4 k7 kb HC1 HU
  generalize (en.any fun x => !decide (x.kind = 0 ∧ moveP sl x)) = A at HAN ⊢
  cases A with
  | true =>
    go_wp2_with fail
    go_ret
    exact ⟨lret_val (congrArg Value.bool (HE.out false ⟨fun h => (by cases h), fun h => absurd h.1 (HAN.out.1 (by trivial))⟩).symm), HB.out.trans (HB4.out.mono HB.out.size)⟩
  | false =>
    have HAL : Hid (∀ x ∈ en, (x.kind = 0 ∧ moveP sl x)) := ahid (Classical.byContradiction fun h => by have := HAN.out.2 h; cases this)
    clear HAN
    go_wp2_with fail
    go_loopw [52] (fun i wr => ∃ k : Nat, k ≤ bl.length ∧ i = .int .i64 k ∧ (∀ (j : Nat) (b : Blk) (l : List Acx), j < k → fn.blocks[j]? = some b → bl[j]? = some l → l.all (cellB fs.length fn.blocks.length sl b.ins) = true) ∧ Below w1.heap.size w1 wr) (fun i _ => bl.length - (intOf i).toNat)
    case atStart => exact ⟨0, Nat.zero_le _, rfl, fun j b l hj => by omega, HB4.out⟩
    case round =>
      obtain ⟨k, hk, rfl, hpre, hbr⟩ := hrel
      have HBR := ahid hbr
      have HPR := ahid hpre
      clear hbr hpre
      by_cases hlt : k < bl.length
      · obtain rfl := HX.out.1 (by omega)
        obtain ⟨v, c5, hv⟩ := (HX.out.2 k bl[k] (List.getElem?_eq_getElem hlt)).keep HBR.out
        rw [Nat.mul_one] at c5
        have hbk : fn.blocks[k]? = some (fn.blocks[k]'(by have := HN.out; omega)) := List.getElem?_eq_getElem _
        have HL := ahid (List.getElem?_eq_getElem hlt)
        have HK := ahid hbk
        clear hbk
        generalize bl[k] = l at c5 hv HL
        generalize fn.blocks[k]'(by have := HN.out; omega) = bk at HK
        obtain ⟨pv, cv, rfl⟩ := hv.shape
        have HVV := ahid hv
        clear hv
        obtain ⟨W2, hW2⟩ : ∃ W2, W2 = ((wr.alloc (.cells #[.int .i64 k] 3)).alloc (.cells #[.slice pv l.length cv] 43)) := ⟨_, rfl⟩
        have hb2 : Below wr.heap.size wr W2 := by rw [hW2]; exact ((Below.refl _ wr).alloc (Nat.le_refl _) _).alloc (by simp [go_sem]) _
        have q2 : W2.cell? ⟨wr.heap.size, 0, none⟩ = some (.int .i64 k) := by rw [hW2]; simp [go_sem]
        have HB2 := ahid (HBR.out.trans (hb2.mono HBR.out.size))
        have HCC := ahid (HV.out W2 HB2.out wr.heap.size k bk q2 HK.out l _ (HVV.out.keep hb2))
        rw [hW2] at HCC
        clear hb2 q2
        have HAY := ahid (show (l.any fun x => !cellB fs.length fn.blocks.length sl bk.ins x) = true ↔ ¬ l.all (cellB fs.length fn.blocks.length sl bk.ins) = true by
          rw [List.any_eq_true, List.all_eq_true]
          constructor
          · rintro ⟨x, hx, h⟩ h2
            rw [h2 x hx] at h; cases h
          · intro h
            refine Classical.byContradiction fun h3 => h fun x hx => Classical.byContradiction fun h4 => h3 ⟨x, hx, by simpa using h4⟩)
        generalize (l.any fun x => !cellB fs.length fn.blocks.length sl bk.ins x) = Y at HAY HCC
        go_wp2_with fail
        refine HCC.out.mono ?_
        rintro e w4 ⟨rfl, hb4⟩
        rw [← hW2] at hb4
        have HB4 := ahid (HB2.out.trans (hb4.mono HB2.out.size))
        clear hb4 hW2 HCC
        cases Y with
        | true =>
          go_wp2_with fail
          go_ret
          exact ⟨lret_val (congrArg Value.bool (HE.out false ⟨fun h => (by cases h), fun h => absurd ((HBI.out.1 h.2).2 k bk l HK.out HL.out) (HAY.out.1 (by trivial))⟩).symm), HB.out.trans (HB4.out.mono HB.out.size)⟩
        | false =>
          have HOK := ahid (Classical.byContradiction fun h => (by have := HAY.out.2 h; cases this) : l.all (cellB fs.length fn.blocks.length sl bk.ins) = true)
          clear HAY
          go_wp2_with fail
          go_round
          case rel => exact ⟨k + 1, by omega, by go_num, fun j b l' hj hb hl => by
            by_cases hjk : j < k
            · exact HPR.out j b l' hjk hb hl
            · obtain rfl : j = k := by omega
              rw [HK.out] at hb
              rw [HL.out] at hl
              injection hb with hb
              injection hl with hl
              subst hb hl
              exact HOK.out, HB4.out⟩
          case measure => simp [intOf]; omega
      · go_wp2_with fail
        go_ret
        exact ⟨lret_val (congrArg Value.bool (HE.out true ⟨fun _ => ⟨HAL.out, HBI.out.2 ⟨HN.out.symm, fun j b l hb hl => HPR.out j b l (by have := (List.getElem?_eq_some_iff.1 hl).1; omega) hb hl⟩⟩, fun _ => rfl⟩).symm), HB.out.trans (HBR.out.mono HB.out.size)⟩
theorem all_any {g : Nat} {f : Int} {w : World} {p : Prg} {x : Afx} (hs : x.slots < 1000000000000) {vf ve vx : Value} (k3 : w.cell? ⟨g, 3, none⟩ = some vf) (k4 : w.cell? ⟨g, 4, none⟩ = some (.int .i64 f)) (k6 : w.cell? ⟨g, 6, none⟩ = some (.int .i64 x.slots)) (k7 : w.cell? ⟨g, 7, none⟩ = some ve) (k8 : w.cell? ⟨g, 8, none⟩ = some vx)
    (hF : FnsIn w vf p.funcs) (hE : AcsIn w ve x.entry) (hB : AbsIn w vx x.blocks) :
    Calls Tryd.prog 24 #[.pointer (some ⟨g, 0, none⟩)] w fun e w' => e = .returned (.bool (lowB p f x)) ∧ Below w.heap.size w w' := by
  obtain ⟨pf, cf, rfl⟩ := hF.shape
  by_cases h0 : 0 ≤ f ∧ f < p.funcs.length
  · obtain ⟨n, rfl⟩ : ∃ n : Nat, f = n := ⟨f.toNat, by omega⟩
    have hn : n < p.funcs.length := by omega
    have e : lowB p n x = (x.entry.all (fun c => decide (c.kind = 0 ∧ moveP x.slots c)) && blocksB p.funcs.length (p.funcs[n]).blocks.length x.slots (p.funcs[n]).blocks x.blocks) := by
      unfold lowB
      simp only [Int.toNat_natCast, List.getElem?_eq_getElem hn]
      rw [decide_eq_true (show (0 : Int) ≤ n by omega), Bool.true_and]
    rw [e]
    exact all_in hs k3 k4 k6 k7 k8 hF (List.getElem?_eq_getElem hn) hE hB
  · have e : lowB p f x = false := by
      unfold lowB
      by_cases h1 : 0 ≤ f
      · rw [List.getElem?_eq_none (by omega)]; simp
      · rw [decide_eq_false h1]; rfl
    rw [e]
    exact all_far k3 k4 h0
end Go.Proofs.YtfbbodaapkfbdaaDoor
