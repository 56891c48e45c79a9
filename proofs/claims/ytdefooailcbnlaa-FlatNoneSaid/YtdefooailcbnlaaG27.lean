/- Several texts in one: FlatIns, FlatOpsB. -/
import Derived.Test.YtdefooailcbnlaaG26
import Derived.IntWalk
import Derived.StillTailTactics
/- Walks of the package flat: top, pop, ins. -/
namespace Go.Proofs.Ytdefooailcbnlaa
open Go.RowKit
set_option linter.unusedVariables false
set_option linter.unusedSimpArgs false
theorem vrow_new (w : World) (cs : Array Value) (t : TypeId) : VRow (w.alloc (.cells cs t)) w.heap.size t cs.toList := ⟨cs, heap_alloc_new w _, fun k x hx => by simpa using hx⟩
theorem top_some (w : World) (tb t g n cap : Nat) (hn : n < 9223372036854775807) (h : w.cell? ⟨tb, t, none⟩ = some (.slice (some ⟨g, 0, none⟩) (n + 1) cap)) :
    Calls Try.prog 32 #[.pointer (some ⟨tb, t, none⟩)] w fun e w' => e = .returned (.pointer (some ⟨g, n * 4, none⟩)) ∧ ∃ q, w' = w.drewN q := by
  have e0 : (((n + 1 : Nat) : Int) == 0) = false := by simp; omega
  have e1 : IntKind.i64.wrap (((n + 1 : Nat) : Int) - 1) = (n : Int) := by rw [IntWalk.i64_in _ (by omega)]; omega
  have e2 : (n : Int) < ((n + 1 : Nat) : Int) := by omega
  go_enter Try.func32, Try.ntmps32
  go_wp2_with fail
  go_quiet (fail)
  go_wp2_with fail
  go_ret
  exact ⟨rfl, _, rfl⟩
theorem top_none (w : World) (tb t : Nat) (a : Option Addr) (cap : Nat) (h : w.cell? ⟨tb, t, none⟩ = some (.slice a 0 cap)) :
    Calls Try.prog 32 #[.pointer (some ⟨tb, t, none⟩)] w fun e w' => e = .returned (.pointer none) ∧ w = w' := by
  go_enter Try.func32, Try.ntmps32
  go_wp2_with fail
  go_ret
  exact ⟨rfl, rfl⟩
theorem pop_some (w : World) (tb t g n cap : Nat) (hn : n < 9223372036854775807) (hcap : n + 1 ≤ cap) (h : w.cell? ⟨tb, t, none⟩ = some (.slice (some ⟨g, 0, none⟩) (n + 1) cap)) (hf : w.frozen? ⟨tb, t, none⟩ = false) :
    Calls Try.prog 72 #[.pointer (some ⟨tb, t, none⟩)] w fun e w' => e = .returned (.tuple #[]) ∧ w' = (w.setCell ⟨tb, t, none⟩ (.slice (some ⟨g, 0, none⟩) n cap)).drew := by
  have e1 : IntKind.i64.wrap (((n + 1 : Nat) : Int) - 1) = (n : Int) := by rw [IntWalk.i64_in _ (by omega)]; omega
  have e2 : (n : Int) ≤ (cap : Int) := by omega
  have e3 : (0 : Int) ≤ (n : Int) := by omega
  go_enter Try.func72, Try.ntmps72
  go_wp2_with fail
  go_region
  all_goals
    go_wp2_with fail
    go_returns
    exact ⟨rfl, rfl⟩
theorem box9 {w W : World} {z : Nat} {t : TypeId} (hW : Below w.heap.size w W) (hz : w.heap.size ≤ z) (h : VRow W z t [.int .u8 0, .int .i64 0, .int .i64 0, .int .i64 0, .int .u32 0, .int .i64 0, .slice none 0 0, .int .i64 0, .int .i64 0]) (u0 u1 u2 u3 u4 u5 u6 u7 u8 : Value) : VRow (((((((((W.setCell ⟨z, 0, none⟩ u0).setCell ⟨z, 1, none⟩ u1).setCell ⟨z, 2, none⟩ u2).setCell ⟨z, 3, none⟩ u3).setCell ⟨z, 4, none⟩ u4).setCell ⟨z, 5, none⟩ u5).setCell ⟨z, 6, none⟩ u6).setCell ⟨z, 7, none⟩ u7).setCell ⟨z, 8, none⟩ u8).drew z t [u0, u1, u2, u3, u4, u5, u6, u7, u8] ∧ Below w.heap.size w (((((((((W.setCell ⟨z, 0, none⟩ u0).setCell ⟨z, 1, none⟩ u1).setCell ⟨z, 2, none⟩ u2).setCell ⟨z, 3, none⟩ u3).setCell ⟨z, 4, none⟩ u4).setCell ⟨z, 5, none⟩ u5).setCell ⟨z, 6, none⟩ u6).setCell ⟨z, 7, none⟩ u7).setCell ⟨z, 8, none⟩ u8).drew := by
  refine ⟨?_, ?_⟩
  · have h9 := (((((((((h.set (k := 0) (by simp) u0).set (k := 1) (by simp) u1).set (k := 2) (by simp) u2).set (k := 3) (by simp) u3).set (k := 4) (by simp) u4).set (k := 5) (by simp) u5).set (k := 6) (by simp) u6).set (k := 7) (by simp) u7).set (k := 8) (by simp) u8)
    simp only [List.set_cons_zero, List.set_cons_succ] at h9
    exact h9.below ((Below.refl _ _).drew)
  · have o9 : Only (fun k => k = z) w (((((((((W.setCell ⟨z, 0, none⟩ u0).setCell ⟨z, 1, none⟩ u1).setCell ⟨z, 2, none⟩ u2).setCell ⟨z, 3, none⟩ u3).setCell ⟨z, 4, none⟩ u4).setCell ⟨z, 5, none⟩ u5).setCell ⟨z, 6, none⟩ u6).setCell ⟨z, 7, none⟩ u7).setCell ⟨z, 8, none⟩ u8) := ((((((((((Only.of_below (S := fun k => k = z) hW).setCell (p := ⟨z, 0, none⟩) rfl u0).setCell (p := ⟨z, 1, none⟩) rfl u1).setCell (p := ⟨z, 2, none⟩) rfl u2).setCell (p := ⟨z, 3, none⟩) rfl u3).setCell (p := ⟨z, 4, none⟩) rfl u4).setCell (p := ⟨z, 5, none⟩) rfl u5).setCell (p := ⟨z, 6, none⟩) rfl u6).setCell (p := ⟨z, 7, none⟩) rfl u7).setCell (p := ⟨z, 8, none⟩) rfl u8)
    exact (o9.below (Nat.le_refl _) (fun k hk e => by omega)).drew
set_option maxRecDepth 100000 in
set_option maxHeartbeats 2000000 in
theorem fins_any (w Wz : World) (hz : ∀ (q : Addr) v, Wz.cell? q = some v → w.cell? q = some v) (m : Nat) (fv : Value) (fs : List Fnx) (hm : w.cell? ⟨m, 2, none⟩ = some fv) (hF : FnsIn Wz fv fs) (g o f b i : Nat) (hc0 : w.cell? ⟨g, o, none⟩ = some (.int .i64 f)) (hc1 : w.cell? ⟨g, o + 1, none⟩ = some (.int .i64 b)) (hc2 : w.cell? ⟨g, o + 2, none⟩ = some (.int .i64 i)) (fn : Fnx) (bk : Blk) (x : Insx) (h1 : fs[f]? = some fn) (h2 : fn.blocks[b]? = some bk) (h3 : bk.ins[i]? = some x) :
    Calls Try.prog 53 #[.pointer (some ⟨m, 0, none⟩), .pointer (some ⟨g, o, none⟩)] w fun e w' => ∃ pa ca, e = .returned (x.agg (.slice pa x.args.length ca)) ∧ IntsIn Wz (.slice pa x.args.length ca) x.args ∧ Below w.heap.size w w' := by
  obtain ⟨_, pf, cf, fb, fo, rfl, ⟨pf1, _⟩, hfn⟩ := hF
  have lf := (List.getElem?_eq_some_iff.1 h1).1
  obtain rfl := pf1 (by omega)
  obtain ⟨d0, d1, d2, ⟨bv, d3, hbv⟩, _, _, _⟩ := hfn f fn h1
  obtain ⟨_, pb, cb, bb, bo, rfl, ⟨pb1, _⟩, hbk⟩ := hbv
  have lb := (List.getElem?_eq_some_iff.1 h2).1
  obtain rfl := pb1 (by omega)
  obtain ⟨e0, ⟨iv, e1, hiv⟩, _⟩ := hbk b bk h2
  obtain ⟨_, pi, ci, ib, io, rfl, ⟨pi1, _⟩, hin⟩ := hiv
  have li := (List.getElem?_eq_some_iff.1 h3).1
  obtain rfl := pi1 (by omega)
  obtain ⟨i0, i1, i2, i3, i4, i5, ⟨av, i6, hav⟩, i7, i8, _⟩ := hin i x h3
  obtain ⟨pa, ca, rfl⟩ := hav.shape
  have HAV := fhid hav
  have l1 : (f : Int) < fs.length := by omega
  have l2 : (b : Int) < fn.blocks.length := by omega
  have l3 : (i : Int) < bk.ins.length := by omega
  have HW := fhid (show Below w.heap.size w (w.alloc (.cells #[.int .u8 0, .int .i64 0, .int .i64 0, .int .i64 0, .int .u32 0, .int .i64 0, .slice none 0 0, .int .i64 0, .int .i64 0] 44)) from (Below.refl _ _).alloc (Nat.le_refl _) _)
  have HZ := fhid (vrow_new w #[.int .u8 0, .int .i64 0, .int .i64 0, .int .i64 0, .int .u32 0, .int .i64 0, .slice none 0 0, .int .i64 0, .int .i64 0] 44)
  have kc : ∀ (q : Addr) v, w.cell? q = some v → (w.alloc (.cells #[.int .u8 0, .int .i64 0, .int .i64 0, .int .i64 0, .int .u32 0, .int .i64 0, .slice none 0 0, .int .i64 0, .int .i64 0] 44)).cell? q = some v := fun q v hq => (HW.out.cell (World.block_lt_of_cell? _ _ hq)).trans hq
  replace hm := kc _ _ hm
  replace hc0 := kc _ _ hc0
  replace hc1 := kc _ _ hc1
  replace hc2 := kc _ _ hc2
  replace d3 := kc _ _ (hz _ _ d3)
  replace e1 := kc _ _ (hz _ _ e1)
  replace i0 := kc _ _ (hz _ _ i0)
  replace i1 := kc _ _ (hz _ _ i1)
  replace i2 := kc _ _ (hz _ _ i2)
  replace i3 := kc _ _ (hz _ _ i3)
  replace i4 := kc _ _ (hz _ _ i4)
  replace i5 := kc _ _ (hz _ _ i5)
  replace i6 := kc _ _ (hz _ _ i6)
  replace i7 := kc _ _ (hz _ _ i7)
  replace i8 := kc _ _ (hz _ _ i8)
  clear kc hz hfn hbk hin d0 d1 d2 e0 hav h1 h2 h3 pf1 pb1 pi1
  go_enter Try.func53, Try.ntmps53
  go_wp2_with fail
  have z := fun q => HZ.out.frozen q
  have z0 := z 0
  have z1 := z 1
  have z2 := z 2
  have z3 := z 3
  have z4 := z 4
  have z5 := z 5
  have z6 := z 6
  have z7 := z 7
  have z8 := z 8
  have y0 := HZ.out.cell (k := 0) (x := .int .u8 0) rfl
  have y1 := HZ.out.cell (k := 1) (x := .int .i64 0) rfl
  have y2 := HZ.out.cell (k := 2) (x := .int .i64 0) rfl
  have y3 := HZ.out.cell (k := 3) (x := .int .i64 0) rfl
  have y4 := HZ.out.cell (k := 4) (x := .int .u32 0) rfl
  have y5 := HZ.out.cell (k := 5) (x := .int .i64 0) rfl
  have y6 := HZ.out.cell (k := 6) (x := .slice none 0 0) rfl
  have y7 := HZ.out.cell (k := 7) (x := .int .i64 0) rfl
  have y8 := HZ.out.cell (k := 8) (x := .int .i64 0) rfl
  clear z
  generalize w.alloc (.cells #[.int .u8 0, .int .i64 0, .int .i64 0, .int .i64 0, .int .u32 0, .int .i64 0, .slice none 0 0, .int .i64 0, .int .i64 0] 44) = W at *
  go_region
  all_goals
    obtain ⟨h9, hb9⟩ := box9 HW.out (Nat.le_refl _) HZ.out (.int .u8 x.op) (.int .i64 x.d) (.int .i64 x.a) (.int .i64 x.b) (.int .u32 x.n) (.int .i64 x.f) (.slice pa x.args.length ca) (.int .i64 x.l1) (.int .i64 x.l2)
    generalize (((((((((W.setCell ⟨w.heap.size, 0, none⟩ (.int .u8 x.op)).setCell ⟨w.heap.size, 1, none⟩ (.int .i64 x.d)).setCell ⟨w.heap.size, 2, none⟩ (.int .i64 x.a)).setCell ⟨w.heap.size, 3, none⟩ (.int .i64 x.b)).setCell ⟨w.heap.size, 4, none⟩ (.int .u32 x.n)).setCell ⟨w.heap.size, 5, none⟩ (.int .i64 x.f)).setCell ⟨w.heap.size, 6, none⟩ (.slice pa x.args.length ca)).setCell ⟨w.heap.size, 7, none⟩ (.int .i64 x.l1)).setCell ⟨w.heap.size, 8, none⟩ (.int .i64 x.l2)).drew = W9 at h9 hb9 ⊢
    go_wp2_with fail
    have r0 := h9.cell (k := 0) rfl
    have r1 := h9.cell (k := 1) rfl
    have r2 := h9.cell (k := 2) rfl
    have r3 := h9.cell (k := 3) rfl
    have r4 := h9.cell (k := 4) rfl
    have r5 := h9.cell (k := 5) rfl
    have r6 := h9.cell (k := 6) rfl
    have r7 := h9.cell (k := 7) rfl
    have r8 := h9.cell (k := 8) rfl
    exact bodyPost_ret (v := x.agg (.slice pa x.args.length ca)) (by simp [results, Try.results53, go_sem, r0, r1, r2, r3, r4, r5, r6, r7, r8]; try rfl) rfl ⟨pa, ca, rfl, HAV.out, hb9⟩
end Go.Proofs.Ytdefooailcbnlaa
/- Walks of the package flat: the heap's cells, load, store, alu; frames on top. -/
namespace Go.Proofs.Ytdefooailcbnlaa
open Go.RowKit
set_option linter.unusedVariables false
set_option linter.unusedSimpArgs false
theorem cell_in (w : World) (p : Prg) (G : Gh) (m : Nat) (s : Mdl) (h : MdlAt w p G m s) (a : Int) (ha0 : 0 ≤ a) (ha1 : a < 4294967296) (hl : s.heap.length ≤ 1024) (hin : a.toNat < s.heap.length) :
    Calls Try.prog 70 #[.pointer (some ⟨m, 0, none⟩), .int .u32 a] w fun e w' => e = .returned (.pointer (some ⟨G.hb, a.toNat, none⟩)) ∧ w = w' := by
  obtain ⟨⟨c3, c4, c5, c6, c7, c8, c9⟩, _, fz⟩ := h.cellsm
  have e1 : IntKind.u64.wrap a = a := IntWalk.u64_in _ (by omega)
  have e2 : IntKind.u64.wrap (s.heap.length : Int) = s.heap.length := IntWalk.u64_in _ (by omega)
  have hlt : a < s.heap.length := by omega
  have hng : ¬ (a ≥ (s.heap.length : Int)) := by omega
  clear h fz
  go_enter Try.func70, Try.ntmps70
  go_wp2_with fail
  go_ret
  exact ⟨rfl, rfl⟩
theorem cell_out (w : World) (p : Prg) (G : Gh) (m : Nat) (s : Mdl) (h : MdlAt w p G m s) (a : Int) (ha0 : 0 ≤ a) (ha1 : a < 4294967296) (hl : s.heap.length ≤ 1024) (hin : ¬ a.toNat < s.heap.length) :
    Calls Try.prog 70 #[.pointer (some ⟨m, 0, none⟩), .int .u32 a] w fun e w' => e = .returned (.pointer none) ∧ MdlAt w' p G m (fault s 2) ∧ Only (fun k => k = m) w w' := by
  obtain ⟨⟨c3, c4, c5, c6, c7, c8, c9⟩, _, fz⟩ := h.cellsm
  have HF := fhid (fault_any w p G m s h 2)
  have e1 : IntKind.u64.wrap a = a := IntWalk.u64_in _ (by omega)
  have e2 : IntKind.u64.wrap (s.heap.length : Int) = s.heap.length := IntWalk.u64_in _ (by omega)
  have hng : (s.heap.length : Int) ≤ a := by omega
  clear h fz
  go_enter Try.func70, Try.ntmps70
  go_wp2_with fail
  refine HF.out.mono ?_
  rintro e w1 ⟨rfl, h1, h2⟩
  go_wp2_with fail
  go_ret
  exact ⟨rfl, h1, h2⟩
theorem words_at' {l : List Int} (h : Words l) (k : Int) : 0 ≤ regAt l k ∧ regAt l k < 4294967296 := h.at _
set_option maxRecDepth 100000 in
set_option maxHeartbeats 2000000 in
theorem load_in (x : Insx) (pa : Option Addr) (na ca : Nat) (w : World) (p : Prg) (G : Gh) (m : Nat) (s : Mdl) (up : List Fr) (f : Fr) (g k : Nat) (h : OpIn w p G m s up f g k) (ha : 0 ≤ x.a ∧ x.a < f.regs.length) (hw : Words f.regs) (hl : s.heap.length ≤ 1024) (hin : (regAt f.regs x.a).toNat < s.heap.length) (hd : 0 ≤ x.d ∧ x.d < f.regs.length) :
    Calls Try.prog 45 #[.pointer (some ⟨m, 0, none⟩), .pointer (some ⟨g, up.length * 4, none⟩), x.agg (.slice pa na ca)] w fun e w' => e = .returned (.tuple #[]) ∧ Goes w p G m (put s (up ++ [f.wr x.d (s.heap.getD (regAt f.regs x.a).toNat 0)])) w' := by
  have HB := fhid (IBox.new w x (.slice pa na ca) 44)
  have HW := fhid (show Below w.heap.size w (w.alloc (.cells #[.int .u8 x.op, .int .i64 x.d, .int .i64 x.a, .int .i64 x.b, .int .u32 x.n, .int .i64 x.f, .slice pa na ca, .int .i64 x.l1, .int .i64 x.l2] 44)) from (Below.refl _ _).alloc (Nat.le_refl _) _)
  have HN := fhid (h.keepb HW.out)
  clear h
  have hav0 := words_at' hw x.a
  obtain ⟨ha0, ha1⟩ := ha
  clear hw
  go_enter Try.func45, Try.ntmps45
  go_wp2_with fail
  generalize w.alloc (.cells #[.int .u8 x.op, .int .i64 x.d, .int .i64 x.a, .int .i64 x.b, .int .u32 x.n, .int .i64 x.f, .slice pa na ca, .int .i64 x.l1, .int .i64 x.l2] 44) = W at *
  obtain ⟨_, b0, b1, b2, b3, b4, b5, b6, b7, b8⟩ := HB.out
  obtain ⟨_, _, _, c0, c1, c2, c3, fz, rg⟩ := HN.out.fr
  have ra : W.cell? ⟨k, x.a.toNat, none⟩ = some (.int .u32 (regAt f.regs x.a)) := rg.cell (words_at (k := x.a.toNat) (by omega))
  generalize hav : regAt f.regs x.a = av at ra hin hav0
  have Hav := fhid hav
  clear hav
  go_still_tail 9, (by kernel_rfl)
  change wpList _ _ _ _ _ W.drew
  have HN2 := fhid (HN.out.keepb (show Below W.heap.size W W.drew from (Below.refl _ _).drew))
  have HB2 := fhid (HB.out.only (S := fun _ => False) ((Only.refl _ W).drew) id)
  have HW2 := fhid (show Below w.heap.size w W.drew from HW.out.drew)
  clear b0 b1 b2 b3 b4 b5 b6 b7 b8 c0 c1 c2 c3 fz rg ra HN HB HW
  generalize W.drew = W2 at *
  go_wp2_with fail
  refine (cell_in W2 p G m s HN2.out.at' av hav0.1 hav0.2 hl hin).mono ?_
  rintro e w' ⟨rfl, rfl⟩
  obtain ⟨_, b0, b1, b2, b3, b4, b5, b6, b7, b8⟩ := HB2.out
  obtain ⟨_, _, _, c0, c1, c2, c3, fz, rg⟩ := HN2.out.fr
  have rh := HN2.out.at'.heap.cell (words_at hin)
  have Hd := fhid hd
  obtain ⟨hd0, hd1⟩ := hd
  have r1 := rg.cell (words_at (k := x.d.toNat) (by omega))
  have rf := rg.frozen x.d.toNat
  clear rg fz
  generalize hhv : s.heap.getD av.toNat 0 = hv at rh
  have Hhv := fhid hhv
  clear hhv
  go_wp2_with fail
  go_region
  all_goals
    go_wp2_with fail
    go_returns
    rw [Hav.out, Hhv.out]
    exact ⟨rfl, HN2.out.goReg HW2.out Hd.out _⟩
set_option maxRecDepth 100000 in
set_option maxHeartbeats 2000000 in
theorem load_out (x : Insx) (pa : Option Addr) (na ca : Nat) (w : World) (p : Prg) (G : Gh) (m : Nat) (s : Mdl) (up : List Fr) (f : Fr) (g k : Nat) (h : OpIn w p G m s up f g k) (ha : 0 ≤ x.a ∧ x.a < f.regs.length) (hw : Words f.regs) (hl : s.heap.length ≤ 1024) (hin : ¬ (regAt f.regs x.a).toNat < s.heap.length) :
    Calls Try.prog 45 #[.pointer (some ⟨m, 0, none⟩), .pointer (some ⟨g, up.length * 4, none⟩), x.agg (.slice pa na ca)] w fun e w' => e = .returned (.tuple #[]) ∧ MdlAt w' p G m (fault s 2) ∧ Only G.own w w' := by
  have HB := fhid (IBox.new w x (.slice pa na ca) 44)
  have HW := fhid (show Below w.heap.size w (w.alloc (.cells #[.int .u8 x.op, .int .i64 x.d, .int .i64 x.a, .int .i64 x.b, .int .u32 x.n, .int .i64 x.f, .slice pa na ca, .int .i64 x.l1, .int .i64 x.l2] 44)) from (Below.refl _ _).alloc (Nat.le_refl _) _)
  have HN := fhid (h.keepb HW.out)
  clear h
  have hav0 := words_at' hw x.a
  obtain ⟨ha0, ha1⟩ := ha
  clear hw
  go_enter Try.func45, Try.ntmps45
  go_wp2_with fail
  generalize w.alloc (.cells #[.int .u8 x.op, .int .i64 x.d, .int .i64 x.a, .int .i64 x.b, .int .u32 x.n, .int .i64 x.f, .slice pa na ca, .int .i64 x.l1, .int .i64 x.l2] 44) = W at *
  obtain ⟨_, b0, b1, b2, b3, b4, b5, b6, b7, b8⟩ := HB.out
  obtain ⟨_, _, _, c0, c1, c2, c3, fz, rg⟩ := HN.out.fr
  have ra : W.cell? ⟨k, x.a.toNat, none⟩ = some (.int .u32 (regAt f.regs x.a)) := rg.cell (words_at (k := x.a.toNat) (by omega))
  generalize hav : regAt f.regs x.a = av at ra hin hav0
  have Hav := fhid hav
  clear hav
  go_still_tail 9, (by kernel_rfl)
  change wpList _ _ _ _ _ W.drew
  have HN2 := fhid (HN.out.keepb (show Below W.heap.size W W.drew from (Below.refl _ _).drew))
  have HB2 := fhid (HB.out.only (S := fun _ => False) ((Only.refl _ W).drew) id)
  have HW2 := fhid (show Below w.heap.size w W.drew from HW.out.drew)
  clear b0 b1 b2 b3 b4 b5 b6 b7 b8 c0 c1 c2 c3 fz rg ra HN HB HW
  generalize W.drew = W2 at *
  go_wp2_with fail
  refine (cell_out W2 p G m s HN2.out.at' av hav0.1 hav0.2 hl hin).mono ?_
  rintro e w' ⟨rfl, h1, h2⟩
  go_wp2_with fail
  go_returns
  exact ⟨rfl, h1, (Only.of_below (S := G.own) HW2.out).fresh h2 (fun i _ e => by rw [e]; exact HN2.out.own.2.2)⟩
set_option maxRecDepth 100000 in
set_option maxHeartbeats 2000000 in
theorem store_in (x : Insx) (pa : Option Addr) (na ca : Nat) (w : World) (p : Prg) (G : Gh) (m : Nat) (s : Mdl) (up : List Fr) (f : Fr) (g k : Nat) (h : OpIn w p G m s up f g k) (ha : 0 ≤ x.a ∧ x.a < f.regs.length) (hw : Words f.regs) (hl : s.heap.length ≤ 1024) (hin : (regAt f.regs x.a).toNat < s.heap.length) (hb : 0 ≤ x.b ∧ x.b < f.regs.length) :
    Calls Try.prog 46 #[.pointer (some ⟨m, 0, none⟩), .pointer (some ⟨g, up.length * 4, none⟩), x.agg (.slice pa na ca)] w fun e w' => e = .returned (.tuple #[]) ∧ Goes w p G m { s with heap := s.heap.set (regAt f.regs x.a).toNat (regAt f.regs x.b) } w' := by
  have HB := fhid (IBox.new w x (.slice pa na ca) 44)
  have HW := fhid (show Below w.heap.size w (w.alloc (.cells #[.int .u8 x.op, .int .i64 x.d, .int .i64 x.a, .int .i64 x.b, .int .u32 x.n, .int .i64 x.f, .slice pa na ca, .int .i64 x.l1, .int .i64 x.l2] 44)) from (Below.refl _ _).alloc (Nat.le_refl _) _)
  have HN := fhid (h.keepb HW.out)
  clear h
  have hav0 := words_at' hw x.a
  obtain ⟨ha0, ha1⟩ := ha
  clear hw
  go_enter Try.func46, Try.ntmps46
  go_wp2_with fail
  generalize w.alloc (.cells #[.int .u8 x.op, .int .i64 x.d, .int .i64 x.a, .int .i64 x.b, .int .u32 x.n, .int .i64 x.f, .slice pa na ca, .int .i64 x.l1, .int .i64 x.l2] 44) = W at *
  obtain ⟨_, b0, b1, b2, b3, b4, b5, b6, b7, b8⟩ := HB.out
  obtain ⟨_, _, _, c0, c1, c2, c3, fz, rg⟩ := HN.out.fr
  have ra : W.cell? ⟨k, x.a.toNat, none⟩ = some (.int .u32 (regAt f.regs x.a)) := rg.cell (words_at (k := x.a.toNat) (by omega))
  generalize hav : regAt f.regs x.a = av at ra hin hav0
  have Hav := fhid hav
  clear hav
  go_still_tail 9, (by kernel_rfl)
  change wpList _ _ _ _ _ W.drew
  have HN2 := fhid (HN.out.keepb (show Below W.heap.size W W.drew from (Below.refl _ _).drew))
  have HB2 := fhid (HB.out.only (S := fun _ => False) ((Only.refl _ W).drew) id)
  have HW2 := fhid (show Below w.heap.size w W.drew from HW.out.drew)
  clear b0 b1 b2 b3 b4 b5 b6 b7 b8 c0 c1 c2 c3 fz rg ra HN HB HW
  generalize W.drew = W2 at *
  go_wp2_with fail
  refine (cell_in W2 p G m s HN2.out.at' av hav0.1 hav0.2 hl hin).mono ?_
  rintro e w' ⟨rfl, rfl⟩
  obtain ⟨_, b0, b1, b2, b3, b4, b5, b6, b7, b8⟩ := HB2.out
  obtain ⟨_, _, _, c0, c1, c2, c3, fz, rg⟩ := HN2.out.fr
  have rh := HN2.out.at'.heap.cell (words_at hin)
  have rhf := HN2.out.at'.heap.frozen av.toNat
  obtain ⟨hb0, hb1⟩ := hb
  have rb : W2.cell? ⟨k, x.b.toNat, none⟩ = some (.int .u32 (regAt f.regs x.b)) := rg.cell (words_at (k := x.b.toNat) (by omega))
  clear rg fz
  generalize hbv : regAt f.regs x.b = bv at rb
  have Hbv := fhid hbv
  clear hbv
  generalize s.heap.getD av.toNat 0 = hv at rh
  go_wp2_with fail
  go_region
  all_goals
    go_wp2_with fail
    go_returns
    rw [Hav.out, Hbv.out]
    have ho : Only (fun b => b = G.hb) W2 (W2.setCell ⟨G.hb, av.toNat, none⟩ (.int .u32 bv)) := (Only.refl (fun b => b = G.hb) W2).setCell (p := ⟨G.hb, av.toNat, none⟩) rfl _
    have hr := HN2.out.at'.heap.set (k := av.toNat) (by simpa [u32s] using hin) (.int .u32 bv)
    rw [show (u32s s.heap).set av.toNat (Value.int .u32 bv) = u32s (s.heap.set av.toNat bv) by unfold u32s; rw [List.map_set]] at hr
    have h9 := HN2.out.at'.heap' ho (s.heap.set av.toNat bv) (by simp) hr
    exact ⟨rfl, Goes.same (h9.keepb ((Below.refl _ _).drew)) (((Only.of_below (S := G.own) HW2.out).fresh ho (fun i _ e => by rw [e]; exact ⟨by rw [HN2.out.at'.rh]; simp, by rw [HN2.out.at'.rh]; simp⟩)).drew)⟩
set_option maxRecDepth 100000 in
set_option maxHeartbeats 2000000 in
theorem store_out (x : Insx) (pa : Option Addr) (na ca : Nat) (w : World) (p : Prg) (G : Gh) (m : Nat) (s : Mdl) (up : List Fr) (f : Fr) (g k : Nat) (h : OpIn w p G m s up f g k) (ha : 0 ≤ x.a ∧ x.a < f.regs.length) (hw : Words f.regs) (hl : s.heap.length ≤ 1024) (hin : ¬ (regAt f.regs x.a).toNat < s.heap.length) :
    Calls Try.prog 46 #[.pointer (some ⟨m, 0, none⟩), .pointer (some ⟨g, up.length * 4, none⟩), x.agg (.slice pa na ca)] w fun e w' => e = .returned (.tuple #[]) ∧ MdlAt w' p G m (fault s 2) ∧ Only G.own w w' := by
  have HB := fhid (IBox.new w x (.slice pa na ca) 44)
  have HW := fhid (show Below w.heap.size w (w.alloc (.cells #[.int .u8 x.op, .int .i64 x.d, .int .i64 x.a, .int .i64 x.b, .int .u32 x.n, .int .i64 x.f, .slice pa na ca, .int .i64 x.l1, .int .i64 x.l2] 44)) from (Below.refl _ _).alloc (Nat.le_refl _) _)
  have HN := fhid (h.keepb HW.out)
  clear h
  have hav0 := words_at' hw x.a
  obtain ⟨ha0, ha1⟩ := ha
  clear hw
  go_enter Try.func46, Try.ntmps46
  go_wp2_with fail
  generalize w.alloc (.cells #[.int .u8 x.op, .int .i64 x.d, .int .i64 x.a, .int .i64 x.b, .int .u32 x.n, .int .i64 x.f, .slice pa na ca, .int .i64 x.l1, .int .i64 x.l2] 44) = W at *
  obtain ⟨_, b0, b1, b2, b3, b4, b5, b6, b7, b8⟩ := HB.out
  obtain ⟨_, _, _, c0, c1, c2, c3, fz, rg⟩ := HN.out.fr
  have ra : W.cell? ⟨k, x.a.toNat, none⟩ = some (.int .u32 (regAt f.regs x.a)) := rg.cell (words_at (k := x.a.toNat) (by omega))
  generalize hav : regAt f.regs x.a = av at ra hin hav0
  have Hav := fhid hav
  clear hav
  go_still_tail 9, (by kernel_rfl)
  change wpList _ _ _ _ _ W.drew
  have HN2 := fhid (HN.out.keepb (show Below W.heap.size W W.drew from (Below.refl _ _).drew))
  have HB2 := fhid (HB.out.only (S := fun _ => False) ((Only.refl _ W).drew) id)
  have HW2 := fhid (show Below w.heap.size w W.drew from HW.out.drew)
  clear b0 b1 b2 b3 b4 b5 b6 b7 b8 c0 c1 c2 c3 fz rg ra HN HB HW
  generalize W.drew = W2 at *
  go_wp2_with fail
  refine (cell_out W2 p G m s HN2.out.at' av hav0.1 hav0.2 hl hin).mono ?_
  rintro e w' ⟨rfl, h1, h2⟩
  go_wp2_with fail
  go_returns
  exact ⟨rfl, h1, (Only.of_below (S := G.own) HW2.out).fresh h2 (fun i _ e => by rw [e]; exact HN2.out.own.2.2)⟩
end Go.Proofs.Ytdefooailcbnlaa
