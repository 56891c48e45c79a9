/- The walk of ShapeAdds. -/
import Derived.Test.YthahjnjkiljaaaaShapeAddsLaw
import Derived.Test.YthahjnjkiljaaaaShapeCopy
import Derived.Test.YthahjnjkiljaaaaAsmStep
import Derived.Deep.RegionLaw
import Derived.IntWalk
import Derived.Deep.DeepCutAuto
namespace Go.Proofs.Ythahjnjkiljaaaa
open Go.RowKit Go.Deep
set_option linter.unusedVariables false
set_option linter.unusedSimpArgs false
/-- A function's box, that may be written. -/
structure FBoxW (w : World) (g : Nat) (nm : ByteArray) (a r : Int) (bv : Value) : Prop where
  b : FBox w g nm a r bv
  f : ∀ i, w.frozen? ⟨g, i, none⟩ = false
theorem FBoxW.new (w : World) (nm : ByteArray) (a r : Int) (bv : Value) (t : TypeId) : FBoxW (w.alloc (.cells #[.string nm, .int .i64 a, .int .i64 r, bv] t)) w.heap.size nm a r bv :=
  ⟨FBox.new w nm a r bv t, fun i => free_of_obj (heap_alloc_new w _)⟩
theorem FBoxW.keep {w w' : World} {g : Nat} {nm : ByteArray} {a r : Int} {bv : Value} (h : FBoxW w g nm a r bv) (hb : Below w.heap.size w w') : FBoxW w' g nm a r bv :=
  ⟨h.b.keep hb, fun i => (hb.frozen (p := ⟨g, i, none⟩) h.b.lt).trans (h.f i)⟩
theorem FBoxW.set3 {w : World} {g : Nat} {nm : ByteArray} {a r : Int} {bv : Value} (h : FBoxW w g nm a r bv) (u : Value) : FBoxW (w.setCell ⟨g, 3, none⟩ u) g nm a r u := by
  obtain ⟨⟨lt, c0, c1, c2, c3⟩, f⟩ := h
  exact ⟨⟨by simpa [World.setCell] using lt, (World.cell?_setCell_other _ _ _ _ (by simp)).trans c0, (World.cell?_setCell_other _ _ _ _ (by simp)).trans c1, (World.cell?_setCell_other _ _ _ _ (by simp)).trans c2, World.cell?_setCell_same _ _ _ c3⟩, fun i => by simpa using f i⟩
theorem QBox.far {w : World} {g : Nat} {a b : Value} (k : QBox w g a b) {p : Addr} (hp : p.block ≠ g) (u : Value) : QBox (w.setCell p u) g a b :=
  ⟨by simpa [World.setCell] using k.lt, (World.cell?_setCell_other _ _ _ _ (show p ≠ (⟨g, 0, none⟩ : Addr) from fun e => hp (congrArg Addr.block e))).trans k.c0, (World.cell?_setCell_other _ _ _ _ (show p ≠ (⟨g, 1, none⟩ : Addr) from fun e => hp (congrArg Addr.block e))).trans k.c1, by simpa using k.f0, by simpa using k.f1⟩
theorem infoblk : (Try.prog.info? 40).map (fun i => (i.size, i.bytes)) = some (2, 40) := by kernel_rfl
theorem infoblk3 : (Try.prog.info? 40).map (fun i => (i.zero.map fun z => z.cells.size, i.size, i.bytes)) = some (some 2, 2, 40) := by kernel_rfl
theorem infofn3 : (Try.prog.info? 37).map (fun i => (i.zero.map fun z => z.cells.size, i.size, i.bytes)) = some (some 4, 4, 56) := by kernel_rfl
theorem infoins3 : (Try.prog.info? 44).map (fun i => (i.zero.map fun z => z.cells.size, i.size, i.bytes)) = some (some 9, 9, 88) := by kernel_rfl
theorem info3_parts {P : Program} {t : TypeId} {n s b : Nat} (h : (P.info? t).map (fun i => (i.zero.map fun z => z.cells.size, i.size, i.bytes)) = some (some n, s, b)) : ∃ i z, P.info? t = some i ∧ i.zero = some z ∧ i.size = s ∧ i.bytes = b ∧ z.cells.size = n := by
  obtain ⟨i, hi, he⟩ := Option.map_eq_some_iff.1 h
  simp only [Prod.mk.injEq] at he
  obtain ⟨h1, h2, h3⟩ := he
  obtain ⟨z, hz, hn⟩ := Option.map_eq_some_iff.1 h1
  exact ⟨i, z, hi, hz, h2, h3, hn⟩
/-- A box of three cells, that may be written. -/
structure TBox (w : World) (g : Nat) (a b c : Value) : Prop where
  c0 : w.cell? ⟨g, 0, none⟩ = some a
  c1 : w.cell? ⟨g, 1, none⟩ = some b
  c2 : w.cell? ⟨g, 2, none⟩ = some c
  f0 : w.frozen? ⟨g, 0, none⟩ = false
  f1 : w.frozen? ⟨g, 1, none⟩ = false
  f2 : w.frozen? ⟨g, 2, none⟩ = false
theorem TBox.new (w : World) (a b c : Value) (t : TypeId) : TBox (w.alloc (.cells #[a, b, c] t)) w.heap.size a b c := by
  have k := fun i => cell_of_obj (i := i) (heap_alloc_new w (.cells #[a, b, c] t))
  have f := fun i => free_of_obj (i := i) (heap_alloc_new w (.cells #[a, b, c] t))
  exact ⟨k 0, k 1, k 2, f 0, f 1, f 2⟩
theorem TBox.lt {w : World} {g : Nat} {a b c : Value} (h : TBox w g a b c) : g < w.heap.size := World.block_lt_of_cell? _ _ h.c0
theorem TBox.set2 {w : World} {g : Nat} {a b c : Value} (h : TBox w g a b c) (u : Value) : TBox (w.setCell ⟨g, 2, none⟩ u) g a b u :=
  ⟨(World.cell?_setCell_other _ _ _ _ (by simp)).trans h.c0, (World.cell?_setCell_other _ _ _ _ (by simp)).trans h.c1, World.cell?_setCell_same _ _ _ h.c2, by simpa using h.f0, by simpa using h.f1, by simpa using h.f2⟩
theorem FBoxW.far {w : World} {g : Nat} {nm : ByteArray} {a r : Int} {bv : Value} (h : FBoxW w g nm a r bv) {p : Addr} (hp : p.block ≠ g) (u : Value) : FBoxW (w.setCell p u) g nm a r bv :=
  ⟨h.b.far hp u, fun i => by simpa using h.f i⟩
theorem TBox.keep {w w' : World} {g : Nat} {a b c : Value} (h : TBox w g a b c) (hb : Below w.heap.size w w') : TBox w' g a b c :=
  ⟨(hb.cell (p := ⟨g, 0, none⟩) h.lt).trans h.c0, (hb.cell (p := ⟨g, 1, none⟩) h.lt).trans h.c1, (hb.cell (p := ⟨g, 2, none⟩) h.lt).trans h.c2, (hb.frozen (p := ⟨g, 0, none⟩) h.lt).trans h.f0, (hb.frozen (p := ⟨g, 1, none⟩) h.lt).trans h.f1, (hb.frozen (p := ⟨g, 2, none⟩) h.lt).trans h.f2⟩
theorem rem_run (x y : Nat) (hx : x < 65536) (hy : 0 < y) (hy2 : y ≤ 4096) (w : World) : (binOp .rem 3 (.int .i64 (x : Int)) (.int .i64 (y : Int))).run Try.prog w = .ok (.int .i64 ((x : Int) % (y : Int))) w := by
  have h0 : ((y : Int) == 0) = false := by rw [beq_eq_false_iff_ne]; omega
  have h1 : (y : Int) ≠ 0 := by omega
  have h2 : (x : Int).tmod (y : Int) = (x : Int) % (y : Int) := IntWalk.rem_in _ _ (by omega)
  have h3 : (x : Int) % (y : Int) < y := Int.emod_lt_of_pos _ (by omega)
  have h4 : 0 ≤ (x : Int) % (y : Int) := Int.emod_nonneg _ h1
  have h5 : IntKind.i64.wrap ((x : Int) % (y : Int)) = (x : Int) % (y : Int) := IntWalk.i64_in _ (by omega)
  go_simp
  omega
set_option maxRecDepth 100000 in
set_option maxHeartbeats 16000000 in
theorem walk_ShapeAdds (p : Prg) (hh : I64 p.heap) (htf : ∀ x ∈ p.funcs, ∀ b ∈ x.blocks, b.ins.length * 88 ≤ 140737488351232) (v : Value) (n : Int) (hn : I64 n) (a b : Int) (ha : 0 ≤ a ∧ a < 65536) (hb : 0 ≤ b ∧ b < 65536) (w : World) (hv : PrgV w v p) :
    Calls Try.prog 5 #[v, .int .i64 n, .agg #[.int .u16 a, .int .u16 b]] w fun e w' => e = .returned (.bool true) ∧ Below w.heap.size w w' := by
  obtain ⟨pt, ct, pf, cf, rfl, hT, hF⟩ := hv
  have HTF := shid htf
  clear htf
  have hfl := hF.1
  have HTN := shid hT
  have HFN := shid hF
  obtain ⟨_, _, fb, fo, hfe, _, HFS⟩ := hF.hids
  cases hfe
  have HPF := shid HFS.out.1
  have HKF := shid HFS.out.2
  have HPB := shid ((PBox.new w p.heap (.slice pt p.threads.length ct) (.slice pf p.funcs.length cf) 25).keep (al1 _ (.cells #[.int .u16 a, .int .u16 b] 51)))
  have HAT := shid (QBox.new (w.alloc (.cells #[.int .i64 p.heap, .slice pt p.threads.length ct, .slice pf p.funcs.length cf] 25)) (.int .u16 a) (.int .u16 b) 51)
  have HW0 := shid (al2 w (.cells #[.int .i64 p.heap, .slice pt p.threads.length ct, .slice pf p.funcs.length cf] 25) (.cells #[.int .u16 a, .int .u16 b] 51))
  simp only [World.size_alloc] at HAT
  clear hT hF HFS
  obtain ⟨_, k0, k1, k2⟩ := HPB.out
  go_enter Try.func5, Try.ntmps5
  go_wp2_with fail
  generalize (w.alloc (.cells #[.int .i64 p.heap, .slice pt p.threads.length ct, .slice pf p.funcs.length cf] 25)).alloc (.cells #[.int .u16 a, .int .u16 b] 51) = W0 at *
  clear k0 k1 k2
  refine (great_any p pt ct pf cf W0 (FnsIn.keep HFN.out HW0.out)).mono ?_
  rintro e W1 ⟨gb, rfl, hb1⟩
  have HW1 := shid (sbt HW0.out hb1)
  have HP1 := shid (HPB.out.keep hb1)
  have HA1 := shid (HAT.out.keep hb1)
  clear hb1 HPB HAT HW0
  obtain ⟨_, k0, k1, k2⟩ := HP1.out
  by_cases hgo : gb = false ∧ 0 ≤ n ∧ n < p.funcs.length
  case neg =>
    cases gb with
    | true =>
      go_wp2_with fail
      refine (law_head _).mono ?_
      rintro e W9 ⟨rfl, hb9⟩
      go_wp2_with fail
      go_ret
      exact ⟨rfl, sbt HW1.out hb9⟩
    | false =>
      by_cases z1 : n < 0
      · have q1 := decide_eq_true z1
        clear z1 hgo
        go_wp2_with fail
        refine (law_head _).mono ?_
        rintro e W9 ⟨rfl, hb9⟩
        go_wp2_with fail
        go_ret
        exact ⟨rfl, sbt HW1.out hb9⟩
      · have q1 := decide_eq_false z1
        have q2 := decide_eq_true (show (p.funcs.length : Int) ≤ n from by
          rcases Int.lt_or_le n p.funcs.length with h | h
          · exact absurd ⟨rfl, by omega, h⟩ hgo
          · exact h)
        clear z1 hgo
        go_wp2_with fail
        refine (law_head _).mono ?_
        rintro e W9 ⟨rfl, hb9⟩
        go_wp2_with fail
        go_ret
        exact ⟨rfl, sbt HW1.out hb9⟩
  obtain ⟨rfl, hn0, hn1⟩ := hgo
  obtain ⟨m, rfl⟩ := Int.eq_ofNat_of_zero_le hn0
  have hmf : m < p.funcs.length := by omega
  clear hn0 hn
  obtain rfl := HPF.out (by omega)
  go_wp2_with fail
  clear k0 k1 k2
  refine (check_any p pt ct (some ⟨fb, fo, none⟩) cf W1 (IntsIn.keep HTN.out HW1.out) (FnsIn.keep HFN.out HW1.out)).mono ?_
  rintro e W2 ⟨rfl, hb2⟩
  have HW2 := shid (sbt HW1.out hb2)
  have HP2 := shid (HP1.out.keep hb2)
  have HA2 := shid (HA1.out.keep hb2)
  have HCV := shid (show checkV p = .tuple #[.agg #[.int .i64 (checkS p).1, .int .i64 (checkS p).2.1], .int .i64 (checkS p).2.2] from rfl)
  have HCM := shid (show (checkS p).2.2 = 0 → _ from checkS_may (p := p))
  have HCA := shid (show (checkS p).2.2 = 0 → ∀ (n k : Nat) (x : Fnx) (b : Blk) (d : Int), p.funcs[n]? = some x → x.blocks[k]? = some b → 0 ≤ d → d < x.regs → checkS ⟨p.heap, p.threads, p.funcs.set n (addF x k b d)⟩ = (0, 0, 0) from fun h n k x b d h1 h2 h3 h4 => adds_ok h h1 h2 h3 h4)
  have HAL := shid (al1 W2 (.cells #[.int .i64 (checkS p).1, .int .i64 (checkS p).2.1] 29))
  clear hb2 HP1 HA1 HW1
  rw [HCV.out]
  clear HCV
  generalize (checkS p).1 = cl at *
  generalize (checkS p).2.1 = cc at *
  generalize (checkS p).2.2 = ce at *
  have HX := shid (List.getElem?_eq_getElem hmf)
  generalize p.funcs[m] = x at HX
  obtain ⟨c0, c1, c2, ⟨bv, c3, hbv⟩, hnm, hia, hir⟩ := HKF.out m x HX.out
  have HC0 := shid (And.intro c0 (And.intro c1 (And.intro c2 c3)))
  obtain ⟨pb, cb, rfl⟩ := hbv.shape
  have hbl := hbv.1
  have HBV := shid hbv
  have HW3 := shid (sbt HW2.out HAL.out)
  have HP3 := shid (HP2.out.keep HAL.out)
  have HA3 := shid (HA2.out.keep HAL.out)
  replace c0 := (HW3.out.cell (World.block_lt_of_cell? _ _ c0)).trans c0
  replace c1 := (HW3.out.cell (World.block_lt_of_cell? _ _ c1)).trans c1
  replace c2 := (HW3.out.cell (World.block_lt_of_cell? _ _ c2)).trans c2
  replace c3 := (HW3.out.cell (World.block_lt_of_cell? _ _ c3)).trans c3
  obtain ⟨_, k0, k1, k2⟩ := HP2.out
  obtain ⟨_, kk0, kk1, kk2⟩ := HP3.out
  have HFX := shid (FBoxW.new (W2.alloc (.cells #[.int .i64 cl, .int .i64 cc] 29)) x.name x.args x.regs (.slice pb x.blocks.length cb) 37)
  have HAF := shid (al1 (W2.alloc (.cells #[.int .i64 cl, .int .i64 cc] 29)) (.cells #[.string x.name, .int .i64 x.args, .int .i64 x.regs, .slice pb x.blocks.length cb] 37))
  have HW4 := shid (sbt HW3.out HAF.out)
  simp only [World.size_alloc] at HFX
  by_cases hce : ce = 0 ∧ x.regs ≠ 0
  case neg =>
    by_cases z1 : ce = 0
    · have q3 : (ce != 0) = false := by simpa using z1
      have q4 : (x.regs == 0) = true := by
        have : x.regs = 0 := by
          rcases Classical.em (x.regs = 0) with h | h
          · exact h
          · exact absurd ⟨z1, h⟩ hce
        simpa using this
      clear z1 hce hbv hnm hia hir
      go_wp2_with fail
      refine (law_head _).mono ?_
      rintro e W9 ⟨rfl, hb9⟩
      go_wp2_with fail
      go_ret
      exact ⟨rfl, sbt HW4.out hb9⟩
    · have q3 : (ce != 0) = true := by simpa using z1
      clear z1 hce hbv hnm hia hir
      go_wp2_with fail
      refine (law_head _).mono ?_
      rintro e W9 ⟨rfl, hb9⟩
      go_wp2_with fail
      go_ret
      exact ⟨rfl, sbt HW4.out hb9⟩
  obtain ⟨hce, hrg⟩ := hce
  have q3 : (ce != 0) = false := by simpa using hce
  have q4 : (x.regs == 0) = false := by simpa using hrg
  have hcm := HCM.out hce
  have HCO := shid (HCA.out hce)
  obtain ⟨A, R, hA, hR, hAR, hR4, hbk⟩ := blksOk_of hcm.2.1 hcm.2.2.1 HX.out
  have hbs := hbk.some
  have HBI := shid (hcm.2.2.1 m x HX.out)
  clear hce hcm hbk hbv hnm HCM HCA
  generalize hrr : x.regs = xr at *
  generalize haa : x.args = xa at *
  have HRA := shid (And.intro hrr haa)
  clear hrr haa
  subst hA hR
  have hr0 : 0 < R := by omega
  obtain ⟨an, rfl⟩ := Int.eq_ofNat_of_zero_le ha.1
  obtain ⟨bn, rfl⟩ := Int.eq_ofNat_of_zero_le hb.1
  have ha1 : an < 65536 := by omega
  have hb1 : bn < 65536 := by omega
  clear ha hb hrg
  have hnb : (x.blocks.length : Int) ≠ 0 := by omega
  have hnb2 : ((x.blocks.length : Int) == 0) = false := by rw [beq_eq_false_iff_ne]; omega
  obtain ⟨_, t0, t1, _, _⟩ := HA3.out
  have HA4 := shid (HA3.out.keep HAF.out)
  have HP4 := shid (HP3.out.keep HAF.out)
  have HZ4 := shid (show ((W2.alloc (.cells #[.int .i64 cl, .int .i64 cc] 29)).alloc (.cells #[.string x.name, .int .i64 A, .int .i64 R, .slice pb x.blocks.length cb] 37)).heap.size = W2.heap.size + 1 + 1 by simp)
  have hwG2 : w.heap.size + 1 < W2.heap.size := HA2.out.lt
  go_upto_region 8 with (fail)
  clear c0 c1 c2 c3 k0 k1 k2 kk0 kk1 kk2 t0 t1 HA3 HP3 HW3 HAL HAF HA2 HP2 HW2
  generalize (W2.alloc (.cells #[.int .i64 cl, .int .i64 cc] 29)).alloc (.cells #[.string x.name, .int .i64 A, .int .i64 R, .slice pb x.blocks.length cb] 37) = W4 at *
  generalize W2.heap.size = G2 at *
  have hkl : an % x.blocks.length < x.blocks.length := Nat.mod_lt _ hbs
  have hke : (an : Int) % (x.blocks.length : Int) = ((an % x.blocks.length : Nat) : Int) := by omega
  rw [hke]
  clear hke
  generalize an % x.blocks.length = k at *
  obtain ⟨_, _, bb, bo, hbe, _, HBS⟩ := HBV.out.hids
  cases hbe
  obtain rfl := HBS.out.1 hbs
  obtain ⟨i1, z1, hi, hz, hsz, hby, hzc⟩ := info3_parts infoblk3
  have HNB := shid (rowCells_news flat_blk HBS.out.2)
  have HRL := shid (rowCells_length w bb bo (x.blocks.length * 2))
  have HNC := shid (fun (j : Nat) (hj : j < x.blocks.length * 2) => rowCells_get (w := w) (b := bb) (o := bo) hj)
  generalize rowCells w bb bo (x.blocks.length * 2) = news at *
  obtain ⟨_, f0, f1, f2, f3⟩ := HFX.out.b
  have ff := HFX.out.f 3
  have h63 : x.blocks.length ≤ maxLen := by unfold maxLen; omega
  go_outline
  go_wp2_with (at_builtin; refine wpList_append_own _ rfl _ _ 35 rfl W4.heap.size 40 i1 z1 2 40 Try.underlying35 hi hz hsz hby hzc (by decide) (.slice (some ⟨W4.heap.size, 0, none⟩) 0 0) _ _ rfl (World.ownsRow_made W4 #[] 0 (Nat.le_refl _) (Nat.zero_le _) (by simp)) ⟨bb, bo, none⟩ x.blocks.length cb news rfl HRL.out (fun j u hj => by
    have h1 := HNB.out.1 j u hj
    rw [show (⟨bb, bo, none⟩ : Addr).add j = ⟨bb, bo + j, none⟩ from by unfold Addr.add; split <;> simp [*]]
    exact ((sbt HW4.out (al1 _ _)).cell (World.block_lt_of_cell? _ _ h1)).trans h1) HNB.out.2 (by omega) (by omega) (by simp) ?_; intro v5 w5 hown hgrow hnil; rw [Nat.zero_add, List.nil_append] at hown; have hb5 : Below W4.heap.size W4 w5 := ((Below.refl _ W4).alloc (Nat.le_refl _) _).grown hgrow (by simp) (by intro k hk; simp [Value.ownBlock] at hk; omega); obtain ⟨gB, cB, rfl, hgB, hgB2, hvB⟩ := VRow.of_own' hown (fun h => by have := (hnil.1 h).1; cases this); have HFX5 := shid (HFX.out.keep hb5); obtain ⟨_, g0, g1, g2, g3⟩ := HFX5.out.b; have gg := HFX5.out.f 3; clear hown hgrow hnil)
  have HVB := shid hvB
  have hG1 : G2 + 1 < W4.heap.size := HFX.out.b.lt
  have HFX6 := shid (HFX5.out.set3 (.slice (some ⟨gB, 0, none⟩) x.blocks.length cB))
  have HVB6 := shid (show VRow (w5.setCell ⟨G2 + 1, 3, none⟩ (.slice (some ⟨gB, 0, none⟩) x.blocks.length cB)) gB 40 news from HVB.out.other (by show gB ≠ G2 + 1; omega) _)
  have HW6 := shid (show Below w.heap.size w (w5.setCell ⟨G2 + 1, 3, none⟩ (.slice (some ⟨gB, 0, none⟩) x.blocks.length cB)) from (sbt HW4.out hb5).setCell (by show w.heap.size ≤ G2 + 1; omega) _)
  have HP6 := shid (show PBox (w5.setCell ⟨G2 + 1, 3, none⟩ (.slice (some ⟨gB, 0, none⟩) x.blocks.length cB)) w.heap.size _ _ _ from (HP4.out.keep hb5).far (by show G2 + 1 ≠ w.heap.size; omega) _)
  have HA6 := shid (show QBox (w5.setCell ⟨G2 + 1, 3, none⟩ (.slice (some ⟨gB, 0, none⟩) x.blocks.length cB)) (w.heap.size + 1) _ _ from (HA4.out.keep hb5).far (by show G2 + 1 ≠ w.heap.size + 1; omega) _)
  have hW6 : W4.heap.size ≤ (w5.setCell ⟨G2 + 1, 3, none⟩ (.slice (some ⟨gB, 0, none⟩) x.blocks.length cB)).heap.size := by have := hb5.size; simpa [World.setCell] using this
  clear g0 g1 g2 g3 gg f0 f1 f2 f3 ff
  generalize w5.setCell ⟨G2 + 1, 3, none⟩ (.slice (some ⟨gB, 0, none⟩) x.blocks.length cB) = W6 at *
  have HY := shid (List.getElem?_eq_getElem hkl)
  generalize x.blocks[k] = y at HY
  obtain ⟨e0, ⟨iv, e1, hiv⟩, hnm⟩ := HBS.out.2 k y HY.out
  have hil := hiv.1
  have HIV := shid hiv
  have HE := shid (And.intro e0 e1)
  obtain ⟨_, ci_, ib, io, rfl, _, HIS⟩ := hiv.hids
  have hyl : 0 < y.ins.length := (block_ins HY.out (HBI.out k y HY.out)).1
  obtain rfl := HIS.out.1 hyl
  have HCK := shid (show news[k * 2 + 1]? = some (.slice (some ⟨ib, io, none⟩) y.ins.length ci_) by
    rw [HNC.out (k * 2 + 1) (by omega)]
    have h : w.cell? ⟨bb, bo + (k * 2 + 1), none⟩ = some (.slice (some ⟨ib, io, none⟩) y.ins.length ci_) := by rw [← Nat.add_assoc]; exact HE.out.2
    rw [h]; rfl)
  obtain ⟨i2, z2, hi2, hz2, hsz2, hby2, hzc2⟩ := info3_parts infoins3
  have HNI := shid (rowCells_news flat_ins HIS.out.2)
  have HIL := shid (rowCells_length w ib io (y.ins.length * 9))
  have HIC := shid (fun (j : Nat) (hj : j < y.ins.length * 9) => rowCells_get (w := w) (b := ib) (o := io) hj)
  generalize rowCells w ib io (y.ins.length * 9) = inews at *
  have hR0 : ((R : Int) == 0) = false := by rw [beq_eq_false_iff_ne]; omega
  have hRne : (R : Int) ≠ 0 := by omega
  have hRn : ¬ R = 0 := by omega
  have hgB6 := HVB6.out.lt
  have hm1 : IntKind.i64.wrap (bn : Int) = bn := IntWalk.i64_in _ (by omega)
  have hm2 : (bn : Int).tmod (R : Int) = (bn : Int) % (R : Int) := IntWalk.rem_in _ _ (by omega)
  have hm3 : (bn : Int) % (R : Int) < R := Int.emod_lt_of_pos _ (by omega)
  have hm4 : 0 ≤ (bn : Int) % (R : Int) := Int.emod_nonneg _ hRne
  have hm5 : IntKind.i64.wrap ((bn : Int) % (R : Int)) = (bn : Int) % (R : Int) := IntWalk.i64_in _ (by omega)
  have hkI : (k : Int) < x.blocks.length := by omega
  obtain ⟨_, f0, f1, f2, f3⟩ := HFX6.out.b
  obtain ⟨_, t0, t1, _, _⟩ := HA6.out
  have b1 := HVB6.out.cell HCK.out
  have bf := HVB6.out.frozen (k * 2 + 1)
  have HOW := shid (own_new W6 W6.heap.size #[.int .u8 0, .int .i64 ((bn : Int) % (R : Int)), .int .i64 0, .int .i64 0, .int .u32 5, .int .i64 0, .slice none 0 0, .int .i64 0, .int .i64 0] 44 1 9 rfl (by simp [maxLen]) (Nat.le_refl _))
  have HCI := shid (fun (j : Nat) u (hu : inews[j]? = some u) => show (W6.alloc (.cells #[.int .u8 0, .int .i64 ((bn : Int) % (R : Int)), .int .i64 0, .int .i64 0, .int .u32 5, .int .i64 0, .slice none 0 0, .int .i64 0, .int .i64 0] 44)).cell? ((⟨ib, io, none⟩ : Addr).add j) = some u from by
    have h1 := HNI.out.1 j u hu
    rw [show (⟨ib, io, none⟩ : Addr).add j = ⟨ib, io + j, none⟩ from by unfold Addr.add; split <;> simp [*]]
    exact ((sbt HW6.out (al1 _ _)).cell (World.block_lt_of_cell? _ _ h1)).trans h1)
  have h64 : 1 + y.ins.length ≤ maxLen := by unfold maxLen; omega
  clear e0 e1 hiv hnm
  go_wp2_with fail
  go_cut [] from 14 (fun w' => ∃ gI cI, W6.heap.size ≤ gI ∧ VRow w' gI 44 ([.int .u8 0, .int .i64 ((bn : Int) % (R : Int)), .int .i64 0, .int .i64 0, .int .u32 5, .int .i64 0, .slice none 0 0, .int .i64 0, .int .i64 0] ++ inews) ∧ VRow w' gB 40 (news.set (k * 2 + 1) (.slice (some ⟨gI, 0, none⟩) (1 + y.ins.length) cI)) ∧ FBoxW w' (G2 + 1) x.name A R (.slice (some ⟨gB, 0, none⟩) x.blocks.length cB) ∧ PBox w' w.heap.size p.heap (.slice pt p.threads.length ct) (.slice (some ⟨fb, fo, none⟩) p.funcs.length cf) ∧ Below w.heap.size w w')
  case first =>
    have HNE := shid (show gB ≠ G2 + 1 ∧ gB ≠ w.heap.size + 1 from ⟨by omega, by omega⟩)
    have HNE2 := shid (show gB ≠ w.heap.size from by omega)
    have HNE3 := shid (show w.heap.size ≤ gB from by omega)
    have HKS : Hid (∀ w', Below W6.heap.size W6 w' → w'.cell? ⟨G2 + 1, 2, none⟩ = some (.int .i64 R) ∧ w'.cell? ⟨G2 + 1, 3, none⟩ = some (.slice (some ⟨gB, 0, none⟩) x.blocks.length cB) ∧ w'.cell? ⟨w.heap.size + 1, 1, none⟩ = some (.int .u16 bn)) := shid fun w' hb => by
      obtain ⟨_, h0, h1, h2, h3⟩ := (HFX6.out.keep hb).b
      obtain ⟨_, a0, a1, _, _⟩ := HA6.out.keep hb
      exact ⟨h2, h3, a1⟩
    have hbd : Below W6.heap.size W6 W6.drew := (Below.refl _ _).drew
    have hba : Below W6.heap.size W6 (W6.alloc (.cells #[.int .u8 0, .int .i64 ((bn : Int) % (R : Int)), .int .i64 0, .int .i64 0, .int .u32 5, .int .i64 0, .slice none 0 0, .int .i64 0, .int .i64 0] 44)).drew := ((Below.refl _ _).alloc (Nat.le_refl _) _).drew
    refine wp_region_held_drew (S := fun w' => w'.cell? ⟨G2 + 1, 2, none⟩ = some (.int .i64 R) ∧ w'.cell? ⟨G2 + 1, 3, none⟩ = some (.slice (some ⟨gB, 0, none⟩) x.blocks.length cB) ∧ w'.cell? ⟨w.heap.size + 1, 1, none⟩ = some (.int .u16 bn)) (by kernel_rfl) (HKS.out _ hbd) (fun hHeld => ?_)
    refine wpAnyH_take (i := 0) (v := ?vz0) rfl (by kernel_rfl) (by kernel_rfl) (by kernel_rfl) (fun _ _ _ h => h) (Or.inl ⟨by rfl, ?yz0⟩) (by assumption) ?rz0
    case yz0 => (intro w hSw; (try dsimp only at hSw); go_simp; try with_reducible rfl)
    try simp only [Act.put, List.getElem_toArray, List.getElem_cons_zero, List.getElem_cons_succ, List.setIfInBounds_toArray, List.set_cons_zero, List.set_cons_succ]
    refine wpAnyH_take (i := 1) (v := ?vz1) rfl (by kernel_rfl) (by kernel_rfl) (by kernel_rfl) (fun _ _ _ h => h) (Or.inl ⟨by rfl, ?yz1⟩) (by assumption) ?rz1
    case yz1 => (intro w hSw; (try dsimp only at hSw); go_simp; try with_reducible rfl)
    try simp only [Act.put, List.getElem_toArray, List.getElem_cons_zero, List.getElem_cons_succ, List.setIfInBounds_toArray, List.set_cons_zero, List.set_cons_succ]
    refine wpAnyH_take (i := 2) (v := ?vz2) rfl (by kernel_rfl) (by kernel_rfl) (by kernel_rfl) (fun _ _ _ h => h) (Or.inl ⟨by rfl, ?yz2⟩) (by assumption) ?rz2
    case yz2 => (intro w hSw; (try dsimp only at hSw); go_simp; try with_reducible rfl)
    try simp only [Act.put, List.getElem_toArray, List.getElem_cons_zero, List.getElem_cons_succ, List.setIfInBounds_toArray, List.set_cons_zero, List.set_cons_succ]
    refine wpAnyH_take (i := 3) (v := ?vz3) rfl (by kernel_rfl) (by kernel_rfl) (by kernel_rfl) (fun _ _ _ h => h) (Or.inl ⟨by rfl, ?yz3⟩) (by assumption) ?rz3
    case yz3 => (intro w hSw; (try dsimp only at hSw); go_simp; try with_reducible rfl)
    try simp only [Act.put, List.getElem_toArray, List.getElem_cons_zero, List.getElem_cons_succ, List.setIfInBounds_toArray, List.set_cons_zero, List.set_cons_succ]
    refine wpAnyH_take (i := 4) (v := ?vz4) rfl (by kernel_rfl) (by kernel_rfl) (by kernel_rfl) (fun _ _ _ h => h) (Or.inl ⟨by rfl, ?yz4⟩) (by assumption) ?rz4
    case yz4 => (intro w hSw; (try dsimp only at hSw); go_simp; try with_reducible rfl)
    try simp only [Act.put, List.getElem_toArray, List.getElem_cons_zero, List.getElem_cons_succ, List.setIfInBounds_toArray, List.set_cons_zero, List.set_cons_succ]
    refine wpAnyH_take (i := 5) (v := ?vz5) rfl (by kernel_rfl) (by kernel_rfl) (by kernel_rfl) (fun _ _ _ h => h) (Or.inl ⟨by rfl, ?yz5⟩) (by assumption) ?rz5
    case yz5 => (intro w hSw; (try dsimp only at hSw); go_simp; try with_reducible rfl)
    try simp only [Act.put, List.getElem_toArray, List.getElem_cons_zero, List.getElem_cons_succ, List.setIfInBounds_toArray, List.set_cons_zero, List.set_cons_succ]
    refine wpAnyH_take (i := 6) (v := ?vz6) rfl (by kernel_rfl) (by kernel_rfl) (by kernel_rfl) (fun _ _ _ h => h) (Or.inl ⟨by rfl, ?yz6⟩) (by assumption) ?rz6
    case yz6 => (intro w hSw; (try dsimp only at hSw); go_simp; try with_reducible rfl)
    try simp only [Act.put, List.getElem_toArray, List.getElem_cons_zero, List.getElem_cons_succ, List.setIfInBounds_toArray, List.set_cons_zero, List.set_cons_succ]
    refine wpAnyH_take (i := 7) (v := ?vz7) rfl (by kernel_rfl) (by kernel_rfl) (by kernel_rfl) (fun _ _ _ h => h) (Or.inl ⟨by rfl, ?yz7⟩) (by assumption) ?rz7
    case yz7 => (intro w hSw; (try dsimp only at hSw); go_simp; try with_reducible rfl)
    try simp only [Act.put, List.getElem_toArray, List.getElem_cons_zero, List.getElem_cons_succ, List.setIfInBounds_toArray, List.set_cons_zero, List.set_cons_succ]
    refine wpAnyH_take (i := 8) (v := ?vz8) rfl (by kernel_rfl) (by kernel_rfl) (by kernel_rfl) (fun _ _ _ h => h) (Or.inl ⟨by rfl, ?yz8⟩) (by assumption) ?rz8
    case yz8 => (intro w hSw; (try dsimp only at hSw); go_simp; try with_reducible rfl)
    try simp only [Act.put, List.getElem_toArray, List.getElem_cons_zero, List.getElem_cons_succ, List.setIfInBounds_toArray, List.set_cons_zero, List.set_cons_succ]
    refine wpAnyH_take (i := 9) (v := ?vz9) rfl (by kernel_rfl) (by kernel_rfl) (by kernel_rfl) (fun _ _ _ h => h) (Or.inl ⟨by rfl, ?yz9⟩) (by assumption) ?rz9
    case yz9 => (intro w hSw; (try dsimp only at hSw); go_simp; try with_reducible rfl)
    try simp only [Act.put, List.getElem_toArray, List.getElem_cons_zero, List.getElem_cons_succ, List.setIfInBounds_toArray, List.set_cons_zero, List.set_cons_succ]
    refine wpAnyH_take (i := 11) (v := ?vz11) rfl (by kernel_rfl) (by kernel_rfl) (by kernel_rfl) (fun _ _ _ h => h) (Or.inl ⟨by rfl, ?yz11⟩) (by assumption) ?rz11
    case yz11 => (intro w hSw; (try dsimp only at hSw); go_simp; try with_reducible rfl)
    try simp only [Act.put, List.getElem_toArray, List.getElem_cons_zero, List.getElem_cons_succ, List.setIfInBounds_toArray, List.set_cons_zero, List.set_cons_succ]
    refine wpAnyH_take (i := 12) (v := ?vz12) rfl (by kernel_rfl) (by kernel_rfl) (by kernel_rfl) (fun _ _ _ h => h) (Or.inl ⟨by rfl, ?yz12⟩) (by assumption) ?rz12
    case yz12 => (intro w hSw; (try dsimp only at hSw); go_simp; try with_reducible rfl)
    try simp only [Act.put, List.getElem_toArray, List.getElem_cons_zero, List.getElem_cons_succ, List.setIfInBounds_toArray, List.set_cons_zero, List.set_cons_succ]
    refine wpAnyH_take (i := 13) (v := ?vz13) rfl (by kernel_rfl) (by kernel_rfl) (by kernel_rfl) (fun _ _ _ h => h) (Or.inl ⟨by rfl, ?yz13⟩) (by assumption) ?rz13
    case yz13 => (intro w hSw; (try dsimp only at hSw); go_simp; try with_reducible rfl)
    try simp only [Act.put, List.getElem_toArray, List.getElem_cons_zero, List.getElem_cons_succ, List.setIfInBounds_toArray, List.set_cons_zero, List.set_cons_succ]
    refine wpAnyH_take (i := 14) (v := ?vz14) rfl (by kernel_rfl) (by kernel_rfl) (by kernel_rfl) (fun _ _ _ h => h) (Or.inl ⟨by rfl, ?yz14⟩) (by assumption) ?rz14
    case yz14 => (intro w hSw; (try dsimp only at hSw); go_simp; try with_reducible rfl)
    try simp only [Act.put, List.getElem_toArray, List.getElem_cons_zero, List.getElem_cons_succ, List.setIfInBounds_toArray, List.set_cons_zero, List.set_cons_succ]
    refine wpAnyH_take (i := 15) (v := ?vz15) rfl (by kernel_rfl) (by kernel_rfl) (by kernel_rfl) (fun _ _ _ h => h) (Or.inl ⟨by rfl, ?yz15⟩) (by assumption) ?rz15
    case yz15 => (intro w hSw; (try dsimp only at hSw); go_simp; try with_reducible rfl)
    try simp only [Act.put, List.getElem_toArray, List.getElem_cons_zero, List.getElem_cons_succ, List.setIfInBounds_toArray, List.set_cons_zero, List.set_cons_succ]
    refine wpAnyH_ready (rs := [10, 16]) (by kernel_rfl) (by simp) ?_
    refine AllReadyH.cons rfl (fun K hK => ?_) (AllReadyH.cons rfl (fun K hK => ?_) AllReadyH.nil)
    · go_simp
      refine hK.out _ _ (HKS.out _ hba) (fun hHelda2 => ?_)
      clear hK K
      try simp only [Act.put, List.getElem_toArray, List.getElem_cons_zero, List.getElem_cons_succ, List.setIfInBounds_toArray, List.set_cons_zero, List.set_cons_succ]
      refine wpAnyH_ready (rs := [16]) (by kernel_rfl) (by simp) ?_
      refine AllReadyH.cons rfl (fun K hK => ?_) AllReadyH.nil
      have c7 := (HVB6.out.below hba).cell HCK.out
      go_simp
      refine hK.out _ _ (HKS.out _ hba) (fun hHelda3 => ?_)
      clear hK K c7
      try simp only [Act.put, List.getElem_toArray, List.getElem_cons_zero, List.getElem_cons_succ, List.setIfInBounds_toArray, List.set_cons_zero, List.set_cons_succ]
      refine wpAnyH_ready (rs := [17]) (by kernel_rfl) (by simp) ?_
      refine AllReadyH.cons rfl (fun K hK => ?_) AllReadyH.nil
      refine step_append_some _ (by rfl) (.tmp 68) (.tmp 74) 38 (by rfl) W6.heap.size 44 i2 z2 9 88 Try.underlying38 hi2 hz2 hsz2 hby2 hzc2 (by decide) W6.heap.size 1 1 [.int .u8 0, .int .i64 ((bn : Int) % (R : Int)), .int .i64 0, .int .i64 0, .int .u32 5, .int .i64 0, .slice none 0 0, .int .i64 0, .int .i64 0] (by rfl) HOW.out.drew ⟨ib, io, none⟩ y.ins.length ci_ inews (by rfl) HIL.out (fun j u hu => HCI.out j u hu) HNI.out.2 h64 (by omega) (by simp) ?_
      intro gI cI w7 hown hgrow
      have hb7 : Below W6.heap.size W6 w7 := Below.grown (((Below.refl _ W6).alloc (Nat.le_refl _) _).drew) hgrow (by simp) (by intro kk hkk; cases hkk; exact Nat.le_refl _)
      refine hK.out _ _ (HKS.out _ hb7) (fun hHelda4 => ?_)
      clear hK K
      try simp only [Act.put, List.getElem_toArray, List.getElem_cons_zero, List.getElem_cons_succ, List.setIfInBounds_toArray, List.set_cons_zero, List.set_cons_succ]
      refine wpAnyH_take (i := 18) (v := ?vza18) rfl (by kernel_rfl) (by kernel_rfl) (by kernel_rfl) (fun _ _ _ h => h) (Or.inl ⟨by rfl, ?yza18⟩) (by assumption) ?rza18
      case yza18 => (intro w hSw; (try dsimp only at hSw); go_simp; try with_reducible rfl)
      try simp only [Act.put, List.getElem_toArray, List.getElem_cons_zero, List.getElem_cons_succ, List.setIfInBounds_toArray, List.set_cons_zero, List.set_cons_succ]
      refine wpAnyH_take (i := 19) (v := ?vza19) rfl (by kernel_rfl) (by kernel_rfl) (by kernel_rfl) (fun _ _ _ h => h) (Or.inl ⟨by rfl, ?yza19⟩) (by assumption) ?rza19
      case yza19 => (intro w hSw; (try dsimp only at hSw); go_simp; try with_reducible rfl)
      try simp only [Act.put, List.getElem_toArray, List.getElem_cons_zero, List.getElem_cons_succ, List.setIfInBounds_toArray, List.set_cons_zero, List.set_cons_succ]
      refine wpAnyH_ready (rs := [20]) (by kernel_rfl) (by simp) ?_
      refine AllReadyH.cons rfl (fun K hK => ?_) AllReadyH.nil
      have c7 := (HVB6.out.below hb7).cell HCK.out
      have f7 := (HVB6.out.below hb7).frozen (k * 2 + 1)
      go_simp
      refine hK.out _ _ ?_ (fun hHelda5 => ?_)
      · obtain ⟨j0, j1, j2⟩ := HKS.out _ hb7
        exact ⟨(World.cell?_setCell_other _ _ _ _ (fun e => HNE.out.1 (congrArg Addr.block e))).trans j0, (World.cell?_setCell_other _ _ _ _ (fun e => HNE.out.1 (congrArg Addr.block e))).trans j1, (World.cell?_setCell_other _ _ _ _ (fun e => HNE.out.2 (congrArg Addr.block e))).trans j2⟩
      clear hK K c7 f7
      try simp only [Act.put, List.getElem_toArray, List.getElem_cons_zero, List.getElem_cons_succ, List.setIfInBounds_toArray, List.set_cons_zero, List.set_cons_succ]
      refine wpAnyH_done (by kernel_rfl) ?_ _
      go_wp2_with fail
      go_meet
      case rel =>
        obtain ⟨gI', cI', hve, hgI, hgI2, hvI⟩ := VRow.of_own' hown (fun h => by cases h)
        cases hve
        refine ⟨gI, cI, hgI, hvI.other (by show gI ≠ gB; omega) _, ?_, (HFX6.out.keep hb7).far (by show gB ≠ G2 + 1; exact HNE.out.1) _, (HP6.out.keep hb7).far (by show gB ≠ w.heap.size; exact HNE2.out) _, (HW6.out.trans (hb7.mono HW6.out.size)).setCell (by show w.heap.size ≤ gB; exact HNE3.out) _⟩
        have h := (HVB6.out.below hb7).set (k := k * 2 + 1) (by rw [HRL.out]; omega) (.slice (some ⟨gI, 0, none⟩) (1 + y.ins.length) cI)
        exact h
    · go_simp
      refine hK.out _ _ (HKS.out _ hbd) (fun hHeldb2 => ?_)
      clear hK K
      try simp only [Act.put, List.getElem_toArray, List.getElem_cons_zero, List.getElem_cons_succ, List.setIfInBounds_toArray, List.set_cons_zero, List.set_cons_succ]
      refine wpAnyH_ready (rs := [10]) (by kernel_rfl) (by simp) ?_
      refine AllReadyH.cons rfl (fun K hK => ?_) AllReadyH.nil
      go_simp
      refine hK.out _ _ (HKS.out _ hba) (fun hHeldb3 => ?_)
      clear hK K
      try simp only [Act.put, List.getElem_toArray, List.getElem_cons_zero, List.getElem_cons_succ, List.setIfInBounds_toArray, List.set_cons_zero, List.set_cons_succ]
      refine wpAnyH_ready (rs := [17]) (by kernel_rfl) (by simp) ?_
      refine AllReadyH.cons rfl (fun K hK => ?_) AllReadyH.nil
      refine step_append_some _ (by rfl) (.tmp 68) (.tmp 74) 38 (by rfl) W6.heap.size 44 i2 z2 9 88 Try.underlying38 hi2 hz2 hsz2 hby2 hzc2 (by decide) W6.heap.size 1 1 [.int .u8 0, .int .i64 ((bn : Int) % (R : Int)), .int .i64 0, .int .i64 0, .int .u32 5, .int .i64 0, .slice none 0 0, .int .i64 0, .int .i64 0] (by rfl) HOW.out.drew ⟨ib, io, none⟩ y.ins.length ci_ inews (by rfl) HIL.out (fun j u hu => HCI.out j u hu) HNI.out.2 h64 (by omega) (by simp) ?_
      intro gI cI w7 hown hgrow
      have hb7 : Below W6.heap.size W6 w7 := Below.grown (((Below.refl _ W6).alloc (Nat.le_refl _) _).drew) hgrow (by simp) (by intro kk hkk; cases hkk; exact Nat.le_refl _)
      refine hK.out _ _ (HKS.out _ hb7) (fun hHeldb4 => ?_)
      clear hK K
      try simp only [Act.put, List.getElem_toArray, List.getElem_cons_zero, List.getElem_cons_succ, List.setIfInBounds_toArray, List.set_cons_zero, List.set_cons_succ]
      refine wpAnyH_take (i := 18) (v := ?vzb18) rfl (by kernel_rfl) (by kernel_rfl) (by kernel_rfl) (fun _ _ _ h => h) (Or.inl ⟨by rfl, ?yzb18⟩) (by assumption) ?rzb18
      case yzb18 => (intro w hSw; (try dsimp only at hSw); go_simp; try with_reducible rfl)
      try simp only [Act.put, List.getElem_toArray, List.getElem_cons_zero, List.getElem_cons_succ, List.setIfInBounds_toArray, List.set_cons_zero, List.set_cons_succ]
      refine wpAnyH_take (i := 19) (v := ?vzb19) rfl (by kernel_rfl) (by kernel_rfl) (by kernel_rfl) (fun _ _ _ h => h) (Or.inl ⟨by rfl, ?yzb19⟩) (by assumption) ?rzb19
      case yzb19 => (intro w hSw; (try dsimp only at hSw); go_simp; try with_reducible rfl)
      try simp only [Act.put, List.getElem_toArray, List.getElem_cons_zero, List.getElem_cons_succ, List.setIfInBounds_toArray, List.set_cons_zero, List.set_cons_succ]
      refine wpAnyH_ready (rs := [20]) (by kernel_rfl) (by simp) ?_
      refine AllReadyH.cons rfl (fun K hK => ?_) AllReadyH.nil
      have c7 := (HVB6.out.below hb7).cell HCK.out
      have f7 := (HVB6.out.below hb7).frozen (k * 2 + 1)
      go_simp
      refine hK.out _ _ ?_ (fun hHeldb5 => ?_)
      · obtain ⟨j0, j1, j2⟩ := HKS.out _ hb7
        exact ⟨(World.cell?_setCell_other _ _ _ _ (fun e => HNE.out.1 (congrArg Addr.block e))).trans j0, (World.cell?_setCell_other _ _ _ _ (fun e => HNE.out.1 (congrArg Addr.block e))).trans j1, (World.cell?_setCell_other _ _ _ _ (fun e => HNE.out.2 (congrArg Addr.block e))).trans j2⟩
      clear hK K c7 f7
      try simp only [Act.put, List.getElem_toArray, List.getElem_cons_zero, List.getElem_cons_succ, List.setIfInBounds_toArray, List.set_cons_zero, List.set_cons_succ]
      refine wpAnyH_done (by kernel_rfl) ?_ _
      go_wp2_with fail
      go_meet
      case rel =>
        obtain ⟨gI', cI', hve, hgI, hgI2, hvI⟩ := VRow.of_own' hown (fun h => by cases h)
        cases hve
        refine ⟨gI, cI, hgI, hvI.other (by show gI ≠ gB; omega) _, ?_, (HFX6.out.keep hb7).far (by show gB ≠ G2 + 1; exact HNE.out.1) _, (HP6.out.keep hb7).far (by show gB ≠ w.heap.size; exact HNE2.out) _, (HW6.out.trans (hb7.mono HW6.out.size)).setCell (by show w.heap.size ≤ gB; exact HNE3.out) _⟩
        have h := (HVB6.out.below hb7).set (k := k * 2 + 1) (by rw [HRL.out]; omega) (.slice (some ⟨gI, 0, none⟩) (1 + y.ins.length) cI)
        exact h
  case rest =>
    obtain ⟨gI, cI, hgI, hvI, hvB7, hfx7, hp7, hb7⟩ := hcut
    have HVI := shid hvI
    have HVB7 := shid hvB7
    have HFX7 := shid hfx7
    have HP7 := shid hp7
    have HB7 := shid hb7
    have HGI := shid (And.intro hgI hvI.lt)
    clear hgI hvI hvB7 hfx7 hp7 hb7 f0 f1 f2 f3 t0 t1 b1 bf hm1 hm2 hm3 hm4 hm5
    have hrng : 0 ≤ (bn : Int) % (R : Int) ∧ (bn : Int) % (R : Int) < R := ⟨Int.emod_nonneg _ hRne, Int.emod_lt_of_pos _ (by omega)⟩
    have HRG := shid hrng
    generalize (bn : Int) % (R : Int) = dv at *
    obtain ⟨_, k0, k1, k2⟩ := HP7.out
    obtain ⟨i3, z3, hi3, hz3, hsz3, hby3, hzc3⟩ := info3_parts infofn3
    have HNF := shid (rowCells_news flat_fn HKF.out)
    have HFL := shid (rowCells_length w fb fo (p.funcs.length * 4))
    have HFC := shid (fun (j : Nat) (hj : j < p.funcs.length * 4) => rowCells_get (w := w) (b := fb) (o := fo) hj)
    generalize rowCells w fb fo (p.funcs.length * 4) = fnews at *
    have HQB := shid (TBox.new wc (.int .i64 p.heap) (.slice pt p.threads.length ct) (.slice (some ⟨fb, fo, none⟩) p.funcs.length cf) 25)
    go_upto_region 11 with (fail)
    clear k0 k1 k2
    have HW8 := shid (al1 wc (.cells #[.int .i64 p.heap, .slice pt p.threads.length ct, .slice (some ⟨fb, fo, none⟩) p.funcs.length cf] 25))
    have HFX7lt := shid HFX7.out.b.lt
    have HZ8 := shid (show (wc.alloc (.cells #[.int .i64 p.heap, .slice pt p.threads.length ct, .slice (some ⟨fb, fo, none⟩) p.funcs.length cf] 25)).heap.size = wc.heap.size + 1 by simp)
    have HVI8 := shid (HVI.out.below HW8.out)
    have HVB8 := shid (HVB7.out.below HW8.out)
    have HFX8 := shid (HFX7.out.keep HW8.out)
    have HP8 := shid (HP7.out.keep HW8.out)
    have HB8 := shid (sbt HB7.out HW8.out)
    clear HVB7 HFX7 HP7 HB7 HVI HW8
    generalize wc.alloc (.cells #[.int .i64 p.heap, .slice pt p.threads.length ct, .slice (some ⟨fb, fo, none⟩) p.funcs.length cf] 25) = W8 at *
    generalize wc.heap.size = G8 at *
    obtain ⟨_, k0, k1, k2⟩ := HP8.out
    obtain ⟨q0, q1, q2, qf0, qf1, qf2⟩ := HQB.out
    have hGG : G2 + 1 < G8 := by have := HFX7lt.out; omega
    go_upto_region 12 with (at_builtin; refine wpList_append_own _ rfl _ _ 23 rfl W8.heap.size 37 i3 z3 4 56 Try.underlying23 hi3 hz3 hsz3 hby3 hzc3 (by decide) (.slice (some ⟨W8.heap.size, 0, none⟩) 0 0) _ _ rfl (World.ownsRow_made W8 #[] 0 (Nat.le_refl _) (Nat.zero_le _) (by simp)) ⟨fb, fo, none⟩ p.funcs.length cf fnews rfl HFL.out (fun j u hj => by
      have h1 := HNF.out.1 j u hj
      rw [show (⟨fb, fo, none⟩ : Addr).add j = ⟨fb, fo + j, none⟩ from by unfold Addr.add; split <;> simp [*]]
      exact ((sbt HB8.out (al1 _ _)).cell (World.block_lt_of_cell? _ _ h1)).trans h1) HNF.out.2 (by unfold maxLen; omega) (by omega) (by simp) ?_; intro v9 w9 hown hgrow hnil; rw [Nat.zero_add, List.nil_append] at hown; have hb9 : Below W8.heap.size W8 w9 := ((Below.refl _ W8).alloc (Nat.le_refl _) _).grown hgrow (by simp) (by intro k hk; simp [Value.ownBlock] at hk; omega); obtain ⟨gF, cF, rfl, hgF, hgF2, hvF⟩ := VRow.of_own' hown (fun h => by have := (hnil.1 h).1; cases this); obtain ⟨s0, s1, s2, sf0, sf1, sf2⟩ := HQB.out.keep hb9; obtain ⟨_, g0, g1, g2, g3⟩ := (HFX8.out.keep hb9).b; have HVF := shid hvF; clear hown hgrow hnil)
    have hG8 : G8 < W8.heap.size := HQB.out.lt
    have hW9 : W8.heap.size ≤ w9.heap.size := hb9.size
    have HQ10 := shid (show TBox (w9.setCell ⟨G8, 2, none⟩ (.slice (some ⟨gF, 0, none⟩) p.funcs.length cF)) G8 (.int .i64 p.heap) (.slice pt p.threads.length ct) (.slice (some ⟨gF, 0, none⟩) p.funcs.length cF) from ((HQB.out.keep hb9).set2 _))
    have HVF10 := shid (show VRow (w9.setCell ⟨G8, 2, none⟩ (.slice (some ⟨gF, 0, none⟩) p.funcs.length cF)) gF 37 fnews from HVF.out.other (by show gF ≠ G8; omega) _)
    have HVI10 := shid (show VRow (w9.setCell ⟨G8, 2, none⟩ (.slice (some ⟨gF, 0, none⟩) p.funcs.length cF)) gI 44 _ from (HVI8.out.below hb9).other (by show gI ≠ G8; have := HGI.out; omega) _)
    have HVB10 := shid (show VRow (w9.setCell ⟨G8, 2, none⟩ (.slice (some ⟨gF, 0, none⟩) p.funcs.length cF)) gB 40 _ from (HVB8.out.below hb9).other (by show gB ≠ G8; have := HGI.out; omega) _)
    have HFX10 := shid (show FBoxW (w9.setCell ⟨G8, 2, none⟩ (.slice (some ⟨gF, 0, none⟩) p.funcs.length cF)) (G2 + 1) _ _ _ _ from (HFX8.out.keep hb9).far (by show G8 ≠ G2 + 1; omega) _)
    have HB10 := shid (show Below w.heap.size w (w9.setCell ⟨G8, 2, none⟩ (.slice (some ⟨gF, 0, none⟩) p.funcs.length cF)) from (sbt HB8.out hb9).setCell (by show w.heap.size ≤ G8; omega) _)
    clear s0 s1 s2 sf0 sf1 sf2 g0 g1 g2 g3 q0 q1 q2 qf0 qf1 qf2 k0 k1 k2
    generalize (w9.setCell ⟨G8, 2, none⟩ (.slice (some ⟨gF, 0, none⟩) p.funcs.length cF)) = W10 at *
    have hm4 : m * 4 + 3 < p.funcs.length * 4 := by omega
    obtain ⟨u0, hu0⟩ : ∃ u, fnews[m * 4]? = some u := ⟨_, HFC.out _ (by omega)⟩
    obtain ⟨u1, hu1⟩ : ∃ u, fnews[m * 4 + 1]? = some u := ⟨_, HFC.out _ (by omega)⟩
    obtain ⟨u2, hu2⟩ : ∃ u, fnews[m * 4 + 2]? = some u := ⟨_, HFC.out _ (by omega)⟩
    obtain ⟨u3, hu3⟩ : ∃ u, fnews[m * 4 + 3]? = some u := ⟨_, HFC.out _ (by omega)⟩
    have s0 := HVF10.out.cell hu0
    have s1 := HVF10.out.cell hu1
    have s2 := HVF10.out.cell hu2
    have s3 := HVF10.out.cell hu3
    have sf0 := HVF10.out.frozen (m * 4)
    have sf1 := HVF10.out.frozen (m * 4 + 1)
    have sf2 := HVF10.out.frozen (m * 4 + 2)
    have sf3 := HVF10.out.frozen (m * 4 + 3)
    have hmI : (m : Int) < p.funcs.length := by omega
    obtain ⟨_, g0, g1, g2, g3⟩ := HFX10.out.b
    obtain ⟨q0, q1, q2, _, _, _⟩ := HQ10.out
    have hne1 : ¬ gF = G8 := by omega
    have hne2 : ¬ G8 = gF := by omega
    clear hu0 hu1 hu2 hu3
    go_wp2_with fail
    have hgFB : gB ≠ gF := by have := HGI.out; omega
    have hgFI : gI ≠ gF := by have := HGI.out; omega
    have HVF11 := shid (show VRow ((((W10.setCell ⟨gF, m * 4, none⟩ (.string x.name)).setCell ⟨gF, m * 4 + 1, none⟩ (.int .i64 A)).setCell ⟨gF, m * 4 + 2, none⟩ (.int .i64 R)).setCell ⟨gF, m * 4 + 3, none⟩ (.slice (some ⟨gB, 0, none⟩) x.blocks.length cB)) gF 37 ((((fnews.set (m * 4) (.string x.name)).set (m * 4 + 1) (.int .i64 A)).set (m * 4 + 2) (.int .i64 R)).set (m * 4 + 3) (.slice (some ⟨gB, 0, none⟩) x.blocks.length cB)) from (((HVF10.out.set (by rw [HFL.out]; omega) _).set (by rw [List.length_set, HFL.out]; omega) _).set (by rw [List.length_set, List.length_set, HFL.out]; omega) _).set (by rw [List.length_set, List.length_set, List.length_set, HFL.out]; omega) _)
    have HVI11 := shid (show VRow ((((W10.setCell ⟨gF, m * 4, none⟩ (.string x.name)).setCell ⟨gF, m * 4 + 1, none⟩ (.int .i64 A)).setCell ⟨gF, m * 4 + 2, none⟩ (.int .i64 R)).setCell ⟨gF, m * 4 + 3, none⟩ (.slice (some ⟨gB, 0, none⟩) x.blocks.length cB)) gI 44 _ from (((HVI10.out.other hgFI _).other hgFI _).other hgFI _).other hgFI _)
    have HVB11 := shid (show VRow ((((W10.setCell ⟨gF, m * 4, none⟩ (.string x.name)).setCell ⟨gF, m * 4 + 1, none⟩ (.int .i64 A)).setCell ⟨gF, m * 4 + 2, none⟩ (.int .i64 R)).setCell ⟨gF, m * 4 + 3, none⟩ (.slice (some ⟨gB, 0, none⟩) x.blocks.length cB)) gB 40 _ from (((HVB10.out.other hgFB _).other hgFB _).other hgFB _).other hgFB _)
    have hwF : w.heap.size ≤ gF := by have := HB8.out.size; omega
    have HB11 := shid (show Below w.heap.size w ((((W10.setCell ⟨gF, m * 4, none⟩ (.string x.name)).setCell ⟨gF, m * 4 + 1, none⟩ (.int .i64 A)).setCell ⟨gF, m * 4 + 2, none⟩ (.int .i64 R)).setCell ⟨gF, m * 4 + 3, none⟩ (.slice (some ⟨gB, 0, none⟩) x.blocks.length cB)) from (((HB10.out.setCell (p := ⟨gF, m * 4, none⟩) hwF _).setCell (p := ⟨gF, m * 4 + 1, none⟩) hwF _).setCell (p := ⟨gF, m * 4 + 2, none⟩) hwF _).setCell (p := ⟨gF, m * 4 + 3, none⟩) hwF _)
    clear s0 s1 s2 s3 sf0 sf1 sf2 sf3 g0 g1 g2 g3 q0 q1 q2 HVF10 HVI10 HVB10 HB10 HFX10
    generalize ((((W10.setCell ⟨gF, m * 4, none⟩ (.string x.name)).setCell ⟨gF, m * 4 + 1, none⟩ (.int .i64 A)).setCell ⟨gF, m * 4 + 2, none⟩ (.int .i64 R)).setCell ⟨gF, m * 4 + 3, none⟩ (.slice (some ⟨gB, 0, none⟩) x.blocks.length cB)) = W11 at *
    have hins : InsxIn W11 (.slice (some ⟨gI, 0, none⟩) (1 + y.ins.length) cI) (cIns dv :: y.ins) := by
      refine rowIn_cons flat_ins HIS.out.2 (by have := HTF.out x (List.mem_of_getElem? HX.out) y (List.mem_of_getElem? HY.out); omega) HB11.out (fun j i hj hi => ?_) (by omega) ?_
      · have hq : j * 9 + i < y.ins.length * 9 := by omega
        obtain ⟨u, hu, _⟩ := row_cells flat_ins HIS.out.2 (j * 9 + i) hq
        rw [hu]
        refine HVI11.out.cell ?_
        rw [List.getElem?_append_right (by simp; omega)]
        show inews[(j + 1) * 9 + i - 9]? = some u
        rw [show (j + 1) * 9 + i - 9 = j * 9 + i by omega]
        rw [HIC.out _ hq, hu]; rfl
      · have hcv : ∀ j u, [Value.int .u8 0, .int .i64 dv, .int .i64 0, .int .i64 0, .int .u32 5, .int .i64 0, .slice none 0 0, .int .i64 0, .int .i64 0][j]? = some u → W11.cell? ⟨gI, 0 + j, none⟩ = some u := fun j u hu => by
          rw [Nat.zero_add]
          refine HVI11.out.cell ?_
          rw [List.getElem?_append_left (List.getElem?_eq_some_iff.1 hu).1]; exact hu
        refine insxAt_new (x := cIns dv) rfl ?_ hcv
        unfold Insx.bd cIns I64
        simp only
        have := HRG.out
        refine ⟨by omega, by omega, by omega, by omega, by omega, by omega, by simp, by omega, by omega⟩
    have hblk : BlksIn W11 (.slice (some ⟨gB, 0, none⟩) x.blocks.length cB) (x.blocks.set k (addB y dv)) := by
      refine rowIn_upd flat_blk HBS.out.2 hbl HB11.out (fun j i hj hne hi => ?_) hkl ?_
      · have hq : j * 2 + i < x.blocks.length * 2 := by omega
        obtain ⟨u, hu, _⟩ := row_cells flat_blk HBS.out.2 (j * 2 + i) hq
        rw [hu]
        refine HVB11.out.cell ?_
        rw [List.getElem?_set_ne (by omega), HNC.out _ hq, hu]; rfl
      · have hb := HBS.out.2 k y HY.out
        refine ⟨?_, ⟨_, ?_, hins⟩, hb.nm⟩
        · refine HVB11.out.cell ?_
          rw [List.getElem?_set_ne (by omega), HNC.out _ (by omega), hb.c0]; rfl
        · refine HVB11.out.cell ?_
          exact List.getElem?_set_self (by rw [HRL.out]; omega)
    have hfns : FnsIn W11 (.slice (some ⟨gF, 0, none⟩) p.funcs.length cF) (p.funcs.set m (addF x k y dv)) := by
      refine rowIn_upd flat_fn HKF.out hfl HB11.out (fun j i hj hne hi => ?_) hmf ?_
      · have hq : j * 4 + i < p.funcs.length * 4 := by omega
        obtain ⟨u, hu, _⟩ := row_cells flat_fn HKF.out (j * 4 + i) hq
        rw [hu]
        refine HVF11.out.cell ?_
        rw [List.getElem?_set_ne (by omega), List.getElem?_set_ne (by omega), List.getElem?_set_ne (by omega), List.getElem?_set_ne (by omega), HFC.out _ hq, hu]; rfl
      · have hf := HKF.out m x HX.out
        refine ⟨?_, ?_, ?_, ⟨_, ?_, hblk⟩, hf.nm, hf.ba, hf.br⟩
        · refine HVF11.out.cell ?_
          rw [List.getElem?_set_ne (by omega), List.getElem?_set_ne (by omega), List.getElem?_set_ne (by omega), List.getElem?_set_self (by rw [HFL.out]; omega)]; rfl
        · refine HVF11.out.cell ?_
          rw [List.getElem?_set_ne (by omega), List.getElem?_set_ne (by omega), List.getElem?_set_self (by rw [List.length_set, HFL.out]; omega)]
          show some (Value.int .i64 (A : Int)) = some (.int .i64 x.args)
          rw [HRA.out.2]
        · refine HVF11.out.cell ?_
          rw [List.getElem?_set_ne (by omega), List.getElem?_set_self (by rw [List.length_set, List.length_set, HFL.out]; omega)]
          show some (Value.int .i64 (R : Int)) = some (.int .i64 x.regs)
          rw [HRA.out.1]
        · refine HVF11.out.cell ?_
          exact List.getElem?_set_self (by rw [List.length_set, List.length_set, List.length_set, HFL.out]; omega)
    have hck := check_any ⟨p.heap, p.threads, p.funcs.set m (addF x k y dv)⟩ pt ct (some ⟨gF, 0, none⟩) cF W11 (IntsIn.keep HTN.out HB11.out) (by simp only [List.length_set]; exact hfns)
    simp only [List.length_set] at hck
    have hcv : checkV ⟨p.heap, p.threads, p.funcs.set m (addF x k y dv)⟩ = .tuple #[.agg #[.int .i64 0, .int .i64 0], .int .i64 0] := by
      unfold checkV
      rw [HCO.out m k x y dv HX.out HY.out HRG.out.1 (by rw [HRA.out.1]; exact HRG.out.2)]
    rw [hcv] at hck
    have HCK := shid hck
    clear hck hcv hins hblk hfns HVF11 HVI11 HVB11
    refine HCK.out.mono ?_
    rintro e W12 ⟨rfl, hb12⟩
    have HB12 := shid (sbt HB11.out (sbt hb12 (al1 W12 (.cells #[.int .i64 0, .int .i64 0] 29))))
    clear hb12
    go_wp2_with fail
    refine (law_head _).mono ?_
    rintro e W13 ⟨rfl, hb13⟩
    go_wp2_with fail
    go_ret
    exact ⟨rfl, sbt HB12.out hb13⟩
end Go.Proofs.Ythahjnjkiljaaaa
