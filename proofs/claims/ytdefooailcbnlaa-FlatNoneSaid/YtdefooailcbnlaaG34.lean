/- The walk of flat.copied: a program of its own memory. -/
import Derived.Test.YtdefooailcbnlaaG32
import Derived.Test.YtdefooailcbnlaaG33
import Derived.Deep.RegionLaw
import Derived.Deep.RegionHeld3
namespace Go.Proofs.Ytdefooailcbnlaa
open Go.RowKit Go.Deep
set_option linter.unusedVariables false
set_option linter.unusedSimpArgs false
theorem BlksIn.open' {w : World} {v : Value} {l : List Blk} (h : BlksIn w v l) (h0 : 0 < l.length) : l.length * 40 ≤ 140737488352000 ∧ ∃ b o c, v = .slice (some ⟨b, o, none⟩) l.length c ∧ ∀ (k : Nat) x, l[k]? = some x → BlkAt w b (o + k * 2) x := by
  obtain ⟨h1, p, c, b, o, rfl, ⟨hp, _⟩, h2⟩ := h
  obtain rfl := hp h0
  exact ⟨h1, b, o, c, rfl, h2⟩
theorem InsxIn.open' {w : World} {v : Value} {l : List Insx} (h : InsxIn w v l) (h0 : 0 < l.length) : l.length * 88 ≤ 140737488352000 ∧ ∃ b o c, v = .slice (some ⟨b, o, none⟩) l.length c ∧ ∀ (k : Nat) x, l[k]? = some x → InsxAt w b (o + k * 9) x := by
  obtain ⟨h1, p, c, b, o, rfl, ⟨hp, _⟩, h2⟩ := h
  obtain rfl := hp h0
  exact ⟨h1, b, o, c, rfl, h2⟩
theorem FnsIn.open' {w : World} {v : Value} {l : List Fnx} (h : FnsIn w v l) (h0 : 0 < l.length) : l.length * 56 ≤ 140737488352000 ∧ ∃ b o c, v = .slice (some ⟨b, o, none⟩) l.length c ∧ ∀ (k : Nat) x, l[k]? = some x → FnAt w b (o + k * 4) x := by
  obtain ⟨h1, p, c, b, o, rfl, ⟨hp, _⟩, h2⟩ := h
  obtain rfl := hp h0
  exact ⟨h1, b, o, c, rfl, h2⟩
theorem setCell_congr {w w' : World} {g : Nat} (h : w'.heap[g]? = w.heap[g]?) (i : Nat) (v : Value) : (w'.setCell ⟨g, i, none⟩ v).heap[g]? = (w.setCell ⟨g, i, none⟩ v).heap[g]? := by
  simp only [World.setCell, Array.getElem?_modify, h]
/-- The copy: it is read the same wherever blocks from lo on are the same. -/
def CopyP (w : World) (p : Prg) (e : Ending) (w' : World) : Prop :=
  ∃ pt nt ct pf nf cf lo, e = .returned (.agg #[.int .i64 p.heap, .slice pt nt ct, .slice pf nf cf]) ∧ w.heap.size ≤ lo ∧ Stab lo w' (fun W => IntsIn W (.slice pt nt ct) p.threads ∧ FnsIn W (.slice pf nf cf) p.funcs) ∧ Below w.heap.size w w'
set_option maxRecDepth 100000 in
set_option maxHeartbeats 8000000 in
theorem copied_any (w : World) (p : Prg) (hg : Good p) (pt : Option Addr) (ct : Nat) (pf : Option Addr) (cf : Nat) (hT : IntsIn w (.slice pt p.threads.length ct) p.threads) (hF : FnsIn w (.slice pf p.funcs.length cf) p.funcs) :
    Calls Try.prog 26 #[.agg #[.int .i64 p.heap, .slice pt p.threads.length ct, .slice pf p.funcs.length cf]] w (CopyP w p) := by
  have hnf : 0 < p.funcs.length := by have := hg.nf; omega
  obtain ⟨hfl, fb, fo, fc, hfe, hfa⟩ := hF.open' hnf
  cases hfe
  have hb0 : Below w.heap.size w ((w.alloc (.cells #[.int .i64 p.heap, .slice pt p.threads.length ct, .slice (some ⟨fb, fo, none⟩) p.funcs.length cf] 25)).alloc (.cells #[.int .i64 0, .slice none 0 0, .slice none 0 0] 25)) := ((Below.refl _ _).alloc (Nat.le_refl _) _).alloc (by simp) _
  have hP := (vrow_new w #[.int .i64 p.heap, .slice pt p.threads.length ct, .slice (some ⟨fb, fo, none⟩) p.funcs.length cf] 25).alloc (.cells #[.int .i64 0, .slice none 0 0, .slice none 0 0] 25)
  have hR := vrow_new (w.alloc (.cells #[.int .i64 p.heap, .slice pt p.threads.length ct, .slice (some ⟨fb, fo, none⟩) p.funcs.length cf] 25)) #[.int .i64 0, .slice none 0 0, .slice none 0 0] 25
  have hsz : ((w.alloc (.cells #[.int .i64 p.heap, .slice pt p.threads.length ct, .slice (some ⟨fb, fo, none⟩) p.funcs.length cf] 25)).alloc (.cells #[.int .i64 0, .slice none 0 0, .slice none 0 0] 25)).heap.size = w.heap.size + 2 := by simp
  rw [World.size_alloc] at hR
  have HP := fhid hP
  have HR := fhid hR
  have HB := fhid hb0
  have HS := fhid hsz
  clear hP hR hb0 hsz
  go_enter Try.func26, Try.ntmps26
  go_wp2_with fail
  generalize (w.alloc (.cells #[.int .i64 p.heap, .slice pt p.threads.length ct, .slice (some ⟨fb, fo, none⟩) p.funcs.length cf] 25)).alloc (.cells #[.int .i64 0, .slice none 0 0, .slice none 0 0] 25) = W0 at *
  have c0 := HP.out.cell (k := 0) rfl
  have c1 := HP.out.cell (k := 1) rfl
  have c2 := HP.out.cell (k := 2) rfl
  have hlt0 : w.heap.size < W0.heap.size := by rw [HS.out]; omega
  have hd0 : Below W0.heap.size W0 W0.drew := (Below.refl _ _).drew
  have HT1 := fhid (iclone_any W0.drew _ _ (IntsIn.keep (IntsIn.keep hT HB.out) hd0))
  have hfa0 : ∀ (k : Nat) x, p.funcs[k]? = some x → FnAt W0 fb (fo + k * 4) x := fun k x hx => (hfa k x hx).keep HB.out
  have HF1 := fhid (fun (W : World) (hW : Below W0.heap.size W0 W) => fclone_any W fb fo cf p.funcs hfl (fun k x hx => (hfa0 k x hx).keep hW))
  have HPC := fhid (fun (W : World) (hW : Below W0.heap.size W0 W) => (show (W.cell? ⟨w.heap.size, 0, none⟩ = some (.int .i64 p.heap) ∧ W.cell? ⟨w.heap.size, 1, none⟩ = some (.slice pt p.threads.length ct) ∧ W.cell? ⟨w.heap.size, 2, none⟩ = some (.slice (some ⟨fb, fo, none⟩) p.funcs.length cf)) ∧ W.frozen? ⟨w.heap.size, 1, none⟩ = false ∧ W.frozen? ⟨w.heap.size, 2, none⟩ = false from
    ⟨⟨(HP.out.below hW).cell (k := 0) rfl, (HP.out.below hW).cell (k := 1) rfl, (HP.out.below hW).cell (k := 2) rfl⟩, (HP.out.below hW).frozen 1, (HP.out.below hW).frozen 2⟩))
  go_region_law (first
    | (go_simp; go_at_call 38; refine HT1.out.mono ?_; rintro e W1 ⟨tv, rfl, hot, hb10⟩; have hb1 : Below W0.heap.size W0 W1 := hd0.trans hb10; obtain ⟨⟨q0, q1, q2⟩, qf1, qf2⟩ := HPC.out W1 hb1; obtain ⟨ptv, ctv, rfl, hbt⟩ := own_shape hot; have hlt1 := World.block_lt_of_cell? _ _ q0)
    | (go_simp; go_at_call 39; refine (HF1.out W1 hb1).mono ?_; rintro e W2 ⟨gF, cF, rfl, hgF, hvF, hb20⟩; have hb2 : Below W0.heap.size W0 W2 := hb1.trans (hb20.mono hb1.size); obtain ⟨⟨y0, y1, y2⟩, yf1, yf2⟩ := HPC.out W2 hb2))
  all_goals
    have hw01 := hb1.size
    have hw12 := hb20.size
    have hgFl := hvF.lt
    have o5 : Only (fun k => k = w.heap.size) W2 ((W2.setCell ⟨w.heap.size, 1, none⟩ (.slice ptv p.threads.length ctv)).setCell ⟨w.heap.size, 2, none⟩ (.slice (some ⟨gF, 0, none⟩) p.funcs.length cF)) := ((Only.refl (fun k => k = w.heap.size) W2).setCell (p := ⟨w.heap.size, 1, none⟩) rfl _).setCell (p := ⟨w.heap.size, 2, none⟩) rfl _
    have hP5 := ((HP.out.below hb2).set (k := 1) (by simp) (.slice ptv p.threads.length ctv)).set (k := 2) (by simp) (.slice (some ⟨gF, 0, none⟩) p.funcs.length cF)
    simp only [List.set_cons_zero, List.set_cons_succ] at hP5
    have hR5 := (HR.out.below hb2).of_block (o5.block _ (by omega) (by omega))
    have hF0 : ∀ (k : Nat) x, p.funcs[k]? = some x → DF.At w fb (fo + k * DF.s) x := hfa
    have hC2 : CRow DF 41 w W2 gF p.funcs 0 := CRow.start (HB.out.trans (hb1.mono HB.out.size)) hF0 hvF
    have hC5 := hC2.keep o5.size (fun k hk hk2 => o5.block k hk2 (by omega))
    have hTh := own_stab hot (by have := hT.1; simpa using this) (fun x hx => by
      obtain ⟨_, _, _, _, _, _, _, hh⟩ := hT
      obtain ⟨k, hk⟩ := List.getElem?_of_mem hx
      exact (hh k x hk).2)
    have hW5 : ∀ k, W0.heap.size ≤ k → k < W1.heap.size → ((W2.setCell ⟨w.heap.size, 1, none⟩ (.slice ptv p.threads.length ctv)).setCell ⟨w.heap.size, 2, none⟩ (.slice (some ⟨gF, 0, none⟩) p.funcs.length cF)).heap[k]? = W1.heap[k]? := fun k hk hk2 => (o5.block k (by omega) (by omega)).trans (hb20.block k hk2)
    have hB5 : Below w.heap.size w ((W2.setCell ⟨w.heap.size, 1, none⟩ (.slice ptv p.threads.length ctv)).setCell ⟨w.heap.size, 2, none⟩ (.slice (some ⟨gF, 0, none⟩) p.funcs.length cF)) := (HB.out.trans (hb2.mono HB.out.size)).trans (o5.below (by have := hb2.size; omega) (fun k hk e => by omega))
    have HTH := fhid (And.intro hTh hW5)
    have HB5 := fhid hB5
    have HP5 := fhid hP5
    have HR5 := fhid hR5
    have HC5 := fhid hC5
    have hgl : W1.heap.size ≤ gF := hgF
    clear o5 hP5 hR5 hF0 hC2 hC5 hTh hW5 hB5 hvF hb10 hb20 hb2 hot hbt q0 q1 q2 qf1 qf2 y0 y1 y2 yf1 yf2 hgF hgFl
    clear HT1 HF1 HPC c0 c1 c2 hfa0
    generalize ((W2.setCell ⟨w.heap.size, 1, none⟩ (.slice ptv p.threads.length ctv)).setCell ⟨w.heap.size, 2, none⟩ (.slice (some ⟨gF, 0, none⟩) p.funcs.length cF)) = W5 at *
    have c2 := HP5.out.cell (k := 2) rfl
    go_wp2_with fail
    go_loopw [19] (fun i wr => ∃ n : Nat, n ≤ p.funcs.length ∧ i = .int .i64 n ∧ CRow DF 41 w wr gF p.funcs n ∧ Below gF W5 wr) (fun i _ => p.funcs.length - (intOf i).toNat)
    case atStart => exact ⟨0, Nat.zero_le _, rfl, HC5.out, Below.refl _ _⟩
    case round =>
      obtain ⟨n, hn, rfl, hC, hB⟩ := hrel
      obtain ⟨wA, hwA⟩ : ∃ wA, wA = wr := ⟨wr, rfl⟩
      subst hwA
      have HCA := fhid hC
      have HBA := fhid hB
      have hBw : Below w.heap.size w wA := HB5.out.trans (hB.mono (by omega))
      have c2A := (HP5.out.keep hB (by omega)).cell (k := 2) rfl
      by_cases hlt : n < p.funcs.length
      · have hx := List.getElem?_eq_getElem hlt
        have hgx := hg.fn _ (List.getElem_mem hlt)
        obtain ⟨_, _, bv, hbc, _, hbs⟩ := hC.at' n _ hx
        obtain ⟨hbl, bb, bo, bc, rfl, hba⟩ := BlksIn.open' (hbs (Nat.le_refl _)) hgx.some'
        have f3 := hC.free (n * 4 + 3)
        have hnl : (n : Int) < p.funcs.length := by omega
        have hbc' : wA.cell? ⟨gF, n * 4 + 3, none⟩ = some (.slice (some ⟨bb, bo, none⟩) (p.funcs[n]).blocks.length bc) := hbc
        have hgFA := hC.lt
        have e1 : IntKind.i64.wrap ((n : Int) + 1) = ((n + 1 : Nat) : Int) := by rw [IntWalk.i64_in _ (by omega)]; omega
        have HX := fhid (And.intro hx hgx)
        have HBL := fhid (And.intro hbl hba)
        have hbk63 : (p.funcs[n]).blocks.length < 4611686018427387904 := by omega
        have HCL := fhid (bclone_any wA bb bo bc (p.funcs[n]).blocks hbl (fun k y hy => (hba k y hy).keep hBw))
        have HBW := fhid hBw
        generalize p.funcs[n] = x at *
        clear hC hB hbs hba hbl hbc hx hgx hBw
        go_wp2_with fail
        refine HCL.out.mono ?_
        rintro e W7 ⟨gB, cB, rfl, hgB, hvB, hb7⟩
        have HB7 := fhid hb7
        have f3' : W7.frozen? ⟨gF, n * 4 + 3, none⟩ = false := (hb7.frozen (p := ⟨gF, n * 4 + 3, none⟩) hgFA).trans f3
        have c37 : W7.cell? ⟨gF, n * 4 + 3, none⟩ = some (.slice (some ⟨bb, bo, none⟩) x.blocks.length bc) := (hb7.cell (p := ⟨gF, n * 4 + 3, none⟩) hgFA).trans hbc'
        have hgBl := hvB.lt
        have ho8 : Only (fun k => k = gF) W7 (W7.setCell ⟨gF, n * 4 + 3, none⟩ (.slice (some ⟨gB, 0, none⟩) x.blocks.length cB)) := (Only.refl (fun k => k = gF) W7).setCell (p := ⟨gF, n * 4 + 3, none⟩) rfl _
        have HC8 := fhid (show CRow DB 46 w (W7.setCell ⟨gF, n * 4 + 3, none⟩ (.slice (some ⟨gB, 0, none⟩) x.blocks.length cB)) gB x.blocks 0 from (CRow.start (D := DB) HBW.out HBL.out.2 hvB).keep ho8.size (fun k hk hk2 => ho8.block k hk2 (by omega)))
        have HO8 := fhid ho8
        have c38 := World.cell?_setCell_same W7 ⟨gF, n * 4 + 3, none⟩ (.slice (some ⟨gB, 0, none⟩) x.blocks.length cB) c37
        clear hvB hb7 ho8 hbc' f3
        have hsz7 := HB7.out.size
        have hH8 : ∀ k, k < wA.heap.size → k ≠ gF → (W7.setCell ⟨gF, n * 4 + 3, none⟩ (.slice (some ⟨gB, 0, none⟩) x.blocks.length cB)).heap[k]? = wA.heap[k]? := fun k hk hne => (HO8.out.block k (by omega) hne).trans (HB7.out.block k hk)
        have hF8 : (W7.setCell ⟨gF, n * 4 + 3, none⟩ (.slice (some ⟨gB, 0, none⟩) x.blocks.length cB)).heap[gF]? = (wA.setCell ⟨gF, n * 4 + 3, none⟩ (.slice (some ⟨gB, 0, none⟩) x.blocks.length cB)).heap[gF]? := setCell_congr (HB7.out.block gF hgFA) _ _
        have hS8 : wA.heap.size ≤ (W7.setCell ⟨gF, n * 4 + 3, none⟩ (.slice (some ⟨gB, 0, none⟩) x.blocks.length cB)).heap.size := Nat.le_trans hsz7 HO8.out.size
        have hbw8 : Below w.heap.size w (W7.setCell ⟨gF, n * 4 + 3, none⟩ (.slice (some ⟨gB, 0, none⟩) x.blocks.length cB)) := (HBW.out.trans (HB7.out.mono HBW.out.size)).trans (HO8.out.below (by have := HBW.out.size; omega) (fun k hk e => by have := HBW.out.size; have := HB5.out.size; have : k = gF := e; omega))
        have H8 := fhid (And.intro hH8 (And.intro hF8 (And.intro hS8 hbw8)))
        clear hH8 hF8 hS8 hbw8 HO8 HB7 HCL
        go_wp2_with fail
        clear f3' c37
        generalize (W7.setCell ⟨gF, n * 4 + 3, none⟩ (.slice (some ⟨gB, 0, none⟩) x.blocks.length cB)) = W8 at *
        go_loopw [39] (fun i wr => ∃ k : Nat, k ≤ x.blocks.length ∧ i = .int .i64 k ∧ CRow DB 46 w wr gB x.blocks k ∧ Below gB W8 wr) (fun i _ => x.blocks.length - (intOf i).toNat)
        case atStart => exact ⟨0, Nat.zero_le _, rfl, HC8.out, Below.refl _ _⟩
        case round =>
          obtain ⟨k, hk, rfl, hC, hB⟩ := hrel
          obtain ⟨wB, hwB⟩ : ∃ wB, wB = wr := ⟨wr, rfl⟩
          subst hwB
          have HCB := fhid hC
          have HBB := fhid hB
          have hwgB : w.heap.size ≤ gB := by have := HBW.out.size; omega
          have hBw2 : Below w.heap.size w wB := H8.out.2.2.2.trans (hB.mono hwgB)
          have c38B := (hB.cell (p := ⟨gF, n * 4 + 3, none⟩) (by show gF < gB; omega)).trans c38
          by_cases hltB : k < x.blocks.length
          · have hy := List.getElem?_eq_getElem hltB
            have hgy := HX.out.2.ins _ (List.getElem_mem hltB)
            obtain ⟨_, _, iv, hic, _, his⟩ := hC.at' k _ hy
            obtain ⟨hil, ib, io, ic, rfl, hia⟩ := InsxIn.open' (his (Nat.le_refl _)) hgy.1
            have f1 := hC.free (k * 2 + 1)
            have hkl : (k : Int) < x.blocks.length := by omega
            have hic' : wB.cell? ⟨gB, k * 2 + 1, none⟩ = some (.slice (some ⟨ib, io, none⟩) (x.blocks[k]).ins.length ic) := hic
            have hgBB := hC.lt
            have e2 : IntKind.i64.wrap ((k : Int) + 1) = ((k + 1 : Nat) : Int) := by rw [IntWalk.i64_in _ (by omega)]; omega
            have HY := fhid (And.intro hy hgy)
            have HIL := fhid (And.intro hil hia)
            have hik63 : (x.blocks[k]).ins.length < 4611686018427387904 := by omega
            have HCL := fhid (nclone_any wB ib io ic (x.blocks[k]).ins hil (fun j z hz => (hia j z hz).keep hBw2))
            have HBW2 := fhid hBw2
            generalize x.blocks[k] = y at *
            clear hC hB his hia hil hic hy hgy hBw2
            go_wp2_with fail
            refine HCL.out.mono ?_
            rintro e W9 ⟨gI, cI, rfl, hgI, hvI, hb9⟩
            have hsz9 := hb9.size
            have f1' : W9.frozen? ⟨gB, k * 2 + 1, none⟩ = false := (hb9.frozen (p := ⟨gB, k * 2 + 1, none⟩) hgBB).trans f1
            have c19 : W9.cell? ⟨gB, k * 2 + 1, none⟩ = some (.slice (some ⟨ib, io, none⟩) y.ins.length ic) := (hb9.cell (p := ⟨gB, k * 2 + 1, none⟩) hgBB).trans hic'
            have hgIl := hvI.lt
            have ho10 : Only (fun q => q = gB) W9 (W9.setCell ⟨gB, k * 2 + 1, none⟩ (.slice (some ⟨gI, 0, none⟩) y.ins.length cI)) := (Only.refl (fun q => q = gB) W9).setCell (p := ⟨gB, k * 2 + 1, none⟩) rfl _
            have HC10 := fhid (show CRow DI 44 w (W9.setCell ⟨gB, k * 2 + 1, none⟩ (.slice (some ⟨gI, 0, none⟩) y.ins.length cI)) gI y.ins 0 from (CRow.start (D := DI) HBW2.out HIL.out.2 hvI).keep ho10.size (fun q hq hq2 => ho10.block q hq2 (by omega)))
            have c110 := World.cell?_setCell_same W9 ⟨gB, k * 2 + 1, none⟩ (.slice (some ⟨gI, 0, none⟩) y.ins.length cI) c19
            have hH10 : ∀ q, q < wB.heap.size → q ≠ gB → (W9.setCell ⟨gB, k * 2 + 1, none⟩ (.slice (some ⟨gI, 0, none⟩) y.ins.length cI)).heap[q]? = wB.heap[q]? := fun q hq hne => (ho10.block q (by omega) hne).trans (hb9.block q hq)
            have hF10 : (W9.setCell ⟨gB, k * 2 + 1, none⟩ (.slice (some ⟨gI, 0, none⟩) y.ins.length cI)).heap[gB]? = (wB.setCell ⟨gB, k * 2 + 1, none⟩ (.slice (some ⟨gI, 0, none⟩) y.ins.length cI)).heap[gB]? := setCell_congr (hb9.block gB hgBB) _ _
            have hS10 : wB.heap.size ≤ (W9.setCell ⟨gB, k * 2 + 1, none⟩ (.slice (some ⟨gI, 0, none⟩) y.ins.length cI)).heap.size := Nat.le_trans hsz9 ho10.size
            have hbw10 : Below w.heap.size w (W9.setCell ⟨gB, k * 2 + 1, none⟩ (.slice (some ⟨gI, 0, none⟩) y.ins.length cI)) := (HBW2.out.trans (hb9.mono HBW2.out.size)).trans (ho10.below (by have := HBW2.out.size; omega) (fun q hq e => by have : q = gB := e; omega))
            have hbB10 : Below gB wB (W9.setCell ⟨gB, k * 2 + 1, none⟩ (.slice (some ⟨gI, 0, none⟩) y.ins.length cI)) := (hb9.mono (by omega)).trans (ho10.below (by omega) (fun q hq e => by have : q = gB := e; omega))
            have H10 := fhid (And.intro hH10 (And.intro hF10 (And.intro hS10 (And.intro hbw10 hbB10))))
            clear hvI hb9 ho10 hic' f1 hH10 hF10 hS10 hbw10 hbB10 HCL
            go_wp2_with fail
            generalize (W9.setCell ⟨gB, k * 2 + 1, none⟩ (.slice (some ⟨gI, 0, none⟩) y.ins.length cI)) = W10 at *
            go_loopw [61] (fun i wr => ∃ j : Nat, j ≤ y.ins.length ∧ i = .int .i64 j ∧ CRow DI 44 w wr gI y.ins j ∧ Below gI W10 wr) (fun i _ => y.ins.length - (intOf i).toNat)
            case atStart => exact ⟨0, Nat.zero_le _, rfl, HC10.out, Below.refl _ _⟩
            case round =>
              obtain ⟨j, hj, rfl, hC, hB⟩ := hrel
              have HCI := fhid hC
              have HBI := fhid hB
              have c110I := (hB.cell (p := ⟨gB, k * 2 + 1, none⟩) (by show gB < gI; omega)).trans c110
              have hwgI : w.heap.size ≤ gI := by have := HBW2.out.size; omega
              have hBw3 : Below w.heap.size w wr := H10.out.2.2.2.1.trans (hB.mono hwgI)
              by_cases hltI : j < y.ins.length
              · have hz := List.getElem?_eq_getElem hltI
                obtain ⟨_, _, av, hac, _, has⟩ := hC.at' j _ hz
                have hai := has (Nat.le_refl _)
                obtain ⟨pa, ca, rfl⟩ := hai.shape
                have f6 := hC.free (j * 9 + 6)
                have hjl : (j : Int) < y.ins.length := by omega
                have hac' : wr.cell? ⟨gI, j * 9 + 6, none⟩ = some (.slice pa (y.ins[j]).args.length ca) := hac
                have hgII := hC.lt
                have e3 : IntKind.i64.wrap ((j : Int) + 1) = ((j + 1 : Nat) : Int) := by rw [IntWalk.i64_in _ (by omega)]; omega
                have HZZ := fhid hz
                have HAI := fhid hai
                have hd3 : Below wr.heap.size wr wr.drew := (Below.refl _ _).drew
                have HCL := fhid (iclone_any wr.drew _ _ (IntsIn.keep (IntsIn.keep hai hBw3) hd3))
                generalize y.ins[j] = z at *
                have HKS := fhid (show ∀ w', Below wr.heap.size wr w' → w'.cell? ⟨gB, k * 2 + 1, none⟩ = some (.slice (some ⟨gI, 0, none⟩) y.ins.length cI) from fun w' hb => (hb.cell (p := ⟨gB, k * 2 + 1, none⟩) (World.block_lt_of_cell? _ _ c110I)).trans c110I)
                have HKA := fhid (fun (w' : World) (hb : Below wr.heap.size wr w') => And.intro ((hb.cell (p := ⟨gI, j * 9 + 6, none⟩) hgII).trans hac') ((hb.frozen (p := ⟨gI, j * 9 + 6, none⟩) hgII).trans f6))
                have hle : wr.heap.size ≤ wr.heap.size := Nat.le_refl _
                have hne : (⟨gI, j * 9 + 6, none⟩ : Addr) ≠ ⟨gB, k * 2 + 1, none⟩ := fun e => by have : gI = gB := congrArg Addr.block e; omega
                clear hC hB has hac hz hai hBw3
                go_wp2_with fail
                refine wp_region_held_drew (S := fun w' => w'.cell? ⟨gB, k * 2 + 1, none⟩ = some (.slice (some ⟨gI, 0, none⟩) y.ins.length cI)) (by kernel_rfl) (HKS.out _ hd3) (fun hHeld => ?_)
                refine wpAnyH_take (i := 0) (v := _) rfl (by kernel_rfl) (by kernel_rfl) (by kernel_rfl) (fun _ _ _ h => h) (Or.inl ⟨by rfl, (by intro w hSw; (try dsimp only at hSw); go_simp; try with_reducible rfl)⟩) (by assumption) ?_
                try simp only [Act.put, List.getElem_toArray, List.getElem_cons_zero, List.getElem_cons_succ, List.setIfInBounds_toArray, List.set_cons_zero, List.set_cons_succ]
                refine wpAnyH_take (i := 1) (v := _) rfl (by kernel_rfl) (by kernel_rfl) (by kernel_rfl) (fun _ _ _ h => h) (Or.inl ⟨by rfl, (by intro w hSw; (try dsimp only at hSw); go_simp; try with_reducible rfl)⟩) (by assumption) ?_
                try simp only [Act.put, List.getElem_toArray, List.getElem_cons_zero, List.getElem_cons_succ, List.setIfInBounds_toArray, List.set_cons_zero, List.set_cons_succ]
                refine wpAnyH_take (i := 2) (v := _) rfl (by kernel_rfl) (by kernel_rfl) (by kernel_rfl) (fun _ _ _ h => h) (Or.inl ⟨by rfl, (by intro w hSw; (try dsimp only at hSw); go_simp; try with_reducible rfl)⟩) (by assumption) ?_
                try simp only [Act.put, List.getElem_toArray, List.getElem_cons_zero, List.getElem_cons_succ, List.setIfInBounds_toArray, List.set_cons_zero, List.set_cons_succ]
                refine wpAnyH_take (i := 3) (v := _) rfl (by kernel_rfl) (by kernel_rfl) (by kernel_rfl) (fun _ _ _ h => h) (Or.inl ⟨by rfl, (by intro w hSw; (try dsimp only at hSw); go_simp; try with_reducible rfl)⟩) (by assumption) ?_
                try simp only [Act.put, List.getElem_toArray, List.getElem_cons_zero, List.getElem_cons_succ, List.setIfInBounds_toArray, List.set_cons_zero, List.set_cons_succ]
                refine wpAnyH_take (i := 4) (v := _) rfl (by kernel_rfl) (by kernel_rfl) (by kernel_rfl) (fun _ _ _ h => h) (Or.inl ⟨by rfl, (by intro w hSw; (try dsimp only at hSw); go_simp; try with_reducible rfl)⟩) (by assumption) ?_
                try simp only [Act.put, List.getElem_toArray, List.getElem_cons_zero, List.getElem_cons_succ, List.setIfInBounds_toArray, List.set_cons_zero, List.set_cons_succ]
                refine wpAnyH_take (i := 5) (v := _) rfl (by kernel_rfl) (by kernel_rfl) (by kernel_rfl) (fun _ _ _ h => h) (Or.inl ⟨by rfl, (by intro w hSw; (try dsimp only at hSw); go_simp; try with_reducible rfl)⟩) (by assumption) ?_
                try simp only [Act.put, List.getElem_toArray, List.getElem_cons_zero, List.getElem_cons_succ, List.setIfInBounds_toArray, List.set_cons_zero, List.set_cons_succ]
                refine wpAnyH_take (i := 6) (v := _) rfl (by kernel_rfl) (by kernel_rfl) (by kernel_rfl) (fun _ _ _ h => h) (Or.inl ⟨by rfl, (by intro w hSw; (try dsimp only at hSw); go_simp; try with_reducible rfl)⟩) (by assumption) ?_
                try simp only [Act.put, List.getElem_toArray, List.getElem_cons_zero, List.getElem_cons_succ, List.setIfInBounds_toArray, List.set_cons_zero, List.set_cons_succ]
                refine wpAnyH_take (i := 7) (v := _) rfl (by kernel_rfl) (by kernel_rfl) (by kernel_rfl) (fun _ _ _ h => h) (Or.inl ⟨by rfl, (by intro w hSw; (try dsimp only at hSw); go_simp; try with_reducible rfl)⟩) (by assumption) ?_
                try simp only [Act.put, List.getElem_toArray, List.getElem_cons_zero, List.getElem_cons_succ, List.setIfInBounds_toArray, List.set_cons_zero, List.set_cons_succ]
                refine wpAnyH_take (i := 8) (v := _) rfl (by kernel_rfl) (by kernel_rfl) (by kernel_rfl) (fun _ _ _ h => h) (Or.inl ⟨by rfl, (by intro w hSw; (try dsimp only at hSw); go_simp; try with_reducible rfl)⟩) (by assumption) ?_
                try simp only [Act.put, List.getElem_toArray, List.getElem_cons_zero, List.getElem_cons_succ, List.setIfInBounds_toArray, List.set_cons_zero, List.set_cons_succ]
                refine wpAnyH_take (i := 9) (v := _) rfl (by kernel_rfl) (by kernel_rfl) (by kernel_rfl) (fun _ _ _ h => h) (Or.inl ⟨by rfl, (by intro w hSw; (try dsimp only at hSw); go_simp; try with_reducible rfl)⟩) (by assumption) ?_
                try simp only [Act.put, List.getElem_toArray, List.getElem_cons_zero, List.getElem_cons_succ, List.setIfInBounds_toArray, List.set_cons_zero, List.set_cons_succ]
                refine wpAnyH_take (i := 10) (v := _) rfl (by kernel_rfl) (by kernel_rfl) (by kernel_rfl) (fun _ _ _ h => h) (Or.inl ⟨by rfl, (by intro w hSw; (try dsimp only at hSw); go_simp; try with_reducible rfl)⟩) (by assumption) ?_
                try simp only [Act.put, List.getElem_toArray, List.getElem_cons_zero, List.getElem_cons_succ, List.setIfInBounds_toArray, List.set_cons_zero, List.set_cons_succ]
                refine wpAnyH_take (i := 11) (v := _) rfl (by kernel_rfl) (by kernel_rfl) (by kernel_rfl) (fun _ _ _ h => h) (Or.inl ⟨by rfl, (by intro w hSw; (try dsimp only at hSw); go_simp; try with_reducible rfl)⟩) (by assumption) ?_
                try simp only [Act.put, List.getElem_toArray, List.getElem_cons_zero, List.getElem_cons_succ, List.setIfInBounds_toArray, List.set_cons_zero, List.set_cons_succ]
                refine wpAnyH_ready (rs := [12]) (by kernel_rfl) (by simp) ?_
                refine AllReadyH.cons rfl (fun K hK => ?_) AllReadyH.nil
                have c7 := (HKA.out _ hd3).1
                go_simp
                refine hK.out _ _ (HKS.out _ hd3) (fun hHeld3 => ?_)
                clear hK K c7
                try simp only [Act.put, List.getElem_toArray, List.getElem_cons_zero, List.getElem_cons_succ, List.setIfInBounds_toArray, List.set_cons_zero, List.set_cons_succ]
                refine wpAnyH_ready (rs := [13]) (by kernel_rfl) (by simp) ?_
                refine AllReadyH.cons rfl (fun K hK => ?_) AllReadyH.nil
                go_simp
                go_at_call 38
                (with_reducible refine HCL.out.mono ?_)
                rintro e W11 ⟨v11, rfl, ho11, hb110⟩
                have hb11 : Below wr.heap.size wr W11 := hd3.trans hb110
                have hle11 : wr.heap.size ≤ W11.heap.size := hb11.size
                obtain ⟨p11, c11, rfl, _⟩ := own_shape ho11
                go_wp2_with fail
                refine hK.out _ _ (HKS.out _ hb11) (fun hHeld4 => ?_)
                clear hK K
                try simp only [Act.put, List.getElem_toArray, List.getElem_cons_zero, List.getElem_cons_succ, List.setIfInBounds_toArray, List.set_cons_zero, List.set_cons_succ]
                refine wpAnyH_take (i := 14) (v := _) rfl (by kernel_rfl) (by kernel_rfl) (by kernel_rfl) (fun _ _ _ h => h) (Or.inl ⟨by rfl, (by intro w hSw; (try dsimp only at hSw); go_simp; try with_reducible rfl)⟩) (by assumption) ?_
                try simp only [Act.put, List.getElem_toArray, List.getElem_cons_zero, List.getElem_cons_succ, List.setIfInBounds_toArray, List.set_cons_zero, List.set_cons_succ]
                refine wpAnyH_take (i := 15) (v := _) rfl (by kernel_rfl) (by kernel_rfl) (by kernel_rfl) (fun _ _ _ h => h) (Or.inl ⟨by rfl, (by intro w hSw; (try dsimp only at hSw); go_simp; try with_reducible rfl)⟩) (by assumption) ?_
                try simp only [Act.put, List.getElem_toArray, List.getElem_cons_zero, List.getElem_cons_succ, List.setIfInBounds_toArray, List.set_cons_zero, List.set_cons_succ]
                refine wpAnyH_ready (rs := [16]) (by kernel_rfl) (by simp) ?_
                refine AllReadyH.cons rfl (fun K hK => ?_) AllReadyH.nil
                obtain ⟨q6, qf6⟩ := HKA.out W11 hb11
                go_simp
                refine hK.out _ _ (by rw [World.cell?_setCell_other _ _ _ _ hne]; exact HKS.out _ hb11) (fun hHeld5 => ?_)
                clear hK K
                try simp only [Act.put, List.getElem_toArray, List.getElem_cons_zero, List.getElem_cons_succ, List.setIfInBounds_toArray, List.set_cons_zero, List.set_cons_succ]
                refine wpAnyH_done (by kernel_rfl) ?_ _
                all_goals
                  have ho12 : Only (fun q => q = gI) W11 (W11.setCell ⟨gI, j * 9 + 6, none⟩ (.slice p11 z.args.length c11)) := (Only.refl (fun q => q = gI) W11).setCell (p := ⟨gI, j * 9 + 6, none⟩) rfl _
                  have hst := (own_stab ho11 HAI.out.1 (fun a ha => by
                    obtain ⟨_, _, _, _, _, _, _, hh⟩ := HAI.out
                    obtain ⟨q, hq⟩ := List.getElem?_of_mem ha
                    exact (hh q a hq).2)).keep (w' := W11.setCell ⟨gI, j * 9 + 6, none⟩ (.slice p11 z.args.length c11)) ho12.size (fun q hq hq2 => ho12.block q hq2 (fun e => by have h1 : wr.heap.size ≤ q := hq; have h2 : q = gI := e; omega))
                  have hst2 : Stab (gI + 1) (W11.setCell ⟨gI, j * 9 + 6, none⟩ (.slice p11 z.args.length c11)) (fun W => DI.Sub W (.slice p11 z.args.length c11) z) := hst.low (by show gI + 1 ≤ wr.heap.size; omega)
                  have hcs := HCI.out.step HZZ.out (.slice p11 z.args.length c11) (Nat.le_trans hb11.size ho12.size) (setCell_congr (hb11.block gI hgII) _ _) (fun q hq hq2 => (ho12.block q (by have := hb11.size; omega) (by omega)).trans (hb11.block q hq2)) hst2
                  have hbn : Below gI W10 (W11.setCell ⟨gI, j * 9 + 6, none⟩ (.slice p11 z.args.length c11)) := (HBI.out.trans (hb11.mono (by omega))).trans (ho12.below (by have := hb11.size; omega) (fun q hq e => by have : q = gI := e; omega))
                  have HFN := fhid (And.intro hcs hbn)
                  clear ho12 hst hst2 hcs hbn ho11 hb110 hb11 hle11 q6 qf6 HKS HKA HCL
                  go_wp2_with fail
                  exact ⟨⟨j + 1, by omega, by go_num, HFN.out.1, HFN.out.2⟩, by simp [intOf]; omega⟩
              · obtain rfl : j = y.ins.length := by omega
                have hwB1 := H10.out.2.2.1
                have hst : Stab (gB + 1) wr (fun W => DB.Sub W (.slice (some ⟨gI, 0, none⟩) y.ins.length cI) y) := (CRow.fin (D := DI) HCI.out HIL.out.1 cI).low (by omega)
                have hcs := HCB.out.step HY.out.1 (.slice (some ⟨gI, 0, none⟩) y.ins.length cI) (Nat.le_trans hwB1 HBI.out.size) ((HBI.out.block gB (by omega)).trans H10.out.2.1) (fun q hq hq2 => (HBI.out.block q (by omega)).trans (H10.out.1 q hq2 (by omega))) hst
                have hbn : Below gB W8 wr := (HBB.out.trans H10.out.2.2.2.2).trans (HBI.out.mono (by omega))
                have HFN := fhid (And.intro hcs hbn)
                clear hst hcs hbn hC hB hBw3
                go_wp2_with fail
                exact ⟨⟨k + 1, by omega, by go_num, HFN.out.1, HFN.out.2⟩, by simp [intOf]; omega⟩
          · obtain rfl : k = x.blocks.length := by omega
            have hwA1 := H8.out.2.2.1
            have hst : Stab (gF + 1) wB (fun W => DF.Sub W (.slice (some ⟨gB, 0, none⟩) x.blocks.length cB) x) := (CRow.fin (D := DB) HCB.out HBL.out.1 cB).low (by omega)
            have hcs := HCA.out.step HX.out.1 (.slice (some ⟨gB, 0, none⟩) x.blocks.length cB) (Nat.le_trans hwA1 HBB.out.size) ((HBB.out.block gF (by omega)).trans H8.out.2.1) (fun q hq hq2 => (HBB.out.block q (by omega)).trans (H8.out.1 q hq2 (by omega))) hst
            have hbn : Below gF W5 wB := by
              refine ⟨(HBB.out.os.trans H8.out.2.2.2.os).trans HB5.out.os.symm, (HBB.out.tape.trans H8.out.2.2.2.tape).trans HB5.out.tape.symm, (HBB.out.output.trans H8.out.2.2.2.output).trans HB5.out.output.symm, Nat.le_trans HBA.out.size (Nat.le_trans hwA1 HBB.out.size), fun q hq => ?_⟩
              exact ((HBB.out.block q (by omega)).trans (H8.out.1 q (by omega) (by omega))).trans (HBA.out.block q hq)
            have HFN := fhid (And.intro hcs hbn)
            clear hst hcs hbn hC hB hBw2
            go_wp2_with fail
            exact ⟨⟨n + 1, by omega, by go_num, HFN.out.1, HFN.out.2⟩, by simp [intOf]; omega⟩
      · obtain rfl : n = p.funcs.length := by omega
        have hfin := CRow.fin (D := DF) hC hfl cF
        have hs0 := HS.out
        have hPA := HP5.out.keep hB (by omega)
        have hRA := HR5.out.keep hB (by omega)
        have a0 := hPA.cell (k := 0) rfl
        have a1 := hPA.cell (k := 1) rfl
        have z0 := hRA.cell (k := 0) rfl
        have z1 := hRA.cell (k := 1) rfl
        have z2 := hRA.cell (k := 2) rfl
        have y0 := hRA.frozen 0
        have y1 := hRA.frozen 1
        have y2 := hRA.frozen 2
        have HRA := fhid hRA
        have HFIN := fhid hfin
        have HBW := fhid hBw
        clear hPA hRA hfin hBw hC hB
        go_wp2_with fail
        have h9 := ((HRA.out.set (k := 0) (by simp) (.int .i64 p.heap)).set (k := 1) (by simp) (.slice ptv p.threads.length ctv)).set (k := 2) (by simp) (.slice (some ⟨gF, 0, none⟩) p.funcs.length cF)
        simp only [List.set_cons_zero, List.set_cons_succ] at h9
        have o9 : Only (fun q => q = w.heap.size + 1) wA (((wA.setCell ⟨w.heap.size + 1, 0, none⟩ (.int .i64 p.heap)).setCell ⟨w.heap.size + 1, 1, none⟩ (.slice ptv p.threads.length ctv)).setCell ⟨w.heap.size + 1, 2, none⟩ (.slice (some ⟨gF, 0, none⟩) p.funcs.length cF)) := (((Only.refl (fun q => q = w.heap.size + 1) wA).setCell (p := ⟨w.heap.size + 1, 0, none⟩) rfl _).setCell (p := ⟨w.heap.size + 1, 1, none⟩) rfl _).setCell (p := ⟨w.heap.size + 1, 2, none⟩) rfl _
        generalize (((wA.setCell ⟨w.heap.size + 1, 0, none⟩ (.int .i64 p.heap)).setCell ⟨w.heap.size + 1, 1, none⟩ (.slice ptv p.threads.length ctv)).setCell ⟨w.heap.size + 1, 2, none⟩ (.slice (some ⟨gF, 0, none⟩) p.funcs.length cF)) = W9 at h9 o9 ⊢
        have r0 := h9.cell (k := 0) rfl
        have r1 := h9.cell (k := 1) rfl
        have r2 := h9.cell (k := 2) rfl
        have hb9 : Below w.heap.size w W9 := HBW.out.trans (o9.below HBW.out.size (fun q hq e => by have : q = w.heap.size + 1 := e; omega))
        have hgA := HCA.out.lt
        have hst9 : Stab W0.heap.size W9 (fun W => IntsIn W (.slice ptv p.threads.length ctv) p.threads ∧ FnsIn W (.slice (some ⟨gF, 0, none⟩) p.funcs.length cF) p.funcs) := by
          intro W hW
          have hs9 := o9.size
          have hWA : ∀ q, W0.heap.size ≤ q → q < wA.heap.size → W.heap[q]? = wA.heap[q]? := fun q hq hq2 => (hW q hq (by omega)).trans (o9.block q hq2 (fun e => by have : q = w.heap.size + 1 := e; omega))
          refine ⟨HTH.out.1 W fun q hq hq2 => ?_, HFIN.out W fun q hq hq2 => hWA q (by omega) hq2⟩
          have hq3 : W0.heap.size ≤ q := hq
          exact ((hWA q hq3 (by omega)).trans (HBA.out.block q (by omega))).trans (HTH.out.2 q hq3 hq2)
        exact bodyPost_ret (v := .agg #[.int .i64 p.heap, .slice ptv p.threads.length ctv, .slice (some ⟨gF, 0, none⟩) p.funcs.length cF]) (by simp [results, Try.results26, go_sem, r0, r1, r2]; try rfl) rfl ⟨_, _, _, _, _, _, W0.heap.size, rfl, by omega, hst9, hb9⟩
end Go.Proofs.Ytdefooailcbnlaa
