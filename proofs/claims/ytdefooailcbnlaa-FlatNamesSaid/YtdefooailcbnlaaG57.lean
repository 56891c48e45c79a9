/- The walk of muntinlaw16.FlatNames. -/
import Derived.Test.YtdefooailcbnlaaG49
import Derived.Test.YtdefooailcbnlaaG56
import Derived.Test.YtdefooailcbnlaaG47
import Derived.Test.YtdefooailcbnlaaG28
namespace Go.Proofs.Ytdefooailcbnlaa
open Go.RowKit Go.Deep
set_option linter.unusedVariables false
set_option linter.unusedSimpArgs false
set_option maxRecDepth 100000 in
set_option maxHeartbeats 16000000 in
theorem walk_FlatNames (p : Prg) (hh : I64 p.heap) (v cv : Value) (ch : List Int) (y0 : Int) (hy : 0 ≤ y0 ∧ y0 < 256) (w : World) (hv : PrgV w v p) (hc : WordsIn w cv ch) :
    Calls Try.prog 4 #[v, cv, .int .u8 y0] w fun e w' => e = .returned (.bool true) ∧ Below w.heap.size w w' := by
  obtain ⟨pt, ct, pf, cf, rfl, hT, hF⟩ := hv
  obtain ⟨hrd, hcw, hnl⟩ := hc.reads
  obtain ⟨pc, cc, hce⟩ := hc.shape
  subst hce
  obtain ⟨N, rfl⟩ := Int.eq_ofNat_of_zero_le hy.1
  have hfl := hF.1
  have HN0 := shid (show N < 256 by omega)
  have HCH0 := shid (And.intro hrd (And.intro hcw hnl))
  have HTN := shid hT
  have HFN := shid hF
  have hnn : pf = none → p.funcs.length = 0 ∧ cf = 0 := by
    obtain ⟨_, _, _, _, _, he, ⟨h1, h2⟩, _⟩ := hF
    cases he
    intro h
    refine ⟨Nat.eq_zero_of_not_pos (fun h0 => by rw [h1 h0] at h; cases h), h2 h⟩
  obtain ⟨_, _, fb, fo, hfe, _, HFS⟩ := hF.hids
  cases hfe
  have HPF := shid HFS.out.1
  have HKF := shid HFS.out.2
  have HPN := shid (show pf = none → p.funcs.length = 0 ∧ cf = 0 from hnn)
  have HPB := shid (PBox.new w p.heap (.slice pt p.threads.length ct) (.slice pf p.funcs.length cf) 25)
  have HW0 := shid (al1 w (.cells #[.int .i64 p.heap, .slice pt p.threads.length ct, .slice pf p.funcs.length cf] 25))
  have hwN : IntKind.i64.wrap (N : Int) = N := IntWalk.i64_in _ (by omega)
  clear hT hF HFS hrd hcw hnl hc hy hh
  obtain ⟨_, k0, k1, k2⟩ := HPB.out
  go_enter Try.func4, Try.ntmps4
  go_wp2_with fail
  generalize w.alloc (.cells #[.int .i64 p.heap, .slice pt p.threads.length ct, .slice pf p.funcs.length cf] 25) = W0 at *
  clear k0 k1 k2
  refine (great16_any p pt ct pf cf W0 (FnsIn.keep HFN.out HW0.out)).mono ?_
  rintro e W1 ⟨gb, rfl, _, hb1⟩
  have HW1 := shid (sbt HW0.out hb1)
  have HP1 := shid (HPB.out.keep hb1)
  clear hb1
  cases gb with
  | true =>
    go_wp2_with fail
    refine (head16_any _).mono ?_
    rintro e W99 ⟨rfl, hb99⟩
    go_wp2_with fail
    go_ret
    exact ⟨by first | rfl | simp, sbt HW1.out hb99⟩
  | false =>
    by_cases hgr : 100 < ch.length
    · have hg1 : decide ((ch.length : Int) > 100) = true := decide_eq_true (by omega)
      have hg2 : (ch.length : Int) > 100 := by omega
      go_wp2_with fail
      refine (head16_any _).mono ?_
      rintro e W99 ⟨rfl, hb99⟩
      go_wp2_with fail
      go_ret
      exact ⟨by first | rfl | simp, sbt HW1.out hb99⟩
    have hg1 : decide ((ch.length : Int) > 100) = false := decide_eq_false (by omega)
    have hg2 : ¬ (ch.length : Int) > 100 := by omega
    have HCL := shid (show ch.length ≤ 100 by omega)
    obtain ⟨hl1, k0, k1, k2⟩ := HP1.out
    go_wp2_with fail
    clear hg1 hg2 hgr
    have hrun := frun_any W1 p pt ct pf cf (.slice pc ch.length cc) ch (IntsIn.keep HTN.out HW1.out) (FnsIn.keep HFN.out HW1.out) (HCH0.out.1.keepb HW1.out) HCH0.out.2.1 (by have := HCL.out; omega) HCH0.out.2.2 N (by have := HN0.out; omega)
    rcases Classical.em ((checkS p).2.2 = 0) with he | he
    · rw [he, fin_yes he] at hrun
      have HE := shid he
      have HRN := shid hrun
      clear he hrun
      refine HRN.out.mono ?_
      rintro e W2 ⟨v2, rfl, hov, hb2⟩
      have hov2 := hov.here
      obtain ⟨p1, n1, q1, p2, n2, q2, rfl, _, _⟩ := hov.here
      clear hov
      have HA2 := shid (al1 W2 (.cells #[.slice p1 n1 q1, .int .u8 (run p N (newS p ch)).kind, .int .u32 (run p N (newS p ch)).v, .slice p2 n2 q2] 35))
      have HX3 := shid (sbt (sbt HW1.out hb2) HA2.out)
      have HP3 := shid ((HP1.out.keep hb2).keep HA2.out)
      have HO3 := shid (OutV.keep hov2 HA2.out)
      have HV3 := shid (vrow_new W2 #[.slice p1 n1 q1, .int .u8 (run p N (newS p ch)).kind, .int .u32 (run p N (newS p ch)).v, .slice p2 n2 q2] 35)
      clear hb2 hov2 HP1 HRN k0 k1 k2 hl1
      obtain ⟨hl1, k0, k1, k2⟩ := HP3.out
      go_upto_region 6 with (fail)
      clear k0 k1 k2 hl1 HA2
      generalize W2.alloc (.cells #[.slice p1 n1 q1, .int .u8 (run p N (newS p ch)).kind, .int .u32 (run p N (newS p ch)).v, .slice p2 n2 q2] 35) = W3 at *
      generalize W2.heap.size = gO at *
      obtain ⟨hl1, k0, k1, k2⟩ := HP3.out
      have HA3 := shid (al1 W3 (.cells #[.int .i64 p.heap, .slice pt p.threads.length ct, .slice pf p.funcs.length cf] 25))
      have HX6 := shid (sbt HX3.out HA3.out)
      have HP6 := shid (HP3.out.keep HA3.out)
      have HC6 := shid (TBox.new W3 (.int .i64 p.heap) (.slice pt p.threads.length ct) (.slice pf p.funcs.length cf) 25)
      have HY6 := shid HA3.out
      have hgc3 : W3.heap.size ≤ W3.heap.size := Nat.le_refl _
      go_upto_region 7 with (fail)
      clear k0 k1 k2 HA3 HP3 HX3
      generalize W3.alloc (.cells #[.int .i64 p.heap, .slice pt p.threads.length ct, .slice pf p.funcs.length cf] 25) = X6 at *
      generalize hgcd : W3.heap.size = gc at *
      obtain ⟨i3, z3, hi3, hz3, hsz3, hby3, hzc3⟩ := info3_parts infofn3
      have HNF := shid (rowCells_news flat_fn HKF.out)
      have HFL := shid (rowCells_length w fb fo (p.funcs.length * 4))
      have HFC := shid (fun (j : Nat) (hj : j < p.funcs.length * 4) => rowCells_get (w := w) (b := fb) (o := fo) hj)
      generalize rowCells w fb fo (p.funcs.length * 4) = fnews at *
      obtain ⟨_, k0, k1, k2⟩ := HP6.out
      obtain ⟨c0, c1, c2, cf0, cf1, cf2⟩ := HC6.out
      go_upto_region 8 with (at_builtin; refine wpList_append_copy _ (by rfl) (.tmp 34) (.tmp 36) 23 (by rfl) X6.heap.size 41 i3 z3 4 56 Try.underlying23 hi3 hz3 hsz3 hby3 hzc3 (by decide) X6.heap.size 0 (by rfl) (World.ownsRow_made X6 #[] 0 (Nat.le_refl _) (Nat.zero_le _) (by simp)) pf p.funcs.length cf fnews (by rfl) HFL.out HPN.out (fun ad had j u hj => by
        have hj0 : 0 < p.funcs.length := by have := (List.getElem?_eq_some_iff.1 hj).1; rw [HFL.out] at this; omega
        rw [HPF.out hj0] at had
        cases had
        have h1 := HNF.out.1 j u hj
        rw [show (⟨fb, fo, none⟩ : Addr).add j = ⟨fb, fo + j, none⟩ from by unfold Addr.add; split <;> simp [*]]
        exact ((sbt HX6.out (al1 _ _)).cell (World.block_lt_of_cell? _ _ h1)).trans h1) HNF.out.2 (by unfold maxLen; omega) (by omega) (by simp) (Nat.le_refl _) ?_; intro gF cF w9 hown hb90; have hb9 : Below X6.heap.size X6 w9 := ((Below.refl _ X6).alloc (Nat.le_refl _) _).trans hb90; obtain ⟨_, _, he9, hgF, hgF2, hvF⟩ := VRow.of_own' hown (by intro h; cases h); cases he9; obtain ⟨s0, s1, s2, sf0, sf1, sf2⟩ := HC6.out.keep hb9; have HVF := shid hvF; clear hown hb90)
      have hgc6 : gc < X6.heap.size := HC6.out.lt
      have hwl6 : w.heap.size < X6.heap.size := HP6.out.lt
      have hX9 := hb9.size
      have HC10 := shid (show TBox (w9.setCell ⟨gc, 2, none⟩ (.slice (some ⟨gF, 0, none⟩) p.funcs.length cF)) gc (.int .i64 p.heap) (.slice pt p.threads.length ct) (.slice (some ⟨gF, 0, none⟩) p.funcs.length cF) from (HC6.out.keep hb9).set2 _)
      have HP10 := shid (show PBox (w9.setCell ⟨gc, 2, none⟩ (.slice (some ⟨gF, 0, none⟩) p.funcs.length cF)) w.heap.size p.heap (.slice pt p.threads.length ct) (.slice pf p.funcs.length cf) from (HP6.out.keep hb9).far (by show gc ≠ w.heap.size; omega) _)
      have HX10 := shid (show Below w.heap.size w (w9.setCell ⟨gc, 2, none⟩ (.slice (some ⟨gF, 0, none⟩) p.funcs.length cF)) from (sbt HX6.out hb9).setCell (by show w.heap.size ≤ gc; omega) _)
      have HD10 := shid (show Below gc W3 (w9.setCell ⟨gc, 2, none⟩ (.slice (some ⟨gF, 0, none⟩) p.funcs.length cF)) from (HY6.out.trans (hb9.mono (by omega))).setCell (by show gc ≤ gc; exact Nat.le_refl _) _)
      have HNM := shid (show Names.Named w (w9.setCell ⟨gc, 2, none⟩ (.slice (some ⟨gF, 0, none⟩) p.funcs.length cF)) p.funcs fb fo gF (fun _ => True) 0 from by
        have hv := HVF.out.other (a := ⟨gc, 2, none⟩) (by show gF ≠ gc; omega) (.slice (some ⟨gF, 0, none⟩) p.funcs.length cF)
        refine ⟨⟨fnews, hv, HFL.out⟩, fun j x hj => by omega, fun j _ hj t ht => ?_⟩
        have hq : j * 4 + t < p.funcs.length * 4 := by omega
        obtain ⟨u, hu, _⟩ := row_cells flat_fn HKF.out (j * 4 + t) hq
        rw [Nat.add_assoc, hu]
        refine hv.cell ?_
        rw [HFC.out _ hq, hu]; rfl)
      clear k0 k1 k2 c0 c1 c2 cf0 cf1 cf2 s0 s1 s2 sf0 sf1 sf2 HC6 HP6 HX6 HVF
      generalize w9.setCell ⟨gc, 2, none⟩ (.slice (some ⟨gF, 0, none⟩) p.funcs.length cF) = X10 at *
      have hgcF : gc ≠ gF := by omega
      have hwF : w.heap.size < gF := by omega
      clear hb9 hi3 hz3
      go_wp2_with fail
      go_loopw [10] (fun i wr => ∃ k : Nat, k ≤ p.funcs.length ∧ i = .int .i64 k ∧ Names.Named w wr p.funcs fb fo gF (fun _ => True) k ∧ TBox wr gc (.int .i64 p.heap) (.slice pt p.threads.length ct) (.slice (some ⟨gF, 0, none⟩) p.funcs.length cF) ∧ PBox wr w.heap.size p.heap (.slice pt p.threads.length ct) (.slice pf p.funcs.length cf) ∧ Below w.heap.size w wr ∧ Below X6.heap.size X10 wr) (fun i _ => p.funcs.length - (intOf i).toNat)
      case atStart => exact ⟨0, Nat.zero_le _, rfl, HNM.out, HC10.out, HP10.out, HX10.out, Below.refl _ _⟩
      case round =>
        obtain ⟨i, hi, rfl, hnm, hc, hpb, hbw, hby⟩ := hrel
        have HN := shid hnm
        have HC := shid hc
        have HPX := shid hpb
        have HBW := shid hbw
        have HBY := shid hby
        clear hnm hc hpb hbw hby HNM HC10 HP10 HX10
        obtain ⟨c0, c1, c2, _, _, _⟩ := HC.out
        by_cases hlt : i < p.funcs.length
        · obtain rfl := HPF.out (by omega)
          have h1 : (i : Int) < p.funcs.length := by omega
          have HX := shid (List.getElem?_eq_getElem hlt)
          generalize p.funcs[i] = x at HX
          have HFX := shid (HKF.out i x HX.out)
          have d0 := (HN.out.same i (Nat.le_refl _) hlt 0 (by omega)).trans HFX.out.c0
          rw [Nat.add_zero] at d0
          have hgl := HN.out.row.choose_spec.1.lt
          have df := HN.out.row.choose_spec.1.frozen (i * 4)
          by_cases hs : x.name.size ≤ 60
          case neg =>
            have q1 := decide_eq_true (show (60 : Int) < x.name.size by omega)
            clear hs
            go_wp2_with fail
            refine (head16_any _).mono ?_
            rintro e W99 ⟨rfl, hb99⟩
            go_wp2_with fail
            go_ret
            exact ⟨by first | rfl | simp, sbt HBW.out hb99⟩
          have q1 := decide_eq_false (show ¬ (60 : Int) < x.name.size by omega)
          go_wp2_with fail
          have hgl0 : gF < (wr.setCell ⟨gF, i * 4, none⟩ (.string (sfy x.name))).heap.size := by simpa [World.setCell] using hgl
          have hdr := (Below.refl (wr.setCell ⟨gF, i * 4, none⟩ (.string (sfy x.name))).heap.size (wr.setCell ⟨gF, i * 4, none⟩ (.string (sfy x.name)))).drew
          have HMID := shid (show ∀ (gB c : Nat) (bl : List Value) (W : World), Below wr.heap.size (wr.setCell ⟨gF, i * 4, none⟩ (.string (sfy x.name))).drew W → wr.heap.size ≤ gB → VRow W gB 46 bl → bl.length = x.blocks.length * 2 → Names.BlkCells w x bl 0 → Names.Mid w (W.setCell ⟨gF, i * 4 + 3, none⟩ (.slice (some ⟨gB, 0, none⟩) x.blocks.length c)) p.funcs fb fo gF i x gB c 0 from fun gB c bl W hb hg hv hl hc => HN.out.mid HX.out HFX.out hs ((Below.refl _ (wr.setCell ⟨gF, i * 4, none⟩ (.string (sfy x.name)))).drew.trans hb) hg hv hl hc)
          have HC17 := shid (show TBox (wr.setCell ⟨gF, i * 4, none⟩ (.string (sfy x.name))).drew _ _ _ _ from (HC.out.far (p := ⟨gF, i * 4, none⟩) (by show gF ≠ gc; omega) (.string (sfy x.name))).keep hdr)
          have HP17 := shid (show PBox (wr.setCell ⟨gF, i * 4, none⟩ (.string (sfy x.name))).drew _ _ _ _ from (HPX.out.far (p := ⟨gF, i * 4, none⟩) (by show gF ≠ w.heap.size; omega) (.string (sfy x.name))).keep hdr)
          have HBW17 := shid (show Below w.heap.size w (wr.setCell ⟨gF, i * 4, none⟩ (.string (sfy x.name))).drew from (HBW.out.setCell (p := ⟨gF, i * 4, none⟩) (by show w.heap.size ≤ gF; omega) (.string (sfy x.name))).drew)
          have HBY17 := shid (show Below X6.heap.size X10 (wr.setCell ⟨gF, i * 4, none⟩ (.string (sfy x.name))).drew from (HBY.out.setCell (p := ⟨gF, i * 4, none⟩) (by show X6.heap.size ≤ gF; omega) (.string (sfy x.name))).drew)
          have HZ17 := shid (show (wr.setCell ⟨gF, i * 4, none⟩ (.string (sfy x.name))).drew.heap.size = wr.heap.size by simp [World.setCell])
          have HFR := shid (show (wr.setCell ⟨gF, i * 4, none⟩ (.string (sfy x.name))).drew.frozen? ⟨gF, i * 4 + 3, none⟩ = false by simpa using HN.out.row.choose_spec.1.frozen (i * 4 + 3))
          obtain ⟨bv, h3, hbv⟩ := HFX.out.c3
          have HB3 := shid (show (wr.setCell ⟨gF, i * 4, none⟩ (.string (sfy x.name))).drew.cell? ⟨gF, i * 4 + 3, none⟩ = some bv from (hdr.cell (p := ⟨gF, i * 4 + 3, none⟩) hgl0).trans ((World.cell?_setCell_other _ _ _ _ (fun e => by have := congrArg Addr.off e; simp only at this; omega)).trans ((HN.out.same i (Nat.le_refl _) hlt 3 (by omega)).trans h3)))
          clear hgl0 hdr
          obtain ⟨hbl, pb, cb, bb, bo, rfl, hpp, hbs⟩ := hbv
          have HPP := shid hpp
          have HBS := shid hbs
          have HH3 := shid h3
          clear hpp hbs h3
          go_wp2_with fail
          go_region
          all_goals go_wp2_with fail
          clear c0 c1 c2 d0 df q1
          rw [show x.name ++ (⟨#[95, 121]⟩ : ByteArray) = sfy x.name from rfl]
          generalize hX17 : (wr.setCell ⟨gF, i * 4, none⟩ (.string (sfy x.name))).drew = X17 at *
          have hXZ := HZ17.out
          have hgcl : gc < X17.heap.size := HC17.out.lt
          have hpl : w.heap.size < X17.heap.size := HP17.out.lt
          have hgl2 : gF < X17.heap.size := by omega
          have HKS := shid (show ∀ w', Below X17.heap.size X17 w' → w'.cell? ⟨w.heap.size, 2, none⟩ = some (.slice (some ⟨fb, fo, none⟩) p.funcs.length cf) ∧ w'.cell? ⟨gc, 2, none⟩ = some (.slice (some ⟨gF, 0, none⟩) p.funcs.length cF) ∧ w'.cell? ⟨fb, fo + i * 4 + 3, none⟩ = some (.slice pb x.blocks.length cb) from fun w' hb => ⟨(HP17.out.keep hb).c2, (HC17.out.keep hb).c2, ((sbt HBW17.out (hb.mono (by omega))).cell (World.block_lt_of_cell? _ _ HH3.out)).trans HH3.out⟩)
          have HKS2 := shid (show ∀ (w' : World) (u : Value), Below X17.heap.size X17 w' → (w'.setCell ⟨gF, i * 4 + 3, none⟩ u).cell? ⟨w.heap.size, 2, none⟩ = some (.slice (some ⟨fb, fo, none⟩) p.funcs.length cf) ∧ (w'.setCell ⟨gF, i * 4 + 3, none⟩ u).cell? ⟨gc, 2, none⟩ = some (.slice (some ⟨gF, 0, none⟩) p.funcs.length cF) ∧ (w'.setCell ⟨gF, i * 4 + 3, none⟩ u).cell? ⟨fb, fo + i * 4 + 3, none⟩ = some (.slice pb x.blocks.length cb) from fun w' u hb => by
            obtain ⟨j1, j2, j3⟩ := HKS.out w' hb
            have hfb : fb < w.heap.size := World.block_lt_of_cell? _ _ HH3.out
            exact ⟨(World.cell?_setCell_other _ _ _ _ (fun e => by have := congrArg Addr.block e; simp only at this; omega)).trans j1, (World.cell?_setCell_other _ _ _ _ (fun e => by have := congrArg Addr.block e; simp only at this; omega)).trans j2, (World.cell?_setCell_other _ _ _ _ (fun e => by have := congrArg Addr.block e; simp only at this; omega)).trans j3⟩)
          obtain ⟨i1, z1, hi1, hz1, hsz1, hby1, hzc1⟩ := info3_parts infoblk3
          have HNB := shid (rowCells_news flat_blk HBS.out)
          have HRL := shid (rowCells_length w bb bo (x.blocks.length * 2))
          have HNC := shid (fun (j : Nat) (hj : j < x.blocks.length * 2) => rowCells_get (w := w) (b := bb) (o := bo) hj)
          generalize rowCells w bb bo (x.blocks.length * 2) = bnews at *
          have HBC := shid (show Names.BlkCells w x bnews 0 from fun q y hy => by
            have hq : q < x.blocks.length := (List.getElem?_eq_some_iff.1 hy).1
            obtain ⟨e0, ⟨v, e1, e2⟩, _⟩ := HBS.out q y hy
            refine ⟨?_, fun h => by omega, v, ?_, e2⟩
            · rw [HNC.out _ (by omega), e0, if_neg (by omega)]; rfl
            · have h : w.cell? ⟨bb, bo + (q * 2 + 1), none⟩ = some v := by rw [← Nat.add_assoc]; exact e1
              rw [HNC.out _ (by omega), h]; rfl)
          have HOW := shid (World.ownsRow_made (base := X17.heap.size) (size := 2) (e := 46) X17 #[] 0 (Nat.le_refl _) (Nat.zero_le _) rfl)
          have HCN := shid (show ∀ w', Below X17.heap.size X17 w' → ∀ ad, pb = some ad → ∀ (j : Nat) u, bnews[j]? = some u → w'.cell? (ad.add j) = some u from fun w' hb ad had j u hu => by
            have hj : 0 < x.blocks.length := by have := (List.getElem?_eq_some_iff.1 hu).1; rw [HRL.out] at this; omega
            rw [HPP.out.1 hj] at had
            cases had
            have h1 := HNB.out.1 j u hu
            rw [show (⟨bb, bo, none⟩ : Addr).add j = ⟨bb, bo + j, none⟩ from by unfold Addr.add; split <;> simp [*]]
            exact ((sbt HBW17.out hb).cell (World.block_lt_of_cell? _ _ h1)).trans h1)
          have HPN1 := shid (show pb = none → x.blocks.length = 0 ∧ cb = 0 from fun h => ⟨Nat.eq_zero_of_not_pos (fun h0 => by rw [HPP.out.1 h0] at h; cases h), HPP.out.2 h⟩)
          have hbl63 : x.blocks.length ≤ maxLen := by unfold maxLen; omega
          have hbl40 : x.blocks.length * 40 ≤ 140737488355328 := by omega
          obtain ⟨_, p0, p1, p2⟩ := HP17.out
          obtain ⟨_, _, c2, _, _, _⟩ := HC17.out
          have d3 := HB3.out
          have df3 := HFR.out
          have hfc := ((sbt HBW17.out (Below.refl _ X17)).cell (World.block_lt_of_cell? _ _ HH3.out)).trans HH3.out
          go_region_held3 (fun w' => w'.cell? ⟨w.heap.size, 2, none⟩ = some (.slice (some ⟨fb, fo, none⟩) p.funcs.length cf) ∧ w'.cell? ⟨gc, 2, none⟩ = some (.slice (some ⟨gF, 0, none⟩) p.funcs.length cF) ∧ w'.cell? ⟨fb, fo + i * 4 + 3, none⟩ = some (.slice pb x.blocks.length cb)) (first | (refine HKS.out _ ?_; go_grown; done) | (refine HKS2.out _ _ ?_; go_grown; done))
            (((refine step_append_copy _ (by rfl) (.tmp 70) (.tmp 76) 39 (by rfl) X17.heap.size 46 i1 z1 2 40 Try.underlying39 hi1 hz1 hsz1 hby1 hzc1 (by decide) X17.heap.size 0 (by first | rfl | (go_simp; done) | (simp [Act.eval]; done)) (by first | exact HOW.out.drew | exact HOW.out) pb x.blocks.length cb bnews (by rfl) HRL.out HPN1.out (HCN.out _ (by go_grown)) HNB.out.2 hbl63 hbl40 (by simp) (Nat.le_refl _) ?_; intro g2 cap2 w2 hown2 hb20; have hb2 : Below X17.heap.size X17 w2 := Below.trans (by go_grown) hb20; have d4 := (hb2.cell (p := ⟨gF, i * 4 + 3, none⟩) hgl2).trans d3; have df4 := (hb2.frozen (p := ⟨gF, i * 4 + 3, none⟩) hgl2).trans df3; clear hb20)))
          all_goals
            go_wp2_with fail
            obtain ⟨_, _, he2, hgB, hgB2, hvB⟩ := VRow.of_own' hown2 (by intro h; cases h)
            cases he2
            have HM18 := shid (HMID.out g2 cap2 bnews w2 (by rw [← hXZ]; exact hb2) (by omega) hvB HRL.out HBC.out)
            have HC18 := shid (show TBox (w2.setCell ⟨gF, i * 4 + 3, none⟩ (.slice (some ⟨g2, 0, none⟩) x.blocks.length cap2)) _ _ _ _ from (HC17.out.keep hb2).far (by show gF ≠ gc; omega) _)
            have HP18 := shid (show PBox (w2.setCell ⟨gF, i * 4 + 3, none⟩ (.slice (some ⟨g2, 0, none⟩) x.blocks.length cap2)) _ _ _ _ from (HP17.out.keep hb2).far (by show gF ≠ w.heap.size; omega) _)
            have HX18 := shid (show Below w.heap.size w (w2.setCell ⟨gF, i * 4 + 3, none⟩ (.slice (some ⟨g2, 0, none⟩) x.blocks.length cap2)) from (sbt HBW17.out hb2).setCell (by show w.heap.size ≤ gF; omega) _)
            have HY18 := shid (show Below X6.heap.size X10 (w2.setCell ⟨gF, i * 4 + 3, none⟩ (.slice (some ⟨g2, 0, none⟩) x.blocks.length cap2)) from (HBY17.out.trans (hb2.mono (by omega))).setCell (by show X6.heap.size ≤ gF; omega) _)
            have hgBc : g2 ≠ gc := by omega
            have hgB6 : X6.heap.size ≤ g2 := by omega
            have hgBw : w.heap.size < g2 := by omega
            clear hown2 hb2 hvB p0 p1 p2 c2 d3 df3 d4 df4 hfc HKS HKS2 HC17 HP17 HBW17 HBY17 HB3 HFR HZ17 HMID HNB HRL HNC HBC HOW HCN hi1 hz1
            generalize w2.setCell ⟨gF, i * 4 + 3, none⟩ (.slice (some ⟨g2, 0, none⟩) x.blocks.length cap2) = X18 at *
            go_loopw [11] (fun q wq => ∃ k : Nat, k ≤ x.blocks.length ∧ q = .int .i64 k ∧ Names.Mid w wq p.funcs fb fo gF i x g2 cap2 k ∧ TBox wq gc (.int .i64 p.heap) (.slice pt p.threads.length ct) (.slice (some ⟨gF, 0, none⟩) p.funcs.length cF) ∧ PBox wq w.heap.size p.heap (.slice pt p.threads.length ct) (.slice (some ⟨fb, fo, none⟩) p.funcs.length cf) ∧ Below w.heap.size w wq ∧ Below X6.heap.size X10 wq) (fun q _ => x.blocks.length - (intOf q).toNat)
            case atStart => exact ⟨0, Nat.zero_le _, rfl, HM18.out, HC18.out, HP18.out, HX18.out, HY18.out⟩
            case round =>
              obtain ⟨k, hk, rfl, hm, hc, hpb, hbw, hby⟩ := hrel
              have HM2 := shid hm
              have HC2 := shid hc
              have HP2 := shid hpb
              have HX2 := shid hbw
              have HY2 := shid hby
              clear hm hc hpb hbw hby HM18 HC18 HP18 HX18 HY18
              obtain ⟨_, _, c2, _, _, _⟩ := HC2.out
              have e3 := HM2.out.bv
              by_cases hlt2 : k < x.blocks.length
              · have hk1 : (k : Int) < x.blocks.length := by omega
                have HY := shid (List.getElem?_eq_getElem hlt2)
                generalize x.blocks[k] = y at HY
                have d0 := HM2.out.name HY.out
                have df := HM2.out.free (k * 2)
                by_cases hs2 : y.name.size ≤ 60
                case neg =>
                  have q1 := decide_eq_true (show (60 : Int) < y.name.size by omega)
                  clear hs2
                  go_wp2_with fail
                  refine (head16_any _).mono ?_
                  rintro e W99 ⟨rfl, hb99⟩
                  go_wp2_with fail
                  go_ret
                  exact ⟨by first | rfl | simp, sbt HX2.out hb99⟩
                have q2 := decide_eq_false (show ¬ (60 : Int) < y.name.size by omega)
                have hdr := (Below.refl (wr.setCell ⟨g2, k * 2, none⟩ (.string (pfb y.name))).heap.size (wr.setCell ⟨g2, k * 2, none⟩ (.string (pfb y.name)))).drew
                have HM3 := shid (show Names.Mid w (wr.setCell ⟨g2, k * 2, none⟩ (.string (pfb y.name))).drew p.funcs fb fo gF i x g2 cap2 (k + 1) from (HM2.out.step HY.out hs2).keep hdr)
                have HC3 := shid (show TBox (wr.setCell ⟨g2, k * 2, none⟩ (.string (pfb y.name))).drew _ _ _ _ from (HC2.out.far (p := ⟨g2, k * 2, none⟩) hgBc (.string (pfb y.name))).keep hdr)
                have HP3 := shid (show PBox (wr.setCell ⟨g2, k * 2, none⟩ (.string (pfb y.name))).drew _ _ _ _ from (HP2.out.far (p := ⟨g2, k * 2, none⟩) (by show g2 ≠ w.heap.size; omega) (.string (pfb y.name))).keep hdr)
                have HX3 := shid (show Below w.heap.size w (wr.setCell ⟨g2, k * 2, none⟩ (.string (pfb y.name))).drew from (HX2.out.setCell (p := ⟨g2, k * 2, none⟩) (by show w.heap.size ≤ g2; omega) (.string (pfb y.name))).drew)
                have HY3 := shid (show Below X6.heap.size X10 (wr.setCell ⟨g2, k * 2, none⟩ (.string (pfb y.name))).drew from (HY2.out.setCell (p := ⟨g2, k * 2, none⟩) (by show X6.heap.size ≤ g2; omega) (.string (pfb y.name))).drew)
                clear hdr
                go_wp2_with fail
                go_region
                all_goals
                  go_wp2_with fail
                  go_roundw
                  case rel => exact ⟨k + 1, by omega, by go_num, HM3.out, HC3.out, HP3.out, HX3.out, HY3.out⟩
                  case measure => simp [intOf]; omega
              · obtain rfl : k = x.blocks.length := by omega
                go_wp2_with fail
                go_roundw
                case rel => exact ⟨i + 1, by omega, by go_num, HM2.out.fin HX.out, HC2.out, HP2.out, HX2.out, HY2.out⟩
                case measure => simp [intOf]; omega
        · obtain rfl : i = p.funcs.length := by omega
          have HL := shid (show ∀ f ∈ p.funcs, f.name.size ≤ 60 ∧ ∀ b ∈ f.blocks, b.name.size ≤ 60 from fun f hf => by
            obtain ⟨j, hj⟩ := List.getElem?_of_mem hf
            have h := HN.out.done j f (List.getElem?_eq_some_iff.1 hj).1 hj
            exact ⟨h.1.short, h.2⟩)
          have HFS := shid (HN.out.fns (cF := cF) hfl HBW.out HKF.out)
          have hck := frun_any wr (renP sfy pfb p) pt ct (some ⟨gF, 0, none⟩) cF (.slice pc ch.length cc) ch (IntsIn.keep HTN.out HBW.out) (by show FnsIn wr (.slice _ (p.funcs.map (renFg sfy pfb)).length _) (p.funcs.map (renFg sfy pfb)); rw [List.length_map]; exact HFS.out) (HCH0.out.1.keepb HBW.out) HCH0.out.2.1 (by have := HCL.out; omega) HCH0.out.2.2 N (by have := HN0.out; omega)
          have hok : (checkS (renP sfy pfb p)).2.2 = 0 := by rw [show checkS (renP sfy pfb p) = (0, 0, 0) from reng_ok ren_sfy ren_pfb HL.out HE.out]
          rw [hok, fin_yes hok, reng_new, reng_run] at hck
          simp only [renP, List.length_map] at hck
          have HCK := shid hck
          have HDD := shid (show Below W3.heap.size W3 wr from by
            rw [hgcd]; exact HD10.out.trans (HBY.out.mono (by omega)))
          clear hck hlt hok
          go_wp2_with fail
          refine HCK.out.mono ?_
          rintro e W12 ⟨v12, rfl, hov, hb12⟩
          have hov2 := hov.here
          obtain ⟨p3, n3, q3, p4, n4, q4, rfl, _, _⟩ := hov.here
          clear hov
          have hal := al1 W12 (.cells #[.slice p3 n3 q3, .int .u8 (run p N (newS p ch)).kind, .int .u32 (run p N (newS p ch)).v, .slice p4 n4 q4] 35)
          have HX13 := shid (sbt (sbt HBW.out hb12) hal)
          have HD13 := shid (sbt (sbt HDD.out hb12) hal)
          have hq7 := HV3.out.below HD13.out
          have q12 := vrow_new W12 #[.slice p3 n3 q3, .int .u8 (run p N (newS p ch)).kind, .int .u32 (run p N (newS p ch)).v, .slice p4 n4 q4] 35
          have HSM := shid (osame_any (W12.alloc (.cells #[.slice p3 n3 q3, .int .u8 (run p N (newS p ch)).kind, .int .u32 (run p N (newS p ch)).v, .slice p4 n4 q4] 35)) _ _ _ _ _ _ _ _ _ _ (OutV.keep HO3.out HD13.out) (OutV.keep hov2 hal))
          have d0 := hq7.cell (k := 0) rfl
          have d1 := hq7.cell (k := 1) rfl
          have d2 := hq7.cell (k := 2) rfl
          have d3 := hq7.cell (k := 3) rfl
          have e0 := q12.cell (k := 0) rfl
          have e1 := q12.cell (k := 1) rfl
          have e2 := q12.cell (k := 2) rfl
          have e3 := q12.cell (k := 3) rfl
          clear hal hq7 q12 hov2 hb12
          go_wp2_with fail
          refine HSM.out.mono ?_
          rintro e W14 ⟨rfl, hb14⟩
          have HX14 := shid (sbt HX13.out hb14)
          clear hb14
          go_wp2_with fail
          refine (head16_any _).mono ?_
          rintro e W99 ⟨rfl, hb99⟩
          go_wp2_with fail
          go_ret
          exact ⟨by first | rfl | simp, sbt HX14.out hb99⟩
    · rw [checkS_err he, fin_no he] at hrun
      refine hrun.mono ?_
      rintro e W2 ⟨v2, rfl, hov, hb2⟩
      obtain ⟨p1, n1, q1, p2, n2, q2, rfl, _, _⟩ := hov.here
      have HX3 := shid (sbt (sbt HW1.out hb2) (al1 W2 (.cells #[.slice p1 n1 q1, .int .u8 0, .int .u32 0, .slice p2 n2 q2] 35)))
      clear hov hb2
      go_wp2_with fail
      refine (head16_any _).mono ?_
      rintro e W99 ⟨rfl, hb99⟩
      go_wp2_with fail
      go_ret
      exact ⟨by first | rfl | simp, sbt HX3.out hb99⟩
end Go.Proofs.Ytdefooailcbnlaa
