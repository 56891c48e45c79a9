/- The walk of ShapePaths. -/
import Derived.Test.YthahjnjkiljaaaaShapePathsLaw
import Derived.IntWalk
namespace Go.Proofs.Ythahjnjkiljaaaa
open Go.RowKit Go.Deep
set_option linter.unusedVariables false
set_option linter.unusedSimpArgs false
def BoolAt (w : World) (b o : Nat) (x : Bool) : Prop := w.cell? ⟨b, o, none⟩ = some (.bool x)
abbrev BoolsIn := RowIn BoolAt 1 1
theorem BoolsIn.keep {w w' : World} {v : Value} {l : List Bool} (h : BoolsIn w v l) (hb : Below w.heap.size w w') : BoolsIn w' v l := RowIn.keep h fun _ _ _ _ hh => (hb.cell (World.block_lt_of_cell? _ _ hh)).trans hh
theorem op_of_ends {x : Insx} (h : endsB x = true) : x.op = 8 ∨ x.op = 9 ∨ x.op = 10 := by
  unfold endsB at h; simp at h; omega
set_option maxRecDepth 100000 in
set_option maxHeartbeats 16000000 in
theorem walk_ShapePaths (p : Prg) (hh : I64 p.heap) (v : Value) (n : Int) (hn : I64 n) (wv : Value) (ways : List Bool) (w : World) (hv : PrgV w v p) (hwy : BoolsIn w wv ways) :
    Calls Try.prog 4 #[v, .int .i64 n, wv] w fun e w' => e = .returned (.bool true) ∧ Below w.heap.size w w' := by
  obtain ⟨pt, ct, pf, cf, rfl, hT, hF⟩ := hv
  have hwl := hwy.1
  have hfl := hF.1
  have HTN := shid hT
  have HFN := shid hF
  have HWY := shid hwy
  obtain ⟨pw, cw, wb, wo, rfl, _, HWS⟩ := hwy.hids
  obtain ⟨_, _, fb, fo, hfe, _, HFS⟩ := hF.hids
  cases hfe
  have HPF := shid HFS.out.1
  have HPW := shid HWS.out.1
  have HKF := shid (fun (W : World) (hb : Below w.heap.size w W) (k : Nat) (x : Fnx) (hk : p.funcs[k]? = some x) => (HFS.out.2 k x hk).keep hb)
  have HKW := shid (fun (W : World) (hb : Below w.heap.size w W) (k : Nat) (x : Bool) (hk : ways[k]? = some x) => show W.cell? ⟨wb, wo + k * 1, none⟩ = some (.bool x) from (hb.cell (World.block_lt_of_cell? _ _ (HWS.out.2 k x hk))).trans (HWS.out.2 k x hk))
  have HPB := shid (PBox.new w p.heap (.slice pt p.threads.length ct) (.slice pf p.funcs.length cf) 25)
  have HW0 := shid (al1 w (.cells #[.int .i64 p.heap, .slice pt p.threads.length ct, .slice pf p.funcs.length cf] 25))
  clear hT hF HFS hwy HWS
  obtain ⟨_, k0, k1, k2⟩ := HPB.out
  go_enter Try.func4, Try.ntmps4
  go_wp2_with fail
  generalize w.alloc (.cells #[.int .i64 p.heap, .slice pt p.threads.length ct, .slice pf p.funcs.length cf] 25) = W0 at *
  clear k0 k1 k2
  refine (great_any p pt ct pf cf W0 (FnsIn.keep HFN.out HW0.out)).mono ?_
  rintro e W1 ⟨gb, rfl, hb1⟩
  have HW1 := shid (sbt HW0.out hb1)
  have HP1 := shid (HPB.out.keep hb1)
  clear hb1
  obtain ⟨_, k0, k1, k2⟩ := HP1.out
  by_cases hgo : gb = false ∧ 0 ≤ n ∧ n < p.funcs.length
  case neg =>
    cases gb with
    | true =>
      go_wp2_with fail
      refine (law_head _).mono ?_
      rintro e W2 ⟨rfl, hb2⟩
      go_wp2_with fail
      go_ret
      exact ⟨rfl, sbt HW1.out hb2⟩
    | false =>
      by_cases z1 : n < 0
      · have q1 := decide_eq_true z1
        clear z1 hgo
        go_wp2_with fail
        refine (law_head _).mono ?_
        rintro e W2 ⟨rfl, hb2⟩
        go_wp2_with fail
        go_ret
        exact ⟨rfl, sbt HW1.out hb2⟩
      · have q1 := decide_eq_false z1
        have q2 := decide_eq_true (show (p.funcs.length : Int) ≤ n from by
          rcases Int.lt_or_le n p.funcs.length with h | h
          · exact absurd ⟨rfl, by omega, h⟩ hgo
          · exact h)
        clear z1 hgo
        go_wp2_with fail
        refine (law_head _).mono ?_
        rintro e W2 ⟨rfl, hb2⟩
        go_wp2_with fail
        go_ret
        exact ⟨rfl, sbt HW1.out hb2⟩
  obtain ⟨rfl, hn0, hn1⟩ := hgo
  obtain ⟨m, rfl⟩ := Int.eq_ofNat_of_zero_le hn0
  have hmf : m < p.funcs.length := by omega
  clear hn0 hn
  obtain rfl := HPF.out (by omega)
  go_wp2_with fail
  clear k0 k1 k2
  refine (check_any p pt ct (some ⟨fb, fo, none⟩) cf W1 (IntsIn.keep HTN.out HW1.out) (FnsIn.keep HFN.out HW1.out)).mono ?_
  rintro e W2 ⟨rfl, hb2⟩
  have HW2 := shid (sbt HW1.out hb2)
  have HP2 := shid (HP1.out.keep hb2)
  have HCV := shid (show checkV p = .tuple #[.agg #[.int .i64 (checkS p).1, .int .i64 (checkS p).2.1], .int .i64 (checkS p).2.2] from rfl)
  have HCM := shid (show (checkS p).2.2 = 0 → _ from checkS_may (p := p))
  have HA2 := shid (al1 W2 (.cells #[.int .i64 (checkS p).1, .int .i64 (checkS p).2.1] 29))
  clear hb2
  rw [HCV.out]
  clear HCV
  generalize (checkS p).1 = cl at *
  generalize (checkS p).2.1 = cc at *
  generalize (checkS p).2.2 = ce at *
  have HW3 := shid (sbt HW2.out HA2.out)
  have HP3 := shid (HP2.out.keep HA2.out)
  obtain ⟨_, k0, k1, k2⟩ := HP2.out
  by_cases hce : ce = 0
  case neg =>
    have q3 : (ce != 0) = true := by simpa using hce
    clear hce
    go_wp2_with fail
    refine (law_head _).mono ?_
    rintro e W4 ⟨rfl, hb4⟩
    go_wp2_with fail
    go_ret
    exact ⟨rfl, sbt HW3.out hb4⟩
  have q3 : (ce != 0) = false := by simpa using hce
  have hcm := HCM.out hce
  have HX := shid (List.getElem?_eq_getElem hmf)
  generalize p.funcs[m] = x at HX
  obtain ⟨A, R, hA, hR, hAR, hR4, hbk⟩ := blksOk_of hcm.2.1 hcm.2.2.1 HX.out
  have HBK := shid hbk
  have HMI := shid (hcm.2.2.2 m x HX.out)
  have HBO := shid (hcm.2.2.1 m x HX.out)
  obtain ⟨c0, c1, c2, ⟨bv, c3, hbv⟩, hnm, _, _⟩ := HKF.out w (Below.refl _ _) m x HX.out
  replace c0 := (HW3.out.cell (World.block_lt_of_cell? _ _ c0)).trans c0
  replace c1 := (HW3.out.cell (World.block_lt_of_cell? _ _ c1)).trans c1
  replace c2 := (HW3.out.cell (World.block_lt_of_cell? _ _ c2)).trans c2
  replace c3 := (HW3.out.cell (World.block_lt_of_cell? _ _ c3)).trans c3
  obtain ⟨pb, cb, rfl⟩ := hbv.shape
  have hbl := hbv.1
  have hbs := hbk.some
  have HBV := shid hbv
  generalize x.args = xa at *
  generalize x.regs = xr at *
  subst hA hR
  have hmk1 := run_make_row' (P := Try.prog) 45 4 (.bool false) 1 Try.underlying45 infobool rfl .i64 .i64 R (by omega) (by omega)
  obtain ⟨_, kk0, kk1, kk2⟩ := HP3.out
  clear hce hcm hbk hbv hnm
  go_wp2_with fail
  clear c0 c1 c2 c3 k0 k1 k2 kk0 kk1 kk2
  have HV0 := shid (show VRow (((W2.alloc (.cells #[.int .i64 cl, .int .i64 cc] 29)).alloc (.cells #[.string x.name, .int .i64 A, .int .i64 R, .slice pb x.blocks.length cb] 37)).alloc (.cells (madeCells #[.bool false] R) 4)) (W2.heap.size + 1 + 1) 4 (bools (firstL R 0)) by
    have h := VRow.of_rowIs (World.rowIs_made ((W2.alloc (.cells #[.int .i64 cl, .int .i64 cc] 29)).alloc (.cells #[.string x.name, .int .i64 A, .int .i64 R, .slice pb x.blocks.length cb] 37)) (.bool false) R 4)
    simp only [World.size_alloc] at h
    have e : bools (firstL R 0) = (List.range R).map fun _ => .bool false := by simp [bools, firstL]
    rw [e]; exact h)
  have HFB0 := shid ((FBox.new (W2.alloc (.cells #[.int .i64 cl, .int .i64 cc] 29)) x.name A R (.slice pb x.blocks.length cb) 37).keep (al1 _ (.cells (madeCells #[.bool false] R) 4)))
  have HW4 := shid (sbt HW3.out (al2 _ (.cells #[.string x.name, .int .i64 A, .int .i64 R, .slice pb x.blocks.length cb] 37) (.cells (madeCells #[.bool false] R) 4)))
  have HOL := shid (show Below W2.heap.size W2 (((W2.alloc (.cells #[.int .i64 cl, .int .i64 cc] 29)).alloc (.cells #[.string x.name, .int .i64 A, .int .i64 R, .slice pb x.blocks.length cb] 37)).alloc (.cells (madeCells #[.bool false] R) 4)) from al3 _ _ _ _)
  simp only [World.size_alloc] at HFB0
  have hz4 : (((W2.alloc (.cells #[.int .i64 cl, .int .i64 cc] 29)).alloc (.cells #[.string x.name, .int .i64 A, .int .i64 R, .slice pb x.blocks.length cb] 37)).alloc (.cells (madeCells #[.bool false] R) 4)).heap.size = W2.heap.size + 1 + 1 + 1 := by simp
  have HZ4 := shid hz4
  clear hz4 HA2 HP3 HW3 hmk1
  generalize ((W2.alloc (.cells #[.int .i64 cl, .int .i64 cc] 29)).alloc (.cells #[.string x.name, .int .i64 A, .int .i64 R, .slice pb x.blocks.length cb] 37)).alloc (.cells (madeCells #[.bool false] R) 4) = W4 at *
  generalize W2.heap.size = G2 at *
  go_loopw [11] (fun i wr => ∃ k : Nat, k ≤ A ∧ i = .int .i64 k ∧ VRow wr (G2 + 1 + 1) 4 (bools (firstL R k)) ∧ FBox wr (G2 + 1) x.name A R (.slice pb x.blocks.length cb) ∧ Below w.heap.size w wr ∧ wr.heap.size = G2 + 1 + 1 + 1) (fun i _ => A - (intOf i).toNat)
  case atStart => exact ⟨0, Nat.zero_le _, rfl, HV0.out, HFB0.out, HW4.out, HZ4.out⟩
  case round =>
    obtain ⟨k, hk, rfl, hv, hf, hbw, hz⟩ := hrel
    have HV := shid hv
    have HFB := shid hf
    have HBW := shid hbw
    have HZ := shid hz
    clear hv hf hbw hz HV0 HFB0 HW4 HZ4 HOL
    obtain ⟨_, p0, p1, p2, p3⟩ := HFB.out
    have hgw : w.heap.size < G2 + 1 := by have := HP2.out.lt; have := HBW.out.size; omega
    by_cases hlt : k < A
    · have hkR : (k : Int) < R := by omega
      have f0 := HV.out.frozen k
      have e0 := HV.out.cell (bools_get (firstL_get (k := k) (show k < R by omega)))
      have HV2 := shid (show VRow (wr.setCell ⟨G2 + 1 + 1, k, none⟩ (.bool true)) (G2 + 1 + 1) 4 (bools (firstL R (k + 1))) by
        have h := HV.out.set (k := k) (by rw [bools_length, firstL_length]; omega) (.bool true)
        rw [bools_set, firstL_succ _ _ (by omega)] at h
        exact h)
      have HFB2 := shid (HFB.out.far (p := ⟨G2 + 1 + 1, k, none⟩) (by show G2 + 1 + 1 ≠ G2 + 1; omega) (.bool true))
      have HBW2 := shid (HBW.out.setCell (p := ⟨G2 + 1 + 1, k, none⟩) (by show w.heap.size ≤ G2 + 1 + 1; omega) (.bool true))
      have HZ2 := shid (show (wr.setCell ⟨G2 + 1 + 1, k, none⟩ (.bool true)).heap.size = G2 + 1 + 1 + 1 by rw [← HZ.out]; simp [World.setCell])
      go_wp2_with fail
      go_roundw
      case rel => exact ⟨k + 1, by omega, by go_num, HV2.out, HFB2.out, HBW2.out, HZ2.out⟩
      case measure => simp [intOf]; omega
    · obtain rfl : k = A := by omega
      clear hlt hk
      have HIN := shid (show insAt x.blocks 0 = insAt x.blocks 0 from rfl)
      have HI0 := shid (HBK.out.ins 0 hbs)
      go_wp2_with fail
      clear p0 p1 p2 p3
      obtain ⟨W5, hw5⟩ : ∃ W5, W5 = wr := ⟨wr, rfl⟩
      subst hw5
      generalize hA2 : k = A at *
      clear hA2
      go_loopw [12, 13, 14, 15] (fun av kv tv iv wr => ∃ a k t i : Nat, a < x.blocks.length ∧ k < (insAt x.blocks a).length ∧ t ≤ i ∧ i ≤ 200 ∧ av = .int .i64 a ∧ kv = .int .i64 k ∧ tv = .int .i64 t ∧ iv = .int .i64 i ∧ (∃ th, VRow wr (G2 + 1 + 1) 4 (bools th) ∧ PathAt x.blocks A R a k th) ∧ FBox wr (G2 + 1) x.name A R (.slice pb x.blocks.length cb) ∧ Below w.heap.size w wr ∧ G2 + 1 + 1 < wr.heap.size) (fun _ _ _ i _ => 200 - (intOf i).toNat)
      case atStart => exact ⟨0, 0, 0, 0, hbs, HI0.out, Nat.le_refl _, by omega, rfl, rfl, rfl, rfl, ⟨_, HV.out, path_start _ _ _⟩, HFB.out, HBW.out, by have := HZ.out; omega⟩
      case round =>
        obtain ⟨a, k, t, i, ha, hk, hti, hi, rfl, rfl, rfl, rfl, ⟨th, hv, hpa⟩, hf, hbw, hgl⟩ := hrel
        have HV5 := shid hv
        have HPA := shid hpa
        have HFB5 := shid hf
        have HBW5 := shid hbw
        have HHK := shid hk
        clear hv hpa hf hbw hk
        by_cases hlt : i < 200
        · have ha1 : (a : Int) < x.blocks.length := by omega
          have HZB := shid (List.getElem?_eq_getElem ha)
          generalize x.blocks[a] = z at HZB
          have HIA := shid (show insAt x.blocks a = z.ins by unfold insAt; rw [HZB.out]; rfl)
          have hkz : k < z.ins.length := by rw [← HIA.out]; exact HHK.out
          have hk1 : (k : Int) < z.ins.length := by omega
          obtain ⟨_, p0, p1, p2, p3⟩ := HFB5.out
          have hbv2 := BlksIn.keep HBV.out HBW5.out
          obtain ⟨_, _, bb, bo, hbe, _, HBS⟩ := hbv2.hids
          cases hbe
          obtain rfl := HBS.out.1 (by omega)
          have HNB := shid (show G2 + 1 + 1 ≠ bb from by
            have hbvw := HBV.out
            obtain ⟨_, _, b2, o2, hbe2, _, HBS2⟩ := hbvw.hids
            cases hbe2
            have h9 := HBS2.out.1 (by omega)
            cases h9
            have := World.block_lt_of_cell? _ _ (HBS2.out.2 a z HZB.out).c0
            simp only at this
            omega)
          obtain ⟨b0, ⟨iv, b1, hiv⟩, hnm⟩ := HBS.out.2 a z HZB.out
          obtain ⟨pi, ci, rfl⟩ := hiv.shape
          have hil := hiv.1
          obtain ⟨_, _, ib, io, hie, _, HIS⟩ := hiv.hids
          cases hie
          obtain rfl := HIS.out.1 (by omega)
          have HY := shid (List.getElem?_eq_getElem hkz)
          generalize z.ins[k] = y at HY
          obtain ⟨d0, d1, d2, d3, d4, d5, ⟨va, d6, hva⟩, d7, d8, hybd⟩ := HIS.out.2 k y HY.out
          obtain ⟨pa, ca, rfl⟩ := hva.shape
          have HVA := shid hva
          have HYB := shid hybd
          have HBX := shid (IBox.new wr y (.slice pa y.args.length ca) 44)
          have HW6 := shid (al1 wr (.cells #[.int .u8 y.op, .int .i64 y.d, .int .i64 y.a, .int .i64 y.b, .int .u32 y.n, .int .i64 y.f, .slice pa y.args.length ca, .int .i64 y.l1, .int .i64 y.l2] 44))
          have HYA := shid (show (insAt x.blocks a)[k]? = some y by rw [HIA.out]; exact HY.out)
          have HHB := shid ((block_ins HZB.out (HBO.out a z HZB.out)).2 k y HY.out)
          have HB1' := shid b1
          clear hbv2 hiv hnm hva hybd b0
          go_wp2_with fail
          clear d0 d1 d2 d3 d4 d5 d6 d7 d8
          have hG5 : G2 + 1 + 1 < wr.heap.size := hgl
          have HKB1 := shid (fun (W : World) (hb : Below wr.heap.size wr W) => (hb.cell (World.block_lt_of_cell? _ _ b1)).trans b1)
          have HBW6 := shid (sbt HBW5.out HW6.out)
          have HFB6 := shid (HFB5.out.keep HW6.out)
          have HV6 := shid (HV5.out.below HW6.out)
          have HVA6 := shid (IntsIn.keep HVA.out HW6.out)
          have HKB2 := shid (fun (W : World) (hb : Below (wr.alloc (.cells #[.int .u8 y.op, .int .i64 y.d, .int .i64 y.a, .int .i64 y.b, .int .u32 y.n, .int .i64 y.f, .slice pa y.args.length ca, .int .i64 y.l1, .int .i64 y.l2] 44)).heap.size (wr.alloc (.cells #[.int .u8 y.op, .int .i64 y.d, .int .i64 y.a, .int .i64 y.b, .int .u32 y.n, .int .i64 y.f, .slice pa y.args.length ca, .int .i64 y.l1, .int .i64 y.l2] 44)) W) => HKB1.out W (sbt HW6.out hb))
          have HN56 := shid (show wr.heap.size < (wr.alloc (.cells #[.int .u8 y.op, .int .i64 y.d, .int .i64 y.a, .int .i64 y.b, .int .u32 y.n, .int .i64 y.f, .slice pa y.args.length ca, .int .i64 y.l1, .int .i64 y.l2] 44)).heap.size by simp)
          generalize wr.alloc (.cells #[.int .u8 y.op, .int .i64 y.d, .int .i64 y.a, .int .i64 y.b, .int .u32 y.n, .int .i64 y.f, .slice pa y.args.length ca, .int .i64 y.l1, .int .i64 y.l2] 44) = W6 at *
          generalize wr.heap.size = G5 at *
          clear b1 p0 p1 p2 p3 HKB1 HV5 HFB5 HBW5 HVA HW6
          refine (rreads_any y HYB.out pa y.args.length ca W6 HVA6.out).mono ?_
          rintro e W7 ⟨v7, rfl, ho7, hb7⟩
          have HO7 := shid (IntsIn.of_ints HYB.out HVA6.out.1 ho7)
          obtain ⟨p7, c7, rfl, _⟩ := own_shape ho7
          obtain ⟨g7, hp7, hc7⟩ := own_cells ho7 rfl
          have HP7 := shid hp7
          have HC7 := shid hc7
          have HB7 := shid hb7
          have HV7 := shid (HV6.out.below hb7)
          have HBX7 := shid (HBX.out.keep hb7)
          have hlr := readsS_len (x := y) HVA6.out.1
          have HRR := shid ((HBK.out.names a y (List.mem_of_getElem? HYA.out)).1)
          clear ho7 hb7 hp7 hc7
          go_wp2_with fail
          go_loop [18] (fun j => ∃ q : Nat, q ≤ (readsS y).length ∧ j = .int .i64 q) (fun j => (readsS y).length - (intOf j).toNat)
          case atStart => exact ⟨0, Nat.zero_le _, rfl⟩
          case round =>
            obtain ⟨q, hq, rfl⟩ := hrel
            by_cases hltq : q < (readsS y).length
            · obtain rfl := HP7.out (by omega)
              have HZ := shid (List.getElem?_eq_getElem hltq)
              have HZM := shid (HRR.out _ (List.getElem_mem hltq))
              have HZI := shid (List.getElem_mem hltq)
              generalize (readsS y)[q] = r at HZ HZM HZI
              have e0 := HC7.out q r HZ.out
              obtain ⟨rn, rfl⟩ := Int.eq_ofNat_of_zero_le HZM.out.1
              have hz1 : (rn : Int) < R := HZM.out.2
              have e1 := HV7.out.cell (bools_get (path_read HBK.out HMI.out HPA.out ha HYA.out HZI.out))
              have h3 : (q : Int) < (readsS y).length := by omega
              go_wp2_with fail
              go_round
              case rel => exact ⟨q + 1, by omega, by go_num⟩
              case measure => simp [intOf]; omega
            · obtain ⟨_, x0, x1, x2, x3, x4, x5, x6, x7, x8⟩ := HBX7.out
              go_wp2_with fail
              clear x0 x1 x2 x3 x4 x5 x6 x7 x8
              refine (rwrites_any y HYB.out pa y.args.length ca W7).mono ?_
              rintro e W8 ⟨rfl, hb8⟩
              have HB8 := shid (sbt HB7.out hb8)
              have HV8 := shid (HV7.out.below hb8)
              have HBX8 := shid (HBX7.out.keep hb8)
              have HFB8 := shid (HFB6.out.keep HB8.out)
              have HBW8 := shid (sbt HBW6.out HB8.out)
              clear hb8 HC7 HP7 HO7 hltq hq
              have HWW := shid (show VRow W8 (G2 + 1 + 1) 4 (bools th) from HV8.out)
              have HKB8 := shid (fun (W : World) (hb : Below W8.heap.size W8 W) => HKB2.out W (sbt HB8.out hb))
              have HOP := shid (show k + 1 = z.ins.length → y.op = 8 ∨ y.op = 9 ∨ y.op = 10 from fun h => op_of_ends (by rw [HHB.out.1]; exact decide_eq_true h))
              cases hwb : writesB y
              case false =>
                have HT2 := shid (show wr1 th y = th by unfold wr1; rw [if_neg (by rw [hwb]; simp)])
                clear hwb
                go_wp2_with fail
                obtain ⟨W9, hw9⟩ : ∃ W9, W9 = W8 := ⟨W8, rfl⟩
                subst hw9
                have HV9 := shid (show VRow W9 (G2 + 1 + 1) 4 (bools (wr1 th y)) by rw [HT2.out]; exact HV8.out)
                have HBX9 := HBX8
                have HFB9 := HFB8
                have HBW9 := HBW8
                have HKB9 := HKB8
                clear HV8 HBX8 HFB8 HBW8 HKB8 HWW HT2
                have HP9 := shid (path_write HBK.out HPA.out HYA.out)
                have HEN := shid (fun W => ends_any y HYB.out pa y.args.length ca W)
                have HEB := shid (HHB.out.1)
                unfold Insx.agg at HEN
                generalize endsB y = eb at HEN HEB
                have HKS : Hid (∀ w', Below W9.heap.size W9 w' → w'.cell? ⟨G5, 0, none⟩ = some (.int .u8 y.op) ∧ w'.cell? ⟨G5, 1, none⟩ = some (.int .i64 y.d) ∧ w'.cell? ⟨G5, 2, none⟩ = some (.int .i64 y.a) ∧ w'.cell? ⟨G5, 3, none⟩ = some (.int .i64 y.b) ∧ w'.cell? ⟨G5, 4, none⟩ = some (.int .u32 y.n) ∧ w'.cell? ⟨G5, 5, none⟩ = some (.int .i64 y.f) ∧ w'.cell? ⟨G5, 6, none⟩ = some (.slice pa y.args.length ca) ∧ w'.cell? ⟨G5, 7, none⟩ = some (.int .i64 y.l1) ∧ w'.cell? ⟨G5, 8, none⟩ = some (.int .i64 y.l2) ∧ w'.cell? ⟨G2 + 1, 3, none⟩ = some (.slice (some ⟨bb, bo, none⟩) x.blocks.length cb) ∧ w'.cell? ⟨bb, bo + a * 2 + 1, none⟩ = some (.slice (some ⟨ib, io, none⟩) z.ins.length ci)) := shid fun w' hb => by
                  obtain ⟨_, b0, b1, b2, b3, b4, b5, b6, b7, b8⟩ := HBX9.out.keep hb
                  obtain ⟨_, f0, f1, f2, f3⟩ := HFB9.out.keep hb
                  exact ⟨b0, b1, b2, b3, b4, b5, b6, b7, b8, f3, HKB9.out _ hb⟩
                have hbd : Below W9.heap.size W9 W9.drew := (Below.refl _ _).drew
                have hle : W9.heap.size ≤ W9.heap.size := Nat.le_refl _
                have q6 : IntKind.i64.wrap ((k : Int) + 1) = (k : Int) + 1 := IntWalk.i64_in _ (by omega)
                by_cases hend : k + 1 = z.ins.length
                · have q5 : (((k : Int) + 1) == (z.ins.length : Int)) = true := by simp; omega
                  obtain rfl : eb = true := by rw [HEB.out]; exact decide_eq_true hend
                  go_region_held3 (fun w' => w'.cell? ⟨G5, 0, none⟩ = some (.int .u8 y.op) ∧ w'.cell? ⟨G5, 1, none⟩ = some (.int .i64 y.d) ∧ w'.cell? ⟨G5, 2, none⟩ = some (.int .i64 y.a) ∧ w'.cell? ⟨G5, 3, none⟩ = some (.int .i64 y.b) ∧ w'.cell? ⟨G5, 4, none⟩ = some (.int .u32 y.n) ∧ w'.cell? ⟨G5, 5, none⟩ = some (.int .i64 y.f) ∧ w'.cell? ⟨G5, 6, none⟩ = some (.slice pa y.args.length ca) ∧ w'.cell? ⟨G5, 7, none⟩ = some (.int .i64 y.l1) ∧ w'.cell? ⟨G5, 8, none⟩ = some (.int .i64 y.l2) ∧ w'.cell? ⟨G2 + 1, 3, none⟩ = some (.slice (some ⟨bb, bo, none⟩) x.blocks.length cb) ∧ w'.cell? ⟨bb, bo + a * 2 + 1, none⟩ = some (.slice (some ⟨ib, io, none⟩) z.ins.length ci)) (first | (with_reducible exact HKS.out _ hbd) | (with_reducible exact HKS.out _ hb10))
                    (first
                      | (go_at_call 14; (with_reducible refine (HEN.out _).mono ?_); rintro e w10 ⟨rfl, hb100⟩; have hb10 : Below W9.heap.size W9 w10 := sbt hbd hb100))
                  have HV10 := shid (HV9.out.below hb10)
                  have HFB10 := shid (HFB9.out.keep hb10)
                  have HBX10 := shid (HBX9.out.keep hb10)
                  have HBW10 := shid (sbt HBW9.out hb10)
                  have HK10 := shid (HKB9.out _ hb10)
                  clear hb10 hb100 hbd HKS q5 q6
                  have hop := HOP.out hend
                  have hnl : ¬ k + 1 < z.ins.length := by omega
                  have q7 := decide_eq_false (show ¬ ((k : Int) + 1 < z.ins.length) by omega)
                  obtain ⟨_, x0, x1, x2, x3, x4, x5, x6, x7, x8⟩ := HBX10.out
                  obtain ⟨_, p0, p1, p2, p3⟩ := HFB10.out
                  have b1 := HK10.out
                  by_cases h10 : y.op = 10
                  · have q8 : (y.op == 10) = true := by simpa using h10
                    clear hop h10
                    go_wp2_with fail
                    refine (law_head _).mono ?_
                    rintro e W11 ⟨rfl, hb11⟩
                    go_wp2_with fail
                    go_ret
                    exact ⟨rfl, sbt HBW10.out hb11⟩
                  have q8 : (y.op == 10) = false := by simpa using h10
                  by_cases h9 : y.op = 9
                  · have q9 : (y.op == 9) = true := by simpa using h9
                    by_cases htw : t < ways.length
                    · obtain rfl := HPW.out (by omega)
                      have HWT := shid (List.getElem?_eq_getElem htw)
                      generalize ways[t] = wt at HWT
                      have ew := HKW.out _ HBW10.out t wt HWT.out
                      rw [Nat.mul_one] at ew
                      have htw1 : (t : Int) < ways.length := by omega
                      cases wt with
                      | true =>
                        have HJ := shid (show y.l2 ∈ goesOf x.blocks a by rw [goes_last HYA.out (by rw [HIA.out]; exact hend)]; unfold goesS; rw [if_neg (by omega), if_pos h9]; simp)
                        have HTO := shid (HBK.out.to a _ HJ.out)
                        have HPG := shid (path_go HBK.out HP9.out (by rw [HIA.out]; exact hend) HJ.out)
                        have HIG := shid (HBK.out.ins (y.l2).toNat (by have := HTO.out; omega))
                        obtain ⟨jn, hjn⟩ := Int.eq_ofNat_of_zero_le HTO.out.1
                        have HJN := shid hjn
                        clear hjn
                        clear hop h10 h9
                        go_wp2_with fail
                        go_roundw
                        case rel => exact ⟨jn, 0, t + 1, i + 1, by have := HTO.out.2; have := HJN.out; omega, by have := HIG.out; rw [HJN.out] at this; exact this, by omega, by omega, by rw [HJN.out], rfl, by go_num, by go_num, ⟨_, HV10.out, by have := HPG.out; rw [HJN.out] at this; exact this⟩, HFB10.out, HBW10.out, by have := HBW10.out.size; have := HV10.out.lt; omega⟩
                        case measure => simp [intOf]; omega
                      | false =>
                        have HJ := shid (show y.l1 ∈ goesOf x.blocks a by rw [goes_last HYA.out (by rw [HIA.out]; exact hend)]; unfold goesS; rw [if_neg (by omega), if_pos h9]; simp)
                        have HTO := shid (HBK.out.to a _ HJ.out)
                        have HPG := shid (path_go HBK.out HP9.out (by rw [HIA.out]; exact hend) HJ.out)
                        have HIG := shid (HBK.out.ins (y.l1).toNat (by have := HTO.out; omega))
                        obtain ⟨jn, hjn⟩ := Int.eq_ofNat_of_zero_le HTO.out.1
                        have HJN := shid hjn
                        clear hjn
                        clear hop h10 h9
                        go_wp2_with fail
                        go_roundw
                        case rel => exact ⟨jn, 0, t + 1, i + 1, by have := HTO.out.2; have := HJN.out; omega, by have := HIG.out; rw [HJN.out] at this; exact this, by omega, by omega, by rw [HJN.out], rfl, by go_num, by go_num, ⟨_, HV10.out, by have := HPG.out; rw [HJN.out] at this; exact this⟩, HFB10.out, HBW10.out, by have := HBW10.out.size; have := HV10.out.lt; omega⟩
                        case measure => simp [intOf]; omega
                    · have htw1 := decide_eq_false (show ¬ ((t : Int) < ways.length) by omega)
                      have HJ := shid (show y.l1 ∈ goesOf x.blocks a by rw [goes_last HYA.out (by rw [HIA.out]; exact hend)]; unfold goesS; rw [if_neg (by omega), if_pos h9]; simp)
                      have HTO := shid (HBK.out.to a _ HJ.out)
                      have HPG := shid (path_go HBK.out HP9.out (by rw [HIA.out]; exact hend) HJ.out)
                      have HIG := shid (HBK.out.ins (y.l1).toNat (by have := HTO.out; omega))
                      obtain ⟨jn, hjn⟩ := Int.eq_ofNat_of_zero_le HTO.out.1
                      have HJN := shid hjn
                      clear hjn
                      clear hop h10 h9
                      go_wp2_with fail
                      go_roundw
                      case rel => exact ⟨jn, 0, t + 1, i + 1, by have := HTO.out.2; have := HJN.out; omega, by have := HIG.out; rw [HJN.out] at this; exact this, by omega, by omega, by rw [HJN.out], rfl, by go_num, by go_num, ⟨_, HV10.out, by have := HPG.out; rw [HJN.out] at this; exact this⟩, HFB10.out, HBW10.out, by have := HBW10.out.size; have := HV10.out.lt; omega⟩
                      case measure => simp [intOf]; omega
                  · have q9 : (y.op == 9) = false := by simpa using h9
                    have h8 : y.op = 8 := by omega
                    have HJ := shid (show y.l1 ∈ goesOf x.blocks a by rw [goes_last HYA.out (by rw [HIA.out]; exact hend)]; unfold goesS; rw [if_pos h8]; simp)
                    have HTO := shid (HBK.out.to a _ HJ.out)
                    have HPG := shid (path_go HBK.out HP9.out (by rw [HIA.out]; exact hend) HJ.out)
                    have HIG := shid (HBK.out.ins (y.l1).toNat (by have := HTO.out; omega))
                    obtain ⟨jn, hjn⟩ := Int.eq_ofNat_of_zero_le HTO.out.1
                    have HJN := shid hjn
                    clear hjn
                    clear hop h10 h9 h8
                    go_wp2_with fail
                    go_roundw
                    case rel => exact ⟨jn, 0, t + 1, i + 1, by have := HTO.out.2; have := HJN.out; omega, by have := HIG.out; rw [HJN.out] at this; exact this, by omega, by omega, by rw [HJN.out], rfl, by go_num, by go_num, ⟨_, HV10.out, by have := HPG.out; rw [HJN.out] at this; exact this⟩, HFB10.out, HBW10.out, by have := HBW10.out.size; have := HV10.out.lt; omega⟩
                    case measure => simp [intOf]; omega
                · have q5 : (((k : Int) + 1) == (z.ins.length : Int)) = false := by simp; omega
                  obtain rfl : eb = false := by rw [HEB.out]; exact decide_eq_false hend
                  go_region_held3 (fun w' => w'.cell? ⟨G5, 0, none⟩ = some (.int .u8 y.op) ∧ w'.cell? ⟨G5, 1, none⟩ = some (.int .i64 y.d) ∧ w'.cell? ⟨G5, 2, none⟩ = some (.int .i64 y.a) ∧ w'.cell? ⟨G5, 3, none⟩ = some (.int .i64 y.b) ∧ w'.cell? ⟨G5, 4, none⟩ = some (.int .u32 y.n) ∧ w'.cell? ⟨G5, 5, none⟩ = some (.int .i64 y.f) ∧ w'.cell? ⟨G5, 6, none⟩ = some (.slice pa y.args.length ca) ∧ w'.cell? ⟨G5, 7, none⟩ = some (.int .i64 y.l1) ∧ w'.cell? ⟨G5, 8, none⟩ = some (.int .i64 y.l2) ∧ w'.cell? ⟨G2 + 1, 3, none⟩ = some (.slice (some ⟨bb, bo, none⟩) x.blocks.length cb) ∧ w'.cell? ⟨bb, bo + a * 2 + 1, none⟩ = some (.slice (some ⟨ib, io, none⟩) z.ins.length ci)) (first | (with_reducible exact HKS.out _ hbd) | (with_reducible exact HKS.out _ hb10))
                    (first
                      | (go_at_call 14; (with_reducible refine (HEN.out _).mono ?_); rintro e w10 ⟨rfl, hb100⟩; have hb10 : Below W9.heap.size W9 w10 := sbt hbd hb100))
                  have HV10 := shid (HV9.out.below hb10)
                  have HFB10 := shid (HFB9.out.keep hb10)
                  have HBX10 := shid (HBX9.out.keep hb10)
                  have HBW10 := shid (sbt HBW9.out hb10)
                  have HK10 := shid (HKB9.out _ hb10)
                  clear hb10 hb100 hbd HKS q5 q6
                  have hk3 : (k : Int) + 1 < z.ins.length := by omega
                  obtain ⟨_, x0, x1, x2, x3, x4, x5, x6, x7, x8⟩ := HBX10.out
                  obtain ⟨_, p0, p1, p2, p3⟩ := HFB10.out
                  have b1 := HK10.out
                  go_wp2_with fail
                  go_roundw
                  case rel => exact ⟨a, k + 1, t, i + 1, ha, by rw [HIA.out]; omega, by omega, by omega, rfl, by go_num, rfl, by go_num, ⟨_, HV10.out, HP9.out⟩, HFB10.out, HBW10.out, by have := HBW10.out.size; have := HV10.out.lt; omega⟩
                  case measure => simp [intOf]; omega
              case true =>
                have HD := shid ((HBK.out.names a y (List.mem_of_getElem? HYA.out)).2 hwb)
                have HT2 := shid (show wr1 th y = th.set y.d.toNat true by unfold wr1; rw [if_pos hwb])
                have HWD := shid (show writesD y = y.d from if_pos hwb)
                clear hwb
                rw [HWD.out]
                obtain ⟨dn, hdn⟩ := Int.eq_ofNat_of_zero_le HD.out.1
                have HDN := shid hdn
                rw [hdn]
                clear hdn
                have h3 : (dn : Int) < R := by rw [← HDN.out]; exact HD.out.2
                have HDL := shid (show dn < th.length by rw [HPA.out.len]; omega)
                have f0 := HV8.out.frozen dn
                have e0 := HV8.out.cell (bools_get (List.getElem?_eq_getElem HDL.out))
                have HV9 := shid (show VRow (W8.setCell ⟨G2 + 1 + 1, dn, none⟩ (.bool true)) (G2 + 1 + 1) 4 (bools (wr1 th y)) by
                  have h := HV8.out.set (k := dn) (by rw [bools_length]; exact HDL.out) (.bool true)
                  rw [bools_set] at h
                  rw [HT2.out, HDN.out]; exact h)
                have HFB9 := shid (HFB8.out.far (p := ⟨G2 + 1 + 1, dn, none⟩) (by show G2 + 1 + 1 ≠ G2 + 1; omega) (.bool true))
                have HBX9 := shid (HBX8.out.far (p := ⟨G2 + 1 + 1, dn, none⟩) (by show G2 + 1 + 1 ≠ G5; omega) (.bool true))
                have HBW9 := shid (HBW8.out.setCell (p := ⟨G2 + 1 + 1, dn, none⟩) (by show w.heap.size ≤ G2 + 1 + 1; omega) (.bool true))
                have HKB9 := shid (show ∀ (W : World), Below (W8.setCell ⟨G2 + 1 + 1, dn, none⟩ (.bool true)).heap.size (W8.setCell ⟨G2 + 1 + 1, dn, none⟩ (.bool true)) W → W.cell? ⟨bb, bo + a * 2 + 1, none⟩ = some (.slice (some ⟨ib, io, none⟩) z.ins.length ci) from fun W hb => by
                  have h1 := HKB8.out W8 (Below.refl _ _)
                  have hlt := World.block_lt_of_cell? _ _ h1
                  have h2 : (W8.setCell ⟨G2 + 1 + 1, dn, none⟩ (.bool true)).cell? ⟨bb, bo + a * 2 + 1, none⟩ = some (.slice (some ⟨ib, io, none⟩) z.ins.length ci) := (World.cell?_setCell_other _ _ _ _ (fun e => HNB.out (congrArg Addr.block e))).trans h1
                  exact (hb.cell (World.block_lt_of_cell? _ _ h2)).trans h2)
                generalize th[dn]'HDL.out = sb at e0
                go_wp2_with fail
                clear e0 f0
                generalize W8.setCell ⟨G2 + 1 + 1, dn, none⟩ (.bool true) = W9 at *
                clear HV8 HBX8 HFB8 HBW8 HKB8 HWW HT2
                have HP9 := shid (path_write HBK.out HPA.out HYA.out)
                have HEN := shid (fun W => ends_any y HYB.out pa y.args.length ca W)
                have HEB := shid (HHB.out.1)
                unfold Insx.agg at HEN
                generalize endsB y = eb at HEN HEB
                have HKS : Hid (∀ w', Below W9.heap.size W9 w' → w'.cell? ⟨G5, 0, none⟩ = some (.int .u8 y.op) ∧ w'.cell? ⟨G5, 1, none⟩ = some (.int .i64 y.d) ∧ w'.cell? ⟨G5, 2, none⟩ = some (.int .i64 y.a) ∧ w'.cell? ⟨G5, 3, none⟩ = some (.int .i64 y.b) ∧ w'.cell? ⟨G5, 4, none⟩ = some (.int .u32 y.n) ∧ w'.cell? ⟨G5, 5, none⟩ = some (.int .i64 y.f) ∧ w'.cell? ⟨G5, 6, none⟩ = some (.slice pa y.args.length ca) ∧ w'.cell? ⟨G5, 7, none⟩ = some (.int .i64 y.l1) ∧ w'.cell? ⟨G5, 8, none⟩ = some (.int .i64 y.l2) ∧ w'.cell? ⟨G2 + 1, 3, none⟩ = some (.slice (some ⟨bb, bo, none⟩) x.blocks.length cb) ∧ w'.cell? ⟨bb, bo + a * 2 + 1, none⟩ = some (.slice (some ⟨ib, io, none⟩) z.ins.length ci)) := shid fun w' hb => by
                  obtain ⟨_, b0, b1, b2, b3, b4, b5, b6, b7, b8⟩ := HBX9.out.keep hb
                  obtain ⟨_, f0, f1, f2, f3⟩ := HFB9.out.keep hb
                  exact ⟨b0, b1, b2, b3, b4, b5, b6, b7, b8, f3, HKB9.out _ hb⟩
                have hbd : Below W9.heap.size W9 W9.drew := (Below.refl _ _).drew
                have hle : W9.heap.size ≤ W9.heap.size := Nat.le_refl _
                have q6 : IntKind.i64.wrap ((k : Int) + 1) = (k : Int) + 1 := IntWalk.i64_in _ (by omega)
                by_cases hend : k + 1 = z.ins.length
                · have q5 : (((k : Int) + 1) == (z.ins.length : Int)) = true := by simp; omega
                  obtain rfl : eb = true := by rw [HEB.out]; exact decide_eq_true hend
                  go_region_held3 (fun w' => w'.cell? ⟨G5, 0, none⟩ = some (.int .u8 y.op) ∧ w'.cell? ⟨G5, 1, none⟩ = some (.int .i64 y.d) ∧ w'.cell? ⟨G5, 2, none⟩ = some (.int .i64 y.a) ∧ w'.cell? ⟨G5, 3, none⟩ = some (.int .i64 y.b) ∧ w'.cell? ⟨G5, 4, none⟩ = some (.int .u32 y.n) ∧ w'.cell? ⟨G5, 5, none⟩ = some (.int .i64 y.f) ∧ w'.cell? ⟨G5, 6, none⟩ = some (.slice pa y.args.length ca) ∧ w'.cell? ⟨G5, 7, none⟩ = some (.int .i64 y.l1) ∧ w'.cell? ⟨G5, 8, none⟩ = some (.int .i64 y.l2) ∧ w'.cell? ⟨G2 + 1, 3, none⟩ = some (.slice (some ⟨bb, bo, none⟩) x.blocks.length cb) ∧ w'.cell? ⟨bb, bo + a * 2 + 1, none⟩ = some (.slice (some ⟨ib, io, none⟩) z.ins.length ci)) (first | (with_reducible exact HKS.out _ hbd) | (with_reducible exact HKS.out _ hb10))
                    (first
                      | (go_at_call 14; (with_reducible refine (HEN.out _).mono ?_); rintro e w10 ⟨rfl, hb100⟩; have hb10 : Below W9.heap.size W9 w10 := sbt hbd hb100))
                  have HV10 := shid (HV9.out.below hb10)
                  have HFB10 := shid (HFB9.out.keep hb10)
                  have HBX10 := shid (HBX9.out.keep hb10)
                  have HBW10 := shid (sbt HBW9.out hb10)
                  have HK10 := shid (HKB9.out _ hb10)
                  clear hb10 hb100 hbd HKS q5 q6
                  have hop := HOP.out hend
                  have hnl : ¬ k + 1 < z.ins.length := by omega
                  have q7 := decide_eq_false (show ¬ ((k : Int) + 1 < z.ins.length) by omega)
                  obtain ⟨_, x0, x1, x2, x3, x4, x5, x6, x7, x8⟩ := HBX10.out
                  obtain ⟨_, p0, p1, p2, p3⟩ := HFB10.out
                  have b1 := HK10.out
                  by_cases h10 : y.op = 10
                  · have q8 : (y.op == 10) = true := by simpa using h10
                    clear hop h10
                    go_wp2_with fail
                    refine (law_head _).mono ?_
                    rintro e W11 ⟨rfl, hb11⟩
                    go_wp2_with fail
                    go_ret
                    exact ⟨rfl, sbt HBW10.out hb11⟩
                  have q8 : (y.op == 10) = false := by simpa using h10
                  by_cases h9 : y.op = 9
                  · have q9 : (y.op == 9) = true := by simpa using h9
                    by_cases htw : t < ways.length
                    · obtain rfl := HPW.out (by omega)
                      have HWT := shid (List.getElem?_eq_getElem htw)
                      generalize ways[t] = wt at HWT
                      have ew := HKW.out _ HBW10.out t wt HWT.out
                      rw [Nat.mul_one] at ew
                      have htw1 : (t : Int) < ways.length := by omega
                      cases wt with
                      | true =>
                        have HJ := shid (show y.l2 ∈ goesOf x.blocks a by rw [goes_last HYA.out (by rw [HIA.out]; exact hend)]; unfold goesS; rw [if_neg (by omega), if_pos h9]; simp)
                        have HTO := shid (HBK.out.to a _ HJ.out)
                        have HPG := shid (path_go HBK.out HP9.out (by rw [HIA.out]; exact hend) HJ.out)
                        have HIG := shid (HBK.out.ins (y.l2).toNat (by have := HTO.out; omega))
                        obtain ⟨jn, hjn⟩ := Int.eq_ofNat_of_zero_le HTO.out.1
                        have HJN := shid hjn
                        clear hjn
                        clear hop h10 h9
                        go_wp2_with fail
                        go_roundw
                        case rel => exact ⟨jn, 0, t + 1, i + 1, by have := HTO.out.2; have := HJN.out; omega, by have := HIG.out; rw [HJN.out] at this; exact this, by omega, by omega, by rw [HJN.out], rfl, by go_num, by go_num, ⟨_, HV10.out, by have := HPG.out; rw [HJN.out] at this; exact this⟩, HFB10.out, HBW10.out, by have := HBW10.out.size; have := HV10.out.lt; omega⟩
                        case measure => simp [intOf]; omega
                      | false =>
                        have HJ := shid (show y.l1 ∈ goesOf x.blocks a by rw [goes_last HYA.out (by rw [HIA.out]; exact hend)]; unfold goesS; rw [if_neg (by omega), if_pos h9]; simp)
                        have HTO := shid (HBK.out.to a _ HJ.out)
                        have HPG := shid (path_go HBK.out HP9.out (by rw [HIA.out]; exact hend) HJ.out)
                        have HIG := shid (HBK.out.ins (y.l1).toNat (by have := HTO.out; omega))
                        obtain ⟨jn, hjn⟩ := Int.eq_ofNat_of_zero_le HTO.out.1
                        have HJN := shid hjn
                        clear hjn
                        clear hop h10 h9
                        go_wp2_with fail
                        go_roundw
                        case rel => exact ⟨jn, 0, t + 1, i + 1, by have := HTO.out.2; have := HJN.out; omega, by have := HIG.out; rw [HJN.out] at this; exact this, by omega, by omega, by rw [HJN.out], rfl, by go_num, by go_num, ⟨_, HV10.out, by have := HPG.out; rw [HJN.out] at this; exact this⟩, HFB10.out, HBW10.out, by have := HBW10.out.size; have := HV10.out.lt; omega⟩
                        case measure => simp [intOf]; omega
                    · have htw1 := decide_eq_false (show ¬ ((t : Int) < ways.length) by omega)
                      have HJ := shid (show y.l1 ∈ goesOf x.blocks a by rw [goes_last HYA.out (by rw [HIA.out]; exact hend)]; unfold goesS; rw [if_neg (by omega), if_pos h9]; simp)
                      have HTO := shid (HBK.out.to a _ HJ.out)
                      have HPG := shid (path_go HBK.out HP9.out (by rw [HIA.out]; exact hend) HJ.out)
                      have HIG := shid (HBK.out.ins (y.l1).toNat (by have := HTO.out; omega))
                      obtain ⟨jn, hjn⟩ := Int.eq_ofNat_of_zero_le HTO.out.1
                      have HJN := shid hjn
                      clear hjn
                      clear hop h10 h9
                      go_wp2_with fail
                      go_roundw
                      case rel => exact ⟨jn, 0, t + 1, i + 1, by have := HTO.out.2; have := HJN.out; omega, by have := HIG.out; rw [HJN.out] at this; exact this, by omega, by omega, by rw [HJN.out], rfl, by go_num, by go_num, ⟨_, HV10.out, by have := HPG.out; rw [HJN.out] at this; exact this⟩, HFB10.out, HBW10.out, by have := HBW10.out.size; have := HV10.out.lt; omega⟩
                      case measure => simp [intOf]; omega
                  · have q9 : (y.op == 9) = false := by simpa using h9
                    have h8 : y.op = 8 := by omega
                    have HJ := shid (show y.l1 ∈ goesOf x.blocks a by rw [goes_last HYA.out (by rw [HIA.out]; exact hend)]; unfold goesS; rw [if_pos h8]; simp)
                    have HTO := shid (HBK.out.to a _ HJ.out)
                    have HPG := shid (path_go HBK.out HP9.out (by rw [HIA.out]; exact hend) HJ.out)
                    have HIG := shid (HBK.out.ins (y.l1).toNat (by have := HTO.out; omega))
                    obtain ⟨jn, hjn⟩ := Int.eq_ofNat_of_zero_le HTO.out.1
                    have HJN := shid hjn
                    clear hjn
                    clear hop h10 h9 h8
                    go_wp2_with fail
                    go_roundw
                    case rel => exact ⟨jn, 0, t + 1, i + 1, by have := HTO.out.2; have := HJN.out; omega, by have := HIG.out; rw [HJN.out] at this; exact this, by omega, by omega, by rw [HJN.out], rfl, by go_num, by go_num, ⟨_, HV10.out, by have := HPG.out; rw [HJN.out] at this; exact this⟩, HFB10.out, HBW10.out, by have := HBW10.out.size; have := HV10.out.lt; omega⟩
                    case measure => simp [intOf]; omega
                · have q5 : (((k : Int) + 1) == (z.ins.length : Int)) = false := by simp; omega
                  obtain rfl : eb = false := by rw [HEB.out]; exact decide_eq_false hend
                  go_region_held3 (fun w' => w'.cell? ⟨G5, 0, none⟩ = some (.int .u8 y.op) ∧ w'.cell? ⟨G5, 1, none⟩ = some (.int .i64 y.d) ∧ w'.cell? ⟨G5, 2, none⟩ = some (.int .i64 y.a) ∧ w'.cell? ⟨G5, 3, none⟩ = some (.int .i64 y.b) ∧ w'.cell? ⟨G5, 4, none⟩ = some (.int .u32 y.n) ∧ w'.cell? ⟨G5, 5, none⟩ = some (.int .i64 y.f) ∧ w'.cell? ⟨G5, 6, none⟩ = some (.slice pa y.args.length ca) ∧ w'.cell? ⟨G5, 7, none⟩ = some (.int .i64 y.l1) ∧ w'.cell? ⟨G5, 8, none⟩ = some (.int .i64 y.l2) ∧ w'.cell? ⟨G2 + 1, 3, none⟩ = some (.slice (some ⟨bb, bo, none⟩) x.blocks.length cb) ∧ w'.cell? ⟨bb, bo + a * 2 + 1, none⟩ = some (.slice (some ⟨ib, io, none⟩) z.ins.length ci)) (first | (with_reducible exact HKS.out _ hbd) | (with_reducible exact HKS.out _ hb10))
                    (first
                      | (go_at_call 14; (with_reducible refine (HEN.out _).mono ?_); rintro e w10 ⟨rfl, hb100⟩; have hb10 : Below W9.heap.size W9 w10 := sbt hbd hb100))
                  have HV10 := shid (HV9.out.below hb10)
                  have HFB10 := shid (HFB9.out.keep hb10)
                  have HBX10 := shid (HBX9.out.keep hb10)
                  have HBW10 := shid (sbt HBW9.out hb10)
                  have HK10 := shid (HKB9.out _ hb10)
                  clear hb10 hb100 hbd HKS q5 q6
                  have hk3 : (k : Int) + 1 < z.ins.length := by omega
                  obtain ⟨_, x0, x1, x2, x3, x4, x5, x6, x7, x8⟩ := HBX10.out
                  obtain ⟨_, p0, p1, p2, p3⟩ := HFB10.out
                  have b1 := HK10.out
                  go_wp2_with fail
                  go_roundw
                  case rel => exact ⟨a, k + 1, t, i + 1, ha, by rw [HIA.out]; omega, by omega, by omega, rfl, by go_num, rfl, by go_num, ⟨_, HV10.out, HP9.out⟩, HFB10.out, HBW10.out, by have := HBW10.out.size; have := HV10.out.lt; omega⟩
                  case measure => simp [intOf]; omega
        · obtain rfl : i = 200 := by omega
          go_wp2_with fail
          refine (law_head _).mono ?_
          rintro e W9 ⟨rfl, hb9⟩
          go_wp2_with fail
          go_ret
          exact ⟨rfl, sbt HBW5.out hb9⟩
end Go.Proofs.Ythahjnjkiljaaaa
