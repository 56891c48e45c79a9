/- The walk of ShapeTells. -/
import Derived.Test.YthahjnjkiljaaaaShapeLaw
namespace Go.Proofs.Ythahjnjkiljaaaa
open Go.RowKit Go.Deep
set_option linter.unusedVariables false
set_option linter.unusedSimpArgs false
set_option maxRecDepth 100000 in
set_option maxHeartbeats 8000000 in
theorem walk_ShapeTells (p : Prg) (hh : I64 p.heap) (v : Value) (w : World) (hv : PrgV w v p) :
    Calls Try.prog 3 #[v] w fun e w' => e = .returned (.bool true) ∧ Below w.heap.size w w' := by
  obtain ⟨pt, ct, pf, cf, rfl, hT, hF⟩ := hv
  have hfl := hF.1
  have HTN := shid hT
  have HFN := shid hF
  obtain ⟨_, _, fb, fo, hfe, _, HFS⟩ := hF.hids
  cases hfe
  have HPF := shid HFS.out.1
  have HKF := shid (fun (W : World) (hb : Below w.heap.size w W) (k : Nat) (x : Fnx) (hk : p.funcs[k]? = some x) => (HFS.out.2 k x hk).keep hb)
  have HPB := shid (PBox.new w p.heap (.slice pt p.threads.length ct) (.slice pf p.funcs.length cf) 25)
  have HW0 := shid (al1 w (.cells #[.int .i64 p.heap, .slice pt p.threads.length ct, .slice pf p.funcs.length cf] 25))
  clear hT hF HFS
  obtain ⟨_, k0, k1, k2⟩ := HPB.out
  go_enter Try.func3, Try.ntmps3
  go_wp2_with fail
  generalize w.alloc (.cells #[.int .i64 p.heap, .slice pt p.threads.length ct, .slice pf p.funcs.length cf] 25) = W0 at *
  clear k0 k1 k2
  refine (great_any p pt ct pf cf W0 (FnsIn.keep HFN.out HW0.out)).mono ?_
  rintro e W1 ⟨gb, rfl, hb1⟩
  have HW1 := shid (sbt HW0.out hb1)
  have HP1 := shid (HPB.out.keep hb1)
  clear hb1
  cases gb with
  | true =>
    go_wp2_with fail
    refine (law_head _).mono ?_
    rintro e W2 ⟨rfl, hb2⟩
    go_wp2_with fail
    go_ret
    exact ⟨rfl, sbt HW1.out hb2⟩
  | false =>
    obtain ⟨_, k0, k1, k2⟩ := HP1.out
    go_wp2_with fail
    clear k0 k1 k2
    refine (check_any p pt ct pf cf W1 (IntsIn.keep HTN.out HW1.out) (FnsIn.keep HFN.out HW1.out)).mono ?_
    rintro e W2 ⟨rfl, hb2⟩
    have HW2 := shid (sbt HW1.out hb2)
    have HP2 := shid (HP1.out.keep hb2)
    have HCV := shid (show checkV p = .tuple #[.agg #[.int .i64 (checkS p).1, .int .i64 (checkS p).2.1], .int .i64 (checkS p).2.2] from rfl)
    have HA2 := shid (al1 W2 (.cells #[.int .i64 (checkS p).1, .int .i64 (checkS p).2.1] 29))
    have HQ2 := shid (QBox.new W2 (.int .i64 (checkS p).1) (.int .i64 (checkS p).2.1) 29)
    clear hb2
    rw [HCV.out]
    generalize (checkS p).1 = cl at *
    generalize (checkS p).2.1 = cc at *
    generalize (checkS p).2.2 = ce at *
    have HW3 := shid (sbt HW2.out HA2.out)
    have HP3 := shid (HP2.out.keep HA2.out)
    obtain ⟨_, k0, k1, k2⟩ := HP2.out
    go_wp2_with fail
    clear k0 k1 k2
    generalize W2.alloc (.cells #[.int .i64 cl, .int .i64 cc] 29) = W3 at *
    generalize W2.heap.size = G2 at *
    refine (rcheck_any p pt ct pf cf W3 (IntsIn.keep HTN.out HW3.out) (FnsIn.keep HFN.out HW3.out)).mono ?_
    rintro e W4 ⟨rfl, hb4⟩
    have HW4 := shid (sbt HW3.out hb4)
    have HP4 := shid (HP3.out.keep hb4)
    have HQ4 := shid (HQ2.out.keep hb4)
    have HA4 := shid (al1 W4 (.cells #[.int .i64 cl, .int .i64 cc] 29))
    rw [HCV.out]
    clear hb4 HA2 HQ2
    have HW5 := shid (sbt HW4.out HA4.out)
    have HP5 := shid (HP4.out.keep HA4.out)
    obtain ⟨_, q0, q1, _, _⟩ := HQ4.out
    go_wp2_with fail
    clear q0 q1
    generalize W4.alloc (.cells #[.int .i64 cl, .int .i64 cc] 29) = W5 at *
    go_loopw [7] (fun i wr => ∃ k : Nat, k ≤ p.funcs.length ∧ i = .int .i64 k ∧ Below W5.heap.size W5 wr) (fun i _ => p.funcs.length - (intOf i).toNat)
    case atStart => exact ⟨0, Nat.zero_le _, rfl, Below.refl _ _⟩
    case round =>
      obtain ⟨k, hk, rfl, hbw⟩ := hrel
      have HBW := shid hbw
      have HBB := shid (sbt HW5.out hbw)
      have HPB := shid (HP5.out.keep hbw)
      clear hbw
      obtain ⟨_, k0, k1, k2⟩ := HPB.out
      by_cases hlt : k < p.funcs.length
      · obtain rfl := HPF.out (by omega)
        have h1 : (k : Int) < p.funcs.length := by omega
        have HX := shid (List.getElem?_eq_getElem hlt)
        generalize p.funcs[k] = x at HX
        go_wp2_with fail
        clear k0 k1 k2
        obtain ⟨W6, hw6⟩ : ∃ W6, W6 = wr := ⟨wr, rfl⟩
        subst hw6
        obtain ⟨_, _, _, ⟨bv, _, hbv⟩, _, _, _⟩ := HKF.out W6 HBB.out k x HX.out
        obtain ⟨pb, cb, hbe⟩ := hbv.shape
        have hbl := hbv.1
        clear hbv hbe
        go_loopw [8] (fun i wr => ∃ j : Nat, j ≤ x.blocks.length ∧ i = .int .i64 j ∧ Below W6.heap.size W6 wr) (fun i _ => x.blocks.length - (intOf i).toNat)
        case atStart => exact ⟨0, Nat.zero_le _, rfl, Below.refl _ _⟩
        case round =>
          obtain ⟨j, hj, rfl, hb4⟩ := hrel
          have HB4 := shid hb4
          have HBB4 := shid (sbt HBB.out hb4)
          have HBW4 := shid (sbt HBW.out hb4)
          have HPB4 := shid (HPB.out.keep hb4)
          clear hb4
          obtain ⟨_, k0, k1, k2⟩ := HPB4.out
          obtain ⟨f0, f1, f2, ⟨bv, f3, hbv⟩, _, _, _⟩ := HKF.out wr HBB4.out k x HX.out
          obtain ⟨pb, cb, rfl⟩ := hbv.shape
          have HBV := shid hbv
          by_cases hltj : j < x.blocks.length
          · have h2 : (j : Int) < x.blocks.length := by omega
            have HY := shid (List.getElem?_eq_getElem hltj)
            generalize x.blocks[j] = y at HY
            obtain ⟨_, _, yb, yo, hye, _, HYS⟩ := hbv.hids
            cases hye
            obtain ⟨c0, ⟨iv, c1, hiv⟩, hnm⟩ := HYS.out.2 j y HY.out
            have hil := hiv.1
            clear c0 c1 hiv hnm hbv HYS
            go_wp2_with fail
            clear k0 k1 k2 f0 f1 f2 f3
            obtain ⟨W7, hw7⟩ : ∃ W7, W7 = wr := ⟨wr, rfl⟩
            subst hw7
            go_loopw [9] (fun i wr => ∃ q : Nat, q ≤ y.ins.length ∧ i = .int .i64 q ∧ Below W7.heap.size W7 wr) (fun i _ => y.ins.length - (intOf i).toNat)
            case atStart => exact ⟨0, Nat.zero_le _, rfl, Below.refl _ _⟩
            case round =>
              obtain ⟨q, hq, rfl, hb6⟩ := hrel
              have HB6 := shid hb6
              have HB46 := shid (sbt HB4.out hb6)
              have HBB6 := shid (sbt HBB4.out hb6)
              have HPB6 := shid (HPB4.out.keep hb6)
              clear hb6
              obtain ⟨_, k0, k1, k2⟩ := HPB6.out
              obtain ⟨f0, f1, f2, ⟨bv, f3, hbv⟩, _, _, _⟩ := HKF.out wr HBB6.out k x HX.out
              obtain ⟨pb, cb, rfl⟩ := hbv.shape
              obtain ⟨_, _, yb, yo, hye, _, HYS⟩ := hbv.hids
              cases hye
              obtain rfl := HYS.out.1 (by omega)
              obtain ⟨c0, ⟨iv, c1, hiv⟩, hnm⟩ := HYS.out.2 j y HY.out
              obtain ⟨pi, ci, rfl⟩ := hiv.shape
              obtain ⟨_, _, ib, io, hie, _, HIS⟩ := hiv.hids
              cases hie
              have HPI := shid HIS.out.1
              by_cases hltq : q < y.ins.length
              · obtain rfl := HPI.out (by omega)
                have h3 : (q : Int) < y.ins.length := by omega
                have HZ := shid (List.getElem?_eq_getElem hltq)
                generalize y.ins[q] = z at HZ
                obtain ⟨d0, d1, d2, d3, d4, d5, ⟨va, d6, hva⟩, d7, d8, hzbd⟩ := HIS.out.2 q z HZ.out
                obtain ⟨pa, ca, rfl⟩ := hva.shape
                have HTL := shid (tells_any z hzbd pa z.args.length ca wr hva)
                clear hva hzbd hiv hnm hbv
                go_wp2_with fail
                refine HTL.out.mono ?_
                rintro e w9 ⟨rfl, hb9⟩
                have HB9 := shid (sbt HB6.out hb9)
                clear hb9 d0 d1 d2 d3 d4 d5 d6 d7 d8 k0 k1 k2 f0 f1 f2 f3 c0 c1
                go_wp2_with fail
                go_roundw
                case rel => exact ⟨q + 1, by omega, by go_num, HB9.out⟩
                case measure => simp [intOf]; omega
              · obtain rfl : q = y.ins.length := by omega
                clear hiv hnm hbv
                go_wp2_with fail
                go_roundw
                case rel => exact ⟨j + 1, by omega, by go_num, HB46.out⟩
                case measure => simp [intOf]; omega
          · obtain rfl : j = x.blocks.length := by omega
            clear hbv
            go_wp2_with fail
            go_roundw
            case rel => exact ⟨k + 1, by omega, by go_num, HBW4.out⟩
            case measure => simp [intOf]; omega
      · obtain rfl : k = p.funcs.length := by omega
        go_wp2_with fail
        clear k0 k1 k2
        refine (law_head _).mono ?_
        rintro e W8 ⟨rfl, hb8⟩
        go_wp2_with fail
        go_ret
        exact ⟨rfl, sbt HBB.out hb8⟩
end Go.Proofs.Ythahjnjkiljaaaa
