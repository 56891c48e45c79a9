/- The walk of muntinref14.Lacks. -/
import Derived.Test.YthahjnjkiljaaaaShapeSure
namespace Go.Proofs.Ythahjnjkiljaaaa
open Go.RowKit Go.Deep
set_option linter.unusedVariables false
set_option linter.unusedSimpArgs false
theorem lsets_length (ks : List Int) (o : List Bool) : (lsets ks o).length = o.length := (lsets_ok ks o).1
theorem lstep_length (bs : List Blk) (r : Nat) (o : List Bool) (i : Nat) : (lstep bs r o i).length = o.length := by
  unfold lstep; split
  · exact lsets_length _ _
  · rfl
theorem lpass_succ (bs : List Blk) (r : Nat) (o : List Bool) (n : Nat) : lpass bs r o (n + 1) = lstep bs r (lpass bs r o n) n := by unfold lpass; rw [List.range_succ, List.foldl_append]; rfl
theorem lpass_length (bs : List Blk) (r : Nat) (o : List Bool) : ∀ n, (lpass bs r o n).length = o.length
  | 0 => rfl
  | n + 1 => by rw [lpass_succ, lstep_length, lpass_length bs r o n]
theorem lpasses_length (bs : List Blk) (r : Nat) (o : List Bool) : ∀ n, (lpasses bs r o n).length = o.length
  | 0 => rfl
  | n + 1 => by
    show (lpass bs r (lpasses bs r o n) bs.length).length = _
    rw [lpass_length, lpasses_length bs r o n]
theorem linit_length (bs : List Blk) (args : Int) (r : Nat) : (linit bs args r).length = bs.length := by simp [linit]
theorem lacksL_length (bs : List Blk) (args : Int) (r : Nat) : (lacksL bs args r).length = bs.length := by unfold lacksL; rw [lpasses_length, linit_length]
theorem FBox.setOther {w : World} {g : Nat} {nm : ByteArray} {a r : Int} {bv : Value} (h : FBox w g nm a r bv) {B : Nat} (hg : g < B) {W : World} (hb : Below B w W) : FBox W g nm a r bv :=
  ⟨Nat.lt_of_lt_of_le h.lt hb.size, (hb.cell (p := ⟨g, 0, none⟩) hg).trans h.c0, (hb.cell (p := ⟨g, 1, none⟩) hg).trans h.c1, (hb.cell (p := ⟨g, 2, none⟩) hg).trans h.c2, (hb.cell (p := ⟨g, 3, none⟩) hg).trans h.c3⟩
set_option maxRecDepth 100000 in
set_option maxHeartbeats 8000000 in
theorem lacks_any (nm : ByteArray) (A R : Nat) (hR : R ≤ 4096) (bs : List Blk) (hbk : BlksOk R bs) (pb : Option Addr) (cb : Nat) (r : Nat) (w : World) (hB : BlksIn w (.slice pb bs.length cb) bs) :
    Calls Try.prog 24 #[.agg #[.string nm, .int .i64 A, .int .i64 R, .slice pb bs.length cb], .int .i64 r] w fun e w' => ∃ v g, e = .returned v ∧ w.heap.size ≤ g ∧ SetAt w' g v (lacksL bs A r) ∧ Below w.heap.size w w' := by
  have hbl := hB.1
  have hmk1 := run_make_row' (P := Try.prog) 45 4 (.bool false) 1 Try.underlying45 infobool rfl .i64 .i64 bs.length (by omega) (by omega)
  have HBK := shid hbk
  obtain ⟨_, _, b, o, hbe, _, HBS⟩ := hB.hids
  cases hbe
  obtain rfl := HBS.out.1 hbk.some
  have HFB := shid (FBox.new w nm A R (.slice (some ⟨b, o, none⟩) bs.length cb) 37)
  have HW0 := shid (al1 w (.cells #[.string nm, .int .i64 A, .int .i64 R, .slice (some ⟨b, o, none⟩) bs.length cb] 37))
  have HKB := shid (fun (W : World) (hb : Below w.heap.size w W) (k : Nat) (x : Blk) (hk : bs[k]? = some x) => (HBS.out.2 k x hk).keep hb)
  have h0 : (0 : Int) < bs.length := by have := hbk.some; omega
  have hc0 : (madeCells #[Value.bool false] bs.length)[0]? = some (.bool false) := by have := hbk.some; simp [madeCells, this]
  have HHH := shid hc0
  clear hB HBS hbk hc0
  have HR0 := shid (show ∀ x : Bool, VRow ((w.alloc (.cells #[.string nm, .int .i64 A, .int .i64 R, .slice (some ⟨b, o, none⟩) bs.length cb] 37)).alloc (.cells ((madeCells #[.bool false] bs.length).setIfInBounds 0 (.bool x)) 4)) (w.heap.size + 1) 4 (bools ((List.replicate bs.length false).set 0 x)) from fun x => by
    have h := VRow.new (w.alloc (.cells #[.string nm, .int .i64 A, .int .i64 R, .slice (some ⟨b, o, none⟩) bs.length cb] 37)) ((madeCells #[.bool false] bs.length).setIfInBounds 0 (.bool x)) 4 (bools ((List.replicate bs.length false).set 0 x)) (fun k y hy => by
      rw [← bools_set] at hy
      rw [Array.getElem?_setIfInBounds]
      by_cases e : 0 = k
      · subst e
        rw [List.getElem?_set_self (by rw [bools_length]; simpa using HBK.out.some)] at hy
        have := HBK.out.some
        rw [if_pos rfl]; simp [size_madeCells, this, hy]
      · rw [if_neg e]
        rw [List.getElem?_set_ne e] at hy
        unfold bools at hy
        rw [List.getElem?_map, List.getElem?_replicate] at hy
        split at hy
        · rename_i hk
          simp at hy
          rw [← hy]
          simp [madeCells, hk, Nat.mod_one]
        · cases hy)
    rw [World.size_alloc] at h
    exact h)
  have HW1 := shid (fun x : Bool => sbt HW0.out (al1 _ (.cells ((madeCells #[.bool false] bs.length).setIfInBounds 0 (.bool x)) 4)))
  have HF1 := shid (fun x : Bool => HFB.out.keep (al1 _ (.cells ((madeCells #[.bool false] bs.length).setIfInBounds 0 (.bool x)) 4)))
  have HLI := shid (show linit bs A r = (List.replicate bs.length false).set 0 (decide ((A : Int) ≤ r)) from rfl)
  have hc0 := HHH.out
  go_enter Try.func24, Try.ntmps24
  go_wp2_with fail
  have hr0 := HR0.out (decide (A ≤ r))
  have hw1 := HW1.out (decide (A ≤ r))
  have hf1 := HF1.out (decide (A ≤ r))
  have hdc : decide ((A : Int) ≤ r) = decide (A ≤ r) := by simp only [decide_eq_decide]; omega
  rw [← hdc, ← HLI.out, hdc] at hr0
  have HR1 := shid hr0
  have HW2 := shid hw1
  have HF2 := shid hf1
  clear hr0 hw1 hf1 hdc HR0 HW1 HF1 HLI hc0 HHH HFB HW0
  generalize (w.alloc (.cells #[.string nm, .int .i64 A, .int .i64 R, .slice (some ⟨b, o, none⟩) bs.length cb] 37)).alloc (.cells ((madeCells #[.bool false] bs.length).setIfInBounds 0 (.bool (decide (A ≤ r)))) 4) = W1 at *
  have HLL := shid (show lacksL bs A r = lpasses bs r (linit bs A r) bs.length from rfl)
  have HIL := shid (linit_length bs A r)
  generalize linit bs A r = o0 at *
  generalize hG : w.heap.size + 1 = G at *
  have HG := shid hG
  clear hG
  go_loopw [6] (fun i wr => ∃ n : Nat, n ≤ bs.length ∧ i = .int .i64 n ∧ VRow wr G 4 (bools (lpasses bs r o0 n)) ∧ FBox wr w.heap.size nm A R (.slice (some ⟨b, o, none⟩) bs.length cb) ∧ Below w.heap.size w wr) (fun i _ => bs.length - (intOf i).toNat)
  case atStart => exact ⟨0, Nat.zero_le _, rfl, HR1.out, HF2.out, HW2.out⟩
  case round =>
    obtain ⟨n, hn, rfl, hv, hf, hbw⟩ := hrel
    have HV := shid hv
    have HF := shid hf
    have HBW := shid hbw
    clear hv hf hbw HR1 HF2 HW2
    obtain ⟨_, p0, p1, p2, p3⟩ := HF.out
    by_cases hlt : n < bs.length
    · have h1 : (n : Int) < bs.length := by omega
      have HPN := shid (show lpasses bs r o0 (n + 1) = lpass bs r (lpasses bs r o0 n) bs.length from rfl)
      have HPL := shid (show (lpasses bs r o0 n).length = bs.length from (lpasses_length bs r o0 n).trans HIL.out)
      generalize lpasses bs r o0 n = o1 at *
      go_wp2_with fail
      clear p0 p1 p2 p3
      obtain ⟨W3, hw3⟩ : ∃ W3, W3 = wr := ⟨wr, rfl⟩
      subst hw3
      go_loopw [7] (fun i wr => ∃ q : Nat, q ≤ bs.length ∧ i = .int .i64 q ∧ VRow wr G 4 (bools (lpass bs r o1 q)) ∧ FBox wr w.heap.size nm A R (.slice (some ⟨b, o, none⟩) bs.length cb) ∧ Below w.heap.size w wr) (fun i _ => bs.length - (intOf i).toNat)
      case atStart => exact ⟨0, Nat.zero_le _, rfl, HV.out, HF.out, HBW.out⟩
      case round =>
        obtain ⟨q, hq, rfl, hv1, hf1, hb1⟩ := hrel
        have HV1 := shid hv1
        have HF1 := shid hf1
        have HB1 := shid hb1
        clear hv1 hf1 hb1 HV HF HBW
        obtain ⟨_, p0, p1, p2, p3⟩ := HF1.out
        by_cases hltq : q < bs.length
        · have h2 : (q : Int) < bs.length := by omega
          have HX := shid (List.getElem?_eq_getElem hltq)
          generalize bs[q] = x at HX
          obtain ⟨c0, ⟨iv, c1, hiv⟩, hnm⟩ := HKB.out wr HB1.out q x HX.out
          have HIV := shid hiv
          obtain ⟨pi, ci, ib, io, rfl, hil, HIS⟩ := hiv.hids
          have HIA := shid (show insAt bs q = x.ins by unfold insAt; rw [HX.out]; rfl)
          have HLS := shid (show lpass bs r o1 (q + 1) = lstep bs r (lpass bs r o1 q) q from lpass_succ _ _ _ _)
          have HOL := shid (show (lpass bs r o1 q).length = bs.length from (lpass_length _ _ _ _).trans HPL.out)
          generalize lpass bs r o1 q = o2 at *
          obtain ⟨y, hy⟩ : ∃ y, o2[q]? = some y := ⟨_, List.getElem?_eq_getElem (by rw [HOL.out]; exact hltq)⟩
          have HY := shid hy
          have e0 := HV1.out.cell (bools_get hy)
          have hgl := HV1.out.lt
          have HB8 := shid (BBox.new wr x.name (.slice pi x.ins.length ci) 40)
          have HW8 := shid (al1 wr (.cells #[.string x.name, .slice pi x.ins.length ci] 40))
          have HF8 := shid (HF1.out.keep HW8.out)
          have HV8 := shid (HV1.out.below HW8.out)
          have HWB := shid (sbt HB1.out HW8.out)
          clear hiv hnm hy HF1
          cases y with
          | false =>
            have HST := shid (show lpass bs r o1 (q + 1) = o2 by rw [HLS.out]; unfold lstep; rw [if_neg (fun h => by rw [HY.out] at h; cases h.1)])
            go_wp2_with fail
            go_roundw
            case rel => exact ⟨q + 1, by omega, by go_num, by rw [HST.out]; exact HV8.out, HF8.out, HWB.out⟩
            case measure => simp [intOf]; omega
          | true =>
            have HWR := shid (fun (W : World) (hb : Below (wr.alloc (.cells #[.string x.name, .slice pi x.ins.length ci] 40)).heap.size (wr.alloc (.cells #[.string x.name, .slice pi x.ins.length ci] 40)) W) => wr_any x.name x.ins pi ci r x.ins.length (Nat.le_refl _) W (InsxIn.keep HIV.out (sbt HW8.out hb)))
            have HNX := shid (fun (y : Insx) (hy : x.ins[x.ins.length - 1]? = some y) (W : World) (hb : Below (wr.alloc (.cells #[.string x.name, .slice pi x.ins.length ci] 40)).heap.size (wr.alloc (.cells #[.string x.name, .slice pi x.ins.length ci] 40)) W) => next_any x.name x.ins pi ci y hy W (InsxIn.keep HIV.out (sbt HW8.out hb)))
            obtain ⟨_, b0, b1⟩ := HB8.out
            go_wp2_with fail
            clear p0 p1 p2 p3 c0 c1 b0 b1 e0
            generalize wr.alloc (.cells #[.string x.name, .slice pi x.ins.length ci] 40) = W8 at *
            generalize wr.heap.size = G8 at *
            refine (HWR.out _ (Below.refl _ _)).mono ?_
            rintro e W4 ⟨rfl, hb4⟩
            have HB4 := shid hb4
            have HV4 := shid (HV8.out.below hb4)
            have HF4 := shid (HF8.out.keep hb4)
            have HBX := shid (HB8.out.keep hb4)
            have HWB4 := shid (sbt HWB.out hb4)
            clear hb4
            have HWV := shid (show (insAt bs q = x.ins) from HIA.out)
            generalize hwb : wrB x.ins r x.ins.length = wb at *
            have HWQ := shid hwb
            clear hwb
            cases wb with
            | true =>
              have HST := shid (show lpass bs r o1 (q + 1) = o2 by rw [HLS.out]; unfold lstep; rw [if_neg (fun h => by rw [HIA.out, HWQ.out] at h; cases h.2)])
              go_wp2_with fail
              go_roundw
              case rel => exact ⟨q + 1, by omega, by go_num, by rw [HST.out]; exact HV4.out, HF4.out, HWB4.out⟩
              case measure => simp [intOf]; omega
            | false =>
              have HST := shid (show lpass bs r o1 (q + 1) = lsets (goesOf bs q) o2 by rw [HLS.out]; unfold lstep; rw [if_pos ⟨HY.out, by rw [HIA.out]; exact HWQ.out⟩]; rfl)
              have hm2 : x.ins.length - 1 < x.ins.length := by have := HBK.out.ins q hltq; rw [HIA.out] at this; omega
              have HYL := shid (List.getElem?_eq_getElem hm2)
              generalize x.ins[x.ins.length - 1] = yl at HYL
              have HGO := shid (HNX.out yl HYL.out W4 HB4.out)
              have HKS := shid (show goesOf bs q = goesS yl by unfold goesOf; rw [HIA.out, HYL.out]; rfl)
              obtain ⟨_, b0, b1⟩ := HBX.out
              go_wp2_with fail
              refine HGO.out.mono ?_
              rintro e W5 ⟨v5, rfl, ho5, hb5⟩
              have HB5 := shid hb5
              obtain ⟨p5, c5, rfl, hs5⟩ := own_shape ho5
              obtain ⟨g5, hp5, hc5⟩ := own_cells ho5 rfl
              have HP5 := shid hp5
              have HC5 := shid hc5
              have HV5 := shid (HV4.out.below hb5)
              have HF5 := shid (HF4.out.keep hb5)
              have hgl4 := HV4.out.lt
              have HN5 := shid (show 0 < (goesS yl).length → g5 < W5.heap.size ∧ ¬ (fun x => x = G) g5 from fun h0 => by
                have h1 := hs5 g5 (by rw [hp5 h0]; rfl)
                refine ⟨h1.2, fun h => ?_⟩
                simp only at h
                omega)
              have HW5 := shid (sbt HWB4.out hb5)
              have HKT := shid (show ∀ k ∈ goesS yl, 0 ≤ k ∧ k < bs.length by rw [← HKS.out]; exact HBK.out.to q)
              have hkl : (goesS yl).length ≤ 2 := by unfold goesS; split <;> (try split) <;> simp
              rw [HKS.out] at HST
              clear ho5 hb5 hp5 hc5 HGO b0 b1 HV4 HF4 hs5 HNX HWR
              generalize goesS yl = ks at *
              go_wp2_with fail
              go_loopw [10] (fun i w6 => ∃ j : Nat, j ≤ ks.length ∧ i = .int .i64 j ∧ VRow w6 G 4 (bools (lsets (ks.take j) o2)) ∧ Only (fun x => x = G) W5 w6) (fun i _ => ks.length - (intOf i).toNat)
              case atStart => exact ⟨0, Nat.zero_le _, rfl, HV5.out, Only.refl _ _⟩
              case round =>
                obtain ⟨j, hj, rfl, hv6, ho6⟩ := hrel
                have HV6 := shid hv6
                have HO6 := shid ho6
                clear hv6 ho6
                by_cases hltj : j < ks.length
                · obtain ⟨h5a, h5b⟩ := HN5.out (by omega)
                  have HZ := shid (List.getElem?_eq_getElem hltj)
                  have HZM := shid (HKT.out _ (List.getElem_mem hltj))
                  generalize ks[j] = z at HZ HZM
                  obtain ⟨zn, rfl⟩ := Int.eq_ofNat_of_zero_le HZM.out.1
                  have hz1 : (zn : Int) < bs.length := HZM.out.2
                  obtain rfl := HP5.out (by omega)
                  have e5 := (HO6.out.cell (p := ⟨g5, j, none⟩) h5a h5b).trans (HC5.out j _ HZ.out)
                  have HTK := shid (show lsets (ks.take (j + 1)) o2 = (lsets (ks.take j) o2).set zn true by rw [stake_get HZ.out]; unfold lsets; rw [List.foldl_append]; rfl)
                  have HSL := shid (show (lsets (ks.take j) o2).length = bs.length by rw [lsets_length]; exact HOL.out)
                  generalize lsets (ks.take j) o2 = o3 at *
                  obtain ⟨yy, hyy⟩ : ∃ y, o3[zn]? = some y := ⟨_, List.getElem?_eq_getElem (by rw [HSL.out]; omega)⟩
                  have e6 := HV6.out.cell (bools_get hyy)
                  have f6 := HV6.out.frozen zn
                  have HV7 := shid (show VRow (wr.setCell ⟨G, zn, none⟩ (.bool true)) G 4 (bools (lsets (ks.take (j + 1)) o2)) by
                    have h := HV6.out.set (k := zn) (by rw [bools_length, HSL.out]; omega) (.bool true)
                    rw [bools_set] at h
                    rw [HTK.out]; exact h)
                  have HO7 := shid (show Only (fun x => x = G) W5 (wr.setCell ⟨G, zn, none⟩ (.bool true)) from HO6.out.setCell rfl _)
                  have h3 : (j : Int) < ks.length := by omega
                  clear h5b hyy
                  go_wp2_with fail
                  go_roundw
                  case rel => exact ⟨j + 1, by omega, by go_num, HV7.out, HO7.out⟩
                  case measure => simp [intOf]; omega
                · have HFI := shid (show lpass bs r o1 (q + 1) = lsets (ks.take j) o2 by rw [HST.out, List.take_of_length_le (by omega)])
                  have HFB := shid (HF5.out.only HO6.out (by have := HG.out; show ¬ (w.heap.size = G); omega))
                  have HBB := shid (show Below w.heap.size w wr from HW5.out.trans (HO6.out.below (B := w.heap.size) (by have := HF5.out.lt; omega) (fun x hx h => by have := HG.out; have h' : x = G := h; omega)))
                  go_wp2_with fail
                  go_roundw
                  case rel => exact ⟨q + 1, by omega, by go_num, by rw [HFI.out]; exact HV6.out, HFB.out, HBB.out⟩
                  case measure => simp [intOf]; omega
        · obtain rfl : q = bs.length := by omega
          go_wp2_with fail
          go_roundw
          case rel => exact ⟨n + 1, by omega, by go_num, by rw [HPN.out]; exact HV1.out, HF1.out, HB1.out⟩
          case measure => simp [intOf]; omega
    · obtain rfl : n = bs.length := by omega
      have HFL := shid (show (lpasses bs r o0 bs.length).length = bs.length by rw [lpasses_length]; exact HIL.out)
      go_wp2_with fail
      go_ret
      exact ⟨.slice (some ⟨G, 0, none⟩) bs.length bs.length, G, rfl, by have := HG.out; omega, by rw [HLL.out]; exact ⟨⟨bs.length, by rw [HFL.out]⟩, HV.out⟩, HBW.out⟩
end Go.Proofs.Ythahjnjkiljaaaa
