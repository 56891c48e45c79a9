/- The walk of shape.through. -/
import Derived.Test.YthahjnjkiljaaaaShapeSets
namespace Go.Proofs.Ythahjnjkiljaaaa
open Go.RowKit
set_option linter.unusedVariables false
set_option linter.unusedSimpArgs false
/-- Whether a register that is read is there. -/
def hasR (s : List Bool) (r : Int) : Bool := s[r.toNat]?.getD false
/-- Whether all that the j-th instruction reads is there. -/
def fineAt (l : List Insx) (s : List Bool) (j : Nat) : Bool :=
  match l[j]? with
  | some x => (readsS x).all (hasR (thru (l.take j) s))
  | none => true
def fineL (l : List Insx) (s : List Bool) (n : Nat) : Bool := (List.range n).all (fineAt l s)
theorem fineL_succ {l : List Insx} {s : List Bool} {n : Nat} {x : Insx} (h : l[n]? = some x) : fineL l s (n + 1) = (fineL l s n && (readsS x).all (hasR (thru (l.take n) s))) := by
  unfold fineL
  rw [List.range_succ, List.all_append]
  simp [fineAt, h]
theorem thru_succ {l : List Insx} {s : List Bool} {n : Nat} {x : Insx} (h : l[n]? = some x) : thru (l.take (n + 1)) s = wr1 (thru (l.take n) s) x := by
  rw [stake_get h]; simp [thru]
/-- What instructions name is below R, and not below 0. -/
def NamesOk (R : Nat) (l : List Insx) : Prop := ∀ x ∈ l, (∀ r ∈ readsS x, 0 ≤ r ∧ r < R) ∧ (writesB x = true → 0 ≤ x.d ∧ x.d < R)
set_option maxRecDepth 100000 in
set_option maxHeartbeats 4000000 in
theorem through_any (nm : ByteArray) (l : List Insx) (pi : Option Addr) (ci : Nat) (s : List Bool) (hsl : s.length ≤ 4096) (hN : NamesOk s.length l) (av : Value) (ga : Nat) (w : World) (hI : InsxIn w (.slice pi l.length ci) l) (hA : SetAt w ga av s) :
    Calls Try.prog 21 #[.agg #[.string nm, .slice pi l.length ci], av] w fun e w' => ∃ v g, e = .returned (.tuple #[v, .bool (fineL l s l.length)]) ∧ w.heap.size ≤ g ∧ SetAt w' g v (thru l s) ∧ Below w.heap.size w w' := by
  have hil := hI.1
  have HIB := shid hI.bds
  have HAL := shid hI.argLen
  obtain ⟨_, _, ib, io, hie, _, HIS⟩ := hI.hids
  cases hie
  have HPI := shid HIS.out.1
  have HKI := shid (fun (W : World) (hb : Below w.heap.size w W) (j : Nat) (y : Insx) (hy : l[j]? = some y) => (HIS.out.2 j y hy).keep hb)
  have HBK := shid (BBox.new w nm (.slice pi l.length ci) 40)
  have HW0 := shid (al1 w (.cells #[.string nm, .slice pi l.length ci] 40))
  have HCL := shid (sclone_any _ av ga s hsl (hA.below HW0.out))
  have HNO := shid hN
  obtain ⟨⟨ca, rfl⟩, _⟩ := hA
  clear hI HIS hN
  go_enter Try.func21, Try.ntmps21
  go_wp2_with fail
  refine HCL.out.mono ?_
  rintro e W1 ⟨v1, g, rfl, hg, ⟨⟨c1, rfl⟩, hr⟩, hb1⟩
  have HR0 := shid hr
  have HB1 := shid hb1
  have HG := shid (show w.heap.size < g by simp at hg; omega)
  have HBK1 := shid (HBK.out.keep hb1)
  have HW1 := shid (sbt HW0.out hb1)
  clear hg hr hb1 HCL HBK
  obtain ⟨_, k0, k1⟩ := HBK1.out
  generalize w.alloc (.cells #[.string nm, .slice pi l.length ci] 40) = W0 at *
  go_wp2_with fail
  clear k0 k1
  go_loopw [7, 19] (fun fv i wr => ∃ k : Nat, k ≤ l.length ∧ i = .int .i64 k ∧ fv = .bool (fineL l s k) ∧ VRow wr g 4 (bools (thru (l.take k) s)) ∧ Below w.heap.size w wr ∧ g < wr.heap.size) (fun _ i _ => l.length - (intOf i).toNat)
  case atStart => exact ⟨0, Nat.zero_le _, rfl, rfl, HR0.out, HW1.out, HR0.out.lt⟩
  case round =>
    obtain ⟨k, hk, rfl, rfl, hv, hbw, hgl⟩ := hrel
    have HV := shid hv
    have HBW := shid hbw
    clear hv hbw
    by_cases hlt : k < l.length
    · obtain rfl := HPI.out (by omega)
      have HY := shid (List.getElem?_eq_getElem hlt)
      have HYM := shid (List.getElem_mem hlt)
      generalize l[k] = y at HY HYM
      obtain ⟨d0, d1, d2, d3, d4, d5, ⟨va, d6, hva⟩, d7, d8, hybd⟩ := HKI.out _ HBW.out k y HY.out
      have HYB := shid hybd
      obtain ⟨pa, ca2, rfl⟩ := hva.shape
      have HVA := shid hva
      have HAY := shid (HAL.out y HYM.out)
      have HNY := shid (HNO.out y HYM.out)
      have HF1 := shid (fineL_succ (s := s) HY.out)
      have HT1 := shid (thru_succ (s := s) HY.out)
      have HTL := shid (show (thru (l.take k) s).length = s.length from thru_length _ _)
      generalize thru (l.take k) s = s1 at HV HF1 HT1 HTL
      generalize fineL l s k = f1 at HF1 ⊢
      clear hybd hva
      have h2 : (k : Int) < l.length := by omega
      have HBX := shid (IBox.new wr y (.slice pa y.args.length ca2) 44)
      have HW2 := shid (al1 wr (.cells #[.int .u8 y.op, .int .i64 y.d, .int .i64 y.a, .int .i64 y.b, .int .u32 y.n, .int .i64 y.f, .slice pa y.args.length ca2, .int .i64 y.l1, .int .i64 y.l2] 44))
      have HV2 := shid (HV.out.below HW2.out)
      go_wp2_with fail
      generalize wr.alloc (.cells #[.int .u8 y.op, .int .i64 y.d, .int .i64 y.a, .int .i64 y.b, .int .u32 y.n, .int .i64 y.f, .slice pa y.args.length ca2, .int .i64 y.l1, .int .i64 y.l2] 44) = W2 at *
      refine (reads_any y HYB.out pa y.args.length ca2 W2 (IntsIn.keep HVA.out HW2.out)).mono ?_
      rintro e W3 ⟨v3, rfl, ho3, hb3⟩
      have HO3 := shid ho3
      have HB3 := shid hb3
      have HBX3 := shid (HBX.out.keep hb3)
      have HV3 := shid (HV2.out.below hb3)
      obtain ⟨p3, c3, rfl, hs3⟩ := own_shape ho3
      obtain ⟨g3, hp3, hc3⟩ := own_cells ho3 rfl
      have HP3 := shid hp3
      have HC3 := shid hc3
      have hlr := readsS_len HAY.out
      clear ho3 hb3 hs3 d0 d1 d2 d3 d4 d5 d6 d7 d8 HBX hp3 hc3
      obtain ⟨_, x0, x1, x2, x3, x4, x5, x6, x7, x8⟩ := HBX3.out
      go_wp2_with fail
      clear x0 x1 x2 x3 x4 x5 x6 x7 x8
      go_loop [7, 26] (fun fv i => ∃ q : Nat, q ≤ (readsS y).length ∧ i = .int .i64 q ∧ fv = .bool (f1 && ((readsS y).take q).all (hasR s1))) (fun _ i => (readsS y).length - (intOf i).toNat)
      case atStart => exact ⟨0, Nat.zero_le _, rfl, by simp⟩
      case round =>
        obtain ⟨q, hq, rfl, rfl⟩ := hrel
        by_cases hltq : q < (readsS y).length
        · obtain rfl := HP3.out (by omega)
          have HZ := shid (List.getElem?_eq_getElem hltq)
          have HZM := shid (HNY.out.1 _ (List.getElem_mem hltq))
          generalize (readsS y)[q] = z at HZ HZM
          have e0 := HC3.out q z HZ.out
          obtain ⟨zn, rfl⟩ := Int.eq_ofNat_of_zero_le HZM.out.1
          have hz1 : (zn : Int) < s.length := HZM.out.2
          have HZL := shid (show zn < s1.length by rw [HTL.out]; omega)
          have e1 := HV3.out.cell (bools_get (List.getElem?_eq_getElem HZL.out))
          have HG3 := shid (show (f1 && ((readsS y).take (q + 1)).all (hasR s1)) = ((f1 && ((readsS y).take q).all (hasR s1)) && s1[zn]'HZL.out) by
            rw [stake_get HZ.out, List.all_append]
            simp [hasR, List.getElem?_eq_getElem HZL.out, Bool.and_assoc])
          generalize s1[zn]'HZL.out = sb at e1 HG3
          generalize (f1 && ((readsS y).take q).all (hasR s1)) = f2 at HG3 ⊢
          have h3 : (q : Int) < (readsS y).length := by omega
          cases f2
          all_goals
            go_wp2_with fail
            go_round
            case rel => exact ⟨q + 1, by omega, by go_num, by rw [HG3.out]; rfl⟩
            case measure => simp [intOf]; omega
        · have HG3 := shid (show (f1 && ((readsS y).take q).all (hasR s1)) = fineL l s (k + 1) by rw [HF1.out, List.take_of_length_le (by omega)])
          rw [HG3.out]
          obtain ⟨_, x0, x1, x2, x3, x4, x5, x6, x7, x8⟩ := HBX3.out
          go_wp2_with fail
          clear x0 x1 x2 x3 x4 x5 x6 x7 x8
          refine (writes_any y HYB.out pa y.args.length ca2 W3).mono ?_
          rintro e W4 ⟨rfl, hb4⟩
          have HB4 := shid (sbt HBW.out (sbt HW2.out (sbt HB3.out hb4)))
          have HV4 := shid (HV3.out.below hb4)
          have HGL := shid (show g < W4.heap.size from HV4.out.lt)
          clear hb4
          cases hwb : writesB y
          case false =>
            have HT2 := shid (show thru (l.take (k + 1)) s = s1 by rw [HT1.out]; unfold wr1; rw [if_neg (by rw [hwb]; simp)])
            clear hwb
            go_wp2_with fail
            go_roundw
            case rel => exact ⟨k + 1, by omega, by go_num, rfl, by rw [HT2.out]; exact HV4.out, HB4.out, HGL.out⟩
            case measure => simp [intOf]; omega
          case true =>
            have HD := shid (HNY.out.2 hwb)
            have HT2 := shid (show thru (l.take (k + 1)) s = s1.set y.d.toNat true by rw [HT1.out]; unfold wr1; rw [if_pos hwb])
            have HWD := shid (show writesD y = y.d from if_pos hwb)
            clear hwb
            rw [HWD.out]
            obtain ⟨dn, hdn⟩ := Int.eq_ofNat_of_zero_le HD.out.1
            have HDN := shid hdn
            rw [hdn]
            clear hdn
            have h3 : (dn : Int) < s.length := by rw [← HDN.out]; exact HD.out.2
            have HDL := shid (show dn < s1.length by rw [HTL.out]; omega)
            have f0 := HV4.out.frozen dn
            have e0 := HV4.out.cell (bools_get (List.getElem?_eq_getElem HDL.out))
            have HV5 := shid (show VRow (W4.setCell ⟨g, dn, none⟩ (.bool true)) g 4 (bools (thru (l.take (k + 1)) s)) by
              have h := HV4.out.set (k := dn) (by rw [bools_length]; exact HDL.out) (.bool true)
              rw [bools_set] at h
              rw [HT2.out, HDN.out]; exact h)
            have HB5 := shid (show Below w.heap.size w (W4.setCell ⟨g, dn, none⟩ (.bool true)) from HB4.out.setCell (Nat.le_of_lt HG.out) _)
            generalize s1[dn]'HDL.out = sb at e0
            go_wp2_with fail
            go_roundw
            case rel => exact ⟨k + 1, by omega, by go_num, rfl, HV5.out, HB5.out, HV5.out.lt⟩
            case measure => simp [intOf]; omega
    · have HT2 := shid (show thru (l.take k) s = thru l s by rw [List.take_of_length_le (by omega)])
      have HK := shid (show fineL l s k = fineL l s l.length by rw [show k = l.length by omega])
      rw [HK.out]
      go_wp2_with fail
      go_ret2
      exact ⟨.slice (some ⟨g, 0, none⟩) s.length c1, g, rfl, Nat.le_of_lt HG.out, ⟨⟨c1, by rw [thru_length]⟩, by rw [← HT2.out]; exact HV.out⟩, HBW.out⟩
end Go.Proofs.Ythahjnjkiljaaaa
