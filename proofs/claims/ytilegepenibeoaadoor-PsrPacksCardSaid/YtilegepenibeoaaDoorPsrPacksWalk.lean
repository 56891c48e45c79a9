/- The walk of muntinlaw04.PsrPacks. -/
import Derived.Test.YtilegepenibeoaaDoorPsrHead
namespace Go.Proofs.YtilegepenibeoaaDoor
open Go.RowKit
set_option linter.unusedVariables false
set_option linter.unusedSimpArgs false
theorem pack_zero_ok {p : Px} {nw : Int} (h : packE p nw ≠ 0) : ¬ (winP nw ∧ pmayP p nw) := fun hh => h (if_pos hh)
theorem unS_bd {w nw : Int} (h0 : 0 ≤ w) : (unS w nw).bd := by
  unfold unS; split
  · exact un_bd h0
  · decide
theorem packS_bd {p : Px} {nw : Int} (hb : p.bd) : 0 ≤ packS p nw ∧ packS p nw < 4294967296 := by
  unfold packS; split
  · rename_i h; have := pack_bd hb h.1 h.2; omega
  · omega
set_option maxRecDepth 100000 in
set_option maxHeartbeats 4000000 in
theorem walk_PsrPacks (p : Px) (hb : p.bd) (v nw : Int) (h0 : 0 ≤ v) (h1 : v < 4294967296) (w : World) (ht : Bru w) : Calls Tryd.prog 6 #[p.agg, .int .u32 v, .int .i64 nw] w fun e w' => e = .returned (.bool true) ∧ Below w.heap.size w w' := by
  have k1 := pack_any p hb nw
  have k2 := rpack_any p hb nw
  have k3 := unpack_any v h0 h1 nw
  have k4 := runpack_any v h0 h1 nw
  have hpb := packS_bd (nw := nw) hb
  have k5 := unpack_any (packS p nw) hpb.1 hpb.2 nw
  have k6 := pack_any (unS v nw) (unS_bd h0) nw
  have hA : packE p nw = 0 → unS (packS p nw) nw = p ∧ unE (packS p nw) nw = 0 := by
    intro h
    have hh : winP nw ∧ pmayP p nw := Decidable.byContradiction (fun hn => by have : packE p nw = 2 := if_neg hn; omega)
    rw [show packS p nw = packW p from if_pos hh]
    exact un_of_pack hb hh
  have hU : unE v nw = 0 → packS (unS v nw) nw = v ∧ packE (unS v nw) nw = 0 := by
    intro h
    unfold unE at h
    by_cases hw : winP nw
    · rw [if_pos hw] at h
      by_cases ho : unOk v nw
      · exact pack_of_un h0 ⟨hw, ho⟩
      · rw [if_neg ho] at h; omega
    · rw [if_neg hw] at h; omega
  have K1 := phid k1
  have K2 := phid k2
  have K3 := phid k3
  have K4 := phid k4
  have K5 := phid k5
  have K6 := phid k6
  have HA := phid hA
  have HU := phid hU
  have T := phid ht
  clear k1 k2 k3 k4 k5 k6 hA hU ht hpb hb
  generalize packE p nw = pe at *
  generalize unS (packS p nw) nw = back at *
  generalize unE (packS p nw) nw = backE at *
  generalize packS p nw = ps at *
  generalize unE v nw = ue at *
  generalize packS (unS v nw) nw = again at *
  generalize packE (unS v nw) nw = againE at *
  generalize unS v nw = us at *
  obtain ⟨cwp, pil, bank, flags⟩ := p
  obtain ⟨ucwp, upil, ubank, uflags⟩ := us
  obtain ⟨bcwp, bpil, bbank, bflags⟩ := back
  go_enter Tryd.func6, Tryd.ntmps6
  go_wp2_with fail
  refine (K1.out _).mono ?_
  rintro e w1 ⟨rfl, b⟩
  have X := (BoxP.new w ⟨cwp, pil, bank, flags⟩).keep b
  replace T := phid ((T.out.al _).keep b)
  have B := phid (pbt (pbal w _) b)
  clear b
  have ⟨x0, x1, x2, x3⟩ := X
  go_wp2_with fail
  refine (K2.out _).mono ?_
  rintro e w2 ⟨rfl, b⟩
  replace X := X.keep b
  replace T := phid (T.out.keep b)
  replace B := phid (pbt B.out b)
  clear b x0 x1 x2 x3
  go_wp2_with fail
  refine (K3.out _).mono ?_
  rintro e w3 ⟨rfl, b⟩
  replace X := (X.keep b).al (.cells #[.int .u8 ucwp, .int .u8 upil, .int .u8 ubank, .int .u8 uflags] 37)
  replace T := phid ((T.out.keep b).al (.cells #[.int .u8 ucwp, .int .u8 upil, .int .u8 ubank, .int .u8 uflags] 37))
  replace B := phid (pbt (pbt B.out b) (pbal w3 (.cells #[.int .u8 ucwp, .int .u8 upil, .int .u8 ubank, .int .u8 uflags] 37)))
  have U := BoxP.new w3 ⟨ucwp, upil, ubank, uflags⟩
  clear b
  go_wp2_with fail
  refine (K4.out _).mono ?_
  rintro e w4 ⟨rfl, b⟩
  have hult := (U.keep b).lt
  replace X := (X.keep b).al (.cells #[.int .u8 ucwp, .int .u8 upil, .int .u8 ubank, .int .u8 uflags] 37)
  replace T := phid ((T.out.keep b).al (.cells #[.int .u8 ucwp, .int .u8 upil, .int .u8 ubank, .int .u8 uflags] 37))
  replace B := phid (pbt (pbt B.out b) (pbal w4 (.cells #[.int .u8 ucwp, .int .u8 upil, .int .u8 ubank, .int .u8 uflags] 37)))
  replace U := (U.keep b).al (.cells #[.int .u8 ucwp, .int .u8 upil, .int .u8 ubank, .int .u8 uflags] 37)
  clear b
  have ⟨u0, u1, u2, u3⟩ := U
  go_wp2_with fail
  refine (K5.out _).mono ?_
  rintro e w5 ⟨rfl, b⟩
  have hult := (U.keep b).lt
  have hxlt := (X.keep b).lt
  replace X := (X.keep b).al (.cells #[.int .u8 bcwp, .int .u8 bpil, .int .u8 bbank, .int .u8 bflags] 37)
  replace T := phid ((T.out.keep b).al (.cells #[.int .u8 bcwp, .int .u8 bpil, .int .u8 bbank, .int .u8 bflags] 37))
  replace B := phid (pbt (pbt B.out b) (pbal w5 (.cells #[.int .u8 bcwp, .int .u8 bpil, .int .u8 bbank, .int .u8 bflags] 37)))
  replace U := (U.keep b).al (.cells #[.int .u8 bcwp, .int .u8 bpil, .int .u8 bbank, .int .u8 bflags] 37)
  have Y := BoxP.new w5 ⟨bcwp, bpil, bbank, bflags⟩
  clear b u0 u1 u2 u3
  have ⟨u0, u1, u2, u3⟩ := U
  go_wp2_with fail
  refine (K6.out _).mono ?_
  rintro e w6 ⟨rfl, b⟩
  replace X := X.keep b
  replace Y := Y.keep b
  replace T := phid (T.out.keep b)
  replace B := phid (pbt B.out b)
  clear b u0 u1 u2 u3 U
  have ⟨x0, x1, x2, x3⟩ := X
  have ⟨y0, y1, y2, y3⟩ := Y
  by_cases hpe : pe = 0
  · obtain ⟨hb1, hb2⟩ := HA.out hpe
    simp only [Px.mk.injEq] at hb1
    obtain ⟨rfl, rfl, rfl, rfl⟩ := hb1
    have d1 : (pe != 0) = false := by simpa using hpe
    have d2 : (backE == 0) = true := by simpa using hb2
    clear hpe hb2
    by_cases hue : ue = 0
    · obtain ⟨hu1, hu2⟩ := HU.out hue
      have d3 : (ue != 0) = false := by simpa using hue
      have d4 : (again == v) = true := by simpa using hu1
      have d5 : (againE == 0) = true := by simpa using hu2
      clear hue hu1 hu2
      go_wp2_with fail
      refine (phead_any _ T.out).mono ?_
      rintro e w7 ⟨rfl, b⟩
      replace B := phid (pbt B.out b)
      clear b x0 x1 x2 x3 y0 y1 y2 y3
      go_wp2_with fail
      go_ret
      exact ⟨rfl, B.out⟩
    · have d3 : (ue != 0) = true := by simpa using hue
      clear hue
      go_wp2_with fail
      refine (phead_any _ T.out).mono ?_
      rintro e w7 ⟨rfl, b⟩
      replace B := phid (pbt B.out b)
      clear b x0 x1 x2 x3 y0 y1 y2 y3
      go_wp2_with fail
      go_ret
      exact ⟨rfl, B.out⟩
  · have d1 : (pe != 0) = true := by simpa using hpe
    clear hpe
    by_cases hue : ue = 0
    · obtain ⟨hu1, hu2⟩ := HU.out hue
      have d3 : (ue != 0) = false := by simpa using hue
      have d4 : (again == v) = true := by simpa using hu1
      have d5 : (againE == 0) = true := by simpa using hu2
      clear hue hu1 hu2
      go_wp2_with fail
      refine (phead_any _ T.out).mono ?_
      rintro e w7 ⟨rfl, b⟩
      replace B := phid (pbt B.out b)
      clear b x0 x1 x2 x3 y0 y1 y2 y3
      go_wp2_with fail
      go_ret
      exact ⟨rfl, B.out⟩
    · have d3 : (ue != 0) = true := by simpa using hue
      clear hue
      go_wp2_with fail
      refine (phead_any _ T.out).mono ?_
      rintro e w7 ⟨rfl, b⟩
      replace B := phid (pbt B.out b)
      clear b x0 x1 x2 x3 y0 y1 y2 y3
      go_wp2_with fail
      go_ret
      exact ⟨rfl, B.out⟩
end Go.Proofs.YtilegepenibeoaaDoor
