/- Several texts in one: MachMadeNo, MachMadeAny. -/
import Derived.Test.YtgdebchbdmogcaaGreatDoorGW
import Derived.Test.YtgdebchbdmogcaaGreatDoorGV
import Derived.Deep.Cut
/- The walk of muntinlaw06.made where there is no machine. -/
namespace Go.Proofs.YtgdebchbdmogcaaGreatDoor
open Go.RowKit
set_option linter.unusedVariables false
set_option linter.unusedSimpArgs false
set_option maxRecDepth 100000 in
set_option maxHeartbeats 8000000 in
theorem made_no (w : World) (x : StartX) (v : Value) (h : StartIn w v x) (hm : ¬ mayP6 x) :
    Calls Tryz.prog 6 #[v] w fun e w' => e = .returned (.tuple #[.pointer none, .agg qZ.toArray]) ∧ Below w.heap.size w w' := by
  obtain ⟨nw, size, pc, q, wim, words, regs, ch⟩ := x
  obtain ⟨vw, vr, vc, hv, hw, hr, hc⟩ := h.rows
  dsimp only at hv hw hr hc
  obtain ⟨pw, cw, rfl⟩ := hw.shape
  obtain ⟨hrl, pr, cr, br, or', rfl, hrp, hra⟩ := hr
  obtain ⟨pc', cc, rfl⟩ := hc.shape
  subst hv
  have hbad : ¬ winP nw ∨ (winP nw ∧ (size < 0 ∨ 4194304 < size ∨ size % 4 ≠ 0)) := by
    unfold mayP6 at hm
    by_cases hw1 : winP nw
    · refine .inr ⟨hw1, ?_⟩
      by_cases hw2 : size < 0 ∨ 4194304 < size ∨ size % 4 ≠ 0
      · exact hw2
      · exact absurd ⟨hw1, hw2⟩ hm
    · exact .inl hw1
  have HBAD := mhid hbad
  clear h hw hc hm hbad hrp hra
  obtain ⟨W1, hW1⟩ : ∃ W1, W1 = (w.alloc (.cells (startC nw size pc q wim (.slice pw words.length cw) (.slice pr regs.length cr) (.slice pc' ch.length cc)).toArray 28)).alloc (.cells qZ.toArray 39) := ⟨_, rfl⟩
  have HB1 := mhid (show Below w.heap.size w W1 from by rw [hW1]; exact ((Below.refl _ _).alloc (Nat.le_refl _) _).alloc (by simp) _)
  have HX1 := mhid (show ARow W1 w.heap.size 28 (startC nw size pc q wim (.slice pw words.length cw) (.slice pr regs.length cr) (.slice pc' ch.length cc)) from by rw [hW1]; exact (ARow.fresh w _ _).alloc _)
  have HR1 := mhid (show ARow W1 (w.heap.size + 1) 39 qZ from by
    rw [hW1]
    have := ARow.fresh (w.alloc (.cells (startC nw size pc q wim (.slice pw words.length cw) (.slice pr regs.length cr) (.slice pc' ch.length cc)).toArray 28)) 39 qZ.toArray
    rw [World.size_alloc] at this
    exact this)
  go_enter Tryz.func6, Tryz.ntmps6
  unfold startC at hW1 HX1 ⊢
  go_wp2_with fail
  rw [show (w.alloc (.cells #[.int .i64 nw, .int .i64 size, .int .u32 pc, .int .u8 q.cwp, .int .u8 q.pil, .int .u8 q.bank, .int .u8 q.flags, .int .u32 wim, .slice pw words.length cw, .slice pr regs.length cr, .slice pc' ch.length cc] 28)).alloc (.cells #[.int .i64 0, .int .i64 0, .slice none 0 0, .slice none 0 0, .int .u32 0, .int .u8 0, .int .u8 0, .int .u8 0, .int .u8 0, .int .u32 0, .slice none 0 0, .slice none 0 0, .slice none 0 0, .slice none 0 0, .int .u8 0, .int .u32 0] 39) = W1 from hW1.symm]
  clear hW1
  refine (mnew_err nw size W1 HBAD.out).mono ?_
  rintro e w2 ⟨rfl, hb2⟩
  have HX := mhid (HX1.out.below hb2)
  have HRS := mhid (HR1.out.below hb2)
  have HBB := mhid (HB1.out.trans (hb2.mono HB1.out.size))
  have x0 := HX.out.cell (k := 0) rfl
  have x1 := HX.out.cell (k := 1) rfl
  clear hb2
  go_wp2_with fail
  refine (rq_new_err nw size HBAD.out w2).mono ?_
  rintro e w3 ⟨rfl, hb3⟩
  have HX := mhid (HX.out.below hb3)
  have HRS := mhid (HRS.out.below hb3)
  have HBB := mhid (HBB.out.trans (hb3.mono HBB.out.size))
  clear hb3 x0 x1
  obtain ⟨X, hX⟩ : ∃ X, X = w3.heap.size := ⟨_, rfl⟩
  obtain ⟨w4, hw4⟩ : ∃ w4, w4 = (w3.alloc (.cells qZ.toArray 39)).setRow w3.heap.size qZ.toArray := ⟨_, rfl⟩
  have hb4 : Below w3.heap.size w3 w4 := by rw [hw4]; exact below_setRow ((Below.refl _ _).alloc (Nat.le_refl _) _) (Nat.le_refl _) _
  have HB := mhid (show ARow w4 X 39 qZ from by rw [hw4, hX]; exact (ARow.fresh w3 _ qZ.toArray).setRow _)
  have HNE := mhid (show w.heap.size + 1 ≠ X from by have := HRS.out.lt; omega)
  have HRS := mhid (HRS.out.below hb4)
  have HBB := mhid (HBB.out.trans (hb4.mono HBB.out.size))
  have HW4 := mhid hw4
  have HX4 := mhid hX
  clear hw4 hX hb4
  go_wp2_with (refine wpList_store_row rfl 39 (.tmp 6) (.tmp 24) rfl w3.heap.size qZ.toArray rfl rfl 39 qZ.toArray (heap_alloc_new w3 _) q_size rfl qZ_one ?_; generalize hg : World.setRow _ _ _ = w5; obtain rfl : w5 = w4 := (by rw [← hg, HW4.out]; rfl); clear hg; rw [← HX4.out])
  obtain ⟨w22, hw22⟩ : ∃ w22, w22 = w5.drew := ⟨_, rfl⟩
  have HBd := mhid (show Below w5.heap.size w5 w22 from by rw [hw22]; exact (Below.refl _ _).drew)
  have HB := mhid (HB.out.below HBd.out)
  have HRS := mhid (HRS.out.below HBd.out)
  have HBB := mhid (HBB.out.trans (HBd.out.mono HBB.out.size))
  have HSX := mhid (show ∀ cs, ARow (w22.setRow (w.heap.size + 1) cs) X 39 qZ from fun cs => HB.out.setRow_other (fun e => HNE.out e.symm) cs)
  refine wp_region_held_drew (S := (fun w' => ARow w' X 39 qZ)) (by kernel_rfl) (by rw [← hw22]; exact HB.out) (fun hHeld => ?_)
  rw [← hw22] at hHeld ⊢
  clear hw22
  try simp only [List.getElem_toArray, List.getElem_cons_zero, List.getElem_cons_succ]
  refine wpAnyH_take (i := 1) (v := _) rfl (by kernel_rfl) (by kernel_rfl) (by kernel_rfl) (fun _ _ _ h => h) (Or.inl ⟨by rfl, (by intro w hSw; (try dsimp only at hSw); go_simp; try with_reducible rfl)⟩) (by assumption) ?_
  try simp only [Act.put, List.getElem_toArray, List.getElem_cons_zero, List.getElem_cons_succ, List.setIfInBounds_toArray, List.set_cons_zero, List.set_cons_succ]
  refine wpAnyH_ready (rs := [0]) (by kernel_rfl) (by simp) ?_
  refine (AllReadyH.cons rfl (fun K hK => ?_) AllReadyH.nil)
  refine step_load_row (by rfl) 39 (.tmp 6) (by rfl) X (by rfl) 39 qZ.toArray (0, 0) _ HB.out Tryz.underlying39 rfl q_size ?_
  refine hK.out _ _ (HB.out) (fun hHeld2 => ?_)
  clear hK K 
  try simp only [Act.put, List.getElem_toArray, List.getElem_cons_zero, List.getElem_cons_succ, List.setIfInBounds_toArray, List.set_cons_zero, List.set_cons_succ]
  refine wpAnyH_ready (rs := [2]) (by kernel_rfl) (by simp) ?_
  refine (AllReadyH.cons rfl (fun K hK => ?_) AllReadyH.nil)
  refine step_store_row (by rfl) 39 (.tmp 3) (.tmp 37) (by rfl) (w.heap.size + 1) qZ.toArray (by rfl) (by rfl) 39 qZ.toArray HRS.out q_size (by rfl) qZ_one ?_
  refine hK.out _ _ (HSX.out _) (fun hHeld2 => ?_)
  clear hK K 
  try simp only [Act.put, List.getElem_toArray, List.getElem_cons_zero, List.getElem_cons_succ, List.setIfInBounds_toArray, List.set_cons_zero, List.set_cons_succ]
  refine wpAnyH_done (by kernel_rfl) ?_ _
  have hS : ARow (w22.setRow (w.heap.size + 1) qZ.toArray) (w.heap.size + 1) 39 qZ := HRS.out.setRow _
  have hbel : Below w.heap.size w (w22.setRow (w.heap.size + 1) qZ.toArray) := below_setRow HBB.out (by omega) _
  generalize w22.setRow (w.heap.size + 1) qZ.toArray = w23 at *
  go_wp2_with fail
  exact bodyPost_ret (results_slot_row (P := Tryz.prog) Tryz.results6 _ w23 (w.heap.size + 1) _ _ (0, 0) _ _ rfl rfl hS Tryz.underlying39 rfl q_size) rfl ⟨rfl, hbel⟩
end Go.Proofs.YtgdebchbdmogcaaGreatDoor
/- The walk of muntinlaw06.made. -/
namespace Go.Proofs.YtgdebchbdmogcaaGreatDoor
open Go.RowKit
set_option linter.unusedVariables false
set_option linter.unusedSimpArgs false
set_option maxRecDepth 100000 in
set_option maxHeartbeats 8000000 in
theorem made_ok (w : World) (x : StartX) (v : Value) (h : StartIn w v x) (hm : mayP6 x) (hg : ¬ greatP x) (hbr : Bru w) :
    Calls Tryz.prog 6 #[v] w fun e w' => ∃ M G P, e = .returned (.tuple #[.pointer (some ⟨M, 0, none⟩), .agg (qC P (madeM x)).toArray]) ∧ MIs w w' G M (madeM x) ∧ QVal w' x.regs.length P (madeM x) ∧ QOff w' G P := by
  obtain ⟨nw, size, pc, q, wim, words, regs, ch⟩ := x
  obtain ⟨vw, vr, vc, hv, hw, hr, hc⟩ := h.rows
  have hwi : 0 ≤ wim ∧ wim < 4294967296 := h.wim
  have hpi : 0 ≤ pc ∧ pc < 4294967296 := h.pc
  have hqi : q.bd := h.q
  dsimp only at hv hw hr hc
  obtain ⟨pw, cw, rfl⟩ := hw.shape
  have HRG := mhid hr
  obtain ⟨hrl, pr, cr, br, or', rfl, hrp, hra⟩ := hr
  obtain ⟨pc', cc, rfl⟩ := hc.shape
  have HWD := mhid hw
  have HCH := mhid hc
  subst hv
  obtain ⟨hm1, hm2⟩ := hm
  unfold greatP at hg
  dsimp only at hm1 hm2 hg
  unfold winP at hm1
  obtain ⟨n, rfl⟩ := Int.eq_ofNat_of_zero_le (show 0 ≤ nw by omega)
  obtain ⟨sz, rfl⟩ := Int.eq_ofNat_of_zero_le (show 0 ≤ size by omega)
  have h2 : 2 ≤ n := by omega
  have h8 : n ≤ 8 := by omega
  have hs : sz ≤ 1200 := by omega
  have hs4 : sz % 4 = 0 := by omega
  have hwl : words.length ≤ 300 := by omega
  have hrl2 : regs.length ≤ 60 := by omega
  have hcl : ch.length ≤ 40 := by omega
  clear hm1 hm2 hg hrl
  have HIN := mhid h
  have HBR := mhid hbr
  clear h hbr hw hc
  obtain ⟨W1, hW1⟩ : ∃ W1, W1 = (w.alloc (.cells (startC n sz pc q wim (.slice pw words.length cw) (.slice pr regs.length cr) (.slice pc' ch.length cc)).toArray 28)).alloc (.cells qZ.toArray 39) := ⟨_, rfl⟩
  have HB1 := mhid (show Below w.heap.size w W1 from by rw [hW1]; exact ((Below.refl _ _).alloc (Nat.le_refl _) _).alloc (by simp) _)
  have HX1 := mhid (show ARow W1 w.heap.size 28 (startC n sz pc q wim (.slice pw words.length cw) (.slice pr regs.length cr) (.slice pc' ch.length cc)) from by rw [hW1]; exact (ARow.fresh w _ _).alloc _)
  have HR1 := mhid (show ARow W1 (w.heap.size + 1) 39 qZ from by
    rw [hW1]
    have := ARow.fresh (w.alloc (.cells (startC n sz pc q wim (.slice pw words.length cw) (.slice pr regs.length cr) (.slice pc' ch.length cc)).toArray 28)) 39 qZ.toArray
    rw [World.size_alloc] at this
    exact this)
  go_enter Tryz.func6, Tryz.ntmps6
  unfold startC at hW1 HX1 HIN ⊢
  go_wp2_with fail
  rw [show (w.alloc (.cells #[.int .i64 n, .int .i64 sz, .int .u32 pc, .int .u8 q.cwp, .int .u8 q.pil, .int .u8 q.bank, .int .u8 q.flags, .int .u32 wim, .slice pw words.length cw, .slice pr regs.length cr, .slice pc' ch.length cc] 28)).alloc (.cells #[.int .i64 0, .int .i64 0, .slice none 0 0, .slice none 0 0, .int .u32 0, .int .u8 0, .int .u8 0, .int .u8 0, .int .u8 0, .int .u32 0, .slice none 0 0, .slice none 0 0, .slice none 0 0, .slice none 0 0, .int .u8 0, .int .u32 0] 39) = W1 from hW1.symm]
  clear hW1
  refine (mw_new n sz W1 W1 (Below.refl _ _) h2 (by omega) (by omega) hs4).mono ?_
  rintro e w2 ⟨M, G, rfl, hM, hGn, hb2⟩
  have HM := mhid hM
  have HLT := mhid (show (∀ k, G.R k ≠ .none → k < w2.heap.size) ∧ W1.heap.size ≤ w2.heap.size from ⟨hM.at'.lt, hb2.size⟩)
  have HX := mhid (HX1.out.below hb2)
  have HRS := mhid (HR1.out.below hb2)
  have x0 := HX.out.cell (k := 0) rfl
  have x1 := HX.out.cell (k := 1) rfl
  clear hM hb2 hGn
  go_wp2_with fail
  refine (rq_new_ok n sz h2 (by omega) (by omega) hs4 w2).mono ?_
  rintro e w3 ⟨P, rfl, hQ, hb3, hPn⟩
  obtain ⟨m0, hm0⟩ : ∃ m0, m0 = newM n sz := ⟨_, rfl⟩
  rw [← hm0]
  rw [← hm0] at HM hQ
  have HM0 := mhid hm0
  clear hm0
  have HM := mhid (HM.out.keepb hb3)
  have HX := mhid (HX.out.below hb3)
  have HRS := mhid (HRS.out.below hb3)
  have HQ := mhid hQ
  obtain ⟨X, hX⟩ : ∃ X, X = w3.heap.size := ⟨_, rfl⟩
  obtain ⟨w4, hw4⟩ : ∃ w4, w4 = (w3.alloc (.cells qZ.toArray 39)).setRow w3.heap.size (qC P m0).toArray := ⟨_, rfl⟩
  have hb4 : Below w3.heap.size w3 w4 := by rw [hw4]; exact below_setRow ((Below.refl _ _).alloc (Nat.le_refl _) _) (Nat.le_refl _) _
  have HB := mhid (show MB W1 w4 G M m0 P m0 0 X from by
    refine ⟨HM.out.keepb hb4, hQ.keep hb4, fun k hk => ?_, ?_, ?_, ?_, fun k hk => ?_⟩
    · have hk2 := hPn k hk
      refine ⟨?_, by have := hb4.size; omega⟩
      by_cases e : G.R k = .none
      · exact e
      · have := HLT.out.1 k e; omega
    · rw [hw4, hX]; exact (ARow.fresh w3 _ qZ.toArray).setRow _
    · by_cases e : G.R X = .none
      · exact e
      · have := HLT.out.1 X e; have := hb3.size; omega
    · have := HLT.out.2; have := hb3.size; omega
    · have hk2 := hPn k hk
      have := HLT.out.2
      omega)
  have HX := mhid (HX.out.below hb4)
  have HRS := mhid (HRS.out.below hb4)
  clear hQ hPn hb3 HM HQ
  have x8 := HX.out.cell (k := 8) rfl
  have HW4 := mhid hw4
  have HX4 := mhid hX
  clear hw4 hX hb4
  have HQO := mhid (show (qC P m0).toArray.all (·.oneCell') = true from HB.out.q.one)
  go_wp2_with (refine wpList_store_row rfl 39 (.tmp 6) (.tmp 24) rfl w3.heap.size (qC P m0).toArray rfl rfl 39 qZ.toArray (heap_alloc_new w3 _) q_size rfl HQO.out ?_; generalize hg : World.setRow _ _ _ = w5; obtain rfl : w5 = w4 := (by rw [← hg, HW4.out]; rfl); clear hg; rw [← HX4.out])
  have HBW := mhid (show ∀ w', Below W1.heap.size W1 w' → Below w.heap.size w w' from fun w' hb => HB1.out.trans (hb.mono HB1.out.size))
  refine (mw_load W1 w5 G M m0 HB.out.mis _ words HWD.out.2.1 (HWD.out.off (HBW.out _ HB.out.mis.bel) _ (fun k hk => ?_))).mono ?_
  · have := HB.out.mis.lo k (by rw [show k = G.gB from hk, HB.out.mis.at'.rg]; simp)
    have := HB1.out.size; omega
  rintro e w6 ⟨rfl, hto⟩
  obtain ⟨G1, hB, hk⟩ := HB.out.mach hto
  have HB := mhid hB
  have HX := mhid (HX1.out.below HB.out.mis.bel)
  have x8 := HX.out.cell (k := 8) rfl
  obtain ⟨g, cap, hPm, hRA⟩ := HB.out.q.mem
  have b3 := HB.out.box.cell (k := 3) rfl
  rw [hPm] at b3
  have HPM := mhid (And.intro hPm hRA)
  clear hto hB hk hPm hRA
  go_wp2_with fail
  refine (mrput_any w6 0 g cap m0.mem HPM.out.2 0 (by omega) (by omega) _ words HWD.out.2.1 (HWD.out.off (HBW.out _ HB.out.mis.bel) _ (fun _ => False.elim))).mono ?_
  rintro e w7 ⟨g', cap', rfl, hRA, hb7, hgg⟩
  have HB6 := HB
  have HB := mhid (HB.out.keepb hb7)
  have HX := mhid (HX1.out.below HB.out.mis.bel)
  have HS7 := mhid hb7.size
  have HRA := mhid (And.intro hRA hgg)
  clear hRA hgg hb7 b3 x8
  have b3 := HB.out.box.cell (k := 3) rfl
  have bf3 := HB.out.box.frozen 3
  have x2 := HX.out.cell (k := 2) rfl
  go_wp2_with fail
  obtain ⟨m1, hm1⟩ : ∃ m1, m1 = { m0 with mem := putV m0.mem 0 words } := ⟨_, rfl⟩
  have hlen : (putV m0.mem 0 words).length = m0.mem.length := putV_len _ _ _
  obtain ⟨P1, hP1⟩ : ∃ P1, P1 = P.setM (.slice (some ⟨g', 0, none⟩) m0.mem.length cap') := ⟨_, rfl⟩
  have HB := mhid (show MB W1 (w7.setCell ⟨X, 3, none⟩ (.slice (some ⟨g', 0, none⟩) m0.mem.length cap')) G1 M m1 P1 m1 0 X from by
    have hok : m1.ok := by rw [hm1]; exact HB.out.ok
    have hq := HB.out.q.setM HRA.out.1 (by rw [← hm1]; exact hok)
    rw [hlen, ← hP1, ← hm1] at hq
    have hnr := HB6.out.newrow (P' := P1) HS7.out (fun k hk => by
      rw [hP1] at hk
      rcases QP.has_m hk with h1 | h1
      · exact .inl h1
      · simp [Value.ownBlock] at h1
        subst h1
        rcases HRA.out.2 with h2 | h2
        · exact .inl (.inr (.inl (by rw [HPM.out.1, h2]; rfl)))
        · exact .inr ⟨h2, HRA.out.1.lt.2⟩)
    have hbx := HB.out.box.set 3 (.slice (some ⟨g', 0, none⟩) m0.mem.length cap')
    have hmm : MB W1 w7 G1 M m1 P m0 0 X := by rw [hm1]; exact HB.out
    exact hmm.only ((Only.refl (fun k => k = X) w7).setCell (p := ⟨X, 3, none⟩) rfl _) (by rw [hP1, hm1]; exact hbx) hq hnr.1 hnr.2)
  have HX := mhid (HX1.out.below HB.out.mis.bel)
  have HM1 := mhid (show m1 = { newM n sz with mem := putV (newM n sz).mem 0 words } from by rw [hm1, HM0.out])
  clear hP1 hm1 hlen HRA HPM HB6 HS7 b3 bf3 x2
  generalize w7.setCell ⟨X, 3, none⟩ (.slice (some ⟨g', 0, none⟩) m0.mem.length cap') = w8 at *
  refine (mw_setpc W1 w8 G1 M m1 HB.out.mis pc hpi).mono ?_
  rintro e w9 ⟨rfl, hto⟩
  obtain ⟨G2, hB, -⟩ := HB.out.mach hto
  have HB := mhid hB
  have HX := mhid (HX1.out.below HB.out.mis.bel)
  clear hto hB
  have x2 := HX.out.cell (k := 2) rfl
  have b4 := HB.out.box.cell (k := 4) rfl
  have bf4 := HB.out.box.frozen 4
  have x3 := HX.out.cell (k := 3) rfl
  have x4 := HX.out.cell (k := 4) rfl
  have x5 := HX.out.cell (k := 5) rfl
  have x6 := HX.out.cell (k := 6) rfl
  have hne : w.heap.size ≠ X := by have := HB.out.hX; have := HB1.out.size; have := HX1.out.lt; omega
  go_upto_region 9 with (fail)
  have HB := mhid (show MB W1 (w9.setCell ⟨X, 4, none⟩ (.int .u32 pc)) G2 M { m1 with pc := pc } P1 { m1 with pc := pc } 0 X from
    HB.out.only ((Only.refl (fun k => k = X) w9).setCell (p := ⟨X, 4, none⟩) rfl _) (HB.out.box.set 4 _) (HB.out.q.cells HB.out.ok rfl rfl rfl rfl rfl rfl) HB.out.off HB.out.ne)
  obtain ⟨m2, hm2⟩ : ∃ m2, m2 = { m1 with pc := pc } := ⟨_, rfl⟩
  rw [← hm2] at HB
  have HM2 := mhid hm2
  clear hm2 b4 bf4 x2 x3 x4 x5 x6
  generalize w9.setCell ⟨X, 4, none⟩ (.int .u32 pc) = w10 at *
  have HX := mhid (HX1.out.below HB.out.mis.bel)
  have x3 := HX.out.cell (k := 3) rfl
  have x4 := HX.out.cell (k := 4) rfl
  have x5 := HX.out.cell (k := 5) rfl
  have x6 := HX.out.cell (k := 6) rfl
  go_wp2_with fail
  refine (mw_setpsr W1 w10 G2 M m2 HB.out.mis q hqi).mono ?_
  rintro e w11 ⟨rfl, hto⟩
  obtain ⟨G3, hB, -⟩ := HB.out.mach hto
  have HB := mhid hB
  clear hto hB x3 x4 x5 x6
  go_upto_if 62 with (fail)
  go_cut [] from 58 (fun w' => MB W1 w' G3 M (spsrM m2 q) P1 (spsrM m2 q) 0 X)
  case first =>
    by_cases hz : packE q m2.nw = 0
    · have HX := mhid (HX1.out.below HB.out.mis.bel)
      have x3 := HX.out.cell (k := 3) rfl
      have x4 := HX.out.cell (k := 4) rfl
      have x5 := HX.out.cell (k := 5) rfl
      have x6 := HX.out.cell (k := 6) rfl
      have b5 := HB.out.box.cell (k := 5) rfl
      have b6 := HB.out.box.cell (k := 6) rfl
      have b7 := HB.out.box.cell (k := 7) rfl
      have b8 := HB.out.box.cell (k := 8) rfl
      have bf5 := HB.out.box.frozen 5
      have bf6 := HB.out.box.frozen 6
      have bf7 := HB.out.box.frozen 7
      have bf8 := HB.out.box.frozen 8
      have hzb : (packE q m2.nw == 0) = true := by rw [beq_iff_eq]; exact hz
      have HZ := mhid (show spsrM m2 q = { m2 with p := q } from if_pos hz)
      clear hz
      rw [hzb]
      clear hzb
      go_wp2_with fail
      go_meet
      have hok := HB.out.ok
      rw [HZ.out] at HB hok ⊢
      exact HB.out.only (((((Only.refl (fun k => k = X) w11).setCell (p := ⟨X, 5, none⟩) rfl _).setCell (p := ⟨X, 6, none⟩) rfl _).setCell (p := ⟨X, 7, none⟩) rfl _).setCell (p := ⟨X, 8, none⟩) rfl _) ((((HB.out.box.set 5 _).set 6 _).set 7 _).set 8 _) (HB.out.q.cells hok rfl rfl rfl rfl rfl rfl) HB.out.off HB.out.ne
    · have hzb : (packE q m2.nw == 0) = false := by rw [beq_eq_false_iff_ne]; exact hz
      have HZ := mhid (show spsrM m2 q = m2 from if_neg hz)
      clear hz
      rw [hzb]
      clear hzb
      go_wp2_with fail
      go_meet
      rw [HZ.out] at HB ⊢
      exact HB.out
  obtain ⟨w12, rfl⟩ : ∃ W, W = wc := ⟨_, rfl⟩
  have HB := mhid hcut
  clear hcut
  obtain ⟨m3, hm3⟩ : ∃ m3, m3 = spsrM m2 q := ⟨_, rfl⟩
  rw [← hm3] at HB
  have HM3 := mhid hm3
  clear hm3
  go_upto_region 11 with (fail)
  have HX := mhid (HX1.out.below HB.out.mis.bel)
  have x7 := HX.out.cell (k := 7) rfl
  go_wp2_with fail
  refine (mw_setwim W1 w12 G3 M m3 HB.out.mis (HBR.out.keep (HBW.out _ (Below.refl _ _))) wim hwi).mono ?_
  rintro e w13 ⟨rfl, hto⟩
  obtain ⟨G4, hB, -⟩ := HB.out.mach hto
  have HB := mhid hB
  clear hto hB x7
  go_upto_if 70 with (fail)
  go_cut [] from 66 (fun w' => MB W1 w' G4 M (swimM m3 wim) P1 (swimM m3 wim) 0 X)
  case first =>
    by_cases hz : invE wim m3.nw = 0
    · have HX := mhid (HX1.out.below HB.out.mis.bel)
      have x7 := HX.out.cell (k := 7) rfl
      have b9 := HB.out.box.cell (k := 9) rfl
      have bf9 := HB.out.box.frozen 9
      have hzb : (invE wim m3.nw == 0) = true := by rw [beq_iff_eq]; exact hz
      have HZ := mhid (show swimM m3 wim = { m3 with wim := wim } from if_pos hz)
      clear hz
      rw [hzb]
      clear hzb
      go_wp2_with fail
      go_meet
      have hok := HB.out.ok
      rw [HZ.out] at HB hok ⊢
      exact HB.out.only ((Only.refl (fun k => k = X) w13).setCell (p := ⟨X, 9, none⟩) rfl _) (HB.out.box.set 9 _) (HB.out.q.cells hok rfl rfl rfl rfl rfl rfl) HB.out.off HB.out.ne
    · have hzb : (invE wim m3.nw == 0) = false := by rw [beq_eq_false_iff_ne]; exact hz
      have HZ := mhid (show swimM m3 wim = m3 from if_neg hz)
      clear hz
      rw [hzb]
      clear hzb
      go_wp2_with fail
      go_meet
      rw [HZ.out] at HB ⊢
      exact HB.out
  obtain ⟨w14, rfl⟩ : ∃ W, W = wc := ⟨_, rfl⟩
  have HB := mhid hcut
  clear hcut
  obtain ⟨m4, hm4⟩ : ∃ m4, m4 = swimM m3 wim := ⟨_, rfl⟩
  rw [← hm4] at HB
  have HM4 := mhid hm4
  clear hm4
  go_wp2_with fail
  have HRA := mhid (And.intro hrp hra)
  clear hrp hra
  go_loopw [8] (fun s wr => ∃ k : Nat, s = .int .i64 (k : Int) ∧ k ≤ regs.length ∧ ∃ G P, MB W1 wr G M { m4 with f := regsF m4.f regs k } P { m4 with f := regsF m4.f regs k } k X) (fun s _ => regs.length - (intOf s).toNat)
  case atStart => exact ⟨0, rfl, by omega, G4, P1, HB.out⟩
  case round =>
    obtain ⟨k, rfl, hk, G5, P5, hB⟩ := hrel
    have HB := mhid hB
    clear hB
    have HX := mhid (HX1.out.below HB.out.mis.bel)
    have x9 := HX.out.cell (k := 9) rfl
    by_cases hlt : k < regs.length
    · have c1 : (k : Int) < (regs.length : Int) := by omega
      obtain ⟨r, hr⟩ : ∃ r, regs[k]? = some r := ⟨_, List.getElem?_eq_getElem hlt⟩
      have hrk := (HRA.out.2 k r hr).keepb (HBW.out _ HB.out.mis.bel)
      have hpe := HRA.out.1 (by omega)
      subst hpe
      have r0 := hrk.c0
      have r1 := hrk.c1
      have r2 := hrk.c2
      have r3 := hrk.c3
      have HBD := mhid hrk.bd
      have HRF := mhid (show regsF m4.f regs (k + 1) = setV (regsF m4.f regs k) r.win r.bank r.reg r.w from by rw [regsF, hr])
      clear hrk hr
      go_wp2_with fail
      obtain ⟨R0, hR0⟩ : ∃ R0, R0 = wr.heap.size := ⟨_, rfl⟩
      rw [← hR0]
      obtain ⟨w16, hw16⟩ : ∃ w16, w16 = wr.alloc (.cells #[.int .i64 r.win, .int .i64 r.bank, .int .i64 r.reg, .int .u32 r.w] 78) := ⟨_, rfl⟩
      rw [← hw16]
      have hb16 : Below wr.heap.size wr w16 := by rw [hw16]; exact (Below.refl _ _).alloc (Nat.le_refl _) _
      have HRR := mhid (show ARow w16 R0 78 [.int .i64 r.win, .int .i64 r.bank, .int .i64 r.reg, .int .u32 r.w] from by rw [hw16, hR0]; exact ARow.fresh _ _ _)
      have HRN := mhid (show G5.R R0 = .none ∧ X ≠ R0 from ⟨by
        by_cases e : G5.R R0 = .none
        · exact e
        · have := HB.out.mis.at'.lt R0 e; omega, by have := HB.out.box.lt; omega⟩)
      have HB := mhid (HB.out.keepb hb16)
      have HBd := mhid (HB.out.keepb (w' := w16.drew) ((Below.refl _ _).drew))
      have d0 := HRR.out.cell (k := 0) rfl
      have d1 := HRR.out.cell (k := 1) rfl
      have d2 := HRR.out.cell (k := 2) rfl
      have d3 := HRR.out.cell (k := 3) rfl
      clear hw16 hR0 hb16 x9 r0 r1 r2 r3
      go_still_tail 10, (by kernel_rfl)
      still_call ((mfile_any w16.drew G5 M _ HBd.out.mis.at').mono (fun e w' h => ⟨h.1, h.2.symm⟩))
      repeat still_step
      refine wpStill_nil ?_
      change wpList _ _ _ _ _ w16.drew
      go_wp2_with fail
      refine (mw_set W1 w16.drew G5 M _ HBd.out.mis r.win r.bank r.reg r.w ⟨HBD.out.2.2.2.1, HBD.out.2.2.2.2⟩).mono ?_
      rintro e w17 ⟨rfl, hto⟩
      obtain ⟨G6, hB, hkp⟩ := HBd.out.mach hto
      have HB := mhid hB
      have HRR := mhid (show ARow w17 R0 78 [.int .i64 r.win, .int .i64 r.bank, .int .i64 r.reg, .int .u32 r.w] from HRR.out.of_block (hkp.1.block R0 HRR.out.lt (fun hC => hC HRN.out.1)))
      clear hto hB hkp d0 d1 d2 d3
      have d0 := HRR.out.cell (k := 0) rfl
      have d1 := HRR.out.cell (k := 1) rfl
      have d2 := HRR.out.cell (k := 2) rfl
      have d3 := HRR.out.cell (k := 3) rfl
      have b1 := HB.out.box.cell (k := 1) rfl
      have b2 := HB.out.box.cell (k := 2) rfl
      go_wp2_with fail
      obtain ⟨L, hL1, hL2, hL3⟩ := HB.out.q.log
      refine (rf_set w17 (regsF m4.f regs k) HB.out.q.ok.f P5.l L hL1 (by omega) hL2 r.win r.bank r.reg r.w).mono ?_
      rintro e w18 ⟨lv, L', rfl, hL1', hL2', hL3', hb18, hfr⟩
      have HS := mhid hb18.size
      have HB17 := HB
      have HB := mhid (HB.out.keepb hb18)
      have HLG := mhid (And.intro hL1' (And.intro hL2' (And.intro (show L'.length ≤ k + 1 by omega) hfr)))
      obtain ⟨pl, cl, rfl⟩ := hL1'.shape
      clear hL1 hL2 hL3 hL1' hL2' hL3' hb18 hfr b1 b2 d0 d1 d2 d3
      have b1 := HB.out.box.cell (k := 1) rfl
      have b2 := HB.out.box.cell (k := 2) rfl
      have bf1 := HB.out.box.frozen 1
      have bf2 := HB.out.box.frozen 2
      have c4 : IntKind.i64.wrap ((k : Int) + 1) = ((k + 1 : Nat) : Int) := by rw [IntWalk.i64_in _ (by omega)]; omega
      go_wp2_with fail
      have hlt2 : ∀ j, (Value.slice pl L'.length cl).ownBlock = some j → j < w18.heap.size := fun j hj => by
        rcases HLG.out.1 with ⟨h1, _⟩ | ⟨g, cap, h1, h2, _⟩
        · rw [h1] at hj; simp [Value.ownBlock] at hj
        · rw [h1] at hj; simp [Value.ownBlock] at hj; omega
      have hnr := HB17.out.newrow (P' := P5.setL (.slice pl L'.length cl)) HS.out (fun j hj => by
        rcases QP.has_l hj with h1 | h1
        · exact .inl h1
        · rcases HLG.out.2.2.2 j h1 with h2 | h2
          · exact .inl (.inl h2)
          · exact .inr ⟨h2, hlt2 j h1⟩)
      have hok : ({ m4 with f := regsF m4.f regs (k + 1) } : Mx).ok := by rw [HRF.out]; exact HB.out.ok
      have hq : QVal w18 (k + 1) (P5.setL (.slice pl L'.length cl)) { m4 with f := regsF m4.f regs (k + 1) } := by
        have := HB.out.q.setL (v := .slice pl L'.length cl) (f := regsF m4.f regs (k + 1)) (N' := k + 1) ⟨L', HLG.out.1, by rw [HRF.out]; exact HLG.out.2.1, HLG.out.2.2.1⟩ hok
        exact this
      have hmm : MB W1 w18 G6 M { m4 with f := regsF m4.f regs (k + 1) } P5 { m4 with f := regsF m4.f regs k } k X := by rw [HRF.out]; exact HB.out
      have hbx := (HB.out.box.set 1 (.int .i64 (regsF m4.f regs k).nw)).set 2 (.slice pl L'.length cl)
      have hnw : (regsF m4.f regs (k + 1)).nw = (regsF m4.f regs k).nw := by rw [regsF_nw, regsF_nw]
      have hbx2 : ARow ((w18.setCell ⟨X, 1, none⟩ (.int .i64 (regsF m4.f regs k).nw)).setCell ⟨X, 2, none⟩ (.slice pl L'.length cl)) X 39 (qC (P5.setL (.slice pl L'.length cl)) { m4 with f := regsF m4.f regs (k + 1) }) := by
        refine hbx.to ?_
        show [_, _, _, _, _, _, _, _, _, _, _, _, _, _, _, _] = _
        unfold qC
        rw [show (({ m4 with f := regsF m4.f regs (k + 1) } : Mx).f.nw) = (regsF m4.f regs k).nw from hnw]
        rfl
      have hfin := hmm.only (((Only.refl (fun k => k = X) w18).setCell (p := ⟨X, 1, none⟩) rfl _).setCell (p := ⟨X, 2, none⟩) rfl _) hbx2 hq hnr.1 hnr.2
      exact ⟨⟨k + 1, by go_num, by omega, G6, _, hfin⟩, by simp only [intOf]; omega⟩
    · have hke : k = regs.length := by omega
      have c1 : ¬ ((k : Int) < (regs.length : Int)) := by omega
      subst hke
      have x10 := HX.out.cell (k := 10) rfl
      go_wp2_with fail
      refine (mw_choose W1 wr G5 M _ HB.out.mis _ ch (HCH.out.reads (HBW.out _ HB.out.mis.bel)) (by omega) HCH.out.1.1 (fun c n e => (HCH.out.2.2 _ _ _ e).2 rfl)).mono ?_
      rintro e w19 ⟨rfl, hto⟩
      obtain ⟨G6, hB, -⟩ := HB.out.mach hto
      have HB := mhid hB
      have HX := mhid (HX1.out.below HB.out.mis.bel)
      clear hto hB x9 x10
      have x10 := fun (o : Obj) => (HX.out.alloc o).cell (k := 10) rfl
      obtain ⟨i0, hi, hz0, hz1, hz2⟩ := info_parts info32
      obtain ⟨pp, hpp⟩ : ∃ pp, pp = pc' := ⟨_, rfl⟩
      have HNL := mhid (show pc' = none → ch.length = 0 ∧ cc = 0 from fun e => by
        have := (HCH.out.2.2 _ _ _ rfl).2 e
        have := (HCH.out.2.2 _ _ _ rfl).1
        omega)
      have HNW := mhid (show ∀ ad, pc' = some ad → ∀ (j : Nat) u, (u32s ch)[j]? = some u → (w19.alloc (.cells #[] 22)).cell? (ad.add j) = some u from fun ad had j u hu => by
        have hj : j < ch.length := by
          have := (List.getElem?_eq_some_iff.1 hu).1
          simpa [u32s] using this
        obtain ⟨b, o, p, c, hv, -, hp, hc⟩ := (HCH.out.reads (HBW.out _ HB.out.mis.bel)).shape
        cases hv
        obtain rfl := Option.some.inj (had.symm.trans (hp (by omega)))
        rw [u32s_get hj] at hu
        cases hu
        rw [maddr_add]
        exact Lib.cell?_alloc_some _ (hc j hj))
      have hcn : (u32s ch).length = ch.length * 1 := by simp [u32s]
      clear hpp
      go_wp2_with (at_builtin; refine wpList_app_copy _ (by rfl) (.tmp 116) (.tmp 118) 25 (by rfl) w19.heap.size 22 i0 _ 1 4 Tryz.underlying25 hi hz0 hz1 hz2 rfl (by decide) w19.heap.size 0 (by rfl) (World.ownsRow_made w19 #[] 0 (Nat.le_refl _) (Nat.zero_le _) (by simp)) pc' ch.length cc (u32s ch) (by rfl) hcn HNL.out HNW.out u32s_one (by unfold maxLen; omega) (by omega) (by simp) (Nat.le_refl _) ?_; intro g20 cap20 w20 hown20 hb20; have HO20 := mhid (And.intro hown20 hb20); have HB20 := mhid (HB.out.keepb (((Below.refl _ w19).alloc (Nat.le_refl _) _).trans (hb20.mono (Nat.le_refl _)))); have HB20s := mhid (show w19.heap.size ≤ w20.heap.size from by have h1 := hb20.size; rw [World.size_alloc] at h1; omega); have b12 := HB20.out.box.cell (k := 12) rfl; have bf12 := HB20.out.box.frozen 12; clear hown20 hb20)
      obtain ⟨m6, hm6⟩ : ∃ m6, m6 = ({ { m4 with f := regsF m4.f regs regs.length } with ch := ch } : Mx) := ⟨_, rfl⟩
      obtain ⟨P6, hP6⟩ : ∃ P6, P6 = P5.setC (.slice (some ⟨g20, 0, none⟩) ch.length cap20) := ⟨_, rfl⟩
      have HB := mhid (show MB W1 (w20.setCell ⟨X, 12, none⟩ (.slice (some ⟨g20, 0, none⟩) ch.length cap20)) G6 M m6 P6 m6 regs.length X from by
        have hown := HO20.out.1
        have hg20 := own_range hown g20 rfl
        have hnr := HB.out.newrow (w' := w20) (P' := P6) HB20s.out (fun j hj => by
          rw [hP6] at hj
          rcases QP.has_c hj with h1 | h1
          · exact .inl h1
          · simp [Value.ownBlock] at h1
            subst h1
            exact .inr hg20)
        have hq : QVal w20 regs.length P6 m6 := by
          rw [hP6, hm6]
          exact HB20.out.q.setC (ch_of_own hown (fun _ _ => rfl)) HB.out.ok
        have hmm : MB W1 w20 G6 M m6 P5 { m4 with f := regsF m4.f regs regs.length } regs.length X := by rw [hm6]; exact HB20.out
        exact hmm.only ((Only.refl (fun k => k = X) w20).setCell (p := ⟨X, 12, none⟩) rfl _) ((HB20.out.box.set 12 _).to (by rw [hP6, hm6]; rfl)) hq hnr.1 hnr.2)
      have HRS := mhid (HR1.out.below HB.out.mis.bel)
      have HNE := mhid (show w.heap.size + 1 ≠ X from by have := HR1.out.lt; have := HB.out.hX; omega)
      have HM6 := mhid (show m6 = madeM ⟨n, sz, pc, q, wim, words, regs, ch⟩ from by
        have e3 : m3 = spsrM m2 q := HM3.out
        rw [hm6, HM4.out, e3, HM2.out, HM1.out]; rfl)
      clear hm6 hP6 HO20 HB20 HB20s b12 bf12 x10 HNL HNW hcn
      generalize w20.setCell ⟨X, 12, none⟩ (.slice (some ⟨g20, 0, none⟩) ch.length cap20) = w21 at *
      obtain ⟨w22, hw22⟩ : ∃ w22, w22 = w21.drew := ⟨_, rfl⟩
      have HBd := mhid (show Below w21.heap.size w21 w22 from by rw [hw22]; exact (Below.refl _ _).drew)
      have HB := mhid (HB.out.keepb HBd.out)
      have HRS := mhid (HRS.out.below HBd.out)
      have HSX := mhid (show ∀ cs, ARow (w22.setRow (w.heap.size + 1) cs) X 39 (qC P6 m6) from fun cs => HB.out.box.setRow_other (fun e => HNE.out e.symm) cs)
      refine wp_region_held_drew (S := (fun w' => ARow w' X 39 (qC P6 m6))) (by kernel_rfl) (by rw [← hw22]; exact HB.out.box) (fun hHeld => ?_)
      rw [← hw22] at hHeld ⊢
      clear hw22
      try simp only [List.getElem_toArray, List.getElem_cons_zero, List.getElem_cons_succ]
      refine wpAnyH_take (i := 0) (v := _) rfl (by kernel_rfl) (by kernel_rfl) (by kernel_rfl) (fun _ _ _ h => h) (Or.inl ⟨by rfl, (by intro w hSw; (try dsimp only at hSw); go_simp; try with_reducible rfl)⟩) (by assumption) ?_
      try simp only [Act.put, List.getElem_toArray, List.getElem_cons_zero, List.getElem_cons_succ, List.setIfInBounds_toArray, List.set_cons_zero, List.set_cons_succ]
      refine wpAnyH_take (i := 2) (v := _) rfl (by kernel_rfl) (by kernel_rfl) (by kernel_rfl) (fun _ _ _ h => h) (Or.inl ⟨by rfl, (by intro w hSw; (try dsimp only at hSw); go_simp; try with_reducible rfl)⟩) (by assumption) ?_
      try simp only [Act.put, List.getElem_toArray, List.getElem_cons_zero, List.getElem_cons_succ, List.setIfInBounds_toArray, List.set_cons_zero, List.set_cons_succ]
      refine wpAnyH_ready (rs := [1]) (by kernel_rfl) (by simp) ?_
      refine (AllReadyH.cons rfl (fun K hK => ?_) AllReadyH.nil)
      refine step_load_row (by rfl) 39 (.tmp 6) (by rfl) X (by rfl) 39 (qC P6 m6).toArray (0, 0) _ HB.out.box Tryz.underlying39 rfl q_size ?_
      refine hK.out _ _ (HB.out.box) (fun hHeld2 => ?_)
      clear hK K 
      try simp only [Act.put, List.getElem_toArray, List.getElem_cons_zero, List.getElem_cons_succ, List.setIfInBounds_toArray, List.set_cons_zero, List.set_cons_succ]
      refine wpAnyH_ready (rs := [3]) (by kernel_rfl) (by simp) ?_
      refine (AllReadyH.cons rfl (fun K hK => ?_) AllReadyH.nil)
      refine step_store_row (by rfl) 39 (.tmp 3) (.tmp 122) (by rfl) (w.heap.size + 1) (qC P6 m6).toArray (by rfl) (by rfl) 39 qZ.toArray HRS.out q_size (by rfl) HB.out.q.one ?_
      refine hK.out _ _ (HSX.out _) (fun hHeld2 => ?_)
      clear hK K 
      try simp only [Act.put, List.getElem_toArray, List.getElem_cons_zero, List.getElem_cons_succ, List.setIfInBounds_toArray, List.set_cons_zero, List.set_cons_succ]
      refine wpAnyH_done (by kernel_rfl) ?_ _
      have hS : ARow (w22.setRow (w.heap.size + 1) (qC P6 m6).toArray) (w.heap.size + 1) 39 (qC P6 m6) := HRS.out.setRow _
      have hbel : Below w.heap.size w (w22.setRow (w.heap.size + 1) (qC P6 m6).toArray) := below_setRow (HBW.out _ HB.out.mis.bel) (by omega) _
      have hOn : Only (fun k => k = w.heap.size + 1) w22 (w22.setRow (w.heap.size + 1) (qC P6 m6).toArray) := ⟨rfl, rfl, rfl, by simp, fun k hk hne => Go.setRow_other w22 (w.heap.size + 1) k _ hne⟩
      have hlo : ∀ k, G6.R k ≠ .none → k ≠ w.heap.size + 1 := fun k hk e => by have := HB.out.mis.lo k hk; have := HR1.out.lt; omega
      have hqn : QVal (w22.setRow (w.heap.size + 1) (qC P6 m6).toArray) regs.length P6 m6 := HB.out.q.keepO hOn (fun k hk e => by have := (HB.out.ne k hk).2; have := HR1.out.lt; omega)
      have hmi : MIs w (w22.setRow (w.heap.size + 1) (qC P6 m6).toArray) G6 M m6 := ⟨HB.out.mis.at'.keep hOn (fun k hk e => hlo k hk e), fun k hk => by have := HB.out.mis.lo k hk; have := HB1.out.size; omega, hbel⟩
      have hof : QOff (w22.setRow (w.heap.size + 1) (qC P6 m6).toArray) G6 P6 := HB.out.off.keepb (by simp)
      generalize w22.setRow (w.heap.size + 1) (qC P6 m6).toArray = w23 at *
      go_wp2_with fail
      rw [HM6.out] at hS hqn hmi
      exact bodyPost_ret (results_slot_row (P := Tryz.prog) Tryz.results6 _ w23 (w.heap.size + 1) _ _ (0, 0) _ _ rfl rfl hS Tryz.underlying39 rfl q_size) rfl ⟨M, G6, P6, rfl, hmi, hqn, hof⟩
end Go.Proofs.YtgdebchbdmogcaaGreatDoor
