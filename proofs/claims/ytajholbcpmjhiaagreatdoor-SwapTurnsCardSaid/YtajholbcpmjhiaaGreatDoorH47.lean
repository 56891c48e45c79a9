/- Several texts in one: SwapTurnsWalk, WindOpen, SwapOpen. -/
import Derived.Test.YtajholbcpmjhiaaGreatDoorH46
set_option linter.unusedVariables false
set_option linter.unusedSimpArgs false
/- The walk of muntinlaw10.SwapTurns. (Printed by genswapturns.py.) -/
namespace Go.Proofs.YtajholbcpmjhiaaGreatDoor
open Go.RowKit
theorem infosw : (Tryz.prog.info? 24).map (fun i => (i.zero, i.size, i.bytes)) = some (some (.int .u32 0), 1, 4) := by kernel_rfl
theorem scbox (w : World) (x : CaseS) (vr vf : Value) : ARow (w.alloc (.cells (x.cells vr vf).toArray 76)) w.heap.size 76 (x.cells vr vf) := ARow.fresh w _ _
def gl7 (f : Fx) (k : Nat) : List Int := (List.range 7).map fun i => if i + 1 < k then getV f 0 0 ((i : Int) + 1) else 0
theorem gl7_len (f : Fx) (k : Nat) : (gl7 f k).length = 7 := by unfold gl7; simp
theorem gl7_one (f : Fx) : gl7 f 1 = List.replicate 7 0 := by unfold gl7; rfl
theorem gl7_set (f : Fx) {k : Nat} (h1 : 1 ≤ k) (h8 : k < 8) : (gl7 f k).set (k - 1) (getV f 0 0 k) = gl7 f (k + 1) := by
  refine List.ext_getElem? fun i => ?_
  by_cases hi : i < 7
  · by_cases e : i = k - 1
    · subst e
      rw [List.getElem?_set_self (by rw [gl7_len]; omega)]
      unfold gl7
      rw [List.getElem?_map, List.getElem?_range (by omega)]
      simp only [Option.map_some]
      rw [if_pos (by omega), show (((k - 1 : Nat) : Int) + 1) = (k : Int) by omega]
    · rw [List.getElem?_set_ne (by omega)]
      unfold gl7
      rw [List.getElem?_map, List.getElem?_map, List.getElem?_range hi]
      simp only [Option.map_some]
      by_cases h : i + 1 < k
      · rw [if_pos h, if_pos (by omega)]
      · rw [if_neg h, if_neg (by omega)]
  · rw [List.getElem?_eq_none (by rw [List.length_set, gl7_len]; omega), List.getElem?_eq_none (by rw [gl7_len]; omega)]
theorem gl7_at (f : Fx) {k : Nat} (h1 : 1 ≤ k) (h8 : k < 8) : (gl7 f 8).getD (k - 1) 0 = getV f 0 0 k := by
  unfold gl7
  rw [List.getD_eq_getElem?_getD, List.getElem?_map, List.getElem?_range (by omega)]
  simp only [Option.map_some, Option.getD_some]
  rw [if_pos (by omega), show (((k - 1 : Nat) : Int) + 1) = (k : Int) by omega]
theorem SQ.far {w W2 wr w' : World} {G : MG} {M : Nat} {m : Mx} {b0 B N0 n : Nat} {cs : List Value} {q : W8} {p : Option Addr} {l c g cap gg : Nat} (h : SQ w W2 wr G M m b0 B N0 n cs q p l c g cap) (o : Only (fun k => k = gg) wr w') (hg : B < gg) (hown : ∀ k, own8 (q.agg (.slice p l c) g cap) k → k ≠ gg) : SQ w W2 w' G M m b0 B N0 n cs q p l c g cap := by
  obtain ⟨n1, n2, n3, n4⟩ := h.num
  have hlt := h.row.lt
  have hbx := h.box.lt
  have hb : Below B wr w' := o.below (by omega) (fun k hk e => by omega)
  have hbb := h.mis.bel.size
  exact ⟨⟨h.mis.at'.keep o (fun j hj e => by have := h.mach j hj; omega), h.mis.lo, h.mis.bel.trans (hb.mono (by omega))⟩, h.box.of_block (o.block _ h.box.lt (fun e => by omega)), h.own, h.row.of_block (o.block _ h.row.lt (fun e => by omega)), h.at'.only o (fun j hj e => hown j hj e), h.bel.trans (hb.mono (by omega)), h.num, h.mach⟩
set_option maxRecDepth 100000 in
set_option maxHeartbeats 8000000 in
theorem sturns_any (w : World) (ht : Tab w) (hbr : Bru w) (x : CaseS) (vr vf : Value) (h : CaseSIn w x vr vf) :
    Calls Tryz.prog 7 #[x.agg vr vf] w fun e w' => e = .returned (.bool true) ∧ Below w.heap.size w w' := by
  have HX := mhid h
  obtain ⟨pr, cr, rfl⟩ : ∃ p c, vr = .slice p x.regs.length c := by obtain ⟨⟨_, p, c, e, _⟩, _⟩ := h.r; exact ⟨p, c, e⟩
  obtain ⟨pf, cf, rfl⟩ : ∃ p c, vf = .slice p x.frames.length c := by obtain ⟨_, _, p, c, _, _, e, _⟩ := h.f; exact ⟨p, c, e⟩
  have HT := mhid ht
  have HR := mhid hbr
  clear ht hbr h
  have hhead : ∀ W : World, Below w.heap.size w W → Calls Tryz.prog 33 #[] W fun e w' => e = .returned (.bool true) ∧ Below w.heap.size w w' := fun W hb =>
    (shead_any W (HT.out.keep hb) (HR.out.keep hb)).mono fun e w' he => ⟨he.1, hb.trans (he.2.mono hb.size)⟩
  have HHD := mhid hhead
  clear hhead
  obtain ⟨W1, hW1⟩ : ∃ W1, W1 = w.alloc (.cells (x.cells (.slice pr x.regs.length cr) (.slice pf x.frames.length cf)).toArray 76) := ⟨_, rfl⟩
  have hb1 : Below w.heap.size w W1 := by rw [hW1]; exact (Below.refl _ _).alloc (Nat.le_refl _) _
  have hB : ARow W1 w.heap.size 76 (x.cells (.slice pr x.regs.length cr) (.slice pf x.frames.length cf)) := by rw [hW1]; exact scbox _ _ _ _
  have HB1 := mhid hb1
  have HB := mhid hB
  unfold CaseS.cells at HB hW1
  clear hb1 hB
  have HBa := mhid (scbox w x (.slice pr x.regs.length cr) (.slice pf x.frames.length cf))
  unfold CaseS.cells at HBa
  have HSZ := mhid (show (Tryz.prog.info? 76).map (·.size) = some ([.int .i64 x.nw, .int .i64 x.cwp, .int .i64 x.inv, .slice pr x.regs.length cr, .slice pf x.frames.length cf, .int .i64 x.threads, .int .i64 x.runs, .bool (x.alive 0), .bool (x.alive 1), .bool (x.alive 2), .bool (x.alive 3), .int .u16 (x.stacks 0), .int .u16 (x.stacks 1), .int .u16 (x.stacks 2), .int .u16 (x.stacks 3), .int .u32 x.choice, .int .u8 x.flags, .int .u8 x.pil, .int .u32 x.fill, .bool x.en] : List Value).toArray.size from by kernel_rfl)
  go_enter Tryz.func7, Tryz.ntmps7
  unfold CaseS.agg
  go_wp2_with (refine wpList_load_row rfl 76 (.tmp 1) rfl (w.heap.size) rfl 76 _ (0, 0) _ HBa.out Tryz.underlying76 rfl HSZ.out ?_)
  rw [← hW1]
  clear hW1 HBa
  refine (smay_any W1 x (.slice pr x.regs.length cr) (.slice pf x.frames.length cf) (HX.out.keepb HB1.out)).mono ?_
  rintro e W2 ⟨rfl, hb2⟩
  have HB2 := mhid (HB1.out.trans (hb2.mono HB1.out.size))
  have HBX := mhid (HB.out.below hb2)
  clear hb2 HB HB1
  by_cases hm : mayS x
  · rw [decide_eq_true hm]
    have HM0 := mhid hm
    go_wp2_with (refine BigFrame.wpList_want (by rfl) (fun K hK => wp_load_row 76 (.tmp 1) rfl (w.heap.size) rfl 76 _ (0, 0) _ HBX.out Tryz.underlying76 rfl HSZ.out (hK _ _ ?_)))
    refine (sliving_any W2 x (.slice pr x.regs.length cr) (.slice pf x.frames.length cf) hm).mono ?_
    rintro e W3 ⟨rfl, hb3⟩
    have HB3 := mhid (HB2.out.trans (hb3.mono HB2.out.size))
    have HBX3 := mhid (HBX.out.below hb3)
    clear hb3 HB2 HBX
    by_cases hl0 : liveS x = 0
    · rw [hl0]
      go_wp2_with fail
      refine (HHD.out W3 HB3.out).mono ?_
      rintro e w3 ⟨rfl, hb3⟩
      go_wp2_with fail
      first
        | go_ret2
        | go_ret
      exact ⟨rfl, hb3⟩
    have HL := mhid (show 0 < liveS x by omega)
    have hl1 : ¬ ((liveS x : Nat) : Int) = 0 := by omega
    clear hl0
    generalize liveS x = lv at hl1 ⊢
    go_wp2_with (refine wpList_load_row rfl 76 (.tmp 1) rfl (w.heap.size) rfl 76 _ (0, 0) _ HBX3.out Tryz.underlying76 rfl HSZ.out ?_)
    have HTW := mhid (HT.out.keep HB3.out)
    have HRW := mhid (HR.out.keep HB3.out)
    have HWW := mhid (And.intro HBX3.out.lt HB3.out.size)
    refine (smade_any W3 HTW.out HRW.out x (.slice pr x.regs.length cr) (.slice pf x.frames.length cf) (HX.out.keepb HB3.out) hm).mono ?_
    rintro e w4 ⟨M, G, m, rfl, hM, hMade⟩
    have HM := mhid hM
    have HME := mhid hMade
    have HBX4 := mhid (HBX3.out.below hM.bel)
    have HB4 := mhid (HB3.out.trans (hM.bel.mono HB3.out.size))
    clear hM hMade hm HBX3 HB3
    have c0 := HBX4.out.cell (k := 0) rfl
    have e0 : x.nw = (m.f.nw : Int) := HME.out.nw.symm
    rw [e0] at c0
    clear e0
    go_wp2_with fail
    refine (sworld_any W3 w4 G M m HM.out x.inv.toNat ?_ HME.out.wim ?_ ?_).mono ?_
    · have := HM0.out.2.2.1
      have := HME.out.nw
      omega
    · rw [HME.out.mem.len]
    · rw [HME.out.mem.len]; decide
    rintro e w5 ⟨v, f1, rfl, hq, hz, hown, hb5⟩
    have hf1 : f1.ok := by obtain ⟨lv, L, g, cap, _, hin, _⟩ := hq; exact hin.ok
    rw [show m.p.cwp = x.cwp by rw [HME.out.p], show ((x.inv.toNat : Nat) : Int) = x.inv from Int.toNat_of_nonneg HM0.out.2.2.1.1] at hq
    obtain ⟨q, hq0⟩ : ∃ q : W8, q = ⟨f1, m.mem, x.cwp, x.inv⟩ := ⟨_, rfl⟩
    have HAQ := mhid (show AtQ x m q from ⟨HME.out, HM0.out, HX.out.ch, HX.out.st, HM.out.at'.ok, by rw [hq0]; exact hz, by rw [hq0]; exact hf1, by rw [hq0], by rw [hq0], by rw [hq0]⟩)
    rw [← hq0] at hq
    clear hq0 hz hf1
    obtain ⟨lv, L, g, cap, rfl, hin, hL⟩ := hq
    obtain ⟨p, c, rfl⟩ := hin.log.shape
    have HSQ := mhid (show SQ w W3 (w5.alloc (.cells #[.int .i64 q.f.nw, .slice p L.length c, .slice (some ⟨g, 0, none⟩) q.mem.length cap, .int .i64 q.cwp, .int .i64 q.inv] 58)) G M m w.heap.size w5.heap.size w4.heap.size 700 [.int .i64 x.nw, .int .i64 x.cwp, .int .i64 x.inv, .slice pr x.regs.length cr, .slice pf x.frames.length cf, .int .i64 x.threads, .int .i64 x.runs, .bool (x.alive 0), .bool (x.alive 1), .bool (x.alive 2), .bool (x.alive 3), .int .u16 (x.stacks 0), .int .u16 (x.stacks 1), .int .u16 (x.stacks 2), .int .u16 (x.stacks 3), .int .u32 x.choice, .int .u8 x.flags, .int .u8 x.pil, .int .u32 x.fill, .bool x.en] q p L.length c g cap from by
      have hq : WAt w5 700 (q.agg (.slice p L.length c) g cap) q := ⟨_, _, _, _, rfl, hin, hL⟩
      have hb9 : Below w5.heap.size w5 (w5.alloc (.cells #[.int .i64 q.f.nw, .slice p L.length c, .slice (some ⟨g, 0, none⟩) q.mem.length cap, .int .i64 q.cwp, .int .i64 q.inv] 58)) := (Below.refl _ _).alloc (Nat.le_refl _) _
      have hb := hb5.trans (hb9.mono hb5.size)
      exact ⟨HM.out.keepb hb, HBX4.out.below hb, fun k hk => ⟨hown k hk, by have := hq.own_lt hk; omega⟩, ARow.fresh w5 _ _, hq.keep hb9, HB4.out.trans (hb.mono HB4.out.size), ⟨HWW.out.1, HWW.out.2, HM.out.bel.size, hb5.size⟩, fun k hk => HM.out.at'.lt k hk⟩)
    have hNB : w4.heap.size ≤ w5.heap.size := hb5.size
    clear hin hL hown hb5 HBX4 HB4 HM c0
    unfold W8.agg
    obtain ⟨W6, hW6⟩ : ∃ W6, W6 = w5.alloc (.cells #[.int .i64 q.f.nw, .slice p L.length c, .slice (some ⟨g, 0, none⟩) q.mem.length cap, .int .i64 q.cwp, .int .i64 q.inv] 58) := ⟨_, rfl⟩
    rw [← hW6] at HSQ
    have HW6 := mhid hW6
    clear hW6
    obtain ⟨B, hB⟩ : ∃ B, B = w5.heap.size := ⟨_, rfl⟩
    rw [← hB] at HSQ
    have c19 := HSQ.out.box.cell (k := 19) rfl
    obtain ⟨ub, hub⟩ : ∃ ub, ub = x.en := ⟨_, rfl⟩
    rw [← hub] at c19
    have HUB := mhid hub
    clear hub hNB
    rw [HW6.out] at c19
    go_upto_if 33 with (fail)
    rw [← HW6.out]
    rw [← HW6.out] at c19
    rw [← hB]
    clear HW6 hB
    go_cut [5] from 33 (fun t w' => t = .bool true ∧ ∃ (p : Option Addr) (l c g cap : Nat), Hid (SQ w W3 w' G M m w.heap.size B w4.heap.size 700 [.int .i64 x.nw, .int .i64 x.cwp, .int .i64 x.inv, .slice pr x.regs.length cr, .slice pf x.frames.length cf, .int .i64 x.threads, .int .i64 x.runs, .bool (x.alive 0), .bool (x.alive 1), .bool (x.alive 2), .bool (x.alive 3), .int .u16 (x.stacks 0), .int .u16 (x.stacks 1), .int .u16 (x.stacks 2), .int .u16 (x.stacks 3), .int .u32 x.choice, .int .u8 x.flags, .int .u8 x.pil, .int .u32 x.fill, .bool x.en] (half10 x q) p l c g cap))
    case first =>
      have b0 := HSQ.out.row.cell (k := 0) rfl
      have b1 := HSQ.out.row.cell (k := 1) rfl
      have b2 := HSQ.out.row.cell (k := 2) rfl
      have b3 := HSQ.out.row.cell (k := 3) rfl
      have b4 := HSQ.out.row.cell (k := 4) rfl
      cases ub
      · have HY := mhid (half_yield HAQ.out HUB.out.symm W6 _ HSQ.out.at')
        unfold W8.agg at HY
        go_wp2_with fail
        refine HY.out.mono ?_
        rintro e w7 ⟨v7, rfl, hq7, hb7, ho7⟩
        have HQ7 := mhid hq7
        obtain ⟨lv7, L7, g7, cap7, rfl, hin7, -⟩ := hq7
        obtain ⟨p7, c7, rfl⟩ := hin7.log.shape
        have HS := mhid (HSQ.out.put hb7 HQ7.out (fun k hk => ho7 k hk))
        have HSB := mhid (HSQ.out.keep hb7)
        clear hin7 hb7 ho7 b0 b1 b2 b3 b4
        have b0 := HSB.out.row.cell (k := 0) rfl
        have b1 := HSB.out.row.cell (k := 1) rfl
        have b2 := HSB.out.row.cell (k := 2) rfl
        have b3 := HSB.out.row.cell (k := 3) rfl
        have b4 := HSB.out.row.cell (k := 4) rfl
        have z0 := HSB.out.row.frozen 0
        have z1 := HSB.out.row.frozen 1
        have z2 := HSB.out.row.frozen 2
        have z3 := HSB.out.row.frozen 3
        have z4 := HSB.out.row.frozen 4
        generalize half10 x q = qh at *
        unfold W8.agg
        go_wp2_with fail
        go_meet
        exact ⟨rfl, p7, L7.length, c7, g7, cap7, HS⟩
      · have HY := mhid (half_end HAQ.out HUB.out.symm W6 _ HSQ.out.at')
        unfold W8.agg at HY
        go_wp2_with fail
        refine HY.out.mono ?_
        rintro e w7 ⟨v7, rfl, hq7, hb7, ho7⟩
        have HQ7 := mhid hq7
        obtain ⟨lv7, L7, g7, cap7, rfl, hin7, -⟩ := hq7
        obtain ⟨p7, c7, rfl⟩ := hin7.log.shape
        have HS := mhid (HSQ.out.put hb7 HQ7.out (fun k hk => ho7 k hk))
        have HSB := mhid (HSQ.out.keep hb7)
        clear hin7 hb7 ho7 b0 b1 b2 b3 b4
        have b0 := HSB.out.row.cell (k := 0) rfl
        have b1 := HSB.out.row.cell (k := 1) rfl
        have b2 := HSB.out.row.cell (k := 2) rfl
        have b3 := HSB.out.row.cell (k := 3) rfl
        have b4 := HSB.out.row.cell (k := 4) rfl
        have z0 := HSB.out.row.frozen 0
        have z1 := HSB.out.row.frozen 1
        have z2 := HSB.out.row.frozen 2
        have z3 := HSB.out.row.frozen 3
        have z4 := HSB.out.row.frozen 4
        generalize half10 x q = qh at *
        unfold W8.agg
        go_wp2_with fail
        go_meet
        exact ⟨rfl, p7, L7.length, c7, g7, cap7, HS⟩
    case rest =>
      obtain ⟨rfl, p7, l7, c7, g7, cap7, HS⟩ := hcut
      clear HSQ c19 HUB
      obtain ⟨W7, rfl⟩ : ∃ W, W = wc := ⟨_, rfl⟩
      have HNX := mhid (half_next HAQ.out HL.out W7 _ HS.out.at')
      unfold W8.agg at HNX
      obtain ⟨qh, hqh⟩ : ∃ qh, qh = half10 x q := ⟨_, rfl⟩
      obtain ⟨q2, hq2⟩ : ∃ q2, q2 = nextD (half10 x q) (nextT x) := ⟨_, rfl⟩
      rw [← hq2, ← hqh] at HNX
      rw [← hqh] at HS
      obtain ⟨tpc, htpc⟩ : ∃ tpc, tpc = pcS x (nextT x) := ⟨_, rfl⟩
      have htpb : tpc < 4294967296 := by rw [htpc]; unfold pcS; have := (HAQ.out.next4 HL.out).2; split <;> omega
      rw [← htpc] at HNX
      have HDEF := mhid (And.intro hq2 htpc)
      have HQE := mhid hqh
      have HTP := mhid htpb
      clear hqh hq2 htpc htpb
      have b0 := HS.out.row.cell (k := 0) rfl
      have b1 := HS.out.row.cell (k := 1) rfl
      have b2 := HS.out.row.cell (k := 2) rfl
      have b3 := HS.out.row.cell (k := 3) rfl
      have b4 := HS.out.row.cell (k := 4) rfl
      have c15 := HS.out.box.cell (k := 15) rfl
      go_wp2_with fail
      refine HNX.out.mono ?_
      rintro e w8 ⟨v8, rfl, hq8, hb8, ho8⟩
      have HQ8 := mhid hq8
      obtain ⟨lv8, L8, g8, cap8, rfl, hin8, -⟩ := hq8
      obtain ⟨p8, c8, rfl⟩ := hin8.log.shape
      have HS8 := mhid (HS.out.next hb8 HQ8.out (fun k hk => ho8 k hk))
      have hown8 : ∀ k, own8 (q2.agg (.slice p8 L8.length c8) g8 cap8) k → k < w8.heap.size := fun k hk => HQ8.out.own_lt hk
      have HO8 := mhid hown8
      clear hin8 hb8 ho8 hown8 b0 b1 b2 b3 b4 c15 HNX HS HQ8
      generalize L8.length = l8 at *
      unfold W8.agg
      obtain ⟨W9, hW9⟩ : ∃ W9, W9 = w8.alloc (.cells #[.int .i64 q2.f.nw, .slice p8 l8 c8, .slice (some ⟨g8, 0, none⟩) q2.mem.length cap8, .int .i64 q2.cwp, .int .i64 q2.inv] 58) := ⟨_, rfl⟩
      rw [← hW9] at HS8
      have hs9 : W9.heap.size = w8.heap.size + 1 := by rw [hW9]; simp
      have mk : ∀ W : World, (Instr.makeSlice 22 (.int .i64 7) (.int .i64 7)).run Tryz.prog W = .ok (.slice (some ⟨W.heap.size, 0, none⟩) 7 7) (W.alloc (.cells (madeCells #[.int .u32 0] 7) 24)) := fun (W : World) => run_make_row' (P := Tryz.prog) 22 24 (.int .u32 0) 4 Tryz.underlying22 infosw rfl .i64 .i64 7 (by decide) (by decide) W
      have HW9 := mhid hW9
      have HS9 := mhid hs9
      clear hW9 hs9
      go_upto_region 14 with (fail)
      rw [← HW9.out]
      clear HW9
      generalize w8.heap.size = B8 at *
      go_wp2_with fail
      obtain ⟨gg, hgg⟩ : ∃ gg, gg = W9.heap.size := ⟨_, rfl⟩
      have hbT : Below W9.heap.size W9 (W9.alloc (.cells (madeCells #[.int .u32 0] 7) 24)) := (Below.refl _ _).alloc (Nat.le_refl _) _
      have HS10 := mhid (HS8.out.keep hbT)
      have HG10 := mhid (show ARow (W9.alloc (.cells (madeCells #[.int .u32 0] 7) 24)) gg 24 (u32s (gl7 m.f 1)) from by
        rw [hgg, gl7_one]
        have hr : (madeCells #[(.int .u32 0 : Value)] 7).toList = u32s (List.replicate 7 0) := by
          unfold u32s; rw [List.map_replicate]; exact toList_madeCells_one _ 7
        rw [← hr]
        exact ARow.fresh W9 _ _)
      have HGB := mhid (show B8 < gg ∧ w4.heap.size ≤ gg from ⟨by have := HS9.out; omega, by have := HS9.out; have := HS8.out.num.2.2.2; omega⟩)
      have HOW := mhid (show ∀ k, own8 (q2.agg (.slice p8 l8 c8) g8 cap8) k → k ≠ gg from fun k hk => by have := HO8.out k hk; have := HS9.out; omega)
      obtain ⟨kk, m', t1, tk, hrest, haft, -, -, hwin, hmem⟩ := swap_go HAQ.out.made HM0.out HAQ.out.ch HAQ.out.st HAQ.out.ok HL.out
      have hnS : nS x < m.f.nw := HAQ.out.trap.nn
      have hnw32 := HAQ.out.ok.f.nw32
      have HKK := mhid (show 1 ≤ kk ∧ kk ≤ 40 * m.f.nw + 140 ∧ m.f.nw ≤ 32 from ⟨t1, by omega, hnw32⟩)
      have HRE := mhid (show Rest tpc kk m m' from by rw [HDEF.out.2]; exact hrest)
      have HK := mhid (show m'.f.nw = m.f.nw ∧ m'.mem.length = 8192 ∧ m'.out = [] ∧ m'.p = ⟨x.cwp, x.pil, 0, x.flags⟩ ∧ (x.cwp.toNat + 1) % m.f.nw < m.f.nw ∧ m'.wim = 2 ^ ((x.cwp.toNat + 1) % m.f.nw) from ⟨haft.nw, by rw [hmem, nextS_len]; exact (half_tcb HAQ.out.trap).1, by rw [haft.out, HME.out.out], by rw [haft.p, HME.out.p], Nat.mod_lt _ (by omega), haft.wim⟩)
      have HAL := mhid (show ∀ f2 : Fx, FZero f2 m'.f → f2.ok → Alike8 ⟨f2, m'.mem, m'.p.cwp, ((x.cwp.toNat + 1) % m.f.nw : Nat)⟩ q2 from fun f2 h2 h3 => by rw [HDEF.out.1]; exact HAQ.out.alike HL.out haft hwin hmem h2 h3 rfl)
      have HGE := mhid (show ∀ r : Nat, r < 8 → getV m'.f 0 0 r = getV m.f 0 0 r from fun r hr => glob_like haft.ok.f HAQ.out.ok.f haft.glo (k := 0) (by decide) hr)
      have HOM := mhid (show outL m < 1000000 from by rw [outL_madeS HME.out]; decide)
      have HNW := mhid (show x.nw = (m.f.nw : Int) from HME.out.nw.symm)
      obtain ⟨iv, hiv⟩ : ∃ iv, iv = (x.cwp.toNat + 1) % m.f.nw := ⟨_, rfl⟩
      rw [← hiv] at HK HAL
      rw [← hgg]
      clear hbT HS8 HO8 hrest haft hwin hmem t1 tk hnS hnw32 hgg HS9 mk hiv HDEF HQE HAQ HL HME
      generalize W9.alloc (.cells (madeCells #[.int .u32 0] 7) 24) = W10 at *
      go_loopw [10] (fun i wr => ∃ k : Nat, 1 ≤ k ∧ k ≤ 8 ∧ i = .int .i64 (k : Int) ∧ Hid (SQ w W3 wr G M m w.heap.size B8 w4.heap.size 717 [.int .i64 x.nw, .int .i64 x.cwp, .int .i64 x.inv, .slice pr x.regs.length cr, .slice pf x.frames.length cf, .int .i64 x.threads, .int .i64 x.runs, .bool (x.alive 0), .bool (x.alive 1), .bool (x.alive 2), .bool (x.alive 3), .int .u16 (x.stacks 0), .int .u16 (x.stacks 1), .int .u16 (x.stacks 2), .int .u16 (x.stacks 3), .int .u32 x.choice, .int .u8 x.flags, .int .u8 x.pil, .int .u32 x.fill, .bool x.en] q2 p8 l8 c8 g8 cap8) ∧ Hid (ARow wr gg 24 (u32s (gl7 m.f k)))) (fun i _ => 8 - (intOf i).toNat)
      case atStart => exact ⟨1, by omega, by omega, rfl, HS10, HG10⟩
      case round =>
        clear HS10 HG10
        obtain ⟨k, h1, h8, rfl, HS, HG⟩ := hrel
        have e1 : IntKind.i64.wrap ((k : Int) + 1) = ((k + 1 : Nat) : Int) := by rw [IntWalk.i64_in _ (by omega)]; omega
        by_cases hlt : k < 8
        · have h1' : (k : Int) < 8 := by omega
          obtain ⟨j, rfl⟩ : ∃ j, k = j + 1 := ⟨k - 1, by omega⟩
          have e2 : IntKind.i64.wrap (((j + 1 : Nat) : Int) - 1) = (j : Int) := by rw [IntWalk.i64_in _ (by omega)]; omega
          have h0 : ¬ (j : Int) < 0 := by omega
          have h7 : (j : Int) < 7 := by omega
          have h7n : j < 7 := by omega
          go_wp2_with fail
          refine (mfile_any _ G M m HS.out.mis.at').mono ?_
          rintro e w' ⟨rfl, rfl⟩
          obtain ⟨xv, hxv⟩ : ∃ xv, xv = getV m.f 0 0 ((j + 1 : Nat) : Int) := ⟨_, rfl⟩
          have HGT := mhid (show Calls Tryz.prog 14 #[.pointer (some ⟨G.F, 0, none⟩), .int .i64 0, .int .i64 0, .int .i64 ((j + 1 : Nat) : Int)] wr fun e w' => e = .returned (.tuple #[.int .u32 xv, .int .i64 (regE m.f 0 0 ((j + 1 : Nat) : Int))]) ∧ Below wr.heap.size wr w' from by
            refine (fget_any wr G.F G.Wb G.wc m.f HS.out.mis.at'.file 0 0 ((j + 1 : Nat) : Int)).mono ?_
            rintro e w' ⟨rfl, n, rfl⟩
            exact ⟨by rw [← hxv], ⟨rfl, rfl, rfl, Nat.le_refl _, fun _ _ => rfl⟩⟩)
          have HXV := mhid hxv
          clear hxv
          go_wp2_with fail
          refine HGT.out.mono ?_
          rintro e w11 ⟨rfl, hb⟩
          have z := (HG.out.below hb).frozen j
          have zc := (HG.out.below hb).cell (u32s_get (k := j) (by rw [gl7_len]; omega))
          have HS11 := mhid (HS.out.keep hb)
          have HG11 := mhid (HG.out.below hb)
          clear hb HS HG HGT
          generalize (gl7 m.f (j + 1)).getD j 0 = old at zc
          go_wp2_with fail
          have hg2 := HG11.out.set j (.int .u32 xv)
          rw [u32s_set, HXV.out, show (gl7 m.f (j + 1)).set j (getV m.f 0 0 ((j + 1 : Nat) : Int)) = gl7 m.f (j + 1 + 1) from gl7_set m.f (k := j + 1) (by omega) (by omega), ← HXV.out] at hg2
          exact ⟨⟨j + 1 + 1, by omega, by omega, by go_num, mhid (HS11.out.far ((Only.refl (fun k => k = gg) w11).setCell (p := ⟨gg, j, none⟩) rfl _) HGB.out.1 HOW.out), mhid hg2⟩, by simp [intOf] <;> omega⟩
        · obtain rfl : k = 8 := by omega
          have c0 := HS.out.box.cell (k := 0) rfl
          rw [HNW.out] at c0
          have HE4 := mhid (show wrap64 (wrap64 (40 * (m.f.nw : Int)) + 140) = ((40 * m.f.nw + 140 : Nat) : Int) from by rw [IntWalk.wrap64_in (40 * (m.f.nw : Int)) (by have := HKK.out; omega), IntWalk.wrap64_in _ (by have := HKK.out; omega)]; omega)
          clear e1 h1 h8 hlt
          go_wp2_with fail
          rw [HE4.out]
          refine (sruns_any W3 _ HTW.out HRW.out G M m m' HS.out.mis tpc (40 * m.f.nw + 140) kk HTP.out (by have := HKK.out; omega) HKK.out.2.1 HKK.out.1 HOM.out HRE.out).mono ?_
          rintro e w12 ⟨rfl, G', hM', hK'⟩
          have HSR := mhid (HS.out.runs HG.out HGB.out.2 hM' hK')
          clear hM' hK' HS HG c0 HE4
          go_wp2_with fail
          go_loopw [11] (fun i wr => ∃ k : Nat, 1 ≤ k ∧ k ≤ 8 ∧ i = .int .i64 (k : Int) ∧ Hid (SR w W3 wr G' M m' w.heap.size B8 717 [.int .i64 x.nw, .int .i64 x.cwp, .int .i64 x.inv, .slice pr x.regs.length cr, .slice pf x.frames.length cf, .int .i64 x.threads, .int .i64 x.runs, .bool (x.alive 0), .bool (x.alive 1), .bool (x.alive 2), .bool (x.alive 3), .int .u16 (x.stacks 0), .int .u16 (x.stacks 1), .int .u16 (x.stacks 2), .int .u16 (x.stacks 3), .int .u32 x.choice, .int .u8 x.flags, .int .u8 x.pil, .int .u32 x.fill, .bool x.en] q2 p8 l8 c8 g8 cap8 gg (gl7 m.f 8))) (fun i _ => 8 - (intOf i).toNat)
          case atStart => exact ⟨1, by omega, by omega, rfl, HSR⟩
          case round =>
            clear HSR
            obtain ⟨k, h1, h8, rfl, HS⟩ := hrel
            have e1 : IntKind.i64.wrap ((k : Int) + 1) = ((k + 1 : Nat) : Int) := by rw [IntWalk.i64_in _ (by omega)]; omega
            by_cases hlt : k < 8
            · have h1' : (k : Int) < 8 := by omega
              obtain ⟨j, rfl⟩ : ∃ j, k = j + 1 := ⟨k - 1, by omega⟩
              have e2 : IntKind.i64.wrap (((j + 1 : Nat) : Int) - 1) = (j : Int) := by rw [IntWalk.i64_in _ (by omega)]; omega
              have h0 : ¬ (j : Int) < 0 := by omega
              have h7 : (j : Int) < 7 := by omega
              have h7n : j < 7 := by omega
              go_wp2_with fail
              refine (mfile_any _ G' M m' HS.out.mis.at').mono ?_
              rintro e w' ⟨rfl, rfl⟩
              obtain ⟨xv, hxv⟩ : ∃ xv, xv = getV m.f 0 0 ((j + 1 : Nat) : Int) := ⟨_, rfl⟩
              have HGT := mhid (show Calls Tryz.prog 14 #[.pointer (some ⟨G'.F, 0, none⟩), .int .i64 0, .int .i64 0, .int .i64 ((j + 1 : Nat) : Int)] wr fun e w' => e = .returned (.tuple #[.int .u32 xv, .int .i64 (regE m'.f 0 0 ((j + 1 : Nat) : Int))]) ∧ Below wr.heap.size wr w' from by
                refine (fget_any wr G'.F G'.Wb G'.wc m'.f HS.out.mis.at'.file 0 0 ((j + 1 : Nat) : Int)).mono ?_
                rintro e w' ⟨rfl, n, rfl⟩
                exact ⟨by rw [HGE.out (j + 1) (by omega), ← hxv], ⟨rfl, rfl, rfl, Nat.le_refl _, fun _ _ => rfl⟩⟩)
              have HXV := mhid hxv
              clear hxv
              go_wp2_with fail
              refine HGT.out.mono ?_
              rintro e w13 ⟨rfl, hb⟩
              have zc := (HS.out.gl.below hb).cell (u32s_get (k := j) (by rw [gl7_len]; omega))
              rw [show (gl7 m.f 8).getD j 0 = xv from (gl7_at m.f (k := j + 1) (by omega) (by omega)).trans HXV.out.symm] at zc
              have HS13 := mhid (HS.out.keep hb)
              clear hb HS HGT
              go_wp2_with fail
              exact ⟨⟨j + 1 + 1, by omega, by omega, by go_num, HS13⟩, by simp [intOf] <;> omega⟩
            · obtain rfl : k = 8 := by omega
              clear e1 h1 h8 hlt
              have HPS := mhid (show Calls Tryz.prog 19 #[.pointer (some ⟨M, 0, none⟩)] wr fun e w' => e = .returned (.agg #[.int .u8 x.cwp, .int .u8 x.pil, .int .u8 0, .int .u8 x.flags]) ∧ Below wr.heap.size wr w' from by
                have := mpsr_any wr G' M m' HS.out.mis.at'
                rw [HK.out.2.2.2.1] at this
                exact this)
              have hpc : m'.p.cwp = x.cwp := by rw [HK.out.2.2.2.1]
              go_wp2_with fail
              refine HPS.out.mono ?_
              rintro e w14 ⟨rfl, hb14⟩
              have HS14 := mhid (HS.out.keep hb14)
              clear hb14 HPS HS
              obtain ⟨W15, hW15⟩ : ∃ W15, W15 = w14.alloc (.cells #[.int .u8 x.cwp, .int .u8 x.pil, .int .u8 0, .int .u8 x.flags] 47) := ⟨_, rfl⟩
              have hb15 : Below w14.heap.size w14 W15 := by rw [hW15]; exact (Below.refl _ _).alloc (Nat.le_refl _) _
              have hB15 : ARow W15 w14.heap.size 47 [.int .u8 x.cwp, .int .u8 x.pil, .int .u8 0, .int .u8 x.flags] := by rw [hW15]; exact ARow.fresh w14 _ _
              have HS15 := mhid (HS14.out.keep hb15)
              have HP15 := mhid hB15
              have HW15 := mhid hW15
              clear hb15 hB15 hW15 HS14
              go_upto_region 28 with (fail)
              rw [← HW15.out]
              clear HW15
              have HKS := mhid (fun (w' : World) (hb : Below W15.heap.size W15 w') => (show (w'.cell? ⟨w.heap.size, 0, none⟩ = some (.int .i64 m.f.nw) ∧ w'.cell? ⟨w.heap.size, 16, none⟩ = some (.int .u8 x.flags) ∧ w'.cell? ⟨w.heap.size, 17, none⟩ = some (.int .u8 x.pil)) ∧ (w'.cell? ⟨B8, 0, none⟩ = some (.int .i64 q2.f.nw) ∧ w'.cell? ⟨B8, 1, none⟩ = some (.slice p8 l8 c8) ∧ w'.cell? ⟨B8, 2, none⟩ = some (.slice (some ⟨g8, 0, none⟩) q2.mem.length cap8) ∧ w'.cell? ⟨B8, 3, none⟩ = some (.int .i64 q2.cwp) ∧ w'.cell? ⟨B8, 4, none⟩ = some (.int .i64 q2.inv)) ∧ (w'.cell? ⟨w14.heap.size, 1, none⟩ = some (.int .u8 x.pil) ∧ w'.cell? ⟨w14.heap.size, 3, none⟩ = some (.int .u8 x.flags)) from
                ⟨⟨by rw [← HNW.out]; exact (HS15.out.box.below hb).cell (k := 0) rfl, (HS15.out.box.below hb).cell (k := 16) rfl, (HS15.out.box.below hb).cell (k := 17) rfl⟩, ⟨(HS15.out.row.below hb).cell (k := 0) rfl, (HS15.out.row.below hb).cell (k := 1) rfl, (HS15.out.row.below hb).cell (k := 2) rfl, (HS15.out.row.below hb).cell (k := 3) rfl, (HS15.out.row.below hb).cell (k := 4) rfl⟩, ⟨(HP15.out.below hb).cell (k := 1) rfl, (HP15.out.below hb).cell (k := 3) rfl⟩⟩))
              have HWD := mhid (fun (w' : World) (hb : Below W15.heap.size W15 w') => (show Calls Tryz.prog 39 #[.pointer (some ⟨M, 0, none⟩), .int .i64 m.f.nw] w' fun e w'' => ∃ v f', e = .returned v ∧ WAt w'' 700 v ⟨f', m'.mem, m'.p.cwp, iv⟩ ∧ FZero f' m'.f ∧ Below w'.heap.size w' w'' from by
                have hnw9 : m'.f.nw = m.f.nw := HK.out.1
                have := sworld_any W3 w' G' M m' (HS15.out.mis.keepb hb) iv (by rw [hnw9]; exact HK.out.2.2.2.2.1) HK.out.2.2.2.2.2 (by rw [HK.out.2.1]) (by rw [HK.out.2.1]; decide)
                rw [hnw9] at this
                refine this.mono ?_
                rintro e w'' ⟨v, f', h1, h2, h3, _, h5⟩
                exact ⟨v, f', h1, h2, h3, h5⟩))
              have HSM := mhid (fun (w' : World) (v : Value) (f' : Fx) (hb : Below W15.heap.size W15 w') (hq : WAt w' 700 v ⟨f', m'.mem, m'.p.cwp, iv⟩) (hl : FZero f' m'.f) => r8_same w' 700 717 v (.agg #[.int .i64 q2.f.nw, .slice p8 l8 c8, .slice (some ⟨g8, 0, none⟩) q2.mem.length cap8, .int .i64 q2.cwp, .int .i64 q2.inv]) ⟨f', m'.mem, m'.p.cwp, iv⟩ q2 hq (HS15.out.at'.keep hb) (by decide) (by decide) (HAL.out f' hl (by obtain ⟨lv, L, g, cap, _, hin, _⟩ := hq; exact hin.ok)))
              have HOU := mhid (fun (w' : World) (hb : Below W15.heap.size W15 w') => (show Calls Tryz.prog 27 #[.pointer (some ⟨M, 0, none⟩)] w' fun e w'' => ∃ p c, e = .returned (.slice p 0 c) ∧ Below w'.heap.size w' w'' from by
                refine (mw_out W3 w' G' M m' (HS15.out.mis.keepb hb) (by rw [HK.out.2.2.1]; decide)).mono ?_
                rintro e w'' ⟨v, rfl, hr, hb2⟩
                obtain ⟨b, o, p, c, rfl, -⟩ := hr.1.shape
                rw [HK.out.2.2.1]
                exact ⟨p, c, rfl, hb2⟩))
              have HB15 := mhid HS15.out.bel
              have HHD2 := mhid (fun (w' : World) (hb : Below W15.heap.size W15 w') => shead_any w' (HT.out.keep (HB15.out.trans (hb.mono HB15.out.size))) (HR.out.keep (HB15.out.trans (hb.mono HB15.out.size))))
              have HBB := mhid (fun (w' : World) (hb : Below W15.heap.size W15 w') => HB15.out.trans (hb.mono HB15.out.size))
              have hbW : Below W15.heap.size W15 W15.drew := (Below.refl _ _).drew
              clear hpc
              go_region_held3 (fun w' => (w'.cell? ⟨w.heap.size, 0, none⟩ = some (.int .i64 m.f.nw) ∧ w'.cell? ⟨w.heap.size, 16, none⟩ = some (.int .u8 x.flags) ∧ w'.cell? ⟨w.heap.size, 17, none⟩ = some (.int .u8 x.pil)) ∧ (w'.cell? ⟨B8, 0, none⟩ = some (.int .i64 q2.f.nw) ∧ w'.cell? ⟨B8, 1, none⟩ = some (.slice p8 l8 c8) ∧ w'.cell? ⟨B8, 2, none⟩ = some (.slice (some ⟨g8, 0, none⟩) q2.mem.length cap8) ∧ w'.cell? ⟨B8, 3, none⟩ = some (.int .i64 q2.cwp) ∧ w'.cell? ⟨B8, 4, none⟩ = some (.int .i64 q2.inv)) ∧ (w'.cell? ⟨w14.heap.size, 1, none⟩ = some (.int .u8 x.pil) ∧ w'.cell? ⟨w14.heap.size, 3, none⟩ = some (.int .u8 x.flags)))
                (first | (with_reducible exact HKS.out _ hbW) | (refine HKS.out _ ?_; go_grown; done))
                (first
                  | (go_at_call 39; (with_reducible refine (HWD.out _ hbW).mono ?_); rintro e wx ⟨vq, fq, rfl, hqx, hlx, hb⟩; have HQX := mhid hqx; have HLX := mhid hlx; have hbW := hbW.trans (hb.mono hbW.size); clear hb hqx hlx)
                  | (go_at_call 26; (with_reducible refine (HSM.out _ _ _ hbW HQX.out HLX.out).mono ?_); rintro e wy ⟨rfl, hb⟩; have hbW := hbW.trans (hb.mono hbW.size); clear hb)
                  | (go_at_call 27; (with_reducible refine (HOU.out _ hbW).mono ?_); rintro e wz ⟨po, co, rfl, hb⟩; have hbW := hbW.trans (hb.mono hbW.size); clear hb)
                  | (go_at_call 33; (with_reducible refine (HHD2.out _ hbW).mono ?_); rintro e wv ⟨rfl, hb⟩; have hbW := hbW.trans (hb.mono hbW.size); clear hb))
              all_goals go_wp2_with fail
              all_goals
                first
                  | go_ret2
                  | go_ret
                exact ⟨rfl, HBB.out _ hbW⟩
  · rw [decide_eq_false hm]
    go_wp2_with fail
    refine (HHD.out W2 HB2.out).mono ?_
    rintro e w3 ⟨rfl, hb3⟩
    go_wp2_with fail
    first
      | go_ret2
      | go_ret
    exact ⟨rfl, hb3⟩
end Go.Proofs.YtajholbcpmjhiaaGreatDoor
/- How an argument of type muntinlaw08.Case is read. -/
namespace Go.Proofs.YtajholbcpmjhiaaGreatDoor
open Go.RowKit Go.ChangeShapes Go.WideShapes Go.ChangeAt
section
variable {H : Type} {enc : TypeId × Value → H} {w : World} {base : Nat} {spare : Nat → Bool} {held : Bool} {fuel : Nat} {x : DataW H × List MemPlace}
theorem hc_u16 : Tryz.prog.cellsOf 73 = 1 := by kernel_rfl
theorem hc_u8 : Tryz.prog.cellsOf 5 = 1 := by kernel_rfl
theorem hc_bool : Tryz.prog.cellsOf 4 = 1 := by kernel_rfl
theorem hc_halfs : Tryz.prog.cellsOf 23 = 1 := by kernel_rfl
set_option maxRecDepth 100000 in
theorem trod_halfs {cs : List Value} (h : DataW.trod enc Tryz.prog w base spare held fuel 23 cs = some x) : ∃ v l, cs = [v] ∧ HalfsIn w v l := by
  rcases Go.Deep.open_slice Tryz.underlying23 h with ⟨rfl, _⟩ | ⟨a, len, cap, m, q, D, Pl, rfl, _, hl, hm, hmm, hx, hel⟩
  · exact ⟨_, [], rfl, by simp, fun x hx => by simp at hx, none, 0, 0, 0, rfl, fun h => by simp at h, fun k y h => by simp at h⟩
  · have hlm : len ≤ m := by rw [hmm]; split <;> omega
    have each : ∀ i, i < len → ∃ y : Int, (0 ≤ y ∧ y < 65536) ∧ w.cell? ((a.add (i * 1)).add 0) = some (.int .u16 y) := by
      intro i hi
      obtain ⟨cs', h1, h2⟩ := hel i (by omega)
      rw [hc_u16] at h1
      obtain ⟨y, hb, _, w0⟩ := DataW.trod_int Tryz.underlying73 h2
      subst hb
      have hc := (mcells_each h1).2 0 _ rfl
      have b0 := bounds_u16 w0
      exact ⟨y, by omega, hc⟩
    obtain ⟨l, hll, hlp⟩ := mlist_of _ len each
    subst hll
    refine ⟨_, l, rfl, by omega, fun y hy => ?_, some a, cap, ?_⟩
    · obtain ⟨i, hi, rfl⟩ := List.getElem_of_mem hy
      exact (hlp i _ (List.getElem?_eq_getElem hi)).1
    by_cases h0 : 0 < l.length
    · obtain ⟨b, o, sp⟩ := a
      have hsp2 : sp = none := by
        have := World.cell?_spot ((hlp 0 l[0] (List.getElem?_eq_getElem h0)).2)
        simpa [Addr.add] using this
      subst hsp2
      refine ⟨b, o, rfl, fun _ => rfl, fun k y hy => ?_⟩
      have := (hlp k y hy).2
      rw [maddr_add, maddr_add, Nat.mul_one] at this
      exact this
    · exact ⟨0, 0, rfl, fun h => absurd h h0, fun k y hy => by have h1 : l = [] := List.eq_nil_of_length_eq_zero (by omega); rw [h1] at hy; simp at hy⟩
end
end Go.Proofs.YtajholbcpmjhiaaGreatDoor
/- How an argument of type muntinlaw10.Case is read. -/
namespace Go.Proofs.YtajholbcpmjhiaaGreatDoor
open Go.RowKit Go.ChangeShapes Go.WideShapes Go.ChangeAt
section
variable {H : Type} {enc : TypeId × Value → H} {w : World} {base : Nat} {spare : Nat → Bool} {held : Bool} {fuel : Nat} {x : DataW H × List MemPlace}
theorem hc_bools : Tryz.prog.cellsOf 72 = 4 := by kernel_rfl
theorem hc_u16s : Tryz.prog.cellsOf 74 = 4 := by kernel_rfl
theorem hc_cases : Tryz.prog.cellsOf 76 = 20 := by kernel_rfl
set_option maxRecDepth 100000 in
theorem trod_bools4 {cs : List Value} (h : DataW.trod enc Tryz.prog w base spare held fuel 72 cs = some x) (hl : cs.length = 4) : ∃ f : Nat → Bool, cs = [.bool (f 0), .bool (f 1), .bool (f 2), .bool (f 3)] := by
  obtain ⟨c0, c1, c2, c3, rfl⟩ := mlist4 hl
  obtain ⟨xs, n, _, _, _, hlen, hx⟩ := DataW.trod_array Tryz.underlying72 h
  have hlen' : xs.length = 4 := hlen
  obtain ⟨y0, y1, y2, y3, rfl⟩ := mlist4 hlen'
  have h0 := hx 0 (by omega)
  have h1 := hx 1 (by omega)
  have h2 := hx 2 (by omega)
  have h3 := hx 3 (by omega)
  simp [hc_bool] at h0 h1 h2 h3
  obtain ⟨a0, e0, _⟩ := DataW.trod_bool Tryz.underlying4 h0
  obtain ⟨a1, e1, _⟩ := DataW.trod_bool Tryz.underlying4 h1
  obtain ⟨a2, e2, _⟩ := DataW.trod_bool Tryz.underlying4 h2
  obtain ⟨a3, e3, _⟩ := DataW.trod_bool Tryz.underlying4 h3
  simp at e0 e1 e2 e3
  exact ⟨fun t => if t = 0 then a0 else if t = 1 then a1 else if t = 2 then a2 else a3, by rw [e0, e1, e2, e3]; rfl⟩
set_option maxRecDepth 100000 in
theorem trod_u16s4 {cs : List Value} (h : DataW.trod enc Tryz.prog w base spare held fuel 74 cs = some x) (hl : cs.length = 4) : ∃ f : Nat → Int, (∀ t, 0 ≤ f t ∧ f t < 65536) ∧ cs = [.int .u16 (f 0), .int .u16 (f 1), .int .u16 (f 2), .int .u16 (f 3)] := by
  obtain ⟨c0, c1, c2, c3, rfl⟩ := mlist4 hl
  obtain ⟨xs, n, _, _, _, hlen, hx⟩ := DataW.trod_array Tryz.underlying74 h
  have hlen' : xs.length = 4 := hlen
  obtain ⟨y0, y1, y2, y3, rfl⟩ := mlist4 hlen'
  have h0 := hx 0 (by omega)
  have h1 := hx 1 (by omega)
  have h2 := hx 2 (by omega)
  have h3 := hx 3 (by omega)
  simp [hc_u16] at h0 h1 h2 h3
  obtain ⟨a0, e0, _, w0⟩ := DataW.trod_int Tryz.underlying73 h0
  obtain ⟨a1, e1, _, w1⟩ := DataW.trod_int Tryz.underlying73 h1
  obtain ⟨a2, e2, _, w2⟩ := DataW.trod_int Tryz.underlying73 h2
  obtain ⟨a3, e3, _, w3⟩ := DataW.trod_int Tryz.underlying73 h3
  have b0 := bounds_u16 w0
  have b1 := bounds_u16 w1
  have b2 := bounds_u16 w2
  have b3 := bounds_u16 w3
  simp at e0 e1 e2 e3
  refine ⟨fun t => if t = 0 then a0 else if t = 1 then a1 else if t = 2 then a2 else a3, fun t => ?_, by rw [e0, e1, e2, e3]; rfl⟩
  dsimp only
  split
  · omega
  · split
    · omega
    · split <;> omega
theorem mlist20 {α : Type} {l : List α} (h : l.length = 20) : ∃ a b c d e f g i j k m n o p q r s t u v, l = [a, b, c, d, e, f, g, i, j, k, m, n, o, p, q, r, s, t, u, v] := by
  match l, h with
  | [a, b, c, d, e, f, g, i, j, k, m, n, o, p, q, r, s, t, u, v], _ => exact ⟨a, b, c, d, e, f, g, i, j, k, m, n, o, p, q, r, s, t, u, v, rfl⟩
theorem mlist14 {α : Type} {l : List α} (h : l.length = 14) : ∃ a b c d e f g i j k m n o p, l = [a, b, c, d, e, f, g, i, j, k, m, n, o, p] := by
  match l, h with
  | [a, b, c, d, e, f, g, i, j, k, m, n, o, p], _ => exact ⟨a, b, c, d, e, f, g, i, j, k, m, n, o, p, rfl⟩
set_option maxRecDepth 100000 in
set_option maxHeartbeats 1000000 in
theorem trod_cases {cs : List Value} (h : DataW.trod enc Tryz.prog w base spare held fuel 76 cs = some x) :
    ∃ (y : CaseS) (vr vf : Value), .agg cs.toArray = y.agg vr vf ∧ CaseSIn w y vr vf := by
  obtain ⟨xs, n, _, rfl, hl, hlen, hf⟩ := DataW.trod_struct Tryz.underlying76 h
  rw [hc_cases] at hl
  obtain ⟨c0, c1, c2, c3, c4, c5, c6, c7, c8, c9, c10, c11, c12, c13, c14, c15, c16, c17, c18, c19, rfl⟩ := mlist20 hl
  obtain ⟨y0, y1, y2, y3, y4, y5, y6, y7, y8, y9, y10, y11, y12, y13, rfl⟩ := mlist14 hlen
  have h0 := hf 0 _ rfl
  have h1 := hf 1 _ rfl
  have h2 := hf 2 _ rfl
  have h3 := hf 3 _ rfl
  have h4 := hf 4 _ rfl
  have h5 := hf 5 _ rfl
  have h6 := hf 6 _ rfl
  have h7 := hf 7 _ rfl
  have h8 := hf 8 _ rfl
  have h9 := hf 9 _ rfl
  have h10 := hf 10 _ rfl
  have h11 := hf 11 _ rfl
  have h12 := hf 12 _ rfl
  have h13 := hf 13 _ rfl
  simp [mc_int, mc_u32, mc_words, hc_halfs, hc_u8, hc_bool, hc_bools, hc_u16s] at h0 h1 h2 h3 h4 h5 h6 h7 h8 h9 h10 h11 h12 h13
  obtain ⟨a0, e0, _, w0⟩ := DataW.trod_int Tryz.underlying3 h0
  obtain ⟨a1, e1, _, w1⟩ := DataW.trod_int Tryz.underlying3 h1
  obtain ⟨a2, e2, _, w2⟩ := DataW.trod_int Tryz.underlying3 h2
  obtain ⟨v3, l3, e3, r3⟩ := trod_wordsin h3
  obtain ⟨v4, l4, e4, r4⟩ := trod_halfs h4
  obtain ⟨a5, e5, _, w5⟩ := DataW.trod_int Tryz.underlying3 h5
  obtain ⟨a6, e6, _, w6⟩ := DataW.trod_int Tryz.underlying3 h6
  obtain ⟨f7, e7⟩ := trod_bools4 h7 rfl
  obtain ⟨f8, b8, e8⟩ := trod_u16s4 h8 rfl
  obtain ⟨a9, e9, _, w9⟩ := DataW.trod_int Tryz.underlying24 h9
  obtain ⟨a10, e10, _, w10⟩ := DataW.trod_int Tryz.underlying5 h10
  obtain ⟨a11, e11, _, w11⟩ := DataW.trod_int Tryz.underlying5 h11
  obtain ⟨a12, e12, _, w12⟩ := DataW.trod_int Tryz.underlying24 h12
  obtain ⟨a13, e13, _⟩ := DataW.trod_bool Tryz.underlying4 h13
  simp at e0 e1 e2 e3 e4 e5 e6 e7 e8 e9 e10 e11 e12 e13
  obtain ⟨q0, q1, q2, q3⟩ := e7
  obtain ⟨p0, p1, p2, p3⟩ := e8
  have b0 := bounds_i64 w0
  have b1 := bounds_i64 w1
  have b2 := bounds_i64 w2
  have b5 := bounds_i64 w5
  have b6 := bounds_i64 w6
  have b9 := bounds_u32 w9
  have b10 := bounds_u8 w10
  have b11 := bounds_u8 w11
  have b12 := bounds_u32 w12
  subst e0 e1 e2 e3 e4 e5 e6 q0 q1 q2 q3 p0 p1 p2 p3 e9 e10 e11 e12 e13
  exact ⟨⟨a0, a1, a2, l3, l4, a5, a6, f7, f8, a9, a10, a11, a12, a13⟩, _, _, rfl, r3, r4, by simp only; omega, b8, by simp only; omega, by simp only; omega, by simp only; omega, by simp only; omega⟩
end
set_option maxRecDepth 100000 in
theorem open_cases {H : Type} {enc : TypeId × Value → H} {W : World} {base b : Nat} {spare : Nat → Bool} {held : Bool} {r : Reach} {v : Value} {d : DataW H} {p : List MemPlace} (hv : Value.okWide Tryz.prog W r b 76 v) (h : DataW.Trod enc Tryz.prog W base spare held 76 v d p) :
    ∃ (y : CaseS) (vr vf : Value), v = y.agg vr vf ∧ CaseSIn W y vr vf := by
  obtain ⟨cs, rfl, hsz⟩ := okWide_struct Tryz.underlying76 hv
  obtain ⟨m, hm⟩ := h
  obtain ⟨y, vr, vf, e, hy⟩ := trod_cases (by simpa [Value.cells] using hm)
  exact ⟨y, vr, vf, e, hy⟩
end Go.Proofs.YtajholbcpmjhiaaGreatDoor
