/- Several texts in one: SwapBackWalk, WindOpen, SwapOpen. -/
import Derived.Test.YtajholbcpmjhiaaGreatDoorK03
import Derived.Test.YtajholbcpmjhiaaGreatDoorK02
set_option linter.unusedVariables false
set_option linter.unusedSimpArgs false
/- The walk of muntinlaw10.SwapBack. (Printed by genswapback.py.) -/
namespace Go.Proofs.YtajholbcpmjhiaaGreatDoor
open Go.RowKit Go.Maps
theorem scboxB (w : World) (x : CaseS) (vr vf : Value) : ARow (w.alloc (.cells (x.cells vr vf).toArray 76)) w.heap.size 76 (x.cells vr vf) := ARow.fresh w _ _
theorem halfs_nil (w : World) : HalfsIn w (.slice none 0 0) [] := ⟨by show 0 ≤ maxLen; exact Nat.zero_le _, fun x hx => by simp at hx, none, 0, 0, 0, rfl, fun h => absurd h (by simp), fun k x hx => by simp at hx⟩
theorem same_yes (w : World) (u v : Value) (a : List Int) (hu : Reads32 w u a) (hv : Reads32 w v a) :
    Calls Tryz.prog 22 #[u, v] w fun e w' => e = .returned (.bool true) ∧ Below w.heap.size w w' :=
  (same_any w u v a a hu hv).mono fun e w' h => ⟨h.1.trans (by rw [decide_eq_true rfl]), h.2⟩
structure SB (w W3 w4 wr : World) (G : MG) (M : Nat) (m m' : Mx) (cs : List Value) (cw k : Nat) (v : Value) : Prop where
  mis : MIs W3 wr G M m'
  box : ARow wr w.heap.size 76 cs
  rows : WRows wr w4.heap.size m.f cw k v
  bel : Below w.heap.size w wr
theorem SB.keep {w W3 w4 wr w' : World} {G : MG} {M : Nat} {m m' : Mx} {cs : List Value} {cw k : Nat} {v : Value} (h : SB w W3 w4 wr G M m m' cs cw k v) (hb : Below wr.heap.size wr w') : SB w W3 w4 w' G M m m' cs cw k v :=
  ⟨h.mis.keepb hb, h.box.below hb, h.rows.keep hb, h.bel.trans (hb.mono h.bel.size)⟩
theorem owns_base {w : World} {B B' size n : Nat} {e : TypeId} {v : Value} {xs : List Value} (h : w.ownsRow B e size v n xs) (hB : B' ≤ B) : w.ownsRow B' e size v n xs := by
  refine ⟨h.1, ?_⟩
  rcases h.2 with h | ⟨g, cap, cur, h1, h2, h3⟩
  · exact .inl h
  · exact .inr ⟨g, cap, cur, h1, by omega, h3⟩
set_option maxRecDepth 100000 in
set_option maxHeartbeats 8000000 in
theorem sback_any (w : World) (ht : Tab w) (hbr : Bru w) (x : CaseS) (vr vf : Value) (h : CaseSIn w x vr vf) :
    Calls Tryz.prog 6 #[x.agg vr vf] w fun e w' => e = .returned (.bool true) ∧ Below w.heap.size w w' := by
  have HX := mhid h
  obtain ⟨pr, cr, rfl⟩ : ∃ p c, vr = .slice p x.regs.length c := by obtain ⟨⟨_, p, c, e, _⟩, _⟩ := h.r; exact ⟨p, c, e⟩
  obtain ⟨pf, cf, rfl⟩ : ∃ p c, vf = .slice p x.frames.length c := by obtain ⟨_, _, p, c, _, _, e, _⟩ := h.f; exact ⟨p, c, e⟩
  have HT := mhid ht
  have HR := mhid hbr
  clear ht hbr h
  have hhead : ∀ W : World, Below w.heap.size w W → Calls Tryz.prog 33 #[] W fun e w' => e = .returned (.bool true) ∧ Below w.heap.size w w' := fun W hb =>
    (shead_any W (HT.out.keep hb) (HR.out.keep hb)).mono fun e w' he => ⟨he.1, hb.trans (he.2.mono hb.size)⟩
  have HHD := mhid hhead
  clear hhead
  obtain ⟨W1, hW1⟩ : ∃ W1, W1 = w.alloc (.cells (x.cells (.slice pr x.regs.length cr) (.slice pf x.frames.length cf)).toArray 76) := ⟨_, rfl⟩
  have hb1 : Below w.heap.size w W1 := by rw [hW1]; exact (Below.refl _ _).alloc (Nat.le_refl _) _
  have hB : ARow W1 w.heap.size 76 (x.cells (.slice pr x.regs.length cr) (.slice pf x.frames.length cf)) := by rw [hW1]; exact scboxB _ _ _ _
  have HB1 := mhid hb1
  have HB := mhid hB
  unfold CaseS.cells at HB hW1
  clear hb1 hB
  have HBa := mhid (scboxB w x (.slice pr x.regs.length cr) (.slice pf x.frames.length cf))
  unfold CaseS.cells at HBa
  have HSZ := mhid (show (Tryz.prog.info? 76).map (·.size) = some ([.int .i64 x.nw, .int .i64 x.cwp, .int .i64 x.inv, .slice pr x.regs.length cr, .slice pf x.frames.length cf, .int .i64 x.threads, .int .i64 x.runs, .bool (x.alive 0), .bool (x.alive 1), .bool (x.alive 2), .bool (x.alive 3), .int .u16 (x.stacks 0), .int .u16 (x.stacks 1), .int .u16 (x.stacks 2), .int .u16 (x.stacks 3), .int .u32 x.choice, .int .u8 x.flags, .int .u8 x.pil, .int .u32 x.fill, .bool x.en] : List Value).toArray.size from by kernel_rfl)
  have HSZ2 := mhid (show (Tryz.prog.info? 76).map (·.size) = some ([.int .i64 x.nw, .int .i64 x.cwp, .int .i64 x.inv, .slice pr x.regs.length cr, .slice none 0 0, .int .i64 1, .int .i64 0, .bool true, .bool (x.alive 1), .bool (x.alive 2), .bool (x.alive 3), .int .u16 (x.stacks 0), .int .u16 (x.stacks 1), .int .u16 (x.stacks 2), .int .u16 (x.stacks 3), .int .u32 x.choice, .int .u8 x.flags, .int .u8 x.pil, .int .u32 x.fill, .bool false] : List Value).toArray.size from by kernel_rfl)
  obtain ⟨i0, hi, hz0, hz1, hz2⟩ := info_parts infosl
  have HINF := mhid (And.intro hi (And.intro hz0 (And.intro hz1 hz2)))
  clear hi hz0 hz1 hz2
  go_enter Tryz.func6, Tryz.ntmps6
  unfold CaseS.agg
  go_wp2_with (refine wpList_load_row rfl 76 (.tmp 1) rfl (w.heap.size) rfl 76 _ (0, 0) _ HBa.out Tryz.underlying76 rfl HSZ.out ?_)
  rw [← hW1]
  clear hW1 HBa
  refine (smay_any W1 x (.slice pr x.regs.length cr) (.slice pf x.frames.length cf) (HX.out.keepb HB1.out)).mono ?_
  rintro e W2 ⟨rfl, hb2⟩
  have HB2 := mhid (HB1.out.trans (hb2.mono HB1.out.size))
  have HBX := mhid (HB.out.below hb2)
  clear hb2 HB HB1
  by_cases hm : mayS x
  · rw [decide_eq_true hm]
    have HM0 := mhid hm
    clear hm
    have cc := HBX.out.cell (k := 19) rfl
    have ff := HBX.out.frozen 19
    go_upto_region 4 with (fail)
    have HR0 := mhid (show ARow (W2.setCell ⟨w.heap.size, 19, none⟩ (.bool false)) w.heap.size 76 [.int .i64 x.nw, .int .i64 x.cwp, .int .i64 x.inv, .slice pr x.regs.length cr, .slice pf x.frames.length cf, .int .i64 x.threads, .int .i64 x.runs, .bool (x.alive 0), .bool (x.alive 1), .bool (x.alive 2), .bool (x.alive 3), .int .u16 (x.stacks 0), .int .u16 (x.stacks 1), .int .u16 (x.stacks 2), .int .u16 (x.stacks 3), .int .u32 x.choice, .int .u8 x.flags, .int .u8 x.pil, .int .u32 x.fill, .bool false] from (HBX.out.set 19 (.bool false)).to rfl)
    have HBb0 := mhid (HB2.out.setCell (p := ⟨w.heap.size, 19, none⟩) (Nat.le_refl _) (.bool false))
    clear cc ff HBX
    generalize W2.setCell ⟨w.heap.size, 19, none⟩ (.bool false) = Wa0 at *
    have cc := HR0.out.cell (k := 5) rfl
    have ff := HR0.out.frozen 5
    go_upto_region 5 with (fail)
    have HR1 := mhid (show ARow (Wa0.setCell ⟨w.heap.size, 5, none⟩ (.int .i64 1)) w.heap.size 76 [.int .i64 x.nw, .int .i64 x.cwp, .int .i64 x.inv, .slice pr x.regs.length cr, .slice pf x.frames.length cf, .int .i64 1, .int .i64 x.runs, .bool (x.alive 0), .bool (x.alive 1), .bool (x.alive 2), .bool (x.alive 3), .int .u16 (x.stacks 0), .int .u16 (x.stacks 1), .int .u16 (x.stacks 2), .int .u16 (x.stacks 3), .int .u32 x.choice, .int .u8 x.flags, .int .u8 x.pil, .int .u32 x.fill, .bool false] from (HR0.out.set 5 (.int .i64 1)).to rfl)
    have HBb1 := mhid (HBb0.out.setCell (p := ⟨w.heap.size, 5, none⟩) (Nat.le_refl _) (.int .i64 1))
    clear cc ff HR0
    generalize Wa0.setCell ⟨w.heap.size, 5, none⟩ (.int .i64 1) = Wa1 at *
    have cc := HR1.out.cell (k := 6) rfl
    have ff := HR1.out.frozen 6
    go_upto_region 6 with (fail)
    have HR2 := mhid (show ARow (Wa1.setCell ⟨w.heap.size, 6, none⟩ (.int .i64 0)) w.heap.size 76 [.int .i64 x.nw, .int .i64 x.cwp, .int .i64 x.inv, .slice pr x.regs.length cr, .slice pf x.frames.length cf, .int .i64 1, .int .i64 0, .bool (x.alive 0), .bool (x.alive 1), .bool (x.alive 2), .bool (x.alive 3), .int .u16 (x.stacks 0), .int .u16 (x.stacks 1), .int .u16 (x.stacks 2), .int .u16 (x.stacks 3), .int .u32 x.choice, .int .u8 x.flags, .int .u8 x.pil, .int .u32 x.fill, .bool false] from (HR1.out.set 6 (.int .i64 0)).to rfl)
    have HBb2 := mhid (HBb1.out.setCell (p := ⟨w.heap.size, 6, none⟩) (Nat.le_refl _) (.int .i64 0))
    clear cc ff HR1
    generalize Wa1.setCell ⟨w.heap.size, 6, none⟩ (.int .i64 0) = Wa2 at *
    have cc := HR2.out.cell (k := 7) rfl
    have ff := HR2.out.frozen 7
    go_upto_region 7 with (fail)
    have HR3 := mhid (show ARow (Wa2.setCell ⟨w.heap.size, 7, none⟩ (.bool true)) w.heap.size 76 [.int .i64 x.nw, .int .i64 x.cwp, .int .i64 x.inv, .slice pr x.regs.length cr, .slice pf x.frames.length cf, .int .i64 1, .int .i64 0, .bool true, .bool (x.alive 1), .bool (x.alive 2), .bool (x.alive 3), .int .u16 (x.stacks 0), .int .u16 (x.stacks 1), .int .u16 (x.stacks 2), .int .u16 (x.stacks 3), .int .u32 x.choice, .int .u8 x.flags, .int .u8 x.pil, .int .u32 x.fill, .bool false] from (HR2.out.set 7 (.bool true)).to rfl)
    have HBb3 := mhid (HBb2.out.setCell (p := ⟨w.heap.size, 7, none⟩) (Nat.le_refl _) (.bool true))
    clear cc ff HR2
    generalize Wa2.setCell ⟨w.heap.size, 7, none⟩ (.bool true) = Wa3 at *
    have cc := HR3.out.cell (k := 4) rfl
    have ff := HR3.out.frozen 4
    go_upto_region 8 with (fail)
    have HBX3 := mhid (show ARow (Wa3.setCell ⟨w.heap.size, 4, none⟩ (.slice none 0 0)) w.heap.size 76 [.int .i64 x.nw, .int .i64 x.cwp, .int .i64 x.inv, .slice pr x.regs.length cr, .slice none 0 0, .int .i64 1, .int .i64 0, .bool true, .bool (x.alive 1), .bool (x.alive 2), .bool (x.alive 3), .int .u16 (x.stacks 0), .int .u16 (x.stacks 1), .int .u16 (x.stacks 2), .int .u16 (x.stacks 3), .int .u32 x.choice, .int .u8 x.flags, .int .u8 x.pil, .int .u32 x.fill, .bool false] from (HR3.out.set 4 (.slice none 0 0)).to rfl)
    have HB3 := mhid (HBb3.out.setCell (p := ⟨w.heap.size, 4, none⟩) (Nat.le_refl _) (.slice none 0 0))
    clear cc ff HR3
    generalize Wa3.setCell ⟨w.heap.size, 4, none⟩ (.slice none 0 0) = W3 at *
    have hb3 := HB3.out
    have HIN3 := mhid (show CaseSIn W3 (backC x) (.slice pr x.regs.length cr) (.slice none 0 0) from by
      have h := HX.out.keepb hb3
      obtain ⟨i1, i2, i3, i4, i5⟩ := h.i64
      exact ⟨h.r, halfs_nil _, ⟨i1, i2, i3, ⟨by show (-9223372036854775808 : Int) ≤ 1; omega, by show (1 : Int) ≤ 9223372036854775807; omega⟩, ⟨by show (-9223372036854775808 : Int) ≤ 0; omega, by show (0 : Int) ≤ 9223372036854775807; omega⟩⟩, h.st, h.fl, h.pil, h.fill, h.ch⟩)
    have HMD := mhid (show Calls Tryz.prog 35 #[.agg ([.int .i64 x.nw, .int .i64 x.cwp, .int .i64 x.inv, .slice pr x.regs.length cr, .slice none 0 0, .int .i64 1, .int .i64 0, .bool true, .bool (x.alive 1), .bool (x.alive 2), .bool (x.alive 3), .int .u16 (x.stacks 0), .int .u16 (x.stacks 1), .int .u16 (x.stacks 2), .int .u16 (x.stacks 3), .int .u32 x.choice, .int .u8 x.flags, .int .u8 x.pil, .int .u32 x.fill, .bool false] : List Value).toArray] W3 (fun e w' => ∃ M G m, e = .returned (.pointer (some ⟨M, 0, none⟩)) ∧ MIs W3 w' G M m ∧ MadeS (backC x) m) from smade_any W3 (HT.out.keep hb3) (HR.out.keep hb3) (backC x) (.slice pr x.regs.length cr) (.slice none 0 0) HIN3.out (back_may HM0.out))
    clear hb3
    go_wp2_with (refine wpList_load_row rfl 76 (.tmp 1) rfl (w.heap.size) rfl 76 _ (0, 0) _ HBX3.out Tryz.underlying76 rfl HSZ2.out ?_)
    refine HMD.out.mono ?_
    rintro e w4 ⟨M, G, m, rfl, hM, hMade⟩
    have HM := mhid hM
    have HME := mhid hMade
    have HBX4 := mhid (HBX3.out.below hM.bel)
    have HBX3s := mhid HBX3.out.lt
    have HB4 := mhid (HB3.out.trans (hM.bel.mono HB3.out.size))
    have HTR := mhid (hMade.trap (back_may HM0.out) HX.out.ch hM.at'.ok)
    have HTW := mhid (HT.out.keep HB3.out)
    have HRW := mhid (HR.out.keep HB3.out)
    obtain ⟨cw, hcw⟩ : ∃ cw : Nat, x.cwp = (cw : Int) := ⟨x.cwp.toNat, (Int.toNat_of_nonneg HM0.out.2.1.1).symm⟩
    obtain ⟨nr, hnr⟩ : ∃ n, n = nS (backC x) := ⟨_, rfl⟩
    have e0 : x.nw = (m.f.nw : Int) := hMade.nw.symm
    have HCW := mhid (show x.cwp = (cw : Int) ∧ x.cwp.toNat = cw ∧ cw < m.f.nw ∧ x.nw = (m.f.nw : Int) ∧ 2 ≤ m.f.nw ∧ m.f.nw ≤ 32 from ⟨hcw, by omega, by have := HM0.out.2.1; omega, e0, hM.at'.ok.f.nw2, hM.at'.ok.f.nw32⟩)
    have HNE := mhid (show nr < m.f.nw ∧ 0 < nr ∧ (((cw + nr) % m.f.nw : Nat) : Int) = x.inv ∧ ∀ j, j < nr → (((cw + j) % m.f.nw : Nat) : Int) ≠ x.inv from by
      have h0 := HTR.out.n0
      have h1 := HTR.out.nn
      have h2 := HTR.out.ne
      have h3 := HTR.out.no
      have hiv : ((x.inv.toNat : Nat) : Int) = x.inv := Int.toNat_of_nonneg HM0.out.2.2.1.1
      have hc2 : x.cwp.toNat = cw := by omega
      rw [← hnr] at h0 h1 h2 h3
      rw [show (backC x).cwp.toNat = cw from hc2, show (backC x).inv.toNat = x.inv.toNat from rfl] at h2 h3
      refine ⟨h1, h0, by rw [h2]; exact hiv, fun j hj e => ?_⟩
      rcases Nat.eq_zero_or_pos j with rfl | hj0
      · rw [Nat.add_zero, Nat.mod_eq_of_lt HCW.out.2.2.1] at e
        exact HM0.out.2.2.2.1 (e.symm.trans hcw.symm)
      · exact h3 j hj0 hj (by omega))
    have HNR := mhid hnr
    clear hM hMade hnr HMD HBX3 HTR e0
    have c1 := HBX4.out.cell (k := 1) rfl
    rw [hcw] at c1
    clear hcw
    go_wp2_with fail
    go_loopw [4, 5] (fun v iw wr => ∃ k : Nat, k ≤ nr ∧ iw = .int .i64 (((cw + k) % m.f.nw : Nat) : Int) ∧ Hid (WRows wr w4.heap.size m.f cw k v) ∧ Hid (Below w4.heap.size w4 wr)) (fun v _ _ => nr - lenV v)
    case atStart => exact ⟨0, Nat.zero_le _, (by rw [Nat.add_zero, Nat.mod_eq_of_lt HCW.out.2.2.1]), mhid (WRows.zero _ _ _ _), mhid (Below.refl _ _)⟩
    case round =>
      obtain ⟨k, hk, rfl, HWR, HBL⟩ := hrel
      have c0 := (HBX4.out.below HBL.out).cell (k := 0) rfl
      have c2 := (HBX4.out.below HBL.out).cell (k := 2) rfl
      rw [HCW.out.2.2.2.1] at c0
      by_cases hlt : k < nr
      · have hne := HNE.out.2.2.2 k hlt
        obtain ⟨wv, hwv⟩ : ∃ wv, wv = (cw + k) % m.f.nw := ⟨_, rfl⟩
        rw [← hwv] at hne ⊢
        have hwl : wv < m.f.nw := by rw [hwv]; exact Nat.mod_lt _ (by have := HCW.out.2.2.2.2.1; omega)
        have HWV := mhid hwv
        have hE : ((wv : Int) == x.inv) = false := by simpa using hne
        clear hwv hne
        obtain ⟨p, c, rfl⟩ := HWR.out.shape
        have HMk := mhid (HM.out.keepb HBL.out)
        go_wp2_with fail
        refine (mfile_any _ G M m HMk.out.at').mono ?_
        rintro e w' ⟨rfl, rfl⟩
        have HWIN := mhid (fwin_any wr G.F G.Wb G.wc m.f HMk.out.at'.file wv)
        go_wp2_with fail
        refine HWIN.out.mono ?_
        rintro e w6 ⟨v6, rfl, hr6, hb6⟩
        rw [winV_nat hwl, winR_len HMk.out.at'.ok.f hwl] at hr6
        have hbl6 := HBL.out.trans (hb6.mono HBL.out.size)
        have hr6b := owns_base hr6 HBL.out.size
        obtain ⟨p6, c6, rfl, -⟩ := owns_shape hr6
        obtain ⟨xs, hx1, hx2⟩ := (HWR.out.keep hb6).ex
        have HR6 := mhid hr6b
        have HX1 := mhid hx1
        have HX2 := mhid hx2
        have HB6 := mhid hbl6
        have hsz6 := hbl6.size
        have q2 : k + 1 ≤ maxLen := by have := HNE.out.1; have := HCW.out.2.2.2.2.2; unfold maxLen; omega
        have q3 : (k + 1) * 24 ≤ 140737488355328 := by have := HNE.out.1; have := HCW.out.2.2.2.2.2; omega
        have Q23 := mhid (And.intro q2 q3)
        clear hr6 hb6 hr6b hx1 hx2 hbl6 q2 q3 HWIN c0 c1 c2 hE
        go_upto_region 16 with (at_builtin; refine wpList_append_own _ rfl _ _ 79 rfl w4.heap.size 22 i0 (.slice none 0 0) 1 24 Tryz.underlying79 HINF.out.1 HINF.out.2.1 HINF.out.2.2.1 HINF.out.2.2.2 rfl (by decide) _ k xs rfl (HX1.out.alloc _) ⟨_, 0, none⟩ 1 1 [.slice p6 16 c6] rfl rfl (cell_one_new _ _ _) (by simp [Value.oneCell']) Q23.out.1 Q23.out.2 (by simp; omega) ?_; intro v' w1 hown1 hgrow1 hnil)
        have hb1 : Below w4.heap.size w4 w1 := (HB6.out.alloc hsz6 _).grown hgrow1 (by simp; omega) (fun r e => ((HX1.out.alloc (.cells #[.slice p6 16 c6] 22)).lt r e).1)
        have hW1 : WRows w1 w4.heap.size m.f cw (k + 1) v' := WRows.more (HX1.out.alloc (.cells #[.slice p6 16 c6] 22)) (fun j hj => by obtain ⟨u, e, h3⟩ := HX2.out j hj; exact ⟨u, e, h3.alloc _⟩) (by rw [← HWV.out]; exact HR6.out.alloc _) hown1 hgrow1
        have HB1 := mhid hb1
        have HWR1 := mhid hW1
        obtain ⟨p1, c1', rfl⟩ := hW1.shape
        clear hown1 hgrow1 hnil hb1 hW1 HX1 HX2 HR6 HB6 HWR HBL HMk hsz6
        have c0 := (HBX4.out.below HB1.out).cell (k := 0) rfl
        rw [HCW.out.2.2.2.1] at c0
        have e1 : IntKind.i64.wrap ((wv : Int) + 1) = (wv : Int) + 1 := IntWalk.i64_in _ (by have := HCW.out.2.2.2.2.2; omega)
        have hz : ¬ (m.f.nw : Int) = 0 := by have := HCW.out.2.2.2.2.1; omega
        have HTM := mhid (show ((wv : Int) + 1) % (m.f.nw : Int) = (((cw + (k + 1)) % m.f.nw : Nat) : Int) from by
          rw [HWV.out, Int.natCast_emod, Int.natCast_emod, Int.emod_add_emod, Int.natCast_add, Int.natCast_add]
          congr 1)
        go_wp2_with fail
        exact ⟨⟨k + 1, by omega, by rw [HTM.out], HWR1, HB1⟩, by show nr - (k + 1) < nr - k; omega⟩
      · obtain rfl : k = nr := by omega
        have hE : ((((cw + k) % m.f.nw : Nat) : Int) == x.inv) = true := by rw [HNE.out.2.2.1]; simp
        obtain ⟨p, c, rfl⟩ := HWR.out.shape
        have HNE2 := mhid (And.intro HNE.out.1 HNE.out.2.1)
        generalize (((cw + k) % m.f.nw : Nat) : Int) = wend at hE ⊢
        clear HNE
        have c1 := (HBX4.out.below HBL.out).cell (k := 1) rfl
        rw [HCW.out.1] at c1
        obtain ⟨kk, m', t1, tk, hrest, hback⟩ := back_go HME.out HM0.out HX.out.ch HX.out.st HM.out.at'.ok
        have hnS : nS x = k := HNR.out.symm
        rw [hnS, HCW.out.2.1] at hback
        rw [hnS] at tk
        have HBK := mhid hback
        have HKK := mhid (show 1 ≤ kk ∧ kk ≤ 40 * m.f.nw + 140 from ⟨t1, by have := HNE2.out.1; omega⟩)
        have HRE := mhid hrest
        have HOM := mhid (show outL m < 1000000 from by rw [outL_madeS HME.out]; decide)
        have HE4 := mhid (show IntKind.i64.wrap (IntKind.i64.wrap (40 * (m.f.nw : Int)) + 140) = ((40 * m.f.nw + 140 : Nat) : Int) from by rw [IntWalk.i64_in (40 * (m.f.nw : Int)) (by have := HCW.out.2.2.2.2.2; omega), IntWalk.i64_in _ (by have := HCW.out.2.2.2.2.2; omega)]; omega)
        have HGL := mhid (show ∀ j, G.R j ≠ .none → W3.heap.size ≤ j ∧ j < w4.heap.size from fun j hj => ⟨HM.out.lo j hj, HM.out.at'.lt j hj⟩)
        have HWW := mhid (show w.heap.size < W3.heap.size ∧ w.heap.size ≤ W3.heap.size from ⟨HBX3s.out, HB3.out.size⟩)
        have HRU := mhid (fun (w' : World) (hb : Below w4.heap.size w4 w') => (show Calls Tryz.prog 36 #[.pointer (some ⟨M, 0, none⟩), .int .u32 1540, .int .i64 (IntKind.i64.wrap (IntKind.i64.wrap (40 * (m.f.nw : Int)) + 140))] w' (fun e w'' => e = .returned (.bool true) ∧ MTo W3 w' w'' G M m') from by
          rw [HE4.out]
          exact sruns_any W3 w' HTW.out HRW.out G M m m' (HM.out.keepb hb) 1540 (40 * m.f.nw + 140) kk (by decide) (by have := HCW.out.2.2.2.2.2; omega) HKK.out.2 HKK.out.1 HOM.out HRE.out))
        have HKS := mhid (fun (w' : World) (hb : Below w4.heap.size w4 w') => (show w'.cell? ⟨w.heap.size, 0, none⟩ = some (.int .i64 m.f.nw) ∧ w'.cell? ⟨w.heap.size, 1, none⟩ = some (.int .i64 cw) from ⟨by have := (HBX4.out.below hb).cell (k := 0) rfl; rwa [HCW.out.2.2.2.1] at this, by have := (HBX4.out.below hb).cell (k := 1) rfl; rwa [HCW.out.1] at this⟩))
        have HKR := mhid (fun (w' w'' : World) (G' : MG) (hb : Below w4.heap.size w4 w') (hk : MKeeps w' w'' G G') => (show ARow w'' w.heap.size 76 [.int .i64 x.nw, .int .i64 x.cwp, .int .i64 x.inv, .slice pr x.regs.length cr, .slice none 0 0, .int .i64 1, .int .i64 0, .bool true, .bool (x.alive 1), .bool (x.alive 2), .bool (x.alive 3), .int .u16 (x.stacks 0), .int .u16 (x.stacks 1), .int .u16 (x.stacks 2), .int .u16 (x.stacks 3), .int .u32 x.choice, .int .u8 x.flags, .int .u8 x.pil, .int .u32 x.fill, .bool false] from (HBX4.out.below hb).of_block (hk.1.block _ (HBX4.out.below hb).lt (fun hh => by have := (HGL.out _ hh).1; have := HWW.out.1; omega))))
        have HKC := mhid (fun (w'' : World) (h : ARow w'' w.heap.size 76 [.int .i64 x.nw, .int .i64 x.cwp, .int .i64 x.inv, .slice pr x.regs.length cr, .slice none 0 0, .int .i64 1, .int .i64 0, .bool true, .bool (x.alive 1), .bool (x.alive 2), .bool (x.alive 3), .int .u16 (x.stacks 0), .int .u16 (x.stacks 1), .int .u16 (x.stacks 2), .int .u16 (x.stacks 3), .int .u32 x.choice, .int .u8 x.flags, .int .u8 x.pil, .int .u32 x.fill, .bool false]) => (show w''.cell? ⟨w.heap.size, 0, none⟩ = some (.int .i64 m.f.nw) ∧ w''.cell? ⟨w.heap.size, 1, none⟩ = some (.int .i64 cw) from ⟨by have := h.cell (k := 0) rfl; rwa [HCW.out.2.2.2.1] at this, by have := h.cell (k := 1) rfl; rwa [HCW.out.1] at this⟩))
        obtain ⟨iv, hiv⟩ : ∃ iv, iv = (cw + 1) % m.f.nw := ⟨_, rfl⟩
        have hwe := hback.wim
        rw [← hiv] at hwe
        have HIV := mhid (And.intro hiv hwe)
        clear hiv hwe hback hrest t1 tk hnS
        have HWM := mhid (show (m'.wim != IntKind.u32.wrap (2 ^ min (IntKind.u64.wrap ((IntKind.i64.wrap ((cw : Int) + 1)).tmod (m.f.nw : Int))).toNat 32)) = false from by
          have h32 := HCW.out.2.2.2.2.2
          have hivl : iv < m.f.nw := by rw [HIV.out.1]; exact Nat.mod_lt _ (by have := HCW.out.2.2.2.2.1; omega)
          have e2 : ((cw : Int) + 1).tmod (m.f.nw : Int) = (iv : Int) := by rw [Int.tmod_eq_emod_of_nonneg (by omega), HIV.out.1, Int.natCast_emod, Int.natCast_add]; rfl
          rw [IntWalk.i64_in _ (by have := HCW.out.2.2.1; omega), e2, HIV.out.2]
          have hp : (2 : Int) ^ iv ≤ 4294967295 := Int.le_of_lt_add_one (wim_lt' iv (by omega))
          have hp0 : (0 : Int) ≤ 2 ^ iv := Int.pow_nonneg (by decide)
          rw [show IntKind.u64.wrap (iv : Int) = (iv : Int) from IntWalk.u64_in _ (by omega), Int.toNat_natCast, Nat.min_eq_left (by omega)]
          generalize (2 : Int) ^ iv = pw at *
          rw [IntWalk.u32_in pw ⟨hp0, hp⟩]
          simp)
        go_upto_region 17 with (fail)
        go_cut [70] from 31 to 71 (fun t w' => t = .bool false ∧ ∃ G', Hid (SB w W3 w4 w' G' M m m' [.int .i64 x.nw, .int .i64 x.cwp, .int .i64 x.inv, .slice pr x.regs.length cr, .slice none 0 0, .int .i64 1, .int .i64 0, .bool true, .bool (x.alive 1), .bool (x.alive 2), .bool (x.alive 3), .int .u16 (x.stacks 0), .int .u16 (x.stacks 1), .int .u16 (x.stacks 2), .int .u16 (x.stacks 3), .int .u32 x.choice, .int .u8 x.flags, .int .u8 x.pil, .int .u32 x.fill, .bool false] cw k (.slice p k c)))
        case first =>
          have hbW : Below w4.heap.size w4 wr.drew := HBL.out.trans ((Below.refl _ _).drew.mono HBL.out.size)
          have hz : ¬ (m.f.nw : Int) = 0 := by have := HCW.out.2.2.2.2.1; omega
          have hzb : ((m.f.nw : Int) == 0) = false := by simp only [beq_eq_false_iff_ne, ne_eq]; exact hz
          have hz2 : decide ((m.f.nw : Int) = 0) = false := decide_eq_false hz
          have hz3 : ¬ m.f.nw = 0 := by omega
          have hz4 : decide (m.f.nw = 0) = false := decide_eq_false hz3
          have HWRd := mhid (HWR.out.keep ((Below.refl _ _).drew))
          have HBd := mhid hbW
          clear c0 c1 c2 hE
          go_region_held3 (fun w' => w'.cell? ⟨w.heap.size, 0, none⟩ = some (.int .i64 m.f.nw) ∧ w'.cell? ⟨w.heap.size, 1, none⟩ = some (.int .i64 cw))
            (first | (with_reducible exact HKS.out _ hbW) | (with_reducible exact hSx) | (refine HKS.out _ ?_; go_grown; done))
            (first
              | (go_at_call 36; (with_reducible refine (HRU.out _ hbW).mono ?_); rintro e w12 ⟨rfl, G', hM', hK'⟩; have hAx := HKR.out _ _ _ hbW hK'; have hSx := HKC.out _ hAx)
              | (go_at_call 37; (with_reducible refine (mwim_any _ G' M m' hM'.at').mono ?_); rintro e wx ⟨rfl, rfl⟩))
          all_goals
            have hsb : SB w W3 w4 w12 G' M m m' [.int .i64 x.nw, .int .i64 x.cwp, .int .i64 x.inv, .slice pr x.regs.length cr, .slice none 0 0, .int .i64 1, .int .i64 0, .bool true, .bool (x.alive 1), .bool (x.alive 2), .bool (x.alive 3), .int .u16 (x.stacks 0), .int .u16 (x.stacks 1), .int .u16 (x.stacks 2), .int .u16 (x.stacks 3), .int .u32 x.choice, .int .u8 x.flags, .int .u8 x.pil, .int .u32 x.fill, .bool false] cw k (.slice p k c) := ⟨hM', hAx, HWRd.out.only hK'.1 (fun j hj hh => by have := (HGL.out j hh).2; omega), (HB4.out.trans (HBd.out.mono HB4.out.size)).trans (hK'.1.below (Nat.le_trans HB4.out.size HBd.out.size) (fun j hj hh => by have := (HGL.out j hh).1; have := HWW.out.2; omega))⟩
            have HS := mhid hsb
            clear hsb hSx hAx hM' hK' hbW
          all_goals go_wp2_with fail
          all_goals go_meet
          all_goals exact ⟨congrArg Value.bool HWM.out, G', HS⟩
        case rest =>
          obtain ⟨rfl, G', HSB⟩ := hcut
          clear HBL HWR c0 c1 c2 hE HRU HKS HKR HKC HRE HOM HE4 HKK HWM HGL
          obtain ⟨W12, rfl⟩ : ∃ W, W = wc := ⟨_, rfl⟩
          have hcwb := HCW.out.2.2.1
          have HK5 := mhid (fun (W : World) (hb : Below W12.heap.size W12 W) => (show W.cell? ⟨w.heap.size, 1, none⟩ = some (.int .i64 cw) from by have := (HSB.out.box.below hb).cell (k := 1) rfl; rwa [HCW.out.1] at this))
          have HF5 := mhid (fun (W : World) (hb : Below W12.heap.size W12 W) => mfile_any W G' M m' (HSB.out.mis.keepb hb).at')
          have HN5 := mhid (fun (W : World) (hb : Below W12.heap.size W12 W) => fwin_any W G'.F G'.Wb G'.wc m'.f (HSB.out.mis.keepb hb).at'.file cw)
          have hbW : Below W12.heap.size W12 W12.drew := (Below.refl _ _).drew
          go_upto_region 19 with (fail)
          go_region_held3 (fun W => W.cell? ⟨w.heap.size, 1, none⟩ = some (.int .i64 cw))
            (first | (with_reducible exact HK5.out _ hbW) | (refine HK5.out _ ?_; go_grown; done))
            (first
              | (go_at_call 12; (with_reducible refine (HF5.out _ hbW).mono ?_); rintro e wx ⟨rfl, rfl⟩)
              | (go_at_call 13; (with_reducible refine (HN5.out _ hbW).mono ?_); rintro e w8 ⟨v8, rfl, hr8, hb⟩; have hbW := hbW.trans (hb.mono hbW.size); clear hb))
          rw [winV_nat (by rw [HBK.out.nw]; exact hcwb), HBK.out.win] at hr8
          have HR8 := mhid (Reads32.of_own hr8)
          have HS8 := mhid (HSB.out.keep hbW)
          obtain ⟨b8, o8, p8, c8, rfl, -, -, -⟩ := (Reads32.of_own hr8).shape
          clear hbW hr8 HK5 HF5 HN5 HSB
          have HK5 := mhid (fun (W : World) (hb : Below w8.heap.size w8 W) => (show W.cell? ⟨w.heap.size, 1, none⟩ = some (.int .i64 cw) from by have := (HS8.out.box.below hb).cell (k := 1) rfl; rwa [HCW.out.1] at this))
          have HF5 := mhid (fun (W : World) (hb : Below w8.heap.size w8 W) => mfile_any W G' M m' (HS8.out.mis.keepb hb).at')
          have HN5 := mhid (fun (W : World) (hb : Below w8.heap.size w8 W) => (show Calls Tryz.prog 14 #[.pointer (some ⟨G'.F, 0, none⟩), .int .i64 cw, .int .i64 0, .int .i64 14] W fun e w' => e = .returned (.tuple #[.int .u32 ((2048 + 64 * cw : Nat) : Int), .int .i64 (regE m'.f cw 0 14)]) ∧ Below W.heap.size W w' from by
            refine (fget_any W G'.F G'.Wb G'.wc m'.f (HS8.out.mis.keepb hb).at'.file cw 0 14).mono ?_
            rintro e w' ⟨rfl, n, rfl⟩
            exact ⟨by rw [HBK.out.sp], ⟨rfl, rfl, rfl, Nat.le_refl _, fun _ _ => rfl⟩⟩))
          have hbW : Below w8.heap.size w8 w8.drew := (Below.refl _ _).drew
          go_upto_region 20 with (fail)
          go_region_held3 (fun W => W.cell? ⟨w.heap.size, 1, none⟩ = some (.int .i64 cw))
            (first | (with_reducible exact HK5.out _ hbW) | (refine HK5.out _ ?_; go_grown; done))
            (first
              | (go_at_call 12; (with_reducible refine (HF5.out _ hbW).mono ?_); rintro e wx ⟨rfl, rfl⟩)
              | (go_at_call 14; (with_reducible refine (HN5.out _ hbW).mono ?_); rintro e w9 ⟨rfl, hb⟩; have hbW := hbW.trans (hb.mono hbW.size); clear hb))
          have HS9 := mhid (HS8.out.keep hbW)
          have HR9 := mhid (HR8.out.keepb hbW)
          clear hbW HK5 HF5 HN5 HS8 HR8
          obtain ⟨g, u0, hpg, hu0, hro0⟩ := HS9.out.rows.at HNE2.out.2
          subst hpg
          rw [Nat.add_zero, Nat.mod_eq_of_lt hcwb] at hro0
          have HR0 := mhid (Reads32.of_own (l := winR m.f cw) (by rw [winR_len HM.out.at'.ok.f hcwb]; exact hro0))
          obtain ⟨b0, o0, p0, c0', rfl, -, -, -⟩ := HR0.out.shape
          have HSM := mhid (same_yes w9 _ _ _ HR9.out HR0.out)
          have hk0 : (0 : Int) < (k : Int) := by have := HNE2.out.2; omega
          clear hro0
          go_wp2_with fail
          refine HSM.out.mono ?_
          rintro e w10 ⟨rfl, hb10⟩
          have HS10 := mhid (HS9.out.keep hb10)
          clear hb10 HSM HS9 HR9 HR0 hu0 hk0
          go_wp2_with fail
          go_loopw [10, 12] (fun sp i wr => ∃ j : Nat, j ≤ k ∧ i = .int .i64 (j : Int) ∧ sp = .int .u32 ((2048 + 64 * ((cw + j) % m.f.nw) : Nat) : Int) ∧ Hid (SB w W3 w4 wr G' M m m' [.int .i64 x.nw, .int .i64 x.cwp, .int .i64 x.inv, .slice pr x.regs.length cr, .slice none 0 0, .int .i64 1, .int .i64 0, .bool true, .bool (x.alive 1), .bool (x.alive 2), .bool (x.alive 3), .int .u16 (x.stacks 0), .int .u16 (x.stacks 1), .int .u16 (x.stacks 2), .int .u16 (x.stacks 3), .int .u32 x.choice, .int .u8 x.flags, .int .u8 x.pil, .int .u32 x.fill, .bool false] cw k (.slice (some ⟨g, 0, none⟩) k c))) (fun _ i _ => k - (intOf i).toNat)
          case atStart => exact ⟨0, Nat.zero_le _, rfl, (by rw [Nat.add_zero, Nat.mod_eq_of_lt hcwb]; exact congrArg (Value.int IntKind.u32) (by omega)), HS10⟩
          case round =>
            clear HS10
            obtain ⟨j, hj, rfl, rfl, HS⟩ := hrel
            have e1 : IntKind.i64.wrap ((j : Int) + 1) = ((j + 1 : Nat) : Int) := by rw [IntWalk.i64_in _ (by have := HNE2.out.1; have := HCW.out.2.2.2.2.2; omega)]; omega
            by_cases hlt : j < k
            · have h1 : (j : Int) < (k : Int) := by omega
              have h0 : ¬ (j : Int) < 0 := by omega
              obtain ⟨wv, hwv⟩ : ∃ wv, wv = (cw + j) % m.f.nw := ⟨_, rfl⟩
              have hwl : wv < m.f.nw := by rw [hwv]; exact Nat.mod_lt _ (by have := HCW.out.2.2.2.2.1; omega)
              have hwo := HBK.out.words j hlt
              obtain ⟨g1, uj, hpg, huj, hroj⟩ := HS.out.rows.at hlt
              obtain rfl : g = g1 := by cases hpg; rfl
              rw [← hwv] at hwo hroj ⊢
              have hnx : (winR m.f wv).getD 14 0 = ((2048 + 64 * ((cw + (j + 1)) % m.f.nw) : Nat) : Int) := by
                rw [HBK.out.next wv hwl, hwv, Nat.mod_add_mod, Nat.add_assoc]
              have hlen16 := winR_len HM.out.at'.ok.f hwl
              have HRJ := mhid (Reads32.of_own (l := winR m.f wv) (by rw [hlen16]; exact hroj))
              obtain ⟨bj, oj, pj, cj, rfl, -, -, -⟩ := HRJ.out.shape
              have HNX := mhid (And.intro hnx (And.intro hlen16 (And.intro hwo hwv)))
              have HWL := mhid (show wv < 32 from by have := HCW.out.2.2.2.2.2; omega)
              obtain ⟨A, hA⟩ : ∃ A : Nat, A = 2048 + 64 * wv := ⟨_, rfl⟩
              rw [← hA]
              have HAA := mhid hA
              have hAb : (A : Int) < 4294967296 := by have := HWL.out; omega
              have HLT := mhid (And.intro hlt (And.intro hj hAb))
              have E1 := mhid e1
              have HUJ := mhid huj
              clear hroj hnx hlen16 hwo hwv hA hpg hAb hwl e1 hj huj
              go_wp2_with fail
              refine (mmem_any _ G' M m' HS.out.mis.at').mono ?_
              rintro e w' ⟨rfl, rfl⟩
              have HWD := mhid (words_any wr G'.mB G'.gB m'.mem HS.out.mis.at'.mem (A : Int) (by omega) HLT.out.2.2 16 (by decide))
              go_wp2_with fail
              refine HWD.out.mono ?_
              rintro e w11 ⟨rv, l, rfl, hl, hrow, hb11⟩
              have hsp : spanE m'.mem.length (A : Int) 16 4 = 0 := by rw [HBK.out.len]; exact spanE_row 8192 A 16 (by have := HAA.out; omega) (by have := HAA.out; have := HWL.out; omega)
              rw [hsp] at hl ⊢
              rw [if_pos rfl, Int.toNat_natCast, show (16 : Int).toNat = 16 from rfl, HAA.out, HNX.out.2.2.1] at hl
              subst hl
              have HRW := mhid (Reads32.of_own hrow)
              have HS11 := mhid (HS.out.keep hb11)
              have HRJ11 := mhid (HRJ.out.keepb hb11)
              have hujc := (hb11.cell (World.block_lt_of_cell? _ _ HUJ.out)).trans HUJ.out
              obtain ⟨br, orr, pv, cv, rfl, -, hpv, hcv⟩ := HRW.out.shape
              obtain rfl := hpv (by rw [HNX.out.2.1]; decide)
              have HCV := mhid (hcv 14 (by rw [HNX.out.2.1]; decide))
              have HSM := mhid (same_yes w11 _ _ _ HRW.out HRJ11.out)
              rw [HNX.out.2.1] at HSM HRW HRJ11 hujc ⊢
              clear hrow hb11 hpv hcv HWD HS HRJ hsp HUJ
              go_wp2_with fail
              refine HSM.out.mono ?_
              rintro e w12 ⟨rfl, hb12⟩
              have HS12 := mhid (HS11.out.keep hb12)
              have hc14 := (hb12.cell (World.block_lt_of_cell? _ _ HCV.out)).trans HCV.out
              rw [HNX.out.1] at hc14
              clear hb12 HSM HS11 hujc HCV
              have e1 := E1.out
              go_wp2_with fail
              exact ⟨⟨j + 1, by have := HLT.out.1; omega, by go_num, rfl, HS12⟩, by simp [intOf]; have := HLT.out.1; omega⟩
            · obtain rfl : j = k := by omega
              go_wp2_with fail
              refine (HHD.out _ HS.out.bel).mono ?_
              rintro e w14 ⟨rfl, hb14⟩
              go_wp2_with fail
              first
                | go_ret2
                | go_ret
              exact ⟨rfl, hb14⟩
  · rw [decide_eq_false hm]
    go_wp2_with fail
    refine (HHD.out W2 HB2.out).mono ?_
    rintro e w3 ⟨rfl, hb3⟩
    go_wp2_with fail
    first
      | go_ret2
      | go_ret
    exact ⟨rfl, hb3⟩
end Go.Proofs.YtajholbcpmjhiaaGreatDoor
/- How an argument of type muntinlaw08.Case is read. -/
namespace Go.Proofs.YtajholbcpmjhiaaGreatDoor
open Go.RowKit Go.ChangeShapes Go.WideShapes Go.ChangeAt
section
variable {H : Type} {enc : TypeId × Value → H} {w : World} {base : Nat} {spare : Nat → Bool} {held : Bool} {fuel : Nat} {x : DataW H × List MemPlace}
theorem hc_u16 : Tryz.prog.cellsOf 73 = 1 := by kernel_rfl
theorem hc_u8 : Tryz.prog.cellsOf 5 = 1 := by kernel_rfl
theorem hc_bool : Tryz.prog.cellsOf 4 = 1 := by kernel_rfl
theorem hc_halfs : Tryz.prog.cellsOf 23 = 1 := by kernel_rfl
set_option maxRecDepth 100000 in
theorem trod_halfs {cs : List Value} (h : DataW.trod enc Tryz.prog w base spare held fuel 23 cs = some x) : ∃ v l, cs = [v] ∧ HalfsIn w v l := by
  rcases Go.Deep.open_slice Tryz.underlying23 h with ⟨rfl, _⟩ | ⟨a, len, cap, m, q, D, Pl, rfl, _, hl, hm, hmm, hx, hel⟩
  · exact ⟨_, [], rfl, by simp, fun x hx => by simp at hx, none, 0, 0, 0, rfl, fun h => by simp at h, fun k y h => by simp at h⟩
  · have hlm : len ≤ m := by rw [hmm]; split <;> omega
    have each : ∀ i, i < len → ∃ y : Int, (0 ≤ y ∧ y < 65536) ∧ w.cell? ((a.add (i * 1)).add 0) = some (.int .u16 y) := by
      intro i hi
      obtain ⟨cs', h1, h2⟩ := hel i (by omega)
      rw [hc_u16] at h1
      obtain ⟨y, hb, _, w0⟩ := DataW.trod_int Tryz.underlying73 h2
      subst hb
      have hc := (mcells_each h1).2 0 _ rfl
      have b0 := bounds_u16 w0
      exact ⟨y, by omega, hc⟩
    obtain ⟨l, hll, hlp⟩ := mlist_of _ len each
    subst hll
    refine ⟨_, l, rfl, by omega, fun y hy => ?_, some a, cap, ?_⟩
    · obtain ⟨i, hi, rfl⟩ := List.getElem_of_mem hy
      exact (hlp i _ (List.getElem?_eq_getElem hi)).1
    by_cases h0 : 0 < l.length
    · obtain ⟨b, o, sp⟩ := a
      have hsp2 : sp = none := by
        have := World.cell?_spot ((hlp 0 l[0] (List.getElem?_eq_getElem h0)).2)
        simpa [Addr.add] using this
      subst hsp2
      refine ⟨b, o, rfl, fun _ => rfl, fun k y hy => ?_⟩
      have := (hlp k y hy).2
      rw [maddr_add, maddr_add, Nat.mul_one] at this
      exact this
    · exact ⟨0, 0, rfl, fun h => absurd h h0, fun k y hy => by have h1 : l = [] := List.eq_nil_of_length_eq_zero (by omega); rw [h1] at hy; simp at hy⟩
end
end Go.Proofs.YtajholbcpmjhiaaGreatDoor
/- How an argument of type muntinlaw10.Case is read. -/
namespace Go.Proofs.YtajholbcpmjhiaaGreatDoor
open Go.RowKit Go.ChangeShapes Go.WideShapes Go.ChangeAt
section
variable {H : Type} {enc : TypeId × Value → H} {w : World} {base : Nat} {spare : Nat → Bool} {held : Bool} {fuel : Nat} {x : DataW H × List MemPlace}
theorem hc_bools : Tryz.prog.cellsOf 72 = 4 := by kernel_rfl
theorem hc_u16s : Tryz.prog.cellsOf 74 = 4 := by kernel_rfl
theorem hc_cases : Tryz.prog.cellsOf 76 = 20 := by kernel_rfl
set_option maxRecDepth 100000 in
theorem trod_bools4 {cs : List Value} (h : DataW.trod enc Tryz.prog w base spare held fuel 72 cs = some x) (hl : cs.length = 4) : ∃ f : Nat → Bool, cs = [.bool (f 0), .bool (f 1), .bool (f 2), .bool (f 3)] := by
  obtain ⟨c0, c1, c2, c3, rfl⟩ := mlist4 hl
  obtain ⟨xs, n, _, _, _, hlen, hx⟩ := DataW.trod_array Tryz.underlying72 h
  have hlen' : xs.length = 4 := hlen
  obtain ⟨y0, y1, y2, y3, rfl⟩ := mlist4 hlen'
  have h0 := hx 0 (by omega)
  have h1 := hx 1 (by omega)
  have h2 := hx 2 (by omega)
  have h3 := hx 3 (by omega)
  simp [hc_bool] at h0 h1 h2 h3
  obtain ⟨a0, e0, _⟩ := DataW.trod_bool Tryz.underlying4 h0
  obtain ⟨a1, e1, _⟩ := DataW.trod_bool Tryz.underlying4 h1
  obtain ⟨a2, e2, _⟩ := DataW.trod_bool Tryz.underlying4 h2
  obtain ⟨a3, e3, _⟩ := DataW.trod_bool Tryz.underlying4 h3
  simp at e0 e1 e2 e3
  exact ⟨fun t => if t = 0 then a0 else if t = 1 then a1 else if t = 2 then a2 else a3, by rw [e0, e1, e2, e3]; rfl⟩
set_option maxRecDepth 100000 in
theorem trod_u16s4 {cs : List Value} (h : DataW.trod enc Tryz.prog w base spare held fuel 74 cs = some x) (hl : cs.length = 4) : ∃ f : Nat → Int, (∀ t, 0 ≤ f t ∧ f t < 65536) ∧ cs = [.int .u16 (f 0), .int .u16 (f 1), .int .u16 (f 2), .int .u16 (f 3)] := by
  obtain ⟨c0, c1, c2, c3, rfl⟩ := mlist4 hl
  obtain ⟨xs, n, _, _, _, hlen, hx⟩ := DataW.trod_array Tryz.underlying74 h
  have hlen' : xs.length = 4 := hlen
  obtain ⟨y0, y1, y2, y3, rfl⟩ := mlist4 hlen'
  have h0 := hx 0 (by omega)
  have h1 := hx 1 (by omega)
  have h2 := hx 2 (by omega)
  have h3 := hx 3 (by omega)
  simp [hc_u16] at h0 h1 h2 h3
  obtain ⟨a0, e0, _, w0⟩ := DataW.trod_int Tryz.underlying73 h0
  obtain ⟨a1, e1, _, w1⟩ := DataW.trod_int Tryz.underlying73 h1
  obtain ⟨a2, e2, _, w2⟩ := DataW.trod_int Tryz.underlying73 h2
  obtain ⟨a3, e3, _, w3⟩ := DataW.trod_int Tryz.underlying73 h3
  have b0 := bounds_u16 w0
  have b1 := bounds_u16 w1
  have b2 := bounds_u16 w2
  have b3 := bounds_u16 w3
  simp at e0 e1 e2 e3
  refine ⟨fun t => if t = 0 then a0 else if t = 1 then a1 else if t = 2 then a2 else a3, fun t => ?_, by rw [e0, e1, e2, e3]; rfl⟩
  dsimp only
  split
  · omega
  · split
    · omega
    · split <;> omega
theorem mlist20 {α : Type} {l : List α} (h : l.length = 20) : ∃ a b c d e f g i j k m n o p q r s t u v, l = [a, b, c, d, e, f, g, i, j, k, m, n, o, p, q, r, s, t, u, v] := by
  match l, h with
  | [a, b, c, d, e, f, g, i, j, k, m, n, o, p, q, r, s, t, u, v], _ => exact ⟨a, b, c, d, e, f, g, i, j, k, m, n, o, p, q, r, s, t, u, v, rfl⟩
theorem mlist14 {α : Type} {l : List α} (h : l.length = 14) : ∃ a b c d e f g i j k m n o p, l = [a, b, c, d, e, f, g, i, j, k, m, n, o, p] := by
  match l, h with
  | [a, b, c, d, e, f, g, i, j, k, m, n, o, p], _ => exact ⟨a, b, c, d, e, f, g, i, j, k, m, n, o, p, rfl⟩
set_option maxRecDepth 100000 in
set_option maxHeartbeats 1000000 in
theorem trod_cases {cs : List Value} (h : DataW.trod enc Tryz.prog w base spare held fuel 76 cs = some x) :
    ∃ (y : CaseS) (vr vf : Value), .agg cs.toArray = y.agg vr vf ∧ CaseSIn w y vr vf := by
  obtain ⟨xs, n, _, rfl, hl, hlen, hf⟩ := DataW.trod_struct Tryz.underlying76 h
  rw [hc_cases] at hl
  obtain ⟨c0, c1, c2, c3, c4, c5, c6, c7, c8, c9, c10, c11, c12, c13, c14, c15, c16, c17, c18, c19, rfl⟩ := mlist20 hl
  obtain ⟨y0, y1, y2, y3, y4, y5, y6, y7, y8, y9, y10, y11, y12, y13, rfl⟩ := mlist14 hlen
  have h0 := hf 0 _ rfl
  have h1 := hf 1 _ rfl
  have h2 := hf 2 _ rfl
  have h3 := hf 3 _ rfl
  have h4 := hf 4 _ rfl
  have h5 := hf 5 _ rfl
  have h6 := hf 6 _ rfl
  have h7 := hf 7 _ rfl
  have h8 := hf 8 _ rfl
  have h9 := hf 9 _ rfl
  have h10 := hf 10 _ rfl
  have h11 := hf 11 _ rfl
  have h12 := hf 12 _ rfl
  have h13 := hf 13 _ rfl
  simp [mc_int, mc_u32, mc_words, hc_halfs, hc_u8, hc_bool, hc_bools, hc_u16s] at h0 h1 h2 h3 h4 h5 h6 h7 h8 h9 h10 h11 h12 h13
  obtain ⟨a0, e0, _, w0⟩ := DataW.trod_int Tryz.underlying3 h0
  obtain ⟨a1, e1, _, w1⟩ := DataW.trod_int Tryz.underlying3 h1
  obtain ⟨a2, e2, _, w2⟩ := DataW.trod_int Tryz.underlying3 h2
  obtain ⟨v3, l3, e3, r3⟩ := trod_wordsin h3
  obtain ⟨v4, l4, e4, r4⟩ := trod_halfs h4
  obtain ⟨a5, e5, _, w5⟩ := DataW.trod_int Tryz.underlying3 h5
  obtain ⟨a6, e6, _, w6⟩ := DataW.trod_int Tryz.underlying3 h6
  obtain ⟨f7, e7⟩ := trod_bools4 h7 rfl
  obtain ⟨f8, b8, e8⟩ := trod_u16s4 h8 rfl
  obtain ⟨a9, e9, _, w9⟩ := DataW.trod_int Tryz.underlying24 h9
  obtain ⟨a10, e10, _, w10⟩ := DataW.trod_int Tryz.underlying5 h10
  obtain ⟨a11, e11, _, w11⟩ := DataW.trod_int Tryz.underlying5 h11
  obtain ⟨a12, e12, _, w12⟩ := DataW.trod_int Tryz.underlying24 h12
  obtain ⟨a13, e13, _⟩ := DataW.trod_bool Tryz.underlying4 h13
  simp at e0 e1 e2 e3 e4 e5 e6 e7 e8 e9 e10 e11 e12 e13
  obtain ⟨q0, q1, q2, q3⟩ := e7
  obtain ⟨p0, p1, p2, p3⟩ := e8
  have b0 := bounds_i64 w0
  have b1 := bounds_i64 w1
  have b2 := bounds_i64 w2
  have b5 := bounds_i64 w5
  have b6 := bounds_i64 w6
  have b9 := bounds_u32 w9
  have b10 := bounds_u8 w10
  have b11 := bounds_u8 w11
  have b12 := bounds_u32 w12
  subst e0 e1 e2 e3 e4 e5 e6 q0 q1 q2 q3 p0 p1 p2 p3 e9 e10 e11 e12 e13
  exact ⟨⟨a0, a1, a2, l3, l4, a5, a6, f7, f8, a9, a10, a11, a12, a13⟩, _, _, rfl, r3, r4, by simp only; omega, b8, by simp only; omega, by simp only; omega, by simp only; omega, by simp only; omega⟩
end
set_option maxRecDepth 100000 in
theorem open_cases {H : Type} {enc : TypeId × Value → H} {W : World} {base b : Nat} {spare : Nat → Bool} {held : Bool} {r : Reach} {v : Value} {d : DataW H} {p : List MemPlace} (hv : Value.okWide Tryz.prog W r b 76 v) (h : DataW.Trod enc Tryz.prog W base spare held 76 v d p) :
    ∃ (y : CaseS) (vr vf : Value), v = y.agg vr vf ∧ CaseSIn W y vr vf := by
  obtain ⟨cs, rfl, hsz⟩ := okWide_struct Tryz.underlying76 hv
  obtain ⟨m, hm⟩ := h
  obtain ⟨y, vr, vf, e, hy⟩ := trod_cases (by simpa [Value.cells] using hm)
  exact ⟨y, vr, vf, e, hy⟩
end Go.Proofs.YtajholbcpmjhiaaGreatDoor
