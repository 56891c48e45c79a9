/- 'MachLess', the tied card: for every input the law returns true, and each argument reads afterwards as it read before; the listed variables start as the program's text lays it (the card ties them). No other condition. -/
import Derived.Test.YtgdebchbdmogcaaGreatDoorGX
import Derived.Test.YtgdebchbdmogcaaGreatDoorGR
import Derived.Test.YtgdebchbdmogcaaGreatDoorGY
import Derived.Test.YtgdebchbdmogcaaGreatDoorGT
import Derived.Test.YtgdebchbdmogcaaGreatDoorGRm
import Derived.Test.YtgdebchbdmogcaaGreatDoorGU
import Derived.Deep.Cut
import Derived.Deep.CutRange
import Derived.Test.YtgdebchbdmogcaaGreatDoorCards
import Derived.Test.YtgdebchbdmogcaaGreatDoorTie
import Derived.WalkKit
import Derived.ProofKit
import Derived.OpenShut
import Derived.ShutString
import Derived.ChangeOld
import Derived.Below
import Derived.Deep.DeepHandedRow
import Derived.Lib.LaidTab
import Derived.SevenTiedAt
import Derived.LaidSub
/- The walk of muntinlaw06.MachLess. -/
namespace Go.Proofs.YtgdebchbdmogcaaGreatDoor
open Go.RowKit
set_option linter.unusedVariables false
set_option linter.unusedSimpArgs false
/-- Two machines side by side. -/
structure Duo (w0 w : World) (G1 : MG) (M1 : Nat) (a : Mx) (G2 : MG) (M2 : Nat) (b : Mx) : Prop where
  one : MIs w0 w G1 M1 a
  two : MIs w0 w G2 M2 b
  ap : Apart G1 G2
theorem Duo.keepb {w0 w w' : World} {G1 G2 : MG} {M1 M2 : Nat} {a b : Mx} (h : Duo w0 w G1 M1 a G2 M2 b) (hb : Below w.heap.size w w') : Duo w0 w' G1 M1 a G2 M2 b := ⟨h.one.keepb hb, h.two.keepb hb, h.ap⟩
theorem Duo.to {w0 w w' : World} {G1 G2 : MG} {M1 M2 : Nat} {a a' b : Mx} (h : Duo w0 w G1 M1 a G2 M2 b) (ht : MTo w0 w w' G1 M1 a') : ∃ G', Duo w0 w' G' M1 a' G2 M2 b ∧ MKeeps w w' G1 G' := by
  obtain ⟨G', h1, hk⟩ := ht
  obtain ⟨h2, h3⟩ := h.two.other h.one h.ap hk
  exact ⟨G', ⟨h1, h2, h3⟩, hk⟩
theorem below_drewN (w : World) (n : Nat) : Below w.heap.size w (w.drewN n) := ⟨rfl, rfl, rfl, Nat.le_refl _, fun _ _ => rfl⟩
theorem tV_n (m : Mx) (t : Nat) : tV m t = (tVn m t).1 ∧ tS m t = (tVn m t).2 := by
  unfold tV tS tVn
  by_cases h : 1 ≤ t ∧ t < 17
  · rw [if_pos h, if_pos (by omega), if_pos (by omega)]; exact ⟨rfl, rfl⟩
  · rw [if_neg h, if_neg (by omega), if_neg (by omega)]; exact ⟨rfl, rfl⟩
theorem Reads32.first {w : World} {p : Option Addr} {c : Nat} {l : List Int} (h : Reads32 w (.slice p l.length c) l) {n : Nat} (hn : n ≤ l.length) : Reads32 w (.slice p n c) (l.take n) := by
  obtain ⟨h1, p', c', he, h2⟩ := h
  cases he
  have e : (l.take n).length = n := by rw [List.length_take]; omega
  refine ⟨by rw [e]; omega, p, c, by rw [e], fun h0 => ?_⟩
  rw [e] at h0
  obtain ⟨b, o, hp, hc⟩ := h2 (by omega)
  refine ⟨b, o, hp, fun k hk => ?_⟩
  rw [e] at hk
  have := hc k (by omega)
  rw [this, List.getD_eq_getElem?_getD, List.getD_eq_getElem?_getD, List.getElem?_take, if_pos hk]
theorem stop_field (a b : Value) (w : World) : (Instr.field 37 (.agg #[a, b]) 0).run Tryz.prog w = .ok a w := by kernel_rfl
theorem unlike_bel (w : World) (u v : Value) (a b : List Int) (hu : Reads32 w u a) (hv : Reads32 w v b) :
    Calls Tryz.prog 11 #[u, v] w fun e w' => e = .returned (.int .i64 (unlikeL a b : Int)) ∧ Below w.heap.size w w' :=
  (unlike_any w u v a b hu hv).mono fun e w' h => ⟨h.1, by obtain ⟨n, rfl⟩ := h.2; exact below_drewN w n⟩
theorem mout_row (w0 w : World) (G : MG) (M : Nat) (m : Mx) (h : MIs w0 w G M m) (hol : m.out.length < 4294967296) :
    Calls Tryz.prog 17 #[.pointer (some ⟨M, 0, none⟩)] w fun e w' => ∃ p c, e = .returned (.slice p m.out.length c) ∧ m.out.length ≤ c ∧ Reads32 w' (.slice p m.out.length c) m.out ∧ Below w.heap.size w w' := by
  refine (mout_any w G M m h.at' hol).mono ?_
  rintro e w' ⟨v, rfl, ho, hb⟩
  have hr := Reads32.of_own ho
  rcases ho.2 with ⟨rfl, h0⟩ | ⟨g, cap, cur, rfl, -, -, hc, -⟩
  · have e0 : m.out = [] := List.length_eq_zero_iff.1 h0
    rw [e0] at hr ⊢
    exact ⟨none, 0, rfl, Nat.le_refl _, hr, hb⟩
  · exact ⟨_, cap, rfl, hc, hr, hb⟩
set_option maxRecDepth 100000 in
set_option maxHeartbeats 8000000 in
theorem walk_MachLess (w : World) (x : StartX) (v : Value) (h : StartIn w v x) (lv : Value) (levels : List Int) (hlv : LevelsIn w lv levels) (ht : Tab w) (hbr : Bru w) :
    Calls Tryz.prog 3 #[v, lv] w fun e w' => e = .returned (.bool true) ∧ Below w.heap.size w w' := by
  have HT := mhid ht
  have HR := mhid hbr
  have HHD := mhid (fun w' hb => mhead_any w' (ht.keep hb) (hbr.keep (w' := w') hb))
  have HIN := mhid h
  obtain ⟨vw, vr, vc, hv, -⟩ := h.rows
  have HLV := mhid hlv
  obtain ⟨pl, cl, rfl⟩ : ∃ p c, lv = .slice p levels.length c := by obtain ⟨_, _, p, c, _, _, e, _⟩ := hlv; exact ⟨p, c, e⟩
  clear h ht hbr hlv
  obtain ⟨w1, hw1⟩ : ∃ w1, w1 = w.alloc (.cells (startC x.nw x.size x.pc x.q x.wim vw vr vc).toArray 28) := ⟨_, rfl⟩
  have HB1 := mhid (show Below w.heap.size w w1 from by rw [hw1]; exact (Below.refl _ _).alloc (Nat.le_refl _) _)
  have HX1 := mhid (show ARow w1 w.heap.size 28 (startC x.nw x.size x.pc x.q x.wim vw vr vc) from by rw [hw1]; exact ARow.fresh w _ _)
  have HSZ := mhid (show (Tryz.prog.info? 28).map (·.size) = some (startC x.nw x.size x.pc x.q x.wim vw vr vc).toArray.size from by kernel_rfl)
  subst hv
  go_enter Tryz.func3, Tryz.ntmps3
  go_wp2_with (refine wpList_load_row rfl 28 (.tmp 2) rfl w.heap.size rfl 28 _ (0, 0) _ (heap_alloc_new w _) Tryz.underlying28 rfl HSZ.out ?_)
  rw [show w.alloc (.cells (startC x.nw x.size x.pc x.q x.wim vw vr vc).toArray 28) = w1 from hw1.symm]
  clear hw1
  refine (great_any w1 x _ (HIN.out.keepb HB1.out)).mono ?_
  rintro e w2 ⟨rfl, hb2⟩
  have HX := mhid (HX1.out.below hb2)
  have HB2 := mhid (hb2)
  have HBW := mhid (HB1.out.trans (hb2.mono HB1.out.size))
  clear hb2
  by_cases hgr : greatP x
  · rw [decide_eq_true hgr]
    go_wp2_with fail
    refine (HHD.out _ HBW.out).mono ?_
    rintro e w3 ⟨rfl, hb3⟩
    go_wp2_with fail
    go_ret
    exact ⟨rfl, HBW.out.trans (hb3.mono HBW.out.size)⟩
  rw [decide_eq_false hgr]
  have HGR := mhid hgr
  have HCH := mhid (show x.ch.length ≤ 40 from by have h3 := hgr; unfold greatP at h3; omega)
  clear hgr
  by_cases h40 : 40 < levels.length
  · have d1 : decide ((40 : Int) < levels.length) = true := decide_eq_true (by omega)
    have d2 : (40 : Int) < levels.length := by omega
    go_wp2_with fail
    refine (HHD.out _ HBW.out).mono ?_
    rintro e w3 ⟨rfl, hb3⟩
    go_wp2_with fail
    go_ret
    exact ⟨rfl, HBW.out.trans (hb3.mono HBW.out.size)⟩
  have d1 : decide ((40 : Int) < levels.length) = false := decide_eq_false (by omega)
  have d2 : ¬ ((40 : Int) < levels.length) := by omega
  go_wp2_with (refine wpList_load_row rfl 28 (.tmp 2) rfl w.heap.size rfl 28 _ (0, 0) _ HX.out Tryz.underlying28 rfl HSZ.out ?_)
  by_cases hmy : mayP6 x
  rotate_left
  · refine (made_no w2 x _ ((HIN.out.keepb HB1.out).keepb HB2.out) hmy).mono ?_
    rintro e w3 ⟨rfl, hb3⟩
    have HBW := mhid (HBW.out.trans (hb3.mono HBW.out.size))
    have HBW := mhid (HBW.out.trans ((below_setRow ((Below.refl _ w3).alloc (Nat.le_refl _) (.cells qZ.toArray 39)) (Nat.le_refl _) qZ.toArray).mono HBW.out.size))
    go_wp2_with (refine wpList_store_row rfl 39 (.tmp 6) (.tmp 45) rfl w3.heap.size qZ.toArray rfl rfl 39 qZ.toArray (heap_alloc_new w3 _) q_size rfl qZ_one ?_)
    refine (HHD.out _ HBW.out).mono ?_
    rintro e w7 ⟨rfl, hb7⟩
    go_wp2_with fail
    go_ret
    exact ⟨rfl, HBW.out.trans (hb7.mono HBW.out.size)⟩
  refine (made_ok w2 x _ ((HIN.out.keepb HB1.out).keepb HB2.out) hmy HGR.out (HR.out.keep HBW.out)).mono ?_
  rintro e w3 ⟨M1, G1, P, rfl, hM, hQ, -⟩
  have HMX := mhid (And.intro (made_run x) (made_ch x))
  have HQO := mhid (show (qC P (madeM x)).toArray.all (·.oneCell') = true from hQ.one)
  obtain ⟨m0, hm0⟩ : ∃ m0, m0 = madeM x := ⟨_, rfl⟩
  rw [← hm0] at hM HMX HQO
  obtain ⟨w4, hw4⟩ : ∃ w4, w4 = (w3.alloc (.cells qZ.toArray 39)).setRow w3.heap.size (qC P m0).toArray := ⟨_, rfl⟩
  have hb4 : Below w3.heap.size w3 w4 := by rw [hw4]; exact below_setRow ((Below.refl _ _).alloc (Nat.le_refl _) _) (Nat.le_refl _) _
  have hrow : ARow w4 w3.heap.size 39 (qC P m0) := by rw [hw4]; exact (ARow.fresh w3 39 qZ.toArray).setRow _
  have HM := mhid (hM.keepb hb4)
  have HC := mhid (show CBox w4 G1 w3.heap.size (.int .i64 m0.f.nw) from ⟨hrow.cell (k := 0) rfl, by
    by_cases e : G1.R w3.heap.size = .none
    · exact e
    · have := hM.at'.lt _ e; omega⟩)
  have HW4 := mhid hw4
  have HNW := mhid (show m0.f.nw ≤ 32 from hM.at'.ok.f.nw32)
  have HL := mhid (show LevelsIn w2 (.slice pl levels.length cl) levels from HLV.out.keepb HBW.out)
  rw [← hm0]
  clear hw4 hM hQ hb4 hrow hm0
  go_wp2_with (refine wpList_store_row rfl 39 (.tmp 6) (.tmp 45) rfl w3.heap.size (qC P m0).toArray rfl rfl 39 qZ.toArray (heap_alloc_new w3 _) q_size rfl HQO.out ?_; generalize hg : World.setRow _ _ _ = w5; obtain rfl : w5 = w4 := (by rw [← hg, HW4.out]; rfl); clear hg)
  clear HW4 HQO
  generalize w3.heap.size = qb at HC ⊢
  obtain ⟨hlm, hlb, pl', cl', lb, lo, hle, hlp, hla⟩ := HL.out
  cases hle
  have HLA := mhid (And.intro hlb (And.intro hlp hla))
  clear hlb hlp hla hlm HL
  go_loopw [7] (fun s wr => ∃ k : Nat, s = .int .i64 (k : Int) ∧ k ≤ levels.length ∧ ∃ G, Hid (MIs w2 wr G M1 (runL m0 levels k)) ∧ Hid (CBox wr G qb (.int .i64 m0.f.nw)) ∧ Hid ((runL m0 levels k).ch.length ≤ m0.ch.length ∧ (runL m0 levels k).f.nw = m0.f.nw)) (fun s _ => levels.length - (intOf s).toNat)
  case atStart => exact ⟨0, rfl, Nat.zero_le _, G1, mhid HM.out, mhid HC.out, mhid ⟨Nat.le_refl _, rfl⟩⟩
  case round =>
    obtain ⟨k, rfl, hk, G3, hM, hC, hcn⟩ := hrel
    have HM := mhid hM.out
    have HC := mhid hC.out
    have HCN := mhid hcn.out
    clear hM hC hcn
    by_cases hlt : k < levels.length
    rotate_left
    · have c1 : ¬ ((k : Int) < (levels.length : Int)) := by omega
      have HBE := mhid (HBW.out.trans (HM.out.bel.mono HBW.out.size))
      go_wp2_with fail
      refine (HHD.out _ HBE.out).mono ?_
      rintro e w99 ⟨rfl, hb99⟩
      go_wp2_with fail
      go_ret
      exact ⟨rfl, HBE.out.trans (hb99.mono HBE.out.size)⟩
    have c1 : (k : Int) < (levels.length : Int) := by omega
    obtain ⟨lev, hlev⟩ : ∃ r, levels[k]? = some r := ⟨_, List.getElem?_eq_getElem hlt⟩
    have hpe := HLA.out.2.1 (by omega)
    subst hpe
    have HLC := mhid (show ∀ W, Below w2.heap.size w2 W → W.cell? ⟨lb, lo + k, none⟩ = some (.int .u8 lev) from fun W hb => (hb.cell (p := ⟨lb, lo + k, none⟩) (World.block_lt_of_cell? _ _ (HLA.out.2.2 k lev hlev))).trans (HLA.out.2.2 k lev hlev))
    have HLB := mhid (HLA.out.1 lev (List.mem_of_getElem? hlev))
    have HRL := mhid (show runL m0 levels (k + 1) = stepM (runL m0 levels k) lev from by show stepM _ (levels.getD k 0) = _; rw [List.getD_eq_getElem?_getD, hlev]; rfl)
    have HOL := mhid (show (runL m0 levels k).out.length ≤ 40 from by have := runL_out m0 levels k; rw [HMX.out.1.2] at this; simp at this; omega)
    clear hlev
    obtain ⟨a, ha⟩ : ∃ a, a = runL m0 levels k := ⟨_, rfl⟩
    rw [← ha] at HM HRL HCN HOL
    clear ha
    obtain ⟨b, hb⟩ : ∃ b, b = stepM a lev := ⟨_, rfl⟩
    rw [← hb] at HRL
    have HNR := mhid (show Near a b from by rw [hb]; exact stepM_near a lev)
    have HST := mhid (show a.kind ≠ 0 → b = a from fun hk => by rw [hb]; exact stepM_still hk lev)
    have HBB := mhid hb
    have HCB := mhid (show b.ch.length ≤ m0.ch.length ∧ b.f.nw = m0.f.nw from ⟨Nat.le_trans (by rw [hb]; exact stepM_ch a lev) HCN.out.1, HNR.out.nw.trans HCN.out.2⟩)
    clear hb
    go_wp2_with fail
    refine (mw_copy w2 wr G3 M1 _ HM.out (by have h1 := HCN.out.1; have h2 := HCH.out; rw [HMX.out.2] at h1; omega) (by have := HOL.out; omega)).mono ?_
    rintro e w5 ⟨M2, G4, rfl, hW5, hM5, hap, hnew, hb5⟩
    have HP := mhid (show Duo w2 w5 G3 M1 a G4 M2 a from ⟨hM5, hW5, hap⟩)
    have HC := mhid (HC.out.keepb hb5)
    clear hW5 hM5 hap hnew hb5
    have hc0 := HLC.out _ HP.out.one.bel
    go_wp2_with fail
    have hst := mw_step w2 w5 G3 M1 a HP.out.one (HT.out.keep HBW.out) (HR.out.keep HBW.out) lev HLB.out.1 HLB.out.2 (by have := HOL.out; omega)
    rw [← HBB.out] at hst
    refine hst.mono ?_
    rintro e w6 ⟨rfl, hto⟩
    obtain ⟨G5, hp, hkk⟩ := HP.out.to hto
    have HP := mhid hp
    have HC := mhid (HC.out.to hkk)
    clear hto hp hkk hst hc0
    go_wp2_with fail
    -- the windows
    go_loopw [9, 12] (fun s i wr => ∃ j c : Nat, i = .int .i64 (j : Int) ∧ s = .int .i64 (c : Int) ∧ j ≤ m0.f.nw ∧ c ≤ 1 ∧ Hid (c = winsN a.f b.f j) ∧ Hid (Duo w2 wr G5 M1 b G4 M2 a) ∧ Hid (CBox wr G5 qb (.int .i64 m0.f.nw))) (fun _ i _ => m0.f.nw - (intOf i).toNat)
    case atStart => exact ⟨0, 0, rfl, rfl, Nat.zero_le _, by omega, mhid rfl, mhid HP.out, mhid HC.out⟩
    case round =>
      obtain ⟨j, c, rfl, rfl, hj, hc1, hcw, hP, hC⟩ := hrel
      have HP := mhid hP.out
      have HC := mhid hC.out
      have HCW := mhid hcw.out
      clear hP hC hcw
      have x0 := HC.out.c
      have hnw := HNW.out
      by_cases hjn : j < m0.f.nw
      · have g1 : (j : Int) < (m0.f.nw : Int) := by omega
        go_wp2_with fail
        refine (mfile_any wr G4 M2 _ HP.out.two.at').mono ?_
        rintro e w' ⟨rfl, rfl⟩
        go_wp2_with fail
        refine (mw_win w2 wr G4 M2 _ HP.out.two j).mono ?_
        rintro e w7 ⟨va, rfl, hva, hbp⟩
        obtain ⟨pa, na, ca, rfl⟩ := hva.1.shape'
        have HVA := mhid hva.1
        have HP := mhid (HP.out.keepb hbp)
        have HC := mhid (HC.out.keepb hbp)
        clear hbp hva x0
        go_wp2_with fail
        refine (mfile_any w7 G5 M1 _ HP.out.one.at').mono ?_
        rintro e w' ⟨rfl, rfl⟩
        go_wp2_with fail
        refine (mw_win w2 w7 G5 M1 _ HP.out.one j).mono ?_
        rintro e w8 ⟨vb, rfl, hvb, hbp⟩
        obtain ⟨pb, nb, cb, rfl⟩ := hvb.1.shape'
        have HVA := mhid (HVA.out.keepb hbp)
        have HVB := mhid hvb.1
        have HP := mhid (HP.out.keepb hbp)
        have HC := mhid (HC.out.keepb hbp)
        clear hbp hvb
        go_wp2_with fail
        refine (unlike_any w8 _ _ _ _ HVA.out HVB.out).mono ?_
        rintro e w9 ⟨rfl, n9, rfl⟩
        have HP := mhid (HP.out.keepb (below_drewN w8 n9))
        have HC := mhid (HC.out.keepb (below_drewN w8 n9))
        have HCW2 := mhid (show c + unlikeL (winV a.f j) (winV b.f j) = winsN a.f b.f (j + 1) from by rw [HCW.out]; rfl)
        have HCB1 := mhid (near_regs HNR.out (j + 1) 0).2.1
        generalize unlikeL (winV a.f j) (winV b.f j) = u at HCW2 ⊢
        have hu1 : c + u ≤ 1 := by rw [HCW2.out]; exact HCB1.out
        clear HVA HVB
        go_wp2_with fail
        exact ⟨⟨j + 1, c + u, by go_num, by go_num, by omega, hu1, mhid HCW2.out, mhid HP.out, mhid HC.out⟩, by simp only [intOf]; omega⟩
      obtain rfl : j = m0.f.nw := by omega
      have g1 : ¬ ((m0.f.nw : Int) < (m0.f.nw : Int)) := by omega
      go_wp2_with fail
      clear x0
      -- the banks
      go_loopw [10, 11, 17] (fun s t i wr => ∃ j g h : Nat, i = .int .i64 (j : Int) ∧ s = .int .i64 (g : Int) ∧ t = .int .i64 (h : Int) ∧ j ≤ 17 ∧ g ≤ 1 ∧ h ≤ 1 ∧ Hid (g = glosN a.f b.f j ∧ h = banksN a b j) ∧ Hid (Duo w2 wr G5 M1 b G4 M2 a) ∧ Hid (CBox wr G5 qb (.int .i64 m0.f.nw))) (fun _ _ i _ => 17 - (intOf i).toNat)
      case atStart => exact ⟨0, 0, 0, rfl, rfl, rfl, by omega, by omega, by omega, mhid ⟨rfl, rfl⟩, mhid HP.out, mhid HC.out⟩
      case round =>
        obtain ⟨t, g, h, rfl, rfl, rfl, ht, hg1, hh1, hgh, hP, hC⟩ := hrel
        have HP := mhid hP.out
        have HC := mhid hC.out
        have HGH := mhid hgh.out
        clear hP hC hgh
        by_cases ht17 : t < 17
        · have g2 : (t : Int) ≤ 16 := by omega
          go_wp2_with fail
          go_loopw [10, 18] (fun s i wr => ∃ r c2 : Nat, i = .int .i64 (r : Int) ∧ s = .int .i64 (c2 : Int) ∧ r ≤ 8 ∧ c2 ≤ 1 ∧ Hid (c2 = g + cntN (glosB a.f b.f t) r) ∧ Hid (Duo w2 wr G5 M1 b G4 M2 a) ∧ Hid (CBox wr G5 qb (.int .i64 m0.f.nw))) (fun _ i _ => 8 - (intOf i).toNat)
          case atStart => exact ⟨0, g, rfl, rfl, by omega, hg1, mhid rfl, mhid HP.out, mhid HC.out⟩
          case round =>
            obtain ⟨r, c2, rfl, rfl, hr, hc2, hcc, hP, hC⟩ := hrel
            have HP := mhid hP.out
            have HC := mhid hC.out
            have HCC := mhid hcc.out
            clear hP hC hcc
            by_cases hr8 : r < 8
            · have g3 : (r : Int) < 8 := by omega
              go_wp2_with fail
              refine (mfile_any wr G4 M2 _ HP.out.two.at').mono ?_
              rintro e w' ⟨rfl, rfl⟩
              go_wp2_with fail
              refine (fget_any wr G4.F G4.Wb G4.wc _ HP.out.two.at'.file 0 (t : Int) (r : Int)).mono ?_
              rintro e w7 ⟨rfl, n7, rfl⟩
              have HP := mhid (HP.out.keepb (below_drewN wr n7))
              have HC := mhid (HC.out.keepb (below_drewN wr n7))
              go_wp2_with fail
              refine (mfile_any _ G5 M1 _ HP.out.one.at').mono ?_
              rintro e w' ⟨rfl, rfl⟩
              go_wp2_with fail
              refine (fget_any _ G5.F G5.Wb G5.wc _ HP.out.one.at'.file 0 (t : Int) (r : Int)).mono ?_
              rintro e w8 ⟨rfl, n8, rfl⟩
              have HP := mhid (HP.out.keepb (below_drewN (wr.drewN n7) n8))
              have HC := mhid (HC.out.keepb (below_drewN (wr.drewN n7) n8))
              have HGB := mhid (show glosB a.f b.f t r = neB (getV a.f 0 t r) (getV b.f 0 t r) from rfl)
              have HSTEP := mhid (show ∀ d : Nat, d = (if glosB a.f b.f t r = true then c2 + 1 else c2) → d = g + cntN (glosB a.f b.f t) (r + 1) ∧ d ≤ 1 from fun d hd => by
                have e1 : d = g + cntN (glosB a.f b.f t) (r + 1) := by
                  show d = g + (cntN (glosB a.f b.f t) r + (if glosB a.f b.f t r = true then 1 else 0))
                  rw [hd, HCC.out]
                  split <;> omega
                refine ⟨e1, ?_⟩
                have := near_part HNR.out t (r + 1) (by omega)
                rw [HGH.out.1] at e1
                omega)
              generalize getV a.f 0 t r = X at HGB ⊢
              generalize getV b.f 0 t r = Y at HGB ⊢
              generalize (wr.drewN n7).drewN n8 = w9 at HP HC ⊢
              by_cases hxy : X = Y
              · subst hxy
                have HD := mhid (HSTEP.out c2 (by rw [HGB.out, neB_self]; rfl))
                go_wp2_with fail
                exact ⟨⟨r + 1, c2, by go_num, rfl, by omega, hc2, mhid HD.out.1, mhid HP.out, mhid HC.out⟩, by simp only [intOf]; omega⟩
              · have hb0 : (X == Y) = false := by rw [beq_eq_false_iff_ne]; exact hxy
                have HD := mhid (HSTEP.out (c2 + 1) (by rw [HGB.out]; unfold neB; rw [hb0]; rfl))
                go_wp2_with fail
                exact ⟨⟨r + 1, c2 + 1, by go_num, by go_num, by omega, HD.out.2, mhid HD.out.1, mhid HP.out, mhid HC.out⟩, by simp only [intOf]; omega⟩
            obtain rfl : r = 8 := by omega
            have HG1 := mhid (show c2 = glosN a.f b.f (t + 1) from by rw [HCC.out, HGH.out.1]; rfl)
            clear HCC
            go_wp2_with fail
            have htv := tV_n a t
            refine (mt_any wr G4 M2 _ HP.out.two.at' (t : Int)).mono ?_
            rintro e w7 ⟨rfl, n7, rfl⟩
            rw [htv.1, htv.2]
            have HP := mhid (HP.out.keepb (below_drewN wr n7))
            have HC := mhid (HC.out.keepb (below_drewN wr n7))
            clear htv
            go_wp2_with fail
            have htv := tV_n b t
            refine (mt_any _ G5 M1 _ HP.out.one.at' (t : Int)).mono ?_
            rintro e w8 ⟨rfl, n8, rfl⟩
            rw [htv.1, htv.2]
            have HP := mhid (HP.out.keepb (below_drewN (wr.drewN n7) n8))
            have HC := mhid (HC.out.keepb (below_drewN (wr.drewN n7) n8))
            clear htv
            have HBK := mhid (show bankB a b t = (neB (tVn a t).1 (tVn b t).1 || neB (tVn a t).2 (tVn b t).2) from rfl)
            have HSTEP := mhid (show ∀ d : Nat, d = (if bankB a b t = true then h + 1 else h) → d = banksN a b (t + 1) ∧ d ≤ 1 from fun d hd => by
              have e1 : d = banksN a b (t + 1) := by
                show d = cntN (bankB a b) t + (if bankB a b t = true then 1 else 0)
                rw [hd, HGH.out.2]
                unfold banksN
                split <;> omega
              exact ⟨e1, by rw [e1]; exact near_banks HNR.out _⟩)
            generalize (tVn a t).1 = X at HBK ⊢
            generalize (tVn b t).1 = Y at HBK ⊢
            generalize (tVn a t).2 = X2 at HBK ⊢
            generalize (tVn b t).2 = Y2 at HBK ⊢
            generalize tE (t : Int) = er
            generalize (wr.drewN n7).drewN n8 = w9 at HP HC ⊢
            by_cases hxy : X = Y
            · subst hxy
              by_cases hxy2 : X2 = Y2
              · subst hxy2
                have HD := mhid (HSTEP.out h (by rw [HBK.out, neB_self, neB_self]; rfl))
                go_wp2_with fail
                go_roundw
                case rel => exact ⟨t + 1, c2, h, by go_num, rfl, rfl, by omega, hc2, HD.out.2, mhid ⟨HG1.out, HD.out.1⟩, mhid HP.out, mhid HC.out⟩
                case measure => simp only [intOf]; omega
              · have hb0 : (X2 == Y2) = false := by rw [beq_eq_false_iff_ne]; exact hxy2
                have HD := mhid (HSTEP.out (h + 1) (by rw [HBK.out, neB_self]; unfold neB; rw [hb0]; rfl))
                go_wp2_with fail
                go_roundw
                case rel => exact ⟨t + 1, c2, h + 1, by go_num, rfl, by go_num, by omega, hc2, HD.out.2, mhid ⟨HG1.out, HD.out.1⟩, mhid HP.out, mhid HC.out⟩
                case measure => simp only [intOf]; omega
            · have hb0 : (X == Y) = false := by rw [beq_eq_false_iff_ne]; exact hxy
              have HD := mhid (HSTEP.out (h + 1) (by rw [HBK.out]; unfold neB; rw [hb0]; rfl))
              go_wp2_with fail
              go_roundw
              case rel => exact ⟨t + 1, c2, h + 1, by go_num, rfl, by go_num, by omega, hc2, HD.out.2, mhid ⟨HG1.out, HD.out.1⟩, mhid HP.out, mhid HC.out⟩
              case measure => simp only [intOf]; omega
        obtain rfl : t = 17 := by omega
        have g4 : ¬ (((17 : Nat) : Int) ≤ 16) := by omega
        have g5 : decide (((17 : Nat) : Int) ≤ 16) = false := decide_eq_false g4
        go_wp2_with fail
        -- the memory
        obtain ⟨L, hL⟩ : ∃ L, L = a.mem.length := ⟨_, rfl⟩
        have hLm : L ≤ 4194304 := by rw [hL]; exact HP.out.two.at'.ok.mlen
        have HLa := mhid hL.symm
        have HLb := mhid ((near_len HNR.out).trans hL.symm)
        clear hL
        have q4 : (L : Int).tdiv 4 = (L : Int) / 4 := Int.tdiv_eq_ediv_of_nonneg (by omega)
        have q7 : IntKind.i64.wrap ((L : Int) / 4) = (L : Int) / 4 := IntWalk.i64_in _ (by omega)
        refine (mmem_any wr G4 M2 _ HP.out.two.at').mono ?_
        rintro e w' ⟨rfl, rfl⟩
        go_wp2_with fail
        refine (mmem_any wr G4 M2 _ HP.out.two.at').mono ?_
        rintro e w' ⟨rfl, rfl⟩
        go_wp2_with fail
        refine (size_any wr G4.mB G4.gB _ HP.out.two.at'.mem).mono ?_
        rintro e w' ⟨rfl, rfl⟩
        rw [HLa.out]
        go_wp2_with fail
        refine (mw_words w2 wr G4 M2 a HP.out.two ((L : Int) / 4) (by omega)).mono ?_
        rintro e w7 ⟨va, la, rfl, hla, hva, hbp⟩
        obtain ⟨pa, na, ca, rfl⟩ := hva.1.shape'
        have HVA := mhid hva.1
        have HAL := mhid hla
        have HP := mhid (HP.out.keepb hbp)
        have HC := mhid (HC.out.keepb hbp)
        clear hbp hva hla
        go_wp2_with fail
        refine (mmem_any w7 G5 M1 _ HP.out.one.at').mono ?_
        rintro e w' ⟨rfl, rfl⟩
        go_wp2_with fail
        refine (mmem_any w7 G5 M1 _ HP.out.one.at').mono ?_
        rintro e w' ⟨rfl, rfl⟩
        go_wp2_with fail
        refine (size_any w7 G5.mB G5.gB _ HP.out.one.at'.mem).mono ?_
        rintro e w' ⟨rfl, rfl⟩
        rw [HLb.out]
        go_wp2_with fail
        refine (mw_words w2 w7 G5 M1 b HP.out.one ((L : Int) / 4) (by omega)).mono ?_
        rintro e w8 ⟨vb, lb', rfl, hlb', hvb, hbp⟩
        obtain ⟨pb, nb, cb, rfl⟩ := hvb.1.shape'
        have HVA := mhid (HVA.out.keepb hbp)
        have HVB := mhid hvb.1
        have HP := mhid (HP.out.keepb hbp)
        have HC := mhid (HC.out.keepb hbp)
        have HU1 := mhid (show unlikeL la lb' ≤ 1 ∧ (a.kind ≠ 0 → unlikeL la lb' = 0) from by
          rw [HAL.out, hlb', HLa.out, HLb.out]
          split
          · exact ⟨near_words HNR.out _, fun hk => by rw [HST.out hk, unl_same]⟩
          · rw [unl_same]; exact ⟨by omega, fun _ => rfl⟩)
        clear hbp hvb hlb' HAL q4 q7
        have HUN := mhid (fun W (hb : Below w8.heap.size w8 W) => unlike_bel W _ _ _ _ (HVA.out.keepb hb) (HVB.out.keepb hb))
        generalize unlikeL la lb' = u at HU1 HUN
        have hu1 := HU1.out.1
        have HZ := mhid (show a.kind ≠ 0 → c = 0 ∧ g = 0 ∧ h = 0 ∧ u = 0 from fun hk => by
          have e := HST.out hk
          have h1 := HCW.out
          have h2 := HGH.out
          rw [e] at h1 h2
          rw [(still_regs a.f m0.f.nw 0).1] at h1
          rw [(still_regs a.f 0 17).2, still_banks] at h2
          exact ⟨h1, h2.1, h2.2, HU1.out.2 hk⟩)
        have hcg : c + g ≤ 1 := by
          have := (near_regs HNR.out m0.f.nw 17).1
          rw [HCW.out, HGH.out.1]; exact this
        have HOO := mhid (near_out_len HNR.out)
        have HOM := mhid (fun W (hb : Below w8.heap.size w8 W) => mout_row w2 W G5 M1 b (HP.out.keepb hb).one (by have := HOO.out.2.1; have := HOL.out; omega))
        have HOW := mhid (fun W (hb : Below w8.heap.size w8 W) => mout_row w2 W G4 M2 a (HP.out.keepb hb).two (by have := HOL.out; omega))
        clear HVA HVB HU1 HCW HGH hnw
        have e1 : decide ((1 : Int) < (c : Int)) = false := decide_eq_false (by omega)
        have e2 : decide ((1 : Int) < (g : Int)) = false := decide_eq_false (by omega)
        have e3 : decide ((1 : Int) < (c : Int) + (g : Int)) = false := decide_eq_false (by omega)
        have e4 : decide ((1 : Int) < (h : Int)) = false := decide_eq_false (by omega)
        have e5 : decide ((1 : Int) < (u : Int)) = false := decide_eq_false (by omega)
        have e6 : decide ((a.out.length : Int) + 1 < (b.out.length : Int)) = false := decide_eq_false (by have := HOO.out.2.1; omega)
        have e7 : decide ((b.out.length : Int) < (a.out.length : Int)) = false := decide_eq_false (by have := HOO.out.1; omega)
        have e7' : decide (b.out.length < a.out.length) = false := decide_eq_false (by have := HOO.out.1; omega)
        have e6' : decide (a.out.length + 1 < b.out.length) = false := decide_eq_false (by have := HOO.out.2.1; omega)
        have w1' : IntKind.i64.wrap ((c : Int) + (g : Int)) = (c : Int) + (g : Int) := IntWalk.i64_in _ (by omega)
        have w2' : IntKind.i64.wrap ((a.out.length : Int) + 1) = (a.out.length : Int) + 1 := IntWalk.i64_in _ (by have := HOL.out; omega)
        have hol1 := HOL.out
        have hbo := HOO.out.1
        go_upto_region 34 with (fail)
        go_cut [213] from 161 to 236 (fun t wx => t = .bool false ∧ Hid (Duo w2 wx G5 M1 b G4 M2 a) ∧ Hid (CBox wx G5 qb (.int .i64 m0.f.nw)) ∧ Hid (Below w8.heap.size w8 wx))
        case first =>
          as_aux_lemma =>
            have hbW : Below w8.heap.size w8 w8.drew := (Below.refl _ _).drew
            have h0i : (0 : Int) ≤ (a.out.length : Int) := by omega
            go_region_held3 (fun w' => True) (trivial)
              (first
                | (go_at_call 11; (with_reducible refine (HUN.out _ hbW).mono ?_); rintro e Wn ⟨rfl, hb⟩; have hbW := hbW.trans (hb.mono hbW.size); clear hb)
                | (go_at_call 17; (with_reducible refine (HOM.out _ hbW).mono ?_); rintro e Wn ⟨pm, cm, rfl, hcm, hr, hb⟩; (try have rw1 := rw1.keepb hb); (try have rw2 := rw2.keepb hb); have rm := hr; have hci := Int.ofNat_le.2 (Nat.le_trans hbo hcm); have hbW := hbW.trans (hb.mono hbW.size); clear hr hb)
                | (go_at_call 17; (with_reducible refine (HOW.out _ hbW).mono ?_); rintro e Wn ⟨pw, cw, rfl, hcw, hr, hb⟩; (try have rm := rm.keepb hb); (try have rw1 := rw2.keepb hb); have rw2 := hr; have hbW := hbW.trans (hb.mono hbW.size); clear hr hb)
                | (go_at_call 18; (first | (refine (same_any _ _ _ _ _ (rm.first hbo) rw2).mono ?_) | (refine (same_any _ _ _ _ _ (rm.first hbo) rw1).mono ?_)); rintro e Wn ⟨rfl, hb⟩; rw [decide_eq_true HOO.out.2.2]; have hbW := hbW.trans (hb.mono hbW.size)))
            all_goals go_wp2_with fail
            all_goals go_meet
            all_goals exact ⟨rfl, mhid (HP.out.keepb hbW), mhid (HC.out.keepb hbW), mhid hbW⟩
        case rest =>
          as_aux_lemma =>
            obtain ⟨rfl, hP, hC, hbw⟩ := hcut
            obtain ⟨wz, rfl⟩ : ∃ W, W = wc := ⟨_, rfl⟩
            have HP := mhid hP.out
            have HC := mhid hC.out
            have HBZ := mhid hbw.out
            clear hP hC hbw HOM HOW e1 e2 e3 e4 e5 e6 e7 e6' e7' w1' w2'
            go_wp2_with fail
            obtain ⟨q, hq⟩ : ∃ q, q = a.kind := ⟨_, rfl⟩
            have hms := mstop_any wz G4 M2 a HP.out.two.at'
            rw [← hq] at hms
            have HQ := mhid hq
            clear hq
            refine hms.mono ?_
            rintro e wa ⟨rfl, hbp⟩
            have HP := mhid (HP.out.keepb hbp)
            have HC := mhid (HC.out.keepb hbp)
            have HBZ := mhid (HBZ.out.trans (hbp.mono HBZ.out.size))
            clear hbp hms
            by_cases hk0 : q = 0
            · subst hk0
              have hsf := fun W => stop_field (.int .u8 0) (.int .u32 a.v) W
              go_wp2_with fail
              go_roundw
              case rel => exact ⟨k + 1, by go_num, by omega, G5, mhid (by rw [HRL.out]; exact HP.out.one), mhid HC.out, mhid (by rw [HRL.out]; exact HCB.out)⟩
              case measure => simp only [intOf]; omega
            · have hsf := fun W => stop_field (.int .u8 q) (.int .u32 a.v) W
              have kb : (q == 0) = false := by rw [beq_eq_false_iff_ne]; exact hk0
              have kd : decide (q = 0) = false := decide_eq_false hk0
              obtain ⟨rfl, rfl, rfl, rfl⟩ := HZ.out (fun h0 => hk0 (HQ.out.trans h0))
              have HPC := mhid (show b.pc = a.pc from by rw [HST.out (fun h0 => hk0 (HQ.out.trans h0))])
              go_wp2_with fail
              refine (HUN.out wa HBZ.out).mono ?_
              rintro e wb ⟨rfl, hbp⟩
              have HP := mhid (HP.out.keepb hbp)
              have HC := mhid (HC.out.keepb hbp)
              clear hbp
              go_wp2_with fail
              refine (mpc_any wb G5 M1 _ HP.out.one.at').mono ?_
              rintro e w' ⟨rfl, rfl⟩
              rw [HPC.out]
              go_wp2_with fail
              refine (mpc_any wb G4 M2 _ HP.out.two.at').mono ?_
              rintro e w' ⟨rfl, rfl⟩
              go_wp2_with fail
              go_roundw
              case rel => exact ⟨k + 1, by go_num, by omega, G5, mhid (by rw [HRL.out]; exact HP.out.one), mhid HC.out, mhid (by rw [HRL.out]; exact HCB.out)⟩
              case measure => simp only [intOf]; omega
end Go.Proofs.YtgdebchbdmogcaaGreatDoor
namespace Go.Proofs.YtgdebchbdmogcaaGreatDoor.machLessP
open Go.ChangeShapes Go.WideShapes Go.ChangeAt Go.RowKit
set_option linter.unusedVariables false
theorem own : ownKnob Tryz.prog.godebug = none := by kernel_rfl
theorem laidOut : laidOutB Tryz.prog = true := by kernel_rfl
theorem gTab : Tryz.prog.globalNamed "muntin/inst.fields" = some 1 := by kernel_rfl
theorem gTabType : (Tryz.prog.globals[1]?).map (·.type) = some 172 := by kernel_rfl
theorem cellsTab : Tryz.prog.cellsOf 172 = 38 := by kernel_rfl
theorem cellsU8 : Tryz.prog.cellsOf 5 = 1 := by kernel_rfl
theorem gBru : Tryz.prog.globalNamed "math/bits.deBruijn32tab" = some 0 := by kernel_rfl
theorem gBruType : (Tryz.prog.globals[0]?).map (·.type) = some 171 := by kernel_rfl
theorem cellsBru : Tryz.prog.cellsOf 171 = 32 := by kernel_rfl
theorem keepF : (Rows.machLessRow.laid.filter fun e => e.1 == "muntin/inst.fields") = [("muntin/inst.fields", Lib.tabData .u8 [128, 7, 7, 7, 7, 7, 7, 7, 7, 7, 7, 7, 7, 7, 7, 25, 6, 25, 24, 7, 7, 7, 7, 7, 7, 7, 1, 6, 1, 6, 9, 10, 0, 8, 1, 2, 2, 8])] := by kernel_rfl
theorem keepB : (Rows.machLessRow.laid.filter fun e => e.1 == "math/bits.deBruijn32tab") = [("math/bits.deBruijn32tab", Lib.tabData .u8 [0, 1, 28, 2, 29, 14, 24, 3, 30, 22, 20, 15, 25, 17, 4, 8, 31, 27, 13, 23, 21, 19, 16, 7, 26, 12, 18, 6, 11, 5, 10, 9])] := by kernel_rfl
/-- What the row's list gives: the tables' cells hold their numbers. -/
theorem table {W : World} (h : laidMetH Tryz.prog Rows.machLessRow.laid W) : Lib.TabIs Tryz.prog W "muntin/inst.fields" .u8 [128, 7, 7, 7, 7, 7, 7, 7, 7, 7, 7, 7, 7, 7, 7, 25, 6, 25, 24, 7, 7, 7, 7, 7, 7, 7, 1, 6, 1, 6, 9, 10, 0, 8, 1, 2, 2, 8] := by
  have h1 := h.filter (fun e => e.1 == "muntin/inst.fields")
  rw [keepF] at h1
  exact Lib.tabIs_of_head (rest := []) gTab gTabType Tryz.underlying172 Tryz.underlying5 cellsU8 cellsTab h1
theorem tabW {W : World} (h : laidMetH Tryz.prog Rows.machLessRow.laid W) : Tab W :=
  tab_of (fun i hi => (table h).cell gTab i hi)
theorem tableB {W : World} (h : laidMetH Tryz.prog Rows.machLessRow.laid W) : Lib.TabIs Tryz.prog W "math/bits.deBruijn32tab" .u8 [0, 1, 28, 2, 29, 14, 24, 3, 30, 22, 20, 15, 25, 17, 4, 8, 31, 27, 13, 23, 21, 19, 16, 7, 26, 12, 18, 6, 11, 5, 10, 9] := by
  have h1 := h.filter (fun e => e.1 == "math/bits.deBruijn32tab")
  rw [keepB] at h1
  exact Lib.tabIs_of_head (rest := []) gBru gBruType Tryz.underlying171 Tryz.underlying5 cellsU8 cellsBru h1
theorem bruW {W : World} (h : laidMetH Tryz.prog Rows.machLessRow.laid W) : Bru W :=
  bru_of (fun i hi => (tableB h).cell gBru i hi)
set_option maxRecDepth 100000 in
theorem contract (H : Type) (enc : TypeId × Value → H) (W : World) (base : Nat) (args : Array Value) (ds gs : List (DataW H)) (before : List MemPlace)
    (hval0 : ∀ (j : Nat) t v, Tryz.f3.params[j]? = some t → args[j]? = some v → Value.okWide Tryz.prog W .any base t v)
    (hW : DataW.Whole enc Tryz.prog Tryz.f3.params.toList Rows.machLessSpec.vars false W args.toList ds gs before) (hL : laidMetH Tryz.prog Rows.machLessRow.laid W) :
    Calls Tryz.prog 3 args W fun e W' => ∃ v, e = .returned v ∧ Rows.machLessSpec.post enc Tryz.prog Tryz.f3 false true false false W args v W' := by
  have hval : ∀ (j : Nat) t v, Tryz.f3.params[j]? = some t → args[j]? = some v → Value.okWide Tryz.prog W .any base t v := hval0
  have ht := tabW hL
  have hbr := bruW hL
  have hW' := hW
  obtain ⟨p, q, hA0, hV, rfl, hfz, hnd⟩ := hW
  have hA : DataW.TrodAll enc Tryz.prog W 0 (fun _ => true) true Tryz.f3.params.toList args.toList ds p := hA0
  rw [Tryz.params3] at hA hval
  obtain ⟨v0, vs0, d0, ds0, p0, q0, hargs, rfl, rfl, h0, r0⟩ := trodAll_cons hA
  obtain ⟨v1, vs1, d1, ds1, p1, q1, rfl, rfl, rfl, h1, r1⟩ := trodAll_cons r0
  obtain ⟨rfl, rfl, rfl⟩ := trodAll_nil r1
  obtain rfl : args = #[v0, v1] := by cases args; simp_all
  obtain ⟨rfl, rfl⟩ := trodVars_none hV
  have k0 := h0
  have lt0 : ∀ x ∈ p0, x.block < W.heap.size := by obtain ⟨m, hm⟩ := k0; exact DataW.trod_lt m _ _ _ hm
  obtain ⟨x0, hx0⟩ := open_start (hval 0 28 v0 rfl rfl) h0
  have k1 := h1
  have lt1 : ∀ x ∈ p1, x.block < W.heap.size := by obtain ⟨m, hm⟩ := k1; exact DataW.trod_lt m _ _ _ hm
  obtain ⟨l1, hl1⟩ := open_levels (hval 1 29 v1 rfl rfl) h1
  clear hA0 hval0
  refine (walk_MachLess W x0 v0 hx0 v1 l1 hl1 ht hbr).mono fun e W' ⟨he, bel⟩ => ?_
  subst he
  exact ⟨_, rfl, _, _, _, [], _, [], hW', trodAll_mk1 (shut_bool Tryz.underlying4 _), (trodAll_cons_mk (Below.trod laidOut (by kernel_rfl) (of_decide_eq_true (by kernel_rfl)) k0 bel lt0) (trodAll_cons_mk (Below.trod laidOut (by kernel_rfl) (of_decide_eq_true (by kernel_rfl)) k1 bel lt1) trodAll_mk0)), rfl, bel.frame _, fun h => by cases h⟩
def lay0 : Obj → Obj
  | .cells _ t frozen => .cells #[.int .u8 0, .int .u8 1, .int .u8 28, .int .u8 2, .int .u8 29, .int .u8 14, .int .u8 24, .int .u8 3, .int .u8 30, .int .u8 22, .int .u8 20, .int .u8 15, .int .u8 25, .int .u8 17, .int .u8 4, .int .u8 8, .int .u8 31, .int .u8 27, .int .u8 13, .int .u8 23, .int .u8 21, .int .u8 19, .int .u8 16, .int .u8 7, .int .u8 26, .int .u8 12, .int .u8 18, .int .u8 6, .int .u8 11, .int .u8 5, .int .u8 10, .int .u8 9] t frozen
  | o => o
def lay1 : Obj → Obj
  | .cells _ t frozen => .cells #[.int .u8 128, .int .u8 7, .int .u8 7, .int .u8 7, .int .u8 7, .int .u8 7, .int .u8 7, .int .u8 7, .int .u8 7, .int .u8 7, .int .u8 7, .int .u8 7, .int .u8 7, .int .u8 7, .int .u8 7, .int .u8 25, .int .u8 6, .int .u8 25, .int .u8 24, .int .u8 7, .int .u8 7, .int .u8 7, .int .u8 7, .int .u8 7, .int .u8 7, .int .u8 7, .int .u8 1, .int .u8 6, .int .u8 1, .int .u8 6, .int .u8 9, .int .u8 10, .int .u8 0, .int .u8 8, .int .u8 1, .int .u8 2, .int .u8 2, .int .u8 8] t frozen
  | o => o
/-- A world for the witness: the settled one, the two tables holding what their initialisers lay. -/
noncomputable def laidWorld (os : Os) : World :=
  { World.holding Tryz.prog os ⟨#[], #[], []⟩ with heap := (((World.holding Tryz.prog os ⟨#[], #[], []⟩).heap.modify 0 lay0).modify 1 lay1) }
theorem laid_met (os : Os) : laidMet Tryz.prog Rows.machLessRow.laid ((laidWorld os).forCall (fun _ _ => 0) ⟨#[], #[.agg #[.int .i64 0, .int .i64 0, .int .u32 0, .int .u8 0, .int .u8 0, .int .u8 0, .int .u8 0, .int .u32 0, .slice none 0 0, .slice none 0 0, .slice none 0 0], .slice none 0 0], []⟩).memory :=
  laidMet_of_run' 8 (by kernel_rfl) (by kernel_rfl)
theorem reads (os : Os) {H : Type} (enc : TypeId × Value → H) : ∃ places, DataW.whole enc Tryz.prog ((laidWorld os).forCall (fun _ _ => 0) ⟨#[], #[.agg #[.int .i64 0, .int .i64 0, .int .u32 0, .int .u8 0, .int .u8 0, .int .u8 0, .int .u8 0, .int .u32 0, .slice none 0 0, .slice none 0 0, .slice none 0 0], .slice none 0 0], []⟩).memory Tryz.f3.params.toList Rows.machLessSpec.vars false (#[.agg #[.int .i64 0, .int .i64 0, .int .u32 0, .int .u8 0, .int .u8 0, .int .u8 0, .int .u8 0, .int .u32 0, .slice none 0 0, .slice none 0 0, .slice none 0 0], .slice none 0 0] : Array Value).toList 8 = some ([.agg [.lit (.int .i64 0), .lit (.int .i64 0), .lit (.int .u32 0), .agg [.lit (.int .u8 0), .lit (.int .u8 0), .lit (.int .u8 0), .lit (.int .u8 0)], .lit (.int .u32 0), .nil, .nil, .nil], .nil], [], places) :=
  ⟨[], by kernel_rfl⟩
set_option maxRecDepth 100000 in
theorem lifted (os : Os) (started : os.Started) (H : Type) (enc : TypeId × Value → H) (F : Stop.Interp) :
    ReturnsInHanded {} Tryz.checked os 3 .any ((OpenSpec.ofChange Rows.machLessSpec).preRow enc Tryz.prog Tryz.f3 Rows.machLessRow.domain false Rows.machLessRow.laid) (((OpenSpec.ofChange Rows.machLessSpec).at F).post enc Tryz.prog Tryz.f3 false true false false) := by
  obtain ⟨places, hx⟩ := reads os enc
  refine returnsInHanded_of_row (C := Tryz.checked) (s := OpenSpec.ofChange Rows.machLessSpec) own started (by kernel_rfl) Tryz.func3
    (witness_row_at (enc := enc) (C := Tryz.checked) false (laidWorld os) #[.agg #[.int .i64 0, .int .i64 0, .int .u32 0, .int .u8 0, .int .u8 0, .int .u8 0, .int .u8 0, .int .u32 0, .slice none 0 0, .slice none 0 0, .slice none 0 0], .slice none 0 0] rfl (by kernel_rfl) (by kernel_rfl) (by kernel_rfl)
      (OpenSpec.preRow_of_cond 8 hx (by kernel_rfl) (fun k hk => by cases hk) (by kernel_rfl) (laid_met os))) ?_
  intro W base args ds gs before hval hW _ _ _ hL _ _
  exact contract H enc W base args ds gs before hval hW hL
theorem said : Rows.MachLessSaid :=
  OpenClaim.holds_of_cond 3 Tryz.f3 rfl rfl rfl rfl rfl rfl rfl ⟨rfl, rfl, rfl, rfl, rfl⟩ rfl rfl rfl rfl rfl (by kernel_rfl) Tryz.func3 (by kernel_rfl)
    (of_decide_eq_true (by kernel_rfl)) (by unfold Func.isWrapper; first | (rw [if_pos (by decide +kernel)]; kernel_rfl) | (rw [if_neg (by decide +kernel)]; exact ⟨rfl, rfl⟩))
    (fun os started H enc _ F => by rw [OpenClaim.pre_eq_preRow]; exact lifted os started H enc F)
theorem plain (f : FuncId) (fn : Func) (hf : Tryz.pinned.checked.prog.funcNamed "muntin/muntinlaw06.MachLess" = some f) (hfn : Tryz.pinned.checked.prog.funcs[f]? = some fn) :
    false = Tryz.pinned.checked.prog.looks [] ∧ ∀ (j : Nat) t, fn.params[j]? = some t → Tryz.pinned.checked.prog.wantsStandIn t = false := by
  obtain rfl : f = 3 := Option.some.inj ((show Tryz.prog.funcNamed "muntin/muntinlaw06.MachLess" = some 3 by kernel_rfl).symm.trans hf) |>.symm
  obtain rfl : fn = Tryz.f3 := (Option.some.inj (Tryz.func3.symm.trans hfn)).symm
  refine ⟨by kernel_rfl, fun j t ht => ?_⟩
  have hall : (Tryz.f3.params.toList.all fun u => !Tryz.prog.wantsStandIn u) = true := by kernel_rfl
  have hm : t ∈ Tryz.f3.params.toList := by simpa using Array.mem_of_getElem? ht
  exact (show Tryz.prog.wantsStandIn t = false by simpa using List.all_eq_true.1 hall t hm)
/-- The statement. -/
theorem proved : Rows.MachLessCardSaid :=
  Claim7.holds_tied_plain_at .later [] _ _ _ _ said (fun _ h => by cases h) (by kernel_rfl) (fun _ h => by cases h) machLess_row_tie rfl ⟨rfl, rfl⟩ (by kernel_rfl) rfl plain (by kernel_rfl)
end Go.Proofs.YtgdebchbdmogcaaGreatDoor.machLessP
