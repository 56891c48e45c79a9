/- 'MachReturns', the tied card: for every input the law returns true, and each argument reads afterwards as it read before; the listed variables start as the program's text lays it (the card ties them). No other condition. -/
import Derived.Test.YtacfdddghdnboaaGreatDoorGT
import Derived.Test.YtacfdddghdnboaaGreatDoorGW
import Derived.Test.YtacfdddghdnboaaGreatDoorGX
import Derived.Test.YtacfdddghdnboaaGreatDoorGU
import Derived.Test.YtacfdddghdnboaaGreatDoorCards
import Derived.Test.YtacfdddghdnboaaGreatDoorTie
import Derived.WalkKit
import Derived.ProofKit
import Derived.OpenShut
import Derived.ShutString
import Derived.ChangeOld
import Derived.Below
import Derived.Deep.DeepHandedRow
import Derived.Lib.LaidTab
import Derived.SevenTiedAt
import Derived.LaidSub
/- The plain law of muntinlaw06.MachReturns: an interrupt, and a RETT at once. No program in sight. -/
namespace Go.Proofs.YtacfdddghdnboaaGreatDoor
open Go.RowKit
set_option linter.unusedVariables false
set_option linter.unusedSimpArgs false
def rettI : Ix := ⟨32, 0, 0, 0, false, 0⟩
/-- With the RETT at the vector. -/
def laidM (m : Mx) (level : Int) : Mx := { m with mem := storeV m.mem (512 + 16 * level) 4 (encS rettI) }
theorem ret_irq (m : Mx) (level : Int) (hk : m.kind = 0) (hl : level < 16 ∧ m.p.pil < level) : stepM (laidM m level) level = irqM (laidM m level) level := by
  unfold stepM
  rw [if_neg (by show ¬ m.kind ≠ 0; omega), if_pos (show level < 16 ∧ (laidM m level).p.pil < level from hl)]
def backM (m : Mx) (level : Int) : Mx := { stepM (laidM m level) level with p := m.p, pc := m.pc }
theorem ret_back (m : Mx) (hok : m.ok) (level : Int) (hk : m.kind = 0) (h0 : 0 ≤ level) (hl : level < 16 ∧ m.p.pil < level) (hs : spanE m.mem.length (512 + 16 * level) 1 4 = 0) : stepM (stepM (laidM m level) level) level = backM m level := by
  obtain ⟨n, rfl⟩ := Int.eq_ofNat_of_zero_le h0
  have hpil := hok.pb.2.1.1
  have hr := ret_irq m n hk hl
  obtain ⟨-, -, s3, s4⟩ := spanE_ok hs (by omega)
  have hpc : (stepM (laidM m n) n).pc = ((512 + 16 * n : Nat) : Int) := by
    rw [hr]; show (256 : Int) + 16 * (16 + (n : Int)) = _; omega
  have hmem : (stepM (laidM m n) n).mem = storeS m.mem (512 + 16 * n) 4 (wordS rettI) := by
    rw [hr]
    show storeV m.mem (512 + 16 * (n : Int)) 4 (encS rettI) = _
    rw [show (512 + 16 * (n : Int)) = ((512 + 16 * n : Nat) : Int) from by omega, storeV_word _ _ _ (by omega) (by omega)]
    rfl
  have hcode : CodeAt (stepM (laidM m n) n).mem (512 + 16 * n) rettI := by
    rw [hmem]; exact CodeAt.new (by omega) (by omega) (by unfold rettI Ix.bd; simp) (by decide)
  have hkk : (stepM (laidM m n) n).kind = 0 := by rw [hr]; exact hk
  have hno : ¬ ((n : Int) < 16 ∧ (stepM (laidM m n) n).p.pil < n) := by
    rw [hr]; show ¬ ((n : Int) < 16 ∧ (n : Int) < n); omega
  rw [step_code hkk hno hpc hcode]
  have hbank : (stepM (laidM m n) n).p.bank = (n : Int) := by rw [hr]; rfl
  have hn1 : ¬ ((n : Int) = 0) := by omega
  have hts : (stepM (laidM m n) n).tpsr.getD n 0 = packS m.p m.nw := by
    rw [hr]
    show (m.tpsr.set ((n : Int)).toNat (packS m.p m.nw)).getD n 0 = _
    have := hok.sl
    rw [Int.toNat_natCast, List.getD_eq_getElem?_getD, List.getElem?_set_self (by omega)]; rfl
  have htp : (stepM (laidM m n) n).tpc.getD n 0 = m.pc := by
    rw [hr]
    show (m.tpc.set ((n : Int)).toNat m.pc).getD n 0 = _
    have := hok.tl
    rw [Int.toNat_natCast, List.getD_eq_getElem?_getD, List.getElem?_set_self (by omega)]; rfl
  have hnw : (stepM (laidM m n) n).nw = m.nw := by rw [hr]; rfl
  have hwin : winP m.nw := ⟨by unfold Mx.nw; have := hok.f.nw2; omega, by unfold Mx.nw; have := hok.f.nw32; omega⟩
  have hpk : packS m.p m.nw = packW m.p := if_pos ⟨hwin, hok.pm⟩
  have hun : unW (packW m.p) = m.p := un_pack hok.pb hwin hok.pm
  have hpb := pack_bd hok.pb hwin hok.pm
  have huok : unOk (packW m.p) m.nw := ⟨hpb.2, by rw [hun]; exact hok.pm⟩
  have e1 : opS (stepM (laidM m n) n) rettI (getM (stepM (laidM m n) n) rettI.rs1) (sndM (stepM (laidM m n) n) rettI) = if (stepM (laidM m n) n).p.bank = 0 then haltM (stepM (laidM m n) n) 3 0 else if unE ((stepM (laidM m n) n).tpsr.getD (stepM (laidM m n) n).p.bank.toNat 0) (stepM (laidM m n) n).nw = 0 then { stepM (laidM m n) n with p := unS ((stepM (laidM m n) n).tpsr.getD (stepM (laidM m n) n).p.bank.toNat 0) (stepM (laidM m n) n).nw, pc := (stepM (laidM m n) n).tpc.getD (stepM (laidM m n) n).p.bank.toNat 0 } else haltM (stepM (laidM m n) n) 3 0 := rfl
  rw [e1, hbank, if_neg hn1, Int.toNat_natCast, hts, htp, hnw, hpk]
  have hE : unE (packW m.p) m.nw = 0 := by unfold unE; rw [if_pos hwin, if_pos huok]
  have hS : unS (packW m.p) m.nw = m.p := by unfold unS; rw [if_pos ⟨hwin, huok⟩, hun]
  rw [if_pos hE, hS]
  rfl
theorem ret_first (m : Mx) (level : Int) (hk : m.kind = 0) (hl : level < 16 ∧ m.p.pil < level) : (stepM (laidM m level) level).kind = 0 ∧ (stepM (laidM m level) level).p.bank = level ∧ (stepM (laidM m level) level).p.pil = level ∧ (stepM (laidM m level) level).p.cwp = m.p.cwp ∧ (stepM (laidM m level) level).p.flags = m.p.flags ∧ (stepM (laidM m level) level).pc = 512 + 16 * level ∧ (stepM (laidM m level) level).out = m.out := by
  rw [ret_irq m level hk hl]
  refine ⟨hk, rfl, rfl, rfl, rfl, ?_, rfl⟩
  show (256 : Int) + 16 * (16 + level) = _; omega
theorem ret_last (m : Mx) (level : Int) (hk : m.kind = 0) (hl : level < 16 ∧ m.p.pil < level) : (backM m level).kind = 0 ∧ (backM m level).p = (laidM m level).p ∧ (backM m level).pc = (laidM m level).pc ∧ (backM m level).wim = (laidM m level).wim ∧ (backM m level).f = (laidM m level).f ∧ (backM m level).mem = (laidM m level).mem ∧ (backM m level).out = m.out := by
  unfold backM
  rw [ret_irq m level hk hl]
  exact ⟨hk, rfl, rfl, rfl, rfl, rfl, rfl⟩
/-- What a start's machine has from the beginning. -/
theorem made_run (x : StartX) : (madeM x).kind = 0 ∧ (madeM x).out = [] := by
  have h4 : (made4 x).kind = 0 ∧ (made4 x).out = [] := by
    unfold made4 swimM spsrM
    split <;> split <;> exact ⟨rfl, rfl⟩
  exact h4
theorem made_nw (x : StartX) (h : mayP6 x) : (madeM x).f.nw = x.nw.toNat := by
  have h4 : (made4 x).f.nw = x.nw.toNat := by
    unfold made4 swimM spsrM
    split <;> split <;> rfl
  show (regsF (made4 x).f x.regs x.regs.length).nw = _
  rw [regsF_nw, h4]
theorem made_mlen (x : StartX) (h : mayP6 x) : (madeM x).mem.length = x.size.toNat := by
  have h4 : (made4 x).mem.length = x.size.toNat := by
    have : (made4 x).mem = putV (newM x.nw.toNat x.size.toNat).mem 0 x.words := by
      unfold made4 swimM spsrM
      split <;> split <;> rfl
    rw [this, putV_len]
    show (List.replicate x.size.toNat (0 : Int)).length = _
    simp
  exact h4
theorem made_ch (x : StartX) : (madeM x).ch = x.ch := rfl
end Go.Proofs.YtacfdddghdnboaaGreatDoor
/- The walk of muntinlaw06.MachReturns. -/
namespace Go.Proofs.YtacfdddghdnboaaGreatDoor
open Go.RowKit
set_option linter.unusedVariables false
set_option linter.unusedSimpArgs false
theorem rfield_stop (a b : Value) (w : World) : (Instr.field 38 (.agg #[a, b]) 0).run Tryz.prog w = .ok a w := by kernel_rfl
theorem rfield_psr1 (a b c d : Value) (w : World) : (Instr.field 53 (.agg #[a, b, c, d]) 1).run Tryz.prog w = .ok b w := by kernel_rfl
theorem rfield_psr2 (a b c d : Value) (w : World) : (Instr.field 53 (.agg #[a, b, c, d]) 2).run Tryz.prog w = .ok c w := by kernel_rfl
set_option maxRecDepth 100000 in
set_option maxHeartbeats 8000000 in
theorem walk_MachReturns (w : World) (x : StartX) (v : Value) (h : StartIn w v x) (level : Int) (hl : 0 ≤ level ∧ level < 256) (ht : Tab w) (hbr : Bru w) :
    Calls Tryz.prog 9 #[v, .int .u8 level] w fun e w' => e = .returned (.bool true) ∧ Below w.heap.size w w' := by
  have HT := mhid ht
  have HR := mhid hbr
  have HHD := mhid (fun w' hb => mhead_any w' (ht.keep hb) (hbr.keep (w' := w') hb))
  have HIN := mhid h
  obtain ⟨vw, vr, vc, hv, -⟩ := h.rows
  clear h ht hbr
  obtain ⟨w1, hw1⟩ : ∃ w1, w1 = w.alloc (.cells (startC x.nw x.size x.pc x.q x.wim vw vr vc).toArray 59) := ⟨_, rfl⟩
  have HB1 := mhid (show Below w.heap.size w w1 from by rw [hw1]; exact (Below.refl _ _).alloc (Nat.le_refl _) _)
  have HX1 := mhid (show ARow w1 w.heap.size 59 (startC x.nw x.size x.pc x.q x.wim vw vr vc) from by rw [hw1]; exact ARow.fresh w _ _)
  have HLT := mhid (show w.heap.size < w1.heap.size from by rw [hw1, World.size_alloc]; omega)
  have HV := mhid hv
  have HSZ := mhid (show (Tryz.prog.info? 59).map (·.size) = some (startC x.nw x.size x.pc x.q x.wim vw vr vc).toArray.size from by kernel_rfl)
  subst hv
  go_enter Tryz.func9, Tryz.ntmps9
  go_wp2_with (refine wpList_load_row rfl 59 (.tmp 2) rfl w.heap.size rfl 59 _ (0, 0) _ (heap_alloc_new w _) Tryz.underlying59 rfl HSZ.out ?_)
  rw [show w.alloc (.cells (startC x.nw x.size x.pc x.q x.wim vw vr vc).toArray 59) = w1 from hw1.symm]
  clear hw1
  refine (great_any w1 x _ (HIN.out.keepb HB1.out)).mono ?_
  rintro e w2 ⟨rfl, hb2⟩
  have HX := mhid (HX1.out.below hb2)
  have HB2 := mhid (hb2)
  have HBW := mhid (HB1.out.trans (hb2.mono HB1.out.size))
  clear hb2
  by_cases hgr : greatP x
  · rw [decide_eq_true hgr]
    go_wp2_with fail
    refine (HHD.out _ HBW.out).mono ?_
    rintro e w3 ⟨rfl, hb3⟩
    go_wp2_with fail
    go_ret
    exact ⟨rfl, HBW.out.trans (hb3.mono HBW.out.size)⟩
  rw [decide_eq_false hgr]
  have HGR := mhid hgr
  clear hgr
  go_wp2_with (refine wpList_load_row rfl 59 (.tmp 2) rfl w.heap.size rfl 59 _ (0, 0) _ HX.out Tryz.underlying59 rfl HSZ.out ?_)
  by_cases hmy : mayP6 x
  · refine (made_ok w2 x _ ((HIN.out.keepb HB1.out).keepb HB2.out) hmy HGR.out (HR.out.keep HBW.out)).mono ?_
    rintro e w3 ⟨M, G, P, rfl, hM, hQ, -⟩
    have HMX := mhid (And.intro (made_run x) (And.intro (made_nw x hmy) (made_mlen x hmy)))
    have HNN := mhid (show 0 ≤ x.nw ∧ x.nw ≤ 8 ∧ 0 ≤ x.size ∧ x.size ≤ 1200 ∧ x.ch.length ≤ 40 from by
      have h1 := hmy.1
      have h2 := hmy.2
      have h3 := HGR.out
      unfold winP at h1
      unfold greatP at h3
      omega)
    have HCH := mhid (show (madeM x).ch.length ≤ 40 from HNN.out.2.2.2.2)
    obtain ⟨m0, hm0⟩ : ∃ m0, m0 = madeM x := ⟨_, rfl⟩
    rw [← hm0]
    rw [← hm0] at hM hQ HMX HCH
    clear hm0
    have HQO := mhid (show (qC P m0).toArray.all (·.oneCell') = true from hQ.one)
    obtain ⟨w4, hw4⟩ : ∃ w4, w4 = (w3.alloc (.cells qZ.toArray 66)).setRow w3.heap.size (qC P m0).toArray := ⟨_, rfl⟩
    have hb4 : Below w3.heap.size w3 w4 := by rw [hw4]; exact below_setRow ((Below.refl _ _).alloc (Nat.le_refl _) _) (Nat.le_refl _) _
    have HM := mhid (hM.keepb hb4)
    have HW4 := mhid hw4
    clear hw4 hM hQ hmy hb4
    by_cases hl15 : level > 15
    · go_wp2_with (refine wpList_store_row rfl 66 (.tmp 6) (.tmp 26) rfl w3.heap.size (qC P m0).toArray rfl rfl 66 qZ.toArray (heap_alloc_new w3 _) q_size rfl HQO.out ?_; generalize hg : World.setRow _ _ _ = w5; obtain rfl : w5 = w4 := (by rw [← hg, HW4.out]; rfl); clear hg)
      refine (HHD.out _ (HBW.out.trans (HM.out.bel.mono HBW.out.size))).mono ?_
      rintro e w6 ⟨rfl, hb6⟩
      go_wp2_with fail
      go_ret
      have hbb := HBW.out.trans (HM.out.bel.mono HBW.out.size)
      exact ⟨rfl, hbb.trans (hb6.mono hbb.size)⟩
    have fs0 := rfield_stop
    have fp1 := rfield_psr1
    have fp2 := rfield_psr2
    go_wp2_with (refine wpList_store_row rfl 66 (.tmp 6) (.tmp 26) rfl w3.heap.size (qC P m0).toArray rfl rfl 66 qZ.toArray (heap_alloc_new w3 _) q_size rfl HQO.out ?_; generalize hg : World.setRow _ _ _ = w5; obtain rfl : w5 = w4 := (by rw [← hg, HW4.out]; rfl); clear hg)
    have hps := mpsr_any w5 G M _ HM.out.at'
    rw [show m0.p.agg = .agg #[.int .u8 m0.p.cwp, .int .u8 m0.p.pil, .int .u8 m0.p.bank, .int .u8 m0.p.flags] from rfl] at hps
    refine hps.mono ?_
    rintro e w6 ⟨rfl, hb6⟩
    have HM := mhid (HM.out.keepb hb6)
    clear hb6 hps
    have HPB := mhid HM.out.at'.ok.pb
    have HOK := mhid HM.out.at'.ok
    by_cases hle : level ≤ m0.p.pil
    · go_wp2_with fail
      refine (HHD.out _ (HBW.out.trans (HM.out.bel.mono HBW.out.size))).mono ?_
      rintro e w99 ⟨rfl, hb99⟩
      go_wp2_with fail
      go_ret
      have hbb := (HBW.out.trans (HM.out.bel.mono HBW.out.size))
      exact ⟨rfl, hbb.trans (hb99.mono hbb.size)⟩
    have u1 : IntKind.u32.wrap (512 + 16 * level) = 512 + 16 * level := IntWalk.u32_in _ (by omega)
    have u2 : IntKind.u32.wrap (16 * level) = 16 * level := IntWalk.u32_in _ (by omega)
    go_wp2_with fail
    refine (mmem_any w6 G M _ HM.out.at').mono ?_
    rintro e w' ⟨rfl, rfl⟩
    go_wp2_with fail
    refine (mlword_any rettI (by unfold rettI Ix.bd; simp) w6).mono ?_
    rintro e w7 ⟨rfl, hb7⟩
    have HM := mhid (HM.out.keepb hb7)
    clear hb7
    go_wp2_with fail
    refine (mw_store w2 w7 G M m0 HM.out (512 + 16 * level) (encS rettI) (by omega) (encS_bd (by unfold rettI Ix.bd; simp))).mono ?_
    rintro e w8 ⟨rfl, G8, hM, -⟩
    have HM := mhid (show MIs w2 w8 G8 M (laidM m0 level) from hM)
    clear hM
    have hcj : level ≤ 15 ∧ m0.p.pil < level := by omega
    by_cases hsp : spanE m0.mem.length (512 + 16 * level) 1 4 = 0
    · rw [hsp]
      have HSP := mhid hsp
      have HLV := mhid (show level < 16 ∧ m0.p.pil < level by omega)
      clear hsp u1 u2 hl15 hle
      go_wp2_with fail
      refine (mw_copy w2 w8 G8 M _ HM.out (by show m0.ch.length * 4 ≤ _; have := HCH.out; omega) (by show m0.out.length * 4 ≤ _; rw [HMX.out.1.2]; simp)).mono ?_
      rintro e w9 ⟨M', G', rfl, hM', hM, hap, hno, hb9⟩
      have HM := mhid hM
      have HW := mhid hM'
      have HAP := mhid hap
      clear hM' hM hap hno hb9
      have HF := mhid (ret_first m0 level HMX.out.1.1 HLV.out)
      have HL := mhid (ret_last m0 level HMX.out.1.1 HLV.out)
      have HRB := mhid (ret_back m0 HOK.out level HMX.out.1.1 hl.1 HLV.out HSP.out)
      go_wp2_with fail
      have hs1 := mw_step w2 w9 G8 M _ HM.out (HT.out.keep HBW.out) (HR.out.keep HBW.out) level (by omega) (by omega) (by show m0.out.length < _; rw [HMX.out.1.2]; decide)
      generalize hm1 : stepM (laidM m0 level) level = m1 at *
      rw [HF.out.1] at hs1
      refine hs1.mono ?_
      rintro e w10 ⟨rfl, G10, hM, hk⟩
      obtain ⟨hW, hap⟩ := HW.out.other HM.out HAP.out hk
      have HW := mhid hW
      have HAP := mhid hap
      have HM := mhid hM
      clear hM hk hs1 hW hap hm1
      have HPS := mhid (show m1.p.agg = .agg #[.int .u8 m0.p.cwp, .int .u8 level, .int .u8 level, .int .u8 m0.p.flags] from by
        unfold Px.agg; rw [HF.out.2.1, HF.out.2.2.1, HF.out.2.2.2.1, HF.out.2.2.2.2.1])
      have HBX := mhid (show ARow (w10.alloc (.cells #[.int .u8 0, .int .u32 m1.v] 38)) w10.heap.size 38 [.int .u8 0, .int .u32 m1.v] from ARow.fresh w10 _ #[.int .u8 0, .int .u32 m1.v])
      have hal : Below w10.heap.size w10 (w10.alloc (.cells #[.int .u8 0, .int .u32 m1.v] 38)) := (Below.refl _ _).alloc (Nat.le_refl _) _
      have HM := mhid (HM.out.keepb hal)
      have HW := mhid (HW.out.keepb hal)
      clear hal
      have u3 : IntKind.u32.wrap (16 * level) = 16 * level := IntWalk.u32_in _ (by omega)
      have u4 : IntKind.u32.wrap (512 + 16 * level) = 512 + 16 * level := IntWalk.u32_in _ (by omega)
      go_wp2_with fail
      generalize w10.alloc (.cells #[.int .u8 0, .int .u32 m1.v] 38) = w11 at *
      have hps := mpsr_any w11 G10 M _ HM.out.at'
      rw [show m1.p.agg = .agg #[.int .u8 m0.p.cwp, .int .u8 level, .int .u8 level, .int .u8 m0.p.flags] from HPS.out] at hps
      refine hps.mono ?_
      rintro e w12 ⟨rfl, hbp⟩
      have HM := mhid (HM.out.keepb hbp)
      have HW := mhid (HW.out.keepb hbp)
      have HBX := mhid (HBX.out.below hbp)
      clear hbp hps
      go_wp2_with fail
      have hps := mpsr_any w12 G10 M _ HM.out.at'
      rw [show m1.p.agg = .agg #[.int .u8 m0.p.cwp, .int .u8 level, .int .u8 level, .int .u8 m0.p.flags] from HPS.out] at hps
      refine hps.mono ?_
      rintro e w13 ⟨rfl, hbp⟩
      have HM := mhid (HM.out.keepb hbp)
      have HW := mhid (HW.out.keepb hbp)
      have HBX := mhid (HBX.out.below hbp)
      clear hbp hps
      go_wp2_with fail
      have hpc := mpc_any w13 G10 M _ HM.out.at'
      rw [HF.out.2.2.2.2.2.1] at hpc
      refine hpc.mono ?_
      rintro e w' ⟨rfl, rfl⟩
      clear hpc
      go_wp2_with fail
      have hs1 := mw_step w2 w13 G10 M _ HM.out (HT.out.keep HBW.out) (HR.out.keep HBW.out) level (by omega) (by omega) (by rw [HF.out.2.2.2.2.2.2, HMX.out.1.2]; decide)
      rw [HRB.out] at hs1
      generalize hm2 : backM m0 level = m2 at *
      rw [HL.out.1] at hs1
      refine hs1.mono ?_
      rintro e w14 ⟨rfl, G14, hM, hk⟩
      obtain ⟨hW, hap⟩ := HW.out.other HM.out HAP.out hk
      have HW := mhid hW
      have HAP := mhid hap
      have HM := mhid hM
      clear hM hk hs1 hW hap hm2
      have HL2 := mhid (show m2.p = m0.p ∧ m2.pc = m0.pc ∧ m2.wim = m0.wim ∧ m2.f = m0.f ∧ m2.mem = (laidM m0 level).mem ∧ m2.out = [] from ⟨HL.out.2.1, HL.out.2.2.1, HL.out.2.2.2.1, HL.out.2.2.2.2.1, HL.out.2.2.2.2.2.1, HL.out.2.2.2.2.2.2.trans HMX.out.1.2⟩)
      have HBX := mhid (show ARow (w14.alloc (.cells #[.int .u8 0, .int .u32 m2.v] 38)) w14.heap.size 38 [.int .u8 0, .int .u32 m2.v] from ARow.fresh w14 _ #[.int .u8 0, .int .u32 m2.v])
      have hal : Below w14.heap.size w14 (w14.alloc (.cells #[.int .u8 0, .int .u32 m2.v] 38)) := (Below.refl _ _).alloc (Nat.le_refl _) _
      have HM := mhid (HM.out.keepb hal)
      have HW := mhid (HW.out.keepb hal)
      clear hal u3 u4
      go_wp2_with fail
      generalize w14.alloc (.cells #[.int .u8 0, .int .u32 m2.v] 38) = w15 at *
      have hpc := mpc_any w15 G14 M _ HM.out.at'
      rw [HL2.out.2.1] at hpc
      refine hpc.mono ?_
      rintro e w' ⟨rfl, rfl⟩
      clear hpc
      go_wp2_with fail
      refine (mpc_any w15 G' M' _ HW.out.at').mono ?_
      rintro e w' ⟨rfl, rfl⟩
      rw [show (laidM m0 level).pc = m0.pc from rfl]
      go_wp2_with fail
      have hps := mpsr_any w15 G14 M _ HM.out.at'
      rw [show m2.p.agg = .agg #[.int .u8 m0.p.cwp, .int .u8 m0.p.pil, .int .u8 m0.p.bank, .int .u8 m0.p.flags] from by rw [HL2.out.1]] at hps
      refine hps.mono ?_
      rintro e w16 ⟨rfl, hbp⟩
      have HM := mhid (HM.out.keepb hbp)
      have HW := mhid (HW.out.keepb hbp)
      clear hbp hps
      go_wp2_with fail
      have hps := mpsr_any w16 G' M' _ HW.out.at'
      rw [show (laidM m0 level).p.agg = .agg #[.int .u8 m0.p.cwp, .int .u8 m0.p.pil, .int .u8 m0.p.bank, .int .u8 m0.p.flags] from rfl] at hps
      refine hps.mono ?_
      rintro e w17 ⟨rfl, hbp⟩
      have HM := mhid (HM.out.keepb hbp)
      have HW := mhid (HW.out.keepb hbp)
      clear hbp hps
      go_wp2_with fail
      have hpc := mwim_any w17 G14 M _ HM.out.at'
      rw [HL2.out.2.2.1] at hpc
      refine hpc.mono ?_
      rintro e w' ⟨rfl, rfl⟩
      clear hpc
      go_wp2_with fail
      refine (mwim_any w17 G' M' _ HW.out.at').mono ?_
      rintro e w' ⟨rfl, rfl⟩
      rw [show (laidM m0 level).wim = m0.wim from rfl]
      go_wp2_with fail
      go_loopw [10] (fun s wr => ∃ k : Nat, s = .int .i64 (k : Int) ∧ (k : Int) ≤ x.nw ∧ MIs w2 wr G14 M m2 ∧ MIs w2 wr G' M' (laidM m0 level)) (fun s _ => x.nw.toNat - (intOf s).toNat)
      case atStart => exact ⟨0, rfl, by have := HNN.out; omega, HM.out, HW.out⟩
      case round =>
        obtain ⟨k, rfl, hk, hM, hW⟩ := hrel
        have HM := mhid hM
        have HW := mhid hW
        clear hM hW
        have HX3 := mhid (HX.out.below HM.out.bel)
        have x0 : wr.cell? ⟨w.heap.size, 0, none⟩ = some (.int .i64 x.nw) := HX3.out.cell (k := 0) rfl
        have hn8 := HNN.out.2.1
        by_cases hlt : (k : Int) < x.nw
        · have c4 : IntKind.i64.wrap ((k : Int) + 1) = ((k + 1 : Nat) : Int) := by rw [IntWalk.i64_in _ (by omega)]; omega
          go_wp2_with fail
          refine (mfile_any wr G14 M _ HM.out.at').mono ?_
          rintro e w' ⟨rfl, rfl⟩
          go_wp2_with fail
          refine (mw_win w2 wr G14 M _ HM.out k).mono ?_
          rintro e w18 ⟨va, rfl, hva, hbp⟩
          obtain ⟨pa, na, ca, rfl⟩ := hva.1.shape'
          have HVA := mhid hva
          have HM := mhid (HM.out.keepb hbp)
          have HW := mhid (HW.out.keepb hbp)
          clear hbp hva x0
          go_wp2_with fail
          refine (mfile_any w18 G' M' _ HW.out.at').mono ?_
          rintro e w' ⟨rfl, rfl⟩
          go_wp2_with fail
          refine (mw_win w2 w18 G' M' _ HW.out k).mono ?_
          rintro e w19 ⟨vb, rfl, hvb, hbp⟩
          obtain ⟨pb, nb, cb, rfl⟩ := hvb.1.shape'
          have HVA := mhid (HVA.out.keepb hbp)
          have HVB := mhid hvb
          have HM := mhid (HM.out.keepb hbp)
          have HW := mhid (HW.out.keepb hbp)
          clear hbp hvb
          go_wp2_with fail
          refine (same_any w19 _ _ _ _ HVA.out.1 HVB.out.1).mono ?_
          rintro e w20 ⟨rfl, hbp⟩
          have HM := mhid (HM.out.keepb hbp)
          have HW := mhid (HW.out.keepb hbp)
          clear hbp
          rw [show decide (winV m2.f k = winV (laidM m0 level).f k) = true from decide_eq_true (by rw [HL2.out.2.2.2.1]; rfl)]
          go_wp2_with fail
          exact ⟨⟨k + 1, by go_num, by omega, HM.out, HW.out⟩, by simp only [intOf]; omega⟩
        · have x1 : wr.cell? ⟨w.heap.size, 1, none⟩ = some (.int .i64 x.size) := HX3.out.cell (k := 1) rfl
          go_wp2_with fail
          have q4 : x.size.tdiv 4 = x.size / 4 := Int.tdiv_eq_ediv_of_nonneg (by have := HNN.out; omega)
          have q5 : 0 ≤ x.size := HNN.out.2.2.1
          have q6 : x.size ≤ 1200 := HNN.out.2.2.2.1
          have q7 : IntKind.i64.wrap (x.size / 4) = x.size / 4 := IntWalk.i64_in _ (by omega)
          have hd : Below wr.heap.size wr wr.drew := (Below.refl _ _).drew
          have HG := mhid (fun w' (hb : Below wr.heap.size wr w') => mmem_any w' G14 M _ (HM.out.keepb hb).at')
          have HWD := mhid (fun w' (hb : Below wr.heap.size wr w') => mw_words w2 w' G14 M _ (HM.out.keepb hb) (x.size / 4) (by omega))
          have HKS := mhid (show ∀ w', Below wr.heap.size wr w' → w'.cell? ⟨w.heap.size, 1, none⟩ = some (.int .i64 x.size) from fun w' hb => (HX3.out.below hb).cell (k := 1) rfl)
          go_region_held3 (fun w' => w'.cell? ⟨w.heap.size, 1, none⟩ = some (.int .i64 x.size)) (first | (exact HKS.out _ hb1) | (refine HKS.out _ ?_; go_grown; done))
            (first | (go_at_call 13; (with_reducible refine (HG.out _ hd).mono ?_); rintro e W0 ⟨rfl, rfl⟩) | (go_at_call 29; (with_reducible refine (HWD.out _ hd).mono ?_); rintro e W1 ⟨v1, l1, rfl, hl1, hv1, hb10⟩; have hb1 : Below wr.heap.size wr W1 := hd.trans hb10))
          have HM := mhid (HM.out.keepb hb1)
          have HW := mhid (HW.out.keepb hb1)
          have HV1 := mhid (And.intro hv1 hl1)
          obtain ⟨p1, n1, c1, rfl⟩ := hv1.1.shape'
          have HX3 := mhid (HX.out.below HM.out.bel)
          clear HG HWD HKS hd hb1 hb10 hv1 hl1 x1
          have x1 : W1.cell? ⟨w.heap.size, 1, none⟩ = some (.int .i64 x.size) := HX3.out.cell (k := 1) rfl
          have hd : Below W1.heap.size W1 W1.drew := (Below.refl _ _).drew
          have HG := mhid (fun w' (hb : Below W1.heap.size W1 w') => mmem_any w' G' M' _ (HW.out.keepb hb).at')
          have HWD := mhid (fun w' (hb : Below W1.heap.size W1 w') => mw_words w2 w' G' M' _ (HW.out.keepb hb) (x.size / 4) (by omega))
          have HKS := mhid (show ∀ w', Below W1.heap.size W1 w' → w'.cell? ⟨w.heap.size, 1, none⟩ = some (.int .i64 x.size) from fun w' hb => (HX3.out.below hb).cell (k := 1) rfl)
          go_wp2_with fail
          go_region_held3 (fun w' => w'.cell? ⟨w.heap.size, 1, none⟩ = some (.int .i64 x.size)) (first | (exact HKS.out _ hb1) | (refine HKS.out _ ?_; go_grown; done))
            (first | (go_at_call 13; (with_reducible refine (HG.out _ hd).mono ?_); rintro e W0 ⟨rfl, rfl⟩) | (go_at_call 29; (with_reducible refine (HWD.out _ hd).mono ?_); rintro e W2 ⟨v2, l2, rfl, hl2, hv2, hb10⟩; have hb1 : Below W1.heap.size W1 W2 := hd.trans hb10))
          have HM := mhid (HM.out.keepb hb1)
          have HW := mhid (HW.out.keepb hb1)
          have HV1 := mhid (And.intro (HV1.out.1.keepb hb1) HV1.out.2)
          have HV2 := mhid (And.intro hv2 hl2)
          obtain ⟨p2, n2, c2, rfl⟩ := hv2.1.shape'
          clear HG HWD HKS hd hb1 hb10 hv2 hl2 x1 q4 q5 q6 q7
          have HEQ := mhid (show l1 = l2 from by rw [HV1.out.2, HV2.out.2, HL2.out.2.2.2.2.1])
          go_wp2_with fail
          refine (same_any W2 _ _ _ _ HV1.out.1.1 HV2.out.1.1).mono ?_
          rintro e W3 ⟨rfl, hb3⟩
          have HM := mhid (HM.out.keepb hb3)
          clear hb3
          rw [decide_eq_true HEQ.out]
          go_wp2_with fail
          refine (mw_out w2 W3 G14 M _ HM.out (by rw [HL2.out.2.2.2.2.2]; decide)).mono ?_
          rintro e W4 ⟨vo, rfl, hvo, hb4⟩
          obtain ⟨po, co, hve⟩ : ∃ p c, vo = .slice p 0 c := by
            obtain ⟨-, p, c, hve, -⟩ := hvo.1
            rw [HL2.out.2.2.2.2.2] at hve
            exact ⟨p, c, hve⟩
          subst hve
          have HM := mhid (HM.out.keepb hb4)
          clear hvo hb4
          go_wp2_with fail
          refine (HHD.out _ (HBW.out.trans (HM.out.bel.mono HBW.out.size))).mono ?_
          rintro e w99 ⟨rfl, hb99⟩
          go_wp2_with fail
          go_ret
          have hbb := HBW.out.trans (HM.out.bel.mono HBW.out.size)
          exact ⟨rfl, hbb.trans (hb99.mono hbb.size)⟩
    · have hz : (spanE m0.mem.length (512 + 16 * level) 1 4 != 0) = true := by simpa using hsp
      clear hsp u1 u2 hl15 hle
      generalize spanE m0.mem.length (512 + 16 * level) 1 4 = sp at *
      go_wp2_with fail
      refine (HHD.out _ (HBW.out.trans (HM.out.bel.mono HBW.out.size))).mono ?_
      rintro e w99 ⟨rfl, hb99⟩
      go_wp2_with fail
      go_ret
      have hbb := (HBW.out.trans (HM.out.bel.mono HBW.out.size))
      exact ⟨rfl, hbb.trans (hb99.mono hbb.size)⟩
  · refine (made_no w2 x _ ((HIN.out.keepb HB1.out).keepb HB2.out) hmy).mono ?_
    rintro e w3 ⟨rfl, hb3⟩
    have HBW := mhid (HBW.out.trans (hb3.mono HBW.out.size))
    clear hb3 hmy
    have HBW := mhid (HBW.out.trans ((below_setRow ((Below.refl _ w3).alloc (Nat.le_refl _) (.cells qZ.toArray 66)) (Nat.le_refl _) qZ.toArray).mono HBW.out.size))
    go_wp2_with (refine wpList_store_row rfl 66 (.tmp 6) (.tmp 26) rfl w3.heap.size qZ.toArray rfl rfl 66 qZ.toArray (heap_alloc_new w3 _) q_size rfl qZ_one ?_)
    refine (HHD.out _ HBW.out).mono ?_
    rintro e w4 ⟨rfl, hb4⟩
    go_wp2_with fail
    go_ret
    exact ⟨rfl, HBW.out.trans (hb4.mono HBW.out.size)⟩
end Go.Proofs.YtacfdddghdnboaaGreatDoor
namespace Go.Proofs.YtacfdddghdnboaaGreatDoor.machReturnsP
open Go.ChangeShapes Go.WideShapes Go.ChangeAt Go.RowKit
set_option linter.unusedVariables false
theorem own : ownKnob Tryz.prog.godebug = none := by kernel_rfl
theorem laidOut : laidOutB Tryz.prog = true := by kernel_rfl
theorem gTab : Tryz.prog.globalNamed "muntin/inst.fields" = some 1 := by kernel_rfl
theorem gTabType : (Tryz.prog.globals[1]?).map (·.type) = some 224 := by kernel_rfl
theorem cellsTab : Tryz.prog.cellsOf 224 = 38 := by kernel_rfl
theorem cellsU8 : Tryz.prog.cellsOf 5 = 1 := by kernel_rfl
theorem gBru : Tryz.prog.globalNamed "math/bits.deBruijn32tab" = some 0 := by kernel_rfl
theorem gBruType : (Tryz.prog.globals[0]?).map (·.type) = some 217 := by kernel_rfl
theorem cellsBru : Tryz.prog.cellsOf 217 = 32 := by kernel_rfl
theorem keepF : (Rows.machReturnsRow.laid.filter fun e => e.1 == "muntin/inst.fields") = [("muntin/inst.fields", Lib.tabData .u8 [128, 7, 7, 7, 7, 7, 7, 7, 7, 7, 7, 7, 7, 7, 7, 25, 6, 25, 24, 7, 7, 7, 7, 7, 7, 7, 1, 6, 1, 6, 9, 10, 0, 8, 1, 2, 2, 8])] := by kernel_rfl
theorem keepB : (Rows.machReturnsRow.laid.filter fun e => e.1 == "math/bits.deBruijn32tab") = [("math/bits.deBruijn32tab", Lib.tabData .u8 [0, 1, 28, 2, 29, 14, 24, 3, 30, 22, 20, 15, 25, 17, 4, 8, 31, 27, 13, 23, 21, 19, 16, 7, 26, 12, 18, 6, 11, 5, 10, 9])] := by kernel_rfl
/-- What the row's list gives: the tables' cells hold their numbers. -/
theorem table {W : World} (h : laidMetH Tryz.prog Rows.machReturnsRow.laid W) : Lib.TabIs Tryz.prog W "muntin/inst.fields" .u8 [128, 7, 7, 7, 7, 7, 7, 7, 7, 7, 7, 7, 7, 7, 7, 25, 6, 25, 24, 7, 7, 7, 7, 7, 7, 7, 1, 6, 1, 6, 9, 10, 0, 8, 1, 2, 2, 8] := by
  have h1 := h.filter (fun e => e.1 == "muntin/inst.fields")
  rw [keepF] at h1
  exact Lib.tabIs_of_head (rest := []) gTab gTabType Tryz.underlying224 Tryz.underlying5 cellsU8 cellsTab h1
theorem tabW {W : World} (h : laidMetH Tryz.prog Rows.machReturnsRow.laid W) : Tab W :=
  tab_of (fun i hi => (table h).cell gTab i hi)
theorem tableB {W : World} (h : laidMetH Tryz.prog Rows.machReturnsRow.laid W) : Lib.TabIs Tryz.prog W "math/bits.deBruijn32tab" .u8 [0, 1, 28, 2, 29, 14, 24, 3, 30, 22, 20, 15, 25, 17, 4, 8, 31, 27, 13, 23, 21, 19, 16, 7, 26, 12, 18, 6, 11, 5, 10, 9] := by
  have h1 := h.filter (fun e => e.1 == "math/bits.deBruijn32tab")
  rw [keepB] at h1
  exact Lib.tabIs_of_head (rest := []) gBru gBruType Tryz.underlying217 Tryz.underlying5 cellsU8 cellsBru h1
theorem bruW {W : World} (h : laidMetH Tryz.prog Rows.machReturnsRow.laid W) : Bru W :=
  bru_of (fun i hi => (tableB h).cell gBru i hi)
set_option maxRecDepth 100000 in
theorem contract (H : Type) (enc : TypeId × Value → H) (W : World) (base : Nat) (args : Array Value) (ds gs : List (DataW H)) (before : List MemPlace)
    (hval0 : ∀ (j : Nat) t v, Tryz.f9.params[j]? = some t → args[j]? = some v → Value.okWide Tryz.prog W .any base t v)
    (hW : DataW.Whole enc Tryz.prog Tryz.f9.params.toList Rows.machReturnsSpec.vars false W args.toList ds gs before) (hL : laidMetH Tryz.prog Rows.machReturnsRow.laid W) :
    Calls Tryz.prog 9 args W fun e W' => ∃ v, e = .returned v ∧ Rows.machReturnsSpec.post enc Tryz.prog Tryz.f9 false true false false W args v W' := by
  have hval : ∀ (j : Nat) t v, Tryz.f9.params[j]? = some t → args[j]? = some v → Value.okWide Tryz.prog W .any base t v := hval0
  have ht := tabW hL
  have hbr := bruW hL
  have hW' := hW
  obtain ⟨p, q, hA0, hV, rfl, hfz, hnd⟩ := hW
  have hA : DataW.TrodAll enc Tryz.prog W 0 (fun _ => true) true Tryz.f9.params.toList args.toList ds p := hA0
  rw [Tryz.params9] at hA hval
  obtain ⟨v0, vs0, d0, ds0, p0, q0, hargs, rfl, rfl, h0, r0⟩ := trodAll_cons hA
  obtain ⟨v1, vs1, d1, ds1, p1, q1, rfl, rfl, rfl, h1, r1⟩ := trodAll_cons r0
  obtain ⟨rfl, rfl, rfl⟩ := trodAll_nil r1
  obtain rfl : args = #[v0, v1] := by cases args; simp_all
  obtain ⟨rfl, rfl⟩ := trodVars_none hV
  have k0 := h0
  have lt0 : ∀ x ∈ p0, x.block < W.heap.size := by obtain ⟨m, hm⟩ := k0; exact DataW.trod_lt m _ _ _ hm
  obtain ⟨x0, hx0⟩ := open_start (hval 0 59 v0 rfl rfl) h0
  obtain ⟨a1, rfl, rfl, rfl, w1⟩ := open_int Tryz.underlying5 (hval 1 5 v1 rfl rfl) h1
  have bd1 := bounds_u8 w1
  clear hA0 hval0
  refine (walk_MachReturns W x0 v0 hx0 a1 (by omega) ht hbr).mono fun e W' ⟨he, bel⟩ => ?_
  subst he
  exact ⟨_, rfl, _, _, _, [], _, [], hW', trodAll_mk1 (shut_bool Tryz.underlying4 _), (trodAll_cons_mk (Below.trod laidOut (by kernel_rfl) (of_decide_eq_true (by kernel_rfl)) k0 bel lt0) (trodAll_cons_mk (shut_int Tryz.underlying5 w1) trodAll_mk0)), rfl, bel.frame _, fun h => by cases h⟩
def lay0 : Obj → Obj
  | .cells _ t frozen => .cells #[.int .u8 0, .int .u8 1, .int .u8 28, .int .u8 2, .int .u8 29, .int .u8 14, .int .u8 24, .int .u8 3, .int .u8 30, .int .u8 22, .int .u8 20, .int .u8 15, .int .u8 25, .int .u8 17, .int .u8 4, .int .u8 8, .int .u8 31, .int .u8 27, .int .u8 13, .int .u8 23, .int .u8 21, .int .u8 19, .int .u8 16, .int .u8 7, .int .u8 26, .int .u8 12, .int .u8 18, .int .u8 6, .int .u8 11, .int .u8 5, .int .u8 10, .int .u8 9] t frozen
  | o => o
def lay1 : Obj → Obj
  | .cells _ t frozen => .cells #[.int .u8 128, .int .u8 7, .int .u8 7, .int .u8 7, .int .u8 7, .int .u8 7, .int .u8 7, .int .u8 7, .int .u8 7, .int .u8 7, .int .u8 7, .int .u8 7, .int .u8 7, .int .u8 7, .int .u8 7, .int .u8 25, .int .u8 6, .int .u8 25, .int .u8 24, .int .u8 7, .int .u8 7, .int .u8 7, .int .u8 7, .int .u8 7, .int .u8 7, .int .u8 7, .int .u8 1, .int .u8 6, .int .u8 1, .int .u8 6, .int .u8 9, .int .u8 10, .int .u8 0, .int .u8 8, .int .u8 1, .int .u8 2, .int .u8 2, .int .u8 8] t frozen
  | o => o
/-- A world for the witness: the settled one, the two tables holding what their initialisers lay. -/
noncomputable def laidWorld (os : Os) : World :=
  { World.holding Tryz.prog os ⟨#[], #[], []⟩ with heap := (((World.holding Tryz.prog os ⟨#[], #[], []⟩).heap.modify 0 lay0).modify 1 lay1) }
theorem laid_met (os : Os) : laidMet Tryz.prog Rows.machReturnsRow.laid ((laidWorld os).forCall (fun _ _ => 0) ⟨#[], #[.agg #[.int .i64 0, .int .i64 0, .int .u32 0, .int .u8 0, .int .u8 0, .int .u8 0, .int .u8 0, .int .u32 0, .slice none 0 0, .slice none 0 0, .slice none 0 0], .int .u8 0], []⟩).memory :=
  laidMet_of_run' 8 (by kernel_rfl) (by kernel_rfl)
theorem reads (os : Os) {H : Type} (enc : TypeId × Value → H) : ∃ places, DataW.whole enc Tryz.prog ((laidWorld os).forCall (fun _ _ => 0) ⟨#[], #[.agg #[.int .i64 0, .int .i64 0, .int .u32 0, .int .u8 0, .int .u8 0, .int .u8 0, .int .u8 0, .int .u32 0, .slice none 0 0, .slice none 0 0, .slice none 0 0], .int .u8 0], []⟩).memory Tryz.f9.params.toList Rows.machReturnsSpec.vars false (#[.agg #[.int .i64 0, .int .i64 0, .int .u32 0, .int .u8 0, .int .u8 0, .int .u8 0, .int .u8 0, .int .u32 0, .slice none 0 0, .slice none 0 0, .slice none 0 0], .int .u8 0] : Array Value).toList 8 = some ([.agg [.lit (.int .i64 0), .lit (.int .i64 0), .lit (.int .u32 0), .agg [.lit (.int .u8 0), .lit (.int .u8 0), .lit (.int .u8 0), .lit (.int .u8 0)], .lit (.int .u32 0), .nil, .nil, .nil], .lit (.int .u8 0)], [], places) :=
  ⟨[], by kernel_rfl⟩
set_option maxRecDepth 100000 in
theorem lifted (os : Os) (started : os.Started) (H : Type) (enc : TypeId × Value → H) (F : Stop.Interp) :
    ReturnsInHanded {} Tryz.checked os 9 .any ((OpenSpec.ofChange Rows.machReturnsSpec).preRow enc Tryz.prog Tryz.f9 Rows.machReturnsRow.domain false Rows.machReturnsRow.laid) (((OpenSpec.ofChange Rows.machReturnsSpec).at F).post enc Tryz.prog Tryz.f9 false true false false) := by
  obtain ⟨places, hx⟩ := reads os enc
  refine returnsInHanded_of_row (C := Tryz.checked) (s := OpenSpec.ofChange Rows.machReturnsSpec) own started (by kernel_rfl) Tryz.func9
    (witness_row_at (enc := enc) (C := Tryz.checked) false (laidWorld os) #[.agg #[.int .i64 0, .int .i64 0, .int .u32 0, .int .u8 0, .int .u8 0, .int .u8 0, .int .u8 0, .int .u32 0, .slice none 0 0, .slice none 0 0, .slice none 0 0], .int .u8 0] rfl (by kernel_rfl) (by kernel_rfl) (by kernel_rfl)
      (OpenSpec.preRow_of_cond 8 hx (by kernel_rfl) (fun k hk => by cases hk) (by kernel_rfl) (laid_met os))) ?_
  intro W base args ds gs before hval hW _ _ _ hL _ _
  exact contract H enc W base args ds gs before hval hW hL
theorem said : Rows.MachReturnsSaid :=
  OpenClaim.holds_of_cond 9 Tryz.f9 rfl rfl rfl rfl rfl rfl rfl ⟨rfl, rfl, rfl, rfl, rfl⟩ rfl rfl rfl rfl rfl (by kernel_rfl) Tryz.func9 (by kernel_rfl)
    (of_decide_eq_true (by kernel_rfl)) (by unfold Func.isWrapper; first | (rw [if_pos (by decide +kernel)]; kernel_rfl) | (rw [if_neg (by decide +kernel)]; exact ⟨rfl, rfl⟩))
    (fun os started H enc _ F => by rw [OpenClaim.pre_eq_preRow]; exact lifted os started H enc F)
theorem plain (f : FuncId) (fn : Func) (hf : Tryz.pinned.checked.prog.funcNamed "muntin/muntinlaw06.MachReturns" = some f) (hfn : Tryz.pinned.checked.prog.funcs[f]? = some fn) :
    false = Tryz.pinned.checked.prog.looks [] ∧ ∀ (j : Nat) t, fn.params[j]? = some t → Tryz.pinned.checked.prog.wantsStandIn t = false := by
  obtain rfl : f = 9 := Option.some.inj ((show Tryz.prog.funcNamed "muntin/muntinlaw06.MachReturns" = some 9 by kernel_rfl).symm.trans hf) |>.symm
  obtain rfl : fn = Tryz.f9 := (Option.some.inj (Tryz.func9.symm.trans hfn)).symm
  refine ⟨by kernel_rfl, fun j t ht => ?_⟩
  have hall : (Tryz.f9.params.toList.all fun u => !Tryz.prog.wantsStandIn u) = true := by kernel_rfl
  have hm : t ∈ Tryz.f9.params.toList := by simpa using Array.mem_of_getElem? ht
  exact (show Tryz.prog.wantsStandIn t = false by simpa using List.all_eq_true.1 hall t hm)
/-- The statement. -/
theorem proved : Rows.MachReturnsCardSaid :=
  Claim7.holds_tied_plain_at .later [] _ _ _ _ said (fun _ h => by cases h) (by kernel_rfl) (fun _ h => by cases h) machReturns_row_tie rfl ⟨rfl, rfl⟩ (by kernel_rfl) rfl plain (by kernel_rfl)
end Go.Proofs.YtacfdddghdnboaaGreatDoor.machReturnsP
