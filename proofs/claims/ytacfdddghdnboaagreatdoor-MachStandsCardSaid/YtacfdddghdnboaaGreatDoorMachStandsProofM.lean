/- 'MachStands', the tied card: for every input the law returns true, and each argument reads afterwards as it read before; the listed variables start as the program's text lays it (the card ties them). No other condition. -/
import Derived.Test.YtacfdddghdnboaaGreatDoorGX
import Derived.Test.YtacfdddghdnboaaGreatDoorGR
import Derived.Test.YtacfdddghdnboaaGreatDoorGY
import Derived.Test.YtacfdddghdnboaaGreatDoorGT
import Derived.Test.YtacfdddghdnboaaGreatDoorGU
import Derived.Deep.Cut
import Derived.Deep.CutRange
import Derived.Test.YtacfdddghdnboaaGreatDoorCards
import Derived.Test.YtacfdddghdnboaaGreatDoorTie
import Derived.WalkKit
import Derived.ProofKit
import Derived.OpenShut
import Derived.ShutString
import Derived.ChangeOld
import Derived.Below
import Derived.Deep.DeepHandedRow
import Derived.Lib.LaidTab
import Derived.SevenTiedAt
import Derived.LaidSub
/- The walk of muntinlaw06.MachStands. -/
namespace Go.Proofs.YtacfdddghdnboaaGreatDoor
open Go.RowKit
set_option linter.unusedVariables false
set_option linter.unusedSimpArgs false
/-- Two machines side by side. -/
structure Pair (w0 w : World) (G1 : MG) (M1 : Nat) (a : Mx) (G2 : MG) (M2 : Nat) (b : Mx) : Prop where
  one : MIs w0 w G1 M1 a
  two : MIs w0 w G2 M2 b
  ap : Apart G1 G2
theorem Pair.keepb {w0 w w' : World} {G1 G2 : MG} {M1 M2 : Nat} {a b : Mx} (h : Pair w0 w G1 M1 a G2 M2 b) (hb : Below w.heap.size w w') : Pair w0 w' G1 M1 a G2 M2 b := ⟨h.one.keepb hb, h.two.keepb hb, h.ap⟩
theorem Pair.swap {w0 w : World} {G1 G2 : MG} {M1 M2 : Nat} {a b : Mx} (h : Pair w0 w G1 M1 a G2 M2 b) : Pair w0 w G2 M2 b G1 M1 a := ⟨h.two, h.one, h.ap.symm⟩
/-- One of them goes on. -/
theorem Pair.to {w0 w w' : World} {G1 G2 : MG} {M1 M2 : Nat} {a a' b : Mx} (h : Pair w0 w G1 M1 a G2 M2 b) (ht : MTo w0 w w' G1 M1 a') : ∃ G', Pair w0 w' G' M1 a' G2 M2 b ∧ MKeeps w w' G1 G' := by
  obtain ⟨G', h1, hk⟩ := ht
  obtain ⟨h2, h3⟩ := h.two.other h.one h.ap hk
  exact ⟨G', ⟨h1, h2, h3⟩, hk⟩
/-- A box that is neither's. -/
structure PBox (w : World) (G1 G2 : MG) (A : Nat) (t : TypeId) (vs : List Value) : Prop where
  row : ARow w A t vs
  n1 : G1.R A = .none
  n2 : G2.R A = .none
theorem PBox.keepb {w w' : World} {G1 G2 : MG} {A : Nat} {t : TypeId} {vs : List Value} (h : PBox w G1 G2 A t vs) (hb : Below w.heap.size w w') : PBox w' G1 G2 A t vs := ⟨h.row.below hb, h.n1, h.n2⟩
theorem PBox.one {w w' : World} {G1 G2 G' : MG} {A : Nat} {t : TypeId} {vs : List Value} (h : PBox w G1 G2 A t vs) (hk : MKeeps w w' G1 G') : PBox w' G' G2 A t vs :=
  ⟨h.row.of_block (hk.1.block A h.row.lt (fun hC => hC h.n1)), hk.2 A h.row.lt h.n1, h.n2⟩
theorem PBox.two {w w' : World} {G1 G2 G' : MG} {A : Nat} {t : TypeId} {vs : List Value} (h : PBox w G1 G2 A t vs) (hk : MKeeps w w' G2 G') : PBox w' G1 G' A t vs :=
  ⟨h.row.of_block (hk.1.block A h.row.lt (fun hC => hC h.n2)), h.n1, hk.2 A h.row.lt h.n2⟩
theorem Pair.none {w0 w : World} {G1 G2 : MG} {M1 M2 : Nat} {a b : Mx} (h : Pair w0 w G1 M1 a G2 M2 b) {k : Nat} (hk : w.heap.size ≤ k) : G1.R k = .none ∧ G2.R k = .none := by
  refine ⟨?_, ?_⟩
  · by_cases e : G1.R k = .none
    · exact e
    · have := h.one.at'.lt k e; omega
  · by_cases e : G2.R k = .none
    · exact e
    · have := h.two.at'.lt k e; omega
theorem Pair.only {w0 w w' : World} {G1 G2 : MG} {M1 M2 : Nat} {a b : Mx} {S : Nat → Prop} (h : Pair w0 w G1 M1 a G2 M2 b) (o : Only S w w') (hS : ∀ k, S k → G1.R k = .none ∧ G2.R k = .none) (hlo : ∀ k, S k → w0.heap.size ≤ k) : Pair w0 w' G1 M1 a G2 M2 b :=
  have hb : Below w0.heap.size w0 w' := h.one.bel.trans (o.below h.one.bel.size (fun k hk hs => by have := hlo k hs; omega))
  ⟨⟨h.one.at'.keep o (fun k hk hs => hk (hS k hs).1), h.one.lo, hb⟩, ⟨h.two.at'.keep o (fun k hk hs => hk (hS k hs).2), h.two.lo, hb⟩, h.ap⟩
theorem only_setRow (w : World) (g : Nat) (cs : Array Value) : Only (fun k => k = g) w (w.setRow g cs) := ⟨rfl, rfl, rfl, by simp, fun k hk hne => Go.setRow_other w g k cs hne⟩
theorem sfield_stop (a b : Value) (w : World) : (Instr.field 38 (.agg #[a, b]) 0).run Tryz.prog w = .ok a w := by kernel_rfl
set_option maxRecDepth 100000 in
set_option maxHeartbeats 8000000 in
theorem walk_MachStands (w : World) (x : StartX) (v : Value) (h : StartIn w v x) (lv : Value) (levels : List Int) (hlv : LevelsIn w lv levels) (ht : Tab w) (hbr : Bru w) :
    Calls Tryz.prog 5 #[v, lv] w fun e w' => e = .returned (.bool true) ∧ Below w.heap.size w w' := by
  have HT := mhid ht
  have HR := mhid hbr
  have HHD := mhid (fun w' hb => mhead_any w' (ht.keep hb) (hbr.keep (w' := w') hb))
  have HIN := mhid h
  obtain ⟨vw, vr, vc, hv, -⟩ := h.rows
  have HLV := mhid hlv
  obtain ⟨pl, cl, rfl⟩ : ∃ p c, lv = .slice p levels.length c := by obtain ⟨_, _, p, c, _, _, e, _⟩ := hlv; exact ⟨p, c, e⟩
  clear h ht hbr hlv
  obtain ⟨w1, hw1⟩ : ∃ w1, w1 = w.alloc (.cells (startC x.nw x.size x.pc x.q x.wim vw vr vc).toArray 59) := ⟨_, rfl⟩
  have HB1 := mhid (show Below w.heap.size w w1 from by rw [hw1]; exact (Below.refl _ _).alloc (Nat.le_refl _) _)
  have HX1 := mhid (show ARow w1 w.heap.size 59 (startC x.nw x.size x.pc x.q x.wim vw vr vc) from by rw [hw1]; exact ARow.fresh w _ _)
  have HLT := mhid (show w.heap.size < w1.heap.size from by rw [hw1, World.size_alloc]; omega)
  have HV := mhid hv
  have HSZ := mhid (show (Tryz.prog.info? 59).map (·.size) = some (startC x.nw x.size x.pc x.q x.wim vw vr vc).toArray.size from by kernel_rfl)
  subst hv
  go_enter Tryz.func5, Tryz.ntmps5
  go_wp2_with (refine wpList_load_row rfl 59 (.tmp 2) rfl w.heap.size rfl 59 _ (0, 0) _ (heap_alloc_new w _) Tryz.underlying59 rfl HSZ.out ?_)
  rw [show w.alloc (.cells (startC x.nw x.size x.pc x.q x.wim vw vr vc).toArray 59) = w1 from hw1.symm]
  clear hw1
  refine (great_any w1 x _ (HIN.out.keepb HB1.out)).mono ?_
  rintro e w2 ⟨rfl, hb2⟩
  have HX := mhid (HX1.out.below hb2)
  have HB2 := mhid (hb2)
  have HBW := mhid (HB1.out.trans (hb2.mono HB1.out.size))
  clear hb2
  by_cases hgr : greatP x
  · rw [decide_eq_true hgr]
    go_wp2_with fail
    refine (HHD.out _ HBW.out).mono ?_
    rintro e w3 ⟨rfl, hb3⟩
    go_wp2_with fail
    go_ret
    exact ⟨rfl, HBW.out.trans (hb3.mono HBW.out.size)⟩
  rw [decide_eq_false hgr]
  have HGR := mhid hgr
  clear hgr
  go_wp2_with (refine wpList_load_row rfl 59 (.tmp 2) rfl w.heap.size rfl 59 _ (0, 0) _ HX.out Tryz.underlying59 rfl HSZ.out ?_)
  by_cases hmy : mayP6 x
  · refine (made_ok w2 x _ ((HIN.out.keepb HB1.out).keepb HB2.out) hmy HGR.out (HR.out.keep HBW.out)).mono ?_
    rintro e w3 ⟨M1, G1, P, rfl, hM, hQ, -⟩
    have HMX := mhid (And.intro (made_run x) (And.intro (made_nw x hmy) (made_mlen x hmy)))
    have HNN := mhid (show 0 ≤ x.nw ∧ x.nw ≤ 8 ∧ 0 ≤ x.size ∧ x.size ≤ 1200 from by
      have h1 := hmy.1
      have h2 := hmy.2
      have h3 := HGR.out
      unfold winP at h1
      unfold greatP at h3
      omega)
    have HQO := mhid (show (qC P (madeM x)).toArray.all (·.oneCell') = true from hQ.one)
    obtain ⟨w4, hw4⟩ : ∃ w4, w4 = (w3.alloc (.cells qZ.toArray 66)).setRow w3.heap.size (qC P (madeM x)).toArray := ⟨_, rfl⟩
    have hb4 : Below w3.heap.size w3 w4 := by rw [hw4]; exact below_setRow ((Below.refl _ _).alloc (Nat.le_refl _) _) (Nat.le_refl _) _
    have HM := mhid (hM.keepb hb4)
    have HX := mhid (HX.out.below (HM.out.bel))
    have HW4 := mhid hw4
    clear hw4 hM hQ hb4
    go_wp2_with (first | (refine wpList_store_row rfl 66 (.tmp 6) (.tmp 26) rfl w3.heap.size (qC P (madeM x)).toArray rfl rfl 66 qZ.toArray (heap_alloc_new w3 _) q_size rfl HQO.out ?_; generalize hg : World.setRow _ _ _ = w5; obtain rfl : w5 = w4 := (by rw [← hg, HW4.out]; rfl); clear hg) | (refine wpList_load_row rfl 59 (.tmp 2) rfl w.heap.size rfl 59 _ (0, 0) _ HX.out Tryz.underlying59 rfl HSZ.out ?_))
    refine (made_ok _ x _ ((HIN.out.keepb HB1.out).keepb (HB2.out.trans (HM.out.bel.mono HB2.out.size))) hmy HGR.out (HR.out.keep (HBW.out.trans (HM.out.bel.mono HBW.out.size)))).mono ?_
    rintro e w6 ⟨M2, G2, P2, rfl, hM2, hQ2, -⟩
    have HM := HM
    have hs25 : w2.heap.size ≤ w5.heap.size := HM.out.bel.size
    have hap : Apart G1 G2 := Apart.fresh HM.out.at' (fun k hk => hM2.lo k hk)
    have HQO2 := mhid (show (qC P2 (madeM x)).toArray.all (·.oneCell') = true from hQ2.one)
    obtain ⟨w7, hw7⟩ : ∃ w7, w7 = (w6.alloc (.cells qZ.toArray 66)).setRow w6.heap.size (qC P2 (madeM x)).toArray := ⟨_, rfl⟩
    have hb7 : Below w6.heap.size w6 w7 := by rw [hw7]; exact below_setRow ((Below.refl _ _).alloc (Nat.le_refl _) _) (Nat.le_refl _) _
    have HP := mhid (show Pair w2 w7 G1 M1 (madeM x) G2 M2 (madeM x) from
      ⟨(HM.out.keepb hM2.bel).keepb hb7, ⟨hM2.at'.keepb hb7, fun k hk => Nat.le_trans hs25 (hM2.lo k hk), (HM.out.bel.trans (hM2.bel.mono hs25)).trans (hb7.mono (Nat.le_trans hs25 hM2.bel.size))⟩, hap⟩)
    have HW7 := mhid hw7
    have HX0 := mhid (show ∀ W, Below w2.heap.size w2 W → ARow W w.heap.size 59 (startC x.nw x.size x.pc x.q x.wim vw vr vc) from fun W hb => (HX1.out.below HB2.out).below hb)
    have HL := mhid (show LevelsIn w2 (.slice pl levels.length cl) levels from HLV.out.keepb HBW.out)
    clear hw7 hM2 hQ2 hb7 hap hs25 HM HW4 HQO
    obtain ⟨m0, hm0⟩ : ∃ m0, m0 = madeM x := ⟨_, rfl⟩
    go_wp2_with (refine wpList_store_row rfl 66 (.tmp 8) (.tmp 31) rfl w6.heap.size (qC P2 (madeM x)).toArray rfl rfl 66 qZ.toArray (heap_alloc_new w6 _) q_size rfl HQO2.out ?_; generalize hg : World.setRow _ _ _ = w8; obtain rfl : w8 = w7 := (by rw [← hg, HW7.out]; rfl); clear hg)
    rw [← hm0] at HP HMX
    clear hm0
    obtain ⟨hlm, hlb, pl', cl', lb, lo, hle, hlp, hla⟩ := HL.out
    cases hle
    have HLA := mhid (And.intro hlb (And.intro hlp hla))
    unfold maxLen at hlm
    clear hlb hlp hla
    go_loopw [9] (fun s wr => ∃ k : Nat, s = .int .i64 (k : Int) ∧ k ≤ levels.length ∧ k ≤ 60 ∧ ∃ G1 G2, Pair w2 wr G1 M1 (runL m0 levels k) G2 M2 (runL m0 levels k)) (fun s _ => levels.length - (intOf s).toNat)
    case atStart => exact ⟨0, rfl, by omega, by omega, G1, G2, HP.out⟩
    case round =>
      obtain ⟨k, rfl, hk, hk60, G3, G4, hP⟩ := hrel
      have HP := mhid hP
      clear hP
      by_cases hlt : k < levels.length ∧ k < 60
      · have c1 : (k : Int) < (levels.length : Int) := by omega
        have c2 : (k : Int) < 60 := by omega
        have c4 : IntKind.i64.wrap ((k : Int) + 1) = ((k + 1 : Nat) : Int) := by rw [IntWalk.i64_in _ (by omega)]; omega
        obtain ⟨lev, hlev⟩ : ∃ r, levels[k]? = some r := ⟨_, List.getElem?_eq_getElem hlt.1⟩
        have hpe := HLA.out.2.1 (by omega)
        subst hpe
        have HLC := mhid (show ∀ W, Below w2.heap.size w2 W → W.cell? ⟨lb, lo + k, none⟩ = some (.int .u8 lev) from fun W hb => (hb.cell (p := ⟨lb, lo + k, none⟩) (World.block_lt_of_cell? _ _ (HLA.out.2.2 k lev hlev))).trans (HLA.out.2.2 k lev hlev))
        have HLB := mhid (HLA.out.1 lev (List.mem_of_getElem? hlev))
        have HRL := mhid (show runL m0 levels (k + 1) = stepM (runL m0 levels k) lev from by show stepM _ (levels.getD k 0) = _; rw [List.getD_eq_getElem?_getD, hlev]; rfl)
        have hc0 := HLC.out _ HP.out.one.bel
        clear hlev
        go_wp2_with fail
        have HOL := mhid (show (runL m0 levels k).out.length < 4294967296 from by have := runL_out m0 levels k; rw [HMX.out.1.2] at this; simp at this; omega)
        clear hc0
        go_cut [10, 11] from 49 to 120 (fun a b w' => ∃ A B, a = .pointer (some ⟨A, 0, none⟩) ∧ b = .pointer (some ⟨B, 0, none⟩) ∧ ∃ G3 G4, Pair w2 w' G3 M1 (stepM (runL m0 levels k) lev) G4 M2 (stepM (runL m0 levels k) lev) ∧ PBox w' G3 G4 A 38 [.int .u8 (stepM (runL m0 levels k) lev).kind, .int .u32 (stepM (runL m0 levels k) lev).v] ∧ PBox w' G3 G4 B 38 [.int .u8 (stepM (runL m0 levels k) lev).kind, .int .u32 (stepM (runL m0 levels k) lev).v])
        case first =>
-- REGION10
          have HPR := mhid (HP.out.keepb (w' := wr.drew) ((Below.refl _ _).drew))
          refine wp_region_held_drew (S := (fun w' => w'.cell? ⟨lb, lo + k, none⟩ = some (.int .u8 lev))) (by kernel_rfl) (HLC.out _ HPR.out.one.bel) (fun hHeld => ?_)
          obtain ⟨W0, hW0⟩ : ∃ W0, W0 = wr.drew := ⟨_, rfl⟩
          rw [← hW0] at hHeld HPR ⊢
          clear hW0
          try simp only [List.getElem_toArray, List.getElem_cons_zero, List.getElem_cons_succ]
          refine wpAnyH_take (i := 0) (v := _) rfl (by kernel_rfl) (by kernel_rfl) (by kernel_rfl) (fun _ _ _ h => h) (Or.inl ⟨by rfl, (by intro w hSw; (try dsimp only at hSw); go_simp; try with_reducible rfl)⟩) (by assumption) ?_
          try simp only [Act.put, List.getElem_toArray, List.getElem_cons_zero, List.getElem_cons_succ, List.setIfInBounds_toArray, List.set_cons_zero, List.set_cons_succ]
          refine wpAnyH_take (i := 1) (v := _) rfl (by kernel_rfl) (by kernel_rfl) (by kernel_rfl) (fun _ _ _ h => h) (Or.inl ⟨by rfl, (by intro w hSw; (try dsimp only at hSw); go_simp; try with_reducible rfl)⟩) (by assumption) ?_
          try simp only [Act.put, List.getElem_toArray, List.getElem_cons_zero, List.getElem_cons_succ, List.setIfInBounds_toArray, List.set_cons_zero, List.set_cons_succ]
          refine wpAnyH_take (i := 2) (v := _) rfl (by kernel_rfl) (by kernel_rfl) (by kernel_rfl) (fun _ _ _ h => h) (Or.inl ⟨by rfl, (by intro w hSw; (try dsimp only at hSw); go_simp; try with_reducible rfl)⟩) (by assumption) ?_
          try simp only [Act.put, List.getElem_toArray, List.getElem_cons_zero, List.getElem_cons_succ, List.setIfInBounds_toArray, List.set_cons_zero, List.set_cons_succ]
          refine wpAnyH_take (i := 3) (v := _) rfl (by kernel_rfl) (by kernel_rfl) (by kernel_rfl) (fun _ _ _ h => h) (Or.inl ⟨by rfl, (by intro w hSw; (try dsimp only at hSw); go_simp; try with_reducible rfl)⟩) (by assumption) ?_
          try simp only [Act.put, List.getElem_toArray, List.getElem_cons_zero, List.getElem_cons_succ, List.setIfInBounds_toArray, List.set_cons_zero, List.set_cons_succ]
          refine wpAnyH_take (i := 4) (v := _) rfl (by kernel_rfl) (by kernel_rfl) (by kernel_rfl) (fun _ _ _ h => h) (Or.inl ⟨by rfl, (by intro w hSw; (try dsimp only at hSw); go_simp; try with_reducible rfl)⟩) (by assumption) ?_
          try simp only [Act.put, List.getElem_toArray, List.getElem_cons_zero, List.getElem_cons_succ, List.setIfInBounds_toArray, List.set_cons_zero, List.set_cons_succ]
          refine wpAnyH_take (i := 6) (v := _) rfl (by kernel_rfl) (by kernel_rfl) (by kernel_rfl) (fun _ _ _ h => h) (Or.inl ⟨by rfl, (by intro w hSw; (try dsimp only at hSw); go_simp; try with_reducible rfl)⟩) (by assumption) ?_
          try simp only [Act.put, List.getElem_toArray, List.getElem_cons_zero, List.getElem_cons_succ, List.setIfInBounds_toArray, List.set_cons_zero, List.set_cons_succ]
          refine wpAnyH_take (i := 7) (v := _) rfl (by kernel_rfl) (by kernel_rfl) (by kernel_rfl) (fun _ _ _ h => h) (Or.inl ⟨by rfl, (by intro w hSw; (try dsimp only at hSw); go_simp; try with_reducible rfl)⟩) (by assumption) ?_
          try simp only [Act.put, List.getElem_toArray, List.getElem_cons_zero, List.getElem_cons_succ, List.setIfInBounds_toArray, List.set_cons_zero, List.set_cons_succ]
          refine wpAnyH_take (i := 8) (v := _) rfl (by kernel_rfl) (by kernel_rfl) (by kernel_rfl) (fun _ _ _ h => h) (Or.inl ⟨by rfl, (by intro w hSw; (try dsimp only at hSw); go_simp; try with_reducible rfl)⟩) (by assumption) ?_
          try simp only [Act.put, List.getElem_toArray, List.getElem_cons_zero, List.getElem_cons_succ, List.setIfInBounds_toArray, List.set_cons_zero, List.set_cons_succ]
          refine wpAnyH_take (i := 9) (v := _) rfl (by kernel_rfl) (by kernel_rfl) (by kernel_rfl) (fun _ _ _ h => h) (Or.inl ⟨by rfl, (by intro w hSw; (try dsimp only at hSw); go_simp; try with_reducible rfl)⟩) (by assumption) ?_
          try simp only [Act.put, List.getElem_toArray, List.getElem_cons_zero, List.getElem_cons_succ, List.setIfInBounds_toArray, List.set_cons_zero, List.set_cons_succ]
          refine wpAnyH_take (i := 10) (v := _) rfl (by kernel_rfl) (by kernel_rfl) (by kernel_rfl) (fun _ _ _ h => h) (Or.inl ⟨by rfl, (by intro w hSw; (try dsimp only at hSw); go_simp; try with_reducible rfl)⟩) (by assumption) ?_
          try simp only [Act.put, List.getElem_toArray, List.getElem_cons_zero, List.getElem_cons_succ, List.setIfInBounds_toArray, List.set_cons_zero, List.set_cons_succ]
          refine wpAnyH_ready (rs := [5, 12, 13]) (by kernel_rfl) (by simp) ?_
          refine (AllReadyH.cons rfl (fun K hK => ?_) (AllReadyH.cons rfl (fun K hK => ?_) (AllReadyH.cons rfl (fun K hK => ?_) AllReadyH.nil)))
          · go_simp
            go_at_call 17
            refine (mw_step w2 W0 G3 M1 _ HPR.out.one (HT.out.keep HBW.out) (HR.out.keep HBW.out) lev HLB.out.1 HLB.out.2 (HOL.out)).mono ?_
            rintro e W1 ⟨rfl, hto⟩
            obtain ⟨Gn, hp, hkk⟩ := HPR.out.to hto
            have HPR := mhid hp
            clear hto hp hkk
            obtain ⟨G3, rfl⟩ : ∃ g, g = Gn := ⟨_, rfl⟩
            go_wp2_with fail
            refine hK.out _ _ (HLC.out _ HPR.out.one.bel) (fun hHeld2 => ?_)
            clear hK K 
            try simp only [Act.put, List.getElem_toArray, List.getElem_cons_zero, List.getElem_cons_succ, List.setIfInBounds_toArray, List.set_cons_zero, List.set_cons_succ]
            refine wpAnyH_ready (rs := [11, 12, 13]) (by kernel_rfl) (by simp) ?_
            refine (AllReadyH.cons rfl (fun K hK => ?_) (AllReadyH.cons rfl (fun K hK => ?_) (AllReadyH.cons rfl (fun K hK => ?_) AllReadyH.nil)))
            · go_simp
              go_at_call 17
              refine (mw_step w2 W1 G4 M2 _ HPR.out.two (HT.out.keep HBW.out) (HR.out.keep HBW.out) lev HLB.out.1 HLB.out.2 (HOL.out)).mono ?_
              rintro e W2 ⟨rfl, hto⟩
              obtain ⟨Gn, hp, hkk⟩ := HPR.out.swap.to hto
              have HPR := mhid hp.swap
              clear hto hp hkk
              obtain ⟨G4, rfl⟩ : ∃ g, g = Gn := ⟨_, rfl⟩
              go_wp2_with fail
              refine hK.out _ _ (HLC.out _ HPR.out.one.bel) (fun hHeld2 => ?_)
              clear hK K 
              try simp only [Act.put, List.getElem_toArray, List.getElem_cons_zero, List.getElem_cons_succ, List.setIfInBounds_toArray, List.set_cons_zero, List.set_cons_succ]
              refine wpAnyH_ready (rs := [12, 13]) (by kernel_rfl) (by simp) ?_
              refine (AllReadyH.cons rfl (fun K hK => ?_) (AllReadyH.cons rfl (fun K hK => ?_) AllReadyH.nil))
              · go_simp
                obtain ⟨A, hA⟩ : ∃ x, x = W2.heap.size := ⟨_, rfl⟩
                obtain ⟨W3, hWn⟩ : ∃ Wn, Wn = W2.alloc (.cells #[.int .u8 0, .int .u32 0] 38) := ⟨_, rfl⟩
                rw [← hWn, ← hA]
                have hbn : Below W2.heap.size W2 W3 := by rw [hWn]; exact (Below.refl _ _).alloc (Nat.le_refl _) _
                have HA := mhid (show PBox W3 G3 G4 A 38 [.int .u8 0, .int .u32 0] from ⟨by rw [hWn, hA]; exact ARow.fresh _ _ _, (HPR.out.none (by omega)).1, (HPR.out.none (by omega)).2⟩)
                have HAL := mhid (show w2.heap.size ≤ A from by rw [hA]; exact HPR.out.one.bel.size)
                have HPR := mhid (HPR.out.keepb hbn)
                clear hWn hbn hA
                refine hK.out _ _ (HLC.out _ HPR.out.one.bel) (fun hHeld2 => ?_)
                clear hK K 
                try simp only [Act.put, List.getElem_toArray, List.getElem_cons_zero, List.getElem_cons_succ, List.setIfInBounds_toArray, List.set_cons_zero, List.set_cons_succ]
                refine wpAnyH_ready (rs := [13]) (by kernel_rfl) (by simp) ?_
                refine (AllReadyH.cons rfl (fun K hK => ?_) AllReadyH.nil)
                · go_simp
                  obtain ⟨B, hB⟩ : ∃ x, x = W3.heap.size := ⟨_, rfl⟩
                  obtain ⟨W4, hWn⟩ : ∃ Wn, Wn = W3.alloc (.cells #[.int .u8 0, .int .u32 0] 38) := ⟨_, rfl⟩
                  rw [← hWn, ← hB]
                  have hbn : Below W3.heap.size W3 W4 := by rw [hWn]; exact (Below.refl _ _).alloc (Nat.le_refl _) _
                  have HB := mhid (show PBox W4 G3 G4 B 38 [.int .u8 0, .int .u32 0] from ⟨by rw [hWn, hB]; exact ARow.fresh _ _ _, (HPR.out.none (by omega)).1, (HPR.out.none (by omega)).2⟩)
                  have HBL := mhid (show w2.heap.size ≤ B from by rw [hB]; exact HPR.out.one.bel.size)
                  have HAB := mhid (show A ≠ B from by have := HA.out.row.lt; omega)
                  have HA := mhid (HA.out.keepb hbn)
                  have HPR := mhid (HPR.out.keepb hbn)
                  clear hWn hbn hB
                  refine hK.out _ _ (HLC.out _ HPR.out.one.bel) (fun hHeld2 => ?_)
                  clear hK K 
                  try simp only [Act.put, List.getElem_toArray, List.getElem_cons_zero, List.getElem_cons_succ, List.setIfInBounds_toArray, List.set_cons_zero, List.set_cons_succ]
                  refine wpAnyH_ready (rs := [14]) (by kernel_rfl) (by simp) ?_
                  refine (AllReadyH.cons rfl (fun K hK => ?_) AllReadyH.nil)
                  refine step_store_row (by rfl) 38 (.tmp 10) (.tmp 54) (by rfl) A _ (by rfl) (by rfl) 38 #[.int .u8 0, .int .u32 0] HA.out.row (by kernel_rfl) (by rfl) (by simp [Value.oneCell']) ?_
                  obtain ⟨W8, hW8⟩ : ∃ W8, W8 = World.setRow W4 A #[.int .u8 (stepM (runL m0 levels k) lev).kind, .int .u32 (stepM (runL m0 levels k) lev).v] := ⟨_, rfl⟩
                  rw [← hW8]
                  have hO : Only (fun k => k = A) W4 W8 := by rw [hW8]; exact only_setRow _ _ _
                  have HPR := mhid (HPR.out.only hO (fun k e => by rw [e]; exact ⟨HA.out.n1, HA.out.n2⟩) (fun k e => by rw [e]; exact HAL.out))
                  have HA := mhid (show PBox W8 G3 G4 A 38 [.int .u8 (stepM (runL m0 levels k) lev).kind, .int .u32 (stepM (runL m0 levels k) lev).v] from ⟨by rw [hW8]; exact HA.out.row.setRow _, HA.out.n1, HA.out.n2⟩)
                  have HB := mhid (show PBox W8 G3 G4 B 38 [.int .u8 0, .int .u32 0] from ⟨HB.out.row.of_block (hO.block B HB.out.row.lt (fun e => HAB.out e.symm)), HB.out.n1, HB.out.n2⟩)
                  clear hW8 hO
                  refine hK.out _ _ (HLC.out _ HPR.out.one.bel) (fun hHeld2 => ?_)
                  clear hK K 
                  try simp only [Act.put, List.getElem_toArray, List.getElem_cons_zero, List.getElem_cons_succ, List.setIfInBounds_toArray, List.set_cons_zero, List.set_cons_succ]
                  refine wpAnyH_ready (rs := [15]) (by kernel_rfl) (by simp) ?_
                  refine (AllReadyH.cons rfl (fun K hK => ?_) AllReadyH.nil)
                  refine step_store_row (by rfl) 38 (.tmp 11) (.tmp 60) (by rfl) B _ (by rfl) (by rfl) 38 #[.int .u8 0, .int .u32 0] HB.out.row (by kernel_rfl) (by rfl) (by simp [Value.oneCell']) ?_
                  obtain ⟨W9, hW9⟩ : ∃ W9, W9 = World.setRow W8 B #[.int .u8 (stepM (runL m0 levels k) lev).kind, .int .u32 (stepM (runL m0 levels k) lev).v] := ⟨_, rfl⟩
                  rw [← hW9]
                  have hO : Only (fun k => k = B) W8 W9 := by rw [hW9]; exact only_setRow _ _ _
                  have HPR := mhid (HPR.out.only hO (fun k e => by rw [e]; exact ⟨HB.out.n1, HB.out.n2⟩) (fun k e => by rw [e]; exact HBL.out))
                  have HB := mhid (show PBox W9 G3 G4 B 38 [.int .u8 (stepM (runL m0 levels k) lev).kind, .int .u32 (stepM (runL m0 levels k) lev).v] from ⟨by rw [hW9]; exact HB.out.row.setRow _, HB.out.n1, HB.out.n2⟩)
                  have HA := mhid (show PBox W9 G3 G4 A 38 [.int .u8 (stepM (runL m0 levels k) lev).kind, .int .u32 (stepM (runL m0 levels k) lev).v] from ⟨HA.out.row.of_block (hO.block A HA.out.row.lt (fun e => HAB.out e)), HA.out.n1, HA.out.n2⟩)
                  clear hW9 hO
                  refine hK.out _ _ (HLC.out _ HPR.out.one.bel) (fun hHeld2 => ?_)
                  clear hK K 
                  try simp only [Act.put, List.getElem_toArray, List.getElem_cons_zero, List.getElem_cons_succ, List.setIfInBounds_toArray, List.set_cons_zero, List.set_cons_succ]
                  refine wpAnyH_done (by kernel_rfl) ?_ _
                  go_wp2_with fail
                  go_meet
                  exact ⟨A, B, rfl, rfl, G3, G4, HPR.out, HA.out, HB.out⟩
              · go_simp
                obtain ⟨B, hB⟩ : ∃ x, x = W2.heap.size := ⟨_, rfl⟩
                obtain ⟨W3, hWn⟩ : ∃ Wn, Wn = W2.alloc (.cells #[.int .u8 0, .int .u32 0] 38) := ⟨_, rfl⟩
                rw [← hWn, ← hB]
                have hbn : Below W2.heap.size W2 W3 := by rw [hWn]; exact (Below.refl _ _).alloc (Nat.le_refl _) _
                have HB := mhid (show PBox W3 G3 G4 B 38 [.int .u8 0, .int .u32 0] from ⟨by rw [hWn, hB]; exact ARow.fresh _ _ _, (HPR.out.none (by omega)).1, (HPR.out.none (by omega)).2⟩)
                have HBL := mhid (show w2.heap.size ≤ B from by rw [hB]; exact HPR.out.one.bel.size)
                have HPR := mhid (HPR.out.keepb hbn)
                clear hWn hbn hB
                refine hK.out _ _ (HLC.out _ HPR.out.one.bel) (fun hHeld2 => ?_)
                clear hK K 
                try simp only [Act.put, List.getElem_toArray, List.getElem_cons_zero, List.getElem_cons_succ, List.setIfInBounds_toArray, List.set_cons_zero, List.set_cons_succ]
                refine wpAnyH_ready (rs := [12]) (by kernel_rfl) (by simp) ?_
                refine (AllReadyH.cons rfl (fun K hK => ?_) AllReadyH.nil)
                · go_simp
                  obtain ⟨A, hA⟩ : ∃ x, x = W3.heap.size := ⟨_, rfl⟩
                  obtain ⟨W4, hWn⟩ : ∃ Wn, Wn = W3.alloc (.cells #[.int .u8 0, .int .u32 0] 38) := ⟨_, rfl⟩
                  rw [← hWn, ← hA]
                  have hbn : Below W3.heap.size W3 W4 := by rw [hWn]; exact (Below.refl _ _).alloc (Nat.le_refl _) _
                  have HA := mhid (show PBox W4 G3 G4 A 38 [.int .u8 0, .int .u32 0] from ⟨by rw [hWn, hA]; exact ARow.fresh _ _ _, (HPR.out.none (by omega)).1, (HPR.out.none (by omega)).2⟩)
                  have HAL := mhid (show w2.heap.size ≤ A from by rw [hA]; exact HPR.out.one.bel.size)
                  have HAB := mhid (show A ≠ B from by have := HB.out.row.lt; omega)
                  have HB := mhid (HB.out.keepb hbn)
                  have HPR := mhid (HPR.out.keepb hbn)
                  clear hWn hbn hA
                  refine hK.out _ _ (HLC.out _ HPR.out.one.bel) (fun hHeld2 => ?_)
                  clear hK K 
                  try simp only [Act.put, List.getElem_toArray, List.getElem_cons_zero, List.getElem_cons_succ, List.setIfInBounds_toArray, List.set_cons_zero, List.set_cons_succ]
                  refine wpAnyH_ready (rs := [14]) (by kernel_rfl) (by simp) ?_
                  refine (AllReadyH.cons rfl (fun K hK => ?_) AllReadyH.nil)
                  refine step_store_row (by rfl) 38 (.tmp 10) (.tmp 54) (by rfl) A _ (by rfl) (by rfl) 38 #[.int .u8 0, .int .u32 0] HA.out.row (by kernel_rfl) (by rfl) (by simp [Value.oneCell']) ?_
                  obtain ⟨W8, hW8⟩ : ∃ W8, W8 = World.setRow W4 A #[.int .u8 (stepM (runL m0 levels k) lev).kind, .int .u32 (stepM (runL m0 levels k) lev).v] := ⟨_, rfl⟩
                  rw [← hW8]
                  have hO : Only (fun k => k = A) W4 W8 := by rw [hW8]; exact only_setRow _ _ _
                  have HPR := mhid (HPR.out.only hO (fun k e => by rw [e]; exact ⟨HA.out.n1, HA.out.n2⟩) (fun k e => by rw [e]; exact HAL.out))
                  have HA := mhid (show PBox W8 G3 G4 A 38 [.int .u8 (stepM (runL m0 levels k) lev).kind, .int .u32 (stepM (runL m0 levels k) lev).v] from ⟨by rw [hW8]; exact HA.out.row.setRow _, HA.out.n1, HA.out.n2⟩)
                  have HB := mhid (show PBox W8 G3 G4 B 38 [.int .u8 0, .int .u32 0] from ⟨HB.out.row.of_block (hO.block B HB.out.row.lt (fun e => HAB.out e.symm)), HB.out.n1, HB.out.n2⟩)
                  clear hW8 hO
                  refine hK.out _ _ (HLC.out _ HPR.out.one.bel) (fun hHeld2 => ?_)
                  clear hK K 
                  try simp only [Act.put, List.getElem_toArray, List.getElem_cons_zero, List.getElem_cons_succ, List.setIfInBounds_toArray, List.set_cons_zero, List.set_cons_succ]
                  refine wpAnyH_ready (rs := [15]) (by kernel_rfl) (by simp) ?_
                  refine (AllReadyH.cons rfl (fun K hK => ?_) AllReadyH.nil)
                  refine step_store_row (by rfl) 38 (.tmp 11) (.tmp 60) (by rfl) B _ (by rfl) (by rfl) 38 #[.int .u8 0, .int .u32 0] HB.out.row (by kernel_rfl) (by rfl) (by simp [Value.oneCell']) ?_
                  obtain ⟨W9, hW9⟩ : ∃ W9, W9 = World.setRow W8 B #[.int .u8 (stepM (runL m0 levels k) lev).kind, .int .u32 (stepM (runL m0 levels k) lev).v] := ⟨_, rfl⟩
                  rw [← hW9]
                  have hO : Only (fun k => k = B) W8 W9 := by rw [hW9]; exact only_setRow _ _ _
                  have HPR := mhid (HPR.out.only hO (fun k e => by rw [e]; exact ⟨HB.out.n1, HB.out.n2⟩) (fun k e => by rw [e]; exact HBL.out))
                  have HB := mhid (show PBox W9 G3 G4 B 38 [.int .u8 (stepM (runL m0 levels k) lev).kind, .int .u32 (stepM (runL m0 levels k) lev).v] from ⟨by rw [hW9]; exact HB.out.row.setRow _, HB.out.n1, HB.out.n2⟩)
                  have HA := mhid (show PBox W9 G3 G4 A 38 [.int .u8 (stepM (runL m0 levels k) lev).kind, .int .u32 (stepM (runL m0 levels k) lev).v] from ⟨HA.out.row.of_block (hO.block A HA.out.row.lt (fun e => HAB.out e)), HA.out.n1, HA.out.n2⟩)
                  clear hW9 hO
                  refine hK.out _ _ (HLC.out _ HPR.out.one.bel) (fun hHeld2 => ?_)
                  clear hK K 
                  try simp only [Act.put, List.getElem_toArray, List.getElem_cons_zero, List.getElem_cons_succ, List.setIfInBounds_toArray, List.set_cons_zero, List.set_cons_succ]
                  refine wpAnyH_done (by kernel_rfl) ?_ _
                  go_wp2_with fail
                  go_meet
                  exact ⟨A, B, rfl, rfl, G3, G4, HPR.out, HA.out, HB.out⟩
            · go_simp
              obtain ⟨A, hA⟩ : ∃ x, x = W1.heap.size := ⟨_, rfl⟩
              obtain ⟨W2, hWn⟩ : ∃ Wn, Wn = W1.alloc (.cells #[.int .u8 0, .int .u32 0] 38) := ⟨_, rfl⟩
              rw [← hWn, ← hA]
              have hbn : Below W1.heap.size W1 W2 := by rw [hWn]; exact (Below.refl _ _).alloc (Nat.le_refl _) _
              have HA := mhid (show PBox W2 G3 G4 A 38 [.int .u8 0, .int .u32 0] from ⟨by rw [hWn, hA]; exact ARow.fresh _ _ _, (HPR.out.none (by omega)).1, (HPR.out.none (by omega)).2⟩)
              have HAL := mhid (show w2.heap.size ≤ A from by rw [hA]; exact HPR.out.one.bel.size)
              have HPR := mhid (HPR.out.keepb hbn)
              clear hWn hbn hA
              refine hK.out _ _ (HLC.out _ HPR.out.one.bel) (fun hHeld2 => ?_)
              clear hK K 
              try simp only [Act.put, List.getElem_toArray, List.getElem_cons_zero, List.getElem_cons_succ, List.setIfInBounds_toArray, List.set_cons_zero, List.set_cons_succ]
              refine wpAnyH_ready (rs := [11, 13]) (by kernel_rfl) (by simp) ?_
              refine (AllReadyH.cons rfl (fun K hK => ?_) (AllReadyH.cons rfl (fun K hK => ?_) AllReadyH.nil))
              · go_simp
                go_at_call 17
                refine (mw_step w2 W2 G4 M2 _ HPR.out.two (HT.out.keep HBW.out) (HR.out.keep HBW.out) lev HLB.out.1 HLB.out.2 (HOL.out)).mono ?_
                rintro e W3 ⟨rfl, hto⟩
                obtain ⟨Gn, hp, hkk⟩ := HPR.out.swap.to hto
                have HPR := mhid hp.swap
                have HA := mhid (HA.out.two hkk)
                clear hto hp hkk
                obtain ⟨G4, rfl⟩ : ∃ g, g = Gn := ⟨_, rfl⟩
                go_wp2_with fail
                refine hK.out _ _ (HLC.out _ HPR.out.one.bel) (fun hHeld2 => ?_)
                clear hK K 
                try simp only [Act.put, List.getElem_toArray, List.getElem_cons_zero, List.getElem_cons_succ, List.setIfInBounds_toArray, List.set_cons_zero, List.set_cons_succ]
                refine wpAnyH_ready (rs := [13]) (by kernel_rfl) (by simp) ?_
                refine (AllReadyH.cons rfl (fun K hK => ?_) AllReadyH.nil)
                · go_simp
                  obtain ⟨B, hB⟩ : ∃ x, x = W3.heap.size := ⟨_, rfl⟩
                  obtain ⟨W4, hWn⟩ : ∃ Wn, Wn = W3.alloc (.cells #[.int .u8 0, .int .u32 0] 38) := ⟨_, rfl⟩
                  rw [← hWn, ← hB]
                  have hbn : Below W3.heap.size W3 W4 := by rw [hWn]; exact (Below.refl _ _).alloc (Nat.le_refl _) _
                  have HB := mhid (show PBox W4 G3 G4 B 38 [.int .u8 0, .int .u32 0] from ⟨by rw [hWn, hB]; exact ARow.fresh _ _ _, (HPR.out.none (by omega)).1, (HPR.out.none (by omega)).2⟩)
                  have HBL := mhid (show w2.heap.size ≤ B from by rw [hB]; exact HPR.out.one.bel.size)
                  have HAB := mhid (show A ≠ B from by have := HA.out.row.lt; omega)
                  have HA := mhid (HA.out.keepb hbn)
                  have HPR := mhid (HPR.out.keepb hbn)
                  clear hWn hbn hB
                  refine hK.out _ _ (HLC.out _ HPR.out.one.bel) (fun hHeld2 => ?_)
                  clear hK K 
                  try simp only [Act.put, List.getElem_toArray, List.getElem_cons_zero, List.getElem_cons_succ, List.setIfInBounds_toArray, List.set_cons_zero, List.set_cons_succ]
                  refine wpAnyH_ready (rs := [14]) (by kernel_rfl) (by simp) ?_
                  refine (AllReadyH.cons rfl (fun K hK => ?_) AllReadyH.nil)
                  refine step_store_row (by rfl) 38 (.tmp 10) (.tmp 54) (by rfl) A _ (by rfl) (by rfl) 38 #[.int .u8 0, .int .u32 0] HA.out.row (by kernel_rfl) (by rfl) (by simp [Value.oneCell']) ?_
                  obtain ⟨W8, hW8⟩ : ∃ W8, W8 = World.setRow W4 A #[.int .u8 (stepM (runL m0 levels k) lev).kind, .int .u32 (stepM (runL m0 levels k) lev).v] := ⟨_, rfl⟩
                  rw [← hW8]
                  have hO : Only (fun k => k = A) W4 W8 := by rw [hW8]; exact only_setRow _ _ _
                  have HPR := mhid (HPR.out.only hO (fun k e => by rw [e]; exact ⟨HA.out.n1, HA.out.n2⟩) (fun k e => by rw [e]; exact HAL.out))
                  have HA := mhid (show PBox W8 G3 G4 A 38 [.int .u8 (stepM (runL m0 levels k) lev).kind, .int .u32 (stepM (runL m0 levels k) lev).v] from ⟨by rw [hW8]; exact HA.out.row.setRow _, HA.out.n1, HA.out.n2⟩)
                  have HB := mhid (show PBox W8 G3 G4 B 38 [.int .u8 0, .int .u32 0] from ⟨HB.out.row.of_block (hO.block B HB.out.row.lt (fun e => HAB.out e.symm)), HB.out.n1, HB.out.n2⟩)
                  clear hW8 hO
                  refine hK.out _ _ (HLC.out _ HPR.out.one.bel) (fun hHeld2 => ?_)
                  clear hK K 
                  try simp only [Act.put, List.getElem_toArray, List.getElem_cons_zero, List.getElem_cons_succ, List.setIfInBounds_toArray, List.set_cons_zero, List.set_cons_succ]
                  refine wpAnyH_ready (rs := [15]) (by kernel_rfl) (by simp) ?_
                  refine (AllReadyH.cons rfl (fun K hK => ?_) AllReadyH.nil)
                  refine step_store_row (by rfl) 38 (.tmp 11) (.tmp 60) (by rfl) B _ (by rfl) (by rfl) 38 #[.int .u8 0, .int .u32 0] HB.out.row (by kernel_rfl) (by rfl) (by simp [Value.oneCell']) ?_
                  obtain ⟨W9, hW9⟩ : ∃ W9, W9 = World.setRow W8 B #[.int .u8 (stepM (runL m0 levels k) lev).kind, .int .u32 (stepM (runL m0 levels k) lev).v] := ⟨_, rfl⟩
                  rw [← hW9]
                  have hO : Only (fun k => k = B) W8 W9 := by rw [hW9]; exact only_setRow _ _ _
                  have HPR := mhid (HPR.out.only hO (fun k e => by rw [e]; exact ⟨HB.out.n1, HB.out.n2⟩) (fun k e => by rw [e]; exact HBL.out))
                  have HB := mhid (show PBox W9 G3 G4 B 38 [.int .u8 (stepM (runL m0 levels k) lev).kind, .int .u32 (stepM (runL m0 levels k) lev).v] from ⟨by rw [hW9]; exact HB.out.row.setRow _, HB.out.n1, HB.out.n2⟩)
                  have HA := mhid (show PBox W9 G3 G4 A 38 [.int .u8 (stepM (runL m0 levels k) lev).kind, .int .u32 (stepM (runL m0 levels k) lev).v] from ⟨HA.out.row.of_block (hO.block A HA.out.row.lt (fun e => HAB.out e)), HA.out.n1, HA.out.n2⟩)
                  clear hW9 hO
                  refine hK.out _ _ (HLC.out _ HPR.out.one.bel) (fun hHeld2 => ?_)
                  clear hK K 
                  try simp only [Act.put, List.getElem_toArray, List.getElem_cons_zero, List.getElem_cons_succ, List.setIfInBounds_toArray, List.set_cons_zero, List.set_cons_succ]
                  refine wpAnyH_done (by kernel_rfl) ?_ _
                  go_wp2_with fail
                  go_meet
                  exact ⟨A, B, rfl, rfl, G3, G4, HPR.out, HA.out, HB.out⟩
              · go_simp
                obtain ⟨B, hB⟩ : ∃ x, x = W2.heap.size := ⟨_, rfl⟩
                obtain ⟨W3, hWn⟩ : ∃ Wn, Wn = W2.alloc (.cells #[.int .u8 0, .int .u32 0] 38) := ⟨_, rfl⟩
                rw [← hWn, ← hB]
                have hbn : Below W2.heap.size W2 W3 := by rw [hWn]; exact (Below.refl _ _).alloc (Nat.le_refl _) _
                have HB := mhid (show PBox W3 G3 G4 B 38 [.int .u8 0, .int .u32 0] from ⟨by rw [hWn, hB]; exact ARow.fresh _ _ _, (HPR.out.none (by omega)).1, (HPR.out.none (by omega)).2⟩)
                have HBL := mhid (show w2.heap.size ≤ B from by rw [hB]; exact HPR.out.one.bel.size)
                have HAB := mhid (show A ≠ B from by have := HA.out.row.lt; omega)
                have HA := mhid (HA.out.keepb hbn)
                have HPR := mhid (HPR.out.keepb hbn)
                clear hWn hbn hB
                refine hK.out _ _ (HLC.out _ HPR.out.one.bel) (fun hHeld2 => ?_)
                clear hK K 
                try simp only [Act.put, List.getElem_toArray, List.getElem_cons_zero, List.getElem_cons_succ, List.setIfInBounds_toArray, List.set_cons_zero, List.set_cons_succ]
                refine wpAnyH_ready (rs := [11]) (by kernel_rfl) (by simp) ?_
                refine (AllReadyH.cons rfl (fun K hK => ?_) AllReadyH.nil)
                · go_simp
                  go_at_call 17
                  refine (mw_step w2 W3 G4 M2 _ HPR.out.two (HT.out.keep HBW.out) (HR.out.keep HBW.out) lev HLB.out.1 HLB.out.2 (HOL.out)).mono ?_
                  rintro e W4 ⟨rfl, hto⟩
                  obtain ⟨Gn, hp, hkk⟩ := HPR.out.swap.to hto
                  have HPR := mhid hp.swap
                  have HA := mhid (HA.out.two hkk)
                  have HB := mhid (HB.out.two hkk)
                  clear hto hp hkk
                  obtain ⟨G4, rfl⟩ : ∃ g, g = Gn := ⟨_, rfl⟩
                  go_wp2_with fail
                  refine hK.out _ _ (HLC.out _ HPR.out.one.bel) (fun hHeld2 => ?_)
                  clear hK K 
                  try simp only [Act.put, List.getElem_toArray, List.getElem_cons_zero, List.getElem_cons_succ, List.setIfInBounds_toArray, List.set_cons_zero, List.set_cons_succ]
                  refine wpAnyH_ready (rs := [14]) (by kernel_rfl) (by simp) ?_
                  refine (AllReadyH.cons rfl (fun K hK => ?_) AllReadyH.nil)
                  refine step_store_row (by rfl) 38 (.tmp 10) (.tmp 54) (by rfl) A _ (by rfl) (by rfl) 38 #[.int .u8 0, .int .u32 0] HA.out.row (by kernel_rfl) (by rfl) (by simp [Value.oneCell']) ?_
                  obtain ⟨W8, hW8⟩ : ∃ W8, W8 = World.setRow W4 A #[.int .u8 (stepM (runL m0 levels k) lev).kind, .int .u32 (stepM (runL m0 levels k) lev).v] := ⟨_, rfl⟩
                  rw [← hW8]
                  have hO : Only (fun k => k = A) W4 W8 := by rw [hW8]; exact only_setRow _ _ _
                  have HPR := mhid (HPR.out.only hO (fun k e => by rw [e]; exact ⟨HA.out.n1, HA.out.n2⟩) (fun k e => by rw [e]; exact HAL.out))
                  have HA := mhid (show PBox W8 G3 G4 A 38 [.int .u8 (stepM (runL m0 levels k) lev).kind, .int .u32 (stepM (runL m0 levels k) lev).v] from ⟨by rw [hW8]; exact HA.out.row.setRow _, HA.out.n1, HA.out.n2⟩)
                  have HB := mhid (show PBox W8 G3 G4 B 38 [.int .u8 0, .int .u32 0] from ⟨HB.out.row.of_block (hO.block B HB.out.row.lt (fun e => HAB.out e.symm)), HB.out.n1, HB.out.n2⟩)
                  clear hW8 hO
                  refine hK.out _ _ (HLC.out _ HPR.out.one.bel) (fun hHeld2 => ?_)
                  clear hK K 
                  try simp only [Act.put, List.getElem_toArray, List.getElem_cons_zero, List.getElem_cons_succ, List.setIfInBounds_toArray, List.set_cons_zero, List.set_cons_succ]
                  refine wpAnyH_ready (rs := [15]) (by kernel_rfl) (by simp) ?_
                  refine (AllReadyH.cons rfl (fun K hK => ?_) AllReadyH.nil)
                  refine step_store_row (by rfl) 38 (.tmp 11) (.tmp 60) (by rfl) B _ (by rfl) (by rfl) 38 #[.int .u8 0, .int .u32 0] HB.out.row (by kernel_rfl) (by rfl) (by simp [Value.oneCell']) ?_
                  obtain ⟨W9, hW9⟩ : ∃ W9, W9 = World.setRow W8 B #[.int .u8 (stepM (runL m0 levels k) lev).kind, .int .u32 (stepM (runL m0 levels k) lev).v] := ⟨_, rfl⟩
                  rw [← hW9]
                  have hO : Only (fun k => k = B) W8 W9 := by rw [hW9]; exact only_setRow _ _ _
                  have HPR := mhid (HPR.out.only hO (fun k e => by rw [e]; exact ⟨HB.out.n1, HB.out.n2⟩) (fun k e => by rw [e]; exact HBL.out))
                  have HB := mhid (show PBox W9 G3 G4 B 38 [.int .u8 (stepM (runL m0 levels k) lev).kind, .int .u32 (stepM (runL m0 levels k) lev).v] from ⟨by rw [hW9]; exact HB.out.row.setRow _, HB.out.n1, HB.out.n2⟩)
                  have HA := mhid (show PBox W9 G3 G4 A 38 [.int .u8 (stepM (runL m0 levels k) lev).kind, .int .u32 (stepM (runL m0 levels k) lev).v] from ⟨HA.out.row.of_block (hO.block A HA.out.row.lt (fun e => HAB.out e)), HA.out.n1, HA.out.n2⟩)
                  clear hW9 hO
                  refine hK.out _ _ (HLC.out _ HPR.out.one.bel) (fun hHeld2 => ?_)
                  clear hK K 
                  try simp only [Act.put, List.getElem_toArray, List.getElem_cons_zero, List.getElem_cons_succ, List.setIfInBounds_toArray, List.set_cons_zero, List.set_cons_succ]
                  refine wpAnyH_done (by kernel_rfl) ?_ _
                  go_wp2_with fail
                  go_meet
                  exact ⟨A, B, rfl, rfl, G3, G4, HPR.out, HA.out, HB.out⟩
            · go_simp
              obtain ⟨B, hB⟩ : ∃ x, x = W1.heap.size := ⟨_, rfl⟩
              obtain ⟨W2, hWn⟩ : ∃ Wn, Wn = W1.alloc (.cells #[.int .u8 0, .int .u32 0] 38) := ⟨_, rfl⟩
              rw [← hWn, ← hB]
              have hbn : Below W1.heap.size W1 W2 := by rw [hWn]; exact (Below.refl _ _).alloc (Nat.le_refl _) _
              have HB := mhid (show PBox W2 G3 G4 B 38 [.int .u8 0, .int .u32 0] from ⟨by rw [hWn, hB]; exact ARow.fresh _ _ _, (HPR.out.none (by omega)).1, (HPR.out.none (by omega)).2⟩)
              have HBL := mhid (show w2.heap.size ≤ B from by rw [hB]; exact HPR.out.one.bel.size)
              have HPR := mhid (HPR.out.keepb hbn)
              clear hWn hbn hB
              refine hK.out _ _ (HLC.out _ HPR.out.one.bel) (fun hHeld2 => ?_)
              clear hK K 
              try simp only [Act.put, List.getElem_toArray, List.getElem_cons_zero, List.getElem_cons_succ, List.setIfInBounds_toArray, List.set_cons_zero, List.set_cons_succ]
              refine wpAnyH_ready (rs := [11, 12]) (by kernel_rfl) (by simp) ?_
              refine (AllReadyH.cons rfl (fun K hK => ?_) (AllReadyH.cons rfl (fun K hK => ?_) AllReadyH.nil))
              · go_simp
                go_at_call 17
                refine (mw_step w2 W2 G4 M2 _ HPR.out.two (HT.out.keep HBW.out) (HR.out.keep HBW.out) lev HLB.out.1 HLB.out.2 (HOL.out)).mono ?_
                rintro e W3 ⟨rfl, hto⟩
                obtain ⟨Gn, hp, hkk⟩ := HPR.out.swap.to hto
                have HPR := mhid hp.swap
                have HB := mhid (HB.out.two hkk)
                clear hto hp hkk
                obtain ⟨G4, rfl⟩ : ∃ g, g = Gn := ⟨_, rfl⟩
                go_wp2_with fail
                refine hK.out _ _ (HLC.out _ HPR.out.one.bel) (fun hHeld2 => ?_)
                clear hK K 
                try simp only [Act.put, List.getElem_toArray, List.getElem_cons_zero, List.getElem_cons_succ, List.setIfInBounds_toArray, List.set_cons_zero, List.set_cons_succ]
                refine wpAnyH_ready (rs := [12]) (by kernel_rfl) (by simp) ?_
                refine (AllReadyH.cons rfl (fun K hK => ?_) AllReadyH.nil)
                · go_simp
                  obtain ⟨A, hA⟩ : ∃ x, x = W3.heap.size := ⟨_, rfl⟩
                  obtain ⟨W4, hWn⟩ : ∃ Wn, Wn = W3.alloc (.cells #[.int .u8 0, .int .u32 0] 38) := ⟨_, rfl⟩
                  rw [← hWn, ← hA]
                  have hbn : Below W3.heap.size W3 W4 := by rw [hWn]; exact (Below.refl _ _).alloc (Nat.le_refl _) _
                  have HA := mhid (show PBox W4 G3 G4 A 38 [.int .u8 0, .int .u32 0] from ⟨by rw [hWn, hA]; exact ARow.fresh _ _ _, (HPR.out.none (by omega)).1, (HPR.out.none (by omega)).2⟩)
                  have HAL := mhid (show w2.heap.size ≤ A from by rw [hA]; exact HPR.out.one.bel.size)
                  have HAB := mhid (show A ≠ B from by have := HB.out.row.lt; omega)
                  have HB := mhid (HB.out.keepb hbn)
                  have HPR := mhid (HPR.out.keepb hbn)
                  clear hWn hbn hA
                  refine hK.out _ _ (HLC.out _ HPR.out.one.bel) (fun hHeld2 => ?_)
                  clear hK K 
                  try simp only [Act.put, List.getElem_toArray, List.getElem_cons_zero, List.getElem_cons_succ, List.setIfInBounds_toArray, List.set_cons_zero, List.set_cons_succ]
                  refine wpAnyH_ready (rs := [14]) (by kernel_rfl) (by simp) ?_
                  refine (AllReadyH.cons rfl (fun K hK => ?_) AllReadyH.nil)
                  refine step_store_row (by rfl) 38 (.tmp 10) (.tmp 54) (by rfl) A _ (by rfl) (by rfl) 38 #[.int .u8 0, .int .u32 0] HA.out.row (by kernel_rfl) (by rfl) (by simp [Value.oneCell']) ?_
                  obtain ⟨W8, hW8⟩ : ∃ W8, W8 = World.setRow W4 A #[.int .u8 (stepM (runL m0 levels k) lev).kind, .int .u32 (stepM (runL m0 levels k) lev).v] := ⟨_, rfl⟩
                  rw [← hW8]
                  have hO : Only (fun k => k = A) W4 W8 := by rw [hW8]; exact only_setRow _ _ _
                  have HPR := mhid (HPR.out.only hO (fun k e => by rw [e]; exact ⟨HA.out.n1, HA.out.n2⟩) (fun k e => by rw [e]; exact HAL.out))
                  have HA := mhid (show PBox W8 G3 G4 A 38 [.int .u8 (stepM (runL m0 levels k) lev).kind, .int .u32 (stepM (runL m0 levels k) lev).v] from ⟨by rw [hW8]; exact HA.out.row.setRow _, HA.out.n1, HA.out.n2⟩)
                  have HB := mhid (show PBox W8 G3 G4 B 38 [.int .u8 0, .int .u32 0] from ⟨HB.out.row.of_block (hO.block B HB.out.row.lt (fun e => HAB.out e.symm)), HB.out.n1, HB.out.n2⟩)
                  clear hW8 hO
                  refine hK.out _ _ (HLC.out _ HPR.out.one.bel) (fun hHeld2 => ?_)
                  clear hK K 
                  try simp only [Act.put, List.getElem_toArray, List.getElem_cons_zero, List.getElem_cons_succ, List.setIfInBounds_toArray, List.set_cons_zero, List.set_cons_succ]
                  refine wpAnyH_ready (rs := [15]) (by kernel_rfl) (by simp) ?_
                  refine (AllReadyH.cons rfl (fun K hK => ?_) AllReadyH.nil)
                  refine step_store_row (by rfl) 38 (.tmp 11) (.tmp 60) (by rfl) B _ (by rfl) (by rfl) 38 #[.int .u8 0, .int .u32 0] HB.out.row (by kernel_rfl) (by rfl) (by simp [Value.oneCell']) ?_
                  obtain ⟨W9, hW9⟩ : ∃ W9, W9 = World.setRow W8 B #[.int .u8 (stepM (runL m0 levels k) lev).kind, .int .u32 (stepM (runL m0 levels k) lev).v] := ⟨_, rfl⟩
                  rw [← hW9]
                  have hO : Only (fun k => k = B) W8 W9 := by rw [hW9]; exact only_setRow _ _ _
                  have HPR := mhid (HPR.out.only hO (fun k e => by rw [e]; exact ⟨HB.out.n1, HB.out.n2⟩) (fun k e => by rw [e]; exact HBL.out))
                  have HB := mhid (show PBox W9 G3 G4 B 38 [.int .u8 (stepM (runL m0 levels k) lev).kind, .int .u32 (stepM (runL m0 levels k) lev).v] from ⟨by rw [hW9]; exact HB.out.row.setRow _, HB.out.n1, HB.out.n2⟩)
                  have HA := mhid (show PBox W9 G3 G4 A 38 [.int .u8 (stepM (runL m0 levels k) lev).kind, .int .u32 (stepM (runL m0 levels k) lev).v] from ⟨HA.out.row.of_block (hO.block A HA.out.row.lt (fun e => HAB.out e)), HA.out.n1, HA.out.n2⟩)
                  clear hW9 hO
                  refine hK.out _ _ (HLC.out _ HPR.out.one.bel) (fun hHeld2 => ?_)
                  clear hK K 
                  try simp only [Act.put, List.getElem_toArray, List.getElem_cons_zero, List.getElem_cons_succ, List.setIfInBounds_toArray, List.set_cons_zero, List.set_cons_succ]
                  refine wpAnyH_done (by kernel_rfl) ?_ _
                  go_wp2_with fail
                  go_meet
                  exact ⟨A, B, rfl, rfl, G3, G4, HPR.out, HA.out, HB.out⟩
              · go_simp
                obtain ⟨A, hA⟩ : ∃ x, x = W2.heap.size := ⟨_, rfl⟩
                obtain ⟨W3, hWn⟩ : ∃ Wn, Wn = W2.alloc (.cells #[.int .u8 0, .int .u32 0] 38) := ⟨_, rfl⟩
                rw [← hWn, ← hA]
                have hbn : Below W2.heap.size W2 W3 := by rw [hWn]; exact (Below.refl _ _).alloc (Nat.le_refl _) _
                have HA := mhid (show PBox W3 G3 G4 A 38 [.int .u8 0, .int .u32 0] from ⟨by rw [hWn, hA]; exact ARow.fresh _ _ _, (HPR.out.none (by omega)).1, (HPR.out.none (by omega)).2⟩)
                have HAL := mhid (show w2.heap.size ≤ A from by rw [hA]; exact HPR.out.one.bel.size)
                have HAB := mhid (show A ≠ B from by have := HB.out.row.lt; omega)
                have HB := mhid (HB.out.keepb hbn)
                have HPR := mhid (HPR.out.keepb hbn)
                clear hWn hbn hA
                refine hK.out _ _ (HLC.out _ HPR.out.one.bel) (fun hHeld2 => ?_)
                clear hK K 
                try simp only [Act.put, List.getElem_toArray, List.getElem_cons_zero, List.getElem_cons_succ, List.setIfInBounds_toArray, List.set_cons_zero, List.set_cons_succ]
                refine wpAnyH_ready (rs := [11]) (by kernel_rfl) (by simp) ?_
                refine (AllReadyH.cons rfl (fun K hK => ?_) AllReadyH.nil)
                · go_simp
                  go_at_call 17
                  refine (mw_step w2 W3 G4 M2 _ HPR.out.two (HT.out.keep HBW.out) (HR.out.keep HBW.out) lev HLB.out.1 HLB.out.2 (HOL.out)).mono ?_
                  rintro e W4 ⟨rfl, hto⟩
                  obtain ⟨Gn, hp, hkk⟩ := HPR.out.swap.to hto
                  have HPR := mhid hp.swap
                  have HA := mhid (HA.out.two hkk)
                  have HB := mhid (HB.out.two hkk)
                  clear hto hp hkk
                  obtain ⟨G4, rfl⟩ : ∃ g, g = Gn := ⟨_, rfl⟩
                  go_wp2_with fail
                  refine hK.out _ _ (HLC.out _ HPR.out.one.bel) (fun hHeld2 => ?_)
                  clear hK K 
                  try simp only [Act.put, List.getElem_toArray, List.getElem_cons_zero, List.getElem_cons_succ, List.setIfInBounds_toArray, List.set_cons_zero, List.set_cons_succ]
                  refine wpAnyH_ready (rs := [14]) (by kernel_rfl) (by simp) ?_
                  refine (AllReadyH.cons rfl (fun K hK => ?_) AllReadyH.nil)
                  refine step_store_row (by rfl) 38 (.tmp 10) (.tmp 54) (by rfl) A _ (by rfl) (by rfl) 38 #[.int .u8 0, .int .u32 0] HA.out.row (by kernel_rfl) (by rfl) (by simp [Value.oneCell']) ?_
                  obtain ⟨W8, hW8⟩ : ∃ W8, W8 = World.setRow W4 A #[.int .u8 (stepM (runL m0 levels k) lev).kind, .int .u32 (stepM (runL m0 levels k) lev).v] := ⟨_, rfl⟩
                  rw [← hW8]
                  have hO : Only (fun k => k = A) W4 W8 := by rw [hW8]; exact only_setRow _ _ _
                  have HPR := mhid (HPR.out.only hO (fun k e => by rw [e]; exact ⟨HA.out.n1, HA.out.n2⟩) (fun k e => by rw [e]; exact HAL.out))
                  have HA := mhid (show PBox W8 G3 G4 A 38 [.int .u8 (stepM (runL m0 levels k) lev).kind, .int .u32 (stepM (runL m0 levels k) lev).v] from ⟨by rw [hW8]; exact HA.out.row.setRow _, HA.out.n1, HA.out.n2⟩)
                  have HB := mhid (show PBox W8 G3 G4 B 38 [.int .u8 0, .int .u32 0] from ⟨HB.out.row.of_block (hO.block B HB.out.row.lt (fun e => HAB.out e.symm)), HB.out.n1, HB.out.n2⟩)
                  clear hW8 hO
                  refine hK.out _ _ (HLC.out _ HPR.out.one.bel) (fun hHeld2 => ?_)
                  clear hK K 
                  try simp only [Act.put, List.getElem_toArray, List.getElem_cons_zero, List.getElem_cons_succ, List.setIfInBounds_toArray, List.set_cons_zero, List.set_cons_succ]
                  refine wpAnyH_ready (rs := [15]) (by kernel_rfl) (by simp) ?_
                  refine (AllReadyH.cons rfl (fun K hK => ?_) AllReadyH.nil)
                  refine step_store_row (by rfl) 38 (.tmp 11) (.tmp 60) (by rfl) B _ (by rfl) (by rfl) 38 #[.int .u8 0, .int .u32 0] HB.out.row (by kernel_rfl) (by rfl) (by simp [Value.oneCell']) ?_
                  obtain ⟨W9, hW9⟩ : ∃ W9, W9 = World.setRow W8 B #[.int .u8 (stepM (runL m0 levels k) lev).kind, .int .u32 (stepM (runL m0 levels k) lev).v] := ⟨_, rfl⟩
                  rw [← hW9]
                  have hO : Only (fun k => k = B) W8 W9 := by rw [hW9]; exact only_setRow _ _ _
                  have HPR := mhid (HPR.out.only hO (fun k e => by rw [e]; exact ⟨HB.out.n1, HB.out.n2⟩) (fun k e => by rw [e]; exact HBL.out))
                  have HB := mhid (show PBox W9 G3 G4 B 38 [.int .u8 (stepM (runL m0 levels k) lev).kind, .int .u32 (stepM (runL m0 levels k) lev).v] from ⟨by rw [hW9]; exact HB.out.row.setRow _, HB.out.n1, HB.out.n2⟩)
                  have HA := mhid (show PBox W9 G3 G4 A 38 [.int .u8 (stepM (runL m0 levels k) lev).kind, .int .u32 (stepM (runL m0 levels k) lev).v] from ⟨HA.out.row.of_block (hO.block A HA.out.row.lt (fun e => HAB.out e)), HA.out.n1, HA.out.n2⟩)
                  clear hW9 hO
                  refine hK.out _ _ (HLC.out _ HPR.out.one.bel) (fun hHeld2 => ?_)
                  clear hK K 
                  try simp only [Act.put, List.getElem_toArray, List.getElem_cons_zero, List.getElem_cons_succ, List.setIfInBounds_toArray, List.set_cons_zero, List.set_cons_succ]
                  refine wpAnyH_done (by kernel_rfl) ?_ _
                  go_wp2_with fail
                  go_meet
                  exact ⟨A, B, rfl, rfl, G3, G4, HPR.out, HA.out, HB.out⟩
          · go_simp
            obtain ⟨A, hA⟩ : ∃ x, x = W0.heap.size := ⟨_, rfl⟩
            obtain ⟨W1, hWn⟩ : ∃ Wn, Wn = W0.alloc (.cells #[.int .u8 0, .int .u32 0] 38) := ⟨_, rfl⟩
            rw [← hWn, ← hA]
            have hbn : Below W0.heap.size W0 W1 := by rw [hWn]; exact (Below.refl _ _).alloc (Nat.le_refl _) _
            have HA := mhid (show PBox W1 G3 G4 A 38 [.int .u8 0, .int .u32 0] from ⟨by rw [hWn, hA]; exact ARow.fresh _ _ _, (HPR.out.none (by omega)).1, (HPR.out.none (by omega)).2⟩)
            have HAL := mhid (show w2.heap.size ≤ A from by rw [hA]; exact HPR.out.one.bel.size)
            have HPR := mhid (HPR.out.keepb hbn)
            clear hWn hbn hA
            refine hK.out _ _ (HLC.out _ HPR.out.one.bel) (fun hHeld2 => ?_)
            clear hK K 
            try simp only [Act.put, List.getElem_toArray, List.getElem_cons_zero, List.getElem_cons_succ, List.setIfInBounds_toArray, List.set_cons_zero, List.set_cons_succ]
            refine wpAnyH_ready (rs := [5, 13]) (by kernel_rfl) (by simp) ?_
            refine (AllReadyH.cons rfl (fun K hK => ?_) (AllReadyH.cons rfl (fun K hK => ?_) AllReadyH.nil))
            · go_simp
              go_at_call 17
              refine (mw_step w2 W1 G3 M1 _ HPR.out.one (HT.out.keep HBW.out) (HR.out.keep HBW.out) lev HLB.out.1 HLB.out.2 (HOL.out)).mono ?_
              rintro e W2 ⟨rfl, hto⟩
              obtain ⟨Gn, hp, hkk⟩ := HPR.out.to hto
              have HPR := mhid hp
              have HA := mhid (HA.out.one hkk)
              clear hto hp hkk
              obtain ⟨G3, rfl⟩ : ∃ g, g = Gn := ⟨_, rfl⟩
              go_wp2_with fail
              refine hK.out _ _ (HLC.out _ HPR.out.one.bel) (fun hHeld2 => ?_)
              clear hK K 
              try simp only [Act.put, List.getElem_toArray, List.getElem_cons_zero, List.getElem_cons_succ, List.setIfInBounds_toArray, List.set_cons_zero, List.set_cons_succ]
              refine wpAnyH_ready (rs := [11, 13]) (by kernel_rfl) (by simp) ?_
              refine (AllReadyH.cons rfl (fun K hK => ?_) (AllReadyH.cons rfl (fun K hK => ?_) AllReadyH.nil))
              · go_simp
                go_at_call 17
                refine (mw_step w2 W2 G4 M2 _ HPR.out.two (HT.out.keep HBW.out) (HR.out.keep HBW.out) lev HLB.out.1 HLB.out.2 (HOL.out)).mono ?_
                rintro e W3 ⟨rfl, hto⟩
                obtain ⟨Gn, hp, hkk⟩ := HPR.out.swap.to hto
                have HPR := mhid hp.swap
                have HA := mhid (HA.out.two hkk)
                clear hto hp hkk
                obtain ⟨G4, rfl⟩ : ∃ g, g = Gn := ⟨_, rfl⟩
                go_wp2_with fail
                refine hK.out _ _ (HLC.out _ HPR.out.one.bel) (fun hHeld2 => ?_)
                clear hK K 
                try simp only [Act.put, List.getElem_toArray, List.getElem_cons_zero, List.getElem_cons_succ, List.setIfInBounds_toArray, List.set_cons_zero, List.set_cons_succ]
                refine wpAnyH_ready (rs := [13]) (by kernel_rfl) (by simp) ?_
                refine (AllReadyH.cons rfl (fun K hK => ?_) AllReadyH.nil)
                · go_simp
                  obtain ⟨B, hB⟩ : ∃ x, x = W3.heap.size := ⟨_, rfl⟩
                  obtain ⟨W4, hWn⟩ : ∃ Wn, Wn = W3.alloc (.cells #[.int .u8 0, .int .u32 0] 38) := ⟨_, rfl⟩
                  rw [← hWn, ← hB]
                  have hbn : Below W3.heap.size W3 W4 := by rw [hWn]; exact (Below.refl _ _).alloc (Nat.le_refl _) _
                  have HB := mhid (show PBox W4 G3 G4 B 38 [.int .u8 0, .int .u32 0] from ⟨by rw [hWn, hB]; exact ARow.fresh _ _ _, (HPR.out.none (by omega)).1, (HPR.out.none (by omega)).2⟩)
                  have HBL := mhid (show w2.heap.size ≤ B from by rw [hB]; exact HPR.out.one.bel.size)
                  have HAB := mhid (show A ≠ B from by have := HA.out.row.lt; omega)
                  have HA := mhid (HA.out.keepb hbn)
                  have HPR := mhid (HPR.out.keepb hbn)
                  clear hWn hbn hB
                  refine hK.out _ _ (HLC.out _ HPR.out.one.bel) (fun hHeld2 => ?_)
                  clear hK K 
                  try simp only [Act.put, List.getElem_toArray, List.getElem_cons_zero, List.getElem_cons_succ, List.setIfInBounds_toArray, List.set_cons_zero, List.set_cons_succ]
                  refine wpAnyH_ready (rs := [14]) (by kernel_rfl) (by simp) ?_
                  refine (AllReadyH.cons rfl (fun K hK => ?_) AllReadyH.nil)
                  refine step_store_row (by rfl) 38 (.tmp 10) (.tmp 54) (by rfl) A _ (by rfl) (by rfl) 38 #[.int .u8 0, .int .u32 0] HA.out.row (by kernel_rfl) (by rfl) (by simp [Value.oneCell']) ?_
                  obtain ⟨W8, hW8⟩ : ∃ W8, W8 = World.setRow W4 A #[.int .u8 (stepM (runL m0 levels k) lev).kind, .int .u32 (stepM (runL m0 levels k) lev).v] := ⟨_, rfl⟩
                  rw [← hW8]
                  have hO : Only (fun k => k = A) W4 W8 := by rw [hW8]; exact only_setRow _ _ _
                  have HPR := mhid (HPR.out.only hO (fun k e => by rw [e]; exact ⟨HA.out.n1, HA.out.n2⟩) (fun k e => by rw [e]; exact HAL.out))
                  have HA := mhid (show PBox W8 G3 G4 A 38 [.int .u8 (stepM (runL m0 levels k) lev).kind, .int .u32 (stepM (runL m0 levels k) lev).v] from ⟨by rw [hW8]; exact HA.out.row.setRow _, HA.out.n1, HA.out.n2⟩)
                  have HB := mhid (show PBox W8 G3 G4 B 38 [.int .u8 0, .int .u32 0] from ⟨HB.out.row.of_block (hO.block B HB.out.row.lt (fun e => HAB.out e.symm)), HB.out.n1, HB.out.n2⟩)
                  clear hW8 hO
                  refine hK.out _ _ (HLC.out _ HPR.out.one.bel) (fun hHeld2 => ?_)
                  clear hK K 
                  try simp only [Act.put, List.getElem_toArray, List.getElem_cons_zero, List.getElem_cons_succ, List.setIfInBounds_toArray, List.set_cons_zero, List.set_cons_succ]
                  refine wpAnyH_ready (rs := [15]) (by kernel_rfl) (by simp) ?_
                  refine (AllReadyH.cons rfl (fun K hK => ?_) AllReadyH.nil)
                  refine step_store_row (by rfl) 38 (.tmp 11) (.tmp 60) (by rfl) B _ (by rfl) (by rfl) 38 #[.int .u8 0, .int .u32 0] HB.out.row (by kernel_rfl) (by rfl) (by simp [Value.oneCell']) ?_
                  obtain ⟨W9, hW9⟩ : ∃ W9, W9 = World.setRow W8 B #[.int .u8 (stepM (runL m0 levels k) lev).kind, .int .u32 (stepM (runL m0 levels k) lev).v] := ⟨_, rfl⟩
                  rw [← hW9]
                  have hO : Only (fun k => k = B) W8 W9 := by rw [hW9]; exact only_setRow _ _ _
                  have HPR := mhid (HPR.out.only hO (fun k e => by rw [e]; exact ⟨HB.out.n1, HB.out.n2⟩) (fun k e => by rw [e]; exact HBL.out))
                  have HB := mhid (show PBox W9 G3 G4 B 38 [.int .u8 (stepM (runL m0 levels k) lev).kind, .int .u32 (stepM (runL m0 levels k) lev).v] from ⟨by rw [hW9]; exact HB.out.row.setRow _, HB.out.n1, HB.out.n2⟩)
                  have HA := mhid (show PBox W9 G3 G4 A 38 [.int .u8 (stepM (runL m0 levels k) lev).kind, .int .u32 (stepM (runL m0 levels k) lev).v] from ⟨HA.out.row.of_block (hO.block A HA.out.row.lt (fun e => HAB.out e)), HA.out.n1, HA.out.n2⟩)
                  clear hW9 hO
                  refine hK.out _ _ (HLC.out _ HPR.out.one.bel) (fun hHeld2 => ?_)
                  clear hK K 
                  try simp only [Act.put, List.getElem_toArray, List.getElem_cons_zero, List.getElem_cons_succ, List.setIfInBounds_toArray, List.set_cons_zero, List.set_cons_succ]
                  refine wpAnyH_done (by kernel_rfl) ?_ _
                  go_wp2_with fail
                  go_meet
                  exact ⟨A, B, rfl, rfl, G3, G4, HPR.out, HA.out, HB.out⟩
              · go_simp
                obtain ⟨B, hB⟩ : ∃ x, x = W2.heap.size := ⟨_, rfl⟩
                obtain ⟨W3, hWn⟩ : ∃ Wn, Wn = W2.alloc (.cells #[.int .u8 0, .int .u32 0] 38) := ⟨_, rfl⟩
                rw [← hWn, ← hB]
                have hbn : Below W2.heap.size W2 W3 := by rw [hWn]; exact (Below.refl _ _).alloc (Nat.le_refl _) _
                have HB := mhid (show PBox W3 G3 G4 B 38 [.int .u8 0, .int .u32 0] from ⟨by rw [hWn, hB]; exact ARow.fresh _ _ _, (HPR.out.none (by omega)).1, (HPR.out.none (by omega)).2⟩)
                have HBL := mhid (show w2.heap.size ≤ B from by rw [hB]; exact HPR.out.one.bel.size)
                have HAB := mhid (show A ≠ B from by have := HA.out.row.lt; omega)
                have HA := mhid (HA.out.keepb hbn)
                have HPR := mhid (HPR.out.keepb hbn)
                clear hWn hbn hB
                refine hK.out _ _ (HLC.out _ HPR.out.one.bel) (fun hHeld2 => ?_)
                clear hK K 
                try simp only [Act.put, List.getElem_toArray, List.getElem_cons_zero, List.getElem_cons_succ, List.setIfInBounds_toArray, List.set_cons_zero, List.set_cons_succ]
                refine wpAnyH_ready (rs := [11]) (by kernel_rfl) (by simp) ?_
                refine (AllReadyH.cons rfl (fun K hK => ?_) AllReadyH.nil)
                · go_simp
                  go_at_call 17
                  refine (mw_step w2 W3 G4 M2 _ HPR.out.two (HT.out.keep HBW.out) (HR.out.keep HBW.out) lev HLB.out.1 HLB.out.2 (HOL.out)).mono ?_
                  rintro e W4 ⟨rfl, hto⟩
                  obtain ⟨Gn, hp, hkk⟩ := HPR.out.swap.to hto
                  have HPR := mhid hp.swap
                  have HA := mhid (HA.out.two hkk)
                  have HB := mhid (HB.out.two hkk)
                  clear hto hp hkk
                  obtain ⟨G4, rfl⟩ : ∃ g, g = Gn := ⟨_, rfl⟩
                  go_wp2_with fail
                  refine hK.out _ _ (HLC.out _ HPR.out.one.bel) (fun hHeld2 => ?_)
                  clear hK K 
                  try simp only [Act.put, List.getElem_toArray, List.getElem_cons_zero, List.getElem_cons_succ, List.setIfInBounds_toArray, List.set_cons_zero, List.set_cons_succ]
                  refine wpAnyH_ready (rs := [14]) (by kernel_rfl) (by simp) ?_
                  refine (AllReadyH.cons rfl (fun K hK => ?_) AllReadyH.nil)
                  refine step_store_row (by rfl) 38 (.tmp 10) (.tmp 54) (by rfl) A _ (by rfl) (by rfl) 38 #[.int .u8 0, .int .u32 0] HA.out.row (by kernel_rfl) (by rfl) (by simp [Value.oneCell']) ?_
                  obtain ⟨W8, hW8⟩ : ∃ W8, W8 = World.setRow W4 A #[.int .u8 (stepM (runL m0 levels k) lev).kind, .int .u32 (stepM (runL m0 levels k) lev).v] := ⟨_, rfl⟩
                  rw [← hW8]
                  have hO : Only (fun k => k = A) W4 W8 := by rw [hW8]; exact only_setRow _ _ _
                  have HPR := mhid (HPR.out.only hO (fun k e => by rw [e]; exact ⟨HA.out.n1, HA.out.n2⟩) (fun k e => by rw [e]; exact HAL.out))
                  have HA := mhid (show PBox W8 G3 G4 A 38 [.int .u8 (stepM (runL m0 levels k) lev).kind, .int .u32 (stepM (runL m0 levels k) lev).v] from ⟨by rw [hW8]; exact HA.out.row.setRow _, HA.out.n1, HA.out.n2⟩)
                  have HB := mhid (show PBox W8 G3 G4 B 38 [.int .u8 0, .int .u32 0] from ⟨HB.out.row.of_block (hO.block B HB.out.row.lt (fun e => HAB.out e.symm)), HB.out.n1, HB.out.n2⟩)
                  clear hW8 hO
                  refine hK.out _ _ (HLC.out _ HPR.out.one.bel) (fun hHeld2 => ?_)
                  clear hK K 
                  try simp only [Act.put, List.getElem_toArray, List.getElem_cons_zero, List.getElem_cons_succ, List.setIfInBounds_toArray, List.set_cons_zero, List.set_cons_succ]
                  refine wpAnyH_ready (rs := [15]) (by kernel_rfl) (by simp) ?_
                  refine (AllReadyH.cons rfl (fun K hK => ?_) AllReadyH.nil)
                  refine step_store_row (by rfl) 38 (.tmp 11) (.tmp 60) (by rfl) B _ (by rfl) (by rfl) 38 #[.int .u8 0, .int .u32 0] HB.out.row (by kernel_rfl) (by rfl) (by simp [Value.oneCell']) ?_
                  obtain ⟨W9, hW9⟩ : ∃ W9, W9 = World.setRow W8 B #[.int .u8 (stepM (runL m0 levels k) lev).kind, .int .u32 (stepM (runL m0 levels k) lev).v] := ⟨_, rfl⟩
                  rw [← hW9]
                  have hO : Only (fun k => k = B) W8 W9 := by rw [hW9]; exact only_setRow _ _ _
                  have HPR := mhid (HPR.out.only hO (fun k e => by rw [e]; exact ⟨HB.out.n1, HB.out.n2⟩) (fun k e => by rw [e]; exact HBL.out))
                  have HB := mhid (show PBox W9 G3 G4 B 38 [.int .u8 (stepM (runL m0 levels k) lev).kind, .int .u32 (stepM (runL m0 levels k) lev).v] from ⟨by rw [hW9]; exact HB.out.row.setRow _, HB.out.n1, HB.out.n2⟩)
                  have HA := mhid (show PBox W9 G3 G4 A 38 [.int .u8 (stepM (runL m0 levels k) lev).kind, .int .u32 (stepM (runL m0 levels k) lev).v] from ⟨HA.out.row.of_block (hO.block A HA.out.row.lt (fun e => HAB.out e)), HA.out.n1, HA.out.n2⟩)
                  clear hW9 hO
                  refine hK.out _ _ (HLC.out _ HPR.out.one.bel) (fun hHeld2 => ?_)
                  clear hK K 
                  try simp only [Act.put, List.getElem_toArray, List.getElem_cons_zero, List.getElem_cons_succ, List.setIfInBounds_toArray, List.set_cons_zero, List.set_cons_succ]
                  refine wpAnyH_done (by kernel_rfl) ?_ _
                  go_wp2_with fail
                  go_meet
                  exact ⟨A, B, rfl, rfl, G3, G4, HPR.out, HA.out, HB.out⟩
            · go_simp
              obtain ⟨B, hB⟩ : ∃ x, x = W1.heap.size := ⟨_, rfl⟩
              obtain ⟨W2, hWn⟩ : ∃ Wn, Wn = W1.alloc (.cells #[.int .u8 0, .int .u32 0] 38) := ⟨_, rfl⟩
              rw [← hWn, ← hB]
              have hbn : Below W1.heap.size W1 W2 := by rw [hWn]; exact (Below.refl _ _).alloc (Nat.le_refl _) _
              have HB := mhid (show PBox W2 G3 G4 B 38 [.int .u8 0, .int .u32 0] from ⟨by rw [hWn, hB]; exact ARow.fresh _ _ _, (HPR.out.none (by omega)).1, (HPR.out.none (by omega)).2⟩)
              have HBL := mhid (show w2.heap.size ≤ B from by rw [hB]; exact HPR.out.one.bel.size)
              have HAB := mhid (show A ≠ B from by have := HA.out.row.lt; omega)
              have HA := mhid (HA.out.keepb hbn)
              have HPR := mhid (HPR.out.keepb hbn)
              clear hWn hbn hB
              refine hK.out _ _ (HLC.out _ HPR.out.one.bel) (fun hHeld2 => ?_)
              clear hK K 
              try simp only [Act.put, List.getElem_toArray, List.getElem_cons_zero, List.getElem_cons_succ, List.setIfInBounds_toArray, List.set_cons_zero, List.set_cons_succ]
              refine wpAnyH_ready (rs := [5]) (by kernel_rfl) (by simp) ?_
              refine (AllReadyH.cons rfl (fun K hK => ?_) AllReadyH.nil)
              · go_simp
                go_at_call 17
                refine (mw_step w2 W2 G3 M1 _ HPR.out.one (HT.out.keep HBW.out) (HR.out.keep HBW.out) lev HLB.out.1 HLB.out.2 (HOL.out)).mono ?_
                rintro e W3 ⟨rfl, hto⟩
                obtain ⟨Gn, hp, hkk⟩ := HPR.out.to hto
                have HPR := mhid hp
                have HA := mhid (HA.out.one hkk)
                have HB := mhid (HB.out.one hkk)
                clear hto hp hkk
                obtain ⟨G3, rfl⟩ : ∃ g, g = Gn := ⟨_, rfl⟩
                go_wp2_with fail
                refine hK.out _ _ (HLC.out _ HPR.out.one.bel) (fun hHeld2 => ?_)
                clear hK K 
                try simp only [Act.put, List.getElem_toArray, List.getElem_cons_zero, List.getElem_cons_succ, List.setIfInBounds_toArray, List.set_cons_zero, List.set_cons_succ]
                refine wpAnyH_ready (rs := [11]) (by kernel_rfl) (by simp) ?_
                refine (AllReadyH.cons rfl (fun K hK => ?_) AllReadyH.nil)
                · go_simp
                  go_at_call 17
                  refine (mw_step w2 W3 G4 M2 _ HPR.out.two (HT.out.keep HBW.out) (HR.out.keep HBW.out) lev HLB.out.1 HLB.out.2 (HOL.out)).mono ?_
                  rintro e W4 ⟨rfl, hto⟩
                  obtain ⟨Gn, hp, hkk⟩ := HPR.out.swap.to hto
                  have HPR := mhid hp.swap
                  have HA := mhid (HA.out.two hkk)
                  have HB := mhid (HB.out.two hkk)
                  clear hto hp hkk
                  obtain ⟨G4, rfl⟩ : ∃ g, g = Gn := ⟨_, rfl⟩
                  go_wp2_with fail
                  refine hK.out _ _ (HLC.out _ HPR.out.one.bel) (fun hHeld2 => ?_)
                  clear hK K 
                  try simp only [Act.put, List.getElem_toArray, List.getElem_cons_zero, List.getElem_cons_succ, List.setIfInBounds_toArray, List.set_cons_zero, List.set_cons_succ]
                  refine wpAnyH_ready (rs := [14]) (by kernel_rfl) (by simp) ?_
                  refine (AllReadyH.cons rfl (fun K hK => ?_) AllReadyH.nil)
                  refine step_store_row (by rfl) 38 (.tmp 10) (.tmp 54) (by rfl) A _ (by rfl) (by rfl) 38 #[.int .u8 0, .int .u32 0] HA.out.row (by kernel_rfl) (by rfl) (by simp [Value.oneCell']) ?_
                  obtain ⟨W8, hW8⟩ : ∃ W8, W8 = World.setRow W4 A #[.int .u8 (stepM (runL m0 levels k) lev).kind, .int .u32 (stepM (runL m0 levels k) lev).v] := ⟨_, rfl⟩
                  rw [← hW8]
                  have hO : Only (fun k => k = A) W4 W8 := by rw [hW8]; exact only_setRow _ _ _
                  have HPR := mhid (HPR.out.only hO (fun k e => by rw [e]; exact ⟨HA.out.n1, HA.out.n2⟩) (fun k e => by rw [e]; exact HAL.out))
                  have HA := mhid (show PBox W8 G3 G4 A 38 [.int .u8 (stepM (runL m0 levels k) lev).kind, .int .u32 (stepM (runL m0 levels k) lev).v] from ⟨by rw [hW8]; exact HA.out.row.setRow _, HA.out.n1, HA.out.n2⟩)
                  have HB := mhid (show PBox W8 G3 G4 B 38 [.int .u8 0, .int .u32 0] from ⟨HB.out.row.of_block (hO.block B HB.out.row.lt (fun e => HAB.out e.symm)), HB.out.n1, HB.out.n2⟩)
                  clear hW8 hO
                  refine hK.out _ _ (HLC.out _ HPR.out.one.bel) (fun hHeld2 => ?_)
                  clear hK K 
                  try simp only [Act.put, List.getElem_toArray, List.getElem_cons_zero, List.getElem_cons_succ, List.setIfInBounds_toArray, List.set_cons_zero, List.set_cons_succ]
                  refine wpAnyH_ready (rs := [15]) (by kernel_rfl) (by simp) ?_
                  refine (AllReadyH.cons rfl (fun K hK => ?_) AllReadyH.nil)
                  refine step_store_row (by rfl) 38 (.tmp 11) (.tmp 60) (by rfl) B _ (by rfl) (by rfl) 38 #[.int .u8 0, .int .u32 0] HB.out.row (by kernel_rfl) (by rfl) (by simp [Value.oneCell']) ?_
                  obtain ⟨W9, hW9⟩ : ∃ W9, W9 = World.setRow W8 B #[.int .u8 (stepM (runL m0 levels k) lev).kind, .int .u32 (stepM (runL m0 levels k) lev).v] := ⟨_, rfl⟩
                  rw [← hW9]
                  have hO : Only (fun k => k = B) W8 W9 := by rw [hW9]; exact only_setRow _ _ _
                  have HPR := mhid (HPR.out.only hO (fun k e => by rw [e]; exact ⟨HB.out.n1, HB.out.n2⟩) (fun k e => by rw [e]; exact HBL.out))
                  have HB := mhid (show PBox W9 G3 G4 B 38 [.int .u8 (stepM (runL m0 levels k) lev).kind, .int .u32 (stepM (runL m0 levels k) lev).v] from ⟨by rw [hW9]; exact HB.out.row.setRow _, HB.out.n1, HB.out.n2⟩)
                  have HA := mhid (show PBox W9 G3 G4 A 38 [.int .u8 (stepM (runL m0 levels k) lev).kind, .int .u32 (stepM (runL m0 levels k) lev).v] from ⟨HA.out.row.of_block (hO.block A HA.out.row.lt (fun e => HAB.out e)), HA.out.n1, HA.out.n2⟩)
                  clear hW9 hO
                  refine hK.out _ _ (HLC.out _ HPR.out.one.bel) (fun hHeld2 => ?_)
                  clear hK K 
                  try simp only [Act.put, List.getElem_toArray, List.getElem_cons_zero, List.getElem_cons_succ, List.setIfInBounds_toArray, List.set_cons_zero, List.set_cons_succ]
                  refine wpAnyH_done (by kernel_rfl) ?_ _
                  go_wp2_with fail
                  go_meet
                  exact ⟨A, B, rfl, rfl, G3, G4, HPR.out, HA.out, HB.out⟩
          · go_simp
            obtain ⟨B, hB⟩ : ∃ x, x = W0.heap.size := ⟨_, rfl⟩
            obtain ⟨W1, hWn⟩ : ∃ Wn, Wn = W0.alloc (.cells #[.int .u8 0, .int .u32 0] 38) := ⟨_, rfl⟩
            rw [← hWn, ← hB]
            have hbn : Below W0.heap.size W0 W1 := by rw [hWn]; exact (Below.refl _ _).alloc (Nat.le_refl _) _
            have HB := mhid (show PBox W1 G3 G4 B 38 [.int .u8 0, .int .u32 0] from ⟨by rw [hWn, hB]; exact ARow.fresh _ _ _, (HPR.out.none (by omega)).1, (HPR.out.none (by omega)).2⟩)
            have HBL := mhid (show w2.heap.size ≤ B from by rw [hB]; exact HPR.out.one.bel.size)
            have HPR := mhid (HPR.out.keepb hbn)
            clear hWn hbn hB
            refine hK.out _ _ (HLC.out _ HPR.out.one.bel) (fun hHeld2 => ?_)
            clear hK K 
            try simp only [Act.put, List.getElem_toArray, List.getElem_cons_zero, List.getElem_cons_succ, List.setIfInBounds_toArray, List.set_cons_zero, List.set_cons_succ]
            refine wpAnyH_ready (rs := [5, 12]) (by kernel_rfl) (by simp) ?_
            refine (AllReadyH.cons rfl (fun K hK => ?_) (AllReadyH.cons rfl (fun K hK => ?_) AllReadyH.nil))
            · go_simp
              go_at_call 17
              refine (mw_step w2 W1 G3 M1 _ HPR.out.one (HT.out.keep HBW.out) (HR.out.keep HBW.out) lev HLB.out.1 HLB.out.2 (HOL.out)).mono ?_
              rintro e W2 ⟨rfl, hto⟩
              obtain ⟨Gn, hp, hkk⟩ := HPR.out.to hto
              have HPR := mhid hp
              have HB := mhid (HB.out.one hkk)
              clear hto hp hkk
              obtain ⟨G3, rfl⟩ : ∃ g, g = Gn := ⟨_, rfl⟩
              go_wp2_with fail
              refine hK.out _ _ (HLC.out _ HPR.out.one.bel) (fun hHeld2 => ?_)
              clear hK K 
              try simp only [Act.put, List.getElem_toArray, List.getElem_cons_zero, List.getElem_cons_succ, List.setIfInBounds_toArray, List.set_cons_zero, List.set_cons_succ]
              refine wpAnyH_ready (rs := [11, 12]) (by kernel_rfl) (by simp) ?_
              refine (AllReadyH.cons rfl (fun K hK => ?_) (AllReadyH.cons rfl (fun K hK => ?_) AllReadyH.nil))
              · go_simp
                go_at_call 17
                refine (mw_step w2 W2 G4 M2 _ HPR.out.two (HT.out.keep HBW.out) (HR.out.keep HBW.out) lev HLB.out.1 HLB.out.2 (HOL.out)).mono ?_
                rintro e W3 ⟨rfl, hto⟩
                obtain ⟨Gn, hp, hkk⟩ := HPR.out.swap.to hto
                have HPR := mhid hp.swap
                have HB := mhid (HB.out.two hkk)
                clear hto hp hkk
                obtain ⟨G4, rfl⟩ : ∃ g, g = Gn := ⟨_, rfl⟩
                go_wp2_with fail
                refine hK.out _ _ (HLC.out _ HPR.out.one.bel) (fun hHeld2 => ?_)
                clear hK K 
                try simp only [Act.put, List.getElem_toArray, List.getElem_cons_zero, List.getElem_cons_succ, List.setIfInBounds_toArray, List.set_cons_zero, List.set_cons_succ]
                refine wpAnyH_ready (rs := [12]) (by kernel_rfl) (by simp) ?_
                refine (AllReadyH.cons rfl (fun K hK => ?_) AllReadyH.nil)
                · go_simp
                  obtain ⟨A, hA⟩ : ∃ x, x = W3.heap.size := ⟨_, rfl⟩
                  obtain ⟨W4, hWn⟩ : ∃ Wn, Wn = W3.alloc (.cells #[.int .u8 0, .int .u32 0] 38) := ⟨_, rfl⟩
                  rw [← hWn, ← hA]
                  have hbn : Below W3.heap.size W3 W4 := by rw [hWn]; exact (Below.refl _ _).alloc (Nat.le_refl _) _
                  have HA := mhid (show PBox W4 G3 G4 A 38 [.int .u8 0, .int .u32 0] from ⟨by rw [hWn, hA]; exact ARow.fresh _ _ _, (HPR.out.none (by omega)).1, (HPR.out.none (by omega)).2⟩)
                  have HAL := mhid (show w2.heap.size ≤ A from by rw [hA]; exact HPR.out.one.bel.size)
                  have HAB := mhid (show A ≠ B from by have := HB.out.row.lt; omega)
                  have HB := mhid (HB.out.keepb hbn)
                  have HPR := mhid (HPR.out.keepb hbn)
                  clear hWn hbn hA
                  refine hK.out _ _ (HLC.out _ HPR.out.one.bel) (fun hHeld2 => ?_)
                  clear hK K 
                  try simp only [Act.put, List.getElem_toArray, List.getElem_cons_zero, List.getElem_cons_succ, List.setIfInBounds_toArray, List.set_cons_zero, List.set_cons_succ]
                  refine wpAnyH_ready (rs := [14]) (by kernel_rfl) (by simp) ?_
                  refine (AllReadyH.cons rfl (fun K hK => ?_) AllReadyH.nil)
                  refine step_store_row (by rfl) 38 (.tmp 10) (.tmp 54) (by rfl) A _ (by rfl) (by rfl) 38 #[.int .u8 0, .int .u32 0] HA.out.row (by kernel_rfl) (by rfl) (by simp [Value.oneCell']) ?_
                  obtain ⟨W8, hW8⟩ : ∃ W8, W8 = World.setRow W4 A #[.int .u8 (stepM (runL m0 levels k) lev).kind, .int .u32 (stepM (runL m0 levels k) lev).v] := ⟨_, rfl⟩
                  rw [← hW8]
                  have hO : Only (fun k => k = A) W4 W8 := by rw [hW8]; exact only_setRow _ _ _
                  have HPR := mhid (HPR.out.only hO (fun k e => by rw [e]; exact ⟨HA.out.n1, HA.out.n2⟩) (fun k e => by rw [e]; exact HAL.out))
                  have HA := mhid (show PBox W8 G3 G4 A 38 [.int .u8 (stepM (runL m0 levels k) lev).kind, .int .u32 (stepM (runL m0 levels k) lev).v] from ⟨by rw [hW8]; exact HA.out.row.setRow _, HA.out.n1, HA.out.n2⟩)
                  have HB := mhid (show PBox W8 G3 G4 B 38 [.int .u8 0, .int .u32 0] from ⟨HB.out.row.of_block (hO.block B HB.out.row.lt (fun e => HAB.out e.symm)), HB.out.n1, HB.out.n2⟩)
                  clear hW8 hO
                  refine hK.out _ _ (HLC.out _ HPR.out.one.bel) (fun hHeld2 => ?_)
                  clear hK K 
                  try simp only [Act.put, List.getElem_toArray, List.getElem_cons_zero, List.getElem_cons_succ, List.setIfInBounds_toArray, List.set_cons_zero, List.set_cons_succ]
                  refine wpAnyH_ready (rs := [15]) (by kernel_rfl) (by simp) ?_
                  refine (AllReadyH.cons rfl (fun K hK => ?_) AllReadyH.nil)
                  refine step_store_row (by rfl) 38 (.tmp 11) (.tmp 60) (by rfl) B _ (by rfl) (by rfl) 38 #[.int .u8 0, .int .u32 0] HB.out.row (by kernel_rfl) (by rfl) (by simp [Value.oneCell']) ?_
                  obtain ⟨W9, hW9⟩ : ∃ W9, W9 = World.setRow W8 B #[.int .u8 (stepM (runL m0 levels k) lev).kind, .int .u32 (stepM (runL m0 levels k) lev).v] := ⟨_, rfl⟩
                  rw [← hW9]
                  have hO : Only (fun k => k = B) W8 W9 := by rw [hW9]; exact only_setRow _ _ _
                  have HPR := mhid (HPR.out.only hO (fun k e => by rw [e]; exact ⟨HB.out.n1, HB.out.n2⟩) (fun k e => by rw [e]; exact HBL.out))
                  have HB := mhid (show PBox W9 G3 G4 B 38 [.int .u8 (stepM (runL m0 levels k) lev).kind, .int .u32 (stepM (runL m0 levels k) lev).v] from ⟨by rw [hW9]; exact HB.out.row.setRow _, HB.out.n1, HB.out.n2⟩)
                  have HA := mhid (show PBox W9 G3 G4 A 38 [.int .u8 (stepM (runL m0 levels k) lev).kind, .int .u32 (stepM (runL m0 levels k) lev).v] from ⟨HA.out.row.of_block (hO.block A HA.out.row.lt (fun e => HAB.out e)), HA.out.n1, HA.out.n2⟩)
                  clear hW9 hO
                  refine hK.out _ _ (HLC.out _ HPR.out.one.bel) (fun hHeld2 => ?_)
                  clear hK K 
                  try simp only [Act.put, List.getElem_toArray, List.getElem_cons_zero, List.getElem_cons_succ, List.setIfInBounds_toArray, List.set_cons_zero, List.set_cons_succ]
                  refine wpAnyH_done (by kernel_rfl) ?_ _
                  go_wp2_with fail
                  go_meet
                  exact ⟨A, B, rfl, rfl, G3, G4, HPR.out, HA.out, HB.out⟩
              · go_simp
                obtain ⟨A, hA⟩ : ∃ x, x = W2.heap.size := ⟨_, rfl⟩
                obtain ⟨W3, hWn⟩ : ∃ Wn, Wn = W2.alloc (.cells #[.int .u8 0, .int .u32 0] 38) := ⟨_, rfl⟩
                rw [← hWn, ← hA]
                have hbn : Below W2.heap.size W2 W3 := by rw [hWn]; exact (Below.refl _ _).alloc (Nat.le_refl _) _
                have HA := mhid (show PBox W3 G3 G4 A 38 [.int .u8 0, .int .u32 0] from ⟨by rw [hWn, hA]; exact ARow.fresh _ _ _, (HPR.out.none (by omega)).1, (HPR.out.none (by omega)).2⟩)
                have HAL := mhid (show w2.heap.size ≤ A from by rw [hA]; exact HPR.out.one.bel.size)
                have HAB := mhid (show A ≠ B from by have := HB.out.row.lt; omega)
                have HB := mhid (HB.out.keepb hbn)
                have HPR := mhid (HPR.out.keepb hbn)
                clear hWn hbn hA
                refine hK.out _ _ (HLC.out _ HPR.out.one.bel) (fun hHeld2 => ?_)
                clear hK K 
                try simp only [Act.put, List.getElem_toArray, List.getElem_cons_zero, List.getElem_cons_succ, List.setIfInBounds_toArray, List.set_cons_zero, List.set_cons_succ]
                refine wpAnyH_ready (rs := [11]) (by kernel_rfl) (by simp) ?_
                refine (AllReadyH.cons rfl (fun K hK => ?_) AllReadyH.nil)
                · go_simp
                  go_at_call 17
                  refine (mw_step w2 W3 G4 M2 _ HPR.out.two (HT.out.keep HBW.out) (HR.out.keep HBW.out) lev HLB.out.1 HLB.out.2 (HOL.out)).mono ?_
                  rintro e W4 ⟨rfl, hto⟩
                  obtain ⟨Gn, hp, hkk⟩ := HPR.out.swap.to hto
                  have HPR := mhid hp.swap
                  have HA := mhid (HA.out.two hkk)
                  have HB := mhid (HB.out.two hkk)
                  clear hto hp hkk
                  obtain ⟨G4, rfl⟩ : ∃ g, g = Gn := ⟨_, rfl⟩
                  go_wp2_with fail
                  refine hK.out _ _ (HLC.out _ HPR.out.one.bel) (fun hHeld2 => ?_)
                  clear hK K 
                  try simp only [Act.put, List.getElem_toArray, List.getElem_cons_zero, List.getElem_cons_succ, List.setIfInBounds_toArray, List.set_cons_zero, List.set_cons_succ]
                  refine wpAnyH_ready (rs := [14]) (by kernel_rfl) (by simp) ?_
                  refine (AllReadyH.cons rfl (fun K hK => ?_) AllReadyH.nil)
                  refine step_store_row (by rfl) 38 (.tmp 10) (.tmp 54) (by rfl) A _ (by rfl) (by rfl) 38 #[.int .u8 0, .int .u32 0] HA.out.row (by kernel_rfl) (by rfl) (by simp [Value.oneCell']) ?_
                  obtain ⟨W8, hW8⟩ : ∃ W8, W8 = World.setRow W4 A #[.int .u8 (stepM (runL m0 levels k) lev).kind, .int .u32 (stepM (runL m0 levels k) lev).v] := ⟨_, rfl⟩
                  rw [← hW8]
                  have hO : Only (fun k => k = A) W4 W8 := by rw [hW8]; exact only_setRow _ _ _
                  have HPR := mhid (HPR.out.only hO (fun k e => by rw [e]; exact ⟨HA.out.n1, HA.out.n2⟩) (fun k e => by rw [e]; exact HAL.out))
                  have HA := mhid (show PBox W8 G3 G4 A 38 [.int .u8 (stepM (runL m0 levels k) lev).kind, .int .u32 (stepM (runL m0 levels k) lev).v] from ⟨by rw [hW8]; exact HA.out.row.setRow _, HA.out.n1, HA.out.n2⟩)
                  have HB := mhid (show PBox W8 G3 G4 B 38 [.int .u8 0, .int .u32 0] from ⟨HB.out.row.of_block (hO.block B HB.out.row.lt (fun e => HAB.out e.symm)), HB.out.n1, HB.out.n2⟩)
                  clear hW8 hO
                  refine hK.out _ _ (HLC.out _ HPR.out.one.bel) (fun hHeld2 => ?_)
                  clear hK K 
                  try simp only [Act.put, List.getElem_toArray, List.getElem_cons_zero, List.getElem_cons_succ, List.setIfInBounds_toArray, List.set_cons_zero, List.set_cons_succ]
                  refine wpAnyH_ready (rs := [15]) (by kernel_rfl) (by simp) ?_
                  refine (AllReadyH.cons rfl (fun K hK => ?_) AllReadyH.nil)
                  refine step_store_row (by rfl) 38 (.tmp 11) (.tmp 60) (by rfl) B _ (by rfl) (by rfl) 38 #[.int .u8 0, .int .u32 0] HB.out.row (by kernel_rfl) (by rfl) (by simp [Value.oneCell']) ?_
                  obtain ⟨W9, hW9⟩ : ∃ W9, W9 = World.setRow W8 B #[.int .u8 (stepM (runL m0 levels k) lev).kind, .int .u32 (stepM (runL m0 levels k) lev).v] := ⟨_, rfl⟩
                  rw [← hW9]
                  have hO : Only (fun k => k = B) W8 W9 := by rw [hW9]; exact only_setRow _ _ _
                  have HPR := mhid (HPR.out.only hO (fun k e => by rw [e]; exact ⟨HB.out.n1, HB.out.n2⟩) (fun k e => by rw [e]; exact HBL.out))
                  have HB := mhid (show PBox W9 G3 G4 B 38 [.int .u8 (stepM (runL m0 levels k) lev).kind, .int .u32 (stepM (runL m0 levels k) lev).v] from ⟨by rw [hW9]; exact HB.out.row.setRow _, HB.out.n1, HB.out.n2⟩)
                  have HA := mhid (show PBox W9 G3 G4 A 38 [.int .u8 (stepM (runL m0 levels k) lev).kind, .int .u32 (stepM (runL m0 levels k) lev).v] from ⟨HA.out.row.of_block (hO.block A HA.out.row.lt (fun e => HAB.out e)), HA.out.n1, HA.out.n2⟩)
                  clear hW9 hO
                  refine hK.out _ _ (HLC.out _ HPR.out.one.bel) (fun hHeld2 => ?_)
                  clear hK K 
                  try simp only [Act.put, List.getElem_toArray, List.getElem_cons_zero, List.getElem_cons_succ, List.setIfInBounds_toArray, List.set_cons_zero, List.set_cons_succ]
                  refine wpAnyH_done (by kernel_rfl) ?_ _
                  go_wp2_with fail
                  go_meet
                  exact ⟨A, B, rfl, rfl, G3, G4, HPR.out, HA.out, HB.out⟩
            · go_simp
              obtain ⟨A, hA⟩ : ∃ x, x = W1.heap.size := ⟨_, rfl⟩
              obtain ⟨W2, hWn⟩ : ∃ Wn, Wn = W1.alloc (.cells #[.int .u8 0, .int .u32 0] 38) := ⟨_, rfl⟩
              rw [← hWn, ← hA]
              have hbn : Below W1.heap.size W1 W2 := by rw [hWn]; exact (Below.refl _ _).alloc (Nat.le_refl _) _
              have HA := mhid (show PBox W2 G3 G4 A 38 [.int .u8 0, .int .u32 0] from ⟨by rw [hWn, hA]; exact ARow.fresh _ _ _, (HPR.out.none (by omega)).1, (HPR.out.none (by omega)).2⟩)
              have HAL := mhid (show w2.heap.size ≤ A from by rw [hA]; exact HPR.out.one.bel.size)
              have HAB := mhid (show A ≠ B from by have := HB.out.row.lt; omega)
              have HB := mhid (HB.out.keepb hbn)
              have HPR := mhid (HPR.out.keepb hbn)
              clear hWn hbn hA
              refine hK.out _ _ (HLC.out _ HPR.out.one.bel) (fun hHeld2 => ?_)
              clear hK K 
              try simp only [Act.put, List.getElem_toArray, List.getElem_cons_zero, List.getElem_cons_succ, List.setIfInBounds_toArray, List.set_cons_zero, List.set_cons_succ]
              refine wpAnyH_ready (rs := [5]) (by kernel_rfl) (by simp) ?_
              refine (AllReadyH.cons rfl (fun K hK => ?_) AllReadyH.nil)
              · go_simp
                go_at_call 17
                refine (mw_step w2 W2 G3 M1 _ HPR.out.one (HT.out.keep HBW.out) (HR.out.keep HBW.out) lev HLB.out.1 HLB.out.2 (HOL.out)).mono ?_
                rintro e W3 ⟨rfl, hto⟩
                obtain ⟨Gn, hp, hkk⟩ := HPR.out.to hto
                have HPR := mhid hp
                have HA := mhid (HA.out.one hkk)
                have HB := mhid (HB.out.one hkk)
                clear hto hp hkk
                obtain ⟨G3, rfl⟩ : ∃ g, g = Gn := ⟨_, rfl⟩
                go_wp2_with fail
                refine hK.out _ _ (HLC.out _ HPR.out.one.bel) (fun hHeld2 => ?_)
                clear hK K 
                try simp only [Act.put, List.getElem_toArray, List.getElem_cons_zero, List.getElem_cons_succ, List.setIfInBounds_toArray, List.set_cons_zero, List.set_cons_succ]
                refine wpAnyH_ready (rs := [11]) (by kernel_rfl) (by simp) ?_
                refine (AllReadyH.cons rfl (fun K hK => ?_) AllReadyH.nil)
                · go_simp
                  go_at_call 17
                  refine (mw_step w2 W3 G4 M2 _ HPR.out.two (HT.out.keep HBW.out) (HR.out.keep HBW.out) lev HLB.out.1 HLB.out.2 (HOL.out)).mono ?_
                  rintro e W4 ⟨rfl, hto⟩
                  obtain ⟨Gn, hp, hkk⟩ := HPR.out.swap.to hto
                  have HPR := mhid hp.swap
                  have HA := mhid (HA.out.two hkk)
                  have HB := mhid (HB.out.two hkk)
                  clear hto hp hkk
                  obtain ⟨G4, rfl⟩ : ∃ g, g = Gn := ⟨_, rfl⟩
                  go_wp2_with fail
                  refine hK.out _ _ (HLC.out _ HPR.out.one.bel) (fun hHeld2 => ?_)
                  clear hK K 
                  try simp only [Act.put, List.getElem_toArray, List.getElem_cons_zero, List.getElem_cons_succ, List.setIfInBounds_toArray, List.set_cons_zero, List.set_cons_succ]
                  refine wpAnyH_ready (rs := [14]) (by kernel_rfl) (by simp) ?_
                  refine (AllReadyH.cons rfl (fun K hK => ?_) AllReadyH.nil)
                  refine step_store_row (by rfl) 38 (.tmp 10) (.tmp 54) (by rfl) A _ (by rfl) (by rfl) 38 #[.int .u8 0, .int .u32 0] HA.out.row (by kernel_rfl) (by rfl) (by simp [Value.oneCell']) ?_
                  obtain ⟨W8, hW8⟩ : ∃ W8, W8 = World.setRow W4 A #[.int .u8 (stepM (runL m0 levels k) lev).kind, .int .u32 (stepM (runL m0 levels k) lev).v] := ⟨_, rfl⟩
                  rw [← hW8]
                  have hO : Only (fun k => k = A) W4 W8 := by rw [hW8]; exact only_setRow _ _ _
                  have HPR := mhid (HPR.out.only hO (fun k e => by rw [e]; exact ⟨HA.out.n1, HA.out.n2⟩) (fun k e => by rw [e]; exact HAL.out))
                  have HA := mhid (show PBox W8 G3 G4 A 38 [.int .u8 (stepM (runL m0 levels k) lev).kind, .int .u32 (stepM (runL m0 levels k) lev).v] from ⟨by rw [hW8]; exact HA.out.row.setRow _, HA.out.n1, HA.out.n2⟩)
                  have HB := mhid (show PBox W8 G3 G4 B 38 [.int .u8 0, .int .u32 0] from ⟨HB.out.row.of_block (hO.block B HB.out.row.lt (fun e => HAB.out e.symm)), HB.out.n1, HB.out.n2⟩)
                  clear hW8 hO
                  refine hK.out _ _ (HLC.out _ HPR.out.one.bel) (fun hHeld2 => ?_)
                  clear hK K 
                  try simp only [Act.put, List.getElem_toArray, List.getElem_cons_zero, List.getElem_cons_succ, List.setIfInBounds_toArray, List.set_cons_zero, List.set_cons_succ]
                  refine wpAnyH_ready (rs := [15]) (by kernel_rfl) (by simp) ?_
                  refine (AllReadyH.cons rfl (fun K hK => ?_) AllReadyH.nil)
                  refine step_store_row (by rfl) 38 (.tmp 11) (.tmp 60) (by rfl) B _ (by rfl) (by rfl) 38 #[.int .u8 0, .int .u32 0] HB.out.row (by kernel_rfl) (by rfl) (by simp [Value.oneCell']) ?_
                  obtain ⟨W9, hW9⟩ : ∃ W9, W9 = World.setRow W8 B #[.int .u8 (stepM (runL m0 levels k) lev).kind, .int .u32 (stepM (runL m0 levels k) lev).v] := ⟨_, rfl⟩
                  rw [← hW9]
                  have hO : Only (fun k => k = B) W8 W9 := by rw [hW9]; exact only_setRow _ _ _
                  have HPR := mhid (HPR.out.only hO (fun k e => by rw [e]; exact ⟨HB.out.n1, HB.out.n2⟩) (fun k e => by rw [e]; exact HBL.out))
                  have HB := mhid (show PBox W9 G3 G4 B 38 [.int .u8 (stepM (runL m0 levels k) lev).kind, .int .u32 (stepM (runL m0 levels k) lev).v] from ⟨by rw [hW9]; exact HB.out.row.setRow _, HB.out.n1, HB.out.n2⟩)
                  have HA := mhid (show PBox W9 G3 G4 A 38 [.int .u8 (stepM (runL m0 levels k) lev).kind, .int .u32 (stepM (runL m0 levels k) lev).v] from ⟨HA.out.row.of_block (hO.block A HA.out.row.lt (fun e => HAB.out e)), HA.out.n1, HA.out.n2⟩)
                  clear hW9 hO
                  refine hK.out _ _ (HLC.out _ HPR.out.one.bel) (fun hHeld2 => ?_)
                  clear hK K 
                  try simp only [Act.put, List.getElem_toArray, List.getElem_cons_zero, List.getElem_cons_succ, List.setIfInBounds_toArray, List.set_cons_zero, List.set_cons_succ]
                  refine wpAnyH_done (by kernel_rfl) ?_ _
                  go_wp2_with fail
                  go_meet
                  exact ⟨A, B, rfl, rfl, G3, G4, HPR.out, HA.out, HB.out⟩
          -- END10
        case rest =>
          obtain ⟨A, B, rfl, rfl, G5, G6, hP, hA, hB⟩ := hcut
          obtain ⟨w9, rfl⟩ : ∃ W, W = wc := ⟨_, rfl⟩
          have HP := mhid hP
          have HA := mhid hA
          have HB := mhid hB
          clear hP hA hB
          rw [← HRL.out] at HP HA HB
          have HOL := mhid (show (runL m0 levels (k + 1)).out.length ≤ k + 1 from by have := runL_out m0 levels (k + 1); rw [HMX.out.1.2] at this; simp at this; omega)
          clear HRL
          generalize hmk : runL m0 levels (k + 1) = mk at *
          have HMK := mhid hmk
          clear hmk
          have a0 := HA.out.row.cell (k := 0) rfl
          have a1 := HA.out.row.cell (k := 1) rfl
          have b0 := HB.out.row.cell (k := 0) rfl
          have b1 := HB.out.row.cell (k := 1) rfl
          go_wp2_with fail
          refine (mpc_any w9 G5 M1 _ HP.out.one.at').mono ?_
          rintro e w' ⟨rfl, rfl⟩
          go_wp2_with fail
          refine (mpc_any w9 G6 M2 _ HP.out.two.at').mono ?_
          rintro e w' ⟨rfl, rfl⟩
          go_wp2_with fail
          refine (mpsr_any w9 G5 M1 _ HP.out.one.at').mono ?_
          rintro e w10 ⟨rfl, hbp⟩
          have HP := mhid (HP.out.keepb hbp)
          have HA := mhid (HA.out.keepb hbp)
          clear hbp a0 a1 b0 b1 HB
          go_wp2_with fail
          refine (mpsr_any w10 G6 M2 _ HP.out.two.at').mono ?_
          rintro e w11 ⟨rfl, hbp⟩
          have HP := mhid (HP.out.keepb hbp)
          have HA := mhid (HA.out.keepb hbp)
          clear hbp
          have a0 := HA.out.row.cell (k := 0) rfl
          by_cases hkd : mk.kind = 0
          · have hkb : (mk.kind == 0) = true := by rw [beq_iff_eq]; exact hkd
            go_wp2_with fail
            exact ⟨⟨k + 1, by go_num, by omega, by omega, G5, G6, by rw [HMK.out]; exact HP.out⟩, by simp only [intOf]; omega⟩
          · have hkb : (mk.kind == 0) = false := by rw [beq_eq_false_iff_ne]; exact hkd
            have HKD := mhid hkd
            clear hkd
            go_wp2_with fail
            refine (mpc_any w11 G5 M1 _ HP.out.one.at').mono ?_
            rintro e w' ⟨rfl, rfl⟩
            go_wp2_with fail
            refine (mpsr_any w11 G5 M1 _ HP.out.one.at').mono ?_
            rintro e w12 ⟨rfl, hbp⟩
            have HP := mhid (HP.out.keepb hbp)
            have HA := mhid (HA.out.keepb hbp)
            clear hbp a0
            go_wp2_with fail
            refine (mw_out w2 w12 G5 M1 _ HP.out.one (by have := HOL.out; omega)).mono ?_
            rintro e w13 ⟨vo, rfl, hvo, hbp⟩
            obtain ⟨po, co, hve⟩ : ∃ p c, vo = .slice p mk.out.length c := by obtain ⟨-, p, c, hve, -⟩ := hvo.1; exact ⟨p, c, hve⟩
            subst hve
            have HP := mhid (HP.out.keepb hbp)
            have HA := mhid (HA.out.keepb hbp)
            clear hbp hvo
            obtain ⟨D, hD⟩ : ∃ D, D = w13.heap.size := ⟨_, rfl⟩
            obtain ⟨w14, hw14⟩ : ∃ W, W = w13.alloc (.cells #[.int .u8 mk.p.cwp, .int .u8 mk.p.pil, .int .u8 mk.p.bank, .int .u8 mk.p.flags] 53) := ⟨_, rfl⟩
            have hbn : Below w13.heap.size w13 w14 := by rw [hw14]; exact (Below.refl _ _).alloc (Nat.le_refl _) _
            have HD := mhid (show PBox w14 G5 G6 D 53 [.int .u8 mk.p.cwp, .int .u8 mk.p.pil, .int .u8 mk.p.bank, .int .u8 mk.p.flags] from ⟨by rw [hw14, hD]; exact ARow.fresh _ _ _, (HP.out.none (by omega)).1, (HP.out.none (by omega)).2⟩)
            have HP := mhid (HP.out.keepb hbn)
            have HA := mhid (HA.out.keepb hbn)
            have HW14 := mhid (And.intro hw14 hD)
            clear hw14 hbn hD
            go_wp2_with fail
            rw [← HW14.out.2, ← HW14.out.1]
-- REGION15
            have HPR := mhid (HP.out.keepb (w' := w14.drew) ((Below.refl _ _).drew))
            have HA := mhid (HA.out.keepb (w' := w14.drew) ((Below.refl _ _).drew))
            have HD := mhid (HD.out.keepb (w' := w14.drew) ((Below.refl _ _).drew))
            refine wp_region_held_drew (S := (fun w' => w'.cell? ⟨lb, lo + k, none⟩ = some (.int .u8 lev) ∧ w'.cell? ⟨A, 0, none⟩ = some (.int .u8 mk.kind) ∧ w'.cell? ⟨A, 1, none⟩ = some (.int .u32 mk.v) ∧ w'.cell? ⟨D, 0, none⟩ = some (.int .u8 mk.p.cwp) ∧ w'.cell? ⟨D, 1, none⟩ = some (.int .u8 mk.p.pil) ∧ w'.cell? ⟨D, 2, none⟩ = some (.int .u8 mk.p.bank) ∧ w'.cell? ⟨D, 3, none⟩ = some (.int .u8 mk.p.flags))) (by kernel_rfl) (⟨HLC.out _ HPR.out.one.bel, HA.out.row.cell (k := 0) rfl, HA.out.row.cell (k := 1) rfl, HD.out.row.cell (k := 0) rfl, HD.out.row.cell (k := 1) rfl, HD.out.row.cell (k := 2) rfl, HD.out.row.cell (k := 3) rfl⟩) (fun hHeld => ?_)
            obtain ⟨W0, hW0⟩ : ∃ W0, W0 = w14.drew := ⟨_, rfl⟩
            rw [← hW0] at hHeld HPR HA HD ⊢
            clear hW0
            try simp only [List.getElem_toArray, List.getElem_cons_zero, List.getElem_cons_succ]
            refine wpAnyH_take (i := 0) (v := _) rfl (by kernel_rfl) (by kernel_rfl) (by kernel_rfl) (fun _ _ _ h => h) (Or.inl ⟨by rfl, (by intro w hSw; (try dsimp only at hSw); go_simp; try with_reducible rfl)⟩) (by assumption) ?_
            try simp only [Act.put, List.getElem_toArray, List.getElem_cons_zero, List.getElem_cons_succ, List.setIfInBounds_toArray, List.set_cons_zero, List.set_cons_succ]
            refine wpAnyH_take (i := 1) (v := _) rfl (by kernel_rfl) (by kernel_rfl) (by kernel_rfl) (fun _ _ _ h => h) (Or.inl ⟨by rfl, (by intro w hSw; (try dsimp only at hSw); go_simp; try with_reducible rfl)⟩) (by assumption) ?_
            try simp only [Act.put, List.getElem_toArray, List.getElem_cons_zero, List.getElem_cons_succ, List.setIfInBounds_toArray, List.set_cons_zero, List.set_cons_succ]
            refine wpAnyH_take (i := 2) (v := _) rfl (by kernel_rfl) (by kernel_rfl) (by kernel_rfl) (fun _ _ _ h => h) (Or.inl ⟨by rfl, (by intro w hSw; (try dsimp only at hSw); go_simp; try with_reducible rfl)⟩) (by assumption) ?_
            try simp only [Act.put, List.getElem_toArray, List.getElem_cons_zero, List.getElem_cons_succ, List.setIfInBounds_toArray, List.set_cons_zero, List.set_cons_succ]
            refine wpAnyH_take (i := 3) (v := _) rfl (by kernel_rfl) (by kernel_rfl) (by kernel_rfl) (fun _ _ _ h => h) (Or.inl ⟨by rfl, (by intro w hSw; (try dsimp only at hSw); go_simp; try with_reducible rfl)⟩) (by assumption) ?_
            try simp only [Act.put, List.getElem_toArray, List.getElem_cons_zero, List.getElem_cons_succ, List.setIfInBounds_toArray, List.set_cons_zero, List.set_cons_succ]
            refine wpAnyH_take (i := 4) (v := _) rfl (by kernel_rfl) (by kernel_rfl) (by kernel_rfl) (fun _ _ _ h => h) (Or.inl ⟨by rfl, (by intro w hSw; (try dsimp only at hSw); go_simp; try with_reducible rfl)⟩) (by assumption) ?_
            try simp only [Act.put, List.getElem_toArray, List.getElem_cons_zero, List.getElem_cons_succ, List.setIfInBounds_toArray, List.set_cons_zero, List.set_cons_succ]
            refine wpAnyH_take (i := 6) (v := _) rfl (by kernel_rfl) (by kernel_rfl) (by kernel_rfl) (fun _ _ _ h => h) (Or.inl ⟨by rfl, (by intro w hSw; (try dsimp only at hSw); go_simp; try with_reducible rfl)⟩) (by assumption) ?_
            try simp only [Act.put, List.getElem_toArray, List.getElem_cons_zero, List.getElem_cons_succ, List.setIfInBounds_toArray, List.set_cons_zero, List.set_cons_succ]
            refine wpAnyH_ready (rs := [5]) (by kernel_rfl) (by simp) ?_
            refine (AllReadyH.cons rfl (fun K hK => ?_) AllReadyH.nil)
            go_simp
            go_at_call 17
            have hst := mw_step w2 W0 G5 M1 _ HPR.out.one (HT.out.keep HBW.out) (HR.out.keep HBW.out) lev HLB.out.1 HLB.out.2 (by have := HOL.out; omega)
            rw [stands mk lev HKD.out] at hst
            refine hst.mono ?_
            rintro e W1 ⟨rfl, hto⟩
            obtain ⟨Gn, hp, hkk⟩ := HPR.out.to hto
            have HPR := mhid hp
            have HA := mhid (HA.out.one hkk)
            have HD := mhid (HD.out.one hkk)
            clear hto hp hkk hst
            go_wp2_with fail
            refine hK.out _ _ (⟨HLC.out _ HPR.out.one.bel, HA.out.row.cell (k := 0) rfl, HA.out.row.cell (k := 1) rfl, HD.out.row.cell (k := 0) rfl, HD.out.row.cell (k := 1) rfl, HD.out.row.cell (k := 2) rfl, HD.out.row.cell (k := 3) rfl⟩) (fun hHeld2 => ?_)
            clear hK K 
            try simp only [Act.put, List.getElem_toArray, List.getElem_cons_zero, List.getElem_cons_succ, List.setIfInBounds_toArray, List.set_cons_zero, List.set_cons_succ]
            refine wpAnyH_take (i := 7) (v := _) rfl (by kernel_rfl) (by kernel_rfl) (by kernel_rfl) (fun _ _ _ h => h) (Or.inl ⟨by rfl, (by intro w hSw; (try dsimp only at hSw); go_simp; try with_reducible rfl)⟩) (by assumption) ?_
            try simp only [Act.put, List.getElem_toArray, List.getElem_cons_zero, List.getElem_cons_succ, List.setIfInBounds_toArray, List.set_cons_zero, List.set_cons_succ]
            refine wpAnyH_take (i := 8) (v := _) rfl (by kernel_rfl) (by kernel_rfl) (by kernel_rfl) (fun _ _ _ h => h) (Or.inl ⟨by rfl, (by intro w hSw; (try dsimp only at hSw); go_simp; try with_reducible rfl)⟩) (by assumption) ?_
            try simp only [Act.put, List.getElem_toArray, List.getElem_cons_zero, List.getElem_cons_succ, List.setIfInBounds_toArray, List.set_cons_zero, List.set_cons_succ]
            refine wpAnyH_take (i := 9) (v := _) rfl (by kernel_rfl) (by kernel_rfl) (by kernel_rfl) (fun _ _ _ h => h) (Or.inl ⟨by rfl, (by intro w hSw; (try dsimp only at hSw); go_simp; try with_reducible rfl)⟩) (by assumption) ?_
            try simp only [Act.put, List.getElem_toArray, List.getElem_cons_zero, List.getElem_cons_succ, List.setIfInBounds_toArray, List.set_cons_zero, List.set_cons_succ]
            refine wpAnyH_take (i := 11) (v := _) rfl (by kernel_rfl) (by kernel_rfl) (by kernel_rfl) (fun _ _ _ h => h) (Or.inl ⟨by rfl, (by intro w hSw; (try dsimp only at hSw); go_simp; try with_reducible rfl)⟩) (by assumption) ?_
            try simp only [Act.put, List.getElem_toArray, List.getElem_cons_zero, List.getElem_cons_succ, List.setIfInBounds_toArray, List.set_cons_zero, List.set_cons_succ]
            refine wpAnyH_ready (rs := [10]) (by kernel_rfl) (by simp) ?_
            refine (AllReadyH.cons rfl (fun K hK => ?_) AllReadyH.nil)
            go_simp
            go_at_call 17
            have hst := mw_step w2 W1 Gn M1 _ HPR.out.one (HT.out.keep HBW.out) (HR.out.keep HBW.out) 15 (by omega) (by omega) (by have := HOL.out; omega)
            rw [stands mk 15 HKD.out] at hst
            refine hst.mono ?_
            rintro e W2 ⟨rfl, hto⟩
            obtain ⟨Gn, hp, hkk⟩ := HPR.out.to hto
            have HPR := mhid hp
            have HA := mhid (HA.out.one hkk)
            have HD := mhid (HD.out.one hkk)
            clear hto hp hkk hst
            go_wp2_with fail
            refine hK.out _ _ (⟨HLC.out _ HPR.out.one.bel, HA.out.row.cell (k := 0) rfl, HA.out.row.cell (k := 1) rfl, HD.out.row.cell (k := 0) rfl, HD.out.row.cell (k := 1) rfl, HD.out.row.cell (k := 2) rfl, HD.out.row.cell (k := 3) rfl⟩) (fun hHeld2 => ?_)
            clear hK K 
            try simp only [Act.put, List.getElem_toArray, List.getElem_cons_zero, List.getElem_cons_succ, List.setIfInBounds_toArray, List.set_cons_zero, List.set_cons_succ]
            refine wpAnyH_take (i := 12) (v := _) rfl (by kernel_rfl) (by kernel_rfl) (by kernel_rfl) (fun _ _ _ h => h) (Or.inl ⟨by rfl, (by intro w hSw; (try dsimp only at hSw); go_simp; try with_reducible rfl)⟩) (by assumption) ?_
            try simp only [Act.put, List.getElem_toArray, List.getElem_cons_zero, List.getElem_cons_succ, List.setIfInBounds_toArray, List.set_cons_zero, List.set_cons_succ]
            refine wpAnyH_take (i := 13) (v := _) rfl (by kernel_rfl) (by kernel_rfl) (by kernel_rfl) (fun _ _ _ h => h) (Or.inl ⟨by rfl, (by intro w hSw; (try dsimp only at hSw); go_simp; try with_reducible rfl)⟩) (by assumption) ?_
            try simp only [Act.put, List.getElem_toArray, List.getElem_cons_zero, List.getElem_cons_succ, List.setIfInBounds_toArray, List.set_cons_zero, List.set_cons_succ]
            refine wpAnyH_take (i := 14) (v := _) rfl (by kernel_rfl) (by kernel_rfl) (by kernel_rfl) (fun _ _ _ h => h) (Or.inl ⟨by rfl, (by intro w hSw; (try dsimp only at hSw); go_simp; try with_reducible rfl)⟩) (by assumption) ?_
            try simp only [Act.put, List.getElem_toArray, List.getElem_cons_zero, List.getElem_cons_succ, List.setIfInBounds_toArray, List.set_cons_zero, List.set_cons_succ]
            refine wpAnyH_take (i := 15) (v := _) rfl (by kernel_rfl) (by kernel_rfl) (by kernel_rfl) (fun _ _ _ h => h) (Or.inl ⟨by rfl, (by intro w hSw; (try dsimp only at hSw); go_simp; try with_reducible rfl)⟩) (by assumption) ?_
            try simp only [Act.put, List.getElem_toArray, List.getElem_cons_zero, List.getElem_cons_succ, List.setIfInBounds_toArray, List.set_cons_zero, List.set_cons_succ]
            refine wpAnyH_take (i := 17) (v := _) rfl (by kernel_rfl) (by kernel_rfl) (by kernel_rfl) (fun _ _ _ h => h) (Or.inl ⟨by rfl, (by intro w hSw; (try dsimp only at hSw); go_simp; try with_reducible rfl)⟩) (by assumption) ?_
            try simp only [Act.put, List.getElem_toArray, List.getElem_cons_zero, List.getElem_cons_succ, List.setIfInBounds_toArray, List.set_cons_zero, List.set_cons_succ]
            refine wpAnyH_ready (rs := [16]) (by kernel_rfl) (by simp) ?_
            refine (AllReadyH.cons rfl (fun K hK => ?_) AllReadyH.nil)
            go_simp
            go_at_call 18
            refine (mpc_any W2 _ M1 _ HPR.out.one.at').mono ?_
            rintro e w' ⟨rfl, rfl⟩
            go_wp2_with fail
            refine hK.out _ _ (⟨HLC.out _ HPR.out.one.bel, HA.out.row.cell (k := 0) rfl, HA.out.row.cell (k := 1) rfl, HD.out.row.cell (k := 0) rfl, HD.out.row.cell (k := 1) rfl, HD.out.row.cell (k := 2) rfl, HD.out.row.cell (k := 3) rfl⟩) (fun hHeld2 => ?_)
            clear hK K 
            try simp only [Act.put, List.getElem_toArray, List.getElem_cons_zero, List.getElem_cons_succ, List.setIfInBounds_toArray, List.set_cons_zero, List.set_cons_succ]
            refine wpAnyH_take (i := 18) (v := _) rfl (by kernel_rfl) (by kernel_rfl) (by kernel_rfl) (fun _ _ _ h => h) (Or.inl ⟨by rfl, (by intro w hSw; (try dsimp only at hSw); go_simp; try with_reducible rfl)⟩) (by assumption) ?_
            try simp only [Act.put, List.getElem_toArray, List.getElem_cons_zero, List.getElem_cons_succ, List.setIfInBounds_toArray, List.set_cons_zero, List.set_cons_succ]
            refine wpAnyH_take (i := 19) (v := _) rfl (by kernel_rfl) (by kernel_rfl) (by kernel_rfl) (fun _ _ _ h => h) (Or.inl ⟨by rfl, (by intro w hSw; (try dsimp only at hSw); go_simp; try with_reducible rfl)⟩) (by assumption) ?_
            try simp only [Act.put, List.getElem_toArray, List.getElem_cons_zero, List.getElem_cons_succ, List.setIfInBounds_toArray, List.set_cons_zero, List.set_cons_succ]
            refine wpAnyH_take (i := 20) (v := _) rfl (by kernel_rfl) (by kernel_rfl) (by kernel_rfl) (fun _ _ _ h => h) (Or.inl ⟨by rfl, (by intro w hSw; (try dsimp only at hSw); go_simp; try with_reducible rfl)⟩) (by assumption) ?_
            try simp only [Act.put, List.getElem_toArray, List.getElem_cons_zero, List.getElem_cons_succ, List.setIfInBounds_toArray, List.set_cons_zero, List.set_cons_succ]
            refine wpAnyH_take (i := 21) (v := _) rfl (by kernel_rfl) (by kernel_rfl) (by kernel_rfl) (fun _ _ _ h => h) (Or.inl ⟨by rfl, (by intro w hSw; (try dsimp only at hSw); go_simp; try with_reducible rfl)⟩) (by assumption) ?_
            try simp only [Act.put, List.getElem_toArray, List.getElem_cons_zero, List.getElem_cons_succ, List.setIfInBounds_toArray, List.set_cons_zero, List.set_cons_succ]
            refine wpAnyH_take (i := 23) (v := _) rfl (by kernel_rfl) (by kernel_rfl) (by kernel_rfl) (fun _ _ _ h => h) (Or.inl ⟨by rfl, (by intro w hSw; (try dsimp only at hSw); go_simp; try with_reducible rfl)⟩) (by assumption) ?_
            try simp only [Act.put, List.getElem_toArray, List.getElem_cons_zero, List.getElem_cons_succ, List.setIfInBounds_toArray, List.set_cons_zero, List.set_cons_succ]
            refine wpAnyH_ready (rs := [22]) (by kernel_rfl) (by simp) ?_
            refine (AllReadyH.cons rfl (fun K hK => ?_) AllReadyH.nil)
            go_simp
            go_at_call 24
            refine (mpsr_any W2 _ M1 _ HPR.out.one.at').mono ?_
            rintro e W3 ⟨rfl, hbp⟩
            have HPR := mhid (HPR.out.keepb hbp)
            have HA := mhid (HA.out.keepb hbp)
            have HD := mhid (HD.out.keepb hbp)
            clear hbp
            go_wp2_with fail
            refine hK.out _ _ (⟨HLC.out _ HPR.out.one.bel, HA.out.row.cell (k := 0) rfl, HA.out.row.cell (k := 1) rfl, HD.out.row.cell (k := 0) rfl, HD.out.row.cell (k := 1) rfl, HD.out.row.cell (k := 2) rfl, HD.out.row.cell (k := 3) rfl⟩) (fun hHeld2 => ?_)
            clear hK K 
            try simp only [Act.put, List.getElem_toArray, List.getElem_cons_zero, List.getElem_cons_succ, List.setIfInBounds_toArray, List.set_cons_zero, List.set_cons_succ]
            refine wpAnyH_take (i := 24) (v := _) rfl (by kernel_rfl) (by kernel_rfl) (by kernel_rfl) (fun _ _ _ h => h) (Or.inl ⟨by rfl, (by intro w hSw; (try dsimp only at hSw); go_simp; try with_reducible rfl)⟩) (by assumption) ?_
            try simp only [Act.put, List.getElem_toArray, List.getElem_cons_zero, List.getElem_cons_succ, List.setIfInBounds_toArray, List.set_cons_zero, List.set_cons_succ]
            refine wpAnyH_take (i := 25) (v := _) rfl (by kernel_rfl) (by kernel_rfl) (by kernel_rfl) (fun _ _ _ h => h) (Or.inl ⟨by rfl, (by intro w hSw; (try dsimp only at hSw); go_simp; try with_reducible rfl)⟩) (by assumption) ?_
            try simp only [Act.put, List.getElem_toArray, List.getElem_cons_zero, List.getElem_cons_succ, List.setIfInBounds_toArray, List.set_cons_zero, List.set_cons_succ]
            refine wpAnyH_take (i := 26) (v := _) rfl (by kernel_rfl) (by kernel_rfl) (by kernel_rfl) (fun _ _ _ h => h) (Or.inl ⟨by rfl, (by intro w hSw; (try dsimp only at hSw); go_simp; try with_reducible rfl)⟩) (by assumption) ?_
            try simp only [Act.put, List.getElem_toArray, List.getElem_cons_zero, List.getElem_cons_succ, List.setIfInBounds_toArray, List.set_cons_zero, List.set_cons_succ]
            refine wpAnyH_take (i := 27) (v := _) rfl (by kernel_rfl) (by kernel_rfl) (by kernel_rfl) (fun _ _ _ h => h) (Or.inl ⟨by rfl, (by intro w hSw; (try dsimp only at hSw); go_simp; try with_reducible rfl)⟩) (by assumption) ?_
            try simp only [Act.put, List.getElem_toArray, List.getElem_cons_zero, List.getElem_cons_succ, List.setIfInBounds_toArray, List.set_cons_zero, List.set_cons_succ]
            refine wpAnyH_take (i := 30) (v := _) rfl (by kernel_rfl) (by kernel_rfl) (by kernel_rfl) (fun _ _ _ h => h) (Or.inl ⟨by rfl, (by intro w hSw; (try dsimp only at hSw); go_simp; try with_reducible rfl)⟩) (by assumption) ?_
            try simp only [Act.put, List.getElem_toArray, List.getElem_cons_zero, List.getElem_cons_succ, List.setIfInBounds_toArray, List.set_cons_zero, List.set_cons_succ]
            refine wpAnyH_ready (rs := [28]) (by kernel_rfl) (by simp) ?_
            refine (AllReadyH.cons rfl (fun K hK => ?_) AllReadyH.nil)
            go_simp
            go_at_call 28
            refine (mw_out w2 W3 _ M1 _ HPR.out.one (by have := HOL.out; omega)).mono ?_
            rintro e W4 ⟨vo2, rfl, hvo, hbp⟩
            obtain ⟨po2, co2, hve⟩ : ∃ p c, vo2 = .slice p mk.out.length c := by obtain ⟨-, p, c, hve, -⟩ := hvo.1; exact ⟨p, c, hve⟩
            subst hve
            have HPR := mhid (HPR.out.keepb hbp)
            have HA := mhid (HA.out.keepb hbp)
            have HD := mhid (HD.out.keepb hbp)
            clear hbp hvo
            go_wp2_with fail
            refine hK.out _ _ (⟨HLC.out _ HPR.out.one.bel, HA.out.row.cell (k := 0) rfl, HA.out.row.cell (k := 1) rfl, HD.out.row.cell (k := 0) rfl, HD.out.row.cell (k := 1) rfl, HD.out.row.cell (k := 2) rfl, HD.out.row.cell (k := 3) rfl⟩) (fun hHeld2 => ?_)
            clear hK K 
            try simp only [Act.put, List.getElem_toArray, List.getElem_cons_zero, List.getElem_cons_succ, List.setIfInBounds_toArray, List.set_cons_zero, List.set_cons_succ]
            refine wpAnyH_take (i := 29) (v := _) rfl (by kernel_rfl) (by kernel_rfl) (by kernel_rfl) (fun _ _ _ h => h) (Or.inl ⟨by rfl, (by intro w hSw; (try dsimp only at hSw); go_simp; try with_reducible rfl)⟩) (by assumption) ?_
            try simp only [Act.put, List.getElem_toArray, List.getElem_cons_zero, List.getElem_cons_succ, List.setIfInBounds_toArray, List.set_cons_zero, List.set_cons_succ]
            refine wpAnyH_take (i := 31) (v := _) rfl (by kernel_rfl) (by kernel_rfl) (by kernel_rfl) (fun _ _ _ h => h) (Or.inl ⟨by rfl, (by intro w hSw; (try dsimp only at hSw); go_simp; try with_reducible rfl)⟩) (by assumption) ?_
            try simp only [Act.put, List.getElem_toArray, List.getElem_cons_zero, List.getElem_cons_succ, List.setIfInBounds_toArray, List.set_cons_zero, List.set_cons_succ]
            refine wpAnyH_take (i := 32) (v := _) rfl (by kernel_rfl) (by kernel_rfl) (by kernel_rfl) (fun _ _ _ h => h) (Or.inl ⟨by rfl, (by intro w hSw; (try dsimp only at hSw); go_simp; try with_reducible rfl)⟩) (by assumption) ?_
            try simp only [Act.put, List.getElem_toArray, List.getElem_cons_zero, List.getElem_cons_succ, List.setIfInBounds_toArray, List.set_cons_zero, List.set_cons_succ]
            refine wpAnyH_done (by kernel_rfl) ?_ _
            go_wp2_with fail
            exact ⟨⟨k + 1, by go_num, by omega, by omega, _, _, by rw [HMK.out]; exact HPR.out⟩, by simp only [intOf]; omega⟩
            -- END15
      · have HOE := mhid (show (runL m0 levels k).out.length ≤ k from by have := runL_out m0 levels k; rw [HMX.out.1.2] at this; simp at this; omega)
        by_cases hkl : k < levels.length
        · have c1 : (k : Int) < (levels.length : Int) := by omega
          have c2 : ¬ ((k : Int) < 60) := by omega
          clear hlt
          have q4 : x.size.tdiv 4 = x.size / 4 := Int.tdiv_eq_ediv_of_nonneg (by have := HNN.out; omega)
          have q5 : 0 ≤ x.size := HNN.out.2.2.1
          have q6 : x.size ≤ 1200 := HNN.out.2.2.2
          have q7 : IntKind.i64.wrap (x.size / 4) = x.size / 4 := IntWalk.i64_in _ (by omega)
          have HX3 := mhid (HX0.out _ HP.out.one.bel)
          have x1 : wr.cell? ⟨w.heap.size, 1, none⟩ = some (.int .i64 x.size) := HX3.out.cell (k := 1) rfl
          have hd : Below wr.heap.size wr wr.drew := (Below.refl _ _).drew
          have HG := mhid (fun w' (hb : Below wr.heap.size wr w') => mmem_any w' G3 M1 _ (HP.out.one.keepb hb).at')
          have HWD := mhid (fun w' (hb : Below wr.heap.size wr w') => mw_words w2 w' G3 M1 _ (HP.out.one.keepb hb) (x.size / 4) (by omega))
          have HKS := mhid (show ∀ w', Below wr.heap.size wr w' → w'.cell? ⟨w.heap.size, 1, none⟩ = some (.int .i64 x.size) from fun w' hb => (HX3.out.below hb).cell (k := 1) rfl)
          go_wp2_with fail
          go_region_held3 (fun w' => w'.cell? ⟨w.heap.size, 1, none⟩ = some (.int .i64 x.size)) (first | (exact HKS.out _ hb1) | (refine HKS.out _ ?_; go_grown; done))
            (first | (go_at_call 13; (with_reducible refine (HG.out _ hd).mono ?_); rintro e W0 ⟨rfl, rfl⟩) | (go_at_call 29; (with_reducible refine (HWD.out _ hd).mono ?_); rintro e V1 ⟨v1, l1, rfl, hl1, hv1, hb10⟩; have hb1 : Below wr.heap.size wr V1 := hd.trans hb10))
          have HP := mhid (HP.out.keepb hb1)
          have HV1 := mhid (And.intro hv1.1 hl1)
          obtain ⟨p1, n1, c1', rfl⟩ := hv1.1.shape'
          clear HG HWD HKS hd hb1 hb10 hv1 hl1 x1
          have HX3 := mhid (HX0.out _ HP.out.one.bel)
          have x1 : V1.cell? ⟨w.heap.size, 1, none⟩ = some (.int .i64 x.size) := HX3.out.cell (k := 1) rfl
          have hd : Below V1.heap.size V1 V1.drew := (Below.refl _ _).drew
          have HG := mhid (fun w' (hb : Below V1.heap.size V1 w') => mmem_any w' G4 M2 _ (HP.out.two.keepb hb).at')
          have HWD := mhid (fun w' (hb : Below V1.heap.size V1 w') => mw_words w2 w' G4 M2 _ (HP.out.two.keepb hb) (x.size / 4) (by omega))
          have HKS := mhid (show ∀ w', Below V1.heap.size V1 w' → w'.cell? ⟨w.heap.size, 1, none⟩ = some (.int .i64 x.size) from fun w' hb => (HX3.out.below hb).cell (k := 1) rfl)
          go_wp2_with fail
          go_region_held3 (fun w' => w'.cell? ⟨w.heap.size, 1, none⟩ = some (.int .i64 x.size)) (first | (exact HKS.out _ hb1) | (refine HKS.out _ ?_; go_grown; done))
            (first | (go_at_call 13; (with_reducible refine (HG.out _ hd).mono ?_); rintro e W0 ⟨rfl, rfl⟩) | (go_at_call 29; (with_reducible refine (HWD.out _ hd).mono ?_); rintro e V2 ⟨v2, l2, rfl, hl2, hv2, hb10⟩; have hb1 : Below V1.heap.size V1 V2 := hd.trans hb10))
          have HP := mhid (HP.out.keepb hb1)
          have HV1 := mhid (And.intro (HV1.out.1.keepb hb1) HV1.out.2)
          have HV2 := mhid (And.intro hv2.1 hl2)
          obtain ⟨p2, n2, c2', rfl⟩ := hv2.1.shape'
          clear HG HWD HKS hd hb1 hb10 hv2 hl2 x1 q4 q5 q6 q7
          have HEQ := mhid (show l1 = l2 from by rw [HV1.out.2, HV2.out.2])
          go_wp2_with fail
          refine (same_any V2 _ _ _ _ HV1.out.1 HV2.out.1).mono ?_
          rintro e V3 ⟨rfl, hb3⟩
          have HP := mhid (HP.out.keepb hb3)
          clear hb3
          rw [decide_eq_true HEQ.out]
          go_wp2_with fail
          refine (mw_out w2 V3 G3 M1 _ HP.out.one (by have := HOE.out; omega)).mono ?_
          rintro e V4 ⟨vo, rfl, hvo, hb4⟩
          have HP := mhid (HP.out.keepb hb4)
          have HVO := mhid hvo.1
          obtain ⟨po, no, co, rfl⟩ := hvo.1.shape'
          clear hvo hb4
          go_wp2_with fail
          refine (mw_out w2 V4 G4 M2 _ HP.out.two (by have := HOE.out; omega)).mono ?_
          rintro e V5 ⟨vp, rfl, hvp, hb5⟩
          have HP := mhid (HP.out.keepb hb5)
          have HVO := mhid (HVO.out.keepb hb5)
          have HVP := mhid hvp.1
          obtain ⟨pp, np, cp, rfl⟩ := hvp.1.shape'
          clear hvp hb5
          go_wp2_with fail
          refine (same_any V5 _ _ _ _ HVO.out HVP.out).mono ?_
          rintro e V6 ⟨rfl, hb6⟩
          have HP := mhid (HP.out.keepb hb6)
          clear hb6
          rw [decide_eq_true rfl]
          go_wp2_with fail
          have hbb := HBW.out.trans (HP.out.one.bel.mono HBW.out.size)
          refine (HHD.out _ hbb).mono ?_
          rintro e w99 ⟨rfl, hb99⟩
          go_wp2_with fail
          go_ret
          exact ⟨rfl, hbb.trans (hb99.mono hbb.size)⟩
        · have c1 : ¬ ((k : Int) < (levels.length : Int)) := by omega
          clear hlt
          have q4 : x.size.tdiv 4 = x.size / 4 := Int.tdiv_eq_ediv_of_nonneg (by have := HNN.out; omega)
          have q5 : 0 ≤ x.size := HNN.out.2.2.1
          have q6 : x.size ≤ 1200 := HNN.out.2.2.2
          have q7 : IntKind.i64.wrap (x.size / 4) = x.size / 4 := IntWalk.i64_in _ (by omega)
          have HX3 := mhid (HX0.out _ HP.out.one.bel)
          have x1 : wr.cell? ⟨w.heap.size, 1, none⟩ = some (.int .i64 x.size) := HX3.out.cell (k := 1) rfl
          have hd : Below wr.heap.size wr wr.drew := (Below.refl _ _).drew
          have HG := mhid (fun w' (hb : Below wr.heap.size wr w') => mmem_any w' G3 M1 _ (HP.out.one.keepb hb).at')
          have HWD := mhid (fun w' (hb : Below wr.heap.size wr w') => mw_words w2 w' G3 M1 _ (HP.out.one.keepb hb) (x.size / 4) (by omega))
          have HKS := mhid (show ∀ w', Below wr.heap.size wr w' → w'.cell? ⟨w.heap.size, 1, none⟩ = some (.int .i64 x.size) from fun w' hb => (HX3.out.below hb).cell (k := 1) rfl)
          go_wp2_with fail
          go_region_held3 (fun w' => w'.cell? ⟨w.heap.size, 1, none⟩ = some (.int .i64 x.size)) (first | (exact HKS.out _ hb1) | (refine HKS.out _ ?_; go_grown; done))
            (first | (go_at_call 13; (with_reducible refine (HG.out _ hd).mono ?_); rintro e W0 ⟨rfl, rfl⟩) | (go_at_call 29; (with_reducible refine (HWD.out _ hd).mono ?_); rintro e V1 ⟨v1, l1, rfl, hl1, hv1, hb10⟩; have hb1 : Below wr.heap.size wr V1 := hd.trans hb10))
          have HP := mhid (HP.out.keepb hb1)
          have HV1 := mhid (And.intro hv1.1 hl1)
          obtain ⟨p1, n1, c1', rfl⟩ := hv1.1.shape'
          clear HG HWD HKS hd hb1 hb10 hv1 hl1 x1
          have HX3 := mhid (HX0.out _ HP.out.one.bel)
          have x1 : V1.cell? ⟨w.heap.size, 1, none⟩ = some (.int .i64 x.size) := HX3.out.cell (k := 1) rfl
          have hd : Below V1.heap.size V1 V1.drew := (Below.refl _ _).drew
          have HG := mhid (fun w' (hb : Below V1.heap.size V1 w') => mmem_any w' G4 M2 _ (HP.out.two.keepb hb).at')
          have HWD := mhid (fun w' (hb : Below V1.heap.size V1 w') => mw_words w2 w' G4 M2 _ (HP.out.two.keepb hb) (x.size / 4) (by omega))
          have HKS := mhid (show ∀ w', Below V1.heap.size V1 w' → w'.cell? ⟨w.heap.size, 1, none⟩ = some (.int .i64 x.size) from fun w' hb => (HX3.out.below hb).cell (k := 1) rfl)
          go_wp2_with fail
          go_region_held3 (fun w' => w'.cell? ⟨w.heap.size, 1, none⟩ = some (.int .i64 x.size)) (first | (exact HKS.out _ hb1) | (refine HKS.out _ ?_; go_grown; done))
            (first | (go_at_call 13; (with_reducible refine (HG.out _ hd).mono ?_); rintro e W0 ⟨rfl, rfl⟩) | (go_at_call 29; (with_reducible refine (HWD.out _ hd).mono ?_); rintro e V2 ⟨v2, l2, rfl, hl2, hv2, hb10⟩; have hb1 : Below V1.heap.size V1 V2 := hd.trans hb10))
          have HP := mhid (HP.out.keepb hb1)
          have HV1 := mhid (And.intro (HV1.out.1.keepb hb1) HV1.out.2)
          have HV2 := mhid (And.intro hv2.1 hl2)
          obtain ⟨p2, n2, c2', rfl⟩ := hv2.1.shape'
          clear HG HWD HKS hd hb1 hb10 hv2 hl2 x1 q4 q5 q6 q7
          have HEQ := mhid (show l1 = l2 from by rw [HV1.out.2, HV2.out.2])
          go_wp2_with fail
          refine (same_any V2 _ _ _ _ HV1.out.1 HV2.out.1).mono ?_
          rintro e V3 ⟨rfl, hb3⟩
          have HP := mhid (HP.out.keepb hb3)
          clear hb3
          rw [decide_eq_true HEQ.out]
          go_wp2_with fail
          refine (mw_out w2 V3 G3 M1 _ HP.out.one (by have := HOE.out; omega)).mono ?_
          rintro e V4 ⟨vo, rfl, hvo, hb4⟩
          have HP := mhid (HP.out.keepb hb4)
          have HVO := mhid hvo.1
          obtain ⟨po, no, co, rfl⟩ := hvo.1.shape'
          clear hvo hb4
          go_wp2_with fail
          refine (mw_out w2 V4 G4 M2 _ HP.out.two (by have := HOE.out; omega)).mono ?_
          rintro e V5 ⟨vp, rfl, hvp, hb5⟩
          have HP := mhid (HP.out.keepb hb5)
          have HVO := mhid (HVO.out.keepb hb5)
          have HVP := mhid hvp.1
          obtain ⟨pp, np, cp, rfl⟩ := hvp.1.shape'
          clear hvp hb5
          go_wp2_with fail
          refine (same_any V5 _ _ _ _ HVO.out HVP.out).mono ?_
          rintro e V6 ⟨rfl, hb6⟩
          have HP := mhid (HP.out.keepb hb6)
          clear hb6
          rw [decide_eq_true rfl]
          go_wp2_with fail
          have hbb := HBW.out.trans (HP.out.one.bel.mono HBW.out.size)
          refine (HHD.out _ hbb).mono ?_
          rintro e w99 ⟨rfl, hb99⟩
          go_wp2_with fail
          go_ret
          exact ⟨rfl, hbb.trans (hb99.mono hbb.size)⟩
  · refine (made_no w2 x _ ((HIN.out.keepb HB1.out).keepb HB2.out) hmy).mono ?_
    rintro e w3 ⟨rfl, hb3⟩
    have HBW := mhid (HBW.out.trans (hb3.mono HBW.out.size))
    have HX := mhid (HX.out.below hb3)
    have HB3 := mhid (HB2.out.trans (hb3.mono HB2.out.size))
    clear hb3
    obtain ⟨w4, hw4⟩ : ∃ w4, w4 = (w3.alloc (.cells qZ.toArray 66)).setRow w3.heap.size qZ.toArray := ⟨_, rfl⟩
    have hb4 : Below w3.heap.size w3 w4 := by rw [hw4]; exact below_setRow ((Below.refl _ _).alloc (Nat.le_refl _) _) (Nat.le_refl _) _
    have HBW := mhid (HBW.out.trans (hb4.mono HBW.out.size))
    have HX := mhid (HX.out.below hb4)
    have HB3 := mhid (HB3.out.trans (hb4.mono HB3.out.size))
    have HW4 := mhid hw4
    clear hw4 hb4
    go_wp2_with (first | (refine wpList_store_row rfl 66 (.tmp 6) (.tmp 26) rfl w3.heap.size qZ.toArray rfl rfl 66 qZ.toArray (heap_alloc_new w3 _) q_size rfl qZ_one ?_; generalize hg : World.setRow _ _ _ = w5; obtain rfl : w5 = w4 := (by rw [← hg, HW4.out]; rfl); clear hg) | (refine wpList_load_row rfl 59 (.tmp 2) rfl w.heap.size rfl 59 _ (0, 0) _ HX.out Tryz.underlying59 rfl HSZ.out ?_))
    refine (made_no _ x _ ((HIN.out.keepb HB1.out).keepb HB3.out) hmy).mono ?_
    rintro e w6 ⟨rfl, hb6⟩
    have HBW := mhid (HBW.out.trans (hb6.mono HBW.out.size))
    have HBW := mhid (HBW.out.trans ((below_setRow ((Below.refl _ w6).alloc (Nat.le_refl _) (.cells qZ.toArray 66)) (Nat.le_refl _) qZ.toArray).mono HBW.out.size))
    go_wp2_with (refine wpList_store_row rfl 66 (.tmp 8) (.tmp 31) rfl w6.heap.size qZ.toArray rfl rfl 66 qZ.toArray (heap_alloc_new w6 _) q_size rfl qZ_one ?_)
    refine (HHD.out _ HBW.out).mono ?_
    rintro e w7 ⟨rfl, hb7⟩
    go_wp2_with fail
    go_ret
    exact ⟨rfl, HBW.out.trans (hb7.mono HBW.out.size)⟩
end Go.Proofs.YtacfdddghdnboaaGreatDoor
namespace Go.Proofs.YtacfdddghdnboaaGreatDoor.machStandsP
open Go.ChangeShapes Go.WideShapes Go.ChangeAt Go.RowKit
set_option linter.unusedVariables false
theorem own : ownKnob Tryz.prog.godebug = none := by kernel_rfl
theorem laidOut : laidOutB Tryz.prog = true := by kernel_rfl
theorem gTab : Tryz.prog.globalNamed "muntin/inst.fields" = some 1 := by kernel_rfl
theorem gTabType : (Tryz.prog.globals[1]?).map (·.type) = some 224 := by kernel_rfl
theorem cellsTab : Tryz.prog.cellsOf 224 = 38 := by kernel_rfl
theorem cellsU8 : Tryz.prog.cellsOf 5 = 1 := by kernel_rfl
theorem gBru : Tryz.prog.globalNamed "math/bits.deBruijn32tab" = some 0 := by kernel_rfl
theorem gBruType : (Tryz.prog.globals[0]?).map (·.type) = some 217 := by kernel_rfl
theorem cellsBru : Tryz.prog.cellsOf 217 = 32 := by kernel_rfl
theorem keepF : (Rows.machStandsRow.laid.filter fun e => e.1 == "muntin/inst.fields") = [("muntin/inst.fields", Lib.tabData .u8 [128, 7, 7, 7, 7, 7, 7, 7, 7, 7, 7, 7, 7, 7, 7, 25, 6, 25, 24, 7, 7, 7, 7, 7, 7, 7, 1, 6, 1, 6, 9, 10, 0, 8, 1, 2, 2, 8])] := by kernel_rfl
theorem keepB : (Rows.machStandsRow.laid.filter fun e => e.1 == "math/bits.deBruijn32tab") = [("math/bits.deBruijn32tab", Lib.tabData .u8 [0, 1, 28, 2, 29, 14, 24, 3, 30, 22, 20, 15, 25, 17, 4, 8, 31, 27, 13, 23, 21, 19, 16, 7, 26, 12, 18, 6, 11, 5, 10, 9])] := by kernel_rfl
/-- What the row's list gives: the tables' cells hold their numbers. -/
theorem table {W : World} (h : laidMetH Tryz.prog Rows.machStandsRow.laid W) : Lib.TabIs Tryz.prog W "muntin/inst.fields" .u8 [128, 7, 7, 7, 7, 7, 7, 7, 7, 7, 7, 7, 7, 7, 7, 25, 6, 25, 24, 7, 7, 7, 7, 7, 7, 7, 1, 6, 1, 6, 9, 10, 0, 8, 1, 2, 2, 8] := by
  have h1 := h.filter (fun e => e.1 == "muntin/inst.fields")
  rw [keepF] at h1
  exact Lib.tabIs_of_head (rest := []) gTab gTabType Tryz.underlying224 Tryz.underlying5 cellsU8 cellsTab h1
theorem tabW {W : World} (h : laidMetH Tryz.prog Rows.machStandsRow.laid W) : Tab W :=
  tab_of (fun i hi => (table h).cell gTab i hi)
theorem tableB {W : World} (h : laidMetH Tryz.prog Rows.machStandsRow.laid W) : Lib.TabIs Tryz.prog W "math/bits.deBruijn32tab" .u8 [0, 1, 28, 2, 29, 14, 24, 3, 30, 22, 20, 15, 25, 17, 4, 8, 31, 27, 13, 23, 21, 19, 16, 7, 26, 12, 18, 6, 11, 5, 10, 9] := by
  have h1 := h.filter (fun e => e.1 == "math/bits.deBruijn32tab")
  rw [keepB] at h1
  exact Lib.tabIs_of_head (rest := []) gBru gBruType Tryz.underlying217 Tryz.underlying5 cellsU8 cellsBru h1
theorem bruW {W : World} (h : laidMetH Tryz.prog Rows.machStandsRow.laid W) : Bru W :=
  bru_of (fun i hi => (tableB h).cell gBru i hi)
set_option maxRecDepth 100000 in
theorem contract (H : Type) (enc : TypeId × Value → H) (W : World) (base : Nat) (args : Array Value) (ds gs : List (DataW H)) (before : List MemPlace)
    (hval0 : ∀ (j : Nat) t v, Tryz.f5.params[j]? = some t → args[j]? = some v → Value.okWide Tryz.prog W .any base t v)
    (hW : DataW.Whole enc Tryz.prog Tryz.f5.params.toList Rows.machStandsSpec.vars false W args.toList ds gs before) (hL : laidMetH Tryz.prog Rows.machStandsRow.laid W) :
    Calls Tryz.prog 5 args W fun e W' => ∃ v, e = .returned v ∧ Rows.machStandsSpec.post enc Tryz.prog Tryz.f5 false true false false W args v W' := by
  have hval : ∀ (j : Nat) t v, Tryz.f5.params[j]? = some t → args[j]? = some v → Value.okWide Tryz.prog W .any base t v := hval0
  have ht := tabW hL
  have hbr := bruW hL
  have hW' := hW
  obtain ⟨p, q, hA0, hV, rfl, hfz, hnd⟩ := hW
  have hA : DataW.TrodAll enc Tryz.prog W 0 (fun _ => true) true Tryz.f5.params.toList args.toList ds p := hA0
  rw [Tryz.params5] at hA hval
  obtain ⟨v0, vs0, d0, ds0, p0, q0, hargs, rfl, rfl, h0, r0⟩ := trodAll_cons hA
  obtain ⟨v1, vs1, d1, ds1, p1, q1, rfl, rfl, rfl, h1, r1⟩ := trodAll_cons r0
  obtain ⟨rfl, rfl, rfl⟩ := trodAll_nil r1
  obtain rfl : args = #[v0, v1] := by cases args; simp_all
  obtain ⟨rfl, rfl⟩ := trodVars_none hV
  have k0 := h0
  have lt0 : ∀ x ∈ p0, x.block < W.heap.size := by obtain ⟨m, hm⟩ := k0; exact DataW.trod_lt m _ _ _ hm
  obtain ⟨x0, hx0⟩ := open_start (hval 0 59 v0 rfl rfl) h0
  have k1 := h1
  have lt1 : ∀ x ∈ p1, x.block < W.heap.size := by obtain ⟨m, hm⟩ := k1; exact DataW.trod_lt m _ _ _ hm
  obtain ⟨l1, hl1⟩ := open_levels (hval 1 60 v1 rfl rfl) h1
  clear hA0 hval0
  refine (walk_MachStands W x0 v0 hx0 v1 l1 hl1 ht hbr).mono fun e W' ⟨he, bel⟩ => ?_
  subst he
  exact ⟨_, rfl, _, _, _, [], _, [], hW', trodAll_mk1 (shut_bool Tryz.underlying4 _), (trodAll_cons_mk (Below.trod laidOut (by kernel_rfl) (of_decide_eq_true (by kernel_rfl)) k0 bel lt0) (trodAll_cons_mk (Below.trod laidOut (by kernel_rfl) (of_decide_eq_true (by kernel_rfl)) k1 bel lt1) trodAll_mk0)), rfl, bel.frame _, fun h => by cases h⟩
def lay0 : Obj → Obj
  | .cells _ t frozen => .cells #[.int .u8 0, .int .u8 1, .int .u8 28, .int .u8 2, .int .u8 29, .int .u8 14, .int .u8 24, .int .u8 3, .int .u8 30, .int .u8 22, .int .u8 20, .int .u8 15, .int .u8 25, .int .u8 17, .int .u8 4, .int .u8 8, .int .u8 31, .int .u8 27, .int .u8 13, .int .u8 23, .int .u8 21, .int .u8 19, .int .u8 16, .int .u8 7, .int .u8 26, .int .u8 12, .int .u8 18, .int .u8 6, .int .u8 11, .int .u8 5, .int .u8 10, .int .u8 9] t frozen
  | o => o
def lay1 : Obj → Obj
  | .cells _ t frozen => .cells #[.int .u8 128, .int .u8 7, .int .u8 7, .int .u8 7, .int .u8 7, .int .u8 7, .int .u8 7, .int .u8 7, .int .u8 7, .int .u8 7, .int .u8 7, .int .u8 7, .int .u8 7, .int .u8 7, .int .u8 7, .int .u8 25, .int .u8 6, .int .u8 25, .int .u8 24, .int .u8 7, .int .u8 7, .int .u8 7, .int .u8 7, .int .u8 7, .int .u8 7, .int .u8 7, .int .u8 1, .int .u8 6, .int .u8 1, .int .u8 6, .int .u8 9, .int .u8 10, .int .u8 0, .int .u8 8, .int .u8 1, .int .u8 2, .int .u8 2, .int .u8 8] t frozen
  | o => o
/-- A world for the witness: the settled one, the two tables holding what their initialisers lay. -/
noncomputable def laidWorld (os : Os) : World :=
  { World.holding Tryz.prog os ⟨#[], #[], []⟩ with heap := (((World.holding Tryz.prog os ⟨#[], #[], []⟩).heap.modify 0 lay0).modify 1 lay1) }
theorem laid_met (os : Os) : laidMet Tryz.prog Rows.machStandsRow.laid ((laidWorld os).forCall (fun _ _ => 0) ⟨#[], #[.agg #[.int .i64 0, .int .i64 0, .int .u32 0, .int .u8 0, .int .u8 0, .int .u8 0, .int .u8 0, .int .u32 0, .slice none 0 0, .slice none 0 0, .slice none 0 0], .slice none 0 0], []⟩).memory :=
  laidMet_of_run' 8 (by kernel_rfl) (by kernel_rfl)
theorem reads (os : Os) {H : Type} (enc : TypeId × Value → H) : ∃ places, DataW.whole enc Tryz.prog ((laidWorld os).forCall (fun _ _ => 0) ⟨#[], #[.agg #[.int .i64 0, .int .i64 0, .int .u32 0, .int .u8 0, .int .u8 0, .int .u8 0, .int .u8 0, .int .u32 0, .slice none 0 0, .slice none 0 0, .slice none 0 0], .slice none 0 0], []⟩).memory Tryz.f5.params.toList Rows.machStandsSpec.vars false (#[.agg #[.int .i64 0, .int .i64 0, .int .u32 0, .int .u8 0, .int .u8 0, .int .u8 0, .int .u8 0, .int .u32 0, .slice none 0 0, .slice none 0 0, .slice none 0 0], .slice none 0 0] : Array Value).toList 8 = some ([.agg [.lit (.int .i64 0), .lit (.int .i64 0), .lit (.int .u32 0), .agg [.lit (.int .u8 0), .lit (.int .u8 0), .lit (.int .u8 0), .lit (.int .u8 0)], .lit (.int .u32 0), .nil, .nil, .nil], .nil], [], places) :=
  ⟨[], by kernel_rfl⟩
set_option maxRecDepth 100000 in
theorem lifted (os : Os) (started : os.Started) (H : Type) (enc : TypeId × Value → H) (F : Stop.Interp) :
    ReturnsInHanded {} Tryz.checked os 5 .any ((OpenSpec.ofChange Rows.machStandsSpec).preRow enc Tryz.prog Tryz.f5 Rows.machStandsRow.domain false Rows.machStandsRow.laid) (((OpenSpec.ofChange Rows.machStandsSpec).at F).post enc Tryz.prog Tryz.f5 false true false false) := by
  obtain ⟨places, hx⟩ := reads os enc
  refine returnsInHanded_of_row (C := Tryz.checked) (s := OpenSpec.ofChange Rows.machStandsSpec) own started (by kernel_rfl) Tryz.func5
    (witness_row_at (enc := enc) (C := Tryz.checked) false (laidWorld os) #[.agg #[.int .i64 0, .int .i64 0, .int .u32 0, .int .u8 0, .int .u8 0, .int .u8 0, .int .u8 0, .int .u32 0, .slice none 0 0, .slice none 0 0, .slice none 0 0], .slice none 0 0] rfl (by kernel_rfl) (by kernel_rfl) (by kernel_rfl)
      (OpenSpec.preRow_of_cond 8 hx (by kernel_rfl) (fun k hk => by cases hk) (by kernel_rfl) (laid_met os))) ?_
  intro W base args ds gs before hval hW _ _ _ hL _ _
  exact contract H enc W base args ds gs before hval hW hL
theorem said : Rows.MachStandsSaid :=
  OpenClaim.holds_of_cond 5 Tryz.f5 rfl rfl rfl rfl rfl rfl rfl ⟨rfl, rfl, rfl, rfl, rfl⟩ rfl rfl rfl rfl rfl (by kernel_rfl) Tryz.func5 (by kernel_rfl)
    (of_decide_eq_true (by kernel_rfl)) (by unfold Func.isWrapper; first | (rw [if_pos (by decide +kernel)]; kernel_rfl) | (rw [if_neg (by decide +kernel)]; exact ⟨rfl, rfl⟩))
    (fun os started H enc _ F => by rw [OpenClaim.pre_eq_preRow]; exact lifted os started H enc F)
theorem plain (f : FuncId) (fn : Func) (hf : Tryz.pinned.checked.prog.funcNamed "muntin/muntinlaw06.MachStands" = some f) (hfn : Tryz.pinned.checked.prog.funcs[f]? = some fn) :
    false = Tryz.pinned.checked.prog.looks [] ∧ ∀ (j : Nat) t, fn.params[j]? = some t → Tryz.pinned.checked.prog.wantsStandIn t = false := by
  obtain rfl : f = 5 := Option.some.inj ((show Tryz.prog.funcNamed "muntin/muntinlaw06.MachStands" = some 5 by kernel_rfl).symm.trans hf) |>.symm
  obtain rfl : fn = Tryz.f5 := (Option.some.inj (Tryz.func5.symm.trans hfn)).symm
  refine ⟨by kernel_rfl, fun j t ht => ?_⟩
  have hall : (Tryz.f5.params.toList.all fun u => !Tryz.prog.wantsStandIn u) = true := by kernel_rfl
  have hm : t ∈ Tryz.f5.params.toList := by simpa using Array.mem_of_getElem? ht
  exact (show Tryz.prog.wantsStandIn t = false by simpa using List.all_eq_true.1 hall t hm)
/-- The statement. -/
theorem proved : Rows.MachStandsCardSaid :=
  Claim7.holds_tied_plain_at .later [] _ _ _ _ said (fun _ h => by cases h) (by kernel_rfl) (fun _ h => by cases h) machStands_row_tie rfl ⟨rfl, rfl⟩ (by kernel_rfl) rfl plain (by kernel_rfl)
end Go.Proofs.YtacfdddghdnboaaGreatDoor.machStandsP
