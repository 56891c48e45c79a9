/- Several texts in one: MachOpF, MachOpG, MachOpH, MachDisp. -/
import Derived.Test.YtajholbcpmjhiaaGreatDoorH14
set_option linter.unusedVariables false
set_option linter.unusedSimpArgs false
/- The walks of the machine's instructions: wrpsr, rett. -/
namespace Go.Proofs.YtajholbcpmjhiaaGreatDoor
open Go.RowKit
abbrev psrC (q : Px) : List Value := [.int .u8 q.cwp, .int .u8 q.pil, .int .u8 q.bank, .int .u8 q.flags]
theorem MachAt.setPsr {w : World} {G : MG} {M : Nat} {m : Mx} (h : MachAt w G M m) {q : Px} (hb : q.bd) (hp : pmayP q m.nw) :
    MachAt ((((w.setCell ⟨M, 5, none⟩ (.int .u8 q.cwp)).setCell ⟨M, 6, none⟩ (.int .u8 q.pil)).setCell ⟨M, 7, none⟩ (.int .u8 q.bank)).setCell ⟨M, 8, none⟩ (.int .u8 q.flags)) G M { m with p := q } :=
  (((h.setCwp ⟨hb.1.1, hp.1⟩).setPil ⟨hb.2.1.1, hp.2.1⟩).setBank ⟨hb.2.2.1.1, hp.2.2.1⟩).setFlags ⟨hb.2.2.2.1, hp.2.2.2⟩
theorem onlyM4 (w : World) (M : Nat) (a b c d : Value) : Only (fun k => k = M) w ((((w.setCell ⟨M, 5, none⟩ a).setCell ⟨M, 6, none⟩ b).setCell ⟨M, 7, none⟩ c).setCell ⟨M, 8, none⟩ d) :=
  (((onlyM w M 5 a).trans (onlyM _ M 6 b)).trans (onlyM _ M 7 c)).trans (onlyM _ M 8 d)
def PBoxAt (w w' : World) (B : Nat) (q : Px) : Prop := w.heap.size ≤ B ∧ VRow w' B 47 (psrC q) ∧ Below w.heap.size w w'
theorem PBoxAt.fresh {w W1 : World} (hb : Below w.heap.size w W1) (q : Px) : PBoxAt w (W1.alloc (.cells #[.int .u8 q.cwp, .int .u8 q.pil, .int .u8 q.bank, .int .u8 q.flags] 47)) W1.heap.size q :=
  ⟨hb.size, (ARow.fresh W1 47 #[.int .u8 q.cwp, .int .u8 q.pil, .int .u8 q.bank, .int .u8 q.flags]).vrow, hb.alloc hb.size _⟩
theorem PBoxAt.fill {w W1 : World} {z0 z1 z2 z3 : Value} (hb : Below w.heap.size w W1) (hz : VRow W1 w.heap.size 47 [z0, z1, z2, z3]) (q : Px) :
    PBoxAt w ((((W1.setCell ⟨w.heap.size, 0, none⟩ (.int .u8 q.cwp)).setCell ⟨w.heap.size, 1, none⟩ (.int .u8 q.pil)).setCell ⟨w.heap.size, 2, none⟩ (.int .u8 q.bank)).setCell ⟨w.heap.size, 3, none⟩ (.int .u8 q.flags)) w.heap.size q :=
  ⟨Nat.le_refl _, (((hz.set (k := 0) (by simp) _).set (k := 1) (by simp) _).set (k := 2) (by simp) _).set (k := 3) (by simp) _,
    (((hb.setCell (p := ⟨w.heap.size, 0, none⟩) (Nat.le_refl _) _).setCell (p := ⟨w.heap.size, 1, none⟩) (Nat.le_refl _) _).setCell (p := ⟨w.heap.size, 2, none⟩) (Nat.le_refl _) _).setCell (p := ⟨w.heap.size, 3, none⟩) (Nat.le_refl _) _⟩
theorem opS27 {m : Mx} {x : Ix} {a b : Int} (h : x.op = 27) : opS m x a b = if unE (u32 (a + b)) m.nw = 0 then onM { m with p := unS (u32 (a + b)) m.nw } else haltM m 3 0 := by unfold opS; rw [h]; rfl
set_option maxRecDepth 100000 in
set_option maxHeartbeats 2000000 in
theorem do_wrpsr (w : World) (G : MG) (M : Nat) (m : Mx) (D : Nat) (x : Ix) (a b n : Int) (h : DoIn w G M m D x a b n) (hop : x.op = 27) (hn : n = u32 (m.pc + 4)) :
    Calls Tryz.prog 170 #[.pointer (some ⟨D, 0, none⟩)] w fun e w' => e = .returned (.tuple #[]) ∧ DoEnd w G M D x a b (opS m x a b) w' := by
  have HE := mhid (opS27 hop (m := m) (a := a) (b := b))
  have hbd := u32_bd (a + b)
  have HF := mhid (show ∀ w', Calls Tryz.prog 202 #[.int .u32 (u32 (a + b)), .int .i64 m.f.nw] w' fun e w2 => e = .returned (.tuple #[(unS (u32 (a + b)) m.nw).agg, .int .i64 (unE (u32 (a + b)) m.nw)]) ∧ Below w'.heap.size w' w2 from fun w' => unpack_any (u32 (a + b)) hbd.1 hbd.2 m.f.nw w')
  have HOK := mhid (show unE (u32 (a + b)) m.nw = 0 → (unS (u32 (a + b)) m.nw).bd ∧ pmayP (unS (u32 (a + b)) m.nw) m.nw from fun e => unS_ok hbd.1 e)
  have H := mhid h
  have HN := mhid hn
  have ha := h.ha
  have hb := h.hb
  have u1 := uw (a + b)
  have d0 := h.dc.d0
  have d7 := h.dc.d7
  have d8 := h.dc.d8
  have c0 := h.mach.mc.nw
  have HS := mhid (show ∀ w', Below w.heap.size w w' → w'.cell? ⟨D, 0, none⟩ = some (.pointer (some ⟨M, 0, none⟩)) ∧ w'.cell? ⟨D, 7, none⟩ = some (.int .u32 a) ∧ w'.cell? ⟨D, 8, none⟩ = some (.int .u32 b) ∧ w'.cell? ⟨M, 0, none⟩ = some (.int .i64 m.f.nw) from fun w' hb => by
    have hc := h.keepb hb
    exact ⟨hc.dc.d0, hc.dc.d7, hc.dc.d8, hc.mach.mc.nw⟩)
  have hS0 : w.cell? ⟨D, 0, none⟩ = some (.pointer (some ⟨M, 0, none⟩)) ∧ w.cell? ⟨D, 7, none⟩ = some (.int .u32 a) ∧ w.cell? ⟨D, 8, none⟩ = some (.int .u32 b) ∧ w.cell? ⟨M, 0, none⟩ = some (.int .i64 m.f.nw) := ⟨d0, d7, d8, c0⟩
  clear h hn hop
  generalize unE (u32 (a + b)) m.nw = er at *
  generalize unS (u32 (a + b)) m.nw = q at *
  generalize u32 (a + b) = at' at *
  go_enter Tryz.func170, Tryz.ntmps170
  go_wp2_with fail
  go_cut [2, 3] from 4 (fun p e w' => ∃ B, p = .pointer (some ⟨B, 0, none⟩) ∧ e = .int .i64 er ∧ PBoxAt w w' B q)
  case first =>
    go_region_held3 (fun w' => w'.cell? ⟨D, 0, none⟩ = some (.pointer (some ⟨M, 0, none⟩)) ∧ w'.cell? ⟨D, 7, none⟩ = some (.int .u32 a) ∧ w'.cell? ⟨D, 8, none⟩ = some (.int .u32 b) ∧ w'.cell? ⟨M, 0, none⟩ = some (.int .i64 m.f.nw)) (first | (with_reducible exact hS0) | (refine HS.out _ ?_; go_grown; done) | (exact HS.out _ hb1))
      (first | (go_at_call 202; (with_reducible refine (HF.out _).mono ?_); rintro e W1 ⟨rfl, hb10⟩; have hb1 : Below w.heap.size w W1 := ((Below.refl w.heap.size w).drew).trans hb10; have hle1 := hb1.size) | (go_at_call 202; (with_reducible refine (HF.out _).mono ?_); rintro e W1 ⟨rfl, hb10⟩; have hz := (show VRow ((w.alloc (.cells #[.int .u8 0, .int .u8 0, .int .u8 0, .int .u8 0] 47)).drew) w.heap.size 47 [.int .u8 0, .int .u8 0, .int .u8 0, .int .u8 0] from (ARow.fresh w 47 #[.int .u8 0, .int .u8 0, .int .u8 0, .int .u8 0]).vrow).below hb10; have y0 := hz.cell (k := 0) rfl; have y1 := hz.cell (k := 1) rfl; have y2 := hz.cell (k := 2) rfl; have y3 := hz.cell (k := 3) rfl; have x0 := hz.frozen 0; have x1 := hz.frozen 1; have x2 := hz.frozen 2; have x3 := hz.frozen 3; have hb1 : Below w.heap.size w W1 := (((Below.refl w.heap.size w).alloc (Nat.le_refl _) _).drew).trans (hb10.mono (((Below.refl w.heap.size w).alloc (Nat.le_refl _) _).drew).size); have hle1 := hb1.size))
    all_goals go_wp2_with fail
    all_goals go_meet
    · exact ⟨_, rfl, rfl, PBoxAt.fresh hb1 q⟩
    · exact ⟨_, rfl, rfl, PBoxAt.fill hb1 hz q⟩
  case rest =>
    obtain ⟨B, rfl, rfl, hB, hv, hb1⟩ := hcut
    obtain ⟨W1, rfl⟩ : ∃ W1 : World, W1 = wc := ⟨_, rfl⟩
    have H1 := mhid (H.out.keepb hb1)
    clear d0 d7 d8 c0 HS hS0
    by_cases hz : er = 0
    · rw [if_pos hz] at HE
      have HOK2 := mhid (HOK.out hz)
      subst hz
      have HY := mhid (dsure_no W1 G M m D x a b n H1.out)
      have b0 := hv.cell (k := 0) rfl
      have b1 := hv.cell (k := 1) rfl
      have b2 := hv.cell (k := 2) rfl
      have b3 := hv.cell (k := 3) rfl
      have d0 := H1.out.dc.d0
      have c5 := H1.out.mach.mc.cwp
      have c6 := H1.out.mach.mc.pil
      have c7 := H1.out.mach.mc.bank
      have c8 := H1.out.mach.mc.flags
      have f5 := H1.out.mach.mc.fz 5
      have f6 := H1.out.mach.mc.fz 6
      have f7 := H1.out.mach.mc.fz 7
      have f8 := H1.out.mach.mc.fz 8
      go_wp2_with fail
      refine HY.out.mono ?_
      rintro e w2 ⟨rfl, rfl⟩
      go_wp2_with fail
      go_still_tail 7, (by kernel_rfl)
      change wpList _ _ _ _ _ W1.drew
      go_wp2_with fail
      go_returns
      rw [HE.out]
      have h2 := H1.out.drew
      exact ⟨rfl, h2.fin ((own_below hb1).trans (own_drew W1 G D)) (h2.mach.setPsr HOK2.out.1 HOK2.out.2) (onlyM4 W1.drew M _ _ _ _) (fun k e => e ▸ H1.out.mach.ownM) (fin_on H1.out.run rfl HN.out)⟩
    · rw [if_neg hz] at HE
      have HY := mhid (dsure_yes W1 G M m D x a b n H1.out er hz)
      clear hz
      go_wp2_with fail
      refine HY.out.mono ?_
      rintro e w2 ⟨rfl, hm, ho⟩
      go_wp2_with fail
      go_returns
      rw [HE.out]
      exact ⟨rfl, H1.out.fin (own_below hb1) hm ho (fun k e => e ▸ H1.out.mach.ownM) (finM_halt _ _ _ _ (by omega))⟩
theorem opS32 {m : Mx} {x : Ix} {a b : Int} (h : x.op = 32) : opS m x a b = if m.p.bank = 0 then haltM m 3 0 else if unE (m.tpsr.getD m.p.bank.toNat 0) m.nw = 0 then { m with p := unS (m.tpsr.getD m.p.bank.toNat 0) m.nw, pc := m.tpc.getD m.p.bank.toNat 0 } else haltM m 3 0 := by unfold opS; rw [h]; rfl
set_option maxRecDepth 100000 in
set_option maxHeartbeats 4000000 in
theorem do_rett (w : World) (G : MG) (M : Nat) (m : Mx) (D : Nat) (x : Ix) (a b n : Int) (h : DoIn w G M m D x a b n) (hop : x.op = 32) (hn : n = u32 (m.pc + 4)) :
    Calls Tryz.prog 175 #[.pointer (some ⟨D, 0, none⟩)] w fun e w' => e = .returned (.tuple #[]) ∧ DoEnd w G M D x a b (opS m x a b) w' := by
  have HE := mhid (opS32 hop (m := m) (a := a) (b := b))
  obtain ⟨w0, hw0⟩ : ∃ u : World, u = w := ⟨w, rfl⟩
  subst hw0
  have H0 := mhid h
  have HN := mhid hn
  by_cases hz : m.p.bank = 0
  · have HK := mhid (dkept_none w0 G M m D x a b n h hz)
    rw [if_pos hz] at HE
    clear h hz hn hop
    go_enter Tryz.func175, Tryz.ntmps175
    go_wp2_with fail
    refine HK.out.mono ?_
    rintro e w' ⟨rfl, hm, ho⟩
    go_wp2_with fail
    go_returns
    rw [HE.out]
    exact ⟨rfl, H0.out.fin (Only.refl _ _) hm ho (fun k e => e ▸ H0.out.mach.ownM) (finM_halt _ _ _ _ (by omega))⟩
  · have HK := mhid (dkept_some w0 G M m D x a b n h hz)
    rw [if_neg hz] at HE
    have him := h.fits.ret hop
    have HTV := mhid (show keptV m x = m.tpc.getD m.p.bank.toNat 0 ∧ keptA M m x = ⟨M, 9 + m.p.bank.toNat, none⟩ from by
      unfold keptV keptA
      rw [him, if_neg (by decide), if_neg (by decide)]
      exact ⟨rfl, rfl⟩)
    have htb := h.mach.ok.sw.at m.p.bank.toNat
    have hpb := h.mach.ok.tw.at m.p.bank.toNat
    have hbk := h.mach.ok.bank
    have HF := mhid (show ∀ w', Calls Tryz.prog 202 #[.int .u32 (m.tpsr.getD m.p.bank.toNat 0), .int .i64 m.f.nw] w' fun e w2 => e = .returned (.tuple #[(unS (m.tpsr.getD m.p.bank.toNat 0) m.nw).agg, .int .i64 (unE (m.tpsr.getD m.p.bank.toNat 0) m.nw)]) ∧ Below w'.heap.size w' w2 from fun w' => unpack_any _ htb.1 htb.2 m.f.nw w')
    have HOK := mhid (show unE (m.tpsr.getD m.p.bank.toNat 0) m.nw = 0 → (unS (m.tpsr.getD m.p.bank.toNat 0) m.nw).bd ∧ pmayP (unS (m.tpsr.getD m.p.bank.toNat 0) m.nw) m.nw from fun e => unS_ok htb.1 e)
    have HRN := mhid h.run
    have HPB := mhid hpb
    clear h hz hn hop him
    go_enter Tryz.func175, Tryz.ntmps175
    go_wp2_with fail
    refine HK.out.mono ?_
    rintro e w1 ⟨rfl, q, rfl⟩
    have H := mhid (H0.out.keepb (below_drewQ w0 q))
    have HO1 := mhid (own_drewN w0 G D q)
    generalize w0.drewN q = w at *
    clear HK
    rw [HTV.out.2]
    have c26 : w.cell? ⟨M, 26 + m.p.bank.toNat, none⟩ = some (.int .u32 (m.tpsr.getD m.p.bank.toNat 0)) := H.out.mach.tpsrc (by omega)
    have d0 := H.out.dc.d0
    have c0 := H.out.mach.mc.nw
    have c7 := H.out.mach.mc.bank
    generalize hkn : m.p.bank.toNat = k at *
    have hk : m.p.bank = (k : Int) := by omega
    have hk17 : k < 17 := by omega
    have k0 : (0 : Int) ≤ (k : Int) := by omega
    have k1 : (k : Int) < 17 := by omega
    rw [hk] at c7
    have HKN := mhid (And.intro hk hkn)
    clear hk hkn hbk HTV
    have HT := mhid (show ∀ w', Below w.heap.size w w' → w'.cell? ⟨M, 9 + k, none⟩ = some (.int .u32 (m.tpc.getD k 0)) from fun w' hb => (H.out.keepb hb).mach.tpcc hk17)
    generalize htsr : m.tpsr.getD k 0 = tsr at *
    have HTS := mhid htsr
    clear htsr
    generalize m.tpc.getD k 0 = tpcv at *
    have HS := mhid (show ∀ w', Below w.heap.size w w' → w'.cell? ⟨D, 0, none⟩ = some (.pointer (some ⟨M, 0, none⟩)) ∧ w'.cell? ⟨M, 0, none⟩ = some (.int .i64 m.f.nw) ∧ w'.cell? ⟨M, 7, none⟩ = some (.int .u8 k) ∧ w'.cell? ⟨M, 26 + k, none⟩ = some (.int .u32 tsr) from fun w' hb => by
      have hc := H.out.keepb hb
      have h26 := hc.mach.tpsrc hk17
      have h7 := hc.mach.mc.bank
      rw [HTS.out] at h26
      rw [HKN.out.1] at h7
      exact ⟨hc.dc.d0, hc.mach.mc.nw, h7, h26⟩)
    have hS0 : w.cell? ⟨D, 0, none⟩ = some (.pointer (some ⟨M, 0, none⟩)) ∧ w.cell? ⟨M, 0, none⟩ = some (.int .i64 m.f.nw) ∧ w.cell? ⟨M, 7, none⟩ = some (.int .u8 k) ∧ w.cell? ⟨M, 26 + k, none⟩ = some (.int .u32 tsr) := ⟨d0, c0, c7, c26⟩
    generalize unE tsr m.nw = er at *
    generalize unS tsr m.nw = q at *
    go_wp2_with fail
    go_cut [3, 4] from 9 (fun p e w' => ∃ B, p = .pointer (some ⟨B, 0, none⟩) ∧ e = .int .i64 er ∧ PBoxAt w w' B q)
    case first =>
      go_region_held3 (fun w' => w'.cell? ⟨D, 0, none⟩ = some (.pointer (some ⟨M, 0, none⟩)) ∧ w'.cell? ⟨M, 0, none⟩ = some (.int .i64 m.f.nw) ∧ w'.cell? ⟨M, 7, none⟩ = some (.int .u8 k) ∧ w'.cell? ⟨M, 26 + k, none⟩ = some (.int .u32 tsr)) (first | (with_reducible exact hS0) | (refine HS.out _ ?_; go_grown; done) | (exact HS.out _ hb1))
        (first | (go_at_call 202; (with_reducible refine (HF.out _).mono ?_); rintro e W1 ⟨rfl, hb10⟩; have hb1 : Below w.heap.size w W1 := ((Below.refl w.heap.size w).drew).trans hb10; have hle1 := hb1.size) | (go_at_call 202; (with_reducible refine (HF.out _).mono ?_); rintro e W1 ⟨rfl, hb10⟩; have hz := (show VRow ((w.alloc (.cells #[.int .u8 0, .int .u8 0, .int .u8 0, .int .u8 0] 47)).drew) w.heap.size 47 [.int .u8 0, .int .u8 0, .int .u8 0, .int .u8 0] from (ARow.fresh w 47 #[.int .u8 0, .int .u8 0, .int .u8 0, .int .u8 0]).vrow).below hb10; have y0 := hz.cell (k := 0) rfl; have y1 := hz.cell (k := 1) rfl; have y2 := hz.cell (k := 2) rfl; have y3 := hz.cell (k := 3) rfl; have x0 := hz.frozen 0; have x1 := hz.frozen 1; have x2 := hz.frozen 2; have x3 := hz.frozen 3; have hb1 : Below w.heap.size w W1 := (((Below.refl w.heap.size w).alloc (Nat.le_refl _) _).drew).trans (hb10.mono (((Below.refl w.heap.size w).alloc (Nat.le_refl _) _).drew).size); have hle1 := hb1.size))
      all_goals go_wp2_with fail
      all_goals go_meet
      · exact ⟨_, rfl, rfl, PBoxAt.fresh hb1 q⟩
      · exact ⟨_, rfl, rfl, PBoxAt.fill hb1 hz q⟩
    case rest =>
      obtain ⟨B, rfl, rfl, hB, hv, hb1⟩ := hcut
      obtain ⟨W1, rfl⟩ : ∃ W1 : World, W1 = wc := ⟨_, rfl⟩
      have H1 := mhid (H.out.keepb hb1)
      have ctp := HT.out _ hb1
      clear d0 c0 c7 c26 HS hS0 HT
      by_cases hz : er = 0
      · rw [if_pos hz] at HE
        have HOK2 := mhid (HOK.out hz)
        subst hz
        have HY := mhid (dsure_no W1 G M m D x a b n H1.out)
        have b0 := hv.cell (k := 0) rfl
        have b1 := hv.cell (k := 1) rfl
        have b2 := hv.cell (k := 2) rfl
        have b3 := hv.cell (k := 3) rfl
        have d0 := H1.out.dc.d0
        have d9 := H1.out.dc.d9
        have c5 := H1.out.mach.mc.cwp
        have c6 := H1.out.mach.mc.pil
        have c7 := H1.out.mach.mc.bank
        have c8 := H1.out.mach.mc.flags
        have f5 := H1.out.mach.mc.fz 5
        have f6 := H1.out.mach.mc.fz 6
        have f7 := H1.out.mach.mc.fz 7
        have f8 := H1.out.mach.mc.fz 8
        have fd := H1.out.dc.fd
        go_wp2_with fail
        refine HY.out.mono ?_
        rintro e w2 ⟨rfl, rfl⟩
        go_wp2_with fail
        go_region
        go_wp2_with fail
        go_returns
        rw [HE.out]
        have hd9 := H1.out.d.setNext tpcv
        have hm9 := (H1.out.mach.keep ((Only.refl (fun k => k = D) W1).setCell (p := ⟨D, 9, none⟩) rfl (.int .u32 tpcv)) (fun k hk e => hk (by rw [e]; exact H1.out.rD))).setPsr HOK2.out.1 HOK2.out.2
        have o9 : Only (fun k => G.own k ∨ k = D) w0 (W1.setCell ⟨D, 9, none⟩ (.int .u32 tpcv)) := (HO1.out.trans (own_below hb1)).setCell (p := ⟨D, 9, none⟩) (.inr rfl) _
        exact ⟨rfl, (DoEnd.of (m1 := { m with p := q }) hm9 (hd9.keep (onlyM4 _ M _ _ _ _) H1.out.ne.1) (o9.trans ((onlyM4 _ M _ _ _ _).mono (fun k _ e => .inl (e ▸ H1.out.mach.ownM)))) hpb (finM_run HRN.out)).drew⟩
      · rw [if_neg hz] at HE
        have HY := mhid (dsure_yes W1 G M m D x a b n H1.out er hz)
        clear hz
        go_wp2_with fail
        refine HY.out.mono ?_
        rintro e w2 ⟨rfl, hm, ho⟩
        go_wp2_with fail
        go_returns
        rw [HE.out]
        exact ⟨rfl, H1.out.fin (HO1.out.trans (own_below hb1)) hm ho (fun k e => e ▸ H1.out.mach.ownM) (finM_halt _ _ _ _ (by omega))⟩
end Go.Proofs.YtajholbcpmjhiaaGreatDoor
/- The walks of the machine's instructions: choice, print. -/
namespace Go.Proofs.YtajholbcpmjhiaaGreatDoor
open Go.RowKit
theorem opS34 {m : Mx} {x : Ix} {a b : Int} (h : x.op = 34) : opS m x a b = onM (setM { m with ch := m.ch.tail } x.rd (m.ch.headD 0)) := by unfold opS; rw [h]; rfl
theorem DoIn.after' {w w1 : World} {G G1 : MG} {M : Nat} {m m1 : Mx} {D : Nat} {x : Ix} {a b n : Int} {C : Nat → Prop} (h : DoIn w G M m D x a b n) (hm : MachAt w1 G1 M m1) (hR : G1.R = G.R) (ho : Only C w w1) (hC : ∀ k, C k → G.own k) (hk : m1.kind = 0) : DoIn w1 G1 M m1 D x a b n :=
  ⟨hm, h.d.keep ho (fun hc => (hC D hc).1 h.rD), by rw [hR]; exact h.rD, h.fits, h.ha, h.hb, h.hn, hk⟩
theorem chs_nil {w : World} {v : Value} {l : List Int} (h : MChAt w v l) (hl : l = []) : ∃ p c, v = .slice p 0 c := by
  obtain ⟨⟨_, p, c, rfl, _⟩, _⟩ := h
  subst hl
  exact ⟨p, c, rfl⟩
theorem chs_cons {w : World} {v : Value} {y : Int} {l : List Int} (h : MChAt w v (y :: l)) : ∃ b o c, v = .slice (some ⟨b, o, none⟩) (l.length + 1) c ∧ l.length + 1 ≤ c ∧ w.cell? ⟨b, o, none⟩ = some (.int .u32 y) := by
  obtain ⟨⟨_, p, c, rfl, h2⟩, h3⟩ := h
  obtain ⟨b, o, rfl, h4⟩ := h2 (by simp)
  have h5 := h4 0 (by simp)
  exact ⟨b, o, c, rfl, (h3 _ _ _ rfl).1, by simpa using h5⟩
theorem chs_next {y : Int} {l : List Int} {b o c : Nat} {p : Option Addr} (hp : 0 < l.length → p = some ⟨b, o + 1, none⟩) (hpn : p ≠ none) (hc : l.length + 1 ≤ c) (W : World) (h : MChAt W (.slice (some ⟨b, o, none⟩) (l.length + 1) c) (y :: l)) : MChAt W (.slice p l.length (c - 1)) l := by
  obtain ⟨⟨h1, p', c', e, h2⟩, h3⟩ := h
  cases e
  refine ⟨⟨by simp at h1; omega, p, _, rfl, fun h0 => ⟨b, o + 1, hp h0, fun k hk => ?_⟩⟩, fun p n c e => by cases e; exact ⟨by omega, fun e => absurd e hpn⟩⟩
  obtain ⟨b', o', e, h4⟩ := h2 (by simp)
  cases e
  have := h4 (k + 1) (by simp; omega)
  rw [show o + 1 + k = o + (k + 1) by omega, this]
  simp
set_option maxRecDepth 100000 in
set_option maxHeartbeats 2000000 in
theorem do_choice (w : World) (G : MG) (M : Nat) (m : Mx) (D : Nat) (x : Ix) (a b n : Int) (h : DoIn w G M m D x a b n) (hop : x.op = 34) (hn : n = u32 (m.pc + 4)) :
    Calls Tryz.prog 177 #[.pointer (some ⟨D, 0, none⟩)] w fun e w' => e = .returned (.tuple #[]) ∧ DoEnd w G M D x a b (opS m x a b) w' := by
  have HE := mhid (opS34 hop (m := m) (a := a) (b := b))
  have H := mhid h
  have HN := mhid hn
  have hchs := h.mach.chs
  have d0 := h.dc.d0
  have c43 := h.mach.mc.ch
  cases hcm : m.ch with
  | nil =>
    obtain ⟨p, c, hv⟩ := chs_nil hchs hcm
    rw [hv] at c43
    rw [hcm] at HE
    have HM := mhid (show ({ m with ch := ([] : List Int) } : Mx) = m from by rw [← hcm])
    have HS := mhid (h.drew.set (own_drew w G D) x.rd 0 h.fits.rd0 h.fits.rd1 (by omega) (fin_on h.run rfl hn))
    have d2 := h.dc.d2
    clear h hn hop hchs hv hcm
    go_enter Tryz.func177, Tryz.ntmps177
    go_wp2_with fail
    go_still_tail 10, (by kernel_rfl)
    change wpList _ _ _ _ _ w.drew
    go_wp2_with fail
    refine HS.out.mono ?_
    rintro e w' ⟨rfl, he⟩
    go_wp2_with fail
    go_returns
    rw [HE.out]
    refine ⟨rfl, ?_⟩
    show DoEnd w G M D x a b (onM (setM { m with ch := ([] : List Int) } x.rd 0)) _
    rw [HM.out]
    exact he
  | cons y l =>
    rw [hcm] at hchs HE
    obtain ⟨bb, o, c, hv, hlc, hy⟩ := chs_cons hchs
    have hyb : 0 ≤ y ∧ y < 4294967296 := h.mach.ok.cw y (by rw [hcm]; simp)
    have hlw : Words l := fun z hz => h.mach.ok.cw z (by rw [hcm]; simp [hz])
    have HX := mhid (And.intro hcm (And.intro hv hlw))
    rw [hv] at c43
    have f43 := h.mach.mc.fz 43
    have n1 : (0 : Int) < ((l.length + 1 : Nat) : Int) := by omega
    have n2 : 0 < l.length + 1 := by omega
    have n3 : ¬ ((l.length + 1 : Nat) : Int) < 1 := by omega
    have n4 : (1 : Int) ≤ ((l.length + 1 : Nat) : Int) := by omega
    have n5 : (1 : Int) ≤ (c : Int) := by omega
    clear h hn hop hchs hv hcm
    by_cases hc1 : c = 1
    all_goals
      go_enter Tryz.func177, Tryz.ntmps177
      go_wp2_with fail
      go_region
    · have hm := H.out.mach.setCh (.slice (some ⟨bb, o, none⟩) l.length 0) l HX.out.2.2 (fun W hW => by
        rw [HX.out.2.1, HX.out.1] at hW
        exact by
          have := chs_next (p := some ⟨bb, o, none⟩) (fun h0 => by omega) (by simp) hlc W hW
          rwa [show c - 1 = 0 by omega] at this)
      have h1 := (DoIn.after' H.out hm rfl (onlyM w M 43 _) (fun k e => e ▸ H.out.mach.ownM) H.out.run).drew
      have HO := mhid (show Only (fun k => G.own k ∨ k = D) w (w.setCell ⟨M, 43, none⟩ (.slice (some ⟨bb, o, none⟩) l.length 0)).drew from ((onlyM w M 43 _).mono (fun k _ e => .inl (e ▸ H.out.mach.ownM))).drew)
      have H1 := mhid h1
      clear hm h1 d0 c43 f43
      generalize (w.setCell ⟨M, 43, none⟩ (.slice (some ⟨bb, o, none⟩) l.length 0)).drew = W1 at *
      have HS := mhid (H1.out.drew.set (HO.out.trans (own_drew W1 G D)) x.rd y H.out.fits.rd0 H.out.fits.rd1 hyb (fin_on H.out.run rfl HN.out))
      have d0 := H1.out.dc.d0
      have d2 := H1.out.dc.d2
      go_wp2_with fail
      go_still_tail 10, (by kernel_rfl)
      change wpList _ _ _ _ _ W1.drew
      go_wp2_with fail
      refine HS.out.mono ?_
      rintro e w' ⟨rfl, he⟩
      go_wp2_with fail
      go_returns
      rw [HE.out]
      exact ⟨rfl, he⟩
    · have hm := H.out.mach.setCh (.slice (some ⟨bb, o + 1, none⟩) l.length (c - 1)) l HX.out.2.2 (fun W hW => by
        rw [HX.out.2.1, HX.out.1] at hW
        exact chs_next (p := some ⟨bb, o + 1, none⟩) (fun h0 => rfl) (by simp) hlc W hW)
      have h1 := (DoIn.after' H.out hm rfl (onlyM w M 43 _) (fun k e => e ▸ H.out.mach.ownM) H.out.run).drew
      have HO := mhid (show Only (fun k => G.own k ∨ k = D) w (w.setCell ⟨M, 43, none⟩ (.slice (some ⟨bb, o + 1, none⟩) l.length (c - 1))).drew from ((onlyM w M 43 _).mono (fun k _ e => .inl (e ▸ H.out.mach.ownM))).drew)
      have H1 := mhid h1
      clear hm h1 d0 c43 f43
      generalize (w.setCell ⟨M, 43, none⟩ (.slice (some ⟨bb, o + 1, none⟩) l.length (c - 1))).drew = W1 at *
      have HS := mhid (H1.out.drew.set (HO.out.trans (own_drew W1 G D)) x.rd y H.out.fits.rd0 H.out.fits.rd1 hyb (fin_on H.out.run rfl HN.out))
      have d0 := H1.out.dc.d0
      have d2 := H1.out.dc.d2
      go_wp2_with fail
      go_still_tail 10, (by kernel_rfl)
      change wpList _ _ _ _ _ W1.drew
      go_wp2_with fail
      refine HS.out.mono ?_
      rintro e w' ⟨rfl, he⟩
      go_wp2_with fail
      go_returns
      rw [HE.out]
      exact ⟨rfl, he⟩
end Go.Proofs.YtajholbcpmjhiaaGreatDoor
/- The walks of the machine's instructions: print. -/
namespace Go.Proofs.YtajholbcpmjhiaaGreatDoor
open Go.RowKit
theorem opS35 {m : Mx} {x : Ix} {a b : Int} (h : x.op = 35) : opS m x a b = onM { m with out := m.out ++ [a] } := by unfold opS; rw [h]; rfl
theorem MachAt.more {W Wa w' : World} {G : MG} {M : Nat} {m : Mx} (h : MachAt W G M m) (hb : Below W.heap.size W Wa) {v' : Value} {a : Int} (ha : 0 ≤ a ∧ a < 4294967296) (hown : w'.ownsRow 0 24 1 v' (m.out.length + 1) (u32s m.out ++ [.int .u32 a])) (hg : Wa.grownBy w' G.outv.ownBlock)
    (hpl : v'.ownBlock = G.outv.ownBlock ∨ ∀ k, v'.ownBlock = some k → Wa.heap.size ≤ k) :
    ∃ G', MachAt (w'.setCell ⟨M, 44, none⟩ v') G' M { m with out := m.out ++ [a] } ∧ Only G.own W (w'.setCell ⟨M, 44, none⟩ v') ∧ ∀ k, k < W.heap.size → G'.R k = G.R k := by
  have hmo : some M ≠ G.outv.ownBlock := fun e => by
    have := h.ro M e.symm
    rw [h.rM] at this; cases this
  have ho : Only (fun k => k = M ∨ G.outv.ownBlock = some k) W (w'.setCell ⟨M, 44, none⟩ v') := ((Only.of_below hb).grown hg (fun k hk _ => .inr hk)).setCell (p := ⟨M, 44, none⟩) (.inl rfl) _
  have hmlt : M < W.heap.size := h.lt M (by rw [h.rM]; simp)
  have hpm : w'.heap[M]? = W.heap[M]? := (hg.block M (Nat.lt_of_lt_of_le hmlt hb.size) hmo).trans (hb.block M hmlt)
  have hp := (ARow.of_block h.ptr hpm).set 44 v'
  have hnew : ∀ k, v'.ownBlock = some k → G.R k = .out ∨ (G.R k = .none ∧ W.heap.size ≤ k) := fun k hk => by
    rcases hpl with e | e
    · exact .inl (h.ro k (by rw [← e]; exact hk))
    · have hge := Nat.le_trans hb.size (e k hk)
      refine .inr ⟨?_, hge⟩
      cases hr : G.R k with
      | none => rfl
      | _ => exact absurd (h.lt k (by rw [hr]; simp)) (by omega)
  have hR : ∀ k, G.R k ≠ .none → (if v'.ownBlock = some k then MRole.out else G.R k) = G.R k := fun k hk => by
    split
    · rename_i e
      rcases hnew k e with e2 | ⟨e2, _⟩
      · exact e2.symm
      · exact absurd e2 hk
    · rfl
  have hown' : (w'.setCell ⟨M, 44, none⟩ v').ownsRow 0 24 1 v' (m.out ++ [a]).length (u32s (m.out ++ [a])) := by
    rw [List.length_append, show u32s (m.out ++ [a]) = u32s m.out ++ [.int .u32 a] by simp [u32s]]
    refine hown.keepw ((Only.refl (fun k => k = M) w').setCell (p := ⟨M, 44, none⟩) rfl _) (fun k hk e => ?_)
    have e2 : k = M := e
    subst e2
    rcases hnew k hk with e3 | ⟨e3, _⟩
    · rw [h.rM] at e3; cases e3
    · rw [h.rM] at e3; cases e3
  have hok : ({ m with out := m.out ++ [a] } : Mx).ok := outM_ok h.ok (fun y hy => by
    rcases List.mem_append.1 hy with hy | hy
    · exact h.ok.ow y hy
    · rw [List.mem_singleton.1 hy]; exact ha)
  refine ⟨_, h.out' ho (fun k hk => ?_) v' (fun k => if v'.ownBlock = some k then MRole.out else G.R k) hR (fun k hk => ?_) (fun k hk => ?_) (fun k hk => by simp only [if_pos hk]) hown' hok (hp.to (machC_setT (G := G) (m := m) (k := 1) (v := v') h.ok rfl rfl rfl rfl)), ?_, fun k hk => ?_⟩
  · rcases hk with rfl | e
    · exact .inl h.rM
    · exact .inr (h.ro k e)
  · by_cases e : v'.ownBlock = some k
    · exact (hown'.lt k e).2
    · rw [if_neg e] at hk
      exact Nat.lt_of_lt_of_le (h.lt k hk) ho.size
  · by_cases e : v'.ownBlock = some k
    · rw [if_pos e] at hk; cases hk
    · rw [if_neg e] at hk; exact hk
  · refine ho.mono (fun k _ hk => ?_)
    rcases hk with rfl | e
    · exact h.ownM
    · have := h.ro k e
      exact ⟨by rw [this]; simp, by rw [this]; simp⟩
  · by_cases e : v'.ownBlock = some k
    · simp only [if_pos e]
      rcases hnew k e with e2 | ⟨_, e2⟩
      · exact e2.symm
      · omega
    · simp only [if_neg e]
set_option maxRecDepth 100000 in
set_option maxHeartbeats 2000000 in
theorem do_print (w : World) (G : MG) (M : Nat) (m : Mx) (D : Nat) (x : Ix) (a b n : Int) (h : DoIn w G M m D x a b n) (hop : x.op = 35) (hol : m.out.length < 4294967296) (hn : n = u32 (m.pc + 4)) :
    Calls Tryz.prog 178 #[.pointer (some ⟨D, 0, none⟩)] w fun e w' => e = .returned (.tuple #[]) ∧ DoEnd w G M D x a b (opS m x a b) w' := by
  have HE := mhid (opS35 hop (m := m) (a := a) (b := b))
  have H := mhid h
  have HN := mhid hn
  have d0 := h.dc.d0
  have d7 := h.dc.d7
  have c44 := h.mach.mc.out
  have f44 := h.mach.mc.fz 44
  obtain ⟨i0, hi, hz0, hz1, hz2⟩ := info_parts info32
  have HO := mhid (fun (w' : World) (hb : Below w.heap.size w w') => (H.out.mach.out.keepw (Only.of_below (S := fun _ => False) hb) (fun _ _ h => h)))
  have HM := mhid (fun (w' w2 : World) (hb : Below w.heap.size w w') (hg : w'.grownBy w2 G.outv.ownBlock) => (show w2.cell? ⟨M, 44, none⟩ = some G.outv ∧ w2.frozen? ⟨M, 44, none⟩ = false ∧ w2.cell? ⟨D, 0, none⟩ = some (.pointer (some ⟨M, 0, none⟩)) from by
    have hlt := World.block_lt_of_cell? _ _ c44
    have hltd := World.block_lt_of_cell? _ _ d0
    have hned : some D ≠ G.outv.ownBlock := fun e => by
      have := H.out.mach.ro D e.symm
      rw [H.out.rD] at this; cases this
    have ed := hg.block D (Nat.lt_of_lt_of_le hltd hb.size) hned
    have hne : some M ≠ G.outv.ownBlock := fun e => by
      have := H.out.mach.ro M e.symm
      rw [H.out.mach.rM] at this; cases this
    have e := hg.block M (Nat.lt_of_lt_of_le hlt hb.size) hne
    exact ⟨(World.cell?_of_block (a := ⟨M, 44, none⟩) e).trans ((hb.cell (p := ⟨M, 44, none⟩) hlt).trans c44), (World.frozen?_of_block (a := ⟨M, 44, none⟩) e).trans ((hb.frozen (p := ⟨M, 44, none⟩) hlt).trans f44), (World.cell?_of_block (a := ⟨D, 0, none⟩) ed).trans ((hb.cell (p := ⟨D, 0, none⟩) hltd).trans d0)⟩))
  have hml : M < w.heap.size := World.block_lt_of_cell? _ _ c44
  have hdl : D < w.heap.size := World.block_lt_of_cell? _ _ d0
  clear h hn hop
  go_enter Tryz.func178, Tryz.ntmps178
  go_wp2_with fail
  go_region_law (first | (refine step_append_place _ rfl _ _ 22 rfl 24 i0 _ 4 Tryz.underlying22 hi hz0 hz1 hz2 rfl G.outv m.out.length (u32s m.out) (by first | rfl | (go_simp; done) | (simp [Act.eval]; done)) (HO.out _ (by go_grown)) ⟨w.heap.size, 0, none⟩ 1 1 [.int .u32 a] (by first | rfl | (go_simp; done) | (simp [Act.eval]; done)) rfl (cell_one_new3 _ _ _) (by simp [Value.oneCell']) (by unfold maxLen; omega) (by omega) ?_; intro v' w' hown hgrow hpl; obtain ⟨q4, qf4, qd0⟩ := HM.out _ w' (by go_grown) hgrow; obtain ⟨pv, nv, cv, rfl⟩ := ownsRow_shape hown))
  all_goals
    have hba : Below w.heap.size w (w.drew.alloc (.cells #[.int .u32 a] 24)) := ((Below.refl _ _).drew).alloc (Nat.le_refl _) _
    obtain ⟨G', hf, ho, hR⟩ := H.out.mach.more hba H.out.ha hown hgrow hpl
    go_wp2_with fail
    go_returns
    rw [HE.out]
    have hD : ¬ G.own D := fun hc => hc.1 H.out.rD
    exact ⟨rfl, G', _, n, hf, H.out.d.keep ho hD, ho.mono (fun k _ hk => .inl hk), hR, H.out.hn, fin_on H.out.run rfl HN.out⟩
end Go.Proofs.YtajholbcpmjhiaaGreatDoor
/- The table of the machine's instructions, and what each does. -/
namespace Go.Proofs.YtajholbcpmjhiaaGreatDoor
open Go.RowKit
def mfnOf (op : Nat) : Nat :=
  match op with
  | 15 => 158
  | 16 => 159
  | 17 => 160
  | 18 => 161
  | 19 => 162
  | 20 => 163
  | 21 => 164
  | 22 => 165
  | 23 => 166
  | 24 => 167
  | 25 => 168
  | 26 => 169
  | 27 => 170
  | 28 => 171
  | 29 => 172
  | 30 => 173
  | 31 => 174
  | 32 => 175
  | 33 => 176
  | 34 => 177
  | 35 => 178
  | 36 => 179
  | 37 => 180
  | _ => 112
theorem mfn_alu {op : Nat} (h : op ≤ 14) : mfnOf op = 112 := by
  have hc : op = 0 ∨ op = 1 ∨ op = 2 ∨ op = 3 ∨ op = 4 ∨ op = 5 ∨ op = 6 ∨ op = 7 ∨ op = 8 ∨ op = 9 ∨ op = 10 ∨ op = 11 ∨ op = 12 ∨ op = 13 ∨ op = 14 := by omega
  rcases hc with rfl | rfl | rfl | rfl | rfl | rfl | rfl | rfl | rfl | rfl | rfl | rfl | rfl | rfl | rfl <;> rfl
theorem menter_sethi (args : Array Value) (w : World) : (callFunc 158 args).run Tryz.prog w = .ok (.enter 158 args) w := by kernel_rfl
theorem menter_cmp (args : Array Value) (w : World) : (callFunc 159 args).run Tryz.prog w = .ok (.enter 159 args) w := by kernel_rfl
theorem menter_br (args : Array Value) (w : World) : (callFunc 160 args).run Tryz.prog w = .ok (.enter 160 args) w := by kernel_rfl
theorem menter_call (args : Array Value) (w : World) : (callFunc 161 args).run Tryz.prog w = .ok (.enter 161 args) w := by kernel_rfl
theorem menter_jmpl (args : Array Value) (w : World) : (callFunc 162 args).run Tryz.prog w = .ok (.enter 162 args) w := by kernel_rfl
theorem menter_save (args : Array Value) (w : World) : (callFunc 163 args).run Tryz.prog w = .ok (.enter 163 args) w := by kernel_rfl
theorem menter_restore (args : Array Value) (w : World) : (callFunc 164 args).run Tryz.prog w = .ok (.enter 164 args) w := by kernel_rfl
theorem menter_ld (args : Array Value) (w : World) : (callFunc 165 args).run Tryz.prog w = .ok (.enter 165 args) w := by kernel_rfl
theorem menter_st (args : Array Value) (w : World) : (callFunc 166 args).run Tryz.prog w = .ok (.enter 166 args) w := by kernel_rfl
theorem menter_ldb (args : Array Value) (w : World) : (callFunc 167 args).run Tryz.prog w = .ok (.enter 167 args) w := by kernel_rfl
theorem menter_stb (args : Array Value) (w : World) : (callFunc 168 args).run Tryz.prog w = .ok (.enter 168 args) w := by kernel_rfl
theorem menter_rdpsr (args : Array Value) (w : World) : (callFunc 169 args).run Tryz.prog w = .ok (.enter 169 args) w := by kernel_rfl
theorem menter_wrpsr (args : Array Value) (w : World) : (callFunc 170 args).run Tryz.prog w = .ok (.enter 170 args) w := by kernel_rfl
theorem menter_rdwim (args : Array Value) (w : World) : (callFunc 171 args).run Tryz.prog w = .ok (.enter 171 args) w := by kernel_rfl
theorem menter_wrwim (args : Array Value) (w : World) : (callFunc 172 args).run Tryz.prog w = .ok (.enter 172 args) w := by kernel_rfl
theorem menter_rdt (args : Array Value) (w : World) : (callFunc 173 args).run Tryz.prog w = .ok (.enter 173 args) w := by kernel_rfl
theorem menter_wrt (args : Array Value) (w : World) : (callFunc 174 args).run Tryz.prog w = .ok (.enter 174 args) w := by kernel_rfl
theorem menter_rett (args : Array Value) (w : World) : (callFunc 175 args).run Tryz.prog w = .ok (.enter 175 args) w := by kernel_rfl
theorem menter_trapped (args : Array Value) (w : World) : (callFunc 176 args).run Tryz.prog w = .ok (.enter 176 args) w := by kernel_rfl
theorem menter_choice (args : Array Value) (w : World) : (callFunc 177 args).run Tryz.prog w = .ok (.enter 177 args) w := by kernel_rfl
theorem menter_print (args : Array Value) (w : World) : (callFunc 178 args).run Tryz.prog w = .ok (.enter 178 args) w := by kernel_rfl
theorem menter_halted (args : Array Value) (w : World) : (callFunc 179 args).run Tryz.prog w = .ok (.enter 179 args) w := by kernel_rfl
theorem menter_fault (args : Array Value) (w : World) : (callFunc 180 args).run Tryz.prog w = .ok (.enter 180 args) w := by kernel_rfl
theorem menter_alu (args : Array Value) (w : World) : (callFunc 112 args).run Tryz.prog w = .ok (.enter 112 args) w := by kernel_rfl
theorem menter_fn (op : Nat) (h : op ≤ 37) (args : Array Value) (w : World) : (callFunc (mfnOf op) args).run Tryz.prog w = .ok (.enter (mfnOf op) args) w := by
  have hc : op ≤ 14 ∨ op = 15 ∨ op = 16 ∨ op = 17 ∨ op = 18 ∨ op = 19 ∨ op = 20 ∨ op = 21 ∨ op = 22 ∨ op = 23 ∨ op = 24 ∨ op = 25 ∨ op = 26 ∨ op = 27 ∨ op = 28 ∨ op = 29 ∨ op = 30 ∨ op = 31 ∨ op = 32 ∨ op = 33 ∨ op = 34 ∨ op = 35 ∨ op = 36 ∨ op = 37 := by omega
  rcases hc with h | rfl | rfl | rfl | rfl | rfl | rfl | rfl | rfl | rfl | rfl | rfl | rfl | rfl | rfl | rfl | rfl | rfl | rfl | rfl | rfl | rfl | rfl | rfl
  · rw [mfn_alu h]; exact menter_alu args w
  · exact menter_sethi args w
  · exact menter_cmp args w
  · exact menter_br args w
  · exact menter_call args w
  · exact menter_jmpl args w
  · exact menter_save args w
  · exact menter_restore args w
  · exact menter_ld args w
  · exact menter_st args w
  · exact menter_ldb args w
  · exact menter_stb args w
  · exact menter_rdpsr args w
  · exact menter_wrpsr args w
  · exact menter_rdwim args w
  · exact menter_wrwim args w
  · exact menter_rdt args w
  · exact menter_wrt args w
  · exact menter_rett args w
  · exact menter_trapped args w
  · exact menter_choice args w
  · exact menter_print args w
  · exact menter_halted args w
  · exact menter_fault args w
theorem mdisp_any (w : World) (hbr : Bru w) (G : MG) (M : Nat) (m : Mx) (D : Nat) (x : Ix) (a b n : Int) (h : DoIn w G M m D x a b n) (hn : n = u32 (m.pc + 4)) (hol : m.out.length < 4294967296) :
    Calls Tryz.prog (mfnOf x.op.toNat) #[.pointer (some ⟨D, 0, none⟩)] w fun e w' => e = .returned (.tuple #[]) ∧ DoEnd w G M D x a b (opS m x a b) w' := by
  have h0 := h.fits.op0
  have h1 := h.fits.op1
  have hc : x.op ≤ 14 ∨ x.op = 15 ∨ x.op = 16 ∨ x.op = 17 ∨ x.op = 18 ∨ x.op = 19 ∨ x.op = 20 ∨ x.op = 21 ∨ x.op = 22 ∨ x.op = 23 ∨ x.op = 24 ∨ x.op = 25 ∨ x.op = 26 ∨ x.op = 27 ∨ x.op = 28 ∨ x.op = 29 ∨ x.op = 30 ∨ x.op = 31 ∨ x.op = 32 ∨ x.op = 33 ∨ x.op = 34 ∨ x.op = 35 ∨ x.op = 36 ∨ x.op = 37 := by omega
  rcases hc with e | e | e | e | e | e | e | e | e | e | e | e | e | e | e | e | e | e | e | e | e | e | e | e
  · rw [mfn_alu (by omega)]; exact do_alu w G M m D x a b n h e hn
  · rw [show mfnOf x.op.toNat = 158 by rw [e]; rfl]; exact do_sethi w G M m D x a b n h e hn
  · rw [show mfnOf x.op.toNat = 159 by rw [e]; rfl]; exact do_cmp w G M m D x a b n h e hn
  · rw [show mfnOf x.op.toNat = 160 by rw [e]; rfl]; exact do_br w G M m D x a b n h e hn
  · rw [show mfnOf x.op.toNat = 161 by rw [e]; rfl]; exact do_call w G M m D x a b n h e hn
  · rw [show mfnOf x.op.toNat = 162 by rw [e]; rfl]; exact do_jmpl w G M m D x a b n h e hn
  · rw [show mfnOf x.op.toNat = 163 by rw [e]; rfl]; exact do_save w hbr G M m D x a b n h e hn
  · rw [show mfnOf x.op.toNat = 164 by rw [e]; rfl]; exact do_restore w hbr G M m D x a b n h e hn
  · rw [show mfnOf x.op.toNat = 165 by rw [e]; rfl]; exact do_ld w G M m D x a b n h e hn
  · rw [show mfnOf x.op.toNat = 166 by rw [e]; rfl]; exact do_st w G M m D x a b n h e hn
  · rw [show mfnOf x.op.toNat = 167 by rw [e]; rfl]; exact do_ldb w G M m D x a b n h e hn
  · rw [show mfnOf x.op.toNat = 168 by rw [e]; rfl]; exact do_stb w G M m D x a b n h e hn
  · rw [show mfnOf x.op.toNat = 169 by rw [e]; rfl]; exact do_rdpsr w G M m D x a b n h e hn
  · rw [show mfnOf x.op.toNat = 170 by rw [e]; rfl]; exact do_wrpsr w G M m D x a b n h e hn
  · rw [show mfnOf x.op.toNat = 171 by rw [e]; rfl]; exact do_rdwim w G M m D x a b n h e hn
  · rw [show mfnOf x.op.toNat = 172 by rw [e]; rfl]; exact do_wrwim w hbr G M m D x a b n h e hn
  · rw [show mfnOf x.op.toNat = 173 by rw [e]; rfl]; exact do_rdt w G M m D x a b n h e hn
  · rw [show mfnOf x.op.toNat = 174 by rw [e]; rfl]; exact do_wrt w G M m D x a b n h e hn
  · rw [show mfnOf x.op.toNat = 175 by rw [e]; rfl]; exact do_rett w G M m D x a b n h e hn
  · rw [show mfnOf x.op.toNat = 176 by rw [e]; rfl]; exact do_trapped w G M m D x a b n h e hn
  · rw [show mfnOf x.op.toNat = 177 by rw [e]; rfl]; exact do_choice w G M m D x a b n h e hn
  · rw [show mfnOf x.op.toNat = 178 by rw [e]; rfl]; exact do_print w G M m D x a b n h e hol hn
  · rw [show mfnOf x.op.toNat = 179 by rw [e]; rfl]; exact do_halted w G M m D x a b n h e hn
  · rw [show mfnOf x.op.toNat = 180 by rw [e]; rfl]; exact do_fault w G M m D x a b n h e hn
abbrev mopsV : Array Value := #[.nilFunc, .nilFunc, .nilFunc, .nilFunc, .nilFunc, .nilFunc, .nilFunc, .nilFunc, .nilFunc, .nilFunc, .nilFunc, .nilFunc, .nilFunc, .nilFunc, .nilFunc, .func (.func 158) #[] #[], .func (.func 159) #[] #[], .func (.func 160) #[] #[], .func (.func 161) #[] #[], .func (.func 162) #[] #[], .func (.func 163) #[] #[], .func (.func 164) #[] #[], .func (.func 165) #[] #[], .func (.func 166) #[] #[], .func (.func 167) #[] #[], .func (.func 168) #[] #[], .func (.func 169) #[] #[], .func (.func 170) #[] #[], .func (.func 171) #[] #[], .func (.func 172) #[] #[], .func (.func 173) #[] #[], .func (.func 174) #[] #[], .func (.func 175) #[] #[], .func (.func 176) #[] #[], .func (.func 177) #[] #[], .func (.func 178) #[] #[], .func (.func 179) #[] #[], .func (.func 180) #[] #[]]
set_option maxRecDepth 100000 in
set_option maxHeartbeats 2000000 in
theorem moperations_any (w : World) : Calls Tryz.prog 111 #[] w fun e w' => e = .returned (.agg mopsV) ∧ Below w.heap.size w w' := by
  have hz : ARow (w.alloc (.cells (#[.nilFunc, .nilFunc, .nilFunc, .nilFunc, .nilFunc, .nilFunc, .nilFunc, .nilFunc, .nilFunc, .nilFunc, .nilFunc, .nilFunc, .nilFunc, .nilFunc, .nilFunc, .nilFunc, .nilFunc, .nilFunc, .nilFunc, .nilFunc, .nilFunc, .nilFunc, .nilFunc, .nilFunc, .nilFunc, .nilFunc, .nilFunc, .nilFunc, .nilFunc, .nilFunc, .nilFunc, .nilFunc, .nilFunc, .nilFunc, .nilFunc, .nilFunc, .nilFunc, .nilFunc] : Array Value) 173)) w.heap.size 173 (#[.nilFunc, .nilFunc, .nilFunc, .nilFunc, .nilFunc, .nilFunc, .nilFunc, .nilFunc, .nilFunc, .nilFunc, .nilFunc, .nilFunc, .nilFunc, .nilFunc, .nilFunc, .nilFunc, .nilFunc, .nilFunc, .nilFunc, .nilFunc, .nilFunc, .nilFunc, .nilFunc, .nilFunc, .nilFunc, .nilFunc, .nilFunc, .nilFunc, .nilFunc, .nilFunc, .nilFunc, .nilFunc, .nilFunc, .nilFunc, .nilFunc, .nilFunc, .nilFunc, .nilFunc] : Array Value).toList := ARow.fresh w _ _
  have HZ := mhid (show (w.alloc (.cells (#[.nilFunc, .nilFunc, .nilFunc, .nilFunc, .nilFunc, .nilFunc, .nilFunc, .nilFunc, .nilFunc, .nilFunc, .nilFunc, .nilFunc, .nilFunc, .nilFunc, .nilFunc, .nilFunc, .nilFunc, .nilFunc, .nilFunc, .nilFunc, .nilFunc, .nilFunc, .nilFunc, .nilFunc, .nilFunc, .nilFunc, .nilFunc, .nilFunc, .nilFunc, .nilFunc, .nilFunc, .nilFunc, .nilFunc, .nilFunc, .nilFunc, .nilFunc, .nilFunc, .nilFunc] : Array Value) 173)).heap[w.heap.size]? = some (.cells (#[.nilFunc, .nilFunc, .nilFunc, .nilFunc, .nilFunc, .nilFunc, .nilFunc, .nilFunc, .nilFunc, .nilFunc, .nilFunc, .nilFunc, .nilFunc, .nilFunc, .nilFunc, .nilFunc, .nilFunc, .nilFunc, .nilFunc, .nilFunc, .nilFunc, .nilFunc, .nilFunc, .nilFunc, .nilFunc, .nilFunc, .nilFunc, .nilFunc, .nilFunc, .nilFunc, .nilFunc, .nilFunc, .nilFunc, .nilFunc, .nilFunc, .nilFunc, .nilFunc, .nilFunc] : Array Value) 173 (0, 0)) from heap_alloc_new w _)
  clear hz
  go_enter Tryz.func111, Tryz.ntmps111
  go_wp2_with (refine wpList_store_row rfl 173 (.tmp 0) (.tmp 1) rfl w.heap.size mopsV rfl rfl 173 _ HZ.out (by kernel_rfl) (by kernel_rfl) (by kernel_rfl) ?_)
  have hb : Below w.heap.size w ((w.alloc (.cells (#[.nilFunc, .nilFunc, .nilFunc, .nilFunc, .nilFunc, .nilFunc, .nilFunc, .nilFunc, .nilFunc, .nilFunc, .nilFunc, .nilFunc, .nilFunc, .nilFunc, .nilFunc, .nilFunc, .nilFunc, .nilFunc, .nilFunc, .nilFunc, .nilFunc, .nilFunc, .nilFunc, .nilFunc, .nilFunc, .nilFunc, .nilFunc, .nilFunc, .nilFunc, .nilFunc, .nilFunc, .nilFunc, .nilFunc, .nilFunc, .nilFunc, .nilFunc, .nilFunc, .nilFunc] : Array Value) 173)).setRow w.heap.size mopsV) := below_setRow ((Below.refl _ _).alloc (Nat.le_refl _) _) (Nat.le_refl _) _
  have hr := setRow_heap (w.alloc (.cells (#[.nilFunc, .nilFunc, .nilFunc, .nilFunc, .nilFunc, .nilFunc, .nilFunc, .nilFunc, .nilFunc, .nilFunc, .nilFunc, .nilFunc, .nilFunc, .nilFunc, .nilFunc, .nilFunc, .nilFunc, .nilFunc, .nilFunc, .nilFunc, .nilFunc, .nilFunc, .nilFunc, .nilFunc, .nilFunc, .nilFunc, .nilFunc, .nilFunc, .nilFunc, .nilFunc, .nilFunc, .nilFunc, .nilFunc, .nilFunc, .nilFunc, .nilFunc, .nilFunc, .nilFunc] : Array Value) 173)) w.heap.size _ mopsV _ _ HZ.out
  exact bodyPost_ret (v := .agg mopsV) (results_cell_row (P := Tryz.prog) rfl _ _ w.heap.size _ mopsV (0, 0) _ rfl hr Tryz.underlying173 rfl (by kernel_rfl)) rfl ⟨rfl, hb⟩
end Go.Proofs.YtajholbcpmjhiaaGreatDoor
