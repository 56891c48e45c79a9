/- Several texts in one: MachOpC, MachOpD, StepApp, MachOpE. -/
import Derived.Test.YtajholbcpmjhiaaGreatDoorH12
import Derived.Test.YtajholbcpmjhiaaGreatDoorH13
import Derived.Deep.RegionLaw
set_option linter.unusedVariables false
set_option linter.unusedSimpArgs false
/- The walks of the machine's instructions: ld, ldb, st, stb, rdpsr, wrpsr, wrwim. -/
namespace Go.Proofs.YtajholbcpmjhiaaGreatDoor
open Go.RowKit
set_option maxRecDepth 100000 in
set_option maxHeartbeats 2000000 in
theorem dload_any (w : World) (G : MG) (M : Nat) (m : Mx) (D : Nat) (x : Ix) (a b n : Int) (h : DoIn w G M m D x a b n) (hn : n = u32 (m.pc + 4)) (many : Int) :
    Calls Tryz.prog 200 #[.pointer (some ⟨D, 0, none⟩), .int .i64 many] w fun e w' => e = .returned (.tuple #[]) ∧ DoEnd w G M D x a b (loadM m x.rd (u32 (a + b)) many) w' := by
  have H := mhid h
  have HN := mhid hn
  have ha := h.ha
  have hb := h.hb
  have hbd := u32_bd (a + b)
  have u1 := uw (a + b)
  have hlv := loadV_bd h.mach.ok.bytes (u32 (a + b)) many
  have HL := mhid (fun q => (load_any (w.drewN q) G.mB G.gB m.mem ((h.keepb ((Only.refl (fun _ => False) w).drewN q |>.below (Nat.le_refl _) (fun _ _ => id))).mach.mem) (u32 (a + b)) many hbd.1 hbd.2).mono fun e w' he => (show e = .returned (.tuple #[.int .u32 (loadV m.mem (u32 (a + b)) many), .int .i64 (spanE m.mem.length (u32 (a + b)) 1 many)]) ∧ w' = w.drewN q from ⟨he.1, he.2.symm⟩))
  have HE := mhid (show loadM m x.rd (u32 (a + b)) many = if spanE m.mem.length (u32 (a + b)) 1 many = 0 then onM (setM m x.rd (loadV m.mem (u32 (a + b)) many)) else haltM m 3 0 from rfl)
  have d0 := h.dc.d0
  have d7 := h.dc.d7
  have d8 := h.dc.d8
  have c2 := h.mach.mc.mem
  clear h hn
  generalize u32 (a + b) = at' at *
  generalize loadV m.mem at' many = lv at *
  generalize spanE m.mem.length at' 1 many = er at *
  go_enter Tryz.func200, Tryz.ntmps200
  go_wp2_with fail
  go_quiet ((go_at_call 48; exact Calls.quiet_of_same (HL.out _)))
  have hb1 : Below w.heap.size w (w.drewN nq) := (Only.refl (fun _ => False) w).drewN nq |>.below (Nat.le_refl _) (fun _ _ => id)
  have H1 := mhid (H.out.keepb hb1)
  clear d0 d7 d8 c2 HL
  generalize w.drewN nq = W1 at *
  by_cases hz : er = 0
  · rw [if_pos hz] at HE
    subst hz
    have HY := mhid (dsure_no W1 G M m D x a b n H1.out)
    have HH := mhid (H1.out.drew.set ((own_below hb1).trans (own_drew W1 G D)) x.rd lv H.out.fits.rd0 H.out.fits.rd1 hlv (fin_on H1.out.run rfl HN.out))
    have d0 := H1.out.dc.d0
    have d2 := H1.out.dc.d2
    go_wp2_with fail
    refine HY.out.mono ?_
    rintro e w2 ⟨rfl, rfl⟩
    go_wp2_with fail
    go_still_tail 10, (by kernel_rfl)
    change wpList _ _ _ _ _ W1.drew
    go_wp2_with fail
    refine HH.out.mono ?_
    rintro e w2 ⟨rfl, he⟩
    go_wp2_with fail
    go_returns
    rw [HE.out]
    exact ⟨rfl, he⟩
  · rw [if_neg hz] at HE
    have HY := mhid (dsure_yes W1 G M m D x a b n H1.out er hz)
    clear hz
    go_wp2_with fail
    refine HY.out.mono ?_
    rintro e w2 ⟨rfl, hm, ho⟩
    go_wp2_with fail
    go_returns
    rw [HE.out]
    exact ⟨rfl, H1.out.fin (own_below hb1) hm ho (fun k e => e ▸ H1.out.mach.ownM) (finM_halt _ _ _ _ (by omega))⟩
set_option maxRecDepth 100000 in
set_option maxHeartbeats 4000000 in
theorem dstore_any (w : World) (G : MG) (M : Nat) (m : Mx) (D : Nat) (x : Ix) (a b n : Int) (h : DoIn w G M m D x a b n) (hn : n = u32 (m.pc + 4)) (many : Int) :
    Calls Tryz.prog 201 #[.pointer (some ⟨D, 0, none⟩), .int .i64 many] w fun e w' => e = .returned (.tuple #[]) ∧ DoEnd w G M D x a b (storeM m x.rd (u32 (a + b)) many) w' := by
  have hd : Below w.heap.size w w.drew := (Below.refl _ _).drew
  have H := mhid h
  have HN := mhid hn
  have ha := h.ha
  have hb := h.hb
  have hbd := u32_bd (a + b)
  have u1 := uw (a + b)
  have hgm := getM_bd h.mach.ok x.rd
  have HG := mhid (fun w' (hb : Below w.heap.size w w') => mget_any w' G M m (h.keepb hb).mach x.rd h.fits.rd0 h.fits.rd1)
  have HT := mhid (show ∀ w', Below w.heap.size w w' → Calls Tryz.prog 17 #[.pointer (some ⟨G.mB, 0, none⟩), .int .u32 (u32 (a + b)), .int .i64 many, .int .u32 (getM m x.rd)] w' fun e w2 => e = .returned (.int .i64 (spanE m.mem.length (u32 (a + b)) 1 many)) ∧ MemAt w2 G.mB G.gB (storeV m.mem (u32 (a + b)) many (getM m x.rd)) ∧ Only (fun k => k = G.gB) w' w2 from fun w' hb => (store_any w' G.mB G.gB m.mem (h.keepb hb).mach.mem (u32 (a + b)) many hbd.1 hbd.2 (getM m x.rd) hgm.1 hgm.2).mono fun e w2 he => ⟨he.1, he.2.1, he.2.2.1⟩)
  have hsv := storeV_ok h.mach.ok.bytes (u32 (a + b)) many (getM m x.rd)
  have HI := mhid (show ∀ W1 W2, Below w.heap.size w W1 → MemAt W2 G.mB G.gB (storeV m.mem (u32 (a + b)) many (getM m x.rd)) → Only (fun k => k = G.gB) W1 W2 → DoIn W2 G M { m with mem := storeV m.mem (u32 (a + b)) many (getM m x.rd) } D x a b n from fun W1 W2 hb1 hm ho =>
    (h.keepb hb1).after ((h.keepb hb1).mach.mem' ho hm (memM_ok h.mach.ok hsv.1 hsv.2)) ho (fun k e => e ▸ h.mach.owng) h.run)
  have HY := mhid (show ∀ W1 W2, Below w.heap.size w W1 → MemAt W2 G.mB G.gB (storeV m.mem (u32 (a + b)) many (getM m x.rd)) → Only (fun k => k = G.gB) W1 W2 → Calls Tryz.prog 203 #[.pointer (some ⟨D, 0, none⟩), .int .i64 (spanE m.mem.length (u32 (a + b)) 1 many)] W2 fun e w' => e = .returned (.bool (spanE m.mem.length (u32 (a + b)) 1 many == 0)) ∧ DoEnd w G M D x a b (storeM m x.rd (u32 (a + b)) many) w' ∧ (w'.cell? ⟨D, 0, none⟩ = some (.pointer (some ⟨M, 0, none⟩)) ∧ w'.cell? ⟨D, 2, none⟩ = some (.int .u8 x.rd) ∧ w'.cell? ⟨D, 7, none⟩ = some (.int .u32 a) ∧ w'.cell? ⟨D, 8, none⟩ = some (.int .u32 b) ∧ w'.cell? ⟨M, 2, none⟩ = some (.pointer (some ⟨G.mB, 0, none⟩))) from fun W1 W2 hb1 hm ho => by
    have hi := HI.out W1 W2 hb1 hm ho
    have o2 : Only (fun k => G.own k ∨ k = D) w W2 := (own_below hb1).trans (ho.mono (fun k _ e => .inl (e ▸ h.mach.owng)))
    by_cases hz : spanE m.mem.length (u32 (a + b)) 1 many = 0
    · rw [hz]
      refine (dsure_no W2 G M _ D x a b n hi).mono ?_
      rintro e w' ⟨rfl, rfl⟩
      refine ⟨rfl, DoEnd.of hi.mach hi.d o2 hi.hn ?_, hi.dc.d0, hi.dc.d2, hi.dc.d7, hi.dc.d8, hi.mach.mc.mem⟩
      unfold storeM
      rw [if_pos hz]
      exact fin_on h.run rfl hn
    · refine (dsure_yes W2 G M _ D x a b n hi _ hz).mono ?_
      rintro e w' ⟨rfl, hm3, ho3⟩
      have hdc := DAt.dc (G := G) (m := m) (hi.d.keep ho3 hi.ne.1)
      refine ⟨by rw [beq_false_of_ne hz], hi.fin o2 hm3 ho3 (fun k e => e ▸ h.mach.ownM) ?_, hdc.d0, hdc.d2, hdc.d7, hdc.d8, hm3.mc.mem⟩
      rw [finM_halt _ _ _ _ (by omega)]
      unfold storeM storeV
      rw [if_neg hz, if_neg hz])
  have d0 := h.dc.d0
  have d2 := h.dc.d2
  have d7 := h.dc.d7
  have d8 := h.dc.d8
  have c2 := h.mach.mc.mem
  have HS := mhid (show ∀ w', Below w.heap.size w w' → w'.cell? ⟨D, 0, none⟩ = some (.pointer (some ⟨M, 0, none⟩)) ∧ w'.cell? ⟨D, 2, none⟩ = some (.int .u8 x.rd) ∧ w'.cell? ⟨D, 7, none⟩ = some (.int .u32 a) ∧ w'.cell? ⟨D, 8, none⟩ = some (.int .u32 b) ∧ w'.cell? ⟨M, 2, none⟩ = some (.pointer (some ⟨G.mB, 0, none⟩)) from fun w' hb => by
    have hc := h.keepb hb
    exact ⟨hc.dc.d0, hc.dc.d2, hc.dc.d7, hc.dc.d8, hc.mach.mc.mem⟩)
  have HS2 := mhid (show ∀ W1 w', Below w.heap.size w W1 → MemAt w' G.mB G.gB (storeV m.mem (u32 (a + b)) many (getM m x.rd)) → Only (fun k => k = G.gB) W1 w' → w'.cell? ⟨D, 0, none⟩ = some (.pointer (some ⟨M, 0, none⟩)) ∧ w'.cell? ⟨D, 2, none⟩ = some (.int .u8 x.rd) ∧ w'.cell? ⟨D, 7, none⟩ = some (.int .u32 a) ∧ w'.cell? ⟨D, 8, none⟩ = some (.int .u32 b) ∧ w'.cell? ⟨M, 2, none⟩ = some (.pointer (some ⟨G.mB, 0, none⟩)) from fun W1 w' hb1 hm ho => by
    have hi := HI.out W1 w' hb1 hm ho
    exact ⟨hi.dc.d0, hi.dc.d2, hi.dc.d7, hi.dc.d8, hi.mach.mc.mem⟩)
  have hle1 : True := trivial
  clear h hn hle1
  generalize u32 (a + b) = at' at *
  generalize getM m x.rd = gm at *
  generalize storeV m.mem at' many gm = sv at *
  generalize storeM m x.rd at' many = sm at *
  generalize spanE m.mem.length at' 1 many = er at *
  go_enter Tryz.func201, Tryz.ntmps201
  go_wp2_with fail
  go_region_held3 (fun w' => w'.cell? ⟨D, 0, none⟩ = some (.pointer (some ⟨M, 0, none⟩)) ∧ w'.cell? ⟨D, 2, none⟩ = some (.int .u8 x.rd) ∧ w'.cell? ⟨D, 7, none⟩ = some (.int .u32 a) ∧ w'.cell? ⟨D, 8, none⟩ = some (.int .u32 b) ∧ w'.cell? ⟨M, 2, none⟩ = some (.pointer (some ⟨G.mB, 0, none⟩))) (first | (with_reducible exact ⟨d0, d2, d7, d8, c2⟩) | (exact HZS.out) | (exact HS2.out _ _ hb1.out HM2.out.1 HM2.out.2) | (exact HS.out _ hb1.out) | (refine HS.out _ ?_; go_grown; done))
    (first | (go_at_call 157; (with_reducible refine (HG.out _ hd).mono ?_); rintro e W1 ⟨rfl, q, rfl⟩; have hb1 : Below w.heap.size w (w.drew.drewN q) := hd.trans ((Only.refl (fun _ => False) w.drew).drewN q |>.below hd.size (fun _ _ => id)); have hb1 := mhid hb1; generalize w.drew.drewN q = W1 at *) | (go_at_call 17; (with_reducible refine (HT.out _ hb1.out).mono ?_); rintro e W2 ⟨rfl, hmm, hoo⟩; have HM2 := mhid (And.intro hmm hoo); clear hmm hoo) | (go_at_call 203; (with_reducible refine (HY.out _ _ hb1.out HM2.out.1 HM2.out.2).mono ?_); rintro e W3 ⟨rfl, HZ, HZS⟩; have HZ := mhid HZ; have HZS := mhid HZS))
  go_wp2_with fail
  go_returns
  exact ⟨rfl, HZ.out⟩
end Go.Proofs.YtajholbcpmjhiaaGreatDoor
/- The walks of the machine's instructions: ld, ldb, st, stb, rdpsr, wrwim, trapped, halted, fault. -/
namespace Go.Proofs.YtajholbcpmjhiaaGreatDoor
open Go.RowKit
theorem opS22 {m : Mx} {x : Ix} {a b : Int} (h : x.op = 22) : opS m x a b = loadM m x.rd (u32 (a + b)) 4 := by unfold opS; rw [h]; rfl
set_option maxRecDepth 100000 in
set_option maxHeartbeats 2000000 in
theorem do_ld (w : World) (G : MG) (M : Nat) (m : Mx) (D : Nat) (x : Ix) (a b n : Int) (h : DoIn w G M m D x a b n) (hop : x.op = 22) (hn : n = u32 (m.pc + 4)) :
    Calls Tryz.prog 165 #[.pointer (some ⟨D, 0, none⟩)] w fun e w' => e = .returned (.tuple #[]) ∧ DoEnd w G M D x a b (opS m x a b) w' := by
  rw [opS22 hop]
  have HL := mhid (dload_any w G M m D x a b n h hn 4)
  clear h hn hop
  go_enter Tryz.func165, Tryz.ntmps165
  go_wp2_with fail
  refine HL.out.mono ?_
  rintro e w' ⟨rfl, he⟩
  go_wp2_with fail
  go_returns
  exact ⟨rfl, he⟩
theorem opS23 {m : Mx} {x : Ix} {a b : Int} (h : x.op = 23) : opS m x a b = storeM m x.rd (u32 (a + b)) 4 := by unfold opS; rw [h]; rfl
set_option maxRecDepth 100000 in
set_option maxHeartbeats 2000000 in
theorem do_st (w : World) (G : MG) (M : Nat) (m : Mx) (D : Nat) (x : Ix) (a b n : Int) (h : DoIn w G M m D x a b n) (hop : x.op = 23) (hn : n = u32 (m.pc + 4)) :
    Calls Tryz.prog 166 #[.pointer (some ⟨D, 0, none⟩)] w fun e w' => e = .returned (.tuple #[]) ∧ DoEnd w G M D x a b (opS m x a b) w' := by
  rw [opS23 hop]
  have HL := mhid (dstore_any w G M m D x a b n h hn 4)
  clear h hn hop
  go_enter Tryz.func166, Tryz.ntmps166
  go_wp2_with fail
  refine HL.out.mono ?_
  rintro e w' ⟨rfl, he⟩
  go_wp2_with fail
  go_returns
  exact ⟨rfl, he⟩
theorem opS24 {m : Mx} {x : Ix} {a b : Int} (h : x.op = 24) : opS m x a b = loadM m x.rd (u32 (a + b)) 1 := by unfold opS; rw [h]; rfl
set_option maxRecDepth 100000 in
set_option maxHeartbeats 2000000 in
theorem do_ldb (w : World) (G : MG) (M : Nat) (m : Mx) (D : Nat) (x : Ix) (a b n : Int) (h : DoIn w G M m D x a b n) (hop : x.op = 24) (hn : n = u32 (m.pc + 4)) :
    Calls Tryz.prog 167 #[.pointer (some ⟨D, 0, none⟩)] w fun e w' => e = .returned (.tuple #[]) ∧ DoEnd w G M D x a b (opS m x a b) w' := by
  rw [opS24 hop]
  have HL := mhid (dload_any w G M m D x a b n h hn 1)
  clear h hn hop
  go_enter Tryz.func167, Tryz.ntmps167
  go_wp2_with fail
  refine HL.out.mono ?_
  rintro e w' ⟨rfl, he⟩
  go_wp2_with fail
  go_returns
  exact ⟨rfl, he⟩
theorem opS25 {m : Mx} {x : Ix} {a b : Int} (h : x.op = 25) : opS m x a b = storeM m x.rd (u32 (a + b)) 1 := by unfold opS; rw [h]; rfl
set_option maxRecDepth 100000 in
set_option maxHeartbeats 2000000 in
theorem do_stb (w : World) (G : MG) (M : Nat) (m : Mx) (D : Nat) (x : Ix) (a b n : Int) (h : DoIn w G M m D x a b n) (hop : x.op = 25) (hn : n = u32 (m.pc + 4)) :
    Calls Tryz.prog 168 #[.pointer (some ⟨D, 0, none⟩)] w fun e w' => e = .returned (.tuple #[]) ∧ DoEnd w G M D x a b (opS m x a b) w' := by
  rw [opS25 hop]
  have HL := mhid (dstore_any w G M m D x a b n h hn 1)
  clear h hn hop
  go_enter Tryz.func168, Tryz.ntmps168
  go_wp2_with fail
  refine HL.out.mono ?_
  rintro e w' ⟨rfl, he⟩
  go_wp2_with fail
  go_returns
  exact ⟨rfl, he⟩
theorem opS26 {m : Mx} {x : Ix} {a b : Int} (h : x.op = 26) : opS m x a b = onM (setM m x.rd (packS m.p m.nw)) := by unfold opS; rw [h]; rfl
set_option maxRecDepth 100000 in
set_option maxHeartbeats 2000000 in
theorem do_rdpsr (w : World) (G : MG) (M : Nat) (m : Mx) (D : Nat) (x : Ix) (a b n : Int) (h : DoIn w G M m D x a b n) (hop : x.op = 26) (hn : n = u32 (m.pc + 4)) :
    Calls Tryz.prog 169 #[.pointer (some ⟨D, 0, none⟩)] w fun e w' => e = .returned (.tuple #[]) ∧ DoEnd w G M D x a b (opS m x a b) w' := by
  rw [opS26 hop]
  have hd : Below w.heap.size w w.drew := (Below.refl _ _).drew
  have HF := mhid (fun w' => pack_any m.p h.mach.ok.pb m.f.nw w')
  have HB := mhid (packS_bd (nw := m.nw) h.mach.ok.pb)
  have HQ := mhid (show packS m.p m.f.nw = packS m.p m.nw from rfl)
  have H := mhid h
  have HN := mhid hn
  have d0 := h.dc.d0
  have c0 := h.mach.mc.nw
  have c5 := h.mach.mc.cwp
  have c6 := h.mach.mc.pil
  have c7 := h.mach.mc.bank
  have c8 := h.mach.mc.flags
  have HS := mhid (show ∀ w', Below w.heap.size w w' → w'.cell? ⟨D, 0, none⟩ = some (.pointer (some ⟨M, 0, none⟩)) ∧ w'.cell? ⟨M, 0, none⟩ = some (.int .i64 m.f.nw) ∧ w'.cell? ⟨M, 5, none⟩ = some (.int .u8 m.p.cwp) ∧ w'.cell? ⟨M, 6, none⟩ = some (.int .u8 m.p.pil) ∧ w'.cell? ⟨M, 7, none⟩ = some (.int .u8 m.p.bank) ∧ w'.cell? ⟨M, 8, none⟩ = some (.int .u8 m.p.flags) from fun w' hb => by
    have hc := h.keepb hb
    exact ⟨hc.dc.d0, hc.mach.mc.nw, hc.mach.mc.cwp, hc.mach.mc.pil, hc.mach.mc.bank, hc.mach.mc.flags⟩)
  clear h hn hop
  go_enter Tryz.func169, Tryz.ntmps169
  go_wp2_with fail
  go_region_held3 (fun w' => w'.cell? ⟨D, 0, none⟩ = some (.pointer (some ⟨M, 0, none⟩)) ∧ w'.cell? ⟨M, 0, none⟩ = some (.int .i64 m.f.nw) ∧ w'.cell? ⟨M, 5, none⟩ = some (.int .u8 m.p.cwp) ∧ w'.cell? ⟨M, 6, none⟩ = some (.int .u8 m.p.pil) ∧ w'.cell? ⟨M, 7, none⟩ = some (.int .u8 m.p.bank) ∧ w'.cell? ⟨M, 8, none⟩ = some (.int .u8 m.p.flags)) (first | (with_reducible exact ⟨d0, c0, c5, c6, c7, c8⟩) | (refine HS.out _ ?_; go_grown; done))
    ((go_at_call 124; (with_reducible refine (HF.out _).mono ?_); rintro e W1 ⟨rfl, hb10⟩; have hb1 : Below w.heap.size w W1 := hd.trans (hb10.mono hd.size)))
  have H1 := mhid (H.out.keepb hb1)
  clear hb10 d0 c0 c5 c6 c7 c8 HS
  rw [HQ.out]
  have HH := mhid (H1.out.drew.set ((own_below hb1).trans (own_drew W1 G D)) x.rd (packS m.p m.nw) H.out.fits.rd0 H.out.fits.rd1 HB.out (fin_on H1.out.run rfl HN.out))
  have d0 := H1.out.dc.d0
  have d2 := H1.out.dc.d2
  go_wp2_with fail
  go_still_tail 10, (by kernel_rfl)
  change wpList _ _ _ _ _ W1.drew
  go_wp2_with fail
  refine HH.out.mono ?_
  rintro e w2 ⟨rfl, he⟩
  go_wp2_with fail
  go_returns
  exact ⟨rfl, he⟩
theorem opS29 {m : Mx} {x : Ix} {a b : Int} (h : x.op = 29) : opS m x a b = if invE (u32 (a + b)) m.nw = 0 then onM { m with wim := u32 (a + b) } else haltM m 3 0 := by unfold opS; rw [h]; rfl
set_option maxRecDepth 100000 in
set_option maxHeartbeats 2000000 in
theorem do_wrwim (w : World) (hbr : Bru w) (G : MG) (M : Nat) (m : Mx) (D : Nat) (x : Ix) (a b n : Int) (h : DoIn w G M m D x a b n) (hop : x.op = 29) (hn : n = u32 (m.pc + 4)) :
    Calls Tryz.prog 172 #[.pointer (some ⟨D, 0, none⟩)] w fun e w' => e = .returned (.tuple #[]) ∧ DoEnd w G M D x a b (opS m x a b) w' := by
  rw [opS29 hop]
  have hd : Below w.heap.size w w.drew := (Below.refl _ _).drew
  have hbd := u32_bd (a + b)
  have HF := mhid (show ∀ w', Below w.heap.size w w' → Calls Tryz.prog 125 #[.int .u32 (u32 (a + b)), .int .i64 m.f.nw] w' fun e w2 => e = .returned (.tuple #[.int .i64 (invV (u32 (a + b)) m.nw), .int .i64 (invE (u32 (a + b)) m.nw)]) ∧ Below w'.heap.size w' w2 from fun w' hb => invalid_any (u32 (a + b)) m.f.nw hbd.1 hbd.2 w' (hbr.keep hb))
  have H := mhid h
  have HN := mhid hn
  have ha := h.ha
  have hb := h.hb
  have HU := mhid (uw (a + b))
  have u1 := uw (a + b)
  have d0 := h.dc.d0
  have d7 := h.dc.d7
  have d8 := h.dc.d8
  have c0 := h.mach.mc.nw
  have HS := mhid (show ∀ w', Below w.heap.size w w' → w'.cell? ⟨D, 0, none⟩ = some (.pointer (some ⟨M, 0, none⟩)) ∧ w'.cell? ⟨D, 7, none⟩ = some (.int .u32 a) ∧ w'.cell? ⟨D, 8, none⟩ = some (.int .u32 b) ∧ w'.cell? ⟨M, 0, none⟩ = some (.int .i64 m.f.nw) from fun w' hb => by
    have hc := h.keepb hb
    exact ⟨hc.dc.d0, hc.dc.d7, hc.dc.d8, hc.mach.mc.nw⟩)
  clear h hn hop hbr
  generalize hat : u32 (a + b) = at' at *
  have HAT := mhid hat
  clear hat
  generalize invV at' m.nw = iv at *
  generalize invE at' m.nw = er at *
  go_enter Tryz.func172, Tryz.ntmps172
  go_wp2_with fail
  go_region_held3 (fun w' => w'.cell? ⟨D, 0, none⟩ = some (.pointer (some ⟨M, 0, none⟩)) ∧ w'.cell? ⟨D, 7, none⟩ = some (.int .u32 a) ∧ w'.cell? ⟨D, 8, none⟩ = some (.int .u32 b) ∧ w'.cell? ⟨M, 0, none⟩ = some (.int .i64 m.f.nw)) (first | (with_reducible exact ⟨d0, d7, d8, c0⟩) | (refine HS.out _ ?_; go_grown; done))
    ((go_at_call 125; (with_reducible refine (HF.out _ hd).mono ?_); rintro e W1 ⟨rfl, hb10⟩; have hb1 : Below w.heap.size w W1 := hd.trans (hb10.mono hd.size)))
  have H1 := mhid (H.out.keepb hb1)
  clear hb10 d0 d7 d8 c0 HS
  by_cases hz : er = 0
  · subst hz
    have HY := mhid (dsure_no W1 G M m D x a b n H1.out)
    have d0 := H1.out.dc.d0
    have d7 := H1.out.dc.d7
    have d8 := H1.out.dc.d8
    have c4 := H1.out.mach.mc.wim
    have f4 := H1.out.mach.mc.fz 4
    go_wp2_with fail
    refine HY.out.mono ?_
    rintro e w2 ⟨rfl, rfl⟩
    go_wp2_with fail
    go_still_tail 15, (by kernel_rfl)
    change wpList _ _ _ _ _ W1.drew
    go_wp2_with fail
    go_returns
    have h2 := H1.out.drew
    try rw [if_pos rfl]
    exact ⟨rfl, h2.fin ((own_below hb1).trans (own_drew W1 G D)) (h2.mach.setWim hbd) (onlyM W1.drew M 4 _) (fun k e => e ▸ H1.out.mach.ownM) (fin_on H1.out.run rfl HN.out)⟩
  · have HZ := mhid hz
    have HY := mhid (dsure_yes W1 G M m D x a b n H1.out er hz)
    clear hz
    go_wp2_with fail
    refine HY.out.mono ?_
    rintro e w2 ⟨rfl, hm, ho⟩
    go_wp2_with fail
    go_returns
    try rw [if_neg HZ.out]
    exact ⟨rfl, H1.out.fin (own_below hb1) hm ho (fun k e => e ▸ H1.out.mach.ownM) (finM_halt _ _ _ _ (by omega))⟩
theorem opS33 {m : Mx} {x : Ix} {a b : Int} (h : x.op = 33) : opS m x a b = winM m x.imm (u32 (m.pc + 4)) := by unfold opS; rw [h]; rfl
set_option maxRecDepth 100000 in
set_option maxHeartbeats 2000000 in
theorem do_trapped (w : World) (G : MG) (M : Nat) (m : Mx) (D : Nat) (x : Ix) (a b n : Int) (h : DoIn w G M m D x a b n) (hop : x.op = 33) (hn : n = u32 (m.pc + 4)) :
    Calls Tryz.prog 176 #[.pointer (some ⟨D, 0, none⟩)] w fun e w' => e = .returned (.tuple #[]) ∧ DoEnd w G M D x a b (opS m x a b) w' := by
  rw [opS33 hop]
  have HW := mhid (dwindow_any w.drew G M m D x a b n h.drew x.imm (u32 (m.pc + 4)) (by have := h.fits.trap hop; omega) (u32_bd _))
  have him := h.fits.trap hop
  have hpc : 0 ≤ m.pc ∧ m.pc < 4294967296 := ⟨h.mach.ok.pc0, h.mach.ok.pc1⟩
  have u0 : IntKind.u8.wrap x.imm = x.imm := by rw [IntKind.wrap_u8]; omega
  have u1 := uw (m.pc + 4)
  have hd : Below w.heap.size w w.drew := (Below.refl _ _).drew
  have d0 := h.dc.d0
  have d6 := h.dc.d6
  have c3 := h.mach.mc.pc
  clear h hn hop
  go_enter Tryz.func176, Tryz.ntmps176
  go_wp2_with fail
  go_still_tail 15, (by kernel_rfl)
  change wpList _ _ _ _ _ w.drew
  go_wp2_with fail
  refine HW.out.mono ?_
  rintro e w' ⟨rfl, he⟩
  have HE := mhid (he.from hd)
  clear he
  go_wp2_with fail
  go_returns
  exact ⟨rfl, HE.out⟩
theorem opS36 {m : Mx} {x : Ix} {a b : Int} (h : x.op = 36) : opS m x a b = haltM m 1 a := by unfold opS; rw [h]; rfl
set_option maxRecDepth 100000 in
set_option maxHeartbeats 2000000 in
theorem do_halted (w : World) (G : MG) (M : Nat) (m : Mx) (D : Nat) (x : Ix) (a b n : Int) (h : DoIn w G M m D x a b n) (hop : x.op = 36) (hn : n = u32 (m.pc + 4)) :
    Calls Tryz.prog 179 #[.pointer (some ⟨D, 0, none⟩)] w fun e w' => e = .returned (.tuple #[]) ∧ DoEnd w G M D x a b (opS m x a b) w' := by
  rw [opS36 hop]
  have HW := mhid (mhalt_any w.drew G M m h.drew.mach 1 a (by omega) h.ha)
  have H := mhid h
  have d0 := h.dc.d0
  have d7 := h.dc.d7
  clear h hn hop
  go_enter Tryz.func179, Tryz.ntmps179
  go_wp2_with fail
  go_still_tail 8, (by kernel_rfl)
  change wpList _ _ _ _ _ w.drew
  go_wp2_with fail
  refine HW.out.mono ?_
  rintro e w' ⟨rfl, hm, ho⟩
  go_wp2_with fail
  go_returns
  exact ⟨rfl, H.out.drew.fin (own_drew w G D) hm ho (fun k e => e ▸ H.out.mach.ownM) (finM_halt _ _ _ _ (by omega))⟩
theorem opS37 {m : Mx} {x : Ix} {a b : Int} (h : x.op = 37) : opS m x a b = haltM m 2 b := by unfold opS; rw [h]; rfl
set_option maxRecDepth 100000 in
set_option maxHeartbeats 2000000 in
theorem do_fault (w : World) (G : MG) (M : Nat) (m : Mx) (D : Nat) (x : Ix) (a b n : Int) (h : DoIn w G M m D x a b n) (hop : x.op = 37) (hn : n = u32 (m.pc + 4)) :
    Calls Tryz.prog 180 #[.pointer (some ⟨D, 0, none⟩)] w fun e w' => e = .returned (.tuple #[]) ∧ DoEnd w G M D x a b (opS m x a b) w' := by
  rw [opS37 hop]
  have HW := mhid (mhalt_any w.drew G M m h.drew.mach 2 b (by omega) h.hb)
  have H := mhid h
  have d0 := h.dc.d0
  have d8 := h.dc.d8
  clear h hn hop
  go_enter Tryz.func180, Tryz.ntmps180
  go_wp2_with fail
  go_still_tail 8, (by kernel_rfl)
  change wpList _ _ _ _ _ w.drew
  go_wp2_with fail
  refine HW.out.mono ?_
  rintro e w' ⟨rfl, hm, ho⟩
  go_wp2_with fail
  go_returns
  exact ⟨rfl, H.out.drew.fin (own_drew w G D) hm ho (fun k e => e ▸ H.out.mach.ownM) (finM_halt _ _ _ _ (by omega))⟩
end Go.Proofs.YtajholbcpmjhiaaGreatDoor
/- append at a step of a region that draws its order. No function of the program is walked here. -/
namespace Go.Proofs.YtajholbcpmjhiaaGreatDoor
open Go.RowKit
theorem cell_one_new3 (w : World) (v : Value) (T : TypeId) : ∀ (j : Nat) u, [v][j]? = some u → (w.alloc (.cells #[v] T)).cell? ((⟨w.heap.size, 0, none⟩ : Addr).add j) = some u := by
  intro j u hj
  have h := cells_new w #[v] T j u
  exact h (by simpa using hj)
theorem step_append_place {P : Program} (w : World) {ops : Array Oper} {o : Oper} {a : Act} {K : Act → World → Prop} {Q : Exit → Act → World → Prop} {E : Prop} (hgd : o.guard = none) (s x : Operand) (t : TypeId)
    (ho : o.op = .call { callee := .builtin .append, args := #[s, x], argTypes := #[t, t] }) (e : TypeId) (i : TypeInfo) (z : Value) (bytes : Nat) (ht : P.underlying t = some (.slice e)) (hi : P.info? e = some i) (hz : i.zero = some z)
    (hsize : i.size = 1) (hby : i.bytes = bytes) (hzs : z.cells.size = 1) (v : Value) (n : Nat) (xs : List Value) (hs : a.eval s = v) (hown : w.ownsRow 0 e 1 v n xs)
    (ad : Addr) (m c : Nat) (news : List Value) (hx : a.eval x = .slice (some ad) m c) (hl : news.length = m * 1) (hnews : ∀ j u, news[j]? = some u → w.cell? (ad.add j) = some u) (h1 : ∀ u ∈ news, u.oneCell' = true)
    (h63 : n + m ≤ maxLen) (hbytes : (n + m) * bytes ≤ 140737488355328)
    (h : ∀ v' w', w'.ownsRow 0 e 1 v' (n + m) (xs ++ news) → w.grownBy w' v.ownBlock → (v'.ownBlock = v.ownBlock ∨ ∀ k, v'.ownBlock = some k → w.heap.size ≤ k) → K (a.put o.dst v') w') :
    if Region.wanted o (yielded ops a.tmps) = true then Oper.wp P o a w K Q else E := by
  have hw : Region.wanted o (yielded ops a.tmps) = true := by simp [Region.wanted, hgd]
  rw [if_pos hw]
  obtain ⟨v', w', hrun, r1, r2, r3⟩ := run_append_place (P := P) w t o.type e i z bytes ht hi hz hsize hby hzs v n xs hown ad m c news hl hnews h1 h63 hbytes
  unfold Oper.wp execOp
  simp only [ho, resolve, invoke, builtin, Sem.run_bind, Sem.run_pure, Result.andThen_ok, List.map_toArray, List.map_cons, List.map_nil, hs, hx, hrun]
  exact h _ _ r1 r2 r3
theorem ownsRow_shape {w : World} {base : Nat} {e : TypeId} {size n : Nat} {v : Value} {xs : List Value} (h : w.ownsRow base e size v n xs) : ∃ p m c, v = .slice p m c := by
  rcases h.2 with ⟨rfl, _⟩ | ⟨g, cap, cur, rfl, _⟩
  · exact ⟨_, _, _, rfl⟩
  · exact ⟨_, _, _, rfl⟩
end Go.Proofs.YtajholbcpmjhiaaGreatDoor
/- The walks of the machine's instructions: rdt, wrt, choice, print. -/
namespace Go.Proofs.YtajholbcpmjhiaaGreatDoor
open Go.RowKit
def keptA (M : Nat) (m : Mx) (x : Ix) : Addr := ⟨M, (if x.imm = 1 then 26 else 9) + m.p.bank.toNat, none⟩
set_option maxRecDepth 100000 in
set_option maxHeartbeats 1000000 in
theorem dkept_none (w : World) (G : MG) (M : Nat) (m : Mx) (D : Nat) (x : Ix) (a b n : Int) (h : DoIn w G M m D x a b n) (hz : m.p.bank = 0) :
    Calls Tryz.prog 204 #[.pointer (some ⟨D, 0, none⟩)] w fun e w' => e = .returned (.pointer none) ∧ MachAt w' G M (haltM m 3 0) ∧ Only (fun k => k = M) w w' := by
  have HH := mhid (mhalt_any w G M m h.mach 3 0 (by omega) (by omega))
  have d0 := h.dc.d0
  have c7 := h.mach.mc.bank
  rw [hz] at c7
  clear h hz
  go_enter Tryz.func204, Tryz.ntmps204
  go_wp2_with fail
  refine HH.out.mono ?_
  rintro e w' ⟨rfl, hm, ho⟩
  go_wp2_with fail
  go_ret
  exact ⟨rfl, hm, ho⟩
set_option maxRecDepth 100000 in
set_option maxHeartbeats 1000000 in
theorem dkept_some (w : World) (G : MG) (M : Nat) (m : Mx) (D : Nat) (x : Ix) (a b n : Int) (h : DoIn w G M m D x a b n) (hz : ¬ m.p.bank = 0) :
    Calls Tryz.prog 204 #[.pointer (some ⟨D, 0, none⟩)] w fun e w' => e = .returned (.pointer (some (keptA M m x))) ∧ ∃ q, w' = w.drewN q := by
  have d0 := h.dc.d0
  have d6 := h.dc.d6
  have c7 := h.mach.mc.bank
  have hb := h.mach.ok.bank
  unfold keptA
  generalize m.p.bank = bk at *
  obtain ⟨k, rfl⟩ := Int.eq_ofNat_of_zero_le hb.1
  have e0 : ((k : Int) == 0) = false := by simpa using hz
  have k0 : (0 : Int) ≤ (k : Int) := by omega
  have k1 : (k : Int) < 17 := by omega
  rw [Int.toNat_natCast]
  clear h hz hb
  generalize x.imm = im at *
  by_cases hi : im = 1
  · have e1 : (im == 1) = true := by simpa using hi
    rw [if_pos hi]
    clear hi
    go_enter Tryz.func204, Tryz.ntmps204
    go_wp2_with fail
    go_quiet (fail)
    go_wp2_with fail
    go_ret
    exact ⟨rfl, _, rfl⟩
  · have e1 : (im == 1) = false := by simpa using hi
    rw [if_neg hi]
    clear hi
    go_enter Tryz.func204, Tryz.ntmps204
    go_wp2_with fail
    go_quiet (fail)
    go_wp2_with fail
    go_ret
    exact ⟨rfl, _, rfl⟩
def keptV (m : Mx) (x : Ix) : Int := if x.imm = 1 then m.tpsr.getD m.p.bank.toNat 0 else m.tpc.getD m.p.bank.toNat 0
theorem kept_cell {w : World} {G : MG} {M : Nat} {m : Mx} (h : MachAt w G M m) (x : Ix) : w.cell? (keptA M m x) = some (.int .u32 (keptV m x)) ∧ w.frozen? (keptA M m x) = false := by
  have hb := h.ok.bank
  unfold keptA keptV
  split
  · exact ⟨h.tpsrc (by omega), h.mc.fz _⟩
  · exact ⟨h.tpcc (by omega), h.mc.fz _⟩
theorem keptV_bd {m : Mx} (h : m.ok) (x : Ix) : 0 ≤ keptV m x ∧ keptV m x < 4294967296 := by
  unfold keptV; split; exact h.sw.at _; exact h.tw.at _
theorem own_drewN (w : World) (G : MG) (D n : Nat) : Only (fun k => G.own k ∨ k = D) w (w.drewN n) := (Only.refl _ w).drewN n
theorem below_drewQ (w : World) (n : Nat) : Below w.heap.size w (w.drewN n) := (Only.refl (fun _ => False) w).drewN n |>.below (Nat.le_refl _) (fun _ _ => id)
theorem opS30 {m : Mx} {x : Ix} {a b : Int} (h : x.op = 30) : opS m x a b = if m.p.bank = 0 then haltM m 3 0 else onM (setM m x.rd (if x.imm = 1 then m.tpsr.getD m.p.bank.toNat 0 else m.tpc.getD m.p.bank.toNat 0)) := by unfold opS; rw [h]; rfl
theorem opS31 {m : Mx} {x : Ix} {a b : Int} (h : x.op = 31) : opS m x a b = if m.p.bank = 0 then haltM m 3 0 else onM (if x.imm = 1 then { m with tpsr := m.tpsr.set m.p.bank.toNat a } else { m with tpc := m.tpc.set m.p.bank.toNat a }) := by unfold opS; rw [h]; rfl
set_option maxRecDepth 100000 in
set_option maxHeartbeats 2000000 in
theorem do_rdt (w : World) (G : MG) (M : Nat) (m : Mx) (D : Nat) (x : Ix) (a b n : Int) (h : DoIn w G M m D x a b n) (hop : x.op = 30) (hn : n = u32 (m.pc + 4)) :
    Calls Tryz.prog 173 #[.pointer (some ⟨D, 0, none⟩)] w fun e w' => e = .returned (.tuple #[]) ∧ DoEnd w G M D x a b (opS m x a b) w' := by
  have HE := mhid (opS30 hop (m := m) (a := a) (b := b))
  have H := mhid h
  have HN := mhid hn
  by_cases hz : m.p.bank = 0
  · have HK := mhid (dkept_none w G M m D x a b n h hz)
    rw [if_pos hz] at HE
    clear h hz hn hop
    go_enter Tryz.func173, Tryz.ntmps173
    go_wp2_with fail
    refine HK.out.mono ?_
    rintro e w' ⟨rfl, hm, ho⟩
    go_wp2_with fail
    go_returns
    rw [HE.out]
    exact ⟨rfl, H.out.fin (Only.refl _ _) hm ho (fun k e => e ▸ H.out.mach.ownM) (finM_halt _ _ _ _ (by omega))⟩
  · have HK := mhid (dkept_some w G M m D x a b n h hz)
    rw [if_neg hz] at HE
    clear h hz hn hop
    go_enter Tryz.func173, Tryz.ntmps173
    go_wp2_with fail
    refine HK.out.mono ?_
    rintro e w1 ⟨rfl, q, rfl⟩
    have H1 := mhid (H.out.keepb (below_drewQ w q))
    have HO1 := mhid (own_drewN w G D q)
    generalize w.drewN q = W1 at *
    obtain ⟨kc, kf⟩ := kept_cell H1.out.mach x
    have hkb := keptV_bd H.out.mach.ok x
    have HV := mhid (show keptV m x = if x.imm = 1 then m.tpsr.getD m.p.bank.toNat 0 else m.tpc.getD m.p.bank.toNat 0 from rfl)
    rw [← HV.out] at HE
    generalize keptV m x = kv at *
    generalize keptA M m x = ka at *
    have HS := mhid (H1.out.drew.set (HO1.out.trans (own_drew W1 G D)) x.rd kv H.out.fits.rd0 H.out.fits.rd1 hkb (fin_on H1.out.run rfl HN.out))
    have d0 := H1.out.dc.d0
    have d2 := H1.out.dc.d2
    go_wp2_with fail
    go_still_tail 12, (by kernel_rfl)
    change wpList _ _ _ _ _ W1.drew
    go_wp2_with fail
    refine HS.out.mono ?_
    rintro e w' ⟨rfl, he⟩
    go_wp2_with fail
    go_returns
    rw [HE.out]
    exact ⟨rfl, he⟩
theorem kept_set {w : World} {G : MG} {M : Nat} {m : Mx} (h : MachAt w G M m) (x : Ix) {v : Int} (hv : 0 ≤ v ∧ v < 4294967296) :
    MachAt (w.setCell (keptA M m x) (.int .u32 v)) G M (if x.imm = 1 then { m with tpsr := m.tpsr.set m.p.bank.toNat v } else { m with tpc := m.tpc.set m.p.bank.toNat v }) := by
  have hb := h.ok.bank
  unfold keptA
  by_cases hi : x.imm = 1
  · rw [if_pos hi, if_pos hi]; exact h.setTpsr (by omega) hv
  · rw [if_neg hi, if_neg hi]; exact h.setTpc (by omega) hv
set_option maxRecDepth 100000 in
set_option maxHeartbeats 2000000 in
theorem do_wrt (w : World) (G : MG) (M : Nat) (m : Mx) (D : Nat) (x : Ix) (a b n : Int) (h : DoIn w G M m D x a b n) (hop : x.op = 31) (hn : n = u32 (m.pc + 4)) :
    Calls Tryz.prog 174 #[.pointer (some ⟨D, 0, none⟩)] w fun e w' => e = .returned (.tuple #[]) ∧ DoEnd w G M D x a b (opS m x a b) w' := by
  have HE := mhid (opS31 hop (m := m) (a := a) (b := b))
  have H := mhid h
  have HN := mhid hn
  by_cases hz : m.p.bank = 0
  · have HK := mhid (dkept_none w G M m D x a b n h hz)
    rw [if_pos hz] at HE
    clear h hz hn hop
    go_enter Tryz.func174, Tryz.ntmps174
    go_wp2_with fail
    refine HK.out.mono ?_
    rintro e w' ⟨rfl, hm, ho⟩
    go_wp2_with fail
    go_returns
    rw [HE.out]
    exact ⟨rfl, H.out.fin (Only.refl _ _) hm ho (fun k e => e ▸ H.out.mach.ownM) (finM_halt _ _ _ _ (by omega))⟩
  · have HK := mhid (dkept_some w G M m D x a b n h hz)
    rw [if_neg hz] at HE
    clear h hz hn hop
    go_enter Tryz.func174, Tryz.ntmps174
    go_wp2_with fail
    refine HK.out.mono ?_
    rintro e w1 ⟨rfl, q, rfl⟩
    have H1 := mhid (H.out.keepb (below_drewQ w q))
    have HO1 := mhid (own_drewN w G D q)
    generalize w.drewN q = W1 at *
    obtain ⟨kc, kf⟩ := kept_cell H1.out.mach x
    have hkb := keptV_bd H.out.mach.ok x
    have HS := mhid (kept_set H1.out.mach x H.out.ha)
    have HR := mhid (show finM (if x.imm = 1 then { m with tpsr := m.tpsr.set m.p.bank.toNat a } else { m with tpc := m.tpc.set m.p.bank.toNat a }) n = onM (if x.imm = 1 then { m with tpsr := m.tpsr.set m.p.bank.toNat a } else { m with tpc := m.tpc.set m.p.bank.toNat a }) from by
      split
      · exact fin_on H.out.run rfl HN.out
      · exact fin_on H.out.run rfl HN.out)
    have hkm : (keptA M m x).block = M := rfl
    have HM := mhid hkm
    clear hkm hkb
    generalize keptA M m x = ka at *
    generalize (if x.imm = 1 then ({ m with tpsr := m.tpsr.set m.p.bank.toNat a } : Mx) else { m with tpc := m.tpc.set m.p.bank.toNat a }) = mr at *
    have d7 := H1.out.dc.d7
    go_wp2_with fail
    go_returns
    rw [HE.out]
    exact ⟨rfl, H1.out.fin HO1.out HS.out ((Only.refl (fun k => k = M) W1).setCell (p := ka) HM.out _) (fun k e => e ▸ H.out.mach.ownM) HR.out⟩
end Go.Proofs.YtajholbcpmjhiaaGreatDoor
