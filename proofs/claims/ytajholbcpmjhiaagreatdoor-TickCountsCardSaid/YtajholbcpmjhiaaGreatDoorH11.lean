/- Several texts in one: MachGet, MachDo, WordWalks, WordFlags. -/
import Derived.Test.YtajholbcpmjhiaaGreatDoorH10
import Derived.Deep.RegionHeld3
import Derived.Deep.Cut
import Derived.Laws.EntriesVeiled
set_option linter.unusedVariables false
set_option linter.unusedSimpArgs false
/- The walks of the machine's small functions: none, get, set, halt, trap. -/
namespace Go.Proofs.YtajholbcpmjhiaaGreatDoor
open Go.RowKit
theorem mmnone_made (w : World) (M : Nat) (a : Addr) (h : w.cell? ⟨M, 1, none⟩ = some (.pointer (some a))) : Calls Tryz.prog 57 #[.pointer (some ⟨M, 0, none⟩)] w fun e w' => e = .returned (.bool false) ∧ w = w' := by
  go_enter Tryz.func57, Tryz.ntmps57
  go_wp2
  go_ret
  exact ⟨rfl, rfl⟩
theorem regOk_of {m : Mx} (h : m.ok) {r : Int} (h0 : 0 ≤ r) (h1 : r < 32) : regOk m.f m.p.cwp m.p.bank r := ⟨h.cwp, h.bank, h0, h1⟩
set_option maxRecDepth 100000 in
set_option maxHeartbeats 1000000 in
theorem mget_any (w : World) (G : MG) (M : Nat) (m : Mx) (h : MachAt w G M m) (r : Int) (h0 : 0 ≤ r) (h1 : r < 32) :
    Calls Tryz.prog 157 #[.pointer (some ⟨M, 0, none⟩), .int .u8 r] w fun e w' => e = .returned (.int .u32 (getM m r)) ∧ ∃ n, w' = w.drewN n := by
  have hr := regOk_of h.ok h0 h1
  have HF := mhid (fun n => (fget_any (w.drewN n) G.F G.Wb G.wc m.f (h.file.keepb ((Only.refl (fun _ => False) w).drewN n |>.below (Nat.le_refl _) (fun _ _ => id))) m.p.cwp m.p.bank r))
  have HE := mhid (show getV m.f m.p.cwp m.p.bank r = getM m r ∧ regE m.f m.p.cwp m.p.bank r = 0 from ⟨if_pos hr, if_pos hr⟩)
  have hc := h.mc
  obtain ⟨c1, c5, c7⟩ : w.cell? ⟨M, 1, none⟩ = some (.pointer (some ⟨G.F, 0, none⟩)) ∧ w.cell? ⟨M, 5, none⟩ = some (.int .u8 m.p.cwp) ∧ w.cell? ⟨M, 7, none⟩ = some (.int .u8 m.p.bank) := ⟨hc.f, hc.cwp, hc.bank⟩
  have b1 := h.ok.cwp
  have b2 := h.ok.bank
  have b3 := h.ok.win.2
  clear hc h hr
  generalize m.p.cwp = cw at *
  generalize m.p.bank = bk at *
  have f1 : IntKind.i64.wrap cw = cw := IntWalk.i64_in _ (by omega)
  have f2 : IntKind.i64.wrap bk = bk := IntWalk.i64_in _ (by omega)
  have f3 : IntKind.i64.wrap r = r := IntWalk.i64_in _ (by omega)
  go_enter Tryz.func157, Tryz.ntmps157
  go_wp2_with fail
  go_quiet ((go_at_call 14; exact Calls.quiet_of (HF.out _)))
  go_wp2_with fail
  go_ret
  exact ⟨mret_i HE.out.1, _, rfl⟩
set_option maxRecDepth 100000 in
set_option maxHeartbeats 1000000 in
theorem mset_any (w : World) (G : MG) (M : Nat) (m : Mx) (h : MachAt w G M m) (r x : Int) (h0 : 0 ≤ r) (h1 : r < 32) (hx : 0 ≤ x ∧ x < 4294967296) :
    Calls Tryz.prog 182 #[.pointer (some ⟨M, 0, none⟩), .int .u8 r, .int .u32 x] w fun e w' => e = .returned (.tuple #[]) ∧ MachAt w' G M (setM m r x) ∧ Only (fun k => k = G.F ∨ k = G.Wb) w w' := by
  have hr := regOk_of h.ok h0 h1
  have hd : Below w.heap.size w w.drew := (Below.refl _ _).drew
  have HM := mhid (h.keepb hd)
  have HF := mhid (fset_any w.drew G.F G.Wb G.wc m.f (h.file.keepb hd) m.p.cwp m.p.bank r x hx)
  have HE := mhid (show setV m.f m.p.cwp m.p.bank r x = (setM m r x).f ∧ regE m.f m.p.cwp m.p.bank r = 0 from ⟨if_pos hr, if_pos hr⟩)
  have HK := mhid (setM_ok h.ok r hx)
  have hc := h.mc
  obtain ⟨c1, c5, c7⟩ : w.cell? ⟨M, 1, none⟩ = some (.pointer (some ⟨G.F, 0, none⟩)) ∧ w.cell? ⟨M, 5, none⟩ = some (.int .u8 m.p.cwp) ∧ w.cell? ⟨M, 7, none⟩ = some (.int .u8 m.p.bank) := ⟨hc.f, hc.cwp, hc.bank⟩
  have b1 := h.ok.cwp
  have b2 := h.ok.bank
  have b3 := h.ok.win.2
  clear hc h hr hd
  generalize hcw : m.p.cwp = cw at c5 HF HE b1
  generalize hbk : m.p.bank = bk at c7 HF HE b2
  have HW := mhid (And.intro hcw hbk)
  clear hcw hbk
  have f1 : IntKind.i64.wrap cw = cw := IntWalk.i64_in _ (by omega)
  have f2 : IntKind.i64.wrap bk = bk := IntWalk.i64_in _ (by omega)
  have f3 : IntKind.i64.wrap r = r := IntWalk.i64_in _ (by omega)
  go_enter Tryz.func182, Tryz.ntmps182
  go_wp2_with fail
  go_still_tail 19, (by kernel_rfl)
  change wpList _ _ _ _ _ w.drew
  go_wp2_with fail
  refine HF.out.mono ?_
  rintro e w' ⟨rfl, hf, ho, hs⟩
  rw [HE.out.1] at hf
  have hm := HM.out.file' ho hf (setF_nw _ _ _ _ _) HK.out
  have ho2 : Only (fun k => k = G.F ∨ k = G.Wb) w w' := ((Only.refl _ w).drew).trans ho
  clear hf ho hs
  go_wp2_with fail
  go_returns
  exact ⟨rfl, hm, ho2⟩
set_option maxHeartbeats 1000000 in
theorem mhalt_any (w : World) (G : MG) (M : Nat) (m : Mx) (h : MachAt w G M m) (k v : Int) (hk : 0 ≤ k ∧ k < 256) (hv : 0 ≤ v ∧ v < 4294967296) :
    Calls Tryz.prog 110 #[.pointer (some ⟨M, 0, none⟩), .int .u8 k, .int .u32 v] w fun e w' => e = .returned (.tuple #[]) ∧ MachAt w' G M (haltM m k v) ∧ Only (fun k => k = M) w w' := by
  have H := mhid (show MachAt ((w.setCell ⟨M, 45, none⟩ (.int .u8 k)).setCell ⟨M, 46, none⟩ (.int .u32 v)) G M (haltM m k v) from (h.setKind hk).setV hv)
  have c1 := h.mc.kind
  have c2 := h.mc.v
  have f1 := h.mc.fz 45
  have f2 := h.mc.fz 46
  clear h
  go_enter Tryz.func110, Tryz.ntmps110
  go_wp2_with fail
  go_returns
  exact ⟨rfl, H.out, ((Only.refl (fun k => k = M) w).setCell (p := ⟨M, 45, none⟩) rfl _).setCell (p := ⟨M, 46, none⟩) rfl _⟩
set_option maxRecDepth 100000 in
set_option maxHeartbeats 2000000 in
theorem mtrap_any (w : World) (G : MG) (M : Nat) (m : Mx) (h : MachAt w G M m) (bank kind pc : Int) (hb : 0 ≤ bank ∧ bank < 17) (hk : 0 ≤ kind ∧ kind < 256) (hp : 0 ≤ pc ∧ pc < 4294967296) :
    Calls Tryz.prog 108 #[.pointer (some ⟨M, 0, none⟩), .int .u8 bank, .int .u8 kind, .int .u32 pc] w fun e w' => e = .returned (.tuple #[]) ∧ MachAt w' G M (trapM m bank kind pc) ∧ Only (fun k => k = M) w w' := by
  have hd : Below w.heap.size w w.drew := (Below.refl _ _).drew
  have HP := mhid (fun w' => pack_any m.p h.ok.pb m.f.nw w')
  have HB := mhid (packS_bd (nw := m.nw) h.ok.pb)
  have hc := h.mc
  obtain ⟨c0, c5, c6, c7, c8⟩ : w.cell? ⟨M, 0, none⟩ = some (.int .i64 m.f.nw) ∧ w.cell? ⟨M, 5, none⟩ = some (.int .u8 m.p.cwp) ∧ w.cell? ⟨M, 6, none⟩ = some (.int .u8 m.p.pil) ∧ w.cell? ⟨M, 7, none⟩ = some (.int .u8 m.p.bank) ∧ w.cell? ⟨M, 8, none⟩ = some (.int .u8 m.p.flags) := ⟨hc.nw, hc.cwp, hc.pil, hc.bank, hc.flags⟩
  have H := mhid h
  have HS := mhid (show ∀ w', Below w.heap.size w w' → w'.cell? ⟨M, 0, none⟩ = some (.int .i64 m.f.nw) ∧ w'.cell? ⟨M, 5, none⟩ = some (.int .u8 m.p.cwp) ∧ w'.cell? ⟨M, 6, none⟩ = some (.int .u8 m.p.pil) ∧ w'.cell? ⟨M, 7, none⟩ = some (.int .u8 m.p.bank) ∧ w'.cell? ⟨M, 8, none⟩ = some (.int .u8 m.p.flags) from fun w' hb => by
    have hc := (h.keepb hb).mc
    exact ⟨hc.nw, hc.cwp, hc.pil, hc.bank, hc.flags⟩)
  obtain ⟨b, rfl⟩ := Int.eq_ofNat_of_zero_le hb.1
  have hb17 : b < 17 := by omega
  have hb16 : (b : Int) < 17 := by omega
  have hb0 : (0 : Int) ≤ (b : Int) := by omega
  have u1 : IntKind.u32.wrap kind = kind := by rw [IntKind.wrap_u32]; omega
  have u2 : IntKind.u32.wrap (16 * kind) = 16 * kind := by rw [IntKind.wrap_u32]; omega
  have u3 : IntKind.u32.wrap (256 + 16 * kind) = 256 + 16 * kind := by rw [IntKind.wrap_u32]; omega
  clear hc h
  go_enter Tryz.func108, Tryz.ntmps108
  go_wp2_with fail
  go_region_held3 (fun w' => w'.cell? ⟨M, 0, none⟩ = some (.int .i64 m.f.nw) ∧ w'.cell? ⟨M, 5, none⟩ = some (.int .u8 m.p.cwp) ∧ w'.cell? ⟨M, 6, none⟩ = some (.int .u8 m.p.pil) ∧ w'.cell? ⟨M, 7, none⟩ = some (.int .u8 m.p.bank) ∧ w'.cell? ⟨M, 8, none⟩ = some (.int .u8 m.p.flags)) (first | (with_reducible exact ⟨c0, c5, c6, c7, c8⟩) | (refine HS.out _ ?_; go_grown; done))
    ((go_at_call 124; (with_reducible refine (HP.out _).mono ?_); rintro e W1 ⟨rfl, hb10⟩; have hb1 : Below w.heap.size w W1 := hd.trans (hb10.mono hd.size)))
  clear c0 c5 c6 c7 c8
  have H1 := mhid (H.out.keepb hb1)
  have HO := mhid (show Only (fun k => k = M) w W1 from Only.of_below hb1)
  clear hb1 hb10 hd HS HP H
  have ca := H1.out.tpcc hb17
  have cb := H1.out.tpsrc hb17
  have fa := H1.out.mc.fz (9 + b)
  have fb := H1.out.mc.fz (26 + b)
  have HW := mhid (show packS m.p m.f.nw = packS m.p m.nw from rfl)
  have hw := HB.out
  generalize hpw : packS m.p m.nw = pw at *
  rw [HW.out]
  have HPW := mhid hpw
  clear hpw
  go_wp2_with fail
  go_region
  have h2 := (H1.out.setTpc hb17 hp).setTpsr (m := { m with tpc := m.tpc.set b pc }) hb17 hw
  have h3 := h2.keepb ((Below.refl _ _).drew)
  have o3 : Only (fun k => k = M) w ((W1.setCell ⟨M, 9 + b, none⟩ (.int .u32 pc)).setCell ⟨M, 26 + b, none⟩ (.int .u32 pw)).drew := ((HO.out.setCell (p := ⟨M, 9 + b, none⟩) rfl _).setCell (p := ⟨M, 26 + b, none⟩) rfl _).drew
  clear h2 ca cb fa fb
  generalize ((W1.setCell ⟨M, 9 + b, none⟩ (.int .u32 pc)).setCell ⟨M, 26 + b, none⟩ (.int .u32 pw)).drew = W2 at *
  have HO3 := mhid o3
  have c7 := h3.mc.bank
  have c3 := h3.mc.pc
  have f7 := h3.mc.fz 7
  have f3 := h3.mc.fz 3
  have H3 := mhid h3
  clear h3 o3
  go_wp2_with fail
  go_returns
  refine ⟨rfl, ?_, (HO3.out.setCell (p := ⟨M, 7, none⟩) rfl _).setCell (p := ⟨M, 3, none⟩) rfl _⟩
  have h4 := (H3.out.setBank (x := (b : Int)) (by omega)).setPc (x := 256 + 16 * kind) (by omega)
  unfold trapM
  rw [HPW.out, Int.toNat_natCast]
  exact h4
end Go.Proofs.YtajholbcpmjhiaaGreatDoor
/- The machine's instructions at hand: what they are given, what they leave; the walks of window, sure. -/
namespace Go.Proofs.YtajholbcpmjhiaaGreatDoor
open Go.RowKit
def DAt (w : World) (D M : Nat) (x : Ix) (a b n : Int) : Prop :=
  ARow w D 176 [.pointer (some ⟨M, 0, none⟩), .int .u8 x.op, .int .u8 x.rd, .int .u8 x.rs1, .int .u8 x.rs2, .bool x.is, .int .i32 x.imm, .int .u32 a, .int .u32 b, .int .u32 n]
structure DoIn (w : World) (G : MG) (M : Nat) (m : Mx) (D : Nat) (x : Ix) (a b n : Int) : Prop where
  mach : MachAt w G M m
  d : DAt w D M x a b n
  rD : G.R D = .none
  fits : x.fits
  ha : 0 ≤ a ∧ a < 4294967296
  hb : 0 ≤ b ∧ b < 4294967296
  hn : 0 ≤ n ∧ n < 4294967296
  run : m.kind = 0
def finM (m : Mx) (n : Int) : Mx := if m.kind = 0 then { m with pc := n } else m
def DoEnd (w : World) (G : MG) (M D : Nat) (x : Ix) (a b : Int) (r : Mx) (w' : World) : Prop :=
  ∃ G' m1 n1, MachAt w' G' M m1 ∧ DAt w' D M x a b n1 ∧ Only (fun k => G.own k ∨ k = D) w w' ∧ (∀ k, k < w.heap.size → G'.R k = G.R k) ∧ (0 ≤ n1 ∧ n1 < 4294967296) ∧ finM m1 n1 = r
section
variable {w : World} {G : MG} {M : Nat} {m : Mx} {D : Nat} {x : Ix} {a b n : Int}
theorem DAt.keep {C : Nat → Prop} {w' : World} (h : DAt w D M x a b n) (o : Only C w w') (hD : ¬ C D) : DAt w' D M x a b n := ARow.of_block h (o.block D (ARow.lt h) hD)
theorem DAt.setNext (h : DAt w D M x a b n) (n' : Int) : DAt (w.setCell ⟨D, 9, none⟩ (.int .u32 n')) D M x a b n' := ARow.set h 9 _
theorem DoIn.keepb {w' : World} (h : DoIn w G M m D x a b n) (hb : Below w.heap.size w w') : DoIn w' G M m D x a b n :=
  ⟨h.mach.keepb hb, h.d.keep (Only.of_below (S := fun _ => False) hb) id, h.rD, h.fits, h.ha, h.hb, h.hn, h.run⟩
theorem DoIn.drew (h : DoIn w G M m D x a b n) : DoIn w.drew G M m D x a b n := h.keepb ((Below.refl _ _).drew)
theorem DoIn.ne (h : DoIn w G M m D x a b n) : ¬ D = M ∧ ¬ D = G.F ∧ ¬ D = G.Wb ∧ ¬ D = G.gB := by
  have r := h.rD
  refine ⟨fun e => ?_, fun e => ?_, fun e => ?_, fun e => ?_⟩
  · rw [e, h.mach.rM] at r; cases r
  · rw [e, h.mach.rF] at r; cases r
  · rw [e, h.mach.rW] at r; cases r
  · rw [e, h.mach.rg] at r; cases r
theorem MachAt.ownM (h : MachAt w G M m) : G.own M := ⟨by rw [h.rM]; simp, by rw [h.rM]; simp⟩
theorem MachAt.ownF (h : MachAt w G M m) : G.own G.F := ⟨by rw [h.rF]; simp, by rw [h.rF]; simp⟩
theorem MachAt.ownW (h : MachAt w G M m) : G.own G.Wb := ⟨by rw [h.rW]; simp, by rw [h.rW]; simp⟩
theorem MachAt.owng (h : MachAt w G M m) : G.own G.gB := ⟨by rw [h.rg]; simp, by rw [h.rg]; simp⟩
structure DCells (w : World) (G : MG) (M : Nat) (m : Mx) (D : Nat) (x : Ix) (a b n : Int) : Prop where
  d0 : w.cell? ⟨D, 0, none⟩ = some (.pointer (some ⟨M, 0, none⟩))
  d1 : w.cell? ⟨D, 1, none⟩ = some (.int .u8 x.op)
  d2 : w.cell? ⟨D, 2, none⟩ = some (.int .u8 x.rd)
  d3 : w.cell? ⟨D, 3, none⟩ = some (.int .u8 x.rs1)
  d5 : w.cell? ⟨D, 5, none⟩ = some (.bool x.is)
  d6 : w.cell? ⟨D, 6, none⟩ = some (.int .i32 x.imm)
  d7 : w.cell? ⟨D, 7, none⟩ = some (.int .u32 a)
  d8 : w.cell? ⟨D, 8, none⟩ = some (.int .u32 b)
  d9 : w.cell? ⟨D, 9, none⟩ = some (.int .u32 n)
  fd : w.frozen? ⟨D, 9, none⟩ = false
theorem DAt.dc (h : DAt w D M x a b n) : DCells w G M m D x a b n :=
  ⟨ARow.cell h (k := 0) rfl, ARow.cell h (k := 1) rfl, ARow.cell h (k := 2) rfl, ARow.cell h (k := 3) rfl, ARow.cell h (k := 5) rfl, ARow.cell h (k := 6) rfl, ARow.cell h (k := 7) rfl, ARow.cell h (k := 8) rfl, ARow.cell h (k := 9) rfl, ARow.frozen h 9⟩
theorem DoIn.dc (h : DoIn w G M m D x a b n) : DCells w G M m D x a b n := DAt.dc h.d
/-! Ends. -/
theorem DoEnd.of {w' : World} {m1 : Mx} {r : Mx} {n1 : Int} (hm : MachAt w' G M m1) (hd : DAt w' D M x a b n1) (o : Only (fun k => G.own k ∨ k = D) w w') (hn : 0 ≤ n1 ∧ n1 < 4294967296) (hf : finM m1 n1 = r) : DoEnd w G M D x a b r w' :=
  ⟨G, m1, n1, hm, hd, o, fun _ _ => rfl, hn, hf⟩
theorem finM_run {m : Mx} {n : Int} (h : m.kind = 0) : finM m n = { m with pc := n } := if_pos h
theorem finM_halt (m : Mx) (k v n : Int) (hk : k ≠ 0) : finM (haltM m k v) n = haltM m k v := if_neg hk
theorem DoIn.fin {w0 w' : World} {C : Nat → Prop} {m1 r : Mx} (h : DoIn w G M m D x a b n) (o0 : Only (fun k => G.own k ∨ k = D) w0 w) (hm : MachAt w' G M m1) (o : Only C w w') (hC : ∀ k, C k → G.own k) (hf : finM m1 n = r) : DoEnd w0 G M D x a b r w' := by
  have hD : ¬ C D := fun hc => (hC D hc).1 h.rD
  exact DoEnd.of hm (h.d.keep o hD) (o0.trans (o.mono (fun k _ hk => .inl (hC k hk)))) h.hn hf
end
set_option maxHeartbeats 1000000 in
theorem dsure_no (w : World) (G : MG) (M : Nat) (m : Mx) (D : Nat) (x : Ix) (a b n : Int) (h : DoIn w G M m D x a b n) :
    Calls Tryz.prog 203 #[.pointer (some ⟨D, 0, none⟩), .int .i64 0] w fun e w' => e = .returned (.bool true) ∧ w = w' := by
  go_enter Tryz.func203, Tryz.ntmps203
  go_wp2_with fail
  go_ret
  exact ⟨rfl, rfl⟩
set_option maxHeartbeats 1000000 in
theorem dsure_yes (w : World) (G : MG) (M : Nat) (m : Mx) (D : Nat) (x : Ix) (a b n : Int) (h : DoIn w G M m D x a b n) (er : Int) (he : er ≠ 0) :
    Calls Tryz.prog 203 #[.pointer (some ⟨D, 0, none⟩), .int .i64 er] w fun e w' => e = .returned (.bool false) ∧ MachAt w' G M (haltM m 3 0) ∧ Only (fun k => k = M) w w' := by
  have HH := mhid (mhalt_any w G M m h.mach 3 0 (by omega) (by omega))
  have d0 := h.dc.d0
  have e1 : (er != 0) = true := by simpa using he
  have e2 : (er == 0) = false := by simpa using he
  clear h he
  go_enter Tryz.func203, Tryz.ntmps203
  go_wp2_with fail
  refine HH.out.mono ?_
  rintro e w' ⟨rfl, hm, ho⟩
  go_wp2_with fail
  go_ret
  exact ⟨rfl, hm, ho⟩
set_option maxHeartbeats 1000000 in
theorem dwindow_any (w : World) (G : MG) (M : Nat) (m : Mx) (D : Nat) (x : Ix) (a b n : Int) (h : DoIn w G M m D x a b n) (kind pc : Int) (hk : 0 ≤ kind ∧ kind < 256) (hp : 0 ≤ pc ∧ pc < 4294967296) :
    Calls Tryz.prog 205 #[.pointer (some ⟨D, 0, none⟩), .int .u8 kind, .int .u32 pc] w fun e w' => e = .returned (.tuple #[]) ∧ DoEnd w G M D x a b (winM m kind pc) w' := by
  have d0 := h.dc.d0
  have c7 := h.mach.mc.bank
  have H := mhid h
  by_cases hz : m.p.bank = 0
  · have HT := mhid (mtrap_any w G M m h.mach 16 kind pc (by omega) hk hp)
    have HE := mhid (show winM m kind pc = trapM m 16 kind pc from if_pos hz)
    have e1 : (m.p.bank != 0) = false := by simp [hz]
    have HC := mhid (show ∀ w', MachAt w' G M (trapM m 16 kind pc) → Only (fun k => k = M) w w' → w'.cell? ⟨D, 0, none⟩ = some (.pointer (some ⟨M, 0, none⟩)) ∧ w'.cell? ⟨M, 3, none⟩ = some (.int .u32 (256 + 16 * kind)) ∧ w'.cell? ⟨D, 9, none⟩ = some (.int .u32 n) ∧ w'.frozen? ⟨D, 9, none⟩ = false from fun w' hm ho => by
      have hd := DAt.dc (G := G) (m := m) (h.d.keep ho h.ne.1)
      exact ⟨hd.d0, hm.mc.pc, hd.d9, hd.fd⟩)
    clear h hz
    generalize m.p.bank = bk at *
    go_enter Tryz.func205, Tryz.ntmps205
    go_wp2_with fail
    refine HT.out.mono ?_
    rintro e w1 ⟨rfl, hm, ho⟩
    obtain ⟨q0, q3, q9, qf⟩ := HC.out w1 hm ho
    have HM := mhid (And.intro hm ho)
    clear hm ho d0 c7
    go_wp2_with fail
    go_returns
    refine ⟨rfl, ?_⟩
    rw [HE.out]
    have hD : DAt w1 D M x a b n := H.out.d.keep HM.out.2 H.out.ne.1
    refine DoEnd.of (m1 := trapM m 16 kind pc) (HM.out.1.keep ((Only.refl (fun k => k = D) w1).setCell (p := ⟨D, 9, none⟩) rfl _) (fun k hk e => hk (by rw [e]; exact H.out.rD))) (hD.setNext _) (((HM.out.2.mono (fun k _ e => .inl (e ▸ H.out.mach.ownM))).setCell (p := ⟨D, 9, none⟩) (.inr rfl) _)) (by omega) ?_
    exact finM_run H.out.run
  · have HT := mhid (mhalt_any w G M m h.mach 3 0 (by omega) (by omega))
    have HE := mhid (show winM m kind pc = haltM m 3 0 from if_neg hz)
    have e1 : (m.p.bank != 0) = true := by simpa using hz
    clear h hz
    generalize m.p.bank = bk at *
    go_enter Tryz.func205, Tryz.ntmps205
    go_wp2_with fail
    refine HT.out.mono ?_
    rintro e w1 ⟨rfl, hm, ho⟩
    go_wp2_with fail
    go_returns
    refine ⟨rfl, ?_⟩
    rw [HE.out]
    exact H.out.fin (Only.refl _ _) hm ho (fun k e => e ▸ H.out.mach.ownM) (finM_halt _ _ _ _ (by omega))
end Go.Proofs.YtajholbcpmjhiaaGreatDoor
/- Walks of the package word: what each function of it returns, whatever the words are. -/
namespace Go.Proofs.YtajholbcpmjhiaaGreatDoor
open Go.RowKit
def Ret (P : Program) (f : FuncId) (args : Array Value) (w : World) (v : Value) : Prop := Calls P f args w fun e w' => e = .returned v ∧ Below w.heap.size w w'
theorem wrap32_bd (n : Int) : -2147483648 ≤ wrap32 n ∧ wrap32 n ≤ 2147483647 := by rw [s32_eq]; unfold s32; omega
theorem tdiv_small (x y : Int) (hx : -2147483648 ≤ x) (hx2 : x ≤ 2147483647) : -2147483648 ≤ x.tdiv y ∧ x.tdiv y ≤ 2147483648 := by
  have h : (x.tdiv y).natAbs ≤ x.natAbs := by rw [Int.natAbs_tdiv]; exact Nat.div_le_self _ _
  omega
theorem tmod_small (x y : Int) (hx : -2147483648 ≤ x) (hx2 : x ≤ 2147483647) : -2147483648 ≤ x.tmod y ∧ x.tmod y ≤ 2147483648 := by
  have h : (x.tmod y).natAbs ≤ x.natAbs := by rw [Int.natAbs_tmod]; exact Nat.mod_le _ _
  omega
theorem ret_val {a b : Value} (h : a = b) : Ending.returned a = .returned b := by rw [h]
theorem ret_u {k : IntKind} {a b : Int} (h : a = b) : Ending.returned (.int k a) = .returned (.int k b) := by rw [h]
theorem ret_ub {k : IntKind} {a b : Int} {p q : Bool} (h : a = b) (g : p = q) : Ending.returned (.tuple #[.int k a, .bool p]) = .returned (.tuple #[.int k b, .bool q]) := by rw [h, g]
theorem truth_any (p : Bool) (w : World) : Calls Tryz.prog 227 #[.bool p] w fun e w' => e = .returned (.tuple #[.int .u32 (truthS p), .bool true]) ∧ w = w' := by
  cases p
  all_goals
    go_enter Tryz.func227, Tryz.ntmps227
    go_wp2
    go_ret2
    exact ⟨ret_ub rfl rfl, rfl⟩
theorem op0_any (a b : Int) (ha : 0 ≤ a) (ha2 : a < 4294967296) (hb : 0 ≤ b) (hb2 : b < 4294967296) (w : World) : Calls Tryz.prog 214 #[.int .u32 a, .int .u32 b] w fun e w' => e = .returned (.tuple #[.int .u32 (doW 0 a b), .bool (doB 0 b)]) ∧ w = w' := by
  go_enter Tryz.func214, Tryz.ntmps214
  go_wp2
  go_ret2
  exact ⟨ret_ub rfl rfl, rfl⟩
theorem op1_any (a b : Int) (ha : 0 ≤ a) (ha2 : a < 4294967296) (hb : 0 ≤ b) (hb2 : b < 4294967296) (w : World) : Calls Tryz.prog 215 #[.int .u32 a, .int .u32 b] w fun e w' => e = .returned (.tuple #[.int .u32 (doW 1 a b), .bool (doB 1 b)]) ∧ w = w' := by
  go_enter Tryz.func215, Tryz.ntmps215
  go_wp2
  go_ret2
  exact ⟨ret_ub rfl rfl, rfl⟩
theorem op2_any (a b : Int) (ha : 0 ≤ a) (ha2 : a < 4294967296) (hb : 0 ≤ b) (hb2 : b < 4294967296) (w : World) : Calls Tryz.prog 216 #[.int .u32 a, .int .u32 b] w fun e w' => e = .returned (.tuple #[.int .u32 (doW 2 a b), .bool (doB 2 b)]) ∧ w = w' := by
  go_enter Tryz.func216, Tryz.ntmps216
  go_wp2
  go_ret2
  exact ⟨ret_ub rfl rfl, rfl⟩
theorem op5_any (a b : Int) (ha : 0 ≤ a) (ha2 : a < 4294967296) (hb : 0 ≤ b) (hb2 : b < 4294967296) (w : World) : Calls Tryz.prog 220 #[.int .u32 a, .int .u32 b] w fun e w' => e = .returned (.tuple #[.int .u32 (doW 5 a b), .bool (doB 5 b)]) ∧ w = w' := by
  go_enter Tryz.func220, Tryz.ntmps220
  go_wp2
  go_ret2
  exact ⟨ret_ub (bits_and ha ha2 hb hb2) rfl, rfl⟩
theorem op6_any (a b : Int) (ha : 0 ≤ a) (ha2 : a < 4294967296) (hb : 0 ≤ b) (hb2 : b < 4294967296) (w : World) : Calls Tryz.prog 221 #[.int .u32 a, .int .u32 b] w fun e w' => e = .returned (.tuple #[.int .u32 (doW 6 a b), .bool (doB 6 b)]) ∧ w = w' := by
  go_enter Tryz.func221, Tryz.ntmps221
  go_wp2
  go_ret2
  exact ⟨ret_ub (bits_or ha ha2 hb hb2) rfl, rfl⟩
theorem op7_any (a b : Int) (ha : 0 ≤ a) (ha2 : a < 4294967296) (hb : 0 ≤ b) (hb2 : b < 4294967296) (w : World) : Calls Tryz.prog 222 #[.int .u32 a, .int .u32 b] w fun e w' => e = .returned (.tuple #[.int .u32 (doW 7 a b), .bool (doB 7 b)]) ∧ w = w' := by
  go_enter Tryz.func222, Tryz.ntmps222
  go_wp2
  go_ret2
  exact ⟨ret_ub (bits_xor ha ha2 hb hb2) rfl, rfl⟩
theorem op8_any (a b : Int) (ha : 0 ≤ a) (ha2 : a < 4294967296) (hb : 0 ≤ b) (hb2 : b < 4294967296) (w : World) : Calls Tryz.prog 223 #[.int .u32 a, .int .u32 b] w fun e w' => e = .returned (.tuple #[.int .u32 (doW 8 a b), .bool (doB 8 b)]) ∧ w = w' := by
  have e1 : bits .and .u32 b 31 = b % 32 := by rw [u32_and b 31 hb hb2 (by omega) (by omega)]; show ((b.toNat &&& 31 : Nat) : Int) = b % 32; rw [nat_mask5]; omega
  have e2 : 0 ≤ b % 32 := by omega
  go_enter Tryz.func223, Tryz.ntmps223
  go_wp2
  go_ret2
  exact ⟨ret_ub rfl rfl, rfl⟩
theorem op9_any (a b : Int) (ha : 0 ≤ a) (ha2 : a < 4294967296) (hb : 0 ≤ b) (hb2 : b < 4294967296) (w : World) : Calls Tryz.prog 224 #[.int .u32 a, .int .u32 b] w fun e w' => e = .returned (.tuple #[.int .u32 (doW 9 a b), .bool (doB 9 b)]) ∧ w = w' := by
  have e1 : bits .and .u32 b 31 = b % 32 := by rw [u32_and b 31 hb hb2 (by omega) (by omega)]; show ((b.toNat &&& 31 : Nat) : Int) = b % 32; rw [nat_mask5]; omega
  have e2 : 0 ≤ b % 32 := by omega
  go_enter Tryz.func224, Tryz.ntmps224
  go_wp2
  go_ret2
  exact ⟨ret_ub rfl rfl, rfl⟩
theorem op10_any (a b : Int) (ha : 0 ≤ a) (ha2 : a < 4294967296) (hb : 0 ≤ b) (hb2 : b < 4294967296) (w : World) : Calls Tryz.prog 225 #[.int .u32 a, .int .u32 b] w fun e w' => e = .returned (.tuple #[.int .u32 (doW 10 a b), .bool (doB 10 b)]) ∧ w = w' := by
  have e1 : bits .and .u32 b 31 = b % 32 := by rw [u32_and b 31 hb hb2 (by omega) (by omega)]; show ((b.toNat &&& 31 : Nat) : Int) = b % 32; rw [nat_mask5]; omega
  have e2 : 0 ≤ b % 32 := by omega
  go_enter Tryz.func225, Tryz.ntmps225
  go_wp2
  go_ret2
  exact ⟨ret_ub (by rw [s32_eq]; rfl) rfl, rfl⟩
theorem op11_any (a b : Int) (ha : 0 ≤ a) (ha2 : a < 4294967296) (hb : 0 ≤ b) (hb2 : b < 4294967296) (w : World) : Calls Tryz.prog 226 #[.int .u32 a, .int .u32 b] w fun e w' => e = .returned (.tuple #[.int .u32 (doW 11 a b), .bool (doB 11 b)]) ∧ w = w' := by
  go_enter Tryz.func226, Tryz.ntmps226
  go_wp2_with (go_at_call 227; refine (truth_any _ _).mono ?_; rintro e w' ⟨rfl, rfl⟩)
  go_ret2
  exact ⟨ret_ub (by rw [s32_eq, s32_eq]; rfl) rfl, rfl⟩
theorem op12_any (a b : Int) (ha : 0 ≤ a) (ha2 : a < 4294967296) (hb : 0 ≤ b) (hb2 : b < 4294967296) (w : World) : Calls Tryz.prog 228 #[.int .u32 a, .int .u32 b] w fun e w' => e = .returned (.tuple #[.int .u32 (doW 12 a b), .bool (doB 12 b)]) ∧ w = w' := by
  go_enter Tryz.func228, Tryz.ntmps228
  go_wp2_with (go_at_call 227; refine (truth_any _ _).mono ?_; rintro e w' ⟨rfl, rfl⟩)
  go_ret2
  exact ⟨ret_ub rfl rfl, rfl⟩
theorem op13_any (a b : Int) (ha : 0 ≤ a) (ha2 : a < 4294967296) (hb : 0 ≤ b) (hb2 : b < 4294967296) (w : World) : Calls Tryz.prog 229 #[.int .u32 a, .int .u32 b] w fun e w' => e = .returned (.tuple #[.int .u32 (doW 13 a b), .bool (doB 13 b)]) ∧ w = w' := by
  go_enter Tryz.func229, Tryz.ntmps229
  go_wp2_with (go_at_call 227; refine (truth_any _ _).mono ?_; rintro e w' ⟨rfl, rfl⟩)
  go_ret2
  exact ⟨ret_ub rfl rfl, rfl⟩
theorem fn3_any (x y : Int) (hx : -2147483648 ≤ x) (hx2 : x ≤ 2147483647) (hy : -2147483648 ≤ y) (hy2 : y ≤ 2147483647) (h0 : (y == 0) = false) (w : World) :
    Calls Tryz.prog 218 #[.int .i64 x, .int .i64 y] w fun e w' => e = .returned (.int .i64 (x.tdiv y)) ∧ w = w' := by
  have h1 : ¬ y = 0 := by simpa using h0
  have hq := tdiv_small x y hx hx2
  have hw : IntKind.i64.wrap (x.tdiv y) = x.tdiv y := IntWalk.i64_in _ (by omega)
  have hw2 : wrap64 (x.tdiv y) = x.tdiv y := by rw [IntWalk.wrap64_in _ (by omega)]
  go_enter Tryz.func218, Tryz.ntmps218
  go_wp2
  go_ret
  exact ⟨ret_u rfl, rfl⟩
theorem op3_zero (g : Nat) (a : Int) (ha : 0 ≤ a) (ha2 : a < 4294967296) (w : World) (hc : w.cell? ⟨g, 0, none⟩ = some (.func (.func 218) #[] #[])) :
    Calls Tryz.prog 235 #[.int .u32 a, .int .u32 0, .pointer (some ⟨g, 0, none⟩)] w fun e w' => e = .returned (.tuple #[.int .u32 (doW 3 a 0), .bool (doB 3 0)]) ∧ w = w' := by
  go_enter Tryz.func235, Tryz.ntmps235
  go_wp2
  go_ret2
  exact ⟨ret_ub (by simp [doW]) (by simp [doB]), rfl⟩
set_option maxHeartbeats 400000 in
theorem op3_some (g : Nat) (a b : Int) (ha : 0 ≤ a) (ha2 : a < 4294967296) (hb : 0 ≤ b) (hb2 : b < 4294967296) (w : World) (hb1 : b ≠ 0) (hc : w.cell? ⟨g, 0, none⟩ = some (.func (.func 218) #[] #[])) :
    Calls Tryz.prog 235 #[.int .u32 a, .int .u32 b, .pointer (some ⟨g, 0, none⟩)] w fun e w' => e = .returned (.tuple #[.int .u32 (doW 3 a b), .bool (doB 3 b)]) ∧ w = w' := by
  have hb3 : (b == 0) = false := by simpa using hb1
  have h1 := wrap32_bd a
  have h2 := wrap32_bd b
  have hs : (wrap32 b == 0) = false := by rw [s32_eq]; unfold s32; simp; omega
  go_enter Tryz.func235, Tryz.ntmps235
  go_wp2_with (go_at_call 218; refine (fn3_any _ _ h1.1 h1.2 h2.1 h2.2 hs _).mono ?_; rintro e w' ⟨rfl, rfl⟩)
  go_ret2
  exact ⟨ret_ub (by simp [doW, hb1, s32_eq]; rfl) (by simp [doB, hb1]), rfl⟩
theorem fn4_any (x y : Int) (hx : -2147483648 ≤ x) (hx2 : x ≤ 2147483647) (hy : -2147483648 ≤ y) (hy2 : y ≤ 2147483647) (h0 : (y == 0) = false) (w : World) :
    Calls Tryz.prog 219 #[.int .i64 x, .int .i64 y] w fun e w' => e = .returned (.int .i64 (x.tmod y)) ∧ w = w' := by
  have h1 : ¬ y = 0 := by simpa using h0
  have hq := tmod_small x y hx hx2
  have hw : IntKind.i64.wrap (x.tmod y) = x.tmod y := IntWalk.i64_in _ (by omega)
  have hw2 : wrap64 (x.tmod y) = x.tmod y := by rw [IntWalk.wrap64_in _ (by omega)]
  go_enter Tryz.func219, Tryz.ntmps219
  go_wp2
  go_ret
  exact ⟨ret_u rfl, rfl⟩
theorem op4_zero (g : Nat) (a : Int) (ha : 0 ≤ a) (ha2 : a < 4294967296) (w : World) (hc : w.cell? ⟨g, 0, none⟩ = some (.func (.func 219) #[] #[])) :
    Calls Tryz.prog 235 #[.int .u32 a, .int .u32 0, .pointer (some ⟨g, 0, none⟩)] w fun e w' => e = .returned (.tuple #[.int .u32 (doW 4 a 0), .bool (doB 4 0)]) ∧ w = w' := by
  go_enter Tryz.func235, Tryz.ntmps235
  go_wp2
  go_ret2
  exact ⟨ret_ub (by simp [doW]) (by simp [doB]), rfl⟩
set_option maxHeartbeats 400000 in
theorem op4_some (g : Nat) (a b : Int) (ha : 0 ≤ a) (ha2 : a < 4294967296) (hb : 0 ≤ b) (hb2 : b < 4294967296) (w : World) (hb1 : b ≠ 0) (hc : w.cell? ⟨g, 0, none⟩ = some (.func (.func 219) #[] #[])) :
    Calls Tryz.prog 235 #[.int .u32 a, .int .u32 b, .pointer (some ⟨g, 0, none⟩)] w fun e w' => e = .returned (.tuple #[.int .u32 (doW 4 a b), .bool (doB 4 b)]) ∧ w = w' := by
  have hb3 : (b == 0) = false := by simpa using hb1
  have h1 := wrap32_bd a
  have h2 := wrap32_bd b
  have hs : (wrap32 b == 0) = false := by rw [s32_eq]; unfold s32; simp; omega
  go_enter Tryz.func235, Tryz.ntmps235
  go_wp2_with (go_at_call 219; refine (fn4_any _ _ h1.1 h1.2 h2.1 h2.2 hs _).mono ?_; rintro e w' ⟨rfl, rfl⟩)
  go_ret2
  exact ⟨ret_ub (by simp [doW, hb1, s32_eq]; rfl) (by simp [doB, hb1]), rfl⟩
end Go.Proofs.YtajholbcpmjhiaaGreatDoor
/- The walks of word.Flags and word.Holds. -/
namespace Go.Proofs.YtajholbcpmjhiaaGreatDoor
open Go.RowKit
def preS (bs : List Bool) : Nat → Int
  | 0 => 0
  | k + 1 => 2 * preS bs k + truthS (bs.getD k false)
theorem preS_bd (bs : List Bool) : ∀ k, k ≤ 4 → 0 ≤ preS bs k ∧ preS bs k < 16 ∧ (k ≤ 3 → preS bs k < 8) := by
  intro k hk
  have h : ∀ j, 0 ≤ truthS (bs.getD j false) ∧ truthS (bs.getD j false) ≤ 1 := by intro j; unfold truthS; split <;> omega
  have h0 := h 0; have h1 := h 1; have h2 := h 2; have h3 := h 3
  have hc : k = 0 ∨ k = 1 ∨ k = 2 ∨ k = 3 ∨ k = 4 := by omega
  rcases hc with rfl | rfl | rfl | rfl | rfl <;> simp only [preS] <;> omega
set_option maxHeartbeats 400000 in
theorem wput_any (B : Nat) (bs : List Bool) (w : World) (hc : ∀ k, k < 4 → w.cell? ⟨B, k, none⟩ = some (.bool (bs[k]?.getD false))) :
    Calls Tryz.prog 211 #[.slice (some ⟨B, 0, none⟩) 4 4] w fun e w' => e = .returned (.int .u8 (preS bs 4)) ∧ w = w' := by
  go_enter Tryz.func211, Tryz.ntmps211
  go_wp2
  go_loop [3, 5, 8] (fun n _ i => ∃ k : Nat, k ≤ 4 ∧ i = .int .i64 k ∧ n = .int .u8 (preS bs k)) (fun _ _ i => 4 - (intOf i).toNat)
  case atStart => exact ⟨0, Nat.zero_le _, rfl, rfl⟩
  case round =>
    obtain ⟨k, hk, rfl, rfl⟩ := hrel
    have hb := preS_bd bs k hk
    by_cases hlt : k < 4
    · have hcell := hc k hlt
      have hb2 := hb.2.2 (by omega)
      clear hc
      go_wp2
      all_goals
        refine ⟨⟨k + 1, by omega, by go_num, ?_⟩, by simp [intOf]; omega⟩
        rw [show preS bs (k + 1) = 2 * preS bs k + truthS (bs[k]?.getD false) from by simp [preS]]
        first | (have ht : bs[k]?.getD false = true := by assumption); rw [ht]; simp [truthS]; omega | (have ht : bs[k]?.getD false = false := by assumption); rw [ht]; simp [truthS]; omega
    · obtain rfl : k = 4 := by omega
      go_wp2
      go_ret
      exact ⟨rfl, rfl⟩
theorem over_bit (a b : Int) (ha : 0 ≤ a) (ha2 : a < 4294967296) (hb : 0 ≤ b) (hb2 : b < 4294967296) :
    (andS (xorS a b) (xorS a (u32 (a - b))) / 2147483648 == 1) = !decide (s32 a - s32 b = s32 (a - b)) := by
  have hd := u32_bd (a - b)
  obtain ⟨A, rfl⟩ := Int.eq_ofNat_of_zero_le ha
  obtain ⟨B, rfl⟩ := Int.eq_ofNat_of_zero_le hb
  obtain ⟨D, hD⟩ := Int.eq_ofNat_of_zero_le hd.1
  rw [hD] at hd ⊢
  have e : andS (xorS A B) (xorS A D) / 2147483648 = (((A / 2147483648 ^^^ B / 2147483648) &&& (A / 2147483648 ^^^ D / 2147483648) : Nat) : Int) := by
    unfold andS xorS
    simp only [Int.toNat_natCast]
    rw [show (2147483648 : Int) = ((2 ^ 31 : Nat) : Int) from rfl, ← Int.natCast_ediv, Nat.and_div_two_pow, Nat.xor_div_two_pow, Nat.xor_div_two_pow]
  rw [e]
  have hA : A / 2147483648 = 0 ∨ A / 2147483648 = 1 := by omega
  have hB : B / 2147483648 = 0 ∨ B / 2147483648 = 1 := by omega
  have hDD : D / 2147483648 = 0 ∨ D / 2147483648 = 1 := by omega
  unfold u32 at hD
  unfold s32
  rcases hA with hA | hA <;> rcases hB with hB | hB <;> rcases hDD with hDD | hDD <;> rw [hA, hB, hDD] <;> simp <;> omega
theorem flags_eq (a b : Int) (p q r s : Bool) (hp : p = decide (s32 (a - b) < 0)) (hq : q = decide (a = b)) (hr : r = !decide (s32 a - s32 b = s32 (a - b))) (hs : s = decide (a < b)) :
    preS [p, q, r, s] 4 = flagsS a b := by
  subst hp hq hr hs
  simp only [preS, flagsS, List.getD_cons_zero, List.getD_cons_succ]; omega
theorem cells_four (w : World) (p q r s : Bool) : ∀ k, k < 4 → (w.alloc (.cells #[.bool p, .bool q, .bool r, .bool s] 4)).cell? ⟨w.heap.size, k, none⟩ = some (.bool ([p, q, r, s][k]?.getD false)) := by
  intro k hk
  have hc : k = 0 ∨ k = 1 ∨ k = 2 ∨ k = 3 := by omega
  rcases hc with rfl | rfl | rfl | rfl <;> simp
set_option maxHeartbeats 400000 in
theorem flags_any (a b : Int) (ha : 0 ≤ a) (ha2 : a < 4294967296) (hb : 0 ≤ b) (hb2 : b < 4294967296) (w : World) :
    Ret Tryz.prog 195 #[.int .u32 a, .int .u32 b] w (.int .u8 (flagsS a b)) := by
  unfold Ret
  have hd := u32_bd (a - b)
  unfold u32 at hd
  have hx1 := xorS_bd ha2 hb2
  have hx2 := xorS_bd ha2 hd.2
  have e1 := bits_xor ha ha2 hb hb2
  have e2 := bits_xor ha ha2 hd.1 hd.2
  have e3 := bits_and hx1.1 hx1.2 hx2.1 hx2.2
  go_enter Tryz.func195, Tryz.ntmps195
  go_wp2_with fail
  refine (wput_any _ [_, _, _, _] _ (cells_four _ _ _ _ _)).mono ?_
  rintro e w' ⟨rfl, rfl⟩
  go_wp2
  go_ret
  refine ⟨ret_u (flags_eq a b _ _ _ _ ?_ ?_ ?_ rfl), (Below.refl _ _).alloc (Nat.le_refl _) _⟩
  · rw [s32_eq, ← s32_u32 (a - b)]; rfl
  · rw [Bool.eq_iff_iff]; simp; omega
  · exact over_bit a b ha ha2 hb hb2
theorem has_bit (f : Int) (i : Nat) (h : 0 ≤ f) (h2 : f < 256) (hi : i < 8) : (bits .and .u8 f ((2 ^ i : Nat) : Int) != 0) = whasS f ((2 ^ i : Nat) : Int) := by
  have hp : 2 ^ i < 256 := by have := Nat.pow_lt_pow_right (a := 2) (by omega) hi; omega
  rw [u8_and f _ h h2 (Int.natCast_nonneg _) (Int.ofNat_lt.2 hp)]
  obtain ⟨F, rfl⟩ := Int.eq_ofNat_of_zero_le h
  simp only [Int.toNat_natCast]
  rw [nat_bit]
  have hpos : 0 < 2 ^ i := Nat.two_pow_pos i
  generalize 2 ^ i = m at hpos ⊢
  unfold whasS
  rw [← Int.natCast_ediv]
  have h3 : F / m % 2 = 0 ∨ F / m % 2 = 1 := by omega
  have h4 : ((F / m : Nat) : Int) % 2 = ((F / m % 2 : Nat) : Int) := by simp
  rw [h4]
  rcases h3 with h3 | h3
  · rw [h3]; simp
  · rw [h3, Nat.one_mul]; rw [show decide (((1 : Nat) : Int) = 1) = true from rfl, bne_iff_ne]; omega
set_option maxHeartbeats 400000 in
theorem has_any (g : Nat) (f : Int) (h : 0 ≤ f) (h2 : f < 256) (n : Int) (hn : n = 1 ∨ n = 2 ∨ n = 4 ∨ n = 8) (w : World) (hc : w.cell? ⟨g, 0, none⟩ = some (.int .u8 f)) :
    Calls Tryz.prog 212 #[.int .u8 n, .pointer (some ⟨g, 0, none⟩)] w fun e w' => e = .returned (.bool (whasS f n)) ∧ w = w' := by
  have hb : (bits .and .u8 f n != 0) = whasS f n := by
    rcases hn with rfl | rfl | rfl | rfl
    · exact has_bit f 0 h h2 (by omega)
    · exact has_bit f 1 h h2 (by omega)
    · exact has_bit f 2 h h2 (by omega)
    · exact has_bit f 3 h h2 (by omega)
  clear hn
  go_enter Tryz.func212, Tryz.ntmps212
  go_wp2
  go_ret
  exact ⟨rfl, rfl⟩
set_option maxHeartbeats 400000 in
theorem holds0_any (f : Int) (h : 0 ≤ f) (h2 : f < 256) (w : World) : Ret Tryz.prog 196 #[.int .u8 0, .int .u8 f] w (.bool (holdsS 0 f)) := by
  unfold Ret
  have hc : (w.alloc (.cells #[.int .u8 f] 5)).cell? ⟨w.heap.size, 0, none⟩ = some (.int .u8 f) := by simp
  go_enter Tryz.func196, Tryz.ntmps196
  go_wp2_with fail
  go_ret
  exact ⟨ret_val (by simp [holdsS]), (Below.refl _ _).alloc (Nat.le_refl _) _⟩
set_option maxHeartbeats 400000 in
theorem holds1_any (f : Int) (h : 0 ≤ f) (h2 : f < 256) (w : World) : Ret Tryz.prog 196 #[.int .u8 1, .int .u8 f] w (.bool (holdsS 1 f)) := by
  unfold Ret
  have hc : (w.alloc (.cells #[.int .u8 f] 5)).cell? ⟨w.heap.size, 0, none⟩ = some (.int .u8 f) := by simp
  go_enter Tryz.func196, Tryz.ntmps196
  go_wp2_with fail
  refine (has_any _ f h h2 4 (by simp) _ hc).mono ?_
  rintro e w' ⟨rfl, rfl⟩
  go_wp2_with fail
  go_ret
  exact ⟨ret_val (by simp [holdsS]), (Below.refl _ _).alloc (Nat.le_refl _) _⟩
set_option maxHeartbeats 400000 in
theorem holds2_any (f : Int) (h : 0 ≤ f) (h2 : f < 256) (w : World) : Ret Tryz.prog 196 #[.int .u8 2, .int .u8 f] w (.bool (holdsS 2 f)) := by
  unfold Ret
  have hc : (w.alloc (.cells #[.int .u8 f] 5)).cell? ⟨w.heap.size, 0, none⟩ = some (.int .u8 f) := by simp
  go_enter Tryz.func196, Tryz.ntmps196
  go_wp2_with fail
  refine (has_any _ f h h2 4 (by simp) _ hc).mono ?_
  rintro e w' ⟨rfl, rfl⟩
  go_wp2_with fail
  go_ret
  exact ⟨ret_val (by simp [holdsS]), (Below.refl _ _).alloc (Nat.le_refl _) _⟩
set_option maxHeartbeats 400000 in
theorem holds3_any (f : Int) (h : 0 ≤ f) (h2 : f < 256) (w : World) : Ret Tryz.prog 196 #[.int .u8 3, .int .u8 f] w (.bool (holdsS 3 f)) := by
  unfold Ret
  have hc : (w.alloc (.cells #[.int .u8 f] 5)).cell? ⟨w.heap.size, 0, none⟩ = some (.int .u8 f) := by simp
  go_enter Tryz.func196, Tryz.ntmps196
  go_wp2_with fail
  refine (has_any _ f h h2 8 (by simp) _ hc).mono ?_
  rintro e w' ⟨rfl, rfl⟩
  go_wp2_with fail
  refine (has_any _ f h h2 2 (by simp) _ hc).mono ?_
  rintro e w' ⟨rfl, rfl⟩
  go_wp2_with fail
  go_ret
  exact ⟨ret_val (by simp [holdsS]; cases whasS f 8 <;> cases whasS f 2 <;> rfl), (Below.refl _ _).alloc (Nat.le_refl _) _⟩
set_option maxHeartbeats 400000 in
theorem holds4_any (f : Int) (h : 0 ≤ f) (h2 : f < 256) (w : World) : Ret Tryz.prog 196 #[.int .u8 4, .int .u8 f] w (.bool (holdsS 4 f)) := by
  unfold Ret
  have hc : (w.alloc (.cells #[.int .u8 f] 5)).cell? ⟨w.heap.size, 0, none⟩ = some (.int .u8 f) := by simp
  go_enter Tryz.func196, Tryz.ntmps196
  go_wp2_with fail
  refine (has_any _ f h h2 8 (by simp) _ hc).mono ?_
  rintro e w' ⟨rfl, rfl⟩
  go_wp2_with fail
  refine (has_any _ f h h2 2 (by simp) _ hc).mono ?_
  rintro e w' ⟨rfl, rfl⟩
  go_wp2_with fail
  go_ret
  exact ⟨ret_val (by simp [holdsS]; cases whasS f 8 <;> cases whasS f 2 <;> rfl), (Below.refl _ _).alloc (Nat.le_refl _) _⟩
set_option maxHeartbeats 400000 in
theorem holds5_any (f : Int) (h : 0 ≤ f) (h2 : f < 256) (w : World) : Ret Tryz.prog 196 #[.int .u8 5, .int .u8 f] w (.bool (holdsS 5 f)) := by
  unfold Ret
  have hc : (w.alloc (.cells #[.int .u8 f] 5)).cell? ⟨w.heap.size, 0, none⟩ = some (.int .u8 f) := by simp
  go_enter Tryz.func196, Tryz.ntmps196
  go_wp2_with fail
  refine (has_any _ f h h2 1 (by simp) _ hc).mono ?_
  rintro e w' ⟨rfl, rfl⟩
  go_wp2_with fail
  go_ret
  exact ⟨ret_val (by simp [holdsS]), (Below.refl _ _).alloc (Nat.le_refl _) _⟩
set_option maxHeartbeats 400000 in
theorem holds6_any (f : Int) (h : 0 ≤ f) (h2 : f < 256) (w : World) : Ret Tryz.prog 196 #[.int .u8 6, .int .u8 f] w (.bool (holdsS 6 f)) := by
  unfold Ret
  have hc : (w.alloc (.cells #[.int .u8 f] 5)).cell? ⟨w.heap.size, 0, none⟩ = some (.int .u8 f) := by simp
  go_enter Tryz.func196, Tryz.ntmps196
  go_wp2_with fail
  refine (has_any _ f h h2 1 (by simp) _ hc).mono ?_
  rintro e w' ⟨rfl, rfl⟩
  go_wp2_with fail
  go_ret
  exact ⟨ret_val (by simp [holdsS]), (Below.refl _ _).alloc (Nat.le_refl _) _⟩
set_option maxHeartbeats 400000 in
theorem holds_none (c : Int) (hc : 7 ≤ c) (f : Int) (w : World) : Ret Tryz.prog 196 #[.int .u8 c, .int .u8 f] w (.bool false) := by
  unfold Ret
  go_enter Tryz.func196, Tryz.ntmps196
  go_wp2_with fail
  go_ret
  exact ⟨rfl, (Below.refl _ _).alloc (Nat.le_refl _) _⟩
theorem holds_any (c : Int) (h1 : 0 ≤ c) (f : Int) (h : 0 ≤ f) (h2 : f < 256) (w : World) : Ret Tryz.prog 196 #[.int .u8 c, .int .u8 f] w (.bool (holdsS c.toNat f)) := by
  by_cases h7 : 7 ≤ c
  · have e : holdsS c.toNat f = false := by
      obtain ⟨m, hm⟩ := Nat.exists_eq_add_of_le (show 7 ≤ c.toNat by omega)
      rw [hm]; unfold holdsS; split <;> first | omega | rfl
    rw [e]; exact holds_none c h7 f w
  · have hc : c = 0 ∨ c = 1 ∨ c = 2 ∨ c = 3 ∨ c = 4 ∨ c = 5 ∨ c = 6 := by omega
    rcases hc with rfl | rfl | rfl | rfl | rfl | rfl | rfl
    · exact holds0_any f h h2 w
    · exact holds1_any f h h2 w
    · exact holds2_any f h h2 w
    · exact holds3_any f h h2 w
    · exact holds4_any f h h2 w
    · exact holds5_any f h h2 w
    · exact holds6_any f h h2 w
end Go.Proofs.YtajholbcpmjhiaaGreatDoor
