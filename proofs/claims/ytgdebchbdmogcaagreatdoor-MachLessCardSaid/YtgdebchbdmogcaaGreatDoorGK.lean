/- Several texts in one: MachOpA, MachOpB, MachOpC, MachOpD. -/
import Derived.Test.YtgdebchbdmogcaaGreatDoorGI
import Derived.Test.YtgdebchbdmogcaaGreatDoorGJ
import Derived.Test.YtgdebchbdmogcaaGreatDoorGD
import Derived.Test.YtgdebchbdmogcaaGreatDoorGH
/- The walks of the machine's instructions: sethi, jmpl, call, rdwim, cmp, br. -/
namespace Go.Proofs.YtgdebchbdmogcaaGreatDoor
open Go.RowKit
set_option linter.unusedVariables false
set_option linter.unusedSimpArgs false
theorem fin_on {m m1 : Mx} {n : Int} (hk : m1.kind = 0) (hp : m1.pc = m.pc) (hn : n = u32 (m.pc + 4)) : finM m1 n = onM m1 := by
  unfold finM onM; rw [if_pos hk, hp, hn]
theorem own_drew (w : World) (G : MG) (D : Nat) : Only (fun k => G.own k ∨ k = D) w w.drew := (Only.refl _ w).drew
theorem uw (n : Int) : IntKind.u32.wrap n = u32 n := by rw [IntKind.wrap_u32]; rfl
theorem DoIn.ownS {w : World} {G : MG} {M : Nat} {m : Mx} {D : Nat} {x : Ix} {a b n : Int} (h : DoIn w G M m D x a b n) : ∀ k, k = G.F ∨ k = G.Wb → G.own k := fun k hk => by
  rcases hk with e | e
  · exact e ▸ h.mach.ownF
  · exact e ▸ h.mach.ownW
/-- A register is set by the call at the end. -/
theorem DoIn.set {w w0 : World} {G : MG} {M : Nat} {m : Mx} {D : Nat} {x : Ix} {a b n : Int} (h : DoIn w G M m D x a b n) (o0 : Only (fun k => G.own k ∨ k = D) w0 w) (r v : Int) (h0 : 0 ≤ r) (h1 : r < 32) (hv : 0 ≤ v ∧ v < 4294967296) {q : Mx} (hf : finM (setM m r v) n = q) :
    Calls Tryz.prog 88 #[.pointer (some ⟨M, 0, none⟩), .int .u8 r, .int .u32 v] w fun e w' => e = .returned (.tuple #[]) ∧ DoEnd w0 G M D x a b q w' :=
  (mset_any w G M m h.mach r v h0 h1 hv).mono fun e w' ⟨he, hm, ho⟩ => ⟨he, h.fin o0 hm ho h.ownS hf⟩
/-- The place where the PC goes is stored at the end. -/
theorem DoEnd.next {w w1 : World} {G : MG} {M D : Nat} {x : Ix} {a b n n' : Int} {m1 r : Mx} (hm : MachAt w1 G M m1) (hd : DAt w1 D M x a b n) (rD : G.R D = .none) (o : Only (fun k => G.own k ∨ k = D) w w1) (hn : 0 ≤ n' ∧ n' < 4294967296) (hf : finM m1 n' = r) : DoEnd w G M D x a b r (w1.setCell ⟨D, 9, none⟩ (.int .u32 n')) :=
  DoEnd.of (hm.keep ((Only.refl (fun k => k = D) w1).setCell (p := ⟨D, 9, none⟩) rfl _) (fun k hk e => hk (by rw [e]; exact rD))) (hd.setNext n') (o.setCell (p := ⟨D, 9, none⟩) (.inr rfl) _) hn hf
theorem DoEnd.drew {w w1 : World} {G : MG} {M D : Nat} {x : Ix} {a b : Int} {r : Mx} (h : DoEnd w G M D x a b r w1) : DoEnd w G M D x a b r w1.drew := by
  obtain ⟨G', m1, n1, h1, h2, h3, h4, h5, h6⟩ := h
  exact ⟨G', m1, n1, h1.keepb ((Below.refl _ _).drew), h2.keep (Only.of_below (S := fun _ => False) ((Below.refl _ _).drew)) id, h3.drew, h4, h5, h6⟩
/-- Behind a register's setting the instruction stands as it stood. -/
theorem DoIn.after {w w1 : World} {G : MG} {M : Nat} {m m1 : Mx} {D : Nat} {x : Ix} {a b n : Int} {C : Nat → Prop} (h : DoIn w G M m D x a b n) (hm : MachAt w1 G M m1) (ho : Only C w w1) (hC : ∀ k, C k → G.own k) (hk : m1.kind = 0) : DoIn w1 G M m1 D x a b n :=
  ⟨hm, h.d.keep ho (fun hc => (hC D hc).1 h.rD), h.rD, h.fits, h.ha, h.hb, h.hn, hk⟩
theorem opS15 {m : Mx} {x : Ix} {a b : Int} (h : x.op = 15) : opS m x a b = onM (setM m x.rd (u32 (b * 2048))) := by unfold opS; rw [h]; rfl
set_option maxRecDepth 100000 in
set_option maxHeartbeats 2000000 in
theorem do_sethi (w : World) (G : MG) (M : Nat) (m : Mx) (D : Nat) (x : Ix) (a b n : Int) (h : DoIn w G M m D x a b n) (hop : x.op = 15) (hn : n = u32 (m.pc + 4)) :
    Calls Tryz.prog 64 #[.pointer (some ⟨D, 0, none⟩)] w fun e w' => e = .returned (.tuple #[]) ∧ DoEnd w G M D x a b (opS m x a b) w' := by
  rw [opS15 hop]
  have HS := mhid (h.drew.set (own_drew w G D) x.rd (u32 (b * 2048)) h.fits.rd0 h.fits.rd1 (u32_bd _) (fin_on h.run rfl hn))
  have ha := h.ha
  have hb := h.hb
  have d0 := h.dc.d0
  have d2 := h.dc.d2
  have d8 := h.dc.d8
  clear h hn
  have u1 := uw (b * 2048)
  go_enter Tryz.func64, Tryz.ntmps64
  go_wp2_with fail
  go_still_tail 14, (by kernel_rfl)
  change wpList _ _ _ _ _ w.drew
  go_wp2_with fail
  refine HS.out.mono ?_
  rintro e w' ⟨rfl, he⟩
  go_wp2_with fail
  go_returns
  exact ⟨rfl, he⟩
theorem opS28 {m : Mx} {x : Ix} {a b : Int} (h : x.op = 28) : opS m x a b = onM (setM m x.rd m.wim) := by unfold opS; rw [h]; rfl
set_option maxRecDepth 100000 in
set_option maxHeartbeats 2000000 in
theorem do_rdwim (w : World) (G : MG) (M : Nat) (m : Mx) (D : Nat) (x : Ix) (a b n : Int) (h : DoIn w G M m D x a b n) (hop : x.op = 28) (hn : n = u32 (m.pc + 4)) :
    Calls Tryz.prog 77 #[.pointer (some ⟨D, 0, none⟩)] w fun e w' => e = .returned (.tuple #[]) ∧ DoEnd w G M D x a b (opS m x a b) w' := by
  rw [opS28 hop]
  have HS := mhid (h.drew.set (own_drew w G D) x.rd (m.wim) h.fits.rd0 h.fits.rd1 (⟨h.mach.ok.wim0, h.mach.ok.wim1⟩) (fin_on h.run rfl hn))
  have ha := h.ha
  have hb := h.hb
  have d0 := h.dc.d0
  have d2 := h.dc.d2
  have c4 := h.mach.mc.wim
  clear h hn
  go_enter Tryz.func77, Tryz.ntmps77
  go_wp2_with fail
  go_still_tail 16, (by kernel_rfl)
  change wpList _ _ _ _ _ w.drew
  go_wp2_with fail
  refine HS.out.mono ?_
  rintro e w' ⟨rfl, he⟩
  go_wp2_with fail
  go_returns
  exact ⟨rfl, he⟩
theorem opS19 {m : Mx} {x : Ix} {a b : Int} (h : x.op = 19) : opS m x a b = { setM m x.rd m.pc with pc := u32 (a + b) } := by unfold opS; rw [h]; rfl
set_option maxRecDepth 100000 in
set_option maxHeartbeats 2000000 in
theorem do_jmpl (w : World) (G : MG) (M : Nat) (m : Mx) (D : Nat) (x : Ix) (a b n : Int) (h : DoIn w G M m D x a b n) (hop : x.op = 19) (hn : n = u32 (m.pc + 4)) :
    Calls Tryz.prog 68 #[.pointer (some ⟨D, 0, none⟩)] w fun e w' => e = .returned (.tuple #[]) ∧ DoEnd w G M D x a b (opS m x a b) w' := by
  rw [opS19 hop]
  have HS := mhid (mset_any w.drew G M m h.drew.mach (x.rd) (m.pc) h.fits.rd0 h.fits.rd1 (⟨h.mach.ok.pc0, h.mach.ok.pc1⟩))
  have H := mhid h
  have ha := h.ha
  have hb := h.hb
  have d0 := h.dc.d0
  have d2 := h.dc.d2
  have c3 := h.mach.mc.pc
  clear h hn
  go_enter Tryz.func68, Tryz.ntmps68
  go_wp2_with fail
  go_still_tail 16, (by kernel_rfl)
  change wpList _ _ _ _ _ w.drew
  go_wp2_with fail
  refine HS.out.mono ?_
  rintro e w1 ⟨rfl, hm, ho⟩
  have h1 := H.out.drew.after hm ho H.out.ownS (H.out.run)
  have o1 : Only (fun k => G.own k ∨ k = D) w w1 := (own_drew w G D).trans (ho.mono (fun k _ hk => .inl (H.out.ownS k hk)))
  clear hm ho d0 d2 c3 HS
  have H1 := mhid (And.intro h1 o1)
  have d7 := h1.dc.d7
  have d8 := h1.dc.d8
  have d9 := h1.dc.d9
  have fd := h1.dc.fd
  clear h1 o1
  have u1 := uw (a + b)
  go_wp2_with fail
  go_still_tail 12, (by kernel_rfl)
  change wpList _ _ _ _ _ w1.drew
  go_wp2_with fail
  go_returns
  exact ⟨rfl, (DoEnd.next H1.out.1.mach H1.out.1.d H.out.rD H1.out.2 (u32_bd _) (finM_run H.out.run)).drew⟩
theorem opS18 {m : Mx} {x : Ix} {a b : Int} (h : x.op = 18) : opS m x a b = { setM m 15 m.pc with pc := u32 (m.pc + 4 * b) } := by unfold opS; rw [h]; rfl
set_option maxRecDepth 100000 in
set_option maxHeartbeats 2000000 in
theorem do_call (w : World) (G : MG) (M : Nat) (m : Mx) (D : Nat) (x : Ix) (a b n : Int) (h : DoIn w G M m D x a b n) (hop : x.op = 18) (hn : n = u32 (m.pc + 4)) :
    Calls Tryz.prog 67 #[.pointer (some ⟨D, 0, none⟩)] w fun e w' => e = .returned (.tuple #[]) ∧ DoEnd w G M D x a b (opS m x a b) w' := by
  rw [opS18 hop]
  have HS := mhid (mset_any w.drew G M m h.drew.mach (15) (m.pc) (by omega) (by omega) (⟨h.mach.ok.pc0, h.mach.ok.pc1⟩))
  have H := mhid h
  have ha := h.ha
  have hb := h.hb
  have d0 := h.dc.d0
  have c3 := h.mach.mc.pc
  clear h hn
  go_enter Tryz.func67, Tryz.ntmps67
  go_wp2_with fail
  go_still_tail 11, (by kernel_rfl)
  change wpList _ _ _ _ _ w.drew
  go_wp2_with fail
  refine HS.out.mono ?_
  rintro e w1 ⟨rfl, hm, ho⟩
  have h1 := H.out.drew.after hm ho H.out.ownS (H.out.run)
  have o1 : Only (fun k => G.own k ∨ k = D) w w1 := (own_drew w G D).trans (ho.mono (fun k _ hk => .inl (H.out.ownS k hk)))
  clear hm ho d0 c3 HS
  have H1 := mhid (And.intro h1 o1)
  have d0 := h1.dc.d0
  have d8 := h1.dc.d8
  have d9 := h1.dc.d9
  have c3 := h1.mach.mc.pc
  have fd := h1.dc.fd
  clear h1 o1
  have hpc : 0 ≤ m.pc ∧ m.pc < 4294967296 := ⟨H.out.mach.ok.pc0, H.out.mach.ok.pc1⟩
  replace c3 : w1.cell? ⟨M, 3, none⟩ = some (.int .u32 m.pc) := c3
  have u0 := uw (4 * b)
  have u1 := uw (m.pc + u32 (4 * b))
  have u2 : u32 (m.pc + u32 (4 * b)) = u32 (m.pc + 4 * b) := by unfold u32; omega
  go_wp2_with fail
  go_still_tail 16, (by kernel_rfl)
  change wpList _ _ _ _ _ w1.drew
  go_wp2_with fail
  go_returns
  exact ⟨rfl, (DoEnd.next H1.out.1.mach H1.out.1.d H.out.rD H1.out.2 (u32_bd _) (finM_run H.out.run)).drew⟩
end Go.Proofs.YtgdebchbdmogcaaGreatDoor
/- The walks of the machine's instructions: cmp, br, alu, turn, save, restore. -/
namespace Go.Proofs.YtgdebchbdmogcaaGreatDoor
open Go.RowKit
set_option linter.unusedVariables false
set_option linter.unusedSimpArgs false
theorem DoEnd.from {w w1 w' : World} {G : MG} {M D : Nat} {x : Ix} {a b : Int} {r : Mx} (h : DoEnd w1 G M D x a b r w') (hb : Below w.heap.size w w1) : DoEnd w G M D x a b r w' := by
  obtain ⟨G', m1, n1, h1, h2, h3, h4, h5, h6⟩ := h
  exact ⟨G', m1, n1, h1, h2, (Only.of_below hb).trans h3, fun k hk => h4 k (Nat.lt_of_lt_of_le hk hb.size), h5, h6⟩
/-- The machine at hand may be stepped on by what makes memory. -/
theorem own_below {w w' : World} {G : MG} {D : Nat} (h : Below w.heap.size w w') : Only (fun k => G.own k ∨ k = D) w w' := Only.of_below h
theorem opS16 {m : Mx} {x : Ix} {a b : Int} (h : x.op = 16) : opS m x a b = onM { m with p := { m.p with flags := flagsS a b } } := by unfold opS; rw [h]; rfl
set_option maxRecDepth 100000 in
set_option maxHeartbeats 2000000 in
theorem do_cmp (w : World) (G : MG) (M : Nat) (m : Mx) (D : Nat) (x : Ix) (a b n : Int) (h : DoIn w G M m D x a b n) (hop : x.op = 16) (hn : n = u32 (m.pc + 4)) :
    Calls Tryz.prog 65 #[.pointer (some ⟨D, 0, none⟩)] w fun e w' => e = .returned (.tuple #[]) ∧ DoEnd w G M D x a b (opS m x a b) w' := by
  rw [opS16 hop]
  have hd : Below w.heap.size w w.drew := (Below.refl _ _).drew
  have HF := mhid (fun w' => (show Calls Tryz.prog 100 #[.int .u32 a, .int .u32 b] w' fun e w2 => e = .returned (.int .u8 (flagsS a b)) ∧ Below w'.heap.size w' w2 from flags_any a b h.ha.1 h.ha.2 h.hb.1 h.hb.2 w'))
  have H := mhid h
  have HN := mhid hn
  have hfl := flagsS_bd a b
  have d0 := h.dc.d0
  have d7 := h.dc.d7
  have d8 := h.dc.d8
  have HS := mhid (show ∀ w', Below w.heap.size w w' → w'.cell? ⟨D, 0, none⟩ = some (.pointer (some ⟨M, 0, none⟩)) ∧ w'.cell? ⟨D, 7, none⟩ = some (.int .u32 a) ∧ w'.cell? ⟨D, 8, none⟩ = some (.int .u32 b) from fun w' hb => by
    have hc := h.keepb hb
    exact ⟨hc.dc.d0, hc.dc.d7, hc.dc.d8⟩)
  have HS2 := mhid (show ∀ W1 v, Below w.heap.size w W1 → (W1.setCell ⟨M, 8, none⟩ v).cell? ⟨D, 0, none⟩ = some (.pointer (some ⟨M, 0, none⟩)) ∧ (W1.setCell ⟨M, 8, none⟩ v).cell? ⟨D, 7, none⟩ = some (.int .u32 a) ∧ (W1.setCell ⟨M, 8, none⟩ v).cell? ⟨D, 8, none⟩ = some (.int .u32 b) from fun W1 v hb => by
    have hd2 := DAt.dc (G := G) (m := m) ((h.keepb hb).d.keep (onlyM W1 M 8 v) h.ne.1)
    exact ⟨hd2.d0, hd2.d7, hd2.d8⟩)
  clear h hn hop
  generalize hfq : flagsS a b = fl at *
  have HQ := mhid hfq
  clear hfq
  go_enter Tryz.func65, Tryz.ntmps65
  go_wp2_with fail
  go_region_held3 (fun w' => w'.cell? ⟨D, 0, none⟩ = some (.pointer (some ⟨M, 0, none⟩)) ∧ w'.cell? ⟨D, 7, none⟩ = some (.int .u32 a) ∧ w'.cell? ⟨D, 8, none⟩ = some (.int .u32 b)) (first | (with_reducible exact ⟨d0, d7, d8⟩) | (exact HS2.out _ _ hb1) | (refine HS.out _ ?_; go_grown; done))
    ((go_at_call 100; (with_reducible refine (HF.out _).mono ?_); rintro e W1 ⟨rfl, hb10⟩; have hb1 : Below w.heap.size w W1 := hd.trans (hb10.mono hd.size); have c8 := (H.out.keepb hb1).mach.mc.flags; have f8 := (H.out.keepb hb1).mach.mc.fz 8))
  go_wp2_with fail
  go_returns
  have h1 := H.out.keepb hb1
  refine ⟨rfl, h1.fin (own_below hb1) (h1.mach.setFlags hfl) (onlyM W1 M 8 _) (fun k e => e ▸ h1.mach.ownM) (fin_on h1.run rfl HN.out)⟩
theorem opS17 {m : Mx} {x : Ix} {a b : Int} (h : x.op = 17) : opS m x a b = if holdsS x.rd.toNat m.p.flags = true then { m with pc := u32 (m.pc + 4 * b) } else onM m := by unfold opS; rw [h]; rfl
set_option maxRecDepth 100000 in
set_option maxHeartbeats 2000000 in
theorem do_br (w : World) (G : MG) (M : Nat) (m : Mx) (D : Nat) (x : Ix) (a b n : Int) (h : DoIn w G M m D x a b n) (hop : x.op = 17) (hn : n = u32 (m.pc + 4)) :
    Calls Tryz.prog 66 #[.pointer (some ⟨D, 0, none⟩)] w fun e w' => e = .returned (.tuple #[]) ∧ DoEnd w G M D x a b (opS m x a b) w' := by
  rw [opS17 hop]
  have hd : Below w.heap.size w w.drew := (Below.refl _ _).drew
  have HF := mhid (fun w' => (show Calls Tryz.prog 101 #[.int .u8 x.rd, .int .u8 m.p.flags] w' fun e w2 => e = .returned (.bool (holdsS x.rd.toNat m.p.flags)) ∧ Below w'.heap.size w' w2 from holds_any x.rd h.fits.rd0 m.p.flags h.mach.ok.pb.2.2.2.1 h.mach.ok.pb.2.2.2.2 w'))
  have H := mhid h
  have HN := mhid hn
  have d0 := h.dc.d0
  have d2 := h.dc.d2
  have c8 := h.mach.mc.flags
  have HS := mhid (show ∀ w', Below w.heap.size w w' → w'.cell? ⟨D, 0, none⟩ = some (.pointer (some ⟨M, 0, none⟩)) ∧ w'.cell? ⟨D, 2, none⟩ = some (.int .u8 x.rd) ∧ w'.cell? ⟨M, 8, none⟩ = some (.int .u8 m.p.flags) from fun w' hb => by
    have hc := h.keepb hb
    exact ⟨hc.dc.d0, hc.dc.d2, hc.mach.mc.flags⟩)
  clear h hn hop
  generalize hhq : holdsS x.rd.toNat m.p.flags = hh at *
  clear hhq
  cases hh
  all_goals
    go_enter Tryz.func66, Tryz.ntmps66
    go_wp2_with fail
    go_region_held3 (fun w' => w'.cell? ⟨D, 0, none⟩ = some (.pointer (some ⟨M, 0, none⟩)) ∧ w'.cell? ⟨D, 2, none⟩ = some (.int .u8 x.rd) ∧ w'.cell? ⟨M, 8, none⟩ = some (.int .u8 m.p.flags)) (first | (with_reducible exact ⟨d0, d2, c8⟩) | (refine HS.out _ ?_; go_grown; done))
      ((go_at_call 101; (with_reducible refine (HF.out _).mono ?_); rintro e W1 ⟨rfl, hb10⟩; have hb1 : Below w.heap.size w W1 := hd.trans (hb10.mono hd.size)))
    have H1 := mhid (H.out.keepb hb1)
    clear hb10 d0 d2 c8 HS
  · go_wp2_with fail
    go_returns
    exact ⟨rfl, DoEnd.of H1.out.mach H1.out.d (own_below hb1) H1.out.hn (fin_on H1.out.run rfl HN.out)⟩
  · have hpc : 0 ≤ m.pc ∧ m.pc < 4294967296 := ⟨H.out.mach.ok.pc0, H.out.mach.ok.pc1⟩
    have hb := H.out.hb
    have u0 := uw (4 * b)
    have u1 := uw (m.pc + u32 (4 * b))
    have u2 : u32 (m.pc + u32 (4 * b)) = u32 (m.pc + 4 * b) := by unfold u32; omega
    have d0 := H1.out.dc.d0
    have d8 := H1.out.dc.d8
    have d9 := H1.out.dc.d9
    have c3 := H1.out.mach.mc.pc
    have fd := H1.out.dc.fd
    go_wp2_with fail
    go_still_tail 16, (by kernel_rfl)
    change wpList _ _ _ _ _ W1.drew
    go_wp2_with fail
    go_returns
    exact ⟨rfl, (DoEnd.next H1.out.mach H1.out.d H.out.rD (own_below hb1) (u32_bd _) (finM_run H.out.run)).drew⟩
theorem opSalu {m : Mx} {x : Ix} {a b : Int} (h : x.op ≤ 14) : opS m x a b = if doB (x.op - 1).toNat b = true then onM (setM m x.rd (doW (x.op - 1).toNat a b)) else haltM m 2 1 := by unfold opS; rw [if_pos h]
set_option maxRecDepth 100000 in
set_option maxHeartbeats 2000000 in
theorem do_alu (w : World) (G : MG) (M : Nat) (m : Mx) (D : Nat) (x : Ix) (a b n : Int) (h : DoIn w G M m D x a b n) (hop : x.op ≤ 14) (hn : n = u32 (m.pc + 4)) :
    Calls Tryz.prog 42 #[.pointer (some ⟨D, 0, none⟩)] w fun e w' => e = .returned (.tuple #[]) ∧ DoEnd w G M D x a b (opS m x a b) w' := by
  rw [opSalu hop]
  have hd : Below w.heap.size w w.drew := (Below.refl _ _).drew
  have ho0 := h.fits.op0
  have HF := mhid (fun w' => (show Calls Tryz.prog 87 #[.int .u8 (x.op - 1), .int .u32 a, .int .u32 b] w' fun e w2 => e = .returned (.tuple #[.int .u32 (doW (x.op - 1).toNat a b), .bool (doB (x.op - 1).toNat b)]) ∧ Below w'.heap.size w' w2 from do_any (x.op - 1) (by omega) (by omega) a b h.ha.1 h.ha.2 h.hb.1 h.hb.2 w'))
  have H := mhid h
  have HN := mhid hn
  have hdw := doW_bd (x.op - 1).toNat h.ha.1 h.ha.2 h.hb.2 (b := b)
  have u0 : IntKind.u8.wrap (x.op - 1) = x.op - 1 := by rw [IntKind.wrap_u8]; omega
  have d0 := h.dc.d0
  have d1 := h.dc.d1
  have d7 := h.dc.d7
  have d8 := h.dc.d8
  have HS := mhid (show ∀ w', Below w.heap.size w w' → w'.cell? ⟨D, 0, none⟩ = some (.pointer (some ⟨M, 0, none⟩)) ∧ w'.cell? ⟨D, 1, none⟩ = some (.int .u8 x.op) ∧ w'.cell? ⟨D, 7, none⟩ = some (.int .u32 a) ∧ w'.cell? ⟨D, 8, none⟩ = some (.int .u32 b) from fun w' hb => by
    have hc := h.keepb hb
    exact ⟨hc.dc.d0, hc.dc.d1, hc.dc.d7, hc.dc.d8⟩)
  clear h hn hop
  generalize hhq : doB (x.op - 1).toNat b = hh at *
  generalize hwq : doW (x.op - 1).toNat a b = dw at *
  clear hhq hwq
  cases hh
  all_goals
    go_enter Tryz.func42, Tryz.ntmps42
    go_wp2_with fail
    go_region_held3 (fun w' => w'.cell? ⟨D, 0, none⟩ = some (.pointer (some ⟨M, 0, none⟩)) ∧ w'.cell? ⟨D, 1, none⟩ = some (.int .u8 x.op) ∧ w'.cell? ⟨D, 7, none⟩ = some (.int .u32 a) ∧ w'.cell? ⟨D, 8, none⟩ = some (.int .u32 b)) (first | (with_reducible exact ⟨d0, d1, d7, d8⟩) | (refine HS.out _ ?_; go_grown; done))
      ((go_at_call 87; (with_reducible refine (HF.out _).mono ?_); rintro e W1 ⟨rfl, hb10⟩; have hb1 : Below w.heap.size w W1 := hd.trans (hb10.mono hd.size)))
    have H1 := mhid (H.out.keepb hb1)
    clear hb10 d0 d1 d7 d8 HS
  · have HH := mhid (mhalt_any W1 G M m H1.out.mach 2 1 (by omega) (by omega))
    have d0 := H1.out.dc.d0
    go_wp2_with fail
    refine HH.out.mono ?_
    rintro e w2 ⟨rfl, hm, ho⟩
    go_wp2_with fail
    go_returns
    exact ⟨rfl, H1.out.fin (own_below hb1) hm ho (fun k e => e ▸ H1.out.mach.ownM) (finM_halt _ _ _ _ (by omega))⟩
  · have HH := mhid (H1.out.drew.set ((own_below hb1).trans (own_drew W1 G D)) x.rd dw H.out.fits.rd0 H.out.fits.rd1 hdw (fin_on H1.out.run rfl HN.out))
    have d0 := H1.out.dc.d0
    have d2 := H1.out.dc.d2
    go_wp2_with fail
    go_still_tail 10, (by kernel_rfl)
    change wpList _ _ _ _ _ W1.drew
    go_wp2_with fail
    refine HH.out.mono ?_
    rintro e w2 ⟨rfl, he⟩
    go_wp2_with fail
    go_returns
    exact ⟨rfl, he⟩
set_option maxRecDepth 100000 in
set_option maxHeartbeats 2000000 in
theorem dturn_any (w : World) (hbr : Bru w) (G : MG) (M : Nat) (m : Mx) (D : Nat) (x : Ix) (a b n : Int) (h : DoIn w G M m D x a b n) (hn : n = u32 (m.pc + 4)) (to kind : Int) (ht : 0 ≤ to ∧ to < m.nw) (hk : 0 ≤ kind ∧ kind < 256) :
    Calls Tryz.prog 103 #[.pointer (some ⟨D, 0, none⟩), .int .i64 to, .int .u8 kind] w fun e w' => e = .returned (.tuple #[]) ∧ DoEnd w G M D x a b (turnM m x.rd a b to kind) w' := by
  have hd : Below w.heap.size w w.drew := (Below.refl _ _).drew
  have HF := mhid (fun w' (hb : Below w.heap.size w w') => invalid_any m.wim m.f.nw h.mach.ok.wim0 h.mach.ok.wim1 w' (hbr.keep hb))
  have H := mhid h
  have HN := mhid hn
  have hw32 := h.mach.ok.win.2
  have d0 := h.dc.d0
  have c0 := h.mach.mc.nw
  have c4 := h.mach.mc.wim
  have HS := mhid (show ∀ w', Below w.heap.size w w' → w'.cell? ⟨D, 0, none⟩ = some (.pointer (some ⟨M, 0, none⟩)) ∧ w'.cell? ⟨M, 0, none⟩ = some (.int .i64 m.f.nw) ∧ w'.cell? ⟨M, 4, none⟩ = some (.int .u32 m.wim) from fun w' hb => by
    have hc := h.keepb hb
    exact ⟨hc.dc.d0, hc.mach.mc.nw, hc.mach.mc.wim⟩)
  clear h hn hbr
  have HE := mhid (show turnM m x.rd a b to kind = if to = invV m.wim m.f.nw then winM m kind m.pc else onM (setM { m with p := { m.p with cwp := to } } x.rd (u32 (a + b))) from rfl)
  generalize invV m.wim m.f.nw = bad at *
  generalize invE m.wim m.f.nw = be at *
  by_cases hz : to = bad
  · have e1 : (to == bad) = true := by simpa using hz
    rw [if_pos hz] at HE
    clear hz
    go_enter Tryz.func103, Tryz.ntmps103
    go_wp2_with fail
    go_region_held3 (fun w' => w'.cell? ⟨D, 0, none⟩ = some (.pointer (some ⟨M, 0, none⟩)) ∧ w'.cell? ⟨M, 0, none⟩ = some (.int .i64 m.f.nw) ∧ w'.cell? ⟨M, 4, none⟩ = some (.int .u32 m.wim)) (first | (with_reducible exact ⟨d0, c0, c4⟩) | (refine HS.out _ ?_; go_grown; done))
      ((go_at_call 58; (with_reducible refine (HF.out _ hd).mono ?_); rintro e W1 ⟨rfl, hb10⟩; have hb1 : Below w.heap.size w W1 := hd.trans (hb10.mono hd.size)))

    have H1 := mhid (H.out.keepb hb1)
    clear hb10 d0 c0 c4 HS
    have HW := mhid (dwindow_any W1 G M m D x a b n H1.out kind m.pc hk ⟨H.out.mach.ok.pc0, H.out.mach.ok.pc1⟩)
    have d0 := H1.out.dc.d0
    have c3 := H1.out.mach.mc.pc
    go_wp2_with fail
    refine HW.out.mono ?_
    rintro e w2 ⟨rfl, he⟩
    have HE2 := mhid (he.from hb1)
    clear he
    go_wp2_with fail
    go_returns
    rw [HE.out]
    exact ⟨rfl, HE2.out⟩
  · have e1 : (to == bad) = false := by simpa using hz
    rw [if_neg hz] at HE
    clear hz
    go_enter Tryz.func103, Tryz.ntmps103
    go_wp2_with fail
    go_region_held3 (fun w' => w'.cell? ⟨D, 0, none⟩ = some (.pointer (some ⟨M, 0, none⟩)) ∧ w'.cell? ⟨M, 0, none⟩ = some (.int .i64 m.f.nw) ∧ w'.cell? ⟨M, 4, none⟩ = some (.int .u32 m.wim)) (first | (with_reducible exact ⟨d0, c0, c4⟩) | (refine HS.out _ ?_; go_grown; done))
      ((go_at_call 58; (with_reducible refine (HF.out _ hd).mono ?_); rintro e W1 ⟨rfl, hb10⟩; have hb1 : Below w.heap.size w W1 := hd.trans (hb10.mono hd.size)))

    have H1 := mhid (H.out.keepb hb1)
    clear hb10 d0 c0 c4 HS
    have u0 : IntKind.u8.wrap to = to := by rw [IntKind.wrap_u8]; omega
    have u1 := uw (a + b)
    have d0 := H1.out.dc.d0
    have c5 := H1.out.mach.mc.cwp
    have f5 := H1.out.mach.mc.fz 5
    have ha := H.out.ha
    have hb := H.out.hb
    have h2 := H1.out.after (H1.out.mach.setCwp ht) (onlyM W1 M 5 (.int .u8 to)) (fun k e => e ▸ H1.out.mach.ownM) H1.out.run
    have o2 : Only (fun k => G.own k ∨ k = D) w (W1.setCell ⟨M, 5, none⟩ (.int .u8 to)) := (own_below hb1).trans ((onlyM W1 M 5 _).mono (fun k _ e => .inl (e ▸ H1.out.mach.ownM)))
    have HI := mhid (And.intro h2 o2)
    clear h2 o2
    go_upto_region 4 with (fail)
    generalize W1.setCell ⟨M, 5, none⟩ (.int .u8 to) = W2 at *
    clear d0 c5 f5
    have HH := mhid (HI.out.1.drew.set (HI.out.2.trans (own_drew W2 G D)) x.rd (u32 (a + b)) H.out.fits.rd0 H.out.fits.rd1 (u32_bd _) (fin_on H1.out.run rfl HN.out))
    have d0 := HI.out.1.dc.d0
    have d2 := HI.out.1.dc.d2
    have d7 := HI.out.1.dc.d7
    have d8 := HI.out.1.dc.d8
    go_still_tail 18, (by kernel_rfl)
    change wpList _ _ _ _ _ W2.drew
    go_wp2_with fail
    refine HH.out.mono ?_
    rintro e w3 ⟨rfl, he⟩
    go_wp2_with fail
    go_returns
    rw [HE.out]
    exact ⟨rfl, he⟩
theorem opS20 {m : Mx} {x : Ix} {a b : Int} (h : x.op = 20) : opS m x a b = turnM m x.rd a b (stepV m.p.cwp (m.nw - 1) m.nw) 1 := by unfold opS; rw [h]; rfl
set_option maxRecDepth 100000 in
set_option maxHeartbeats 2000000 in
theorem do_save (w : World) (hbr : Bru w) (G : MG) (M : Nat) (m : Mx) (D : Nat) (x : Ix) (a b n : Int) (h : DoIn w G M m D x a b n) (hop : x.op = 20) (hn : n = u32 (m.pc + 4)) :
    Calls Tryz.prog 69 #[.pointer (some ⟨D, 0, none⟩)] w fun e w' => e = .returned (.tuple #[]) ∧ DoEnd w G M D x a b (opS m x a b) w' := by
  rw [opS20 hop]
  have hd : Below w.heap.size w w.drew := (Below.refl _ _).drew
  have HF := mhid (fun w' => ahead_any m.p.cwp m.f.nw w')
  have H := mhid h
  have HN := mhid hn
  have HBR := mhid hbr
  have HST := mhid (stepV_bd (x := m.p.cwp) (by' := m.nw - 1) (nw := m.nw) (by have := h.mach.ok.win.1; omega))
  have hw32 := h.mach.ok.win.2
  have hcw := h.mach.ok.cwp
  have u0 : IntKind.i64.wrap m.p.cwp = m.p.cwp := IntWalk.i64_in _ (by omega)
  have d0 := h.dc.d0
  have c0 := h.mach.mc.nw
  have c5 := h.mach.mc.cwp
  have HS := mhid (show ∀ w', Below w.heap.size w w' → w'.cell? ⟨D, 0, none⟩ = some (.pointer (some ⟨M, 0, none⟩)) ∧ w'.cell? ⟨M, 0, none⟩ = some (.int .i64 m.f.nw) ∧ w'.cell? ⟨M, 5, none⟩ = some (.int .u8 m.p.cwp) from fun w' hb => by
    have hc := h.keepb hb
    exact ⟨hc.dc.d0, hc.mach.mc.nw, hc.mach.mc.cwp⟩)
  clear h hn hbr hop
  go_enter Tryz.func69, Tryz.ntmps69
  go_wp2_with fail
  go_region_held3 (fun w' => w'.cell? ⟨D, 0, none⟩ = some (.pointer (some ⟨M, 0, none⟩)) ∧ w'.cell? ⟨M, 0, none⟩ = some (.int .i64 m.f.nw) ∧ w'.cell? ⟨M, 5, none⟩ = some (.int .u8 m.p.cwp)) (first | (with_reducible exact ⟨d0, c0, c5⟩) | (refine HS.out _ ?_; go_grown; done))
    ((go_at_call 102; (with_reducible refine (HF.out _).mono ?_); rintro e W1 ⟨rfl, hb10⟩; have hb1 : Below w.heap.size w W1 := hd.trans (hb10.mono hd.size)))
  have H1 := mhid (H.out.keepb hb1)
  have HT := mhid (dturn_any W1 (HBR.out.keep hb1) G M m D x a b n H1.out HN.out _ 1 HST.out (by omega))
  clear hb10 d0 c0 c5 HS
  go_wp2_with fail
  refine HT.out.mono ?_
  rintro e w2 ⟨rfl, he⟩
  have HE2 := mhid (he.from hb1)
  clear he
  go_wp2_with fail
  go_returns
  exact ⟨rfl, HE2.out⟩
theorem opS21 {m : Mx} {x : Ix} {a b : Int} (h : x.op = 21) : opS m x a b = turnM m x.rd a b (stepV m.p.cwp 1 m.nw) 2 := by unfold opS; rw [h]; rfl
set_option maxRecDepth 100000 in
set_option maxHeartbeats 2000000 in
theorem do_restore (w : World) (hbr : Bru w) (G : MG) (M : Nat) (m : Mx) (D : Nat) (x : Ix) (a b n : Int) (h : DoIn w G M m D x a b n) (hop : x.op = 21) (hn : n = u32 (m.pc + 4)) :
    Calls Tryz.prog 70 #[.pointer (some ⟨D, 0, none⟩)] w fun e w' => e = .returned (.tuple #[]) ∧ DoEnd w G M D x a b (opS m x a b) w' := by
  rw [opS21 hop]
  have hd : Below w.heap.size w w.drew := (Below.refl _ _).drew
  have HF := mhid (fun w' => pnext_any m.p.cwp m.f.nw w')
  have H := mhid h
  have HN := mhid hn
  have HBR := mhid hbr
  have HST := mhid (stepV_bd (x := m.p.cwp) (by' := 1) (nw := m.nw) (by have := h.mach.ok.win.1; omega))
  have hw32 := h.mach.ok.win.2
  have hcw := h.mach.ok.cwp
  have u0 : IntKind.i64.wrap m.p.cwp = m.p.cwp := IntWalk.i64_in _ (by omega)
  have d0 := h.dc.d0
  have c0 := h.mach.mc.nw
  have c5 := h.mach.mc.cwp
  have HS := mhid (show ∀ w', Below w.heap.size w w' → w'.cell? ⟨D, 0, none⟩ = some (.pointer (some ⟨M, 0, none⟩)) ∧ w'.cell? ⟨M, 0, none⟩ = some (.int .i64 m.f.nw) ∧ w'.cell? ⟨M, 5, none⟩ = some (.int .u8 m.p.cwp) from fun w' hb => by
    have hc := h.keepb hb
    exact ⟨hc.dc.d0, hc.mach.mc.nw, hc.mach.mc.cwp⟩)
  clear h hn hbr hop
  go_enter Tryz.func70, Tryz.ntmps70
  go_wp2_with fail
  go_region_held3 (fun w' => w'.cell? ⟨D, 0, none⟩ = some (.pointer (some ⟨M, 0, none⟩)) ∧ w'.cell? ⟨M, 0, none⟩ = some (.int .i64 m.f.nw) ∧ w'.cell? ⟨M, 5, none⟩ = some (.int .u8 m.p.cwp)) (first | (with_reducible exact ⟨d0, c0, c5⟩) | (refine HS.out _ ?_; go_grown; done))
    ((go_at_call 104; (with_reducible refine (HF.out _).mono ?_); rintro e W1 ⟨rfl, hb10⟩; have hb1 : Below w.heap.size w W1 := hd.trans (hb10.mono hd.size)))
  have H1 := mhid (H.out.keepb hb1)
  have HT := mhid (dturn_any W1 (HBR.out.keep hb1) G M m D x a b n H1.out HN.out _ 2 HST.out (by omega))
  clear hb10 d0 c0 c5 HS
  go_wp2_with fail
  refine HT.out.mono ?_
  rintro e w2 ⟨rfl, he⟩
  have HE2 := mhid (he.from hb1)
  clear he
  go_wp2_with fail
  go_returns
  exact ⟨rfl, HE2.out⟩
end Go.Proofs.YtgdebchbdmogcaaGreatDoor
/- The walks of the machine's instructions: ld, ldb, st, stb, rdpsr, wrpsr, wrwim. -/
namespace Go.Proofs.YtgdebchbdmogcaaGreatDoor
open Go.RowKit
set_option linter.unusedVariables false
set_option linter.unusedSimpArgs false
set_option maxRecDepth 100000 in
set_option maxHeartbeats 2000000 in
theorem dload_any (w : World) (G : MG) (M : Nat) (m : Mx) (D : Nat) (x : Ix) (a b n : Int) (h : DoIn w G M m D x a b n) (hn : n = u32 (m.pc + 4)) (many : Int) :
    Calls Tryz.prog 105 #[.pointer (some ⟨D, 0, none⟩), .int .i64 many] w fun e w' => e = .returned (.tuple #[]) ∧ DoEnd w G M D x a b (loadM m x.rd (u32 (a + b)) many) w' := by
  have H := mhid h
  have HN := mhid hn
  have ha := h.ha
  have hb := h.hb
  have hbd := u32_bd (a + b)
  have u1 := uw (a + b)
  have hlv := loadV_bd h.mach.ok.bytes (u32 (a + b)) many
  have HL := mhid (fun q => (load_any (w.drewN q) G.mB G.gB m.mem ((h.keepb ((Only.refl (fun _ => False) w).drewN q |>.below (Nat.le_refl _) (fun _ _ => id))).mach.mem) (u32 (a + b)) many hbd.1 hbd.2).mono fun e w' he => (show e = .returned (.tuple #[.int .u32 (loadV m.mem (u32 (a + b)) many), .int .i64 (spanE m.mem.length (u32 (a + b)) 1 many)]) ∧ w' = w.drewN q from ⟨he.1, he.2.symm⟩))
  have HE := mhid (show loadM m x.rd (u32 (a + b)) many = if spanE m.mem.length (u32 (a + b)) 1 many = 0 then onM (setM m x.rd (loadV m.mem (u32 (a + b)) many)) else haltM m 3 0 from rfl)
  have d0 := h.dc.d0
  have d7 := h.dc.d7
  have d8 := h.dc.d8
  have c2 := h.mach.mc.mem
  clear h hn
  generalize u32 (a + b) = at' at *
  generalize loadV m.mem at' many = lv at *
  generalize spanE m.mem.length at' 1 many = er at *
  go_enter Tryz.func105, Tryz.ntmps105
  go_wp2_with fail
  go_quiet ((go_at_call 61; exact Calls.quiet_of_same (HL.out _)))
  have hb1 : Below w.heap.size w (w.drewN nq) := (Only.refl (fun _ => False) w).drewN nq |>.below (Nat.le_refl _) (fun _ _ => id)
  have H1 := mhid (H.out.keepb hb1)
  clear d0 d7 d8 c2 HL
  generalize w.drewN nq = W1 at *
  by_cases hz : er = 0
  · rw [if_pos hz] at HE
    subst hz
    have HY := mhid (dsure_no W1 G M m D x a b n H1.out)
    have HH := mhid (H1.out.drew.set ((own_below hb1).trans (own_drew W1 G D)) x.rd lv H.out.fits.rd0 H.out.fits.rd1 hlv (fin_on H1.out.run rfl HN.out))
    have d0 := H1.out.dc.d0
    have d2 := H1.out.dc.d2
    go_wp2_with fail
    refine HY.out.mono ?_
    rintro e w2 ⟨rfl, rfl⟩
    go_wp2_with fail
    go_still_tail 10, (by kernel_rfl)
    change wpList _ _ _ _ _ W1.drew
    go_wp2_with fail
    refine HH.out.mono ?_
    rintro e w2 ⟨rfl, he⟩
    go_wp2_with fail
    go_returns
    rw [HE.out]
    exact ⟨rfl, he⟩
  · rw [if_neg hz] at HE
    have HY := mhid (dsure_yes W1 G M m D x a b n H1.out er hz)
    clear hz
    go_wp2_with fail
    refine HY.out.mono ?_
    rintro e w2 ⟨rfl, hm, ho⟩
    go_wp2_with fail
    go_returns
    rw [HE.out]
    exact ⟨rfl, H1.out.fin (own_below hb1) hm ho (fun k e => e ▸ H1.out.mach.ownM) (finM_halt _ _ _ _ (by omega))⟩
set_option maxRecDepth 100000 in
set_option maxHeartbeats 4000000 in
theorem dstore_any (w : World) (G : MG) (M : Nat) (m : Mx) (D : Nat) (x : Ix) (a b n : Int) (h : DoIn w G M m D x a b n) (hn : n = u32 (m.pc + 4)) (many : Int) :
    Calls Tryz.prog 106 #[.pointer (some ⟨D, 0, none⟩), .int .i64 many] w fun e w' => e = .returned (.tuple #[]) ∧ DoEnd w G M D x a b (storeM m x.rd (u32 (a + b)) many) w' := by
  have hd : Below w.heap.size w w.drew := (Below.refl _ _).drew
  have H := mhid h
  have HN := mhid hn
  have ha := h.ha
  have hb := h.hb
  have hbd := u32_bd (a + b)
  have u1 := uw (a + b)
  have hgm := getM_bd h.mach.ok x.rd
  have HG := mhid (fun w' (hb : Below w.heap.size w w') => mget_any w' G M m (h.keepb hb).mach x.rd h.fits.rd0 h.fits.rd1)
  have HT := mhid (show ∀ w', Below w.heap.size w w' → Calls Tryz.prog 48 #[.pointer (some ⟨G.mB, 0, none⟩), .int .u32 (u32 (a + b)), .int .i64 many, .int .u32 (getM m x.rd)] w' fun e w2 => e = .returned (.int .i64 (spanE m.mem.length (u32 (a + b)) 1 many)) ∧ MemAt w2 G.mB G.gB (storeV m.mem (u32 (a + b)) many (getM m x.rd)) ∧ Only (fun k => k = G.gB) w' w2 from fun w' hb => (store_any w' G.mB G.gB m.mem (h.keepb hb).mach.mem (u32 (a + b)) many hbd.1 hbd.2 (getM m x.rd) hgm.1 hgm.2).mono fun e w2 he => ⟨he.1, he.2.1, he.2.2.1⟩)
  have hsv := storeV_ok h.mach.ok.bytes (u32 (a + b)) many (getM m x.rd)
  have HI := mhid (show ∀ W1 W2, Below w.heap.size w W1 → MemAt W2 G.mB G.gB (storeV m.mem (u32 (a + b)) many (getM m x.rd)) → Only (fun k => k = G.gB) W1 W2 → DoIn W2 G M { m with mem := storeV m.mem (u32 (a + b)) many (getM m x.rd) } D x a b n from fun W1 W2 hb1 hm ho =>
    (h.keepb hb1).after ((h.keepb hb1).mach.mem' ho hm (memM_ok h.mach.ok hsv.1 hsv.2)) ho (fun k e => e ▸ h.mach.owng) h.run)
  have HY := mhid (show ∀ W1 W2, Below w.heap.size w W1 → MemAt W2 G.mB G.gB (storeV m.mem (u32 (a + b)) many (getM m x.rd)) → Only (fun k => k = G.gB) W1 W2 → Calls Tryz.prog 108 #[.pointer (some ⟨D, 0, none⟩), .int .i64 (spanE m.mem.length (u32 (a + b)) 1 many)] W2 fun e w' => e = .returned (.bool (spanE m.mem.length (u32 (a + b)) 1 many == 0)) ∧ DoEnd w G M D x a b (storeM m x.rd (u32 (a + b)) many) w' ∧ (w'.cell? ⟨D, 0, none⟩ = some (.pointer (some ⟨M, 0, none⟩)) ∧ w'.cell? ⟨D, 2, none⟩ = some (.int .u8 x.rd) ∧ w'.cell? ⟨D, 7, none⟩ = some (.int .u32 a) ∧ w'.cell? ⟨D, 8, none⟩ = some (.int .u32 b) ∧ w'.cell? ⟨M, 2, none⟩ = some (.pointer (some ⟨G.mB, 0, none⟩))) from fun W1 W2 hb1 hm ho => by
    have hi := HI.out W1 W2 hb1 hm ho
    have o2 : Only (fun k => G.own k ∨ k = D) w W2 := (own_below hb1).trans (ho.mono (fun k _ e => .inl (e ▸ h.mach.owng)))
    by_cases hz : spanE m.mem.length (u32 (a + b)) 1 many = 0
    · rw [hz]
      refine (dsure_no W2 G M _ D x a b n hi).mono ?_
      rintro e w' ⟨rfl, rfl⟩
      refine ⟨rfl, DoEnd.of hi.mach hi.d o2 hi.hn ?_, hi.dc.d0, hi.dc.d2, hi.dc.d7, hi.dc.d8, hi.mach.mc.mem⟩
      unfold storeM
      rw [if_pos hz]
      exact fin_on h.run rfl hn
    · refine (dsure_yes W2 G M _ D x a b n hi _ hz).mono ?_
      rintro e w' ⟨rfl, hm3, ho3⟩
      have hdc := DAt.dc (G := G) (m := m) (hi.d.keep ho3 hi.ne.1)
      refine ⟨by rw [beq_false_of_ne hz], hi.fin o2 hm3 ho3 (fun k e => e ▸ h.mach.ownM) ?_, hdc.d0, hdc.d2, hdc.d7, hdc.d8, hm3.mc.mem⟩
      rw [finM_halt _ _ _ _ (by omega)]
      unfold storeM storeV
      rw [if_neg hz, if_neg hz])
  have d0 := h.dc.d0
  have d2 := h.dc.d2
  have d7 := h.dc.d7
  have d8 := h.dc.d8
  have c2 := h.mach.mc.mem
  have HS := mhid (show ∀ w', Below w.heap.size w w' → w'.cell? ⟨D, 0, none⟩ = some (.pointer (some ⟨M, 0, none⟩)) ∧ w'.cell? ⟨D, 2, none⟩ = some (.int .u8 x.rd) ∧ w'.cell? ⟨D, 7, none⟩ = some (.int .u32 a) ∧ w'.cell? ⟨D, 8, none⟩ = some (.int .u32 b) ∧ w'.cell? ⟨M, 2, none⟩ = some (.pointer (some ⟨G.mB, 0, none⟩)) from fun w' hb => by
    have hc := h.keepb hb
    exact ⟨hc.dc.d0, hc.dc.d2, hc.dc.d7, hc.dc.d8, hc.mach.mc.mem⟩)
  have HS2 := mhid (show ∀ W1 w', Below w.heap.size w W1 → MemAt w' G.mB G.gB (storeV m.mem (u32 (a + b)) many (getM m x.rd)) → Only (fun k => k = G.gB) W1 w' → w'.cell? ⟨D, 0, none⟩ = some (.pointer (some ⟨M, 0, none⟩)) ∧ w'.cell? ⟨D, 2, none⟩ = some (.int .u8 x.rd) ∧ w'.cell? ⟨D, 7, none⟩ = some (.int .u32 a) ∧ w'.cell? ⟨D, 8, none⟩ = some (.int .u32 b) ∧ w'.cell? ⟨M, 2, none⟩ = some (.pointer (some ⟨G.mB, 0, none⟩)) from fun W1 w' hb1 hm ho => by
    have hi := HI.out W1 w' hb1 hm ho
    exact ⟨hi.dc.d0, hi.dc.d2, hi.dc.d7, hi.dc.d8, hi.mach.mc.mem⟩)
  have hle1 : True := trivial
  clear h hn hle1
  generalize u32 (a + b) = at' at *
  generalize getM m x.rd = gm at *
  generalize storeV m.mem at' many gm = sv at *
  generalize storeM m x.rd at' many = sm at *
  generalize spanE m.mem.length at' 1 many = er at *
  go_enter Tryz.func106, Tryz.ntmps106
  go_wp2_with fail
  go_region_held3 (fun w' => w'.cell? ⟨D, 0, none⟩ = some (.pointer (some ⟨M, 0, none⟩)) ∧ w'.cell? ⟨D, 2, none⟩ = some (.int .u8 x.rd) ∧ w'.cell? ⟨D, 7, none⟩ = some (.int .u32 a) ∧ w'.cell? ⟨D, 8, none⟩ = some (.int .u32 b) ∧ w'.cell? ⟨M, 2, none⟩ = some (.pointer (some ⟨G.mB, 0, none⟩))) (first | (with_reducible exact ⟨d0, d2, d7, d8, c2⟩) | (exact HZS.out) | (exact HS2.out _ _ hb1.out HM2.out.1 HM2.out.2) | (exact HS.out _ hb1.out) | (refine HS.out _ ?_; go_grown; done))
    (first | (go_at_call 63; (with_reducible refine (HG.out _ hd).mono ?_); rintro e W1 ⟨rfl, q, rfl⟩; have hb1 : Below w.heap.size w (w.drew.drewN q) := hd.trans ((Only.refl (fun _ => False) w.drew).drewN q |>.below hd.size (fun _ _ => id)); have hb1 := mhid hb1; generalize w.drew.drewN q = W1 at *) | (go_at_call 48; (with_reducible refine (HT.out _ hb1.out).mono ?_); rintro e W2 ⟨rfl, hmm, hoo⟩; have HM2 := mhid (And.intro hmm hoo); clear hmm hoo) | (go_at_call 108; (with_reducible refine (HY.out _ _ hb1.out HM2.out.1 HM2.out.2).mono ?_); rintro e W3 ⟨rfl, HZ, HZS⟩; have HZ := mhid HZ; have HZS := mhid HZS))
  go_wp2_with fail
  go_returns
  exact ⟨rfl, HZ.out⟩
end Go.Proofs.YtgdebchbdmogcaaGreatDoor
/- The walks of the machine's instructions: ld, ldb, st, stb, rdpsr, wrwim, trapped, halted, fault. -/
namespace Go.Proofs.YtgdebchbdmogcaaGreatDoor
open Go.RowKit
set_option linter.unusedVariables false
set_option linter.unusedSimpArgs false
theorem opS22 {m : Mx} {x : Ix} {a b : Int} (h : x.op = 22) : opS m x a b = loadM m x.rd (u32 (a + b)) 4 := by unfold opS; rw [h]; rfl
set_option maxRecDepth 100000 in
set_option maxHeartbeats 2000000 in
theorem do_ld (w : World) (G : MG) (M : Nat) (m : Mx) (D : Nat) (x : Ix) (a b n : Int) (h : DoIn w G M m D x a b n) (hop : x.op = 22) (hn : n = u32 (m.pc + 4)) :
    Calls Tryz.prog 71 #[.pointer (some ⟨D, 0, none⟩)] w fun e w' => e = .returned (.tuple #[]) ∧ DoEnd w G M D x a b (opS m x a b) w' := by
  rw [opS22 hop]
  have HL := mhid (dload_any w G M m D x a b n h hn 4)
  clear h hn hop
  go_enter Tryz.func71, Tryz.ntmps71
  go_wp2_with fail
  refine HL.out.mono ?_
  rintro e w' ⟨rfl, he⟩
  go_wp2_with fail
  go_returns
  exact ⟨rfl, he⟩
theorem opS23 {m : Mx} {x : Ix} {a b : Int} (h : x.op = 23) : opS m x a b = storeM m x.rd (u32 (a + b)) 4 := by unfold opS; rw [h]; rfl
set_option maxRecDepth 100000 in
set_option maxHeartbeats 2000000 in
theorem do_st (w : World) (G : MG) (M : Nat) (m : Mx) (D : Nat) (x : Ix) (a b n : Int) (h : DoIn w G M m D x a b n) (hop : x.op = 23) (hn : n = u32 (m.pc + 4)) :
    Calls Tryz.prog 72 #[.pointer (some ⟨D, 0, none⟩)] w fun e w' => e = .returned (.tuple #[]) ∧ DoEnd w G M D x a b (opS m x a b) w' := by
  rw [opS23 hop]
  have HL := mhid (dstore_any w G M m D x a b n h hn 4)
  clear h hn hop
  go_enter Tryz.func72, Tryz.ntmps72
  go_wp2_with fail
  refine HL.out.mono ?_
  rintro e w' ⟨rfl, he⟩
  go_wp2_with fail
  go_returns
  exact ⟨rfl, he⟩
theorem opS24 {m : Mx} {x : Ix} {a b : Int} (h : x.op = 24) : opS m x a b = loadM m x.rd (u32 (a + b)) 1 := by unfold opS; rw [h]; rfl
set_option maxRecDepth 100000 in
set_option maxHeartbeats 2000000 in
theorem do_ldb (w : World) (G : MG) (M : Nat) (m : Mx) (D : Nat) (x : Ix) (a b n : Int) (h : DoIn w G M m D x a b n) (hop : x.op = 24) (hn : n = u32 (m.pc + 4)) :
    Calls Tryz.prog 73 #[.pointer (some ⟨D, 0, none⟩)] w fun e w' => e = .returned (.tuple #[]) ∧ DoEnd w G M D x a b (opS m x a b) w' := by
  rw [opS24 hop]
  have HL := mhid (dload_any w G M m D x a b n h hn 1)
  clear h hn hop
  go_enter Tryz.func73, Tryz.ntmps73
  go_wp2_with fail
  refine HL.out.mono ?_
  rintro e w' ⟨rfl, he⟩
  go_wp2_with fail
  go_returns
  exact ⟨rfl, he⟩
theorem opS25 {m : Mx} {x : Ix} {a b : Int} (h : x.op = 25) : opS m x a b = storeM m x.rd (u32 (a + b)) 1 := by unfold opS; rw [h]; rfl
set_option maxRecDepth 100000 in
set_option maxHeartbeats 2000000 in
theorem do_stb (w : World) (G : MG) (M : Nat) (m : Mx) (D : Nat) (x : Ix) (a b n : Int) (h : DoIn w G M m D x a b n) (hop : x.op = 25) (hn : n = u32 (m.pc + 4)) :
    Calls Tryz.prog 74 #[.pointer (some ⟨D, 0, none⟩)] w fun e w' => e = .returned (.tuple #[]) ∧ DoEnd w G M D x a b (opS m x a b) w' := by
  rw [opS25 hop]
  have HL := mhid (dstore_any w G M m D x a b n h hn 1)
  clear h hn hop
  go_enter Tryz.func74, Tryz.ntmps74
  go_wp2_with fail
  refine HL.out.mono ?_
  rintro e w' ⟨rfl, he⟩
  go_wp2_with fail
  go_returns
  exact ⟨rfl, he⟩
theorem opS26 {m : Mx} {x : Ix} {a b : Int} (h : x.op = 26) : opS m x a b = onM (setM m x.rd (packS m.p m.nw)) := by unfold opS; rw [h]; rfl
set_option maxRecDepth 100000 in
set_option maxHeartbeats 2000000 in
theorem do_rdpsr (w : World) (G : MG) (M : Nat) (m : Mx) (D : Nat) (x : Ix) (a b n : Int) (h : DoIn w G M m D x a b n) (hop : x.op = 26) (hn : n = u32 (m.pc + 4)) :
    Calls Tryz.prog 75 #[.pointer (some ⟨D, 0, none⟩)] w fun e w' => e = .returned (.tuple #[]) ∧ DoEnd w G M D x a b (opS m x a b) w' := by
  rw [opS26 hop]
  have hd : Below w.heap.size w w.drew := (Below.refl _ _).drew
  have HF := mhid (fun w' => pack_any m.p h.mach.ok.pb m.f.nw w')
  have HB := mhid (packS_bd (nw := m.nw) h.mach.ok.pb)
  have HQ := mhid (show packS m.p m.f.nw = packS m.p m.nw from rfl)
  have H := mhid h
  have HN := mhid hn
  have d0 := h.dc.d0
  have c0 := h.mach.mc.nw
  have c5 := h.mach.mc.cwp
  have c6 := h.mach.mc.pil
  have c7 := h.mach.mc.bank
  have c8 := h.mach.mc.flags
  have HS := mhid (show ∀ w', Below w.heap.size w w' → w'.cell? ⟨D, 0, none⟩ = some (.pointer (some ⟨M, 0, none⟩)) ∧ w'.cell? ⟨M, 0, none⟩ = some (.int .i64 m.f.nw) ∧ w'.cell? ⟨M, 5, none⟩ = some (.int .u8 m.p.cwp) ∧ w'.cell? ⟨M, 6, none⟩ = some (.int .u8 m.p.pil) ∧ w'.cell? ⟨M, 7, none⟩ = some (.int .u8 m.p.bank) ∧ w'.cell? ⟨M, 8, none⟩ = some (.int .u8 m.p.flags) from fun w' hb => by
    have hc := h.keepb hb
    exact ⟨hc.dc.d0, hc.mach.mc.nw, hc.mach.mc.cwp, hc.mach.mc.pil, hc.mach.mc.bank, hc.mach.mc.flags⟩)
  clear h hn hop
  go_enter Tryz.func75, Tryz.ntmps75
  go_wp2_with fail
  go_region_held3 (fun w' => w'.cell? ⟨D, 0, none⟩ = some (.pointer (some ⟨M, 0, none⟩)) ∧ w'.cell? ⟨M, 0, none⟩ = some (.int .i64 m.f.nw) ∧ w'.cell? ⟨M, 5, none⟩ = some (.int .u8 m.p.cwp) ∧ w'.cell? ⟨M, 6, none⟩ = some (.int .u8 m.p.pil) ∧ w'.cell? ⟨M, 7, none⟩ = some (.int .u8 m.p.bank) ∧ w'.cell? ⟨M, 8, none⟩ = some (.int .u8 m.p.flags)) (first | (with_reducible exact ⟨d0, c0, c5, c6, c7, c8⟩) | (refine HS.out _ ?_; go_grown; done))
    ((go_at_call 57; (with_reducible refine (HF.out _).mono ?_); rintro e W1 ⟨rfl, hb10⟩; have hb1 : Below w.heap.size w W1 := hd.trans (hb10.mono hd.size)))
  have H1 := mhid (H.out.keepb hb1)
  clear hb10 d0 c0 c5 c6 c7 c8 HS
  rw [HQ.out]
  have HH := mhid (H1.out.drew.set ((own_below hb1).trans (own_drew W1 G D)) x.rd (packS m.p m.nw) H.out.fits.rd0 H.out.fits.rd1 HB.out (fin_on H1.out.run rfl HN.out))
  have d0 := H1.out.dc.d0
  have d2 := H1.out.dc.d2
  go_wp2_with fail
  go_still_tail 10, (by kernel_rfl)
  change wpList _ _ _ _ _ W1.drew
  go_wp2_with fail
  refine HH.out.mono ?_
  rintro e w2 ⟨rfl, he⟩
  go_wp2_with fail
  go_returns
  exact ⟨rfl, he⟩
theorem opS29 {m : Mx} {x : Ix} {a b : Int} (h : x.op = 29) : opS m x a b = if invE (u32 (a + b)) m.nw = 0 then onM { m with wim := u32 (a + b) } else haltM m 3 0 := by unfold opS; rw [h]; rfl
set_option maxRecDepth 100000 in
set_option maxHeartbeats 2000000 in
theorem do_wrwim (w : World) (hbr : Bru w) (G : MG) (M : Nat) (m : Mx) (D : Nat) (x : Ix) (a b n : Int) (h : DoIn w G M m D x a b n) (hop : x.op = 29) (hn : n = u32 (m.pc + 4)) :
    Calls Tryz.prog 78 #[.pointer (some ⟨D, 0, none⟩)] w fun e w' => e = .returned (.tuple #[]) ∧ DoEnd w G M D x a b (opS m x a b) w' := by
  rw [opS29 hop]
  have hd : Below w.heap.size w w.drew := (Below.refl _ _).drew
  have hbd := u32_bd (a + b)
  have HF := mhid (show ∀ w', Below w.heap.size w w' → Calls Tryz.prog 58 #[.int .u32 (u32 (a + b)), .int .i64 m.f.nw] w' fun e w2 => e = .returned (.tuple #[.int .i64 (invV (u32 (a + b)) m.nw), .int .i64 (invE (u32 (a + b)) m.nw)]) ∧ Below w'.heap.size w' w2 from fun w' hb => invalid_any (u32 (a + b)) m.f.nw hbd.1 hbd.2 w' (hbr.keep hb))
  have H := mhid h
  have HN := mhid hn
  have ha := h.ha
  have hb := h.hb
  have HU := mhid (uw (a + b))
  have u1 := uw (a + b)
  have d0 := h.dc.d0
  have d7 := h.dc.d7
  have d8 := h.dc.d8
  have c0 := h.mach.mc.nw
  have HS := mhid (show ∀ w', Below w.heap.size w w' → w'.cell? ⟨D, 0, none⟩ = some (.pointer (some ⟨M, 0, none⟩)) ∧ w'.cell? ⟨D, 7, none⟩ = some (.int .u32 a) ∧ w'.cell? ⟨D, 8, none⟩ = some (.int .u32 b) ∧ w'.cell? ⟨M, 0, none⟩ = some (.int .i64 m.f.nw) from fun w' hb => by
    have hc := h.keepb hb
    exact ⟨hc.dc.d0, hc.dc.d7, hc.dc.d8, hc.mach.mc.nw⟩)
  clear h hn hop hbr
  generalize hat : u32 (a + b) = at' at *
  have HAT := mhid hat
  clear hat
  generalize invV at' m.nw = iv at *
  generalize invE at' m.nw = er at *
  go_enter Tryz.func78, Tryz.ntmps78
  go_wp2_with fail
  go_region_held3 (fun w' => w'.cell? ⟨D, 0, none⟩ = some (.pointer (some ⟨M, 0, none⟩)) ∧ w'.cell? ⟨D, 7, none⟩ = some (.int .u32 a) ∧ w'.cell? ⟨D, 8, none⟩ = some (.int .u32 b) ∧ w'.cell? ⟨M, 0, none⟩ = some (.int .i64 m.f.nw)) (first | (with_reducible exact ⟨d0, d7, d8, c0⟩) | (refine HS.out _ ?_; go_grown; done))
    ((go_at_call 58; (with_reducible refine (HF.out _ hd).mono ?_); rintro e W1 ⟨rfl, hb10⟩; have hb1 : Below w.heap.size w W1 := hd.trans (hb10.mono hd.size)))
  have H1 := mhid (H.out.keepb hb1)
  clear hb10 d0 d7 d8 c0 HS
  by_cases hz : er = 0
  · subst hz
    have HY := mhid (dsure_no W1 G M m D x a b n H1.out)
    have d0 := H1.out.dc.d0
    have d7 := H1.out.dc.d7
    have d8 := H1.out.dc.d8
    have c4 := H1.out.mach.mc.wim
    have f4 := H1.out.mach.mc.fz 4
    go_wp2_with fail
    refine HY.out.mono ?_
    rintro e w2 ⟨rfl, rfl⟩
    go_wp2_with fail
    go_still_tail 15, (by kernel_rfl)
    change wpList _ _ _ _ _ W1.drew
    go_wp2_with fail
    go_returns
    have h2 := H1.out.drew
    try rw [if_pos rfl]
    exact ⟨rfl, h2.fin ((own_below hb1).trans (own_drew W1 G D)) (h2.mach.setWim hbd) (onlyM W1.drew M 4 _) (fun k e => e ▸ H1.out.mach.ownM) (fin_on H1.out.run rfl HN.out)⟩
  · have HZ := mhid hz
    have HY := mhid (dsure_yes W1 G M m D x a b n H1.out er hz)
    clear hz
    go_wp2_with fail
    refine HY.out.mono ?_
    rintro e w2 ⟨rfl, hm, ho⟩
    go_wp2_with fail
    go_returns
    try rw [if_neg HZ.out]
    exact ⟨rfl, H1.out.fin (own_below hb1) hm ho (fun k e => e ▸ H1.out.mach.ownM) (finM_halt _ _ _ _ (by omega))⟩
theorem opS33 {m : Mx} {x : Ix} {a b : Int} (h : x.op = 33) : opS m x a b = winM m x.imm (u32 (m.pc + 4)) := by unfold opS; rw [h]; rfl
set_option maxRecDepth 100000 in
set_option maxHeartbeats 2000000 in
theorem do_trapped (w : World) (G : MG) (M : Nat) (m : Mx) (D : Nat) (x : Ix) (a b n : Int) (h : DoIn w G M m D x a b n) (hop : x.op = 33) (hn : n = u32 (m.pc + 4)) :
    Calls Tryz.prog 82 #[.pointer (some ⟨D, 0, none⟩)] w fun e w' => e = .returned (.tuple #[]) ∧ DoEnd w G M D x a b (opS m x a b) w' := by
  rw [opS33 hop]
  have HW := mhid (dwindow_any w.drew G M m D x a b n h.drew x.imm (u32 (m.pc + 4)) (by have := h.fits.trap hop; omega) (u32_bd _))
  have him := h.fits.trap hop
  have hpc : 0 ≤ m.pc ∧ m.pc < 4294967296 := ⟨h.mach.ok.pc0, h.mach.ok.pc1⟩
  have u0 : IntKind.u8.wrap x.imm = x.imm := by rw [IntKind.wrap_u8]; omega
  have u1 := uw (m.pc + 4)
  have hd : Below w.heap.size w w.drew := (Below.refl _ _).drew
  have d0 := h.dc.d0
  have d6 := h.dc.d6
  have c3 := h.mach.mc.pc
  clear h hn hop
  go_enter Tryz.func82, Tryz.ntmps82
  go_wp2_with fail
  go_still_tail 15, (by kernel_rfl)
  change wpList _ _ _ _ _ w.drew
  go_wp2_with fail
  refine HW.out.mono ?_
  rintro e w' ⟨rfl, he⟩
  have HE := mhid (he.from hd)
  clear he
  go_wp2_with fail
  go_returns
  exact ⟨rfl, HE.out⟩
theorem opS36 {m : Mx} {x : Ix} {a b : Int} (h : x.op = 36) : opS m x a b = haltM m 1 a := by unfold opS; rw [h]; rfl
set_option maxRecDepth 100000 in
set_option maxHeartbeats 2000000 in
theorem do_halted (w : World) (G : MG) (M : Nat) (m : Mx) (D : Nat) (x : Ix) (a b n : Int) (h : DoIn w G M m D x a b n) (hop : x.op = 36) (hn : n = u32 (m.pc + 4)) :
    Calls Tryz.prog 85 #[.pointer (some ⟨D, 0, none⟩)] w fun e w' => e = .returned (.tuple #[]) ∧ DoEnd w G M D x a b (opS m x a b) w' := by
  rw [opS36 hop]
  have HW := mhid (mhalt_any w.drew G M m h.drew.mach 1 a (by omega) h.ha)
  have H := mhid h
  have d0 := h.dc.d0
  have d7 := h.dc.d7
  clear h hn hop
  go_enter Tryz.func85, Tryz.ntmps85
  go_wp2_with fail
  go_still_tail 8, (by kernel_rfl)
  change wpList _ _ _ _ _ w.drew
  go_wp2_with fail
  refine HW.out.mono ?_
  rintro e w' ⟨rfl, hm, ho⟩
  go_wp2_with fail
  go_returns
  exact ⟨rfl, H.out.drew.fin (own_drew w G D) hm ho (fun k e => e ▸ H.out.mach.ownM) (finM_halt _ _ _ _ (by omega))⟩
theorem opS37 {m : Mx} {x : Ix} {a b : Int} (h : x.op = 37) : opS m x a b = haltM m 2 b := by unfold opS; rw [h]; rfl
set_option maxRecDepth 100000 in
set_option maxHeartbeats 2000000 in
theorem do_fault (w : World) (G : MG) (M : Nat) (m : Mx) (D : Nat) (x : Ix) (a b n : Int) (h : DoIn w G M m D x a b n) (hop : x.op = 37) (hn : n = u32 (m.pc + 4)) :
    Calls Tryz.prog 86 #[.pointer (some ⟨D, 0, none⟩)] w fun e w' => e = .returned (.tuple #[]) ∧ DoEnd w G M D x a b (opS m x a b) w' := by
  rw [opS37 hop]
  have HW := mhid (mhalt_any w.drew G M m h.drew.mach 2 b (by omega) h.hb)
  have H := mhid h
  have d0 := h.dc.d0
  have d8 := h.dc.d8
  clear h hn hop
  go_enter Tryz.func86, Tryz.ntmps86
  go_wp2_with fail
  go_still_tail 8, (by kernel_rfl)
  change wpList _ _ _ _ _ w.drew
  go_wp2_with fail
  refine HW.out.mono ?_
  rintro e w' ⟨rfl, hm, ho⟩
  go_wp2_with fail
  go_returns
  exact ⟨rfl, H.out.drew.fin (own_drew w G D) hm ho (fun k e => e ▸ H.out.mach.ownM) (finM_halt _ _ _ _ (by omega))⟩
end Go.Proofs.YtgdebchbdmogcaaGreatDoor
