/- Several texts in one: MachOpA, WordDo, MachOpB. -/
import Derived.Test.YtajholbcpmjhiaaGreatDoorH11
set_option linter.unusedVariables false
set_option linter.unusedSimpArgs false
/- The walks of the machine's instructions: sethi, jmpl, call, rdwim, cmp, br. -/
namespace Go.Proofs.YtajholbcpmjhiaaGreatDoor
open Go.RowKit
theorem fin_on {m m1 : Mx} {n : Int} (hk : m1.kind = 0) (hp : m1.pc = m.pc) (hn : n = u32 (m.pc + 4)) : finM m1 n = onM m1 := by
  unfold finM onM; rw [if_pos hk, hp, hn]
theorem own_drew (w : World) (G : MG) (D : Nat) : Only (fun k => G.own k ∨ k = D) w w.drew := (Only.refl _ w).drew
theorem uw (n : Int) : IntKind.u32.wrap n = u32 n := by rw [IntKind.wrap_u32]; rfl
theorem DoIn.ownS {w : World} {G : MG} {M : Nat} {m : Mx} {D : Nat} {x : Ix} {a b n : Int} (h : DoIn w G M m D x a b n) : ∀ k, k = G.F ∨ k = G.Wb → G.own k := fun k hk => by
  rcases hk with e | e
  · exact e ▸ h.mach.ownF
  · exact e ▸ h.mach.ownW
theorem DoIn.set {w w0 : World} {G : MG} {M : Nat} {m : Mx} {D : Nat} {x : Ix} {a b n : Int} (h : DoIn w G M m D x a b n) (o0 : Only (fun k => G.own k ∨ k = D) w0 w) (r v : Int) (h0 : 0 ≤ r) (h1 : r < 32) (hv : 0 ≤ v ∧ v < 4294967296) {q : Mx} (hf : finM (setM m r v) n = q) :
    Calls Tryz.prog 182 #[.pointer (some ⟨M, 0, none⟩), .int .u8 r, .int .u32 v] w fun e w' => e = .returned (.tuple #[]) ∧ DoEnd w0 G M D x a b q w' :=
  (mset_any w G M m h.mach r v h0 h1 hv).mono fun e w' ⟨he, hm, ho⟩ => ⟨he, h.fin o0 hm ho h.ownS hf⟩
theorem DoEnd.next {w w1 : World} {G : MG} {M D : Nat} {x : Ix} {a b n n' : Int} {m1 r : Mx} (hm : MachAt w1 G M m1) (hd : DAt w1 D M x a b n) (rD : G.R D = .none) (o : Only (fun k => G.own k ∨ k = D) w w1) (hn : 0 ≤ n' ∧ n' < 4294967296) (hf : finM m1 n' = r) : DoEnd w G M D x a b r (w1.setCell ⟨D, 9, none⟩ (.int .u32 n')) :=
  DoEnd.of (hm.keep ((Only.refl (fun k => k = D) w1).setCell (p := ⟨D, 9, none⟩) rfl _) (fun k hk e => hk (by rw [e]; exact rD))) (hd.setNext n') (o.setCell (p := ⟨D, 9, none⟩) (.inr rfl) _) hn hf
theorem DoEnd.drew {w w1 : World} {G : MG} {M D : Nat} {x : Ix} {a b : Int} {r : Mx} (h : DoEnd w G M D x a b r w1) : DoEnd w G M D x a b r w1.drew := by
  obtain ⟨G', m1, n1, h1, h2, h3, h4, h5, h6⟩ := h
  exact ⟨G', m1, n1, h1.keepb ((Below.refl _ _).drew), h2.keep (Only.of_below (S := fun _ => False) ((Below.refl _ _).drew)) id, h3.drew, h4, h5, h6⟩
theorem DoIn.after {w w1 : World} {G : MG} {M : Nat} {m m1 : Mx} {D : Nat} {x : Ix} {a b n : Int} {C : Nat → Prop} (h : DoIn w G M m D x a b n) (hm : MachAt w1 G M m1) (ho : Only C w w1) (hC : ∀ k, C k → G.own k) (hk : m1.kind = 0) : DoIn w1 G M m1 D x a b n :=
  ⟨hm, h.d.keep ho (fun hc => (hC D hc).1 h.rD), h.rD, h.fits, h.ha, h.hb, h.hn, hk⟩
theorem opS15 {m : Mx} {x : Ix} {a b : Int} (h : x.op = 15) : opS m x a b = onM (setM m x.rd (u32 (b * 2048))) := by unfold opS; rw [h]; rfl
set_option maxRecDepth 100000 in
set_option maxHeartbeats 2000000 in
theorem do_sethi (w : World) (G : MG) (M : Nat) (m : Mx) (D : Nat) (x : Ix) (a b n : Int) (h : DoIn w G M m D x a b n) (hop : x.op = 15) (hn : n = u32 (m.pc + 4)) :
    Calls Tryz.prog 158 #[.pointer (some ⟨D, 0, none⟩)] w fun e w' => e = .returned (.tuple #[]) ∧ DoEnd w G M D x a b (opS m x a b) w' := by
  rw [opS15 hop]
  have HS := mhid (h.drew.set (own_drew w G D) x.rd (u32 (b * 2048)) h.fits.rd0 h.fits.rd1 (u32_bd _) (fin_on h.run rfl hn))
  have ha := h.ha
  have hb := h.hb
  have d0 := h.dc.d0
  have d2 := h.dc.d2
  have d8 := h.dc.d8
  clear h hn
  have u1 := uw (b * 2048)
  go_enter Tryz.func158, Tryz.ntmps158
  go_wp2_with fail
  go_still_tail 14, (by kernel_rfl)
  change wpList _ _ _ _ _ w.drew
  go_wp2_with fail
  refine HS.out.mono ?_
  rintro e w' ⟨rfl, he⟩
  go_wp2_with fail
  go_returns
  exact ⟨rfl, he⟩
theorem opS28 {m : Mx} {x : Ix} {a b : Int} (h : x.op = 28) : opS m x a b = onM (setM m x.rd m.wim) := by unfold opS; rw [h]; rfl
set_option maxRecDepth 100000 in
set_option maxHeartbeats 2000000 in
theorem do_rdwim (w : World) (G : MG) (M : Nat) (m : Mx) (D : Nat) (x : Ix) (a b n : Int) (h : DoIn w G M m D x a b n) (hop : x.op = 28) (hn : n = u32 (m.pc + 4)) :
    Calls Tryz.prog 171 #[.pointer (some ⟨D, 0, none⟩)] w fun e w' => e = .returned (.tuple #[]) ∧ DoEnd w G M D x a b (opS m x a b) w' := by
  rw [opS28 hop]
  have HS := mhid (h.drew.set (own_drew w G D) x.rd (m.wim) h.fits.rd0 h.fits.rd1 (⟨h.mach.ok.wim0, h.mach.ok.wim1⟩) (fin_on h.run rfl hn))
  have ha := h.ha
  have hb := h.hb
  have d0 := h.dc.d0
  have d2 := h.dc.d2
  have c4 := h.mach.mc.wim
  clear h hn
  go_enter Tryz.func171, Tryz.ntmps171
  go_wp2_with fail
  go_still_tail 16, (by kernel_rfl)
  change wpList _ _ _ _ _ w.drew
  go_wp2_with fail
  refine HS.out.mono ?_
  rintro e w' ⟨rfl, he⟩
  go_wp2_with fail
  go_returns
  exact ⟨rfl, he⟩
theorem opS19 {m : Mx} {x : Ix} {a b : Int} (h : x.op = 19) : opS m x a b = { setM m x.rd m.pc with pc := u32 (a + b) } := by unfold opS; rw [h]; rfl
set_option maxRecDepth 100000 in
set_option maxHeartbeats 2000000 in
theorem do_jmpl (w : World) (G : MG) (M : Nat) (m : Mx) (D : Nat) (x : Ix) (a b n : Int) (h : DoIn w G M m D x a b n) (hop : x.op = 19) (hn : n = u32 (m.pc + 4)) :
    Calls Tryz.prog 162 #[.pointer (some ⟨D, 0, none⟩)] w fun e w' => e = .returned (.tuple #[]) ∧ DoEnd w G M D x a b (opS m x a b) w' := by
  rw [opS19 hop]
  have HS := mhid (mset_any w.drew G M m h.drew.mach (x.rd) (m.pc) h.fits.rd0 h.fits.rd1 (⟨h.mach.ok.pc0, h.mach.ok.pc1⟩))
  have H := mhid h
  have ha := h.ha
  have hb := h.hb
  have d0 := h.dc.d0
  have d2 := h.dc.d2
  have c3 := h.mach.mc.pc
  clear h hn
  go_enter Tryz.func162, Tryz.ntmps162
  go_wp2_with fail
  go_still_tail 16, (by kernel_rfl)
  change wpList _ _ _ _ _ w.drew
  go_wp2_with fail
  refine HS.out.mono ?_
  rintro e w1 ⟨rfl, hm, ho⟩
  have h1 := H.out.drew.after hm ho H.out.ownS (H.out.run)
  have o1 : Only (fun k => G.own k ∨ k = D) w w1 := (own_drew w G D).trans (ho.mono (fun k _ hk => .inl (H.out.ownS k hk)))
  clear hm ho d0 d2 c3 HS
  have H1 := mhid (And.intro h1 o1)
  have d7 := h1.dc.d7
  have d8 := h1.dc.d8
  have d9 := h1.dc.d9
  have fd := h1.dc.fd
  clear h1 o1
  have u1 := uw (a + b)
  go_wp2_with fail
  go_still_tail 12, (by kernel_rfl)
  change wpList _ _ _ _ _ w1.drew
  go_wp2_with fail
  go_returns
  exact ⟨rfl, (DoEnd.next H1.out.1.mach H1.out.1.d H.out.rD H1.out.2 (u32_bd _) (finM_run H.out.run)).drew⟩
theorem opS18 {m : Mx} {x : Ix} {a b : Int} (h : x.op = 18) : opS m x a b = { setM m 15 m.pc with pc := u32 (m.pc + 4 * b) } := by unfold opS; rw [h]; rfl
set_option maxRecDepth 100000 in
set_option maxHeartbeats 2000000 in
theorem do_call (w : World) (G : MG) (M : Nat) (m : Mx) (D : Nat) (x : Ix) (a b n : Int) (h : DoIn w G M m D x a b n) (hop : x.op = 18) (hn : n = u32 (m.pc + 4)) :
    Calls Tryz.prog 161 #[.pointer (some ⟨D, 0, none⟩)] w fun e w' => e = .returned (.tuple #[]) ∧ DoEnd w G M D x a b (opS m x a b) w' := by
  rw [opS18 hop]
  have HS := mhid (mset_any w.drew G M m h.drew.mach (15) (m.pc) (by omega) (by omega) (⟨h.mach.ok.pc0, h.mach.ok.pc1⟩))
  have H := mhid h
  have ha := h.ha
  have hb := h.hb
  have d0 := h.dc.d0
  have c3 := h.mach.mc.pc
  clear h hn
  go_enter Tryz.func161, Tryz.ntmps161
  go_wp2_with fail
  go_still_tail 11, (by kernel_rfl)
  change wpList _ _ _ _ _ w.drew
  go_wp2_with fail
  refine HS.out.mono ?_
  rintro e w1 ⟨rfl, hm, ho⟩
  have h1 := H.out.drew.after hm ho H.out.ownS (H.out.run)
  have o1 : Only (fun k => G.own k ∨ k = D) w w1 := (own_drew w G D).trans (ho.mono (fun k _ hk => .inl (H.out.ownS k hk)))
  clear hm ho d0 c3 HS
  have H1 := mhid (And.intro h1 o1)
  have d0 := h1.dc.d0
  have d8 := h1.dc.d8
  have d9 := h1.dc.d9
  have c3 := h1.mach.mc.pc
  have fd := h1.dc.fd
  clear h1 o1
  have hpc : 0 ≤ m.pc ∧ m.pc < 4294967296 := ⟨H.out.mach.ok.pc0, H.out.mach.ok.pc1⟩
  replace c3 : w1.cell? ⟨M, 3, none⟩ = some (.int .u32 m.pc) := c3
  have u0 := uw (4 * b)
  have u1 := uw (m.pc + u32 (4 * b))
  have u2 : u32 (m.pc + u32 (4 * b)) = u32 (m.pc + 4 * b) := by unfold u32; omega
  go_wp2_with fail
  go_still_tail 16, (by kernel_rfl)
  change wpList _ _ _ _ _ w1.drew
  go_wp2_with fail
  go_returns
  exact ⟨rfl, (DoEnd.next H1.out.1.mach H1.out.1.d H.out.rD H1.out.2 (u32_bd _) (finM_run H.out.run)).drew⟩
end Go.Proofs.YtajholbcpmjhiaaGreatDoor
/- The walk of word.Do: what any operation makes of any words. -/
namespace Go.Proofs.YtajholbcpmjhiaaGreatDoor
open Go.RowKit
abbrev opsRow (n : Nat) : Array Value := #[.func (.func 214) #[] #[], .func (.func 215) #[] #[], .func (.func 216) #[] #[], .func (.func 235) #[] #[.pointer (some ⟨n + 1, 0, none⟩)], .func (.func 235) #[] #[.pointer (some ⟨n + 2, 0, none⟩)], .func (.func 220) #[] #[], .func (.func 221) #[] #[], .func (.func 222) #[] #[], .func (.func 223) #[] #[], .func (.func 224) #[] #[], .func (.func 225) #[] #[], .func (.func 226) #[] #[], .func (.func 228) #[] #[], .func (.func 229) #[] #[]]
abbrev opsWorld (w : World) : World := ((w.alloc (.cells (opsRow w.heap.size) 245)).alloc (.cells #[.func (.func 218) #[] #[]] 259)).alloc (.cells #[.func (.func 219) #[] #[]] 259)
set_option maxHeartbeats 400000 in
theorem operations_any (w : World) : Calls Tryz.prog 206 #[] w fun e w' => e = .returned (.agg (opsRow w.heap.size)) ∧ opsWorld w = w' := by
  go_enter Tryz.func206, Tryz.ntmps206
  go_wp2
  go_returns
  exact ⟨rfl, rfl⟩
theorem opsWorld_below (w : World) : Below w.heap.size w (opsWorld w) := (((Below.refl _ _).alloc (Nat.le_refl _) _).alloc (by simp) _).alloc (by simp; omega) _
theorem opsWorld_c3 (w : World) (o : Obj) : ((opsWorld w).alloc o).cell? ⟨w.heap.size + 1, 0, none⟩ = some (.func (.func 218) #[] #[]) := by
  simp [go_sem, opsWorld]
theorem opsWorld_c4 (w : World) (o : Obj) : ((opsWorld w).alloc o).cell? ⟨w.heap.size + 2, 0, none⟩ = some (.func (.func 219) #[] #[]) := by
  simp [go_sem, opsWorld]
set_option maxHeartbeats 400000 in
theorem do0_any (a b : Int) (ha : 0 ≤ a) (ha2 : a < 4294967296) (hb : 0 ≤ b) (hb2 : b < 4294967296) (w : World) : Ret Tryz.prog 181 #[.int .u8 0, .int .u32 a, .int .u32 b] w (.tuple #[.int .u32 (doW 0 a b), .bool (doB 0 b)]) := by
  unfold Ret
  go_enter Tryz.func181, Tryz.ntmps181
  go_wp2_with (first | (go_at_call 206; refine (operations_any _).mono ?_; rintro e w' ⟨rfl, rfl⟩) | (go_at_call 214; refine (op0_any _ _ ha ha2 hb hb2 _).mono ?_; rintro e w' ⟨rfl, rfl⟩))
  go_ret2
  exact ⟨ret_ub rfl rfl, (opsWorld_below w).alloc (by simp; omega) _⟩
set_option maxHeartbeats 400000 in
theorem do1_any (a b : Int) (ha : 0 ≤ a) (ha2 : a < 4294967296) (hb : 0 ≤ b) (hb2 : b < 4294967296) (w : World) : Ret Tryz.prog 181 #[.int .u8 1, .int .u32 a, .int .u32 b] w (.tuple #[.int .u32 (doW 1 a b), .bool (doB 1 b)]) := by
  unfold Ret
  go_enter Tryz.func181, Tryz.ntmps181
  go_wp2_with (first | (go_at_call 206; refine (operations_any _).mono ?_; rintro e w' ⟨rfl, rfl⟩) | (go_at_call 215; refine (op1_any _ _ ha ha2 hb hb2 _).mono ?_; rintro e w' ⟨rfl, rfl⟩))
  go_ret2
  exact ⟨ret_ub rfl rfl, (opsWorld_below w).alloc (by simp; omega) _⟩
set_option maxHeartbeats 400000 in
theorem do2_any (a b : Int) (ha : 0 ≤ a) (ha2 : a < 4294967296) (hb : 0 ≤ b) (hb2 : b < 4294967296) (w : World) : Ret Tryz.prog 181 #[.int .u8 2, .int .u32 a, .int .u32 b] w (.tuple #[.int .u32 (doW 2 a b), .bool (doB 2 b)]) := by
  unfold Ret
  go_enter Tryz.func181, Tryz.ntmps181
  go_wp2_with (first | (go_at_call 206; refine (operations_any _).mono ?_; rintro e w' ⟨rfl, rfl⟩) | (go_at_call 216; refine (op2_any _ _ ha ha2 hb hb2 _).mono ?_; rintro e w' ⟨rfl, rfl⟩))
  go_ret2
  exact ⟨ret_ub rfl rfl, (opsWorld_below w).alloc (by simp; omega) _⟩
set_option maxHeartbeats 400000 in
theorem do3_zero (a : Int) (ha : 0 ≤ a) (ha2 : a < 4294967296) (w : World) : Ret Tryz.prog 181 #[.int .u8 3, .int .u32 a, .int .u32 0] w (.tuple #[.int .u32 (doW 3 a 0), .bool (doB 3 0)]) := by
  unfold Ret
  go_enter Tryz.func181, Tryz.ntmps181
  go_wp2_with (first | (go_at_call 206; refine (operations_any _).mono ?_; rintro e w' ⟨rfl, rfl⟩) | (go_at_call 235; refine (op3_zero _ _ ha ha2 _ (opsWorld_c3 _ _)).mono ?_; rintro e w' ⟨rfl, rfl⟩))
  go_ret2
  exact ⟨ret_ub rfl rfl, (opsWorld_below w).alloc (by simp; omega) _⟩
set_option maxHeartbeats 400000 in
theorem do3_some (a b : Int) (ha : 0 ≤ a) (ha2 : a < 4294967296) (hb : 0 ≤ b) (hb2 : b < 4294967296) (w : World) (h0 : b ≠ 0) : Ret Tryz.prog 181 #[.int .u8 3, .int .u32 a, .int .u32 b] w (.tuple #[.int .u32 (doW 3 a b), .bool (doB 3 b)]) := by
  unfold Ret
  go_enter Tryz.func181, Tryz.ntmps181
  go_wp2_with (first | (go_at_call 206; refine (operations_any _).mono ?_; rintro e w' ⟨rfl, rfl⟩) | (go_at_call 235; refine (op3_some _ _ _ ha ha2 hb hb2 _ h0 (opsWorld_c3 _ _)).mono ?_; rintro e w' ⟨rfl, rfl⟩))
  go_ret2
  exact ⟨ret_ub rfl rfl, (opsWorld_below w).alloc (by simp; omega) _⟩
set_option maxHeartbeats 400000 in
theorem do4_zero (a : Int) (ha : 0 ≤ a) (ha2 : a < 4294967296) (w : World) : Ret Tryz.prog 181 #[.int .u8 4, .int .u32 a, .int .u32 0] w (.tuple #[.int .u32 (doW 4 a 0), .bool (doB 4 0)]) := by
  unfold Ret
  go_enter Tryz.func181, Tryz.ntmps181
  go_wp2_with (first | (go_at_call 206; refine (operations_any _).mono ?_; rintro e w' ⟨rfl, rfl⟩) | (go_at_call 235; refine (op4_zero _ _ ha ha2 _ (opsWorld_c4 _ _)).mono ?_; rintro e w' ⟨rfl, rfl⟩))
  go_ret2
  exact ⟨ret_ub rfl rfl, (opsWorld_below w).alloc (by simp; omega) _⟩
set_option maxHeartbeats 400000 in
theorem do4_some (a b : Int) (ha : 0 ≤ a) (ha2 : a < 4294967296) (hb : 0 ≤ b) (hb2 : b < 4294967296) (w : World) (h0 : b ≠ 0) : Ret Tryz.prog 181 #[.int .u8 4, .int .u32 a, .int .u32 b] w (.tuple #[.int .u32 (doW 4 a b), .bool (doB 4 b)]) := by
  unfold Ret
  go_enter Tryz.func181, Tryz.ntmps181
  go_wp2_with (first | (go_at_call 206; refine (operations_any _).mono ?_; rintro e w' ⟨rfl, rfl⟩) | (go_at_call 235; refine (op4_some _ _ _ ha ha2 hb hb2 _ h0 (opsWorld_c4 _ _)).mono ?_; rintro e w' ⟨rfl, rfl⟩))
  go_ret2
  exact ⟨ret_ub rfl rfl, (opsWorld_below w).alloc (by simp; omega) _⟩
set_option maxHeartbeats 400000 in
theorem do5_any (a b : Int) (ha : 0 ≤ a) (ha2 : a < 4294967296) (hb : 0 ≤ b) (hb2 : b < 4294967296) (w : World) : Ret Tryz.prog 181 #[.int .u8 5, .int .u32 a, .int .u32 b] w (.tuple #[.int .u32 (doW 5 a b), .bool (doB 5 b)]) := by
  unfold Ret
  go_enter Tryz.func181, Tryz.ntmps181
  go_wp2_with (first | (go_at_call 206; refine (operations_any _).mono ?_; rintro e w' ⟨rfl, rfl⟩) | (go_at_call 220; refine (op5_any _ _ ha ha2 hb hb2 _).mono ?_; rintro e w' ⟨rfl, rfl⟩))
  go_ret2
  exact ⟨ret_ub rfl rfl, (opsWorld_below w).alloc (by simp; omega) _⟩
set_option maxHeartbeats 400000 in
theorem do6_any (a b : Int) (ha : 0 ≤ a) (ha2 : a < 4294967296) (hb : 0 ≤ b) (hb2 : b < 4294967296) (w : World) : Ret Tryz.prog 181 #[.int .u8 6, .int .u32 a, .int .u32 b] w (.tuple #[.int .u32 (doW 6 a b), .bool (doB 6 b)]) := by
  unfold Ret
  go_enter Tryz.func181, Tryz.ntmps181
  go_wp2_with (first | (go_at_call 206; refine (operations_any _).mono ?_; rintro e w' ⟨rfl, rfl⟩) | (go_at_call 221; refine (op6_any _ _ ha ha2 hb hb2 _).mono ?_; rintro e w' ⟨rfl, rfl⟩))
  go_ret2
  exact ⟨ret_ub rfl rfl, (opsWorld_below w).alloc (by simp; omega) _⟩
set_option maxHeartbeats 400000 in
theorem do7_any (a b : Int) (ha : 0 ≤ a) (ha2 : a < 4294967296) (hb : 0 ≤ b) (hb2 : b < 4294967296) (w : World) : Ret Tryz.prog 181 #[.int .u8 7, .int .u32 a, .int .u32 b] w (.tuple #[.int .u32 (doW 7 a b), .bool (doB 7 b)]) := by
  unfold Ret
  go_enter Tryz.func181, Tryz.ntmps181
  go_wp2_with (first | (go_at_call 206; refine (operations_any _).mono ?_; rintro e w' ⟨rfl, rfl⟩) | (go_at_call 222; refine (op7_any _ _ ha ha2 hb hb2 _).mono ?_; rintro e w' ⟨rfl, rfl⟩))
  go_ret2
  exact ⟨ret_ub rfl rfl, (opsWorld_below w).alloc (by simp; omega) _⟩
set_option maxHeartbeats 400000 in
theorem do8_any (a b : Int) (ha : 0 ≤ a) (ha2 : a < 4294967296) (hb : 0 ≤ b) (hb2 : b < 4294967296) (w : World) : Ret Tryz.prog 181 #[.int .u8 8, .int .u32 a, .int .u32 b] w (.tuple #[.int .u32 (doW 8 a b), .bool (doB 8 b)]) := by
  unfold Ret
  go_enter Tryz.func181, Tryz.ntmps181
  go_wp2_with (first | (go_at_call 206; refine (operations_any _).mono ?_; rintro e w' ⟨rfl, rfl⟩) | (go_at_call 223; refine (op8_any _ _ ha ha2 hb hb2 _).mono ?_; rintro e w' ⟨rfl, rfl⟩))
  go_ret2
  exact ⟨ret_ub rfl rfl, (opsWorld_below w).alloc (by simp; omega) _⟩
set_option maxHeartbeats 400000 in
theorem do9_any (a b : Int) (ha : 0 ≤ a) (ha2 : a < 4294967296) (hb : 0 ≤ b) (hb2 : b < 4294967296) (w : World) : Ret Tryz.prog 181 #[.int .u8 9, .int .u32 a, .int .u32 b] w (.tuple #[.int .u32 (doW 9 a b), .bool (doB 9 b)]) := by
  unfold Ret
  go_enter Tryz.func181, Tryz.ntmps181
  go_wp2_with (first | (go_at_call 206; refine (operations_any _).mono ?_; rintro e w' ⟨rfl, rfl⟩) | (go_at_call 224; refine (op9_any _ _ ha ha2 hb hb2 _).mono ?_; rintro e w' ⟨rfl, rfl⟩))
  go_ret2
  exact ⟨ret_ub rfl rfl, (opsWorld_below w).alloc (by simp; omega) _⟩
set_option maxHeartbeats 400000 in
theorem do10_any (a b : Int) (ha : 0 ≤ a) (ha2 : a < 4294967296) (hb : 0 ≤ b) (hb2 : b < 4294967296) (w : World) : Ret Tryz.prog 181 #[.int .u8 10, .int .u32 a, .int .u32 b] w (.tuple #[.int .u32 (doW 10 a b), .bool (doB 10 b)]) := by
  unfold Ret
  go_enter Tryz.func181, Tryz.ntmps181
  go_wp2_with (first | (go_at_call 206; refine (operations_any _).mono ?_; rintro e w' ⟨rfl, rfl⟩) | (go_at_call 225; refine (op10_any _ _ ha ha2 hb hb2 _).mono ?_; rintro e w' ⟨rfl, rfl⟩))
  go_ret2
  exact ⟨ret_ub rfl rfl, (opsWorld_below w).alloc (by simp; omega) _⟩
set_option maxHeartbeats 400000 in
theorem do11_any (a b : Int) (ha : 0 ≤ a) (ha2 : a < 4294967296) (hb : 0 ≤ b) (hb2 : b < 4294967296) (w : World) : Ret Tryz.prog 181 #[.int .u8 11, .int .u32 a, .int .u32 b] w (.tuple #[.int .u32 (doW 11 a b), .bool (doB 11 b)]) := by
  unfold Ret
  go_enter Tryz.func181, Tryz.ntmps181
  go_wp2_with (first | (go_at_call 206; refine (operations_any _).mono ?_; rintro e w' ⟨rfl, rfl⟩) | (go_at_call 226; refine (op11_any _ _ ha ha2 hb hb2 _).mono ?_; rintro e w' ⟨rfl, rfl⟩))
  go_ret2
  exact ⟨ret_ub rfl rfl, (opsWorld_below w).alloc (by simp; omega) _⟩
set_option maxHeartbeats 400000 in
theorem do12_any (a b : Int) (ha : 0 ≤ a) (ha2 : a < 4294967296) (hb : 0 ≤ b) (hb2 : b < 4294967296) (w : World) : Ret Tryz.prog 181 #[.int .u8 12, .int .u32 a, .int .u32 b] w (.tuple #[.int .u32 (doW 12 a b), .bool (doB 12 b)]) := by
  unfold Ret
  go_enter Tryz.func181, Tryz.ntmps181
  go_wp2_with (first | (go_at_call 206; refine (operations_any _).mono ?_; rintro e w' ⟨rfl, rfl⟩) | (go_at_call 228; refine (op12_any _ _ ha ha2 hb hb2 _).mono ?_; rintro e w' ⟨rfl, rfl⟩))
  go_ret2
  exact ⟨ret_ub rfl rfl, (opsWorld_below w).alloc (by simp; omega) _⟩
set_option maxHeartbeats 400000 in
theorem do13_any (a b : Int) (ha : 0 ≤ a) (ha2 : a < 4294967296) (hb : 0 ≤ b) (hb2 : b < 4294967296) (w : World) : Ret Tryz.prog 181 #[.int .u8 13, .int .u32 a, .int .u32 b] w (.tuple #[.int .u32 (doW 13 a b), .bool (doB 13 b)]) := by
  unfold Ret
  go_enter Tryz.func181, Tryz.ntmps181
  go_wp2_with (first | (go_at_call 206; refine (operations_any _).mono ?_; rintro e w' ⟨rfl, rfl⟩) | (go_at_call 229; refine (op13_any _ _ ha ha2 hb hb2 _).mono ?_; rintro e w' ⟨rfl, rfl⟩))
  go_ret2
  exact ⟨ret_ub rfl rfl, (opsWorld_below w).alloc (by simp; omega) _⟩
set_option maxHeartbeats 400000 in
theorem do_none (op : Int) (h1 : 14 ≤ op) (h2 : op < 256) (a b : Int) (w : World) : Ret Tryz.prog 181 #[.int .u8 op, .int .u32 a, .int .u32 b] w (.tuple #[.int .u32 0, .bool false]) := by
  unfold Ret
  go_enter Tryz.func181, Tryz.ntmps181
  go_wp2_with (go_at_call 206; refine (operations_any _).mono ?_; rintro e w' ⟨rfl, rfl⟩)
  go_ret2
  exact ⟨ret_ub rfl rfl, (opsWorld_below w).alloc (by simp; omega) _⟩
theorem doW_none (n : Nat) (h : 14 ≤ n) (a b : Int) : doW n a b = 0 := by
  obtain ⟨m, rfl⟩ := Nat.exists_eq_add_of_le h
  unfold doW; split <;> first | omega | rfl
theorem doB_none (n : Nat) (h : 14 ≤ n) (b : Int) : doB n b = false := by
  obtain ⟨m, rfl⟩ := Nat.exists_eq_add_of_le h
  unfold doB; split <;> first | omega | simp
theorem do_any (op : Int) (h1 : 0 ≤ op) (h2 : op < 256) (a b : Int) (ha : 0 ≤ a) (ha2 : a < 4294967296) (hb : 0 ≤ b) (hb2 : b < 4294967296) (w : World) :
    Ret Tryz.prog 181 #[.int .u8 op, .int .u32 a, .int .u32 b] w (.tuple #[.int .u32 (doW op.toNat a b), .bool (doB op.toNat b)]) := by
  by_cases h : 14 ≤ op
  · rw [doW_none _ (by omega), doB_none _ (by omega)]; exact do_none op h h2 a b w
  · have hc : op = 0 ∨ op = 1 ∨ op = 2 ∨ op = 3 ∨ op = 4 ∨ op = 5 ∨ op = 6 ∨ op = 7 ∨ op = 8 ∨ op = 9 ∨ op = 10 ∨ op = 11 ∨ op = 12 ∨ op = 13 := by omega
    rcases hc with rfl | rfl | rfl | rfl | rfl | rfl | rfl | rfl | rfl | rfl | rfl | rfl | rfl | rfl
    · exact do0_any a b ha ha2 hb hb2 w
    · exact do1_any a b ha ha2 hb hb2 w
    · exact do2_any a b ha ha2 hb hb2 w
    · by_cases h0 : b = 0
      · subst h0; exact do3_zero a ha ha2 w
      · exact do3_some a b ha ha2 hb hb2 w h0
    · by_cases h0 : b = 0
      · subst h0; exact do4_zero a ha ha2 w
      · exact do4_some a b ha ha2 hb hb2 w h0
    · exact do5_any a b ha ha2 hb hb2 w
    · exact do6_any a b ha ha2 hb hb2 w
    · exact do7_any a b ha ha2 hb hb2 w
    · exact do8_any a b ha ha2 hb hb2 w
    · exact do9_any a b ha ha2 hb hb2 w
    · exact do10_any a b ha ha2 hb hb2 w
    · exact do11_any a b ha ha2 hb hb2 w
    · exact do12_any a b ha ha2 hb hb2 w
    · exact do13_any a b ha ha2 hb hb2 w
end Go.Proofs.YtajholbcpmjhiaaGreatDoor
/- The walks of the machine's instructions: cmp, br, alu, turn, save, restore. -/
namespace Go.Proofs.YtajholbcpmjhiaaGreatDoor
open Go.RowKit
theorem DoEnd.from {w w1 w' : World} {G : MG} {M D : Nat} {x : Ix} {a b : Int} {r : Mx} (h : DoEnd w1 G M D x a b r w') (hb : Below w.heap.size w w1) : DoEnd w G M D x a b r w' := by
  obtain ⟨G', m1, n1, h1, h2, h3, h4, h5, h6⟩ := h
  exact ⟨G', m1, n1, h1, h2, (Only.of_below hb).trans h3, fun k hk => h4 k (Nat.lt_of_lt_of_le hk hb.size), h5, h6⟩
theorem own_below {w w' : World} {G : MG} {D : Nat} (h : Below w.heap.size w w') : Only (fun k => G.own k ∨ k = D) w w' := Only.of_below h
theorem opS16 {m : Mx} {x : Ix} {a b : Int} (h : x.op = 16) : opS m x a b = onM { m with p := { m.p with flags := flagsS a b } } := by unfold opS; rw [h]; rfl
set_option maxRecDepth 100000 in
set_option maxHeartbeats 2000000 in
theorem do_cmp (w : World) (G : MG) (M : Nat) (m : Mx) (D : Nat) (x : Ix) (a b n : Int) (h : DoIn w G M m D x a b n) (hop : x.op = 16) (hn : n = u32 (m.pc + 4)) :
    Calls Tryz.prog 159 #[.pointer (some ⟨D, 0, none⟩)] w fun e w' => e = .returned (.tuple #[]) ∧ DoEnd w G M D x a b (opS m x a b) w' := by
  rw [opS16 hop]
  have hd : Below w.heap.size w w.drew := (Below.refl _ _).drew
  have HF := mhid (fun w' => (show Calls Tryz.prog 195 #[.int .u32 a, .int .u32 b] w' fun e w2 => e = .returned (.int .u8 (flagsS a b)) ∧ Below w'.heap.size w' w2 from flags_any a b h.ha.1 h.ha.2 h.hb.1 h.hb.2 w'))
  have H := mhid h
  have HN := mhid hn
  have hfl := flagsS_bd a b
  have d0 := h.dc.d0
  have d7 := h.dc.d7
  have d8 := h.dc.d8
  have HS := mhid (show ∀ w', Below w.heap.size w w' → w'.cell? ⟨D, 0, none⟩ = some (.pointer (some ⟨M, 0, none⟩)) ∧ w'.cell? ⟨D, 7, none⟩ = some (.int .u32 a) ∧ w'.cell? ⟨D, 8, none⟩ = some (.int .u32 b) from fun w' hb => by
    have hc := h.keepb hb
    exact ⟨hc.dc.d0, hc.dc.d7, hc.dc.d8⟩)
  have HS2 := mhid (show ∀ W1 v, Below w.heap.size w W1 → (W1.setCell ⟨M, 8, none⟩ v).cell? ⟨D, 0, none⟩ = some (.pointer (some ⟨M, 0, none⟩)) ∧ (W1.setCell ⟨M, 8, none⟩ v).cell? ⟨D, 7, none⟩ = some (.int .u32 a) ∧ (W1.setCell ⟨M, 8, none⟩ v).cell? ⟨D, 8, none⟩ = some (.int .u32 b) from fun W1 v hb => by
    have hd2 := DAt.dc (G := G) (m := m) ((h.keepb hb).d.keep (onlyM W1 M 8 v) h.ne.1)
    exact ⟨hd2.d0, hd2.d7, hd2.d8⟩)
  clear h hn hop
  generalize hfq : flagsS a b = fl at *
  have HQ := mhid hfq
  clear hfq
  go_enter Tryz.func159, Tryz.ntmps159
  go_wp2_with fail
  go_region_held3 (fun w' => w'.cell? ⟨D, 0, none⟩ = some (.pointer (some ⟨M, 0, none⟩)) ∧ w'.cell? ⟨D, 7, none⟩ = some (.int .u32 a) ∧ w'.cell? ⟨D, 8, none⟩ = some (.int .u32 b)) (first | (with_reducible exact ⟨d0, d7, d8⟩) | (exact HS2.out _ _ hb1) | (refine HS.out _ ?_; go_grown; done))
    ((go_at_call 195; (with_reducible refine (HF.out _).mono ?_); rintro e W1 ⟨rfl, hb10⟩; have hb1 : Below w.heap.size w W1 := hd.trans (hb10.mono hd.size); have c8 := (H.out.keepb hb1).mach.mc.flags; have f8 := (H.out.keepb hb1).mach.mc.fz 8))
  go_wp2_with fail
  go_returns
  have h1 := H.out.keepb hb1
  refine ⟨rfl, h1.fin (own_below hb1) (h1.mach.setFlags hfl) (onlyM W1 M 8 _) (fun k e => e ▸ h1.mach.ownM) (fin_on h1.run rfl HN.out)⟩
theorem opS17 {m : Mx} {x : Ix} {a b : Int} (h : x.op = 17) : opS m x a b = if holdsS x.rd.toNat m.p.flags = true then { m with pc := u32 (m.pc + 4 * b) } else onM m := by unfold opS; rw [h]; rfl
set_option maxRecDepth 100000 in
set_option maxHeartbeats 2000000 in
theorem do_br (w : World) (G : MG) (M : Nat) (m : Mx) (D : Nat) (x : Ix) (a b n : Int) (h : DoIn w G M m D x a b n) (hop : x.op = 17) (hn : n = u32 (m.pc + 4)) :
    Calls Tryz.prog 160 #[.pointer (some ⟨D, 0, none⟩)] w fun e w' => e = .returned (.tuple #[]) ∧ DoEnd w G M D x a b (opS m x a b) w' := by
  rw [opS17 hop]
  have hd : Below w.heap.size w w.drew := (Below.refl _ _).drew
  have HF := mhid (fun w' => (show Calls Tryz.prog 196 #[.int .u8 x.rd, .int .u8 m.p.flags] w' fun e w2 => e = .returned (.bool (holdsS x.rd.toNat m.p.flags)) ∧ Below w'.heap.size w' w2 from holds_any x.rd h.fits.rd0 m.p.flags h.mach.ok.pb.2.2.2.1 h.mach.ok.pb.2.2.2.2 w'))
  have H := mhid h
  have HN := mhid hn
  have d0 := h.dc.d0
  have d2 := h.dc.d2
  have c8 := h.mach.mc.flags
  have HS := mhid (show ∀ w', Below w.heap.size w w' → w'.cell? ⟨D, 0, none⟩ = some (.pointer (some ⟨M, 0, none⟩)) ∧ w'.cell? ⟨D, 2, none⟩ = some (.int .u8 x.rd) ∧ w'.cell? ⟨M, 8, none⟩ = some (.int .u8 m.p.flags) from fun w' hb => by
    have hc := h.keepb hb
    exact ⟨hc.dc.d0, hc.dc.d2, hc.mach.mc.flags⟩)
  clear h hn hop
  generalize hhq : holdsS x.rd.toNat m.p.flags = hh at *
  clear hhq
  cases hh
  all_goals
    go_enter Tryz.func160, Tryz.ntmps160
    go_wp2_with fail
    go_region_held3 (fun w' => w'.cell? ⟨D, 0, none⟩ = some (.pointer (some ⟨M, 0, none⟩)) ∧ w'.cell? ⟨D, 2, none⟩ = some (.int .u8 x.rd) ∧ w'.cell? ⟨M, 8, none⟩ = some (.int .u8 m.p.flags)) (first | (with_reducible exact ⟨d0, d2, c8⟩) | (refine HS.out _ ?_; go_grown; done))
      ((go_at_call 196; (with_reducible refine (HF.out _).mono ?_); rintro e W1 ⟨rfl, hb10⟩; have hb1 : Below w.heap.size w W1 := hd.trans (hb10.mono hd.size)))
    have H1 := mhid (H.out.keepb hb1)
    clear hb10 d0 d2 c8 HS
  · go_wp2_with fail
    go_returns
    exact ⟨rfl, DoEnd.of H1.out.mach H1.out.d (own_below hb1) H1.out.hn (fin_on H1.out.run rfl HN.out)⟩
  · have hpc : 0 ≤ m.pc ∧ m.pc < 4294967296 := ⟨H.out.mach.ok.pc0, H.out.mach.ok.pc1⟩
    have hb := H.out.hb
    have u0 := uw (4 * b)
    have u1 := uw (m.pc + u32 (4 * b))
    have u2 : u32 (m.pc + u32 (4 * b)) = u32 (m.pc + 4 * b) := by unfold u32; omega
    have d0 := H1.out.dc.d0
    have d8 := H1.out.dc.d8
    have d9 := H1.out.dc.d9
    have c3 := H1.out.mach.mc.pc
    have fd := H1.out.dc.fd
    go_wp2_with fail
    go_still_tail 16, (by kernel_rfl)
    change wpList _ _ _ _ _ W1.drew
    go_wp2_with fail
    go_returns
    exact ⟨rfl, (DoEnd.next H1.out.mach H1.out.d H.out.rD (own_below hb1) (u32_bd _) (finM_run H.out.run)).drew⟩
theorem opSalu {m : Mx} {x : Ix} {a b : Int} (h : x.op ≤ 14) : opS m x a b = if doB (x.op - 1).toNat b = true then onM (setM m x.rd (doW (x.op - 1).toNat a b)) else haltM m 2 1 := by unfold opS; rw [if_pos h]
set_option maxRecDepth 100000 in
set_option maxHeartbeats 2000000 in
theorem do_alu (w : World) (G : MG) (M : Nat) (m : Mx) (D : Nat) (x : Ix) (a b n : Int) (h : DoIn w G M m D x a b n) (hop : x.op ≤ 14) (hn : n = u32 (m.pc + 4)) :
    Calls Tryz.prog 112 #[.pointer (some ⟨D, 0, none⟩)] w fun e w' => e = .returned (.tuple #[]) ∧ DoEnd w G M D x a b (opS m x a b) w' := by
  rw [opSalu hop]
  have hd : Below w.heap.size w w.drew := (Below.refl _ _).drew
  have ho0 := h.fits.op0
  have HF := mhid (fun w' => (show Calls Tryz.prog 181 #[.int .u8 (x.op - 1), .int .u32 a, .int .u32 b] w' fun e w2 => e = .returned (.tuple #[.int .u32 (doW (x.op - 1).toNat a b), .bool (doB (x.op - 1).toNat b)]) ∧ Below w'.heap.size w' w2 from do_any (x.op - 1) (by omega) (by omega) a b h.ha.1 h.ha.2 h.hb.1 h.hb.2 w'))
  have H := mhid h
  have HN := mhid hn
  have hdw := doW_bd (x.op - 1).toNat h.ha.1 h.ha.2 h.hb.2 (b := b)
  have u0 : IntKind.u8.wrap (x.op - 1) = x.op - 1 := by rw [IntKind.wrap_u8]; omega
  have d0 := h.dc.d0
  have d1 := h.dc.d1
  have d7 := h.dc.d7
  have d8 := h.dc.d8
  have HS := mhid (show ∀ w', Below w.heap.size w w' → w'.cell? ⟨D, 0, none⟩ = some (.pointer (some ⟨M, 0, none⟩)) ∧ w'.cell? ⟨D, 1, none⟩ = some (.int .u8 x.op) ∧ w'.cell? ⟨D, 7, none⟩ = some (.int .u32 a) ∧ w'.cell? ⟨D, 8, none⟩ = some (.int .u32 b) from fun w' hb => by
    have hc := h.keepb hb
    exact ⟨hc.dc.d0, hc.dc.d1, hc.dc.d7, hc.dc.d8⟩)
  clear h hn hop
  generalize hhq : doB (x.op - 1).toNat b = hh at *
  generalize hwq : doW (x.op - 1).toNat a b = dw at *
  clear hhq hwq
  cases hh
  all_goals
    go_enter Tryz.func112, Tryz.ntmps112
    go_wp2_with fail
    go_region_held3 (fun w' => w'.cell? ⟨D, 0, none⟩ = some (.pointer (some ⟨M, 0, none⟩)) ∧ w'.cell? ⟨D, 1, none⟩ = some (.int .u8 x.op) ∧ w'.cell? ⟨D, 7, none⟩ = some (.int .u32 a) ∧ w'.cell? ⟨D, 8, none⟩ = some (.int .u32 b)) (first | (with_reducible exact ⟨d0, d1, d7, d8⟩) | (refine HS.out _ ?_; go_grown; done))
      ((go_at_call 181; (with_reducible refine (HF.out _).mono ?_); rintro e W1 ⟨rfl, hb10⟩; have hb1 : Below w.heap.size w W1 := hd.trans (hb10.mono hd.size)))
    have H1 := mhid (H.out.keepb hb1)
    clear hb10 d0 d1 d7 d8 HS
  · have HH := mhid (mhalt_any W1 G M m H1.out.mach 2 1 (by omega) (by omega))
    have d0 := H1.out.dc.d0
    go_wp2_with fail
    refine HH.out.mono ?_
    rintro e w2 ⟨rfl, hm, ho⟩
    go_wp2_with fail
    go_returns
    exact ⟨rfl, H1.out.fin (own_below hb1) hm ho (fun k e => e ▸ H1.out.mach.ownM) (finM_halt _ _ _ _ (by omega))⟩
  · have HH := mhid (H1.out.drew.set ((own_below hb1).trans (own_drew W1 G D)) x.rd dw H.out.fits.rd0 H.out.fits.rd1 hdw (fin_on H1.out.run rfl HN.out))
    have d0 := H1.out.dc.d0
    have d2 := H1.out.dc.d2
    go_wp2_with fail
    go_still_tail 10, (by kernel_rfl)
    change wpList _ _ _ _ _ W1.drew
    go_wp2_with fail
    refine HH.out.mono ?_
    rintro e w2 ⟨rfl, he⟩
    go_wp2_with fail
    go_returns
    exact ⟨rfl, he⟩
set_option maxRecDepth 100000 in
set_option maxHeartbeats 2000000 in
theorem dturn_any (w : World) (hbr : Bru w) (G : MG) (M : Nat) (m : Mx) (D : Nat) (x : Ix) (a b n : Int) (h : DoIn w G M m D x a b n) (hn : n = u32 (m.pc + 4)) (to kind : Int) (ht : 0 ≤ to ∧ to < m.nw) (hk : 0 ≤ kind ∧ kind < 256) :
    Calls Tryz.prog 198 #[.pointer (some ⟨D, 0, none⟩), .int .i64 to, .int .u8 kind] w fun e w' => e = .returned (.tuple #[]) ∧ DoEnd w G M D x a b (turnM m x.rd a b to kind) w' := by
  have hd : Below w.heap.size w w.drew := (Below.refl _ _).drew
  have HF := mhid (fun w' (hb : Below w.heap.size w w') => invalid_any m.wim m.f.nw h.mach.ok.wim0 h.mach.ok.wim1 w' (hbr.keep hb))
  have H := mhid h
  have HN := mhid hn
  have hw32 := h.mach.ok.win.2
  have d0 := h.dc.d0
  have c0 := h.mach.mc.nw
  have c4 := h.mach.mc.wim
  have HS := mhid (show ∀ w', Below w.heap.size w w' → w'.cell? ⟨D, 0, none⟩ = some (.pointer (some ⟨M, 0, none⟩)) ∧ w'.cell? ⟨M, 0, none⟩ = some (.int .i64 m.f.nw) ∧ w'.cell? ⟨M, 4, none⟩ = some (.int .u32 m.wim) from fun w' hb => by
    have hc := h.keepb hb
    exact ⟨hc.dc.d0, hc.mach.mc.nw, hc.mach.mc.wim⟩)
  clear h hn hbr
  have HE := mhid (show turnM m x.rd a b to kind = if to = invV m.wim m.f.nw then winM m kind m.pc else onM (setM { m with p := { m.p with cwp := to } } x.rd (u32 (a + b))) from rfl)
  generalize invV m.wim m.f.nw = bad at *
  generalize invE m.wim m.f.nw = be at *
  by_cases hz : to = bad
  · have e1 : (to == bad) = true := by simpa using hz
    rw [if_pos hz] at HE
    clear hz
    go_enter Tryz.func198, Tryz.ntmps198
    go_wp2_with fail
    go_region_held3 (fun w' => w'.cell? ⟨D, 0, none⟩ = some (.pointer (some ⟨M, 0, none⟩)) ∧ w'.cell? ⟨M, 0, none⟩ = some (.int .i64 m.f.nw) ∧ w'.cell? ⟨M, 4, none⟩ = some (.int .u32 m.wim)) (first | (with_reducible exact ⟨d0, c0, c4⟩) | (refine HS.out _ ?_; go_grown; done))
      ((go_at_call 125; (with_reducible refine (HF.out _ hd).mono ?_); rintro e W1 ⟨rfl, hb10⟩; have hb1 : Below w.heap.size w W1 := hd.trans (hb10.mono hd.size)))
    have H1 := mhid (H.out.keepb hb1)
    clear hb10 d0 c0 c4 HS
    have HW := mhid (dwindow_any W1 G M m D x a b n H1.out kind m.pc hk ⟨H.out.mach.ok.pc0, H.out.mach.ok.pc1⟩)
    have d0 := H1.out.dc.d0
    have c3 := H1.out.mach.mc.pc
    go_wp2_with fail
    refine HW.out.mono ?_
    rintro e w2 ⟨rfl, he⟩
    have HE2 := mhid (he.from hb1)
    clear he
    go_wp2_with fail
    go_returns
    rw [HE.out]
    exact ⟨rfl, HE2.out⟩
  · have e1 : (to == bad) = false := by simpa using hz
    rw [if_neg hz] at HE
    clear hz
    go_enter Tryz.func198, Tryz.ntmps198
    go_wp2_with fail
    go_region_held3 (fun w' => w'.cell? ⟨D, 0, none⟩ = some (.pointer (some ⟨M, 0, none⟩)) ∧ w'.cell? ⟨M, 0, none⟩ = some (.int .i64 m.f.nw) ∧ w'.cell? ⟨M, 4, none⟩ = some (.int .u32 m.wim)) (first | (with_reducible exact ⟨d0, c0, c4⟩) | (refine HS.out _ ?_; go_grown; done))
      ((go_at_call 125; (with_reducible refine (HF.out _ hd).mono ?_); rintro e W1 ⟨rfl, hb10⟩; have hb1 : Below w.heap.size w W1 := hd.trans (hb10.mono hd.size)))
    have H1 := mhid (H.out.keepb hb1)
    clear hb10 d0 c0 c4 HS
    have u0 : IntKind.u8.wrap to = to := by rw [IntKind.wrap_u8]; omega
    have u1 := uw (a + b)
    have d0 := H1.out.dc.d0
    have c5 := H1.out.mach.mc.cwp
    have f5 := H1.out.mach.mc.fz 5
    have ha := H.out.ha
    have hb := H.out.hb
    have h2 := H1.out.after (H1.out.mach.setCwp ht) (onlyM W1 M 5 (.int .u8 to)) (fun k e => e ▸ H1.out.mach.ownM) H1.out.run
    have o2 : Only (fun k => G.own k ∨ k = D) w (W1.setCell ⟨M, 5, none⟩ (.int .u8 to)) := (own_below hb1).trans ((onlyM W1 M 5 _).mono (fun k _ e => .inl (e ▸ H1.out.mach.ownM)))
    have HI := mhid (And.intro h2 o2)
    clear h2 o2
    go_upto_region 4 with (fail)
    generalize W1.setCell ⟨M, 5, none⟩ (.int .u8 to) = W2 at *
    clear d0 c5 f5
    have HH := mhid (HI.out.1.drew.set (HI.out.2.trans (own_drew W2 G D)) x.rd (u32 (a + b)) H.out.fits.rd0 H.out.fits.rd1 (u32_bd _) (fin_on H1.out.run rfl HN.out))
    have d0 := HI.out.1.dc.d0
    have d2 := HI.out.1.dc.d2
    have d7 := HI.out.1.dc.d7
    have d8 := HI.out.1.dc.d8
    go_still_tail 18, (by kernel_rfl)
    change wpList _ _ _ _ _ W2.drew
    go_wp2_with fail
    refine HH.out.mono ?_
    rintro e w3 ⟨rfl, he⟩
    go_wp2_with fail
    go_returns
    rw [HE.out]
    exact ⟨rfl, he⟩
theorem opS20 {m : Mx} {x : Ix} {a b : Int} (h : x.op = 20) : opS m x a b = turnM m x.rd a b (stepV m.p.cwp (m.nw - 1) m.nw) 1 := by unfold opS; rw [h]; rfl
set_option maxRecDepth 100000 in
set_option maxHeartbeats 2000000 in
theorem do_save (w : World) (hbr : Bru w) (G : MG) (M : Nat) (m : Mx) (D : Nat) (x : Ix) (a b n : Int) (h : DoIn w G M m D x a b n) (hop : x.op = 20) (hn : n = u32 (m.pc + 4)) :
    Calls Tryz.prog 163 #[.pointer (some ⟨D, 0, none⟩)] w fun e w' => e = .returned (.tuple #[]) ∧ DoEnd w G M D x a b (opS m x a b) w' := by
  rw [opS20 hop]
  have hd : Below w.heap.size w w.drew := (Below.refl _ _).drew
  have HF := mhid (fun w' => ahead_any m.p.cwp m.f.nw w')
  have H := mhid h
  have HN := mhid hn
  have HBR := mhid hbr
  have HST := mhid (stepV_bd (x := m.p.cwp) (by' := m.nw - 1) (nw := m.nw) (by have := h.mach.ok.win.1; omega))
  have hw32 := h.mach.ok.win.2
  have hcw := h.mach.ok.cwp
  have u0 : IntKind.i64.wrap m.p.cwp = m.p.cwp := IntWalk.i64_in _ (by omega)
  have d0 := h.dc.d0
  have c0 := h.mach.mc.nw
  have c5 := h.mach.mc.cwp
  have HS := mhid (show ∀ w', Below w.heap.size w w' → w'.cell? ⟨D, 0, none⟩ = some (.pointer (some ⟨M, 0, none⟩)) ∧ w'.cell? ⟨M, 0, none⟩ = some (.int .i64 m.f.nw) ∧ w'.cell? ⟨M, 5, none⟩ = some (.int .u8 m.p.cwp) from fun w' hb => by
    have hc := h.keepb hb
    exact ⟨hc.dc.d0, hc.mach.mc.nw, hc.mach.mc.cwp⟩)
  clear h hn hbr hop
  go_enter Tryz.func163, Tryz.ntmps163
  go_wp2_with fail
  go_region_held3 (fun w' => w'.cell? ⟨D, 0, none⟩ = some (.pointer (some ⟨M, 0, none⟩)) ∧ w'.cell? ⟨M, 0, none⟩ = some (.int .i64 m.f.nw) ∧ w'.cell? ⟨M, 5, none⟩ = some (.int .u8 m.p.cwp)) (first | (with_reducible exact ⟨d0, c0, c5⟩) | (refine HS.out _ ?_; go_grown; done))
    ((go_at_call 197; (with_reducible refine (HF.out _).mono ?_); rintro e W1 ⟨rfl, hb10⟩; have hb1 : Below w.heap.size w W1 := hd.trans (hb10.mono hd.size)))
  have H1 := mhid (H.out.keepb hb1)
  have HT := mhid (dturn_any W1 (HBR.out.keep hb1) G M m D x a b n H1.out HN.out _ 1 HST.out (by omega))
  clear hb10 d0 c0 c5 HS
  go_wp2_with fail
  refine HT.out.mono ?_
  rintro e w2 ⟨rfl, he⟩
  have HE2 := mhid (he.from hb1)
  clear he
  go_wp2_with fail
  go_returns
  exact ⟨rfl, HE2.out⟩
theorem opS21 {m : Mx} {x : Ix} {a b : Int} (h : x.op = 21) : opS m x a b = turnM m x.rd a b (stepV m.p.cwp 1 m.nw) 2 := by unfold opS; rw [h]; rfl
set_option maxRecDepth 100000 in
set_option maxHeartbeats 2000000 in
theorem do_restore (w : World) (hbr : Bru w) (G : MG) (M : Nat) (m : Mx) (D : Nat) (x : Ix) (a b n : Int) (h : DoIn w G M m D x a b n) (hop : x.op = 21) (hn : n = u32 (m.pc + 4)) :
    Calls Tryz.prog 164 #[.pointer (some ⟨D, 0, none⟩)] w fun e w' => e = .returned (.tuple #[]) ∧ DoEnd w G M D x a b (opS m x a b) w' := by
  rw [opS21 hop]
  have hd : Below w.heap.size w w.drew := (Below.refl _ _).drew
  have HF := mhid (fun w' => pnext_any m.p.cwp m.f.nw w')
  have H := mhid h
  have HN := mhid hn
  have HBR := mhid hbr
  have HST := mhid (stepV_bd (x := m.p.cwp) (by' := 1) (nw := m.nw) (by have := h.mach.ok.win.1; omega))
  have hw32 := h.mach.ok.win.2
  have hcw := h.mach.ok.cwp
  have u0 : IntKind.i64.wrap m.p.cwp = m.p.cwp := IntWalk.i64_in _ (by omega)
  have d0 := h.dc.d0
  have c0 := h.mach.mc.nw
  have c5 := h.mach.mc.cwp
  have HS := mhid (show ∀ w', Below w.heap.size w w' → w'.cell? ⟨D, 0, none⟩ = some (.pointer (some ⟨M, 0, none⟩)) ∧ w'.cell? ⟨M, 0, none⟩ = some (.int .i64 m.f.nw) ∧ w'.cell? ⟨M, 5, none⟩ = some (.int .u8 m.p.cwp) from fun w' hb => by
    have hc := h.keepb hb
    exact ⟨hc.dc.d0, hc.mach.mc.nw, hc.mach.mc.cwp⟩)
  clear h hn hbr hop
  go_enter Tryz.func164, Tryz.ntmps164
  go_wp2_with fail
  go_region_held3 (fun w' => w'.cell? ⟨D, 0, none⟩ = some (.pointer (some ⟨M, 0, none⟩)) ∧ w'.cell? ⟨M, 0, none⟩ = some (.int .i64 m.f.nw) ∧ w'.cell? ⟨M, 5, none⟩ = some (.int .u8 m.p.cwp)) (first | (with_reducible exact ⟨d0, c0, c5⟩) | (refine HS.out _ ?_; go_grown; done))
    ((go_at_call 199; (with_reducible refine (HF.out _).mono ?_); rintro e W1 ⟨rfl, hb10⟩; have hb1 : Below w.heap.size w W1 := hd.trans (hb10.mono hd.size)))
  have H1 := mhid (H.out.keepb hb1)
  have HT := mhid (dturn_any W1 (HBR.out.keep hb1) G M m D x a b n H1.out HN.out _ 2 HST.out (by omega))
  clear hb10 d0 c0 c5 HS
  go_wp2_with fail
  refine HT.out.mono ?_
  rintro e w2 ⟨rfl, he⟩
  have HE2 := mhid (he.from hb1)
  clear he
  go_wp2_with fail
  go_returns
  exact ⟨rfl, HE2.out⟩
end Go.Proofs.YtajholbcpmjhiaaGreatDoor
