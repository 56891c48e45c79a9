/- Several texts in one: MachAtM, MachAtY. -/
import Derived.Test.YtajholbcpmjhiaaGreatDoorH11
import Derived.Test.YtajholbcpmjhiaaGreatDoorH16
set_option linter.unusedVariables false
set_option linter.unusedSimpArgs false
/- The walk of the machine's at: the instruction at the PC. -/
namespace Go.Proofs.YtajholbcpmjhiaaGreatDoor
open Go.RowKit
theorem decB_no {m : Mx} (h : noneAt m) (h2 : spanE m.mem.length m.pc 1 4 = 0) : decB (loadV m.mem m.pc 4) = false := by
  rcases h with h | h
  · exact absurd h2 h
  · exact h
set_option maxRecDepth 100000 in
set_option maxHeartbeats 2000000 in
theorem mat_no (w : World) (ht : Tab w) (G : MG) (M : Nat) (m : Mx) (h : MachAt w G M m) (hno : noneAt m) :
    Calls Tryz.prog 109 #[.pointer (some ⟨M, 0, none⟩)] w fun e w' => e = .returned (.tuple #[.pointer none, .bool false]) ∧ Below w.heap.size w w' := by
  have hlv := loadV_bd h.ok.bytes m.pc 4
  have HL := mhid (show ∀ n, Calls Tryz.prog 48 #[.pointer (some ⟨G.mB, 0, none⟩), .int .u32 m.pc, .int .i64 4] (w.drewN n) fun e w' => e = .returned (.tuple #[.int .u32 (loadV m.mem m.pc 4), .int .i64 (spanE m.mem.length m.pc 1 4)]) ∧ w' = w.drewN n from fun n =>
    (load_any (w.drewN n) G.mB G.gB m.mem (h.keepb ((Only.refl (fun _ => False) w).drewN n |>.below (Nat.le_refl _) (fun _ _ => id))).mem m.pc 4 h.ok.pc0 h.ok.pc1).mono fun e w' he => ⟨he.1, he.2.symm⟩)
  have HD := mhid (fun n => decode_any (loadV m.mem m.pc 4) hlv.1 hlv.2 (w.drewN n) (ht.keep ((Only.refl (fun _ => False) w).drewN n |>.below (Nat.le_refl _) (fun _ _ => id))))
  have HB := mhid (fun n => ((Only.refl (fun _ => False) w).drewN n |>.below (Nat.le_refl _) (fun _ _ => id) : Below w.heap.size w (w.drewN n)))
  have hx : ¬ spanE m.mem.length m.pc 1 4 = 0 ∨ (spanE m.mem.length m.pc 1 4 = 0 ∧ decB (loadV m.mem m.pc 4) = false) := by
    by_cases he : spanE m.mem.length m.pc 1 4 = 0
    · exact .inr ⟨he, decB_no hno he⟩
    · exact .inl he
  have c2 := h.mc.mem
  have c3 := h.mc.pc
  clear h hno ht
  generalize loadV m.mem m.pc 4 = lv at *
  generalize spanE m.mem.length m.pc 1 4 = er at *
  generalize decB lv = db at *
  generalize decS lv = dx at *
  rcases hx with he | ⟨rfl, rfl⟩
  · have e1 : (er != 0) = true := by simpa using he
    clear he
    go_enter Tryz.func109, Tryz.ntmps109
    go_wp2_with fail
    go_quiet ((go_at_call 48; exact Calls.quiet_of_same (HL.out _)))
    go_wp2_with fail
    refine (HD.out nq).mono ?_
    rintro e w1 ⟨rfl, hb⟩
    have hb1 := (HB.out nq).trans (hb.mono (HB.out nq).size)
    go_wp2_with fail
    go_ret2
    exact ⟨rfl, hb1.alloc hb1.size _⟩
  · go_enter Tryz.func109, Tryz.ntmps109
    go_wp2_with fail
    go_quiet ((go_at_call 48; exact Calls.quiet_of_same (HL.out _)))
    go_wp2_with fail
    refine (HD.out nq).mono ?_
    rintro e w1 ⟨rfl, hb⟩
    have hb1 := (HB.out nq).trans (hb.mono (HB.out nq).size)
    go_wp2_with fail
    go_ret2
    exact ⟨rfl, hb1.alloc hb1.size _⟩
end Go.Proofs.YtajholbcpmjhiaaGreatDoor
/- The walk of the machine's at, where there is an instruction. -/
namespace Go.Proofs.YtajholbcpmjhiaaGreatDoor
open Go.RowKit
theorem at_dec {m : Mx} (h : ¬ noneAt m) : spanE m.mem.length m.pc 1 4 = 0 ∧ decB (loadV m.mem m.pc 4) = true := by
  unfold noneAt at h
  refine ⟨Classical.byContradiction fun e => h (.inl e), ?_⟩
  cases hc : decB (loadV m.mem m.pc 4) with
  | true => rfl
  | false => exact absurd (.inr hc) h
def AtOk (w : World) (G : MG) (M : Nat) (m : Mx) (e : Ending) (w' : World) : Prop :=
  ∃ D, e = .returned (.tuple #[.pointer (some ⟨D, 0, none⟩), .bool true]) ∧ DoIn w' G M m D (atM m) (getM m (atM m).rs1) (sndM m (atM m)) (u32 (m.pc + 4)) ∧ w.heap.size ≤ D ∧ Below w.heap.size w w'
set_option maxRecDepth 100000 in
set_option maxHeartbeats 4000000 in
theorem mat_ok (w : World) (ht : Tab w) (G : MG) (M : Nat) (m : Mx) (h : MachAt w G M m) (hno : ¬ noneAt m) (hk : m.kind = 0) :
    Calls Tryz.prog 109 #[.pointer (some ⟨M, 0, none⟩)] w (AtOk w G M m) := by
  obtain ⟨he, hdb⟩ := at_dec hno
  have hfit := atM_fits h.ok hno
  have hlv := loadV_bd h.ok.bytes m.pc 4
  have HL := mhid (show ∀ n, Calls Tryz.prog 48 #[.pointer (some ⟨G.mB, 0, none⟩), .int .u32 m.pc, .int .i64 4] (w.drewN n) fun e w' => e = .returned (.tuple #[.int .u32 (loadV m.mem m.pc 4), .int .i64 0]) ∧ w' = w.drewN n from fun n =>
    (load_any (w.drewN n) G.mB G.gB m.mem (h.keepb ((Only.refl (fun _ => False) w).drewN n |>.below (Nat.le_refl _) (fun _ _ => id))).mem m.pc 4 h.ok.pc0 h.ok.pc1).mono fun e w' hh => ⟨by rw [hh.1, he], hh.2.symm⟩)
  have HD := mhid (show ∀ n, Calls Tryz.prog 156 #[.int .u32 (loadV m.mem m.pc 4)] (w.drewN n) fun e w2 => e = .returned (.tuple #[(atM m).agg, .bool true]) ∧ Below (w.drewN n).heap.size (w.drewN n) w2 from fun n =>
    (decode_any (loadV m.mem m.pc 4) hlv.1 hlv.2 (w.drewN n) (ht.keep ((Only.refl (fun _ => False) w).drewN n |>.below (Nat.le_refl _) (fun _ _ => id)))).mono fun e w2 hh => ⟨by rw [hh.1, hdb]; rfl, hh.2⟩)
  have HB := mhid (fun n => ((Only.refl (fun _ => False) w).drewN n |>.below (Nat.le_refl _) (fun _ _ => id) : Below w.heap.size w (w.drewN n)))
  have H := mhid h
  have c2 := h.mc.mem
  have c3 := h.mc.pc
  have HFIT := mhid hfit
  have HKK := mhid hk
  have hpc : 0 ≤ m.pc ∧ m.pc < 4294967296 := ⟨h.ok.pc0, h.ok.pc1⟩
  have HGA := mhid (show 0 ≤ (atM m).rs1 ∧ (atM m).rs1 < 32 ∧ 0 ≤ (atM m).rs2 ∧ (atM m).rs2 < 32 from ⟨hfit.a0, hfit.a1, hfit.b0, hfit.b1⟩)
  have HS2 := mhid (show sndM m (atM m) = if (atM m).is = true then u32 (atM m).imm else getM m (atM m).rs2 from rfl)
  have HAB := mhid (And.intro (getM_bd h.ok (atM m).rs1) (sndM_bd h.ok (atM m)))
  clear h hno ht he hdb hfit hlv hk
  generalize loadV m.mem m.pc 4 = lv at *
  generalize hx : atM m = x at *
  have HX := mhid hx
  clear hx
  go_enter Tryz.func109, Tryz.ntmps109
  go_wp2_with fail
  go_quiet ((go_at_call 48; exact Calls.quiet_of_same (HL.out _)))
  go_wp2_with fail
  refine (HD.out nq).mono ?_
  rintro e w1 ⟨rfl, hb⟩
  have hb1 := (HB.out nq).trans (hb.mono (HB.out nq).size)
  clear hb c2 c3 HL HD HB
  have hv := (ARow.fresh w1 41 #[.int .u8 x.op, .int .u8 x.rd, .int .u8 x.rs1, .int .u8 x.rs2, .bool x.is, .int .i32 x.imm])
  have hb2 : Below w.heap.size w (w1.alloc (.cells #[.int .u8 x.op, .int .u8 x.rd, .int .u8 x.rs1, .int .u8 x.rs2, .bool x.is, .int .i32 x.imm] 41)) := hb1.alloc hb1.size _
  have HV := mhid (And.intro hv hb2)
  clear hv hb2 hb1
  go_upto_region 5 with (fail)
  generalize hW2 : w1.alloc (.cells #[.int .u8 x.op, .int .u8 x.rd, .int .u8 x.rs1, .int .u8 x.rs2, .bool x.is, .int .i32 x.imm] 41) = W2 at *
  clear hW2
  generalize w1.heap.size = bx at *
  have HC := mhid (show ∀ w', Below W2.heap.size W2 w' → (w'.cell? ⟨bx, 0, none⟩ = some (.int .u8 x.op) ∧ w'.cell? ⟨bx, 1, none⟩ = some (.int .u8 x.rd) ∧ w'.cell? ⟨bx, 2, none⟩ = some (.int .u8 x.rs1) ∧ w'.cell? ⟨bx, 3, none⟩ = some (.int .u8 x.rs2) ∧ w'.cell? ⟨bx, 4, none⟩ = some (.bool x.is) ∧ w'.cell? ⟨bx, 5, none⟩ = some (.int .i32 x.imm)) ∧ w'.cell? ⟨M, 3, none⟩ = some (.int .u32 m.pc) from fun w' hd => by
    have hv := HV.out.1.below hd
    have hm := (H.out.keepb (HV.out.2.trans (hd.mono HV.out.2.size))).mc
    exact ⟨⟨hv.cell (k := 0) rfl, hv.cell (k := 1) rfl, hv.cell (k := 2) rfl, hv.cell (k := 3) rfl, hv.cell (k := 4) rfl, hv.cell (k := 5) rfl⟩, hm.pc⟩)
  obtain ⟨⟨b0, b1, b2, b3, b4, b5⟩, c3⟩ := HC.out W2 (Below.refl _ _)
  have HG1 := mhid (fun w' (hd : Below W2.heap.size W2 w') => mget_any w' G M m (H.out.keepb (HV.out.2.trans (hd.mono HV.out.2.size))) x.rs1 HGA.out.1 HGA.out.2.1)
  have u1 := (show IntKind.u32.wrap (m.pc + 4) = u32 (m.pc + 4) from by rw [IntKind.wrap_u32]; rfl)
  have u2 := (show IntKind.u32.wrap x.imm = u32 x.imm from by rw [IntKind.wrap_u32]; rfl)
  have hd : Below W2.heap.size W2 W2.drew := (Below.refl _ _).drew
  generalize hgq : getM m x.rs1 = ga at *
  have HGQ := mhid hgq
  clear hgq
  go_region_held3 (fun w' => (w'.cell? ⟨bx, 0, none⟩ = some (.int .u8 x.op) ∧ w'.cell? ⟨bx, 1, none⟩ = some (.int .u8 x.rd) ∧ w'.cell? ⟨bx, 2, none⟩ = some (.int .u8 x.rs1) ∧ w'.cell? ⟨bx, 3, none⟩ = some (.int .u8 x.rs2) ∧ w'.cell? ⟨bx, 4, none⟩ = some (.bool x.is) ∧ w'.cell? ⟨bx, 5, none⟩ = some (.int .i32 x.imm)) ∧ w'.cell? ⟨M, 3, none⟩ = some (.int .u32 m.pc)) (first | (with_reducible exact ⟨⟨b0, b1, b2, b3, b4, b5⟩, c3⟩) | (exact HC.out _ hb3.out) | (exact HC.out _ (hb3.out.alloc hb3.out.size _)) | (refine HC.out _ ?_; go_grown; done))
    ((go_at_call 157; (with_reducible refine (HG1.out _ hd).mono ?_); rintro e W3 ⟨rfl, q, rfl⟩; have hb3 := mhid (hd.trans ((Only.refl (fun _ => False) W2.drew).drewN q |>.below hd.size (fun _ _ => id))); generalize W2.drew.drewN q = W3 at *))
  have hd0 := ARow.fresh W3 176 #[.pointer (some ⟨M, 0, none⟩), .int .u8 x.op, .int .u8 x.rd, .int .u8 x.rs1, .int .u8 x.rs2, .bool x.is, .int .i32 x.imm, .int .u32 ga, .int .u32 (u32 x.imm), .int .u32 (u32 (m.pc + 4))]
  have hb4 : Below W2.heap.size W2 (W3.alloc (.cells #[.pointer (some ⟨M, 0, none⟩), .int .u8 x.op, .int .u8 x.rd, .int .u8 x.rs1, .int .u8 x.rs2, .bool x.is, .int .i32 x.imm, .int .u32 ga, .int .u32 (u32 x.imm), .int .u32 (u32 (m.pc + 4))] 176)) := hb3.out.alloc hb3.out.size _
  have HD0 := mhid (And.intro hd0 (And.intro hb4 hb3.out.size))
  clear hd0 hb4 b0 b1 b2 b3 b4 b5 c3
  generalize W3.alloc (.cells #[.pointer (some ⟨M, 0, none⟩), .int .u8 x.op, .int .u8 x.rd, .int .u8 x.rs1, .int .u8 x.rs2, .bool x.is, .int .i32 x.imm, .int .u32 ga, .int .u32 (u32 x.imm), .int .u32 (u32 (m.pc + 4))] 176) = W4 at *
  generalize W3.heap.size = D at *
  have HB4 := mhid (HV.out.2.trans (HD0.out.2.1.mono HV.out.2.size))
  have hrD : G.R D = .none := by
    cases hr : G.R D with
    | none => rfl
    | _ =>
      have h1 := H.out.lt D (by rw [hr]; simp)
      have h2 := HV.out.2.size
      have h3 := HD0.out.2.2
      omega
  have HR := mhid hrD
  clear hrD
  have HDO := mhid (show ∀ W5 (bb : Int), DAt W5 D M x ga bb (u32 (m.pc + 4)) → Below W4.heap.size W4 W5 ∨ Only (fun k => k = D) W4 W5 → (0 ≤ bb ∧ bb < 4294967296) → DoIn W5 G M m D x ga bb (u32 (m.pc + 4)) from fun W5 bb hd ho hbb =>
    ⟨by
      have h4 := H.out.keepb HB4.out
      rcases ho with ho | ho
      · exact h4.keepb ho
      · exact h4.keep ho (fun k hk e => hk (by rw [e]; exact HR.out)), hd, HR.out, HFIT.out, HAB.out.1, hbb, u32_bd _, HKK.out⟩)
  obtain ⟨⟨b0, b1, b2, b3, b4, b5⟩, c3⟩ := HC.out W4 HD0.out.2.1
  have HSIZ := mhid (show w.heap.size ≤ D from Nat.le_trans HV.out.2.size HD0.out.2.2)
  cases hxi : x.is with
  | true =>
    have hse : sndM m x = u32 x.imm := by rw [HS2.out, if_pos hxi]
    have HSE := mhid hse
    clear hse
    go_wp2_with fail
    go_ret2
    refine ⟨D, rfl, ?_, HSIZ.out, HB4.out⟩
    rw [HX.out, HSE.out, HGQ.out]
    exact HDO.out W4 _ HD0.out.1 (.inl (Below.refl _ _)) (u32_bd _)
  | false =>
    have hse : sndM m x = getM m x.rs2 := by rw [HS2.out, if_neg (by rw [hxi]; simp)]
    have HSE := mhid hse
    clear hse
    have HG2 := mhid (fun w' (hd : Below W4.heap.size W4 w') => mget_any w' G M m (H.out.keepb (HB4.out.trans (hd.mono HB4.out.size))) x.rs2 HGA.out.2.2.1 HGA.out.2.2.2)
    have hga := getM_bd H.out.ok x.rs2
    generalize getM m x.rs2 = gb at *
    have hd8 := HD0.out.1.cell (k := 8) rfl
    have fd8 := HD0.out.1.frozen 8
    have hd4 : Below W4.heap.size W4 W4.drew := (Below.refl _ _).drew
    have HC4 := mhid (show ∀ w', Below W4.heap.size W4 w' → w'.cell? ⟨bx, 3, none⟩ = some (.int .u8 x.rs2) ∧ w'.cell? ⟨D, 8, none⟩ = some (.int .u32 (u32 x.imm)) ∧ w'.frozen? ⟨D, 8, none⟩ = false from fun w' hd => by
      have h2 := HC.out w' (HD0.out.2.1.trans (hd.mono HD0.out.2.1.size))
      have h3 := HD0.out.1.below hd
      exact ⟨h2.1.2.2.2.1, h3.cell (k := 8) rfl, h3.frozen 8⟩)
    have hnbd : ¬ bx = D := by
      have := HV.out.1.lt
      have := HD0.out.2.2
      omega
    have HC5 := mhid (show ∀ w' v, Below W4.heap.size W4 w' → (w'.setCell ⟨D, 8, none⟩ v).cell? ⟨bx, 3, none⟩ = some (.int .u8 x.rs2) from fun w' v hd => by
      rw [World.cell?_setCell_other _ _ _ _ (fun e => hnbd (congrArg Addr.block e).symm)]
      exact (HC4.out w' hd).1)
    clear hnbd b0 b1 b2 b5 c3
    go_wp2_with fail
    refine (HG2.out _ (Below.refl _ _)).mono ?_
    rintro e W5' ⟨rfl, q, rfl⟩
    have hb5 := mhid ((Only.refl (fun _ => False) W4).drewN q |>.below (Nat.le_refl _) (fun _ _ => id))
    generalize W4.drewN q = W5 at *
    obtain ⟨_, y8, yf8⟩ := HC4.out W5 hb5.out
    go_wp2_with fail
    go_ret2
    have o5 : Below w.heap.size w (W5.setCell ⟨D, 8, none⟩ (.int .u32 gb)) := (HB4.out.trans (hb5.out.mono HB4.out.size)).setCell (p := ⟨D, 8, none⟩) HSIZ.out _
    refine ⟨D, rfl, ?_, HSIZ.out, o5⟩
    rw [HX.out, HSE.out, HGQ.out]
    exact HDO.out _ _ ((HD0.out.1.below hb5.out).set 8 (.int .u32 gb)) (.inr ((Only.of_below (S := fun k => k = D) hb5.out).setCell (p := ⟨D, 8, none⟩) rfl _)) hga
end Go.Proofs.YtajholbcpmjhiaaGreatDoor
