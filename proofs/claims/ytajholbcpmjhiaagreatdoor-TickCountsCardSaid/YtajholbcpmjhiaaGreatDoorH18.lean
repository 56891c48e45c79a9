/- Several texts in one: MachStep. -/
import Derived.Test.YtajholbcpmjhiaaGreatDoorH15
import Derived.Test.YtajholbcpmjhiaaGreatDoorH17
set_option linter.unusedVariables false
set_option linter.unusedSimpArgs false
/- The walks of the machine's Stop and Step. -/
namespace Go.Proofs.YtajholbcpmjhiaaGreatDoor
open Go.RowKit
set_option maxRecDepth 100000 in
set_option maxHeartbeats 1000000 in
theorem mstop_any (w : World) (G : MG) (M : Nat) (m : Mx) (h : MachAt w G M m) :
    Calls Tryz.prog 107 #[.pointer (some ⟨M, 0, none⟩)] w fun e w' => e = .returned (.agg #[.int .u8 m.kind, .int .u32 m.v]) ∧ Below w.heap.size w w' := by
  obtain ⟨W, hW⟩ : ∃ W, W = w.alloc (.cells #[.int .u8 0, .int .u32 0] 89) := ⟨_, rfl⟩
  have hb : Below w.heap.size w W := by rw [hW]; exact (Below.refl _ _).alloc (Nat.le_refl _) _
  have hbx : ARow W w.heap.size 89 [.int .u8 0, .int .u32 0] := by rw [hW]; exact ARow.fresh w 89 #[.int .u8 0, .int .u32 0]
  have H := mhid (h.keepb hb)
  have HB := mhid hb
  have HN := mhid (mmnone_made W M _ H.out.mc.f)
  have c45 := H.out.mc.kind
  have c46 := H.out.mc.v
  have HX := mhid hbx
  have b0 := hbx.cell (k := 0) rfl
  have b1 := hbx.cell (k := 1) rfl
  have x0 := hbx.frozen 0
  have x1 := hbx.frozen 1
  clear h hb hbx
  go_enter Tryz.func107, Tryz.ntmps107
  go_wp2_with fail
  rw [← hW]
  clear hW
  refine HN.out.mono ?_
  rintro e w' ⟨rfl, rfl⟩
  go_wp2_with fail
  have HQ := mhid ((HX.out.set 0 (.int .u8 m.kind)).set 1 (.int .u32 m.v))
  have HF := mhid ((HB.out.setCell (p := ⟨w.heap.size, 0, none⟩) (Nat.le_refl _) (.int .u8 m.kind)).setCell (p := ⟨w.heap.size, 1, none⟩) (Nat.le_refl _) (.int .u32 m.v))
  clear b0 b1 x0 x1
  generalize (W.setCell ⟨w.heap.size, 0, none⟩ (.int .u8 m.kind)).setCell ⟨w.heap.size, 1, none⟩ (.int .u32 m.v) = Wf at *
  have hr0 := HQ.out.cell (k := 0) rfl
  have hr1 := HQ.out.cell (k := 1) rfl
  refine bodyPost_ret (v := .agg #[.int .u8 m.kind, .int .u32 m.v]) (by simp [results, Tryz.results107, go_sem, hr0, hr1]; try rfl) rfl ?_
  exact ⟨rfl, HF.out⟩
set_option maxRecDepth 100000 in
theorem mops_nil (op : Nat) (h : op ≤ 14) (w : World) : (Instr.index 173 (.agg mopsV) (.int .u8 (op : Int))).run Tryz.prog w = .ok .nilFunc w := by
  have hc : op = 0 ∨ op = 1 ∨ op = 2 ∨ op = 3 ∨ op = 4 ∨ op = 5 ∨ op = 6 ∨ op = 7 ∨ op = 8 ∨ op = 9 ∨ op = 10 ∨ op = 11 ∨ op = 12 ∨ op = 13 ∨ op = 14 := by omega
  rcases hc with rfl | rfl | rfl | rfl | rfl | rfl | rfl | rfl | rfl | rfl | rfl | rfl | rfl | rfl | rfl <;> rfl
set_option maxRecDepth 100000 in
theorem mops_fn (op : Nat) (h : 15 ≤ op) (h2 : op ≤ 37) (w : World) : (Instr.index 173 (.agg mopsV) (.int .u8 (op : Int))).run Tryz.prog w = .ok (.func (.func (mfnOf op)) #[] #[]) w := by
  have hc : op = 15 ∨ op = 16 ∨ op = 17 ∨ op = 18 ∨ op = 19 ∨ op = 20 ∨ op = 21 ∨ op = 22 ∨ op = 23 ∨ op = 24 ∨ op = 25 ∨ op = 26 ∨ op = 27 ∨ op = 28 ∨ op = 29 ∨ op = 30 ∨ op = 31 ∨ op = 32 ∨ op = 33 ∨ op = 34 ∨ op = 35 ∨ op = 36 ∨ op = 37 := by omega
  rcases hc with rfl | rfl | rfl | rfl | rfl | rfl | rfl | rfl | rfl | rfl | rfl | rfl | rfl | rfl | rfl | rfl | rfl | rfl | rfl | rfl | rfl | rfl | rfl <;> rfl
set_option maxRecDepth 100000 in
theorem fn_nil (w : World) : (binOp .eql 172 .nilFunc .nilFunc).run Tryz.prog w = .ok (.bool true) w := by kernel_rfl
set_option maxRecDepth 100000 in
theorem fn_some (f : Fn) (w : World) : (binOp .eql 172 (.func f #[] #[]) .nilFunc).run Tryz.prog w = .ok (.bool false) w := by rfl
def MGoes (w : World) (G : MG) (M : Nat) (m' : Mx) (w' : World) : Prop :=
  ∃ G', MachAt w' G' M m' ∧ Only G.own w w' ∧ ∀ k, k < w.heap.size → G'.R k = G.R k
def RKeep (w : World) (G G' : MG) : Prop := ∀ k, k < w.heap.size → G'.R k = G.R k
def StepOk (w : World) (G : MG) (M : Nat) (m' : Mx) (e : Ending) (w' : World) : Prop :=
  e = .returned (.agg #[.int .u8 m'.kind, .int .u32 m'.v]) ∧ MGoes w G M m' w'
set_option maxRecDepth 100000 in
set_option maxHeartbeats 4000000 in
theorem mstep_stop (w : World) (ht : Tab w) (hbr : Bru w) (G : MG) (M : Nat) (m : Mx) (h : MachAt w G M m) (level : Int) (hl0 : 0 ≤ level) (hl1 : level < 256) (hk : m.kind ≠ 0) :
    Calls Tryz.prog 45 #[.pointer (some ⟨M, 0, none⟩), .int .u8 level] w (StepOk w G M (stepM m level)) := by
  obtain ⟨B, hB⟩ : ∃ B, B = w.heap.size := ⟨_, rfl⟩
  obtain ⟨W, hW⟩ : ∃ W, W = w.alloc (.cells #[.int .u8 0, .int .u32 0] 89) := ⟨_, rfl⟩
  have hb : Below w.heap.size w W := by rw [hW]; exact (Below.refl _ _).alloc (Nat.le_refl _) _
  have hbx : ARow W B 89 [.int .u8 0, .int .u32 0] := by rw [hW, hB]; exact ARow.fresh w 89 #[.int .u8 0, .int .u32 0]
  have hrb : G.R B = .none := by
    cases hr : G.R B with
    | none => rfl
    | _ => exact absurd (h.lt B (by rw [hr]; simp)) (by omega)
  have HBW := mhid (show w.heap.size ≤ B from by omega)
  have H := mhid (h.keepb hb)
  have HB := mhid hb
  have HX := mhid hbx
  have HRB0 := mhid hrb
  have HN := mhid (mmnone_made W M _ H.out.mc.f)
  have c45 := H.out.mc.kind
  have HST := mhid (show stepM m level = m from if_pos hk)
  have HSP := mhid (mstop_any W G M m H.out)
  have k0 : (m.kind != 0) = true := by simpa using hk
  clear h hb hbx hrb hk ht hbr
  go_enter Tryz.func45, Tryz.ntmps45
  go_wp2_with fail
  rw [← hW, ← hB]
  clear hW hB
  refine HN.out.mono ?_
  rintro e w' ⟨rfl, rfl⟩
  go_wp2_with fail
  refine HSP.out.mono ?_
  rintro e w1 ⟨rfl, hb1⟩
  have HBX := mhid (HX.out.below hb1)
  have HM := mhid (H.out.keepb hb1)
  have HO := mhid (show Only G.own w w1 from Only.of_below (HB.out.trans (hb1.mono HB.out.size)))
  have HRB := HRB0
  have HR := mhid (show RKeep w G G from fun _ _ => rfl)
  clear c45
  have c45 := HM.out.mc.kind
  have c46 := HM.out.mc.v
  have b0 := HBX.out.cell (k := 0) rfl
  have b1 := HBX.out.cell (k := 1) rfl
  have x0 := HBX.out.frozen 0
  have x1 := HBX.out.frozen 1
  go_wp2_with fail
  have HQ := mhid ((HBX.out.set 0 (.int .u8 (m).kind)).set 1 (.int .u32 (m).v))
  have HF := mhid (HM.out.keep (((Only.refl (fun k => k = B) w1).setCell (p := ⟨B, 0, none⟩) rfl (.int .u8 (m).kind)).setCell (p := ⟨B, 1, none⟩) rfl (.int .u32 (m).v)) (fun k hk e => hk (by rw [e]; exact HRB.out)))
  have HOF := mhid (show Only G.own w ((w1.setCell ⟨B, 0, none⟩ (.int .u8 (m).kind)).setCell ⟨B, 1, none⟩ (.int .u32 (m).v)) from HO.out.fresh (((Only.refl (fun k => k = B) w1).setCell (p := ⟨B, 0, none⟩) rfl _).setCell (p := ⟨B, 1, none⟩) rfl _) (fun k hk e => by have := HBW.out; omega))
  clear b0 b1 x0 x1 c45 c46
  generalize (w1.setCell ⟨B, 0, none⟩ (.int .u8 (m).kind)).setCell ⟨B, 1, none⟩ (.int .u32 (m).v) = Wf at *
  have hr0 := HQ.out.cell (k := 0) rfl
  have hr1 := HQ.out.cell (k := 1) rfl
  rw [HST.out]
  refine bodyPost_ret (v := .agg #[.int .u8 (m).kind, .int .u32 (m).v]) (by simp [results, Tryz.results45, go_sem, hr0, hr1]; try rfl) rfl ?_
  exact ⟨rfl, G, HF.out, HOF.out, HR.out⟩
set_option maxRecDepth 100000 in
set_option maxHeartbeats 4000000 in
theorem mstep_irq (w : World) (ht : Tab w) (hbr : Bru w) (G : MG) (M : Nat) (m : Mx) (h : MachAt w G M m) (level : Int) (hl0 : 0 ≤ level) (hl1 : level < 256) (hk : m.kind = 0) (hi : level < 16 ∧ m.p.pil < level) :
    Calls Tryz.prog 45 #[.pointer (some ⟨M, 0, none⟩), .int .u8 level] w (StepOk w G M (stepM m level)) := by
  obtain ⟨B, hB⟩ : ∃ B, B = w.heap.size := ⟨_, rfl⟩
  obtain ⟨W, hW⟩ : ∃ W, W = w.alloc (.cells #[.int .u8 0, .int .u32 0] 89) := ⟨_, rfl⟩
  have hb : Below w.heap.size w W := by rw [hW]; exact (Below.refl _ _).alloc (Nat.le_refl _) _
  have hbx : ARow W B 89 [.int .u8 0, .int .u32 0] := by rw [hW, hB]; exact ARow.fresh w 89 #[.int .u8 0, .int .u32 0]
  have hrb : G.R B = .none := by
    cases hr : G.R B with
    | none => rfl
    | _ => exact absurd (h.lt B (by rw [hr]; simp)) (by omega)
  have HBW := mhid (show w.heap.size ≤ B from by omega)
  have H := mhid (h.keepb hb)
  have HB := mhid hb
  have HX := mhid hbx
  have HRB0 := mhid hrb
  have HN := mhid (mmnone_made W M _ H.out.mc.f)
  have c45 := H.out.mc.kind
  have HST := mhid (show stepM m level = irqM m level from by unfold stepM; rw [if_neg (by rw [hk]; simp), if_pos hi])
  have HTR := mhid (mtrap_any W G M m H.out level (16 + level) m.pc (by omega) (by omega) ⟨h.ok.pc0, h.ok.pc1⟩)
  have k0 : (m.kind != 0) = false := by simp [hk]
  have c6 := H.out.mc.pil
  have c3 := H.out.mc.pc
  obtain ⟨hi1, hi2⟩ := hi
  have u8 : IntKind.u8.wrap (16 + level) = 16 + level := by rw [IntKind.wrap_u8]; omega
  clear h hb hbx hrb hk ht hbr
  generalize m.p.pil = pil at *
  go_enter Tryz.func45, Tryz.ntmps45
  go_wp2_with fail
  rw [← hW, ← hB]
  clear hW hB
  refine HN.out.mono ?_
  rintro e w' ⟨rfl, rfl⟩
  go_wp2_with fail
  refine HTR.out.mono ?_
  rintro e w1 ⟨rfl, hm, ho⟩
  have d6 := hm.mc.pil
  have f6 := hm.mc.fz 6
  have hMB : ¬ B = M := fun e => by have h1 := HRB0.out; rw [e, H.out.rM] at h1; cases h1
  have HM := mhid (show MachAt (w1.setCell ⟨M, 6, none⟩ (.int .u8 level)) G M (irqM m level) from hm.setPil (by omega))
  have HBX := mhid (((HX.out.of_block (ho.block B HX.out.lt hMB)).other (a := ⟨M, 6, none⟩) hMB (.int .u8 level)))
  have HO := mhid (show Only G.own w (w1.setCell ⟨M, 6, none⟩ (.int .u8 level)) from ((Only.of_below HB.out).trans (ho.mono (fun k _ e => e ▸ H.out.ownM))).setCell (p := ⟨M, 6, none⟩) H.out.ownM _)
  have HRB := HRB0
  have HR := mhid (show RKeep w G G from fun _ _ => rfl)
  clear hm ho c45 c6 c3 hMB
  go_upto_region 6 with (fail)
  generalize w1.setCell ⟨M, 6, none⟩ (.int .u8 level) = w2 at *
  clear d6 f6
  have c45 := HM.out.mc.kind
  have c46 := HM.out.mc.v
  have b0 := HBX.out.cell (k := 0) rfl
  have b1 := HBX.out.cell (k := 1) rfl
  have x0 := HBX.out.frozen 0
  have x1 := HBX.out.frozen 1
  go_wp2_with fail
  have HQ := mhid ((HBX.out.set 0 (.int .u8 (irqM m level).kind)).set 1 (.int .u32 (irqM m level).v))
  have HF := mhid (HM.out.keep (((Only.refl (fun k => k = B) w2).setCell (p := ⟨B, 0, none⟩) rfl (.int .u8 (irqM m level).kind)).setCell (p := ⟨B, 1, none⟩) rfl (.int .u32 (irqM m level).v)) (fun k hk e => hk (by rw [e]; exact HRB.out)))
  have HOF := mhid (show Only G.own w ((w2.setCell ⟨B, 0, none⟩ (.int .u8 (irqM m level).kind)).setCell ⟨B, 1, none⟩ (.int .u32 (irqM m level).v)) from HO.out.fresh (((Only.refl (fun k => k = B) w2).setCell (p := ⟨B, 0, none⟩) rfl _).setCell (p := ⟨B, 1, none⟩) rfl _) (fun k hk e => by have := HBW.out; omega))
  clear b0 b1 x0 x1 c45 c46
  generalize (w2.setCell ⟨B, 0, none⟩ (.int .u8 (irqM m level).kind)).setCell ⟨B, 1, none⟩ (.int .u32 (irqM m level).v) = Wf at *
  have hr0 := HQ.out.cell (k := 0) rfl
  have hr1 := HQ.out.cell (k := 1) rfl
  rw [HST.out]
  refine bodyPost_ret (v := .agg #[.int .u8 (irqM m level).kind, .int .u32 (irqM m level).v]) (by simp [results, Tryz.results45, go_sem, hr0, hr1]; try rfl) rfl ?_
  exact ⟨rfl, G, HF.out, HOF.out, HR.out⟩
set_option maxRecDepth 100000 in
set_option maxHeartbeats 4000000 in
theorem mstep_no (w : World) (ht : Tab w) (hbr : Bru w) (G : MG) (M : Nat) (m : Mx) (h : MachAt w G M m) (level : Int) (hl0 : 0 ≤ level) (hl1 : level < 256) (hk : m.kind = 0) (hi : ¬ (level < 16 ∧ m.p.pil < level)) (hno : noneAt m) :
    Calls Tryz.prog 45 #[.pointer (some ⟨M, 0, none⟩), .int .u8 level] w (StepOk w G M (stepM m level)) := by
  obtain ⟨B, hB⟩ : ∃ B, B = w.heap.size := ⟨_, rfl⟩
  obtain ⟨W, hW⟩ : ∃ W, W = w.alloc (.cells #[.int .u8 0, .int .u32 0] 89) := ⟨_, rfl⟩
  have hb : Below w.heap.size w W := by rw [hW]; exact (Below.refl _ _).alloc (Nat.le_refl _) _
  have hbx : ARow W B 89 [.int .u8 0, .int .u32 0] := by rw [hW, hB]; exact ARow.fresh w 89 #[.int .u8 0, .int .u32 0]
  have hrb : G.R B = .none := by
    cases hr : G.R B with
    | none => rfl
    | _ => exact absurd (h.lt B (by rw [hr]; simp)) (by omega)
  have HBW := mhid (show w.heap.size ≤ B from by omega)
  have H := mhid (h.keepb hb)
  have HB := mhid hb
  have HX := mhid hbx
  have HRB0 := mhid hrb
  have HN := mhid (mmnone_made W M _ H.out.mc.f)
  have c45 := H.out.mc.kind
  have HST := mhid (show stepM m level = haltM m 3 0 from by unfold stepM; rw [if_neg (by rw [hk]; simp), if_neg hi]; unfold runM; rw [if_pos hno])
  have HAT := mhid (mat_no W (ht.keep hb) G M m H.out hno)
  have k0 : (m.kind != 0) = false := by simp [hk]
  have c6 := H.out.mc.pil
  have hi2 : ¬ level < 16 ∨ (level < 16 ∧ ¬ m.p.pil < level) := by omega
  clear h hb hbx hrb hk ht hbr hi hno
  generalize m.p.pil = pil at *
  rcases hi2 with hi2 | ⟨hi2, hi3⟩
  all_goals
    go_enter Tryz.func45, Tryz.ntmps45
    go_wp2_with fail
    rw [← hW, ← hB]
    clear hW hB
    refine HN.out.mono ?_
    rintro e w' ⟨rfl, rfl⟩
    go_wp2_with fail
    refine HAT.out.mono ?_
    rintro e w0 ⟨rfl, hb0⟩
    have HHL := mhid (mhalt_any w0 G M m (H.out.keepb hb0) 3 0 (by omega) (by omega))
    go_wp2_with fail
    refine HHL.out.mono ?_
    rintro e w1 ⟨rfl, hm, ho⟩
    have hMB : ¬ B = M := fun e => by have h1 := HRB0.out; rw [e, H.out.rM] at h1; cases h1
    have hX0 := HX.out.below hb0
    have HM := mhid hm
    have HBX := mhid (hX0.of_block (ho.block B hX0.lt hMB))
    have HO := mhid (show Only G.own w w1 from (Only.of_below (HB.out.trans (hb0.mono HB.out.size))).trans (ho.mono (fun k _ e => e ▸ H.out.ownM)))
    have HRB := HRB0
    have HR := mhid (show RKeep w G G from fun _ _ => rfl)
    clear hm ho c45 c6 hMB hX0
    have c45 := HM.out.mc.kind
    have c46 := HM.out.mc.v
    have b0 := HBX.out.cell (k := 0) rfl
    have b1 := HBX.out.cell (k := 1) rfl
    have x0 := HBX.out.frozen 0
    have x1 := HBX.out.frozen 1
    go_wp2_with fail
    have HQ := mhid ((HBX.out.set 0 (.int .u8 (haltM m 3 0).kind)).set 1 (.int .u32 (haltM m 3 0).v))
    have HF := mhid (HM.out.keep (((Only.refl (fun k => k = B) w1).setCell (p := ⟨B, 0, none⟩) rfl (.int .u8 (haltM m 3 0).kind)).setCell (p := ⟨B, 1, none⟩) rfl (.int .u32 (haltM m 3 0).v)) (fun k hk e => hk (by rw [e]; exact HRB.out)))
    have HOF := mhid (show Only G.own w ((w1.setCell ⟨B, 0, none⟩ (.int .u8 (haltM m 3 0).kind)).setCell ⟨B, 1, none⟩ (.int .u32 (haltM m 3 0).v)) from HO.out.fresh (((Only.refl (fun k => k = B) w1).setCell (p := ⟨B, 0, none⟩) rfl _).setCell (p := ⟨B, 1, none⟩) rfl _) (fun k hk e => by have := HBW.out; omega))
    clear b0 b1 x0 x1 c45 c46
    generalize (w1.setCell ⟨B, 0, none⟩ (.int .u8 (haltM m 3 0).kind)).setCell ⟨B, 1, none⟩ (.int .u32 (haltM m 3 0).v) = Wf at *
    have hr0 := HQ.out.cell (k := 0) rfl
    have hr1 := HQ.out.cell (k := 1) rfl
    rw [HST.out]
    refine bodyPost_ret (v := .agg #[.int .u8 (haltM m 3 0).kind, .int .u32 (haltM m 3 0).v]) (by simp [results, Tryz.results45, go_sem, hr0, hr1]; try rfl) rfl ?_
    exact ⟨rfl, G, HF.out, HOF.out, HR.out⟩
set_option maxRecDepth 100000 in
set_option maxHeartbeats 4000000 in
theorem mstep_run (w : World) (ht : Tab w) (hbr : Bru w) (G : MG) (M : Nat) (m : Mx) (h : MachAt w G M m) (level : Int) (hl0 : 0 ≤ level) (hl1 : level < 256) (hk : m.kind = 0) (hi : ¬ (level < 16 ∧ m.p.pil < level)) (hno : ¬ noneAt m) (hol : m.out.length < 4294967296) :
    Calls Tryz.prog 45 #[.pointer (some ⟨M, 0, none⟩), .int .u8 level] w (StepOk w G M (stepM m level)) := by
  obtain ⟨B, hB⟩ : ∃ B, B = w.heap.size := ⟨_, rfl⟩
  obtain ⟨W, hW⟩ : ∃ W, W = w.alloc (.cells #[.int .u8 0, .int .u32 0] 89) := ⟨_, rfl⟩
  have hb : Below w.heap.size w W := by rw [hW]; exact (Below.refl _ _).alloc (Nat.le_refl _) _
  have hbx : ARow W B 89 [.int .u8 0, .int .u32 0] := by rw [hW, hB]; exact ARow.fresh w 89 #[.int .u8 0, .int .u32 0]
  have hrb : G.R B = .none := by
    cases hr : G.R B with
    | none => rfl
    | _ => exact absurd (h.lt B (by rw [hr]; simp)) (by omega)
  have HBW := mhid (show w.heap.size ≤ B from by omega)
  have H := mhid (h.keepb hb)
  have HB := mhid hb
  have HX := mhid hbx
  have HRB0 := mhid hrb
  have HN := mhid (mmnone_made W M _ H.out.mc.f)
  have c45 := H.out.mc.kind
  have HST := mhid (show stepM m level = opS m (atM m) (getM m (atM m).rs1) (sndM m (atM m)) from by unfold stepM; rw [if_neg (by rw [hk]; simp), if_neg hi]; unfold runM; rw [if_neg hno])
  have HAT := mhid (mat_ok W (ht.keep hb) G M m H.out hno hk)
  have hfit := atM_fits h.ok hno
  have k0 : (m.kind != 0) = false := by simp [hk]
  have c6 := H.out.mc.pil
  have hi2 : ¬ level < 16 ∨ (level < 16 ∧ ¬ m.p.pil < level) := by omega
  have HBR := mhid (hbr.keep hb)
  have HOPS := mhid (fun W => moperations_any W)
  have hx0 := hfit.op0
  have hx1 := hfit.op1
  clear h hb hbx hrb hk ht hbr hi hno hfit
  generalize m.p.pil = pil at *
  rcases hi2 with hi2 | ⟨hi2, hi3⟩
  all_goals
    go_enter Tryz.func45, Tryz.ntmps45
    go_wp2_with fail
    rw [← hW, ← hB]
    clear hW hB
    refine HN.out.mono ?_
    rintro e w' ⟨rfl, rfl⟩
    go_wp2_with fail
    refine HAT.out.mono ?_
    rintro e w0 ⟨D, rfl, hdo, hDW, hb0⟩
    have hb2 := HB.out.trans (hb0.mono HB.out.size)
    have HDO := mhid hdo
    have HDB := mhid (And.intro hDW hb0)
    have hX0 := HX.out.below hb0
    have HX0 := mhid hX0
    have HO0 := mhid (show Only G.own w w0 from Only.of_below hb2)
    have d1 := hdo.dc.d1
    have HS1 := mhid (show ∀ w', Below w0.heap.size w0 w' → w'.cell? ⟨D, 1, none⟩ = some (.int .u8 (atM m).op) from fun w' hd => (HDO.out.keepb hd).dc.d1)
    have hd0 : Below w0.heap.size w0 w0.drew := (Below.refl _ _).drew
    obtain ⟨k, hk⟩ : ∃ k : Nat, (atM m).op = k := ⟨(atM m).op.toNat, by omega⟩
    have HK := mhid hk
    clear hdo hX0 c45 c6 hb0
    rw [hk] at d1 HS1 hx0 hx1
    clear hk
    go_wp2_with fail
    by_cases h14 : k ≤ 14
    · have hix := fun w => mops_nil k h14 w
      go_region_held3 (fun w' => w'.cell? ⟨D, 1, none⟩ = some (.int .u8 k)) (first | (with_reducible exact d1) | (refine HS1.out _ ?_; go_grown; done))
        ((go_at_call 111; (with_reducible refine (HOPS.out _).mono ?_); rintro e w1 ⟨rfl, hb10⟩; have hb1 : Below w0.heap.size w0 w1 := hd0.trans (hb10.mono hd0.size)))
      have HX1 := mhid (HX0.out.below hb1)
      have HO1 := mhid (HO0.out.trans (Only.of_below hb1))
      have H1 := mhid (HDO.out.keepb hb1)
      have HDI := mhid (mdisp_any w1 (HBR.out.keep (HDB.out.2.trans (hb1.mono HDB.out.2.size))) G M m D (atM m) _ _ _ H1.out rfl hol)
      rw [show (atM m).op.toNat = k from by have := HK.out; omega] at HDI
      clear d1 HS1 hb10 hd0
      rw [mfn_alu h14] at HDI
      have hnil := fun w => fn_nil w
      go_wp2_with fail
      refine HDI.out.mono ?_
      rintro e w2 ⟨rfl, G', m1, n1, hm, hd, ho, hR, hn1, hf⟩
      have hrb2 : G'.R B = .none := (hR B HX1.out.lt).trans HRB0.out
      have hob : ¬ (G.own B ∨ B = D) := fun hc => by
        rcases hc with hc | hc
        · exact hc.1 HRB0.out
        · have h1 := HX0.out.lt
          have h2 := HX.out.lt
          have h3 := HDB.out.1
          omega
      have hX2 := HX1.out.of_block (ho.block B HX1.out.lt hob)
      have hO2 : Only G.own w w2 := HO1.out.fresh ho (fun k hk hc => by
        rcases hc with hc | hc
        · exact hc
        · have h1 := HDB.out.1
          have h2 := HB.out.size
          omega)
      have hR2 : RKeep w G G' := fun k hk => hR k (Nat.lt_of_lt_of_le hk HO1.out.size)
      have HRB := mhid hrb2
      have HR := mhid hR2
      clear hrb2 hob hR2 hix hnil
      by_cases hk1 : m1.kind = 0
      · have k1 : (m1.kind == 0) = true := by simp [hk1]
        have HST2 := mhid (HST.out.trans ((hf.symm).trans (finM_run hk1)))
        have e45 := hm.mc.kind
        have e3 := hm.mc.pc
        have g3 := hm.mc.fz 3
        have d9 := (DAt.dc (G := G) (m := m) hd).d9
        have HM := mhid (hm.setPc hn1)
        have hMB : ¬ B = M := fun e => by have h1 := HRB.out; rw [e, hm.rM] at h1; cases h1
        have HBX := mhid (hX2.other (a := ⟨M, 3, none⟩) hMB (.int .u32 n1))
        have HO := mhid (show Only G.own w (w2.setCell ⟨M, 3, none⟩ (.int .u32 n1)) from hO2.setCell (p := ⟨M, 3, none⟩) H.out.ownM _)
        clear hm hd ho hR hf hX2 hO2 hMB HST hk1
        have HST := HST2
        have hX2 := True.intro
        go_upto_region 17 with (fail)
        generalize w2.setCell ⟨M, 3, none⟩ (.int .u32 n1) = w3 at *
        clear e45 e3 g3 d9 k1
        have c45 := HM.out.mc.kind
        have c46 := HM.out.mc.v
        have b0 := HBX.out.cell (k := 0) rfl
        have b1 := HBX.out.cell (k := 1) rfl
        have x0 := HBX.out.frozen 0
        have x1 := HBX.out.frozen 1
        go_wp2_with fail
        have HQ := mhid ((HBX.out.set 0 (.int .u8 ({ m1 with pc := n1 }).kind)).set 1 (.int .u32 ({ m1 with pc := n1 }).v))
        have HF := mhid (HM.out.keep (((Only.refl (fun k => k = B) w3).setCell (p := ⟨B, 0, none⟩) rfl (.int .u8 ({ m1 with pc := n1 }).kind)).setCell (p := ⟨B, 1, none⟩) rfl (.int .u32 ({ m1 with pc := n1 }).v)) (fun k hk e => hk (by rw [e]; exact HRB.out)))
        have HOF := mhid (show Only G.own w ((w3.setCell ⟨B, 0, none⟩ (.int .u8 ({ m1 with pc := n1 }).kind)).setCell ⟨B, 1, none⟩ (.int .u32 ({ m1 with pc := n1 }).v)) from HO.out.fresh (((Only.refl (fun k => k = B) w3).setCell (p := ⟨B, 0, none⟩) rfl _).setCell (p := ⟨B, 1, none⟩) rfl _) (fun k hk e => by have := HBW.out; omega))
        clear b0 b1 x0 x1 c45 c46
        generalize (w3.setCell ⟨B, 0, none⟩ (.int .u8 ({ m1 with pc := n1 }).kind)).setCell ⟨B, 1, none⟩ (.int .u32 ({ m1 with pc := n1 }).v) = Wf at *
        have hr0 := HQ.out.cell (k := 0) rfl
        have hr1 := HQ.out.cell (k := 1) rfl
        rw [HST.out]
        refine bodyPost_ret (v := .agg #[.int .u8 ({ m1 with pc := n1 }).kind, .int .u32 ({ m1 with pc := n1 }).v]) (by simp [results, Tryz.results45, go_sem, hr0, hr1]; try rfl) rfl ?_
        exact ⟨rfl, G', HF.out, HOF.out, HR.out⟩
      · have k1 : (m1.kind == 0) = false := by simpa using hk1
        have HST2 := mhid (HST.out.trans ((hf.symm).trans (if_neg hk1)))
        have e45 := hm.mc.kind
        have HM := mhid hm
        have HBX := mhid hX2
        have HO := mhid hO2
        clear hm hd ho hR hf hX2 hO2 HST hk1
        have HST := HST2
        go_upto_region 17 with (fail)
        clear e45 k1
        have c45 := HM.out.mc.kind
        have c46 := HM.out.mc.v
        have b0 := HBX.out.cell (k := 0) rfl
        have b1 := HBX.out.cell (k := 1) rfl
        have x0 := HBX.out.frozen 0
        have x1 := HBX.out.frozen 1
        go_wp2_with fail
        have HQ := mhid ((HBX.out.set 0 (.int .u8 (m1).kind)).set 1 (.int .u32 (m1).v))
        have HF := mhid (HM.out.keep (((Only.refl (fun k => k = B) w2).setCell (p := ⟨B, 0, none⟩) rfl (.int .u8 (m1).kind)).setCell (p := ⟨B, 1, none⟩) rfl (.int .u32 (m1).v)) (fun k hk e => hk (by rw [e]; exact HRB.out)))
        have HOF := mhid (show Only G.own w ((w2.setCell ⟨B, 0, none⟩ (.int .u8 (m1).kind)).setCell ⟨B, 1, none⟩ (.int .u32 (m1).v)) from HO.out.fresh (((Only.refl (fun k => k = B) w2).setCell (p := ⟨B, 0, none⟩) rfl _).setCell (p := ⟨B, 1, none⟩) rfl _) (fun k hk e => by have := HBW.out; omega))
        clear b0 b1 x0 x1 c45 c46
        generalize (w2.setCell ⟨B, 0, none⟩ (.int .u8 (m1).kind)).setCell ⟨B, 1, none⟩ (.int .u32 (m1).v) = Wf at *
        have hr0 := HQ.out.cell (k := 0) rfl
        have hr1 := HQ.out.cell (k := 1) rfl
        rw [HST.out]
        refine bodyPost_ret (v := .agg #[.int .u8 (m1).kind, .int .u32 (m1).v]) (by simp [results, Tryz.results45, go_sem, hr0, hr1]; try rfl) rfl ?_
        exact ⟨rfl, G', HF.out, HOF.out, HR.out⟩
    · have hix := fun w => mops_fn k (by omega) (by omega) w
      go_region_held3 (fun w' => w'.cell? ⟨D, 1, none⟩ = some (.int .u8 k)) (first | (with_reducible exact d1) | (refine HS1.out _ ?_; go_grown; done))
        ((go_at_call 111; (with_reducible refine (HOPS.out _).mono ?_); rintro e w1 ⟨rfl, hb10⟩; have hb1 : Below w0.heap.size w0 w1 := hd0.trans (hb10.mono hd0.size)))
      have HX1 := mhid (HX0.out.below hb1)
      have HO1 := mhid (HO0.out.trans (Only.of_below hb1))
      have H1 := mhid (HDO.out.keepb hb1)
      have HDI := mhid (mdisp_any w1 (HBR.out.keep (HDB.out.2.trans (hb1.mono HDB.out.2.size))) G M m D (atM m) _ _ _ H1.out rfl hol)
      rw [show (atM m).op.toNat = k from by have := HK.out; omega] at HDI
      clear d1 HS1 hb10 hd0
      have hnil := fun w => fn_some (.func (mfnOf k)) w
      go_wp2_with fail
      rw [menter_fn k (by omega) _ w1, Oper.upon_enter]
      refine HDI.out.mono ?_
      rintro e w2 ⟨rfl, G', m1, n1, hm, hd, ho, hR, hn1, hf⟩
      have hrb2 : G'.R B = .none := (hR B HX1.out.lt).trans HRB0.out
      have hob : ¬ (G.own B ∨ B = D) := fun hc => by
        rcases hc with hc | hc
        · exact hc.1 HRB0.out
        · have h1 := HX0.out.lt
          have h2 := HX.out.lt
          have h3 := HDB.out.1
          omega
      have hX2 := HX1.out.of_block (ho.block B HX1.out.lt hob)
      have hO2 : Only G.own w w2 := HO1.out.fresh ho (fun k hk hc => by
        rcases hc with hc | hc
        · exact hc
        · have h1 := HDB.out.1
          have h2 := HB.out.size
          omega)
      have hR2 : RKeep w G G' := fun k hk => hR k (Nat.lt_of_lt_of_le hk HO1.out.size)
      have HRB := mhid hrb2
      have HR := mhid hR2
      clear hrb2 hob hR2 hix hnil
      by_cases hk1 : m1.kind = 0
      · have k1 : (m1.kind == 0) = true := by simp [hk1]
        have HST2 := mhid (HST.out.trans ((hf.symm).trans (finM_run hk1)))
        have e45 := hm.mc.kind
        have e3 := hm.mc.pc
        have g3 := hm.mc.fz 3
        have d9 := (DAt.dc (G := G) (m := m) hd).d9
        have HM := mhid (hm.setPc hn1)
        have hMB : ¬ B = M := fun e => by have h1 := HRB.out; rw [e, hm.rM] at h1; cases h1
        have HBX := mhid (hX2.other (a := ⟨M, 3, none⟩) hMB (.int .u32 n1))
        have HO := mhid (show Only G.own w (w2.setCell ⟨M, 3, none⟩ (.int .u32 n1)) from hO2.setCell (p := ⟨M, 3, none⟩) H.out.ownM _)
        clear hm hd ho hR hf hX2 hO2 hMB HST hk1
        have HST := HST2
        have hX2 := True.intro
        go_upto_region 17 with (fail)
        generalize w2.setCell ⟨M, 3, none⟩ (.int .u32 n1) = w3 at *
        clear e45 e3 g3 d9 k1
        have c45 := HM.out.mc.kind
        have c46 := HM.out.mc.v
        have b0 := HBX.out.cell (k := 0) rfl
        have b1 := HBX.out.cell (k := 1) rfl
        have x0 := HBX.out.frozen 0
        have x1 := HBX.out.frozen 1
        go_wp2_with fail
        have HQ := mhid ((HBX.out.set 0 (.int .u8 ({ m1 with pc := n1 }).kind)).set 1 (.int .u32 ({ m1 with pc := n1 }).v))
        have HF := mhid (HM.out.keep (((Only.refl (fun k => k = B) w3).setCell (p := ⟨B, 0, none⟩) rfl (.int .u8 ({ m1 with pc := n1 }).kind)).setCell (p := ⟨B, 1, none⟩) rfl (.int .u32 ({ m1 with pc := n1 }).v)) (fun k hk e => hk (by rw [e]; exact HRB.out)))
        have HOF := mhid (show Only G.own w ((w3.setCell ⟨B, 0, none⟩ (.int .u8 ({ m1 with pc := n1 }).kind)).setCell ⟨B, 1, none⟩ (.int .u32 ({ m1 with pc := n1 }).v)) from HO.out.fresh (((Only.refl (fun k => k = B) w3).setCell (p := ⟨B, 0, none⟩) rfl _).setCell (p := ⟨B, 1, none⟩) rfl _) (fun k hk e => by have := HBW.out; omega))
        clear b0 b1 x0 x1 c45 c46
        generalize (w3.setCell ⟨B, 0, none⟩ (.int .u8 ({ m1 with pc := n1 }).kind)).setCell ⟨B, 1, none⟩ (.int .u32 ({ m1 with pc := n1 }).v) = Wf at *
        have hr0 := HQ.out.cell (k := 0) rfl
        have hr1 := HQ.out.cell (k := 1) rfl
        rw [HST.out]
        refine bodyPost_ret (v := .agg #[.int .u8 ({ m1 with pc := n1 }).kind, .int .u32 ({ m1 with pc := n1 }).v]) (by simp [results, Tryz.results45, go_sem, hr0, hr1]; try rfl) rfl ?_
        exact ⟨rfl, G', HF.out, HOF.out, HR.out⟩
      · have k1 : (m1.kind == 0) = false := by simpa using hk1
        have HST2 := mhid (HST.out.trans ((hf.symm).trans (if_neg hk1)))
        have e45 := hm.mc.kind
        have HM := mhid hm
        have HBX := mhid hX2
        have HO := mhid hO2
        clear hm hd ho hR hf hX2 hO2 HST hk1
        have HST := HST2
        go_upto_region 17 with (fail)
        clear e45 k1
        have c45 := HM.out.mc.kind
        have c46 := HM.out.mc.v
        have b0 := HBX.out.cell (k := 0) rfl
        have b1 := HBX.out.cell (k := 1) rfl
        have x0 := HBX.out.frozen 0
        have x1 := HBX.out.frozen 1
        go_wp2_with fail
        have HQ := mhid ((HBX.out.set 0 (.int .u8 (m1).kind)).set 1 (.int .u32 (m1).v))
        have HF := mhid (HM.out.keep (((Only.refl (fun k => k = B) w2).setCell (p := ⟨B, 0, none⟩) rfl (.int .u8 (m1).kind)).setCell (p := ⟨B, 1, none⟩) rfl (.int .u32 (m1).v)) (fun k hk e => hk (by rw [e]; exact HRB.out)))
        have HOF := mhid (show Only G.own w ((w2.setCell ⟨B, 0, none⟩ (.int .u8 (m1).kind)).setCell ⟨B, 1, none⟩ (.int .u32 (m1).v)) from HO.out.fresh (((Only.refl (fun k => k = B) w2).setCell (p := ⟨B, 0, none⟩) rfl _).setCell (p := ⟨B, 1, none⟩) rfl _) (fun k hk e => by have := HBW.out; omega))
        clear b0 b1 x0 x1 c45 c46
        generalize (w2.setCell ⟨B, 0, none⟩ (.int .u8 (m1).kind)).setCell ⟨B, 1, none⟩ (.int .u32 (m1).v) = Wf at *
        have hr0 := HQ.out.cell (k := 0) rfl
        have hr1 := HQ.out.cell (k := 1) rfl
        rw [HST.out]
        refine bodyPost_ret (v := .agg #[.int .u8 (m1).kind, .int .u32 (m1).v]) (by simp [results, Tryz.results45, go_sem, hr0, hr1]; try rfl) rfl ?_
        exact ⟨rfl, G', HF.out, HOF.out, HR.out⟩
theorem mstep_any (w : World) (ht : Tab w) (hbr : Bru w) (G : MG) (M : Nat) (m : Mx) (h : MachAt w G M m) (level : Int) (hl0 : 0 ≤ level) (hl1 : level < 256) (hol : m.out.length < 4294967296) :
    Calls Tryz.prog 45 #[.pointer (some ⟨M, 0, none⟩), .int .u8 level] w (StepOk w G M (stepM m level)) := by
  by_cases hk : m.kind = 0
  · by_cases hi : level < 16 ∧ m.p.pil < level
    · exact mstep_irq w ht hbr G M m h level hl0 hl1 hk hi
    · by_cases hno : noneAt m
      · exact mstep_no w ht hbr G M m h level hl0 hl1 hk hi hno
      · exact mstep_run w ht hbr G M m h level hl0 hl1 hk hi hno hol
  · exact mstep_stop w ht hbr G M m h level hl0 hl1 hk
end Go.Proofs.YtajholbcpmjhiaaGreatDoor
