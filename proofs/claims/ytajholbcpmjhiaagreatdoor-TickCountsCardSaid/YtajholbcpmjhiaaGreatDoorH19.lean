/- Several texts in one: MachAcc, MachNew, InstRKind, InstRMayNo. -/
import Derived.Test.YtajholbcpmjhiaaGreatDoorH18
set_option linter.unusedVariables false
set_option linter.unusedSimpArgs false
/- The walks of the machine's PC, Wim, Psr, T, SetPC, SetWim, SetPsr, File, Mem, Out, Load, Choose. -/
namespace Go.Proofs.YtajholbcpmjhiaaGreatDoor
open Go.RowKit
theorem mpc_any (w : World) (G : MG) (M : Nat) (m : Mx) (h : MachAt w G M m) :
    Calls Tryz.prog 46 #[.pointer (some ⟨M, 0, none⟩)] w fun e w' => e = .returned (.int .u32 m.pc) ∧ w = w' := by
  have HN := mhid (mmnone_made w M _ h.mc.f)
  have c := h.mc.pc
  clear h
  go_enter Tryz.func46, Tryz.ntmps46
  go_wp2_with fail
  refine HN.out.mono ?_
  rintro e w0 ⟨rfl, rfl⟩
  go_wp2_with fail
  go_ret
  exact ⟨rfl, rfl⟩
theorem mfile_any (w : World) (G : MG) (M : Nat) (m : Mx) (h : MachAt w G M m) :
    Calls Tryz.prog 12 #[.pointer (some ⟨M, 0, none⟩)] w fun e w' => e = .returned (.pointer (some ⟨G.F, 0, none⟩)) ∧ w = w' := by
  have HN := mhid (mmnone_made w M _ h.mc.f)
  have c := h.mc.f
  clear h
  go_enter Tryz.func12, Tryz.ntmps12
  go_wp2_with fail
  refine HN.out.mono ?_
  rintro e w0 ⟨rfl, rfl⟩
  go_wp2_with fail
  go_ret
  exact ⟨rfl, rfl⟩
theorem mmem_any (w : World) (G : MG) (M : Nat) (m : Mx) (h : MachAt w G M m) :
    Calls Tryz.prog 16 #[.pointer (some ⟨M, 0, none⟩)] w fun e w' => e = .returned (.pointer (some ⟨G.mB, 0, none⟩)) ∧ w = w' := by
  have HN := mhid (mmnone_made w M _ h.mc.f)
  have c := h.mc.mem
  clear h
  go_enter Tryz.func16, Tryz.ntmps16
  go_wp2_with fail
  refine HN.out.mono ?_
  rintro e w0 ⟨rfl, rfl⟩
  go_wp2_with fail
  go_ret
  exact ⟨rfl, rfl⟩
set_option maxHeartbeats 1000000 in
theorem mpsr_any (w : World) (G : MG) (M : Nat) (m : Mx) (h : MachAt w G M m) :
    Calls Tryz.prog 19 #[.pointer (some ⟨M, 0, none⟩)] w fun e w' => e = .returned m.p.agg ∧ Below w.heap.size w w' := by
  obtain ⟨W, hW⟩ : ∃ W, W = w.alloc (.cells #[.int .u8 0, .int .u8 0, .int .u8 0, .int .u8 0] 47) := ⟨_, rfl⟩
  have hb : Below w.heap.size w W := by rw [hW]; exact (Below.refl _ _).alloc (Nat.le_refl _) _
  have hbx : ARow W w.heap.size 47 [.int .u8 0, .int .u8 0, .int .u8 0, .int .u8 0] := by rw [hW]; exact ARow.fresh w 47 #[.int .u8 0, .int .u8 0, .int .u8 0, .int .u8 0]
  have H := mhid (h.keepb hb)
  have HB := mhid hb
  have HN := mhid (mmnone_made W M _ H.out.mc.f)
  have c5 := H.out.mc.cwp
  have c6 := H.out.mc.pil
  have c7 := H.out.mc.bank
  have c8 := H.out.mc.flags
  have HX := mhid hbx
  have b0 := hbx.cell (k := 0) rfl
  have b1 := hbx.cell (k := 1) rfl
  have b2 := hbx.cell (k := 2) rfl
  have b3 := hbx.cell (k := 3) rfl
  have x0 := hbx.frozen 0
  have x1 := hbx.frozen 1
  have x2 := hbx.frozen 2
  have x3 := hbx.frozen 3
  clear h hb hbx
  go_enter Tryz.func19, Tryz.ntmps19
  go_wp2_with fail
  rw [← hW]
  clear hW
  refine HN.out.mono ?_
  rintro e w' ⟨rfl, rfl⟩
  go_wp2_with fail
  have HQ := mhid ((((HX.out.set 0 (.int .u8 m.p.cwp)).set 1 (.int .u8 m.p.pil)).set 2 (.int .u8 m.p.bank)).set 3 (.int .u8 m.p.flags))
  have HF := mhid ((((HB.out.setCell (p := ⟨w.heap.size, 0, none⟩) (Nat.le_refl _) (.int .u8 m.p.cwp)).setCell (p := ⟨w.heap.size, 1, none⟩) (Nat.le_refl _) (.int .u8 m.p.pil)).setCell (p := ⟨w.heap.size, 2, none⟩) (Nat.le_refl _) (.int .u8 m.p.bank)).setCell (p := ⟨w.heap.size, 3, none⟩) (Nat.le_refl _) (.int .u8 m.p.flags))
  clear b0 b1 b2 b3 x0 x1 x2 x3 c5 c6 c7 c8
  generalize (((W.setCell ⟨w.heap.size, 0, none⟩ (.int .u8 m.p.cwp)).setCell ⟨w.heap.size, 1, none⟩ (.int .u8 m.p.pil)).setCell ⟨w.heap.size, 2, none⟩ (.int .u8 m.p.bank)).setCell ⟨w.heap.size, 3, none⟩ (.int .u8 m.p.flags) = Wf at *
  have hr0 := HQ.out.cell (k := 0) rfl
  have hr1 := HQ.out.cell (k := 1) rfl
  have hr2 := HQ.out.cell (k := 2) rfl
  have hr3 := HQ.out.cell (k := 3) rfl
  refine bodyPost_ret (v := m.p.agg) (by simp [results, Tryz.results19, go_sem, hr0, hr1, hr2, hr3]; try rfl) rfl ?_
  exact ⟨rfl, HF.out⟩
theorem msetpc_any (w : World) (G : MG) (M : Nat) (m : Mx) (h : MachAt w G M m) (x : Int) (hx : 0 ≤ x ∧ x < 4294967296) :
    Calls Tryz.prog 54 #[.pointer (some ⟨M, 0, none⟩), .int .u32 x] w fun e w' => e = .returned (.int .i64 0) ∧ MachAt w' G M { m with pc := x } ∧ Only (fun k => k = M) w w' := by
  have HN := mhid (mmnone_made w M _ h.mc.f)
  have c := h.mc.pc
  have f := h.mc.fz 3
  have H := mhid (h.setPc hx)
  clear h
  go_enter Tryz.func54, Tryz.ntmps54
  go_wp2_with fail
  refine HN.out.mono ?_
  rintro e w0 ⟨rfl, rfl⟩
  go_wp2_with fail
  go_ret
  exact ⟨rfl, H.out, onlyM w M 3 _⟩
end Go.Proofs.YtajholbcpmjhiaaGreatDoor
/- The walks of mach.New, SetPsr, Out; slices.Clone at words. -/
namespace Go.Proofs.YtajholbcpmjhiaaGreatDoor
open Go.RowKit
def newM (nw size : Nat) : Mx := ⟨Fx.new nw, List.replicate size 0, 0, 2, Px.zero, List.replicate 17 0, List.replicate 17 0, [], [], 0, 0⟩
theorem newM_ok {nw size : Nat} (h2 : 2 ≤ nw) (h32 : nw ≤ 32) (hs : size ≤ 4194304) : (newM nw size).ok := by
  refine ⟨Fx.ok.new h2 h32, Bytes.zeros _, by simpa [newM] using hs, by simp [newM], by simp [newM], by simp [newM], by simp [newM], ?_, ?_, by simp [newM], Words.zeros _, by simp [newM], Words.zeros _, fun x hx => by simp [newM] at hx, fun x hx => by simp [newM] at hx, by simp [newM], by simp [newM], by simp [newM], by simp [newM]⟩
  · unfold newM Px.zero Px.bd; simp
  · unfold newM Px.zero pmayP Mx.nw Fx.new; simp; omega
def NewOk (m : Mx) (w : World) (e : Ending) (w' : World) : Prop :=
  ∃ M G, e = .returned (.tuple #[.pointer (some ⟨M, 0, none⟩), .int .i64 0]) ∧ MachAt w' G M m ∧ (∀ k, G.R k ≠ .none → w.heap.size ≤ k) ∧ Below w.heap.size w w'
set_option maxRecDepth 100000 in
set_option maxHeartbeats 2000000 in
theorem mnew_ok (nw size : Nat) (w : World) (h2 : 2 ≤ nw) (h32 : nw ≤ 32) (hs : size ≤ 4194304) (h4 : size % 4 = 0) :
    Calls Tryz.prog 50 #[.int .i64 nw, .int .i64 size] w (NewOk (newM nw size) w) := by
  have HF := mhid (fnew_ok nw w h2 h32)
  have HM := mhid (fun w' => new_ok size w' hs h4)
  have HOK := mhid (newM_ok h2 h32 hs)
  go_enter Tryz.func50, Tryz.ntmps50
  go_wp2_with fail
  refine HF.out.mono ?_
  rintro e w1 ⟨F, Wb, cap, rfl, hF, hW, hf, hb⟩
  go_wp2_with fail
  refine (HM.out w1).mono ?_
  rintro e w2 ⟨mB, gB, rfl, hm, hg, hmem, hb2⟩
  go_wp2_with fail
  have hbb : Below w.heap.size w w2 := hb.trans (hb2.mono hb.size)
  have h1 := hf.cells.lt
  have h2' := hf.win.lt
  have h3 := hmem.lt
  have h5 := hf.ne
  have h6 := hmem.ne
  go_ret2
  refine ⟨w2.heap.size, ⟨fun k => if k = w2.heap.size then .mach else if k = F then .file else if k = Wb then .win else if k = mB then .mem else if k = gB then .bytes else .none, F, Wb, cap, mB, gB, .slice none 0 0, .slice none 0 0⟩, rfl, ⟨HOK.out, ?_, ?_, ?_, ?_, ?_, ?_, ?_, ?_, ?_, ?_, ?_, ?_⟩, ?_, hbb.alloc hbb.size _⟩
  · exact heap_alloc_new w2 _
  · exact (hf.keepb hb2).keepb ((Below.refl _ _).alloc (Nat.le_refl _) _)
  · exact hmem.keep ((Only.refl (fun _ => False) w2).alloc _) id id
  · exact World.ownsRow_nil _ _ _ _
  · exact fun W _ => ⟨⟨by unfold maxLen; simp [newM], none, 0, rfl, fun h => by simp [newM] at h⟩, fun p n c e => by cases e; exact ⟨Nat.le_refl _, fun _ => rfl⟩⟩
  · simp
  · have : ¬ F = w2.heap.size := by have := hb2.size; omega
    simp [this]
  · have : ¬ Wb = w2.heap.size := by have := hb2.size; omega
    have h7 : ¬ Wb = F := fun e => h5 e.symm
    simp [this, h7]
  · have e1 : ¬ mB = w2.heap.size := by omega
    have e2 : ¬ mB = F := by omega
    have e3 : ¬ mB = Wb := by omega
    simp [e1, e2, e3]
  · have e1 : ¬ gB = w2.heap.size := by omega
    have e2 : ¬ gB = F := by omega
    have e3 : ¬ gB = Wb := by omega
    have e4 : ¬ gB = mB := fun e => h6 e.symm
    simp [e1, e2, e3, e4]
  · intro k hk; cases hk
  · intro k hk
    have hs2 := hb2.size
    simp only [World.size_alloc]
    by_cases e0 : k = w2.heap.size
    · omega
    · by_cases e1 : k = F
      · omega
      · by_cases e2 : k = Wb
        · omega
        · by_cases e3 : k = mB
          · omega
          · by_cases e4 : k = gB
            · omega
            · simp [e0, e1, e2, e3, e4] at hk
  · intro k hk
    have hs2 := hbb.size
    have hs1 := hb.size
    by_cases e0 : k = w2.heap.size
    · omega
    · by_cases e1 : k = F
      · omega
      · by_cases e2 : k = Wb
        · omega
        · by_cases e3 : k = mB
          · omega
          · by_cases e4 : k = gB
            · omega
            · simp [e0, e1, e2, e3, e4] at hk
end Go.Proofs.YtajholbcpmjhiaaGreatDoor
/- Walks of the document's Kind and May (muntinref02). -/
namespace Go.Proofs.YtajholbcpmjhiaaGreatDoor
open Go.RowKit
set_option maxHeartbeats 1000000 in
theorem rkind_one (op : Int) (h : (1 ≤ op ∧ op ≤ 14) ∨ (19 ≤ op ∧ op ≤ 25)) (w : World) : Calls Tryz.prog 61 #[.int .u8 op] w fun e w' => e = .returned (.int .i64 1) ∧ w = w' := by
  rcases h with ⟨h1, h2⟩ | ⟨h1, h2⟩
  · have g1 : decide (1 ≤ op) = true := by simpa using h1
    have g2 : decide (op ≤ 14) = true := by simpa using h2
    go_enter Tryz.func61, Tryz.ntmps61
    go_wp2
    go_ret
    exact ⟨rfl, rfl⟩
  · have g0 : decide (1 ≤ op) = true := by simp; omega
    have g1 : decide (op ≤ 14) = false := by simp; omega
    have g2 : decide (19 ≤ op) = true := by simpa using h1
    have g3 : decide (op ≤ 25) = true := by simpa using h2
    go_enter Tryz.func61, Tryz.ntmps61
    go_wp2
    go_ret
    exact ⟨rfl, rfl⟩
set_option maxHeartbeats 1000000 in
theorem rkind_far (op : Int) (h : 37 < op) (w : World) : Calls Tryz.prog 61 #[.int .u8 op] w fun e w' => e = .returned (.int .i64 0) ∧ w = w' := by
  have g0 : decide (1 ≤ op) = true := by simp; omega
  have g1 : decide (op ≤ 14) = false := by simp; omega
  have g2 : decide (19 ≤ op) = true := by simp; omega
  have g3 : decide (op ≤ 25) = false := by simp; omega
  have e15 : (op == 15) = false := by simp; omega
  have e16 : (op == 16) = false := by simp; omega
  have e17 : (op == 17) = false := by simp; omega
  have e18 : (op == 18) = false := by simp; omega
  have e26 : (op == 26) = false := by simp; omega
  have e27 : (op == 27) = false := by simp; omega
  have e28 : (op == 28) = false := by simp; omega
  have e29 : (op == 29) = false := by simp; omega
  have e30 : (op == 30) = false := by simp; omega
  have e31 : (op == 31) = false := by simp; omega
  have e32 : (op == 32) = false := by simp; omega
  have e33 : (op == 33) = false := by simp; omega
  have e34 : (op == 34) = false := by simp; omega
  have e35 : (op == 35) = false := by simp; omega
  have e36 : (op == 36) = false := by simp; omega
  have e37 : (op == 37) = false := by simp; omega
  go_enter Tryz.func61, Tryz.ntmps61
  go_wp2
  go_ret
  exact ⟨rfl, rfl⟩
set_option maxHeartbeats 4000000 in
theorem rkind_lit (op : Int) (h : op = 0 ∨ op = 15 ∨ op = 16 ∨ op = 17 ∨ op = 18 ∨ op = 26 ∨ op = 27 ∨ op = 28 ∨ op = 29 ∨ op = 30 ∨ op = 31 ∨ op = 32 ∨ op = 33 ∨ op = 34 ∨ op = 35 ∨ op = 36 ∨ op = 37) (w : World) : Calls Tryz.prog 61 #[.int .u8 op] w fun e w' => e = .returned (.int .i64 (kindS op)) ∧ w = w' := by
  rcases h with rfl | rfl | rfl | rfl | rfl | rfl | rfl | rfl | rfl | rfl | rfl | rfl | rfl | rfl | rfl | rfl | rfl
  all_goals
    go_enter Tryz.func61, Tryz.ntmps61
    go_wp2
    go_ret
    exact ⟨iret (by decide), rfl⟩
theorem rkind_any (op k : Int) (h0 : 0 ≤ op) (hk : kindS op = k) (w : World) : Calls Tryz.prog 61 #[.int .u8 op] w fun e w' => e = .returned (.int .i64 k) ∧ w = w' := by
  subst hk
  by_cases h1 : (1 ≤ op ∧ op ≤ 14) ∨ (19 ≤ op ∧ op ≤ 25)
  · rw [show kindS op = 1 from if_pos h1]; exact rkind_one op h1 w
  · by_cases h2 : 37 < op
    · rw [kind_no (.inr h2)]; exact rkind_far op h2 w
    · exact rkind_lit op (by omega) w
set_option maxHeartbeats 1000000 in
theorem rbetween_any (n low high : Int) (w : World) : Calls Tryz.prog 127 #[.int .i32 n, .int .i32 low, .int .i32 high] w fun e w' => e = .returned (.bool (decide (low ≤ n ∧ n ≤ high))) ∧ w = w' := by
  by_cases h1 : low ≤ n
  · by_cases h2 : n ≤ high
    · have g1 : decide (low ≤ n) = true := by simpa using h1
      have g2 : decide (n ≤ high) = true := by simpa using h2
      have E := ihid (show decide (low ≤ n ∧ n ≤ high) = true from decide_eq_true ⟨h1, h2⟩)
      clear h1 h2
      go_enter Tryz.func127, Tryz.ntmps127
      go_wp2
      go_ret
      exact ⟨iretb E.out.symm, rfl⟩
    · have g1 : decide (low ≤ n) = true := by simpa using h1
      have g2 : decide (n ≤ high) = false := by simpa using h2
      have E := ihid (show decide (low ≤ n ∧ n ≤ high) = false from decide_eq_false (fun h => h2 h.2))
      clear h1 h2
      go_enter Tryz.func127, Tryz.ntmps127
      go_wp2
      go_ret
      exact ⟨iretb E.out.symm, rfl⟩
  · have g1 : decide (low ≤ n) = false := by simpa using h1
    have E := ihid (show decide (low ≤ n ∧ n ≤ high) = false from decide_eq_false (fun h => h1 h.1))
    clear h1
    go_enter Tryz.func127, Tryz.ntmps127
    go_wp2
    go_ret
    exact ⟨iretb E.out.symm, rfl⟩
end Go.Proofs.YtajholbcpmjhiaaGreatDoor
/- The document's May refuses what no operation has. -/
namespace Go.Proofs.YtajholbcpmjhiaaGreatDoor
open Go.RowKit
theorem may_out2 {x : Ix} (h : (x.is = true ∧ x.rs2 ≠ 0) ∨ (x.is = false ∧ x.imm ≠ 0)) : mayB x = false := by
  unfold mayB mayP
  refine decide_eq_false ?_
  rintro ⟨h1, h2, h3, h4⟩
  by_cases hl : longK (kindS x.op)
  · have := ok_long hl h4
    rcases h with h | h
    · exact h.2 this.2.2.1
    · rw [this.1] at h; simp at h
  · have := ok_short hl h4
    rcases h with h | h
    · exact h.2 (this.1 h.1).1
    · exact h.2 (this.2 h.1)
set_option maxRecDepth 100000 in
set_option maxHeartbeats 2000000 in
theorem rmay_out (x : Ix) (hb : x.bd) (h0 : kindS x.op ≠ 0) (h : ¬ (x.rd ≤ 31 ∧ x.rs1 ≤ 31 ∧ x.rs2 ≤ 31 ∧ (x.is = true → x.rs2 = 0) ∧ (x.is = false → x.imm = 0))) (w : World) :
    Calls Tryz.prog 60 #[x.agg] w fun e w' => e = .returned (.bool (mayB x)) ∧ Below w.heap.size w w' := by
  have E : mayB x = false := by
    by_cases c : 31 < x.rd ∨ 31 < x.rs1 ∨ 31 < x.rs2
    · exact may_out (by omega)
    · refine may_out2 ?_
      cases hi : x.is
      · right; refine ⟨rfl, fun e => h ?_⟩; simp [hi, e]; omega
      · left; refine ⟨rfl, fun e => h ?_⟩; simp [hi, e]; omega
  have E := ihid E
  obtain ⟨op, rd, rs1, rs2, is, imm⟩ := x
  have b0 := hb.1
  simp only at b0 h0 h
  have k0 : (kindS op == 0) = false := by simpa using h0
  have HK := ihid (show kindS op = kindS op from rfl)
  generalize hq : kindS op = q at k0
  have HQ := ihid hq
  clear hq hb h0 HK
  have arm := fun W => rkind_any op q b0.1 HQ.out W
  have ARM := ihid arm
  clear arm
  by_cases g1 : 31 < rd
  · have g1' : decide (31 < rd) = true := by simpa using g1
    clear h
    go_enter Tryz.func60, Tryz.ntmps60
    go_wp2_with fail
    refine (ARM.out _).mono ?_
    rintro e w' ⟨rfl, rfl⟩
    go_wp2_with fail
    go_ret
    exact ⟨iretb E.out.symm, (Below.refl _ _).alloc (Nat.le_refl _) _⟩
  · have g1' : decide (31 < rd) = false := by simpa using g1
    by_cases g2 : 31 < rs1
    · have g2' : decide (31 < rs1) = true := by simpa using g2
      clear h
      go_enter Tryz.func60, Tryz.ntmps60
      go_wp2_with fail
      refine (ARM.out _).mono ?_
      rintro e w' ⟨rfl, rfl⟩
      go_wp2_with fail
      go_ret
      exact ⟨iretb E.out.symm, (Below.refl _ _).alloc (Nat.le_refl _) _⟩
    · have g2' : decide (31 < rs1) = false := by simpa using g2
      by_cases g3 : 31 < rs2
      · have g3' : decide (31 < rs2) = true := by simpa using g3
        clear h
        go_enter Tryz.func60, Tryz.ntmps60
        go_wp2_with fail
        refine (ARM.out _).mono ?_
        rintro e w' ⟨rfl, rfl⟩
        go_wp2_with fail
        go_ret
        exact ⟨iretb E.out.symm, (Below.refl _ _).alloc (Nat.le_refl _) _⟩
      · have g3' : decide (31 < rs2) = false := by simpa using g3
        cases is
        · have hi : imm ≠ 0 := fun e => h (by simp [e]; omega)
          have hi2 : (imm != 0) = true := by simpa using hi
          clear h
          go_enter Tryz.func60, Tryz.ntmps60
          go_wp2_with fail
          refine (ARM.out _).mono ?_
          rintro e w' ⟨rfl, rfl⟩
          go_wp2_with fail
          go_ret
          exact ⟨iretb E.out.symm, (Below.refl _ _).alloc (Nat.le_refl _) _⟩
        · have hi : rs2 ≠ 0 := fun e => h (by simp [e]; omega)
          have hi2 : (rs2 != 0) = true := by simpa using hi
          clear h
          go_enter Tryz.func60, Tryz.ntmps60
          go_wp2_with fail
          refine (ARM.out _).mono ?_
          rintro e w' ⟨rfl, rfl⟩
          go_wp2_with fail
          go_ret
          exact ⟨iretb E.out.symm, (Below.refl _ _).alloc (Nat.le_refl _) _⟩
end Go.Proofs.YtajholbcpmjhiaaGreatDoor
