/- Several texts in one: MachAcc, MachNew, InstREnc, MachSmall, MachKnown, MachHead, MachMade, MachPsr, MachCopy, MachApart, MachUse, MachHeadB, MachLaw. -/
import Derived.Test.YtgdebchbdmogcaaGreatDoorGS
import Derived.Test.YtgdebchbdmogcaaGreatDoorGD
import Derived.Test.YtgdebchbdmogcaaGreatDoorGQa
import Derived.Test.YtgdebchbdmogcaaGreatDoorGQb
import Derived.Test.YtgdebchbdmogcaaGreatDoorGQc
import Derived.Test.YtgdebchbdmogcaaGreatDoorGLb
import Derived.Test.YtgdebchbdmogcaaGreatDoorGH
import Derived.Test.YtgdebchbdmogcaaGreatDoorGF
import Derived.Test.YtgdebchbdmogcaaGreatDoorGE
import Derived.WalkSpells
/- The walks of the machine's PC, Wim, Psr, T, SetPC, SetWim, SetPsr, File, Mem, Out, Load, Choose. -/
namespace Go.Proofs.YtgdebchbdmogcaaGreatDoor
open Go.RowKit
set_option linter.unusedVariables false
set_option linter.unusedSimpArgs false
/-- The machine's own block: it stays. -/
theorem MGoes.same {w w' : World} {G : MG} {M : Nat} {m : Mx} (h : MachAt w' G M m) (o : Only G.own w w') : MGoes w G M m w' := ⟨G, h, o, fun _ _ => rfl⟩
theorem MGoes.below {w w' : World} {G : MG} {M : Nat} {m : Mx} (h : MachAt w G M m) (hb : Below w.heap.size w w') : MGoes w G M m w' := MGoes.same (h.keepb hb) (Only.of_below hb)
theorem mpc_any (w : World) (G : MG) (M : Nat) (m : Mx) (h : MachAt w G M m) :
    Calls Tryz.prog 20 #[.pointer (some ⟨M, 0, none⟩)] w fun e w' => e = .returned (.int .u32 m.pc) ∧ w = w' := by
  have HN := mhid (mmnone_made w M _ h.mc.f)
  have c := h.mc.pc
  clear h
  go_enter Tryz.func20, Tryz.ntmps20
  go_wp2_with fail
  refine HN.out.mono ?_
  rintro e w0 ⟨rfl, rfl⟩
  go_wp2_with fail
  go_ret
  exact ⟨rfl, rfl⟩
theorem mwim_any (w : World) (G : MG) (M : Nat) (m : Mx) (h : MachAt w G M m) :
    Calls Tryz.prog 24 #[.pointer (some ⟨M, 0, none⟩)] w fun e w' => e = .returned (.int .u32 m.wim) ∧ w = w' := by
  have HN := mhid (mmnone_made w M _ h.mc.f)
  have c := h.mc.wim
  clear h
  go_enter Tryz.func24, Tryz.ntmps24
  go_wp2_with fail
  refine HN.out.mono ?_
  rintro e w0 ⟨rfl, rfl⟩
  go_wp2_with fail
  go_ret
  exact ⟨rfl, rfl⟩
theorem mfile_any (w : World) (G : MG) (M : Nat) (m : Mx) (h : MachAt w G M m) :
    Calls Tryz.prog 9 #[.pointer (some ⟨M, 0, none⟩)] w fun e w' => e = .returned (.pointer (some ⟨G.F, 0, none⟩)) ∧ w = w' := by
  have HN := mhid (mmnone_made w M _ h.mc.f)
  have c := h.mc.f
  clear h
  go_enter Tryz.func9, Tryz.ntmps9
  go_wp2_with fail
  refine HN.out.mono ?_
  rintro e w0 ⟨rfl, rfl⟩
  go_wp2_with fail
  go_ret
  exact ⟨rfl, rfl⟩
theorem mmem_any (w : World) (G : MG) (M : Nat) (m : Mx) (h : MachAt w G M m) :
    Calls Tryz.prog 14 #[.pointer (some ⟨M, 0, none⟩)] w fun e w' => e = .returned (.pointer (some ⟨G.mB, 0, none⟩)) ∧ w = w' := by
  have HN := mhid (mmnone_made w M _ h.mc.f)
  have c := h.mc.mem
  clear h
  go_enter Tryz.func14, Tryz.ntmps14
  go_wp2_with fail
  refine HN.out.mono ?_
  rintro e w0 ⟨rfl, rfl⟩
  go_wp2_with fail
  go_ret
  exact ⟨rfl, rfl⟩
set_option maxHeartbeats 1000000 in
theorem mpsr_any (w : World) (G : MG) (M : Nat) (m : Mx) (h : MachAt w G M m) :
    Calls Tryz.prog 23 #[.pointer (some ⟨M, 0, none⟩)] w fun e w' => e = .returned m.p.agg ∧ Below w.heap.size w w' := by
  obtain ⟨W, hW⟩ : ∃ W, W = w.alloc (.cells #[.int .u8 0, .int .u8 0, .int .u8 0, .int .u8 0] 24) := ⟨_, rfl⟩
  have hb : Below w.heap.size w W := by rw [hW]; exact (Below.refl _ _).alloc (Nat.le_refl _) _
  have hbx : ARow W w.heap.size 24 [.int .u8 0, .int .u8 0, .int .u8 0, .int .u8 0] := by rw [hW]; exact ARow.fresh w 24 #[.int .u8 0, .int .u8 0, .int .u8 0, .int .u8 0]
  have H := mhid (h.keepb hb)
  have HB := mhid hb
  have HN := mhid (mmnone_made W M _ H.out.mc.f)
  have c5 := H.out.mc.cwp
  have c6 := H.out.mc.pil
  have c7 := H.out.mc.bank
  have c8 := H.out.mc.flags
  have HX := mhid hbx
  have b0 := hbx.cell (k := 0) rfl
  have b1 := hbx.cell (k := 1) rfl
  have b2 := hbx.cell (k := 2) rfl
  have b3 := hbx.cell (k := 3) rfl
  have x0 := hbx.frozen 0
  have x1 := hbx.frozen 1
  have x2 := hbx.frozen 2
  have x3 := hbx.frozen 3
  clear h hb hbx
  go_enter Tryz.func23, Tryz.ntmps23
  go_wp2_with fail
  rw [← hW]
  clear hW
  refine HN.out.mono ?_
  rintro e w' ⟨rfl, rfl⟩
  go_wp2_with fail
  have HQ := mhid ((((HX.out.set 0 (.int .u8 m.p.cwp)).set 1 (.int .u8 m.p.pil)).set 2 (.int .u8 m.p.bank)).set 3 (.int .u8 m.p.flags))
  have HF := mhid ((((HB.out.setCell (p := ⟨w.heap.size, 0, none⟩) (Nat.le_refl _) (.int .u8 m.p.cwp)).setCell (p := ⟨w.heap.size, 1, none⟩) (Nat.le_refl _) (.int .u8 m.p.pil)).setCell (p := ⟨w.heap.size, 2, none⟩) (Nat.le_refl _) (.int .u8 m.p.bank)).setCell (p := ⟨w.heap.size, 3, none⟩) (Nat.le_refl _) (.int .u8 m.p.flags))
  clear b0 b1 b2 b3 x0 x1 x2 x3 c5 c6 c7 c8
  generalize (((W.setCell ⟨w.heap.size, 0, none⟩ (.int .u8 m.p.cwp)).setCell ⟨w.heap.size, 1, none⟩ (.int .u8 m.p.pil)).setCell ⟨w.heap.size, 2, none⟩ (.int .u8 m.p.bank)).setCell ⟨w.heap.size, 3, none⟩ (.int .u8 m.p.flags) = Wf at *
  have hr0 := HQ.out.cell (k := 0) rfl
  have hr1 := HQ.out.cell (k := 1) rfl
  have hr2 := HQ.out.cell (k := 2) rfl
  have hr3 := HQ.out.cell (k := 3) rfl
  refine bodyPost_ret (v := m.p.agg) (by simp [results, Tryz.results23, go_sem, hr0, hr1, hr2, hr3]; try rfl) rfl ?_
  exact ⟨rfl, HF.out⟩
def tE (b : Int) : Int := if 1 ≤ b ∧ b < 17 then 0 else 2
def tV (m : Mx) (b : Int) : Int := if 1 ≤ b ∧ b < 17 then m.tpc.getD b.toNat 0 else 0
def tS (m : Mx) (b : Int) : Int := if 1 ≤ b ∧ b < 17 then m.tpsr.getD b.toNat 0 else 0
set_option maxRecDepth 100000 in
set_option maxHeartbeats 1000000 in
theorem mt_any (w : World) (G : MG) (M : Nat) (m : Mx) (h : MachAt w G M m) (b : Int) :
    Calls Tryz.prog 13 #[.pointer (some ⟨M, 0, none⟩), .int .i64 b] w fun e w' => e = .returned (.tuple #[.int .u32 (tV m b), .int .u32 (tS m b), .int .i64 (tE b)]) ∧ ∃ n, w' = w.drewN n := by
  have HN := mhid (mmnone_made w M _ h.mc.f)
  by_cases hb : 1 ≤ b ∧ b < 17
  · have HV := mhid (show tV m b = m.tpc.getD b.toNat 0 ∧ tS m b = m.tpsr.getD b.toNat 0 ∧ tE b = 0 from ⟨if_pos hb, if_pos hb, if_pos hb⟩)
    rw [HV.out.1, HV.out.2.1, HV.out.2.2]
    obtain ⟨k, rfl⟩ := Int.eq_ofNat_of_zero_le (show 0 ≤ b by omega)
    have hk : k < 17 := by omega
    have c1 := h.tpcc hk
    have c2 := h.tpsrc hk
    have k1 : ¬ (k : Int) < 1 := by omega
    have k2 : ¬ 17 ≤ (k : Int) := by omega
    have k3 : (0 : Int) ≤ (k : Int) := by omega
    have k4 : (k : Int) < 17 := by omega
    rw [Int.toNat_natCast]
    generalize m.tpc.getD k 0 = u at *
    generalize m.tpsr.getD k 0 = v at *
    clear h hb HV
    go_enter Tryz.func13, Tryz.ntmps13
    go_wp2_with fail
    refine HN.out.mono ?_
    rintro e w0 ⟨rfl, rfl⟩
    go_wp2_with fail
    go_quiet (fail)
    go_wp2_with fail
    go_ret3
    exact ⟨rfl, _, rfl⟩
  · have HV := mhid (show tV m b = 0 ∧ tS m b = 0 ∧ tE b = 2 from ⟨if_neg hb, if_neg hb, if_neg hb⟩)
    rw [HV.out.1, HV.out.2.1, HV.out.2.2]
    have hc : b < 1 ∨ (¬ b < 1 ∧ 17 ≤ b) := by omega
    clear h hb HV
    rcases hc with k1 | ⟨k1, k2⟩
    all_goals
      go_enter Tryz.func13, Tryz.ntmps13
      go_wp2_with fail
      refine HN.out.mono ?_
      rintro e w0 ⟨rfl, rfl⟩
      go_wp2_with fail
      go_ret3
      exact ⟨rfl, 0, rfl⟩
theorem msetpc_any (w : World) (G : MG) (M : Nat) (m : Mx) (h : MachAt w G M m) (x : Int) (hx : 0 ≤ x ∧ x < 4294967296) :
    Calls Tryz.prog 22 #[.pointer (some ⟨M, 0, none⟩), .int .u32 x] w fun e w' => e = .returned (.int .i64 0) ∧ MachAt w' G M { m with pc := x } ∧ Only (fun k => k = M) w w' := by
  have HN := mhid (mmnone_made w M _ h.mc.f)
  have c := h.mc.pc
  have f := h.mc.fz 3
  have H := mhid (h.setPc hx)
  clear h
  go_enter Tryz.func22, Tryz.ntmps22
  go_wp2_with fail
  refine HN.out.mono ?_
  rintro e w0 ⟨rfl, rfl⟩
  go_wp2_with fail
  go_ret
  exact ⟨rfl, H.out, onlyM w M 3 _⟩
/-- The WIM that is set. -/
def swimM (m : Mx) (x : Int) : Mx := if invE x m.nw = 0 then { m with wim := x } else m
set_option maxRecDepth 100000 in
set_option maxHeartbeats 1000000 in
theorem msetwim_any (w : World) (hbr : Bru w) (G : MG) (M : Nat) (m : Mx) (h : MachAt w G M m) (x : Int) (hx : 0 ≤ x ∧ x < 4294967296) :
    Calls Tryz.prog 30 #[.pointer (some ⟨M, 0, none⟩), .int .u32 x] w fun e w' => e = .returned (.int .i64 (invE x m.nw)) ∧ MachAt w' G M (swimM m x) ∧ Only (fun k => k = M) w w' := by
  have HN := mhid (mmnone_made w M _ h.mc.f)
  have HI := mhid (show Calls Tryz.prog 58 #[.int .u32 x, .int .i64 m.f.nw] w fun e w2 => e = .returned (.tuple #[.int .i64 (invV x m.nw), .int .i64 (invE x m.nw)]) ∧ Below w.heap.size w w2 from invalid_any x m.f.nw hx.1 hx.2 w hbr)
  have c0 := h.mc.nw
  have H := mhid h
  have HS := mhid (show swimM m x = if invE x m.nw = 0 then { m with wim := x } else m from rfl)
  clear h hbr
  generalize invV x m.nw = iv at *
  generalize invE x m.nw = er at *
  by_cases hz : er = 0
  · rw [if_pos hz] at HS
    subst hz
    go_enter Tryz.func30, Tryz.ntmps30
    go_wp2_with fail
    refine HN.out.mono ?_
    rintro e w0 ⟨rfl, rfl⟩
    go_wp2_with fail
    refine HI.out.mono ?_
    rintro e w1 ⟨rfl, hb⟩
    have H1 := mhid (H.out.keepb hb)
    have HB := mhid hb
    have c4 := H1.out.mc.wim
    have f4 := H1.out.mc.fz 4
    clear hb
    go_wp2_with fail
    go_ret
    rw [HS.out]
    exact ⟨rfl, H1.out.setWim hx, (Only.of_below HB.out).trans (onlyM w1 M 4 _)⟩
  · rw [if_neg hz] at HS
    have k1 : (er != 0) = true := by simpa using hz
    clear hz
    go_enter Tryz.func30, Tryz.ntmps30
    go_wp2_with fail
    refine HN.out.mono ?_
    rintro e w0 ⟨rfl, rfl⟩
    go_wp2_with fail
    refine HI.out.mono ?_
    rintro e w1 ⟨rfl, hb⟩
    go_wp2_with fail
    go_ret
    rw [HS.out]
    exact ⟨rfl, H.out.keepb hb, Only.of_below hb⟩
end Go.Proofs.YtgdebchbdmogcaaGreatDoor
/- The walks of mach.New, SetPsr, Out; slices.Clone at words. -/
namespace Go.Proofs.YtgdebchbdmogcaaGreatDoor
open Go.RowKit
set_option linter.unusedVariables false
set_option linter.unusedSimpArgs false
/-- Words, cloned. -/
theorem muclone_any (w : World) (v : Value) (l : List Int) (h : Reads32 w v l) (hl : l.length * 4 ≤ 140737488355328) (hnil : ∀ c n, v = .slice none n c → c = 0) : Calls Tryz.prog 37 #[v] w fun e w' => ∃ v', e = .returned v' ∧ w'.ownsRow w.heap.size 22 1 v' l.length (u32s l) ∧ Below w.heap.size w w' := by
  obtain ⟨i0, hi, hz0, hz1, hz2⟩ := info_parts info32
  obtain ⟨b, o, p, c, rfl, hlm, hp, hc⟩ := h.shape
  have q22 : ∀ (w : World) (a : Option Addr) (n c n' c' : Nat), (binOp .eql 25 (.slice a n c) (.slice none n' c')).run Tryz.prog w = .ok (.bool a.isNone) w := fun w a n c n' c' => Lib.run_eql_slice_nil w _ _ a n c n' c' Tryz.underlying25
  have HC := mhid (And.intro hp hc)
  clear hp hc h
  cases p with
  | none =>
    have h0 : l = [] := by
      rcases Nat.eq_zero_or_pos l.length with h | h
      · exact List.eq_nil_of_length_eq_zero h
      · have := HC.out.1 h; cases this
    subst h0
    obtain rfl := hnil c _ rfl
    clear HC hnil
    have HZ := mhid (World.ownsRow_nil w w.heap.size 22 1)
    go_enter Tryz.func37, Tryz.ntmps37
    go_wp2
    go_ret
    exact ⟨_, rfl, HZ.out, Below.refl _ _⟩
  | some a =>
    have hcell : ∀ (j : Nat) u, (u32s l)[j]? = some u → w.cell? (a.add j) = some u := by
      intro j u hu
      have hj : j < l.length := by
        have := (List.getElem?_eq_some_iff.1 hu).1
        simpa [u32s] using this
      have := HC.out.1 (by omega)
      cases this
      rw [u32s_get hj] at hu
      cases hu
      have e : (⟨b, o, none⟩ : Addr).add j = ⟨b, o + j, none⟩ := by unfold Addr.add; split <;> simp [*]
      rw [e]; exact HC.out.2 j hj
    have HCl := mhid hcell
    clear hcell HC hnil
    go_enter Tryz.func37, Tryz.ntmps37
    go_wp2_with (at_builtin; refine wpList_append_own _ rfl _ _ 25 rfl w.heap.size 22 i0 _ 1 4 Tryz.underlying25 hi hz0 hz1 hz2 rfl (by decide) (.slice (some ⟨w.heap.size, 0, none⟩) 0 0) _ _ rfl (World.ownsRow_made w #[] 0 (Nat.le_refl _) (Nat.zero_le _) (by simp)) a l.length c (u32s l) rfl (by simp [u32s]) (fun j u hj => by rw [World.cell?_alloc_lt]; exact HCl.out j u hj; exact World.block_lt_of_cell? _ _ (HCl.out j u hj)) u32s_one (by unfold maxLen; omega) (by omega) (by simp) ?_; intro v' w1 hown hgrow hnil; rw [Nat.zero_add, List.nil_append] at hown)
    go_wp2
    go_ret
    exact ⟨v', rfl, hown, ((Below.refl _ w).alloc (Nat.le_refl _) _).grown hgrow (by simp) (by intro k hk; simp [Value.ownBlock] at hk; omega)⟩
theorem mout_any (w : World) (G : MG) (M : Nat) (m : Mx) (h : MachAt w G M m) (hol : m.out.length < 4294967296) :
    Calls Tryz.prog 17 #[.pointer (some ⟨M, 0, none⟩)] w fun e w' => ∃ v', e = .returned v' ∧ w'.ownsRow w.heap.size 22 1 v' m.out.length (u32s m.out) ∧ Below w.heap.size w w' := by
  have HN := mhid (mmnone_made w M _ h.mc.f)
  have c := h.mc.out
  have ro := Reads32.of_own (l := m.out) h.out
  have hov : ∀ c n, G.outv = .slice none n c → c = 0 := fun c n e => by
    rcases h.out.2 with ⟨h1, _⟩ | ⟨g, cap, cur, h1, _⟩
    · rw [h1] at e; cases e; rfl
    · rw [h1] at e; cases e
  have HC := mhid (muclone_any w G.outv m.out ro (by omega) hov)
  obtain ⟨pv, nv, cv, hv⟩ := ro.shape'
  rw [hv] at c HC
  clear h ro hov hv
  go_enter Tryz.func17, Tryz.ntmps17
  go_wp2_with fail
  refine HN.out.mono ?_
  rintro e w0 ⟨rfl, rfl⟩
  go_wp2_with fail
  refine HC.out.mono ?_
  rintro e w1 ⟨v', rfl, ho, hb⟩
  go_wp2_with fail
  go_ret
  exact ⟨v', rfl, ho, hb⟩
/-- A machine that was just made. -/
def newM (nw size : Nat) : Mx := ⟨Fx.new nw, List.replicate size 0, 0, 2, Px.zero, List.replicate 17 0, List.replicate 17 0, [], [], 0, 0⟩
theorem newM_ok {nw size : Nat} (h2 : 2 ≤ nw) (h32 : nw ≤ 32) (hs : size ≤ 4194304) : (newM nw size).ok := by
  refine ⟨Fx.ok.new h2 h32, Bytes.zeros _, by simpa [newM] using hs, by simp [newM], by simp [newM], by simp [newM], by simp [newM], ?_, ?_, by simp [newM], Words.zeros _, by simp [newM], Words.zeros _, fun x hx => by simp [newM] at hx, fun x hx => by simp [newM] at hx, by simp [newM], by simp [newM], by simp [newM], by simp [newM]⟩
  · unfold newM Px.zero Px.bd; simp
  · unfold newM Px.zero pmayP Mx.nw Fx.new; simp; omega
def NewOk (m : Mx) (w : World) (e : Ending) (w' : World) : Prop :=
  ∃ M G, e = .returned (.tuple #[.pointer (some ⟨M, 0, none⟩), .int .i64 0]) ∧ MachAt w' G M m ∧ (∀ k, G.R k ≠ .none → w.heap.size ≤ k) ∧ Below w.heap.size w w'
theorem mnew_err (nw size : Int) (w : World) (h : ¬ winP nw ∨ (winP nw ∧ (size < 0 ∨ 4194304 < size ∨ size % 4 ≠ 0))) :
    Calls Tryz.prog 25 #[.int .i64 nw, .int .i64 size] w fun e w' => e = .returned (.tuple #[.pointer none, .int .i64 2]) ∧ Below w.heap.size w w' := by
  rcases h with h | ⟨h, h2⟩
  · have HF := mhid (fnew_err nw w h)
    clear h
    go_enter Tryz.func25, Tryz.ntmps25
    go_wp2_with fail
    refine HF.out.mono ?_
    rintro e w1 ⟨rfl, rfl⟩
    go_wp2_with fail
    go_ret2
    exact ⟨rfl, Below.refl _ _⟩
  · obtain ⟨n, rfl⟩ := Int.eq_ofNat_of_zero_le (show 0 ≤ nw by have := h.1; omega)
    have HF := mhid (fnew_ok n w (by have := h.1; omega) (by have := h.2; omega))
    have HM := mhid (fun w' => new_err size w' h2)
    clear h h2
    go_enter Tryz.func25, Tryz.ntmps25
    go_wp2_with fail
    refine HF.out.mono ?_
    rintro e w1 ⟨F, Wb, cap, rfl, hF, hW, hf, hb⟩
    go_wp2_with fail
    refine (HM.out w1).mono ?_
    rintro e w2 ⟨rfl, rfl⟩
    go_wp2_with fail
    go_ret2
    exact ⟨rfl, hb⟩
set_option maxRecDepth 100000 in
set_option maxHeartbeats 2000000 in
theorem mnew_ok (nw size : Nat) (w : World) (h2 : 2 ≤ nw) (h32 : nw ≤ 32) (hs : size ≤ 4194304) (h4 : size % 4 = 0) :
    Calls Tryz.prog 25 #[.int .i64 nw, .int .i64 size] w (NewOk (newM nw size) w) := by
  have HF := mhid (fnew_ok nw w h2 h32)
  have HM := mhid (fun w' => new_ok size w' hs h4)
  have HOK := mhid (newM_ok h2 h32 hs)
  go_enter Tryz.func25, Tryz.ntmps25
  go_wp2_with fail
  refine HF.out.mono ?_
  rintro e w1 ⟨F, Wb, cap, rfl, hF, hW, hf, hb⟩
  go_wp2_with fail
  refine (HM.out w1).mono ?_
  rintro e w2 ⟨mB, gB, rfl, hm, hg, hmem, hb2⟩
  go_wp2_with fail
  have hbb : Below w.heap.size w w2 := hb.trans (hb2.mono hb.size)
  have h1 := hf.cells.lt
  have h2' := hf.win.lt
  have h3 := hmem.lt
  have h5 := hf.ne
  have h6 := hmem.ne
  go_ret2
  refine ⟨w2.heap.size, ⟨fun k => if k = w2.heap.size then .mach else if k = F then .file else if k = Wb then .win else if k = mB then .mem else if k = gB then .bytes else .none, F, Wb, cap, mB, gB, .slice none 0 0, .slice none 0 0⟩, rfl, ⟨HOK.out, ?_, ?_, ?_, ?_, ?_, ?_, ?_, ?_, ?_, ?_, ?_, ?_⟩, ?_, hbb.alloc hbb.size _⟩
  · exact heap_alloc_new w2 _
  · exact (hf.keepb hb2).keepb ((Below.refl _ _).alloc (Nat.le_refl _) _)
  · exact hmem.keep ((Only.refl (fun _ => False) w2).alloc _) id id
  · exact World.ownsRow_nil _ _ _ _
  · exact fun W _ => ⟨⟨by unfold maxLen; simp [newM], none, 0, rfl, fun h => by simp [newM] at h⟩, fun p n c e => by cases e; exact ⟨Nat.le_refl _, fun _ => rfl⟩⟩
  · simp
  · have : ¬ F = w2.heap.size := by have := hb2.size; omega
    simp [this]
  · have : ¬ Wb = w2.heap.size := by have := hb2.size; omega
    have h7 : ¬ Wb = F := fun e => h5 e.symm
    simp [this, h7]
  · have e1 : ¬ mB = w2.heap.size := by omega
    have e2 : ¬ mB = F := by omega
    have e3 : ¬ mB = Wb := by omega
    simp [e1, e2, e3]
  · have e1 : ¬ gB = w2.heap.size := by omega
    have e2 : ¬ gB = F := by omega
    have e3 : ¬ gB = Wb := by omega
    have e4 : ¬ gB = mB := fun e => h6 e.symm
    simp [e1, e2, e3, e4]
  · intro k hk; cases hk
  · intro k hk
    have hs2 := hb2.size
    simp only [World.size_alloc]
    by_cases e0 : k = w2.heap.size
    · omega
    · by_cases e1 : k = F
      · omega
      · by_cases e2 : k = Wb
        · omega
        · by_cases e3 : k = mB
          · omega
          · by_cases e4 : k = gB
            · omega
            · simp [e0, e1, e2, e3, e4] at hk
  · intro k hk
    have hs2 := hbb.size
    have hs1 := hb.size
    by_cases e0 : k = w2.heap.size
    · omega
    · by_cases e1 : k = F
      · omega
      · by_cases e2 : k = Wb
        · omega
        · by_cases e3 : k = mB
          · omega
          · by_cases e4 : k = gB
            · omega
            · simp [e0, e1, e2, e3, e4] at hk
end Go.Proofs.YtgdebchbdmogcaaGreatDoor
/- Walks of the document's May and Encode (muntinref02). -/
namespace Go.Proofs.YtgdebchbdmogcaaGreatDoor
open Go.RowKit
set_option linter.unusedVariables false
set_option linter.unusedSimpArgs false
set_option maxRecDepth 100000 in
set_option maxHeartbeats 1000000 in
theorem rmay_zero (x : Ix) (hb : x.bd) (hk : kindS x.op = 0) (w : World) :
    Calls Tryz.prog 112 #[x.agg] w fun e w' => e = .returned (.bool (mayB x)) ∧ Below w.heap.size w w' := by
  have E := ihid (may_out (.inr (.inr (.inr (.inl hk)))))
  obtain ⟨op, rd, rs1, rs2, is, imm⟩ := x
  have b0 := hb.1
  simp only at b0 hk
  have HK := ihid hk
  clear hk hb
  go_enter Tryz.func112, Tryz.ntmps112
  go_wp2_with fail
  refine (rkind_any op 0 b0.1 HK.out _).mono ?_
  rintro e w' ⟨rfl, rfl⟩
  go_wp2_with fail
  go_ret
  exact ⟨iretb E.out.symm, (Below.refl _ _).alloc (Nat.le_refl _) _⟩
theorem rmay_any (x : Ix) (hb : x.bd) (w : World) :
    Calls Tryz.prog 112 #[x.agg] w fun e w' => e = .returned (.bool (mayB x)) ∧ Below w.heap.size w w' := by
  by_cases h0 : kindS x.op = 0
  · exact rmay_zero x hb h0 w
  · by_cases ho : x.rd ≤ 31 ∧ x.rs1 ≤ 31 ∧ x.rs2 ≤ 31 ∧ (x.is = true → x.rs2 = 0) ∧ (x.is = false → x.imm = 0)
    · obtain ⟨h1, h2, h3, h4, h5⟩ := ho
      obtain ⟨op, rd, rs1, rs2, is, imm⟩ := x
      simp only at h1 h2 h3 h4 h5
      rcases kind_cases op with hk | hk | hk | hk | hk | hk | hk | hk | hk | hk | hk | hk | hk
      · exact absurd hk h0
      · cases is
        · exact rmay_1f _ _ _ _ _ hb hk h1 h2 h3 (h5 rfl) w
        · exact rmay_1t _ _ _ _ _ hb hk h1 h2 h3 (h4 rfl) w
      · cases is
        · exact rmay_2f _ _ _ _ _ hb hk h1 h2 h3 (h5 rfl) w
        · exact rmay_2t _ _ _ _ _ hb hk h1 h2 h3 (h4 rfl) w
      · cases is
        · exact rmay_3f _ _ _ _ _ hb hk h1 h2 h3 (h5 rfl) w
        · exact rmay_3t _ _ _ _ _ hb hk h1 h2 h3 (h4 rfl) w
      · cases is
        · exact rmay_4f _ _ _ _ _ hb hk h1 h2 h3 (h5 rfl) w
        · by_cases h6 : rd ≤ 6
          · exact rmay_4ty _ _ _ _ _ hb hk h1 h2 h3 (h4 rfl) h6 w
          · exact rmay_4tn _ _ _ _ _ hb hk h1 h2 h3 (h4 rfl) (by omega) w
      · cases is
        · exact rmay_5f _ _ _ _ _ hb hk h1 h2 h3 (h5 rfl) w
        · exact rmay_5t _ _ _ _ _ hb hk h1 h2 h3 (h4 rfl) w
      · cases is
        · exact rmay_6f _ _ _ _ _ hb hk h1 h2 h3 (h5 rfl) w
        · exact rmay_6t _ _ _ _ _ hb hk h1 h2 h3 (h4 rfl) w
      · cases is
        · exact rmay_7f _ _ _ _ _ hb hk h1 h2 h3 (h5 rfl) w
        · exact rmay_7t _ _ _ _ _ hb hk h1 h2 h3 (h4 rfl) w
      · cases is
        · exact rmay_8f _ _ _ _ _ hb hk h1 h2 h3 (h5 rfl) w
        · exact rmay_8t _ _ _ _ _ hb hk h1 h2 h3 (h4 rfl) w
      · cases is
        · exact rmay_9f _ _ _ _ _ hb hk h1 h2 h3 (h5 rfl) w
        · exact rmay_9t _ _ _ _ _ hb hk h1 h2 h3 (h4 rfl) w
      · cases is
        · exact rmay_10f _ _ _ _ _ hb hk h1 h2 h3 (h5 rfl) w
        · exact rmay_10t _ _ _ _ _ hb hk h1 h2 h3 (h4 rfl) w
      · cases is
        · exact rmay_11f _ _ _ _ _ hb hk h1 h2 h3 (h5 rfl) w
        · exact rmay_11t _ _ _ _ _ hb hk h1 h2 h3 (h4 rfl) w
      · cases is
        · exact rmay_12f _ _ _ _ _ hb hk h1 h2 h3 (h5 rfl) w
        · exact rmay_12t _ _ _ _ _ hb hk h1 h2 h3 (h4 rfl) w
    · exact rmay_out x hb h0 ho w
set_option maxHeartbeats 400000 in
theorem rlow_any (n of : Int) (hof : of = 2097152 ∨ of = 32768) (h0 : -2147483648 ≤ n) (h1 : n < 2147483648) (w : World) : Calls Tryz.prog 114 #[.int .i32 n, .int .i64 of] w fun e w' => e = .returned (.int .u32 (n % of)) ∧ w = w' := by
  have hm : 0 ≤ n.tmod of ∧ n.tmod of = n % of ∨ n.tmod of < 0 ∧ n.tmod of + of = n % of := by
    rw [Int.tmod_eq_emod]
    have hd : of ∣ n ↔ n % of = 0 := Int.dvd_iff_emod_eq_zero
    have : 0 ≤ n % of ∧ n % of < of := by rcases hof with rfl | rfl <;> omega
    have ho : (of.natAbs : Int) = of := by rcases hof with rfl | rfl <;> rfl
    split <;> rename_i h
    · left; omega
    · have hh : ¬ (0 ≤ n ∨ n % of = 0) := fun h2 => h (h2.imp id hd.2)
      right; omega
  have hr : 0 ≤ n % of ∧ n % of < of := by rcases hof with rfl | rfl <;> omega
  have ht : -4294967296 < n.tmod of ∧ n.tmod of < 4294967296 := by rcases hof with rfl | rfl <;> omega
  have ho : 0 < of ∧ of < 4294967296 := by rcases hof with rfl | rfl <;> omega
  have h00 : (of == 0) = false := by rcases hof with rfl | rfl <;> rfl
  have hw : IntKind.i64.wrap (n.tmod of) = n.tmod of := IntWalk.i64_in _ (by omega)
  have hw3 : wrap64 (n.tmod of) = n.tmod of := by rw [IntWalk.wrap64_in _ (by omega)]
  have HM := ihid hm
  have HR := ihid hr
  clear hm hr hof
  by_cases hs : n.tmod of < 0
  · have hs2 : decide (n.tmod of < 0) = true := by simpa using hs
    have HE : n.tmod of + of = n % of := by have := HM.out; omega
    have hb : 0 ≤ n.tmod of + of ∧ n.tmod of + of < 4294967296 := by have := HR.out; omega
    have hw5 : wrap64 (n.tmod of + of) = n.tmod of + of := by rw [IntWalk.wrap64_in _ (by omega)]
    have hw6 : (n.tmod of + of) % 4294967296 = n.tmod of + of := Int.emod_eq_of_lt hb.1 hb.2
    replace HE := ihid HE
    go_enter Tryz.func114, Tryz.ntmps114
    go_wp2
    go_ret
    exact ⟨iret (by first | exact HE.out | (rw [hw5, hw6]; exact HE.out)), rfl⟩
  · have hs2 : decide (n.tmod of < 0) = false := by simpa using hs
    have HE : n.tmod of = n % of := by have := HM.out; omega
    have hb : 0 ≤ n.tmod of ∧ n.tmod of < 4294967296 := by omega
    replace HE := ihid HE
    go_enter Tryz.func114, Tryz.ntmps114
    go_wp2
    go_ret
    exact ⟨iret HE.out, rfl⟩
set_option maxRecDepth 100000 in
set_option maxHeartbeats 1000000 in
theorem renc_any (x : Ix) (hb : x.bd) (w : World) :
    Calls Tryz.prog 90 #[x.agg] w fun e w' => e = .returned (.tuple #[.int .u32 (encS x), .int .i64 (encE x)]) ∧ Below w.heap.size w w' := by
  have hm := rmay_any x hb (w.alloc (.cells #[.int .u8 x.op, .int .u8 x.rd, .int .u8 x.rs1, .int .u8 x.rs2, .bool x.is, .int .i32 x.imm] 65))
  unfold encS encE
  by_cases h : mayP x
  · rw [if_pos h, if_pos h]
    rw [show mayB x = true from decide_eq_true h] at hm
    have HM := ihid hm
    have B := may_bd hb h
    have HP := ihid h
    obtain ⟨op, rd, rs1, rs2, is, imm⟩ := x
    obtain ⟨b0, b1, b2, b3, b4⟩ := hb
    simp only at b0 b1 b2 b3 b4 B
    have hl1 := rlow_any imm 2097152 (.inl rfl) b4.1 b4.2
    have hl2 := rlow_any imm 32768 (.inr rfl) b4.1 b4.2
    have HL1 := ihid hl1
    have HL2 := ihid hl2
    have hk := fun W => rkind_any op (kindS op) b0.1 rfl W
    have HK := ihid hk
    have c1 : 0 ≤ imm % 2097152 ∧ imm % 2097152 < 2097152 := by omega
    have c2 : 0 ≤ imm % 32768 ∧ imm % 32768 < 32768 := by omega
    clear hm h hl1 hl2 hk
    have hnext : ∀ w' : World, Below (w.alloc (.cells #[.int .u8 op, .int .u8 rd, .int .u8 rs1, .int .u8 rs2, .bool is, .int .i32 imm] 65)).heap.size (w.alloc (.cells #[.int .u8 op, .int .u8 rd, .int .u8 rs1, .int .u8 rs2, .bool is, .int .i32 imm] 65)) w' →
        w'.cell? ⟨w.heap.size, 0, none⟩ = some (.int .u8 op) ∧ w'.cell? ⟨w.heap.size, 1, none⟩ = some (.int .u8 rd) ∧ w'.cell? ⟨w.heap.size, 2, none⟩ = some (.int .u8 rs1) ∧ w'.cell? ⟨w.heap.size, 3, none⟩ = some (.int .u8 rs2) ∧ w'.cell? ⟨w.heap.size, 4, none⟩ = some (.bool is) ∧ w'.cell? ⟨w.heap.size, 5, none⟩ = some (.int .i32 imm) ∧ Below w.heap.size w w' := by
      intro w' hbl
      refine ⟨?_, ?_, ?_, ?_, ?_, ?_, ((Below.refl _ _).alloc (Nat.le_refl _) _).trans (hbl.mono (by simp))⟩
      · exact (hbl.cell (p := ⟨w.heap.size, 0, none⟩) (by simp)).trans (by simp)
      · exact (hbl.cell (p := ⟨w.heap.size, 1, none⟩) (by simp)).trans (by simp)
      · exact (hbl.cell (p := ⟨w.heap.size, 2, none⟩) (by simp)).trans (by simp)
      · exact (hbl.cell (p := ⟨w.heap.size, 3, none⟩) (by simp)).trans (by simp)
      · exact (hbl.cell (p := ⟨w.heap.size, 4, none⟩) (by simp)).trans (by simp)
      · exact (hbl.cell (p := ⟨w.heap.size, 5, none⟩) (by simp)).trans (by simp)
    have HN := ihid hnext
    clear hnext
    by_cases hl : longK (kindS op)
    · have hk1 : decide (3 ≤ kindS op) = true := by rcases hl with h | h | h <;> rw [h] <;> rfl
      have hk2 : decide (kindS op ≤ 5) = true := by rcases hl with h | h | h <;> rw [h] <;> rfl
      have E := ihid (show wordS ⟨op, rd, rs1, rs2, is, imm⟩ = op * 67108864 + rd * 2097152 + imm % 2097152 by unfold wordS tailS; rw [if_pos hl])
      clear hl
      generalize kindS op = q at hk1 hk2 HK
      go_enter Tryz.func90, Tryz.ntmps90
      go_wp2_with fail
      refine HM.out.mono ?_
      rintro e w' ⟨rfl, hbl⟩
      obtain ⟨x0, x1, x2, x3, x4, x5, xb⟩ := HN.out w' hbl
      have XB := ihid xb
      clear hbl xb
      go_wp2_with fail
      refine (HK.out _).mono ?_
      rintro e w'' ⟨rfl, rfl⟩
      go_wp2_with fail
      refine (HL1.out _).mono ?_
      rintro e w'' ⟨rfl, rfl⟩
      go_wp2_with fail
      go_ret2
      exact ⟨iret2 E.out.symm rfl, XB.out⟩
    · have hkd : (decide (3 ≤ kindS op) && decide (kindS op ≤ 5)) = false := by
        unfold longK at hl; simp; omega
      have hks : decide (3 ≤ kindS op) = false ∨ decide (3 ≤ kindS op) = true ∧ decide (kindS op ≤ 5) = false := by
        simp at hkd ⊢; omega
      have E1 := ihid (show wordS ⟨op, rd, rs1, rs2, true, imm⟩ = op * 67108864 + rd * 2097152 + rs1 * 65536 + 32768 + imm % 32768 by unfold wordS tailS; rw [if_neg hl]; simp; omega)
      have E2 := ihid (show wordS ⟨op, rd, rs1, rs2, false, imm⟩ = op * 67108864 + rd * 2097152 + rs1 * 65536 + rs2 by unfold wordS tailS; rw [if_neg hl]; simp; omega)
      clear hl hkd
      generalize kindS op = q at hks HK
      rcases hks with hk1 | ⟨hk1, hk2⟩ <;> cases is
      all_goals
        go_enter Tryz.func90, Tryz.ntmps90
        go_wp2_with fail
        refine HM.out.mono ?_
        rintro e w' ⟨rfl, hbl⟩
        obtain ⟨x0, x1, x2, x3, x4, x5, xb⟩ := HN.out w' hbl
        have XB := ihid xb
        clear hbl xb
        go_wp2_with fail
        refine (HK.out _).mono ?_
        rintro e w'' ⟨rfl, rfl⟩
        go_wp2_with (go_at_call 114; refine (HL2.out _).mono ?_; rintro e w'' ⟨rfl, rfl⟩)
        go_ret2
        first | exact ⟨iret2 E1.out.symm rfl, XB.out⟩ | exact ⟨iret2 E2.out.symm rfl, XB.out⟩
  · rw [if_neg h, if_neg h]
    rw [show mayB x = false from decide_eq_false h] at hm
    have HM := ihid hm
    clear hm h hb
    obtain ⟨op, rd, rs1, rs2, is, imm⟩ := x
    go_enter Tryz.func90, Tryz.ntmps90
    go_wp2_with fail
    refine HM.out.mono ?_
    rintro e w' ⟨rfl, hbl⟩
    have HB := ihid hbl
    clear hbl
    go_wp2_with fail
    go_ret2
    exact ⟨rfl, ((Below.refl _ _).alloc (Nat.le_refl _) _).trans (HB.out.mono (by simp))⟩
end Go.Proofs.YtgdebchbdmogcaaGreatDoor
/- The walks of muntinlaw06.word and small. -/
namespace Go.Proofs.YtgdebchbdmogcaaGreatDoor
open Go.RowKit
set_option linter.unusedVariables false
set_option linter.unusedSimpArgs false
theorem mlword_any (x : Ix) (hb : x.bd) (w : World) :
    Calls Tryz.prog 49 #[x.agg] w fun e w' => e = .returned (.int .u32 (encS x)) ∧ Below w.heap.size w w' := by
  have HR := mhid (fun w' => renc_any x hb w')
  have hbb : Below w.heap.size w (w.alloc (.cells #[.int .u8 x.op, .int .u8 x.rd, .int .u8 x.rs1, .int .u8 x.rs2, .bool x.is, .int .i32 x.imm] 65)) := (Below.refl _ _).alloc (Nat.le_refl _) _
  have HB := mhid hbb
  clear hbb
  go_enter Tryz.func49, Tryz.ntmps49
  go_wp2_with fail
  refine (HR.out _).mono ?_
  rintro e w1 ⟨rfl, hb1⟩
  go_wp2_with fail
  go_ret
  exact ⟨rfl, HB.out.trans (hb1.mono HB.out.size)⟩
theorem u32_small {n : Int} (h0 : 0 ≤ n) (h1 : n < 4294967296) : IntKind.u32.wrap n = n := by rw [uw]; unfold u32; omega
/-- The memory, so many instructions laid. -/
def smallD (l : List Ix) : Nat → List Int
  | 0 => List.replicate 1024 0
  | k + 1 => storeV (smallD l k) (4 * (k : Int)) 4 (encS (l.getD k Ix.zero))
def smallM (l : List Ix) : Mx := { newM 2 1024 with mem := smallD l l.length }
theorem smallD_ok (l : List Ix) : ∀ k, Bytes (smallD l k) ∧ (smallD l k).length = 1024 := by
  intro k
  induction k with
  | zero => exact ⟨Bytes.zeros _, List.length_replicate⟩
  | succ k ih =>
    have := storeV_ok ih.1 (4 * (k : Int)) 4 (encS (l.getD k Ix.zero))
    exact ⟨this.1, this.2.trans ih.2⟩
theorem encS_bd {x : Ix} (hb : x.bd) : 0 ≤ encS x ∧ encS x < 4294967296 := by
  unfold encS
  split
  · rename_i h; have := word_bd hb h; omega
  · omega
def MkOk (m : Mx) (w : World) (e : Ending) (w' : World) : Prop :=
  ∃ M G, e = .returned (.pointer (some ⟨M, 0, none⟩)) ∧ MachAt w' G M m ∧ (∀ k, G.R k ≠ .none → w.heap.size ≤ k) ∧ Below w.heap.size w w'
set_option maxRecDepth 100000 in
set_option maxHeartbeats 4000000 in
theorem small_any (w : World) (v : Value) (l : List Ix) (hI : InsIn w v l) (hl : l.length ≤ 256) :
    Calls Tryz.prog 21 #[v] w (MkOk (smallM l) w) := by
  obtain ⟨hm, p, c, b, o, rfl, hp, hat⟩ := hI
  have HN := mhid (mnew_ok 2 1024 w (by omega) (by omega) (by omega) (by omega))
  have HA := mhid (And.intro hp hat)
  clear hp hat
  go_enter Tryz.func21, Tryz.ntmps21
  go_wp2_with fail
  refine HN.out.mono ?_
  rintro e w1 ⟨M, G, rfl, hM, hlo, hb⟩
  have HL := mhid hlo
  have HB := mhid hb
  have HM := mhid hM
  clear hb hlo hM
  go_wp2_with fail
  go_loopw [5] (fun i wr => ∃ k : Nat, i = .int .i64 k ∧ k ≤ l.length ∧ MachAt wr G M { newM 2 1024 with mem := smallD l k } ∧ Below w.heap.size w wr) (fun i _ => l.length - (intOf i).toNat)
  case atStart => exact ⟨0, rfl, Nat.zero_le _, HM.out, HB.out⟩
  case round =>
    obtain ⟨k, rfl, hk, hmk, hbk⟩ := hrel
    by_cases hlt : k < l.length
    · obtain rfl := HA.out.1 (by omega)
      have hx := HA.out.2 k l[k] (List.getElem?_eq_getElem hlt)
      have hgd : l.getD k Ix.zero = l[k] := by simp [List.getD_eq_getElem?_getD, hlt]
      have hD : smallD l (k + 1) = storeV (smallD l k) (4 * (k : Int)) 4 (encS l[k]) := by rw [← hgd]; rfl
      generalize l[k] = x at *
      have hdd := smallD_ok l k
      have hxb := hx.bd
      have hxr := hx.keepb hbk
      have hlt2 := hx.lt
      have hgb : w.heap.size ≤ G.gB := HL.out _ (by rw [HM.out.rg]; simp)
      have hsz := hbk.size
      have hd : Below wr.heap.size wr wr.drew := (Below.refl _ _).drew
      have he := encS_bd hxb
      have HG := mhid (fun w' (hb : Below wr.heap.size wr w') => mmem_any w' G M _ (hmk.keepb hb))
      have HF := mhid (fun w' => mlword_any x hxb w')
      have HT := mhid (show ∀ w', Below wr.heap.size wr w' → Calls Tryz.prog 48 #[.pointer (some ⟨G.mB, 0, none⟩), .int .u32 (4 * (k : Int)), .int .i64 4, .int .u32 (encS x)] w' fun e w2 => e = .returned (.int .i64 (spanE (smallD l k).length (4 * (k : Int)) 1 4)) ∧ MemAt w2 G.mB G.gB (smallD l (k + 1)) ∧ Only (fun k => k = G.gB) w' w2 from fun w' hb => (store_any w' G.mB G.gB (smallD l k) (hmk.keepb hb).mem (4 * (k : Int)) 4 (by omega) (by omega) (encS x) he.1 he.2).mono fun e w2 he => ⟨he.1, by rw [hD]; exact he.2.1, he.2.2.1⟩)
      have HS := mhid (show ∀ w', Below wr.heap.size wr w' → w'.cell? ⟨b, o + k * 6, none⟩ = some (.int .u8 x.op) ∧ w'.cell? ⟨b, o + k * 6 + 1, none⟩ = some (.int .u8 x.rd) ∧ w'.cell? ⟨b, o + k * 6 + 2, none⟩ = some (.int .u8 x.rs1) ∧ w'.cell? ⟨b, o + k * 6 + 3, none⟩ = some (.int .u8 x.rs2) ∧ w'.cell? ⟨b, o + k * 6 + 4, none⟩ = some (.bool x.is) ∧ w'.cell? ⟨b, o + k * 6 + 5, none⟩ = some (.int .i32 x.imm) from fun w' h => ⟨(hxr.keepb h).c0, (hxr.keepb h).c1, (hxr.keepb h).c2, (hxr.keepb h).c3, (hxr.keepb h).c4, (hxr.keepb h).c5⟩)
      have HS2 := mhid (show ∀ W1 w', Below wr.heap.size wr W1 → Only (fun k => k = G.gB) W1 w' → w'.cell? ⟨b, o + k * 6, none⟩ = some (.int .u8 x.op) ∧ w'.cell? ⟨b, o + k * 6 + 1, none⟩ = some (.int .u8 x.rd) ∧ w'.cell? ⟨b, o + k * 6 + 2, none⟩ = some (.int .u8 x.rs1) ∧ w'.cell? ⟨b, o + k * 6 + 3, none⟩ = some (.int .u8 x.rs2) ∧ w'.cell? ⟨b, o + k * 6 + 4, none⟩ = some (.bool x.is) ∧ w'.cell? ⟨b, o + k * 6 + 5, none⟩ = some (.int .i32 x.imm) from fun W1 w' h ho => by
        have h2 := (hxr.keepb h).keep ho (by omega)
        exact ⟨h2.c0, h2.c1, h2.c2, h2.c3, h2.c4, h2.c5⟩)
      have k0 := hxr.c0
      have k1 := hxr.c1
      have k2 := hxr.c2
      have k3 := hxr.c3
      have k4 := hxr.c4
      have k5 := hxr.c5
      have u0 : IntKind.i64.wrap (4 * (k : Int)) = 4 * (k : Int) := IntWalk.i64_in _ (by omega)
      have u1 : IntKind.u32.wrap (4 * (k : Int)) = 4 * (k : Int) := u32_small (by omega) (by omega)
      have HMK := mhid (And.intro hmk hbk)
      clear hmk hbk hxr hx
      generalize encS x = ex at *
      go_wp2_with fail
      go_region_held3 (fun w' => w'.cell? ⟨b, o + k * 6, none⟩ = some (.int .u8 x.op) ∧ w'.cell? ⟨b, o + k * 6 + 1, none⟩ = some (.int .u8 x.rd) ∧ w'.cell? ⟨b, o + k * 6 + 2, none⟩ = some (.int .u8 x.rs1) ∧ w'.cell? ⟨b, o + k * 6 + 3, none⟩ = some (.int .u8 x.rs2) ∧ w'.cell? ⟨b, o + k * 6 + 4, none⟩ = some (.bool x.is) ∧ w'.cell? ⟨b, o + k * 6 + 5, none⟩ = some (.int .i32 x.imm)) (first | (with_reducible exact ⟨k0, k1, k2, k3, k4, k5⟩) | (exact HS2.out _ _ hb1.out HM2.out.2) | (exact HS.out _ hb1.out) | (refine HS.out _ ?_; go_grown; done))
        (first | (go_at_call 14; (with_reducible refine (HG.out _ hd).mono ?_); rintro e W0 ⟨rfl, rfl⟩) | (go_at_call 49; (with_reducible refine (HF.out _).mono ?_); rintro e W1 ⟨rfl, hb10⟩; have hb1 := mhid (hd.trans (hb10.mono hd.size)); clear hb10) | (go_at_call 48; (with_reducible refine (HT.out _ hb1.out).mono ?_); rintro e W2 ⟨rfl, hmm, hoo⟩; have HM2 := mhid (And.intro hmm hoo); clear hmm hoo))
      go_wp2_with fail
      go_round
      · refine ⟨k + 1, rfl, by omega, ?_, ?_⟩
        · exact (HMK.out.1.keepb hb1.out).mem' HM2.out.2 HM2.out.1 (memM_ok HMK.out.1.ok (smallD_ok l (k + 1)).1 (by rw [(smallD_ok l (k + 1)).2, (smallD_ok l k).2]))
        · exact HMK.out.2.trans (((Only.of_below (S := fun k => k = G.gB) hb1.out).trans HM2.out.2).below hsz (fun q hq e => by omega))
      · simp only [intOf]; omega
    · have : k = l.length := by omega
      subst this
      have HMK := mhid (And.intro hmk hbk)
      clear hmk hbk
      go_wp2_with fail
      go_ret
      exact ⟨M, G, rfl, HMK.out.1, HL.out, HMK.out.2⟩
end Go.Proofs.YtgdebchbdmogcaaGreatDoor
/- What the document fixes: known programs' steps. -/
namespace Go.Proofs.YtgdebchbdmogcaaGreatDoor
open Go.RowKit
set_option maxRecDepth 100000
def headA : List Ix := [⟨1, 1, 0, 0, true, 5⟩, ⟨35, 0, 1, 0, false, 0⟩, ⟨36, 0, 1, 0, false, 0⟩]
def headB : List Ix := [⟨20, 0, 0, 0, false, 0⟩]
def headD : List Ix := [⟨4, 1, 0, 0, false, 0⟩]
def headF : List Ix := [⟨32, 0, 0, 0, false, 0⟩]
theorem knownA : (stepM (smallM headA) 0).pc = 4 ∧ (stepM (stepM (stepM (smallM headA) 0) 0) 0).kind = 1 ∧ (stepM (stepM (stepM (smallM headA) 0) 0) 0).v = 5 ∧ (stepM (stepM (stepM (smallM headA) 0) 0) 0).out = [5] := by decide +kernel
theorem knownB : (stepM (smallM headB) 0).pc = 272 ∧ (stepM (smallM headB) 0).p.cwp = 0 ∧ (stepM (smallM headB) 0).p.pil = 0 ∧ (stepM (smallM headB) 0).p.bank = 16 ∧ (stepM (smallM headB) 0).p.flags = 0 ∧ (stepM (smallM headB) 0).wim = 2 ∧ (stepM (smallM headB) 0).tpc.getD 16 0 = 0 := by decide +kernel
def headC : Mx := stepM { smallM [] with pc := 40 } 3
theorem knownC : headC.pc = 560 ∧ headC.p.cwp = 0 ∧ headC.p.pil = 3 ∧ headC.p.bank = 3 ∧ headC.p.flags = 0 ∧ headC.tpc.getD 3 0 = 40 ∧ (stepM headC 3).kind = 3 ∧ (stepM headC 3).v = 0 := by decide +kernel
theorem knownD : (stepM (smallM headD) 0).kind = 2 ∧ (stepM (smallM headD) 0).v = 1 := by decide +kernel
theorem knownF : (stepM (smallM headF) 0).kind = 3 ∧ (stepM (smallM headF) 0).v = 0 := by decide +kernel
end Go.Proofs.YtgdebchbdmogcaaGreatDoor
/- The walk of muntinlaw06.head: begun (literals alone). -/
namespace Go.Proofs.YtgdebchbdmogcaaGreatDoor
open Go.RowKit
set_option linter.unusedVariables false
set_option linter.unusedSimpArgs false
theorem insIn_nil (w : World) : InsIn w (.slice none 0 0) [] :=
  ⟨by unfold maxLen; simp, none, 0, 0, 0, rfl, fun h => by simp at h, fun k x hx => by simp at hx⟩
theorem insIn_one (w : World) (x : Ix) (hx : x.bd) : InsIn (w.alloc (.cells #[.int .u8 x.op, .int .u8 x.rd, .int .u8 x.rs1, .int .u8 x.rs2, .bool x.is, .int .i32 x.imm] 65)) (.slice (some ⟨w.heap.size, 0, none⟩) 1 1) [x] := by
  refine ⟨by unfold maxLen; simp, some ⟨w.heap.size, 0, none⟩, 1, w.heap.size, 0, rfl, fun _ => rfl, fun k y hy => ?_⟩
  rcases k with _ | k
  · simp at hy; subst hy
    refine ⟨?_, ?_, ?_, ?_, ?_, ?_, hx⟩ <;> simp [go_sem]
  · simp at hy
theorem insIn_three (w : World) (x y z : Ix) (hx : x.bd) (hy : y.bd) (hz : z.bd) : InsIn (w.alloc (.cells #[.int .u8 x.op, .int .u8 x.rd, .int .u8 x.rs1, .int .u8 x.rs2, .bool x.is, .int .i32 x.imm, .int .u8 y.op, .int .u8 y.rd, .int .u8 y.rs1, .int .u8 y.rs2, .bool y.is, .int .i32 y.imm, .int .u8 z.op, .int .u8 z.rd, .int .u8 z.rs1, .int .u8 z.rs2, .bool z.is, .int .i32 z.imm] 65)) (.slice (some ⟨w.heap.size, 0, none⟩) 3 3) [x, y, z] := by
  refine ⟨by unfold maxLen; simp, some ⟨w.heap.size, 0, none⟩, 3, w.heap.size, 0, rfl, fun _ => rfl, fun k u hu => ?_⟩
  rcases k with _ | _ | _ | k
  · simp at hu; subst hu
    refine ⟨?_, ?_, ?_, ?_, ?_, ?_, hx⟩ <;> simp [go_sem]
  · simp at hu; subst hu
    refine ⟨?_, ?_, ?_, ?_, ?_, ?_, hy⟩ <;> simp [go_sem]
  · simp at hu; subst hu
    refine ⟨?_, ?_, ?_, ?_, ?_, ?_, hz⟩ <;> simp [go_sem]
  · simp at hu
end Go.Proofs.YtgdebchbdmogcaaGreatDoor
/- The walks of mach.Load, Choose, SetPsr. -/
namespace Go.Proofs.YtgdebchbdmogcaaGreatDoor
open Go.RowKit
set_option linter.unusedVariables false
set_option linter.unusedSimpArgs false
theorem putV_len (d : List Int) (a : Int) (l : List Int) : (putV d a l).length = d.length := by
  unfold putV
  split
  · exact putS_len l d _
  · rfl
theorem mload_any (w : World) (G : MG) (M : Nat) (m : Mx) (h : MachAt w G M m) (v : Value) (l : List Int) (hl : l.length ≤ maxLen) (hv : U32s (· = G.gB) w v l) :
    Calls Tryz.prog 27 #[.pointer (some ⟨M, 0, none⟩), v] w fun e w' => e = .returned (.int .i64 (spanE m.mem.length 0 l.length 4)) ∧ MachAt w' G M { m with mem := putV m.mem 0 l } ∧ Only (fun k => k = G.gB) w w' := by
  have HN := mhid (mmnone_made w M _ h.mc.f)
  have HP := mhid (show Calls Tryz.prog 54 #[.pointer (some ⟨G.mB, 0, none⟩), .int .u32 0, v] w fun e w' => e = .returned (.int .i64 (spanE m.mem.length 0 l.length 4)) ∧ MemAt w' G.mB G.gB (putV m.mem 0 l) ∧ Only (fun k => k = G.gB) w w' from (put_any w G.mB G.gB m.mem h.mem 0 (by omega) (by omega) v l hl hv).mono fun e w' he => ⟨he.1, he.2.1, he.2.2.1⟩)
  have c2 := h.mc.mem
  have H := mhid h
  obtain ⟨-, p, c, rfl, -⟩ := hv
  clear h hl
  generalize spanE m.mem.length 0 l.length 4 = er at *
  go_enter Tryz.func27, Tryz.ntmps27
  go_wp2_with fail
  refine HN.out.mono ?_
  rintro e w0 ⟨rfl, rfl⟩
  go_wp2_with fail
  refine HP.out.mono ?_
  rintro e w1 ⟨rfl, hm, ho⟩
  go_wp2_with fail
  go_ret
  exact ⟨rfl, H.out.mem' ho hm (memM_ok H.out.ok hm.bytes (putV_len _ _ _)), ho⟩
theorem ch_of_own {w W : World} {base : Nat} {v : Value} {l : List Int} (h : w.ownsRow base 22 1 v l.length (u32s l)) (hW : ∀ k, v.ownBlock = some k → W.heap[k]? = w.heap[k]?) : MChAt W v l := by
  have hw : W.ownsRow base 22 1 v l.length (u32s l) := by
    rcases h.2 with ⟨h1, h2⟩ | ⟨g, cap, cur, h1, h2, h3, h4⟩
    · exact ⟨h.1, .inl ⟨h1, h2⟩⟩
    · exact ⟨h.1, .inr ⟨g, cap, cur, h1, h2, (hW g (by rw [h1]; rfl)).trans h3, h4⟩⟩
  refine ⟨Reads32.of_own hw, fun p n c e => ?_⟩
  rcases hw.2 with ⟨h1, h2⟩ | ⟨g, cap, cur, h1, h2, h3, h4, h5, h6, h7⟩
  · rw [h1] at e; cases e; exact ⟨Nat.le_refl _, fun _ => rfl⟩
  · rw [h1] at e; cases e; exact ⟨h4, fun e => by cases e⟩
theorem own_range {w : World} {base : Nat} {v : Value} {t : TypeId} {n : Nat} {l : List Value} (h : w.ownsRow base t 1 v n l) : ∀ k, v.ownBlock = some k → base ≤ k ∧ k < w.heap.size := by
  intro k hk
  rcases h.2 with ⟨h1, h2⟩ | ⟨g, cap, cur, h1, h2, h3, h4⟩
  · rw [h1] at hk; cases hk
  · rw [h1] at hk; cases hk
    exact ⟨h2, (Array.getElem?_eq_some_iff.1 h3).1⟩
theorem MachAt.choose {w w1 : World} {G : MG} {M : Nat} {m : Mx} {v : Value} {l : List Int} (h0 : MachAt w G M m) (hb : Below w.heap.size w w1) (ho : w1.ownsRow w.heap.size 22 1 v l.length (u32s l)) (hl : Words l) :
    ∃ G', MachAt (w1.setCell ⟨M, 43, none⟩ v) G' M { m with ch := l } ∧ (∀ k, k < w.heap.size → G'.R k = G.R k) ∧ (∀ k, G'.R k ≠ .none → G.R k ≠ .none ∨ w.heap.size ≤ k) := by
  have h := h0.keepb hb
  have hR : ∀ k, G.R k ≠ .none → (if v.ownBlock = some k then MRole.ch else G.R k) = G.R k := fun k hk => by
    have h1 := h0.lt k hk
    rw [if_neg]
    intro e
    have := (own_range ho k e).1
    omega
  have o := onlyM w1 M 43 v
  have ob : ∀ k, k ≠ M → (w1.setCell ⟨M, 43, none⟩ v).heap[k]? = w1.heap[k]? := fun k hk => Below.heap_setCell _ _ _ _ hk
  have ne : ∀ k, G.R k ≠ .mach → ¬ k = M := fun k hk e => hk (by rw [e]; exact h.rM)
  refine ⟨{ G with R := fun k => if v.ownBlock = some k then .ch else G.R k, chv := v }, ⟨chM_ok h.ok hl, ?_, ?_, ?_, ?_, ?_, ?_, ?_, ?_, ?_, ?_, ?_, ?_⟩, ?_, ?_⟩
  · exact (h.ptr.set 43 v).to (machC_setT (G := G) (G' := { G with R := fun k => if v.ownBlock = some k then .ch else G.R k, chv := v }) (m := m) (m' := { m with ch := l }) (k := 0) (v := v) h.ok rfl rfl rfl rfl)
  · exact h.file.keep o (ne _ (by rw [h.rF]; simp)) (ne _ (by rw [h.rW]; simp))
  · exact h.mem.keep o (ne _ (by rw [h.rm]; simp)) (ne _ (by rw [h.rg]; simp))
  · exact h.out.keepw o (fun k hk => ne k (by rw [h.ro k hk]; simp))
  · intro W hW
    refine ch_of_own ho fun k hk => ?_
    refine (hW k (if_pos hk)).trans (ob k ?_)
    have h1 := (own_range ho k hk).1
    have h2 := h0.lt M (by rw [h.rM]; simp)
    omega
  · exact (hR _ (by rw [h.rM]; simp)).trans h.rM
  · exact (hR _ (by rw [h.rF]; simp)).trans h.rF
  · exact (hR _ (by rw [h.rW]; simp)).trans h.rW
  · exact (hR _ (by rw [h.rm]; simp)).trans h.rm
  · exact (hR _ (by rw [h.rg]; simp)).trans h.rg
  · exact fun k hk => (hR _ (by rw [h.ro k hk]; simp)).trans (h.ro k hk)
  · intro k hk
    show k < (w1.setCell ⟨M, 43, none⟩ v).heap.size
    rw [show (w1.setCell ⟨M, 43, none⟩ v).heap.size = w1.heap.size by simp [World.setCell]]
    by_cases e : v.ownBlock = some k
    · exact (own_range ho k e).2
    · exact h.lt k (by simpa [e] using hk)
  · intro k hk
    show (if v.ownBlock = some k then MRole.ch else G.R k) = G.R k
    rw [if_neg]
    intro e
    have := (own_range ho k e).1
    omega
  · intro k hk
    by_cases e : v.ownBlock = some k
    · exact .inr (own_range ho k e).1
    · exact .inl (by simpa [e] using hk)
theorem mchoose_any (w : World) (G : MG) (M : Nat) (m : Mx) (h : MachAt w G M m) (v : Value) (l : List Int) (hr : Reads32 w v l) (hl : l.length * 4 ≤ 140737488355328) (hw : Words l) (hnil : ∀ c n, v = .slice none n c → c = 0) :
    Calls Tryz.prog 33 #[.pointer (some ⟨M, 0, none⟩), v] w fun e w' => e = .returned (.int .i64 0) ∧ (∃ G', MachAt w' G' M { m with ch := l } ∧ (∀ k, k < w.heap.size → G'.R k = G.R k) ∧ (∀ k, G'.R k ≠ .none → G.R k ≠ .none ∨ w.heap.size ≤ k)) ∧ Only (fun k => k = M) w w' := by
  have HN := mhid (mmnone_made w M _ h.mc.f)
  have HC := mhid (muclone_any w v l hr hl hnil)
  have H := mhid h
  have HW := mhid hw
  obtain ⟨pv, nv, cv, rfl⟩ := hr.shape'
  clear h hr hl hw hnil
  go_enter Tryz.func33, Tryz.ntmps33
  go_wp2_with fail
  refine HN.out.mono ?_
  rintro e w0 ⟨rfl, rfl⟩
  go_wp2_with fail
  refine HC.out.mono ?_
  rintro e w1 ⟨v', rfl, ho, hb⟩
  have H1 := mhid (H.out.keepb hb)
  have c43 := H1.out.mc.ch
  have f43 := H1.out.mc.fz 43
  have HO := mhid (And.intro ho hb)
  obtain ⟨pv2, nv2, cv2, rfl⟩ := (Reads32.of_own (l := l) ho).shape'
  clear ho hb
  go_wp2_with fail
  go_ret
  exact ⟨rfl, H.out.choose HO.out.2 HO.out.1 HW.out, (Only.of_below HO.out.2).trans (onlyM w1 M 43 _)⟩
/-- What SetPsr leaves. -/
def spsrM (m : Mx) (q : Px) : Mx := if packE q m.nw = 0 then { m with p := q } else m
end Go.Proofs.YtgdebchbdmogcaaGreatDoor
/- The walk of mach.SetPsr. -/
namespace Go.Proofs.YtgdebchbdmogcaaGreatDoor
open Go.RowKit
set_option linter.unusedVariables false
set_option linter.unusedSimpArgs false
set_option maxRecDepth 100000 in
set_option maxHeartbeats 2000000 in
theorem msetpsr_any (w : World) (G : MG) (M : Nat) (m : Mx) (h : MachAt w G M m) (q : Px) (hq : q.bd) :
    Calls Tryz.prog 29 #[.pointer (some ⟨M, 0, none⟩), q.agg] w fun e w' => e = .returned (.int .i64 (packE q m.nw)) ∧ MachAt w' G M (spsrM m q) ∧ Only (fun k => k = M) w w' := by
  have HN := mhid (fun w' hb => mmnone_made w' M _ (h.keepb (w' := w') hb).mc.f)
  have HF := mhid (fun w' => (show Calls Tryz.prog 57 #[q.agg, .int .i64 m.f.nw] w' fun e w2 => e = .returned (.tuple #[.int .u32 (packS q m.nw), .int .i64 (packE q m.nw)]) ∧ Below w'.heap.size w' w2 from pack_any q hq m.f.nw w'))
  have H := mhid h
  have HQ := mhid hq
  have HS := mhid (show spsrM m q = if packE q m.nw = 0 then { m with p := q } else m from rfl)
  have HPM := mhid (show packE q m.nw = 0 → pmayP q m.nw from fun e => by unfold packE at e; split at e; exact (by assumption : _ ∧ _).2; cases e)
  obtain ⟨B, hB⟩ : ∃ B, B = w.heap.size := ⟨_, rfl⟩
  obtain ⟨W, hW⟩ : ∃ W, W = w.alloc (.cells #[.int .u8 q.cwp, .int .u8 q.pil, .int .u8 q.bank, .int .u8 q.flags] 24) := ⟨_, rfl⟩
  clear h hq
  generalize packE q m.nw = er at *
  generalize packS q m.nw = ps at *
  go_enter Tryz.func29, Tryz.ntmps29
  go_wp2_with fail
  rw [← hW, ← hB] 
  have hbb : Below w.heap.size w W := by rw [hW]; exact (Below.refl _ _).alloc (Nat.le_refl _) _
  have hbx : ARow W B 24 (psrC q) := by rw [hW, hB]; exact ARow.fresh w 24 #[.int .u8 q.cwp, .int .u8 q.pil, .int .u8 q.bank, .int .u8 q.flags]
  have hBs : w.heap.size ≤ B := by omega
  have hneq : M ≠ B := by have := H.out.lt M (by rw [H.out.rM]; simp); omega
  clear hW hB
  refine (HN.out W hbb).mono ?_
  rintro e w0 ⟨rfl, rfl⟩
  have HH := mhid (And.intro hbb hbx)
  have hd : Below W.heap.size W W.drew := (Below.refl _ _).drew
  have HSS := mhid (show ∀ w', Below W.heap.size W w' → w'.cell? ⟨M, 0, none⟩ = some (.int .i64 m.f.nw) ∧ w'.cell? ⟨B, 0, none⟩ = some (.int .u8 q.cwp) ∧ w'.cell? ⟨B, 1, none⟩ = some (.int .u8 q.pil) ∧ w'.cell? ⟨B, 2, none⟩ = some (.int .u8 q.bank) ∧ w'.cell? ⟨B, 3, none⟩ = some (.int .u8 q.flags) from fun w' h => by
    have hx := HH.out.2.below h
    exact ⟨(H.out.keepb (HH.out.1.trans (h.mono HH.out.1.size))).mc.nw, hx.cell (k := 0) rfl, hx.cell (k := 1) rfl, hx.cell (k := 2) rfl, hx.cell (k := 3) rfl⟩)
  have hS0 := HSS.out W (Below.refl _ _)
  clear hbb hbx
  go_wp2_with fail
  go_region_held3 (fun w' => w'.cell? ⟨M, 0, none⟩ = some (.int .i64 m.f.nw) ∧ w'.cell? ⟨B, 0, none⟩ = some (.int .u8 q.cwp) ∧ w'.cell? ⟨B, 1, none⟩ = some (.int .u8 q.pil) ∧ w'.cell? ⟨B, 2, none⟩ = some (.int .u8 q.bank) ∧ w'.cell? ⟨B, 3, none⟩ = some (.int .u8 q.flags)) (first | (with_reducible exact hS0) | (refine HSS.out _ ?_; go_grown; done) | (exact HSS.out _ hb1))
    ((go_at_call 57; (with_reducible refine (HF.out _).mono ?_); rintro e W1 ⟨rfl, hb10⟩; have hb1 := hd.trans (hb10.mono hd.size)))
  have hbw : Below w.heap.size w W1 := HH.out.1.trans (hb1.mono HH.out.1.size)
  have H1 := mhid (H.out.keepb hbw)
  have hx1 := HH.out.2.below hb1
  have HB1 := mhid hbw
  clear hb1 hb10 hbw HSS hd
  obtain ⟨-, b0, b1, b2, b3⟩ : True ∧ W1.cell? ⟨B, 0, none⟩ = some (.int .u8 q.cwp) ∧ W1.cell? ⟨B, 1, none⟩ = some (.int .u8 q.pil) ∧ W1.cell? ⟨B, 2, none⟩ = some (.int .u8 q.bank) ∧ W1.cell? ⟨B, 3, none⟩ = some (.int .u8 q.flags) := ⟨trivial, hx1.cell (k := 0) rfl, hx1.cell (k := 1) rfl, hx1.cell (k := 2) rfl, hx1.cell (k := 3) rfl⟩
  have c5 := H1.out.mc.cwp
  have c6 := H1.out.mc.pil
  have c7 := H1.out.mc.bank
  have c8 := H1.out.mc.flags
  have f5 := H1.out.mc.fz 5
  have f6 := H1.out.mc.fz 6
  have f7 := H1.out.mc.fz 7
  have f8 := H1.out.mc.fz 8
  by_cases hz : er = 0
  · rw [if_pos hz] at HS
    have HPM2 := mhid (HPM.out hz)
    subst hz
    go_wp2_with fail
    go_ret
    rw [HS.out]
    exact ⟨rfl, H1.out.setPsr HQ.out HPM2.out, (Only.of_below HB1.out).trans (onlyM4 W1 M _ _ _ _)⟩
  · rw [if_neg hz] at HS
    have k1 : (er != 0) = true := by simpa using hz
    clear hz
    go_wp2_with fail
    go_ret
    rw [HS.out]
    exact ⟨rfl, H1.out, Only.of_below HB1.out⟩
end Go.Proofs.YtgdebchbdmogcaaGreatDoor
/- The walk of mach.Copy. -/
namespace Go.Proofs.YtgdebchbdmogcaaGreatDoor
open Go.RowKit
set_option linter.unusedVariables false
set_option linter.unusedSimpArgs false
theorem msize : (Tryz.prog.info? 84).map (·.size) = some 47 := by kernel_rfl
theorem machC_one {w : World} {G : MG} {M : Nat} {m : Mx} (h : MachAt w G M m) : (machC G m).toArray.all (·.oneCell') = true := by
  rw [Array.all_eq_true_iff_forall_mem]
  intro x hx
  obtain ⟨pv, nv, cv, ho⟩ := (Reads32.of_own (l := m.out) h.out).shape'
  obtain ⟨pv2, nv2, cv2, hc⟩ := h.chs.1.shape'
  simp only [List.mem_toArray, machC, machH, machT, List.mem_append, List.mem_cons, List.not_mem_nil, or_false] at hx
  rcases hx with h1 | h1 | h1 | h1
  · rcases h1 with rfl | rfl | rfl | rfl | rfl | rfl | rfl | rfl | rfl <;> rfl
  · exact u32s_one x h1
  · exact u32s_one x h1
  · rw [ho, hc] at h1
    rcases h1 with rfl | rfl | rfl | rfl <;> rfl
theorem machC_43 {G : MG} {m : Mx} (h : m.ok) : (machC G m)[43]? = some G.chv := by
  have ht := h.tl; have hs := h.sl
  unfold machC
  rw [List.getElem?_append_right (by simp [machH]), List.getElem?_append_right (by simp [machH, u32s]; omega), List.getElem?_append_right (by simp [machH, u32s]; omega), show 43 - (machH G m).length - (u32s m.tpc).length - (u32s m.tpsr).length = 0 from by simp [machH, u32s]; omega]
  rfl
theorem machC_44 {G : MG} {m : Mx} (h : m.ok) : (machC G m)[44]? = some G.outv := by
  have ht := h.tl; have hs := h.sl
  unfold machC
  rw [List.getElem?_append_right (by simp [machH]), List.getElem?_append_right (by simp [machH, u32s]; omega), List.getElem?_append_right (by simp [machH, u32s]; omega), show 44 - (machH G m).length - (u32s m.tpc).length - (u32s m.tpsr).length = 1 from by simp [machH, u32s]; omega]
  rfl
def MCopies (m : Mx) (w : World) (e : Ending) (w' : World) : Prop :=
  ∃ M G, e = .returned (.pointer (some ⟨M, 0, none⟩)) ∧ MachAt w' G M m ∧ (∀ k, G.R k ≠ .none → w.heap.size ≤ k) ∧ Below w.heap.size w w'
theorem mcopy_mid {w : World} {z cs : Array Value} {t : TypeId} {W1 : World} (h : (w.alloc (.cells z t)).setRow w.heap.size cs = W1) : Below w.heap.size w W1 ∧ ARow W1 w.heap.size t cs.toList ∧ W1.heap.size = w.heap.size + 1 := by
  subst h
  refine ⟨?_, (ARow.fresh w t z).setRow cs, by simp⟩
  exact below_setRow ((Below.refl _ w).alloc (Nat.le_refl _) _) (Nat.le_refl _) _
theorem own_keepb {S : Nat → Prop} {w w' : World} {base : Nat} {v : Value} {t : TypeId} {n : Nat} {l : List Value} (h : w.ownsRow base t 1 v n l) (o : Only S w w') (hs : ∀ k, v.ownBlock = some k → ¬ S k) : w'.ownsRow base t 1 v n l := by
  rcases h.2 with ⟨h1, h2⟩ | ⟨g, cap, cur, h1, h2, h3, h4⟩
  · exact ⟨h.1, .inl ⟨h1, h2⟩⟩
  · exact ⟨h.1, .inr ⟨g, cap, cur, h1, h2, o.obj h3 (hs g (by rw [h1]; rfl)), h4⟩⟩
/-- Parts in blocks of their own make a machine. -/
theorem mach_made {W : World} {m : Mx} {B M F Wb wc mB gB S2 S4 S5 : Nat} {vo vc : Value} (hok : m.ok) (hp : ARow W M 84 (machC ⟨fun _ => .none, F, Wb, wc, mB, gB, vo, vc⟩ m)) (hf : FileAt W F Wb wc m.f) (hm : MemAt W mB gB m.mem) (ho : W.ownsRow S5 22 1 vo m.out.length (u32s m.out)) (hc : W.ownsRow S4 22 1 vc m.ch.length (u32s m.ch)) (hcl : ∀ k, vc.ownBlock = some k → k < S5)
    (h : B ≤ M ∧ M < F ∧ M < Wb ∧ F < S2 ∧ Wb < S2 ∧ S2 ≤ mB ∧ S2 ≤ gB ∧ mB < S4 ∧ gB < S4 ∧ S4 ≤ S5) : ∃ G, MachAt W G M m ∧ ∀ k, G.R k ≠ .none → B ≤ k := by
  obtain ⟨a1, a2, a3, a4, a5, a6, a7, a8, a9, a10⟩ := h
  have b1 := hf.ne
  have b2 := hm.ne
  have bo := own_range ho
  have bc := own_range hc
  have l1 := hp.lt
  have l2 := hf.cells.lt
  have l3 := hf.win.lt
  have l4 := hm.lt
  have no : ∀ k, k < S4 → ¬ vo.ownBlock = some k := fun k hk e => by have := (bo k e).1; omega
  have nc : ∀ k, k < S4 → ¬ vc.ownBlock = some k := fun k hk e => by have := (bc k e).1; omega
  refine ⟨⟨fun k => if k = M then .mach else if k = F then .file else if k = Wb then .win else if k = mB then .mem else if k = gB then .bytes else if vo.ownBlock = some k then .out else if vc.ownBlock = some k then .ch else .none, F, Wb, wc, mB, gB, vo, vc⟩, ⟨hok, hp, hf, hm, ?_, ?_, ?_, ?_, ?_, ?_, ?_, ?_, ?_⟩, ?_⟩
  · exact ⟨ho.1, ho.2.imp id (fun ⟨g, cap, cur, x1, x2, x3⟩ => ⟨g, cap, cur, x1, Nat.zero_le _, x3⟩)⟩
  · intro W' hW
    refine ch_of_own hc fun k hk => hW k ?_
    have h1 := (bc k hk).1
    have h2 := hcl k hk
    have e1 : ¬ k = M := by omega
    have e2 : ¬ k = F := by omega
    have e3 : ¬ k = Wb := by omega
    have e4 : ¬ k = mB := by omega
    have e5 : ¬ k = gB := by omega
    have e6 : ¬ vo.ownBlock = some k := fun e => by have := (bo k e).1; omega
    simp [e1, e2, e3, e4, e5, e6, hk]
  · simp
  · have e1 : ¬ F = M := by omega
    simp [e1]
  · have e1 : ¬ Wb = M := by omega
    have e2 : ¬ Wb = F := fun e => b1 e.symm
    simp [e1, e2]
  · have e1 : ¬ mB = M := by omega
    have e2 : ¬ mB = F := by omega
    have e3 : ¬ mB = Wb := by omega
    simp [e1, e2, e3]
  · have e1 : ¬ gB = M := by omega
    have e2 : ¬ gB = F := by omega
    have e3 : ¬ gB = Wb := by omega
    have e4 : ¬ gB = mB := fun e => b2 e.symm
    simp [e1, e2, e3, e4]
  · intro k hk
    have h1 := (bo k hk).1
    have e1 : ¬ k = M := by omega
    have e2 : ¬ k = F := by omega
    have e3 : ¬ k = Wb := by omega
    have e4 : ¬ k = mB := by omega
    have e5 : ¬ k = gB := by omega
    have hk' : vo.ownBlock = some k := hk
    simp [e1, e2, e3, e4, e5, hk']
  · intro k hk
    by_cases e0 : k = M
    · omega
    · by_cases e1 : k = F
      · omega
      · by_cases e2 : k = Wb
        · omega
        · by_cases e3 : k = mB
          · omega
          · by_cases e4 : k = gB
            · omega
            · by_cases e5 : vo.ownBlock = some k
              · exact (bo k e5).2
              · by_cases e6 : vc.ownBlock = some k
                · exact (bc k e6).2
                · simp [e0, e1, e2, e3, e4, e5, e6] at hk
  · intro k hk
    by_cases e0 : k = M
    · omega
    · by_cases e1 : k = F
      · omega
      · by_cases e2 : k = Wb
        · omega
        · by_cases e3 : k = mB
          · omega
          · by_cases e4 : k = gB
            · omega
            · by_cases e5 : vo.ownBlock = some k
              · have := (bo k e5).1; omega
              · by_cases e6 : vc.ownBlock = some k
                · have := (bc k e6).1; omega
                · simp [e0, e1, e2, e3, e4, e5, e6] at hk
set_option maxRecDepth 100000 in
set_option maxHeartbeats 2000000 in
theorem mcopy_any (w : World) (G : MG) (M : Nat) (m : Mx) (h : MachAt w G M m) (hcl : m.ch.length * 4 ≤ 140737488355328) (hol : m.out.length * 4 ≤ 140737488355328) :
    Calls Tryz.prog 7 #[.pointer (some ⟨M, 0, none⟩)] w (MCopies m w) := by
  have HN := mhid (mmnone_made w M _ h.mc.f)
  have hlen : (machC G m).toArray.size = 47 := by simp [machC, machH, machT, u32s, h.ok.tl, h.ok.sl]
  have HC := mhid (show (Tryz.prog.info? 84).map (·.size) = some (machC G m).toArray.size from by rw [hlen]; exact msize)
  have HZ := mhid hlen.symm
  have HA := mhid (machC_one h)
  have HG := mhid h.ptr
  have H := mhid h
  clear h hlen
  generalize hcs : machC G m = cs at *
  have HCS := mhid hcs
  clear hcs
  go_enter Tryz.func7, Tryz.ntmps7
  go_wp2_with fail
  refine HN.out.mono ?_
  rintro e w' ⟨rfl, rfl⟩
  go_wp2_with (first | (refine wpList_load_row (o := ⟨some 8, _, _, _, _, _⟩) rfl 84 _ rfl M rfl 84 cs.toArray (0, 0) _ HG.out Tryz.underlying84 rfl HC.out ?_) | (refine wpList_store_row rfl 84 _ (.tmp 8) rfl w.heap.size cs.toArray rfl rfl 84 _ (heap_alloc_new w _) HC.out HZ.out HA.out ?_; generalize hW : World.setRow _ _ _ = W1; have HM := mhid (mcopy_mid hW); clear hW))
  obtain ⟨M', hM'⟩ : ∃ M', M' = w.heap.size := ⟨_, rfl⟩
  have HB0 := mhid HM.out.1
  have HC1 := mhid (show cs.toArray.toList[1]? = some (.pointer (some ⟨G.F, 0, none⟩)) from by rw [← HCS.out]; rfl)
  have HC2 := mhid (show cs.toArray.toList[2]? = some (.pointer (some ⟨G.mB, 0, none⟩)) from by rw [← HCS.out]; rfl)
  rw [← hM'] at HM ⊢
  have hd : Below W1.heap.size W1 W1.drew := (Below.refl _ _).drew
  have HFc := mhid (fun w' (hb : Below W1.heap.size W1 w') => fcopy_any w' G.F G.Wb G.wc m.f (H.out.keepb (HB0.out.trans (hb.mono HB0.out.size))).file)
  have HMc := mhid (fun w' (hb : Below W1.heap.size W1 w') => copy_any w' G.mB G.gB m.mem (H.out.keepb (HB0.out.trans (hb.mono HB0.out.size))).mem)
  have HSS := mhid (show ∀ w', Below W1.heap.size W1 w' → w'.cell? ⟨M, 1, none⟩ = some (.pointer (some ⟨G.F, 0, none⟩)) ∧ w'.cell? ⟨M, 2, none⟩ = some (.pointer (some ⟨G.mB, 0, none⟩)) from fun w' hb => by
    have hx := (H.out.keepb (HB0.out.trans (hb.mono HB0.out.size))).mc
    exact ⟨hx.f, hx.mem⟩)
  have hS0 := HSS.out W1 (Below.refl _ _)
  have hne : M ≠ M' := by have := H.out.lt M (by rw [H.out.rM]; simp); omega
  have HMq := mhid hM'
  have HSO := mhid (show ∀ w' w'', Below W1.heap.size W1 w' → Only (fun k => k = M') w' w'' → w''.cell? ⟨M, 1, none⟩ = some (.pointer (some ⟨G.F, 0, none⟩)) ∧ w''.cell? ⟨M, 2, none⟩ = some (.pointer (some ⟨G.mB, 0, none⟩)) from fun w' w'' hb ho => by
    have hx := ((H.out.keepb (HB0.out.trans (hb.mono HB0.out.size))).keep ho (fun k hk e => by have := H.out.lt k hk; omega)).mc
    exact ⟨hx.f, hx.mem⟩)
  have hMl : M' < W1.heap.size := by have := HM.out.2.2; omega
  clear hM'
  go_region_held3 (fun w' => w'.cell? ⟨M, 1, none⟩ = some (.pointer (some ⟨G.F, 0, none⟩)) ∧ w'.cell? ⟨M, 2, none⟩ = some (.pointer (some ⟨G.mB, 0, none⟩))) (first | (with_reducible exact hS0) | (exact HSO.out _ _ hb3 (onlyM _ _ _ _)) | (exact HSO.out _ _ hb3 ((onlyM _ _ _ _).trans (onlyM _ _ _ _))) | (exact HSS.out _ hb3) | (exact HSS.out _ hb2) | (refine HSS.out _ ?_; go_grown; done))
    (first | (go_at_call 35; (with_reducible refine (HFc.out _ hd).mono ?_); rintro e W2 ⟨F2, Wb2, wc2, rfl, hF, hW, hf, hb20⟩; have hb2 := hd.trans (hb20.mono hd.size)) | (go_at_call 36; (with_reducible refine (HMc.out _ hb2).mono ?_); rintro e W3 ⟨m2, g2, rfl, hm, hg, hmem, hb30⟩; have hb3 := hb2.trans (hb30.mono hb2.size); have HA3 := HM.out.2.1.below hb3; have r1 := HA3.frozen 1; have r2 := HA3.frozen 2; have y1 := HA3.cell (k := 1) HC1.out; have y2 := HA3.cell (k := 2) HC2.out))
  have o4 : Only (fun k => k = M') W3 ((W3.setCell ⟨M', 1, none⟩ (.pointer (some ⟨F2, 0, none⟩))).setCell ⟨M', 2, none⟩ (.pointer (some ⟨m2, 0, none⟩))) := (onlyM _ _ _ _).trans (onlyM _ _ _ _)
  have hA4 := (HA3.set 1 (.pointer (some ⟨F2, 0, none⟩))).set 2 (.pointer (some ⟨m2, 0, none⟩))
  have hs2 := hb2.size
  have hs20 := hd.size
  have hs3 := hb30.size
  have hfl := hf.cells.lt
  have hfw := hf.win.lt
  have hml := hmem.lt
  have hf4 := (hf.keepb hb30).keep o4 (by omega) (by omega)
  have hm4 := hmem.keep o4 (by omega) (by omega)
  have hM4 := (H.out.keepb (HB0.out.trans (hb3.mono HB0.out.size))).keep o4 (fun k hk e => by have := H.out.lt k hk; have := HMq.out; omega)
  have hB4 : Below w.heap.size w ((W3.setCell ⟨M', 1, none⟩ (.pointer (some ⟨F2, 0, none⟩))).setCell ⟨M', 2, none⟩ (.pointer (some ⟨m2, 0, none⟩))) := (HB0.out.trans (hb3.mono HB0.out.size)).trans (o4.below (by have := HB0.out.size; have := hb3.size; omega) (fun k hk e => by have := HMq.out; omega))
  have HL43 := mhid (fun v1 v2 => show ((cs.toArray.toList.set 1 v1).set 2 v2)[43]? = some G.chv from by rw [List.getElem?_set_ne (by omega), List.getElem?_set_ne (by omega), ← HCS.out]; exact machC_43 H.out.ok)
  have HL44 := mhid (fun v1 v2 => show ((cs.toArray.toList.set 1 v1).set 2 v2)[44]? = some G.outv from by rw [List.getElem?_set_ne (by omega), List.getElem?_set_ne (by omega), ← HCS.out]; exact machC_44 H.out.ok)
  have HO4 := mhid (show M' < F2 ∧ M' < Wb2 ∧ F2 < W2.heap.size ∧ Wb2 < W2.heap.size ∧ W2.heap.size ≤ m2 ∧ W2.heap.size ≤ g2 ∧ m2 < W3.heap.size ∧ g2 < W3.heap.size from ⟨by omega, by omega, hfl, hfw, hm, hg, hml.1, hml.2⟩)
  have hs4 := o4.size
  have HA4 := mhid hA4
  have HF4 := mhid hf4
  have HM4 := mhid hm4
  have HH4 := mhid hM4
  have HB4 := mhid hB4
  have HS4 := mhid (show W3.heap.size ≤ ((W3.setCell ⟨M', 1, none⟩ (.pointer (some ⟨F2, 0, none⟩))).setCell ⟨M', 2, none⟩ (.pointer (some ⟨m2, 0, none⟩))).heap.size from hs4)
  clear o4 hA4 hs2 hs20 hs3 hfl hfw hml hf4 hm4 hM4 hB4 hs4 hf hmem hb2 hb3 hb20 hb30 hm hg hF hW HA3 r1 r2 y1 y2 hS0 HSS HSO HFc HMc hd hMl
  generalize (W3.setCell ⟨M', 1, none⟩ (.pointer (some ⟨F2, 0, none⟩))).setCell ⟨M', 2, none⟩ (.pointer (some ⟨m2, 0, none⟩)) = W4 at *
  have HCc := mhid (fun w' (hb : Below W4.heap.size W4 w') => muclone_any w' G.chv m.ch (HH4.out.keepb hb).chs.1 hcl (fun c n e => ((HH4.out.keepb hb).chs.2 _ _ _ e).2 rfl))
  have HOc := mhid (fun w' (hb : Below W4.heap.size W4 w') => muclone_any w' G.outv m.out (Reads32.of_own (l := m.out) (HH4.out.keepb hb).out) hol (fun c n e => by
    rcases (HH4.out.keepb hb).out.2 with ⟨h1, _⟩ | ⟨g, cap, cur, h1, _⟩
    · rw [h1] at e; cases e; rfl
    · rw [h1] at e; cases e))
  obtain ⟨pc, nc, cc, hcv⟩ := HH4.out.chs.1.shape'
  obtain ⟨po, no, co, hov⟩ := (Reads32.of_own (l := m.out) HH4.out.out).shape'
  rw [hcv] at HCc
  rw [hov] at HOc
  have HSS := mhid (show ∀ w', Below W4.heap.size W4 w' → w'.cell? ⟨M, 43, none⟩ = some (.slice pc nc cc) ∧ w'.cell? ⟨M, 44, none⟩ = some (.slice po no co) from fun w' hb => by
    have hx := (HH4.out.keepb hb).mc
    exact ⟨by rw [← hcv]; exact hx.ch, by rw [← hov]; exact hx.out⟩)
  have HSO := mhid (show ∀ w' w'', Below W4.heap.size W4 w' → Only (fun k => k = M') w' w'' → w''.cell? ⟨M, 43, none⟩ = some (.slice pc nc cc) ∧ w''.cell? ⟨M, 44, none⟩ = some (.slice po no co) from fun w' w'' hb ho => by
    have hx := ((HH4.out.keepb hb).keep ho (fun k hk e => by have := H.out.lt k hk; have := HMq.out; omega)).mc
    exact ⟨by rw [← hcv]; exact hx.ch, by rw [← hov]; exact hx.out⟩)
  have hS0 := HSS.out W4 (Below.refl _ _)
  have hd : Below W4.heap.size W4 W4.drew := (Below.refl _ _).drew
  have hMl : M' < W4.heap.size := by have := HO4.out; have := HS4.out; omega
  clear hcv hov
  go_wp2_with fail
  go_region_held3 (fun w' => w'.cell? ⟨M, 43, none⟩ = some (.slice pc nc cc) ∧ w'.cell? ⟨M, 44, none⟩ = some (.slice po no co)) (first | (with_reducible exact hS0) | (exact HSO.out _ _ hb6 (onlyM _ _ _ _)) | (exact HSO.out _ _ hb6 ((onlyM _ _ _ _).trans (onlyM _ _ _ _))) | (exact HSS.out _ hb6) | (exact HSS.out _ hb5) | (refine HSS.out _ ?_; go_grown; done))
    (first | (have _t := hb5; go_at_call 37; (with_reducible refine (HOc.out _ hb5).mono ?_); rintro e W6 ⟨vo, rfl, hvo, hb60⟩; obtain ⟨p8, n8, c8, rfl⟩ := (Reads32.of_own (l := m.out) hvo).shape'; have hb6 := hb5.trans (hb60.mono hb5.size); have HA6 := HA4.out.below hb6; have r1 : W6.frozen? ⟨M', 43, none⟩ = false := HA6.frozen 43; have r2 : W6.frozen? ⟨M', 44, none⟩ = false := HA6.frozen 44; have y1 : W6.cell? ⟨M', 43, none⟩ = some _ := HA6.cell (k := 43) (HL43.out _ _); have y2 : W6.cell? ⟨M', 44, none⟩ = some _ := HA6.cell (k := 44) (HL44.out _ _)) | (go_at_call 37; (with_reducible refine (HCc.out _ hd).mono ?_); rintro e W5 ⟨vc, rfl, hvc, hb50⟩; obtain ⟨p9, n9, c9, rfl⟩ := (Reads32.of_own (l := m.ch) hvc).shape'; have hb5 := hd.trans (hb50.mono hd.size)))
  go_wp2_with fail
  have o7 : Only (fun k => k = M') W6 ((W6.setCell ⟨M', 43, none⟩ (.slice p9 n9 c9)).setCell ⟨M', 44, none⟩ (.slice p8 n8 c8)) := (onlyM _ _ _ _).trans (onlyM _ _ _ _)
  have hA7 := (HA6.set 43 (.slice p9 n9 c9)).set 44 (.slice p8 n8 c8)
  have hs60 := hb60.size
  have hs50 := hb50.size
  have hsd := hd.size
  have hs5 := hb5.size
  have hO := HO4.out
  have hS := HS4.out
  have ro := own_range hvo
  have rc := own_range hvc
  have hf7 := (HF4.out.keepb hb6).keep o7 (by omega) (by omega)
  have hm7 := (HM4.out.keep (Only.of_below (S := fun _ => False) hb6) id id).keep o7 (by omega) (by omega)
  have ho7 := own_keepb hvo o7 (fun k hk e => by have := (ro k hk).1; omega)
  have hc7 := own_keepb (own_keepb hvc (Only.of_below (S := fun _ => False) hb60) (fun _ _ => id)) o7 (fun k hk e => by have := (rc k hk).1; omega)
  have hB7 : Below w.heap.size w ((W6.setCell ⟨M', 43, none⟩ (.slice p9 n9 c9)).setCell ⟨M', 44, none⟩ (.slice p8 n8 c8)) := (HB4.out.trans (hb6.mono HB4.out.size)).trans (o7.below (by have := HB4.out.size; omega) (fun k hk e => by have := HMq.out; omega))
  have hq : ((((cs.toArray.toList.set 1 (.pointer (some ⟨F2, 0, none⟩))).set 2 (.pointer (some ⟨m2, 0, none⟩))).set 43 (.slice p9 n9 c9)).set 44 (.slice p8 n8 c8)) = machC ⟨fun _ => .none, F2, Wb2, wc2, m2, g2, .slice p8 n8 c8, .slice p9 n9 c9⟩ m := by
    rw [← HCS.out]
    show ((((machC G m).set 1 _).set 2 _).set 43 _).set 44 _ = _
    rw [show (machC G m).set 1 (.pointer (some ⟨F2, 0, none⟩)) = machC { G with F := F2 } m from rfl, show (machC { G with F := F2 } m).set 2 (.pointer (some ⟨m2, 0, none⟩)) = machC { G with F := F2, mB := m2 } m from rfl,
      machC_setT (G := { G with F := F2, mB := m2 }) (G' := { G with F := F2, mB := m2, chv := .slice p9 n9 c9 }) (m := m) (m' := m) (k := 0) H.out.ok rfl rfl rfl rfl]
    exact machC_setT (G' := ⟨fun _ => .none, F2, Wb2, wc2, m2, g2, .slice p8 n8 c8, .slice p9 n9 c9⟩) (k := 1) H.out.ok rfl rfl rfl rfl
  rw [hq] at hA7
  obtain ⟨G', hG, hGl⟩ := mach_made (B := w.heap.size) (S2 := W2.heap.size) H.out.ok hA7 hf7 hm7 ho7 hc7 (fun k hk => (rc k hk).2) ⟨by have := HMq.out; omega, hO.1, hO.2.1, hO.2.2.1, hO.2.2.2.1, hO.2.2.2.2.1, hO.2.2.2.2.2.1, by omega, by omega, by omega⟩
  go_ret
  exact ⟨M', G', rfl, hG, hGl, hB7⟩
end Go.Proofs.YtgdebchbdmogcaaGreatDoor
/- Several machines side by side: what one does leaves the others. No function of the program is walked here. -/
namespace Go.Proofs.YtgdebchbdmogcaaGreatDoor
open Go.RowKit
set_option linter.unusedVariables false
set_option linter.unusedSimpArgs false
/-- No block belongs to both. -/
def Apart (G G' : MG) : Prop := ∀ k, G.R k ≠ .none → G'.R k = .none
theorem Apart.symm {G G' : MG} (h : Apart G G') : Apart G' G := fun k hk => by
  by_cases e : G.R k = .none
  · exact e
  · exact absurd (h k e) hk
/-- One that was made later. -/
theorem Apart.fresh {w : World} {G G' : MG} {M : Nat} {m : Mx} (h : MachAt w G M m) (hl : ∀ k, G'.R k ≠ .none → w.heap.size ≤ k) : Apart G G' := fun k hk => by
  by_cases e : G'.R k = .none
  · exact e
  · have h1 := h.lt k hk
    have h2 := hl k e
    omega
/-- The other machine, when one has gone on. -/
theorem MachAt.other {w w' : World} {G G' : MG} {M : Nat} {m : Mx} (h : MachAt w G M m) (hs : Apart G' G) (o : Only G'.own w w') : MachAt w' G M m :=
  h.keep o (fun k hk hC => hk (hs k hC.1))
theorem Apart.goes {w : World} {G G1 G' : MG} {M : Nat} {m : Mx} (hs : Apart G G') (h : MachAt w G' M m) (hg : ∀ k, k < w.heap.size → G1.R k = G.R k) : Apart G1 G' := fun k hk => by
  by_cases e : k < w.heap.size
  · rw [hg k e] at hk; exact hs k hk
  · by_cases e2 : G'.R k = .none
    · exact e2
    · exact absurd (h.lt k e2) e
end Go.Proofs.YtgdebchbdmogcaaGreatDoor
/- A machine of a law's own: each call in one form; what stays of the others. No new function of the program is walked here. -/
namespace Go.Proofs.YtgdebchbdmogcaaGreatDoor
open Go.RowKit
set_option linter.unusedVariables false
set_option linter.unusedSimpArgs false
theorem fileM_ok {m : Mx} (h : m.ok) {f : Fx} (hf : f.ok) (hn : f.nw = m.f.nw) : ({ m with f := f } : Mx).ok := by
  obtain ⟨a1, a2, a3, a4, a5, a6, a7, a8, a9, b1, b2, b3, b4, b5, b6, b7, b8, b9, c1⟩ := h
  refine ⟨hf, a2, a3, a4, a5, a6, a7, a8, ?_, b1, b2, b3, b4, b5, b6, b7, b8, b9, c1⟩
  unfold Mx.nw at a9 ⊢
  rw [show ({ m with f := f } : Mx).f.nw = m.f.nw from hn]
  exact a9
/-- The machine (G, M), made since w0, is m. -/
structure MIs (w0 w : World) (G : MG) (M : Nat) (m : Mx) : Prop where
  at' : MachAt w G M m
  lo : ∀ k, G.R k ≠ .none → w0.heap.size ≤ k
  bel : Below w0.heap.size w0 w
/-- What one machine has done since w: the others' blocks are as they were. -/
def MKeeps (w w' : World) (G G' : MG) : Prop := Only (fun k => G.R k ≠ .none) w w' ∧ ∀ k, k < w.heap.size → G.R k = .none → G'.R k = .none
def MTo (w0 w w' : World) (G : MG) (M : Nat) (m' : Mx) : Prop := ∃ G', MIs w0 w' G' M m' ∧ MKeeps w w' G G'
section
variable {w0 w w' : World} {G G' G2 : MG} {M M2 : Nat} {m m' m2 : Mx}
theorem MIs.keepb (h : MIs w0 w G M m) (hb : Below w.heap.size w w') : MIs w0 w' G M m :=
  ⟨h.at'.keepb hb, h.lo, h.bel.trans (hb.mono h.bel.size)⟩
theorem MIs.drewN (h : MIs w0 w G M m) (n : Nat) : MIs w0 (w.drewN n) G M m := h.keepb ⟨rfl, rfl, rfl, Nat.le_refl _, fun _ _ => rfl⟩
theorem MKeeps.below (hk : MKeeps w w' G G') (h : MIs w0 w G M m) : Below w0.heap.size w0 w' :=
  h.bel.trans (hk.1.below h.bel.size (fun k hk2 hC => absurd (h.lo k hC) (by omega)))
/-- Another machine, when one has gone on. -/
theorem MIs.other (h : MIs w0 w G2 M2 m2) (h1 : MIs w0 w G M m) (hs : Apart G G2) (hk : MKeeps w w' G G') : MIs w0 w' G2 M2 m2 ∧ Apart G' G2 := by
  refine ⟨⟨h.at'.keep hk.1 (fun k h2 hC => h2 (hs k hC)), h.lo, hk.below h1⟩, fun k hk' => ?_⟩
  · by_cases e : G2.R k = .none
    · exact e
    · have h1 := h.at'.lt k e
      by_cases e2 : G.R k = .none
      · exact absurd (hk.2 k h1 e2) hk'
      · exact hs k e2
/-- Words in a block that is not the machine's. -/
def MRow (w : World) (G : MG) (v : Value) (l : List Int) : Prop := Reads32 w v l ∧ ∀ k, v.ownBlock = some k → G.R k = .none ∧ k < w.heap.size
theorem MRow.keep {v : Value} {l : List Int} (h : MRow w G v l) (hk : MKeeps w w' G G') : MRow w' G' v l :=
  ⟨h.1.keepO hk.1 (fun k e hC => hC (h.2 k e).1), fun k e => ⟨hk.2 k (h.2 k e).2 (h.2 k e).1, Nat.lt_of_lt_of_le (h.2 k e).2 hk.1.size⟩⟩
theorem MRow.keepb {v : Value} {l : List Int} (h : MRow w G v l) (hb : Below w.heap.size w w') : MRow w' G v l :=
  ⟨h.1.keepb hb, fun k e => ⟨(h.2 k e).1, Nat.lt_of_lt_of_le (h.2 k e).2 hb.size⟩⟩
theorem MRow.of_own {v : Value} {l : List Int} (h : MIs w0 w G M m) (ho : w'.ownsRow w.heap.size 22 1 v l.length (u32s l)) : MRow w' G v l :=
  ⟨Reads32.of_own ho, fun k e => ⟨by
    by_cases e2 : G.R k = .none
    · exact e2
    · have h1 := h.at'.lt k e2
      have h2 := (own_range ho k e).1
      omega, (own_range ho k e).2⟩⟩
theorem MGoes.to (h : MIs w0 w G M m) (hg : MGoes w G M m' w') : MTo w0 w w' G M m' := by
  obtain ⟨G', h1, h2, h3⟩ := hg
  have ho : Only (fun k => G.R k ≠ .none) w w' := h2.mono (fun k _ hk => hk.1)
  have hsz := h.bel.size
  refine ⟨G', ⟨h1, fun k hk => ?_, h.bel.trans (ho.below hsz (fun k hk2 hC => absurd (h.lo k hC) (by omega)))⟩, ho, fun k hk e => (h3 k hk).trans e⟩
  by_cases e : k < w.heap.size
  · exact h.lo k (by rw [← h3 k e]; exact hk)
  · omega
theorem MIs.to (h : MIs w0 w G M m) (h1 : MachAt w' G M m') (ho : Only (fun k => G.R k ≠ .none) w w') : MTo w0 w w' G M m' :=
  ⟨G, ⟨h1, h.lo, h.bel.trans (ho.below h.bel.size (fun k hk2 hC => absurd (h.lo k hC) (by omega)))⟩, ho, fun _ _ e => e⟩
end
section
variable (w0 w : World) (ht : Tab w0) (hbr : Bru w0) (G : MG) (M : Nat) (m : Mx) (h : MIs w0 w G M m)
include h
theorem mw_step (ht : Tab w0) (hbr : Bru w0) (level : Int) (hl0 : 0 ≤ level) (hl1 : level < 256) (hol : m.out.length < 4294967296) :
    Calls Tryz.prog 8 #[.pointer (some ⟨M, 0, none⟩), .int .u8 level] w fun e w' => e = .returned (.agg #[.int .u8 (stepM m level).kind, .int .u32 (stepM m level).v]) ∧ MTo w0 w w' G M (stepM m level) :=
  (mstep_any w (ht.keep h.bel) (hbr.keep h.bel) G M m h.at' level hl0 hl1 hol).mono fun e w' he => ⟨he.1, MGoes.to h he.2⟩
theorem mw_store (a x : Int) (ha : 0 ≤ a ∧ a < 4294967296) (hx : 0 ≤ x ∧ x < 4294967296) :
    Calls Tryz.prog 48 #[.pointer (some ⟨G.mB, 0, none⟩), .int .u32 a, .int .i64 4, .int .u32 x] w fun e w' => e = .returned (.int .i64 (spanE m.mem.length a 1 4)) ∧ MTo w0 w w' G M { m with mem := storeV m.mem a 4 x } := by
  refine (store_any w G.mB G.gB m.mem h.at'.mem a 4 ha.1 ha.2 x hx.1 hx.2).mono fun e w' he => ⟨he.1, h.to (h.at'.mem' he.2.2.1 he.2.1 (memM_ok h.at'.ok (storeV_ok h.at'.ok.bytes a 4 x).1 (storeV_ok h.at'.ok.bytes a 4 x).2)) (he.2.2.1.mono fun k _ hk => ?_)⟩
  have e : k = G.gB := hk
  rw [e, h.at'.rg]; simp
theorem mw_set (wi b r x : Int) (hx : 0 ≤ x ∧ x < 4294967296) :
    Calls Tryz.prog 31 #[.pointer (some ⟨G.F, 0, none⟩), .int .i64 wi, .int .i64 b, .int .i64 r, .int .u32 x] w fun e w' => e = .returned (.int .i64 (regE m.f wi b r)) ∧ MTo w0 w w' G M { m with f := setV m.f wi b r x } := by
  refine (fset_any w G.F G.Wb G.wc m.f h.at'.file wi b r x hx).mono fun e w' he => ⟨he.1, h.to (h.at'.file' he.2.2.1 he.2.1 (setV_nw _ _ _ _ _) (fileM_ok h.at'.ok (h.at'.ok.f.sV _ _ _ hx) (setV_nw _ _ _ _ _))) (he.2.2.1.mono fun k _ hk => ?_)⟩
  rcases hk with e | e
  · rw [e, h.at'.rF]; simp
  · rw [e, h.at'.rW]; simp
theorem mw_setpc (x : Int) (hx : 0 ≤ x ∧ x < 4294967296) :
    Calls Tryz.prog 22 #[.pointer (some ⟨M, 0, none⟩), .int .u32 x] w fun e w' => e = .returned (.int .i64 0) ∧ MTo w0 w w' G M { m with pc := x } := by
  refine (msetpc_any w G M m h.at' x hx).mono fun e w' he => ⟨he.1, h.to he.2.1 (he.2.2.mono fun k _ hk => ?_)⟩
  have e : k = M := hk
  rw [e, h.at'.rM]; simp
theorem mw_setwim (hbr : Bru w0) (x : Int) (hx : 0 ≤ x ∧ x < 4294967296) :
    Calls Tryz.prog 30 #[.pointer (some ⟨M, 0, none⟩), .int .u32 x] w fun e w' => e = .returned (.int .i64 (invE x m.nw)) ∧ MTo w0 w w' G M (swimM m x) := by
  refine (msetwim_any w (hbr.keep h.bel) G M m h.at' x hx).mono fun e w' he => ⟨he.1, h.to he.2.1 (he.2.2.mono fun k _ hk => ?_)⟩
  have e : k = M := hk
  rw [e, h.at'.rM]; simp
theorem mw_setpsr (q : Px) (hq : q.bd) :
    Calls Tryz.prog 29 #[.pointer (some ⟨M, 0, none⟩), q.agg] w fun e w' => e = .returned (.int .i64 (packE q m.nw)) ∧ MTo w0 w w' G M (spsrM m q) := by
  refine (msetpsr_any w G M m h.at' q hq).mono fun e w' he => ⟨he.1, h.to he.2.1 (he.2.2.mono fun k _ hk => ?_)⟩
  have e : k = M := hk
  rw [e, h.at'.rM]; simp
theorem mw_win (wi : Int) :
    Calls Tryz.prog 10 #[.pointer (some ⟨G.F, 0, none⟩), .int .i64 wi] w fun e w' => ∃ v, e = .returned (.tuple #[v, .int .i64 (regE m.f wi 0 0)]) ∧ MRow w' G v (winV m.f wi) ∧ Below w.heap.size w w' := by
  refine (fwin_any w G.F G.Wb G.wc m.f h.at'.file wi).mono fun e w' he => ?_
  obtain ⟨v, h1, h2, h3⟩ := he
  exact ⟨v, h1, MRow.of_own h h2, h3⟩
theorem mw_out (hol : m.out.length < 4294967296) :
    Calls Tryz.prog 17 #[.pointer (some ⟨M, 0, none⟩)] w fun e w' => ∃ v, e = .returned v ∧ MRow w' G v m.out ∧ Below w.heap.size w w' := by
  refine (mout_any w G M m h.at' hol).mono fun e w' he => ?_
  obtain ⟨v, h1, h2, h3⟩ := he
  exact ⟨v, h1, MRow.of_own h h2, h3⟩
theorem mw_copy (hcl : m.ch.length * 4 ≤ 140737488355328) (hol : m.out.length * 4 ≤ 140737488355328) :
    Calls Tryz.prog 7 #[.pointer (some ⟨M, 0, none⟩)] w fun e w' => ∃ M' G', e = .returned (.pointer (some ⟨M', 0, none⟩)) ∧ MIs w0 w' G' M' m ∧ MIs w0 w' G M m ∧ Apart G G' ∧ (∀ k, k < w.heap.size → G'.R k = .none) ∧ Below w.heap.size w w' := by
  refine (mcopy_any w G M m h.at' hcl hol).mono fun e w' he => ?_
  obtain ⟨M', G', h1, h2, h3, h4⟩ := he
  refine ⟨M', G', h1, ⟨h2, fun k hk => Nat.le_trans h.bel.size (h3 k hk), h.bel.trans (h4.mono h.bel.size)⟩, h.keepb h4, Apart.fresh h.at' h3, fun k hk => ?_, h4⟩
  by_cases e : G'.R k = .none
  · exact e
  · have := h3 k e; omega
end
theorem mw_new (nw size : Nat) (w0 w : World) (hb : Below w0.heap.size w0 w) (h2 : 2 ≤ nw) (h32 : nw ≤ 32) (hs : size ≤ 4194304) (h4 : size % 4 = 0) :
    Calls Tryz.prog 25 #[.int .i64 nw, .int .i64 size] w fun e w' => ∃ M G, e = .returned (.tuple #[.pointer (some ⟨M, 0, none⟩), .int .i64 0]) ∧ MIs w0 w' G M (newM nw size) ∧ (∀ k, k < w.heap.size → G.R k = .none) ∧ Below w.heap.size w w' := by
  refine (mnew_ok nw size w h2 h32 hs h4).mono fun e w' he => ?_
  obtain ⟨M', G', h1, h2, h3, h4⟩ := he
  refine ⟨M', G', h1, ⟨h2, fun k hk => Nat.le_trans hb.size (h3 k hk), hb.trans (h4.mono hb.size)⟩, fun k hk => ?_, h4⟩
  by_cases e : G'.R k = .none
  · exact e
  · have := h3 k e; omega
end Go.Proofs.YtgdebchbdmogcaaGreatDoor
/- The walk of muntinlaw06.head: begun. -/
namespace Go.Proofs.YtgdebchbdmogcaaGreatDoor
open Go.RowKit
set_option linter.unusedVariables false
set_option linter.unusedSimpArgs false
set_option maxRecDepth 100000 in
set_option maxHeartbeats 2000000 in
theorem mhead_any (w : World) (ht : Tab w) (hbr : Bru w) : Calls Tryz.prog 5 #[] w fun e w' => e = .returned (.bool true) ∧ Below w.heap.size w w' := by
  have HT := mhid ht
  have HR := mhid hbr
  clear ht hbr
  have bdA : ∀ x ∈ headA, x.bd := by intro x hx; simp [headA] at hx; rcases hx with rfl | rfl | rfl <;> (unfold Ix.bd; simp)
  have bdB : ∀ x ∈ headB, x.bd := by intro x hx; simp [headB] at hx; subst hx; unfold Ix.bd; simp
  have bdD : ∀ x ∈ headD, x.bd := by intro x hx; simp [headD] at hx; subst hx; unfold Ix.bd; simp
  have bdF : ∀ x ∈ headF, x.bd := by intro x hx; simp [headF] at hx; subst hx; unfold Ix.bd; simp
  have HLA := mhid (insIn_three w ⟨1, 1, 0, 0, true, 5⟩ ⟨35, 0, 1, 0, false, 0⟩ ⟨36, 0, 1, 0, false, 0⟩ (bdA _ (by simp [headA])) (bdA _ (by simp [headA])) (bdA _ (by simp [headA])))
  have HSA := mhid (small_any _ _ headA HLA.out (by decide))
  have hb0 : Below w.heap.size w (w.alloc (.cells #[.int .u8 1, .int .u8 1, .int .u8 0, .int .u8 0, .bool true, .int .i32 5, .int .u8 35, .int .u8 0, .int .u8 1, .int .u8 0, .bool false, .int .i32 0, .int .u8 36, .int .u8 0, .int .u8 1, .int .u8 0, .bool false, .int .i32 0] 65)) := (Below.refl _ _).alloc (Nat.le_refl _) _
  go_enter Tryz.func5, Tryz.ntmps5
  go_wp2_with fail
  refine HSA.out.mono ?_
  rintro e w1 ⟨MA, GA, rfl, hMA, hlA, hbA⟩
  have hb1 : Below w.heap.size w w1 := hb0.trans (hbA.mono hb0.size)
  have HA := mhid hMA
  have HlA := mhid (fun k hk => Nat.le_trans hb0.size (hlA k hk))
  have HB1 := mhid hb1
  clear hMA hlA hbA hb1 hb0 HLA HSA
  go_wp2_with fail
  have HSB := mhid (small_any _ _ headB (insIn_one w1 ⟨20, 0, 0, 0, false, 0⟩ (bdB _ (by simp [headB]))) (by decide))
  have hb0 : Below w1.heap.size w1 (w1.alloc (.cells #[.int .u8 20, .int .u8 0, .int .u8 0, .int .u8 0, .bool false, .int .i32 0] 65)) := (Below.refl _ _).alloc (Nat.le_refl _) _
  refine HSB.out.mono ?_
  rintro e w2 ⟨MB, GB, rfl, hMB, hlB, hbB⟩
  have hb2 : Below w1.heap.size w1 w2 := hb0.trans (hbB.mono hb0.size)
  have HB := mhid hMB
  have HlB := mhid (show ∀ k, GB.R k ≠ .none → w.heap.size ≤ k from fun k hk => Nat.le_trans HB1.out.size (Nat.le_trans hb0.size (hlB k hk)))
  have HAB := mhid (Apart.fresh HA.out (fun k hk => Nat.le_trans hb0.size (hlB k hk)))
  have HA := mhid (HA.out.keepb hb2)
  have HBW := mhid (HB1.out.trans (hb2.mono HB1.out.size))
  clear hMB hlB hbB hb2 hb0 HSB
  go_wp2_with fail
  have HSC := mhid (small_any _ _ [] (insIn_nil w2) (by decide))
  have hb0 : Below w2.heap.size w2 (w2) := Below.refl _ _
  refine HSC.out.mono ?_
  rintro e w3 ⟨MC, GC, rfl, hMC, hlC, hbC⟩
  have hb2 : Below w2.heap.size w2 w3 := hb0.trans (hbC.mono hb0.size)
  have HC := mhid hMC
  have HlC := mhid (show ∀ k, GC.R k ≠ .none → w.heap.size ≤ k from fun k hk => Nat.le_trans HBW.out.size (Nat.le_trans hb0.size (hlC k hk)))
  have HAC := mhid (Apart.fresh HA.out (fun k hk => Nat.le_trans hb0.size (hlC k hk)))
  have HA := mhid (HA.out.keepb hb2)
  have HBC := mhid (Apart.fresh HB.out (fun k hk => Nat.le_trans hb0.size (hlC k hk)))
  have HB := mhid (HB.out.keepb hb2)
  have HBW := mhid (HBW.out.trans (hb2.mono HBW.out.size))
  clear hMC hlC hbC hb2 hb0 HSC
  go_wp2_with fail
  have HSD := mhid (small_any _ _ headD (insIn_one w3 ⟨4, 1, 0, 0, false, 0⟩ (bdD _ (by simp [headD]))) (by decide))
  have hb0 : Below w3.heap.size w3 (w3.alloc (.cells #[.int .u8 4, .int .u8 1, .int .u8 0, .int .u8 0, .bool false, .int .i32 0] 65)) := (Below.refl _ _).alloc (Nat.le_refl _) _
  refine HSD.out.mono ?_
  rintro e w4 ⟨MD, GD, rfl, hMD, hlD, hbD⟩
  have hb2 : Below w3.heap.size w3 w4 := hb0.trans (hbD.mono hb0.size)
  have HD := mhid hMD
  have HlD := mhid (show ∀ k, GD.R k ≠ .none → w.heap.size ≤ k from fun k hk => Nat.le_trans HBW.out.size (Nat.le_trans hb0.size (hlD k hk)))
  have HAD := mhid (Apart.fresh HA.out (fun k hk => Nat.le_trans hb0.size (hlD k hk)))
  have HA := mhid (HA.out.keepb hb2)
  have HBD := mhid (Apart.fresh HB.out (fun k hk => Nat.le_trans hb0.size (hlD k hk)))
  have HB := mhid (HB.out.keepb hb2)
  have HCD := mhid (Apart.fresh HC.out (fun k hk => Nat.le_trans hb0.size (hlD k hk)))
  have HC := mhid (HC.out.keepb hb2)
  have HBW := mhid (HBW.out.trans (hb2.mono HBW.out.size))
  clear hMD hlD hbD hb2 hb0 HSD
  go_wp2_with fail
  have HSF := mhid (small_any _ _ headF (insIn_one w4 ⟨32, 0, 0, 0, false, 0⟩ (bdF _ (by simp [headF]))) (by decide))
  have hb0 : Below w4.heap.size w4 (w4.alloc (.cells #[.int .u8 32, .int .u8 0, .int .u8 0, .int .u8 0, .bool false, .int .i32 0] 65)) := (Below.refl _ _).alloc (Nat.le_refl _) _
  refine HSF.out.mono ?_
  rintro e w5 ⟨MF, GF, rfl, hMF, hlF, hbF⟩
  have hb2 : Below w4.heap.size w4 w5 := hb0.trans (hbF.mono hb0.size)
  have HF := mhid hMF
  have HlF := mhid (show ∀ k, GF.R k ≠ .none → w.heap.size ≤ k from fun k hk => Nat.le_trans HBW.out.size (Nat.le_trans hb0.size (hlF k hk)))
  have HAF := mhid (Apart.fresh HA.out (fun k hk => Nat.le_trans hb0.size (hlF k hk)))
  have HA := mhid (HA.out.keepb hb2)
  have HBF := mhid (Apart.fresh HB.out (fun k hk => Nat.le_trans hb0.size (hlF k hk)))
  have HB := mhid (HB.out.keepb hb2)
  have HCF := mhid (Apart.fresh HC.out (fun k hk => Nat.le_trans hb0.size (hlF k hk)))
  have HC := mhid (HC.out.keepb hb2)
  have HDF := mhid (Apart.fresh HD.out (fun k hk => Nat.le_trans hb0.size (hlF k hk)))
  have HD := mhid (HD.out.keepb hb2)
  have HBW := mhid (HBW.out.trans (hb2.mono HBW.out.size))
  clear hMF hlF hbF hb2 hb0 HSF
  go_wp2_with fail
  obtain ⟨mA1, hmA1⟩ : ∃ m, m = stepM (smallM headA) 0 := ⟨_, rfl⟩
  have HS := mhid (show Calls Tryz.prog 8 #[.pointer (some ⟨MA, 0, none⟩), .int .u8 0] w5 (StepOk w5 GA MA mA1) from by rw [hmA1]; exact mstep_any w5 (HT.out.keep HBW.out) (HR.out.keep HBW.out) GA MA _ HA.out 0 (by omega) (by omega) (by decide +kernel))
  have HmmA1 := mhid hmA1
  clear hmA1
  refine HS.out.mono ?_
  rintro e w6 ⟨rfl, GA6, hg, ho, hR⟩
  have KAB := mhid (Apart.goes (HAB.out) HB.out hR)
  have KAC := mhid (Apart.goes (HAC.out) HC.out hR)
  have KAD := mhid (Apart.goes (HAD.out) HD.out hR)
  have KAF := mhid (Apart.goes (HAF.out) HF.out hR)
  have HB := mhid (HB.out.other (HAB.out) ho)
  have HC := mhid (HC.out.other (HAC.out) ho)
  have HD := mhid (HD.out.other (HAD.out) ho)
  have HF := mhid (HF.out.other (HAF.out) ho)
  have HAB := KAB
  clear KAB
  have HAC := KAC
  clear KAC
  have HAD := KAD
  clear KAD
  have HAF := KAF
  clear KAF
  have HA := mhid hg
  have HBN := mhid (HBW.out.trans (ho.below HBW.out.size (fun k hk hC => absurd (HlA.out k hC.1) (by omega))))
  have HlA := mhid (show ∀ k, GA6.R k ≠ .none → w.heap.size ≤ k from fun k hk => by
    by_cases e : k < w5.heap.size
    · rw [hR k e] at hk; exact HlA.out k hk
    · have := HBW.out.size; omega)
  have HBW := HBN
  clear HBN hg ho hR HS
  go_wp2_with fail
  have HP := mpc_any w6 GA6 MA _ HA.out
  rw [show mA1.pc = 4 from by rw [HmmA1.out]; exact knownA.1] at HP
  refine HP.mono ?_
  rintro e w' ⟨rfl, rfl⟩
  clear HP
  go_wp2_with fail
  obtain ⟨mA2, hmA2⟩ : ∃ m, m = stepM (mA1) 0 := ⟨_, rfl⟩
  have HS := mhid (show Calls Tryz.prog 8 #[.pointer (some ⟨MA, 0, none⟩), .int .u8 0] w6 (StepOk w6 GA6 MA mA2) from by rw [hmA2]; exact mstep_any w6 (HT.out.keep HBW.out) (HR.out.keep HBW.out) GA6 MA _ HA.out 0 (by omega) (by omega) (by rw [HmmA1.out]; decide +kernel))
  have HmmA2 := mhid hmA2
  clear hmA2
  refine HS.out.mono ?_
  rintro e w7 ⟨rfl, GA7, hg, ho, hR⟩
  have KAB := mhid (Apart.goes (HAB.out) HB.out hR)
  have KAC := mhid (Apart.goes (HAC.out) HC.out hR)
  have KAD := mhid (Apart.goes (HAD.out) HD.out hR)
  have KAF := mhid (Apart.goes (HAF.out) HF.out hR)
  have HB := mhid (HB.out.other (HAB.out) ho)
  have HC := mhid (HC.out.other (HAC.out) ho)
  have HD := mhid (HD.out.other (HAD.out) ho)
  have HF := mhid (HF.out.other (HAF.out) ho)
  have HAB := KAB
  clear KAB
  have HAC := KAC
  clear KAC
  have HAD := KAD
  clear KAD
  have HAF := KAF
  clear KAF
  have HA := mhid hg
  have HBN := mhid (HBW.out.trans (ho.below HBW.out.size (fun k hk hC => absurd (HlA.out k hC.1) (by omega))))
  have HlA := mhid (show ∀ k, GA7.R k ≠ .none → w.heap.size ≤ k from fun k hk => by
    by_cases e : k < w6.heap.size
    · rw [hR k e] at hk; exact HlA.out k hk
    · have := HBW.out.size; omega)
  have HBW := HBN
  clear HBN hg ho hR HS
  go_wp2_with fail
  obtain ⟨mA3, hmA3⟩ : ∃ m, m = stepM (mA2) 0 := ⟨_, rfl⟩
  have HS := mhid (show Calls Tryz.prog 8 #[.pointer (some ⟨MA, 0, none⟩), .int .u8 0] w7 (StepOk w7 GA7 MA mA3) from by rw [hmA3]; exact mstep_any w7 (HT.out.keep HBW.out) (HR.out.keep HBW.out) GA7 MA _ HA.out 0 (by omega) (by omega) (by rw [HmmA2.out, HmmA1.out]; decide +kernel))
  have HmmA3 := mhid hmA3
  clear hmA3
  refine HS.out.mono ?_
  rintro e w8 ⟨rfl, GA8, hg, ho, hR⟩
  have KAB := mhid (Apart.goes (HAB.out) HB.out hR)
  have KAC := mhid (Apart.goes (HAC.out) HC.out hR)
  have KAD := mhid (Apart.goes (HAD.out) HD.out hR)
  have KAF := mhid (Apart.goes (HAF.out) HF.out hR)
  have HB := mhid (HB.out.other (HAB.out) ho)
  have HC := mhid (HC.out.other (HAC.out) ho)
  have HD := mhid (HD.out.other (HAD.out) ho)
  have HF := mhid (HF.out.other (HAF.out) ho)
  have HAB := KAB
  clear KAB
  have HAC := KAC
  clear KAC
  have HAD := KAD
  clear KAD
  have HAF := KAF
  clear KAF
  have HA := mhid hg
  have HBN := mhid (HBW.out.trans (ho.below HBW.out.size (fun k hk hC => absurd (HlA.out k hC.1) (by omega))))
  have HlA := mhid (show ∀ k, GA8.R k ≠ .none → w.heap.size ≤ k from fun k hk => by
    by_cases e : k < w7.heap.size
    · rw [hR k e] at hk; exact HlA.out k hk
    · have := HBW.out.size; omega)
  have HBW := HBN
  clear HBN hg ho hR HS
  go_wp2_with fail
  obtain ⟨w9, hwn⟩ : ∃ W, W = w8.alloc (.cells #[.int .u8 mA3.kind, .int .u32 mA3.v] 37) := ⟨_, rfl⟩
  have hb : Below w8.heap.size w8 w9 := by rw [hwn]; exact (Below.refl _ _).alloc (Nat.le_refl _) _
  obtain ⟨X, hX⟩ : ∃ X, X = w8.heap.size := ⟨_, rfl⟩
  have HX := mhid (show ARow w9 X 37 [.int .u8 mA3.kind, .int .u32 mA3.v] from by rw [hwn, hX]; exact ARow.fresh w8 37 #[.int .u8 mA3.kind, .int .u32 mA3.v])
  rw [← hwn, ← hX]
  have HRXA := mhid (show GA8.R X = .none from by
    by_cases e : GA8.R X = .none
    · exact e
    · exact absurd (HA.out.lt X e) (by omega))
  have HRXB := mhid (show GB.R X = .none from by
    by_cases e : GB.R X = .none
    · exact e
    · exact absurd (HB.out.lt X e) (by omega))
  have HRXC := mhid (show GC.R X = .none from by
    by_cases e : GC.R X = .none
    · exact e
    · exact absurd (HC.out.lt X e) (by omega))
  have HRXD := mhid (show GD.R X = .none from by
    by_cases e : GD.R X = .none
    · exact e
    · exact absurd (HD.out.lt X e) (by omega))
  have HRXF := mhid (show GF.R X = .none from by
    by_cases e : GF.R X = .none
    · exact e
    · exact absurd (HF.out.lt X e) (by omega))
  have HA := mhid (HA.out.keepb hb)
  have HB := mhid (HB.out.keepb hb)
  have HC := mhid (HC.out.keepb hb)
  have HD := mhid (HD.out.keepb hb)
  have HF := mhid (HF.out.keepb hb)
  have HBW := mhid (HBW.out.trans (hb.mono HBW.out.size))
  clear hb hwn hX
  obtain ⟨mB1, hmB1⟩ : ∃ m, m = stepM (smallM headB) 0 := ⟨_, rfl⟩
  have HS := mhid (show Calls Tryz.prog 8 #[.pointer (some ⟨MB, 0, none⟩), .int .u8 0] w9 (StepOk w9 GB MB mB1) from by rw [hmB1]; exact mstep_any w9 (HT.out.keep HBW.out) (HR.out.keep HBW.out) GB MB _ HB.out 0 (by omega) (by omega) (by decide +kernel))
  have HmmB1 := mhid hmB1
  clear hmB1
  refine HS.out.mono ?_
  rintro e w10 ⟨rfl, GB10, hg, ho, hR⟩
  have KAB := mhid (Apart.symm (Apart.goes (HAB.out.symm) HA.out hR))
  have KBC := mhid (Apart.goes (HBC.out) HC.out hR)
  have KBD := mhid (Apart.goes (HBD.out) HD.out hR)
  have KBF := mhid (Apart.goes (HBF.out) HF.out hR)
  have HA := mhid (HA.out.other (HAB.out.symm) ho)
  have HC := mhid (HC.out.other (HBC.out) ho)
  have HD := mhid (HD.out.other (HBD.out) ho)
  have HF := mhid (HF.out.other (HBF.out) ho)
  have HAB := KAB
  clear KAB
  have HBC := KBC
  clear KBC
  have HBD := KBD
  clear KBD
  have HBF := KBF
  clear KBF
  have HB := mhid hg
  have HBN := mhid (HBW.out.trans (ho.below HBW.out.size (fun k hk hC => absurd (HlB.out k hC.1) (by omega))))
  have HlB := mhid (show ∀ k, GB10.R k ≠ .none → w.heap.size ≤ k from fun k hk => by
    by_cases e : k < w9.heap.size
    · rw [hR k e] at hk; exact HlB.out k hk
    · have := HBW.out.size; omega)
  have HRXB0 := HRXB
  have HRXB := mhid (show GB10.R X = .none from (hR X HX.out.lt).trans HRXB.out)
  have HX := mhid (HX.out.of_block (ho.block X HX.out.lt (fun hC => hC.1 HRXB0.out)))
  have HBW := HBN
  clear HBN hg ho hR HS
  go_wp2_with fail
  have HP := mt_any w10 GB10 MB _ HB.out 16
  rw [show tV mB1 16 = 0 from by rw [HmmB1.out]; decide +kernel, show tE 16 = 0 from rfl] at HP
  refine HP.mono ?_
  rintro e w' ⟨rfl, q, rfl⟩
  obtain ⟨w11, hwn⟩ : ∃ W, W = w10.drewN q := ⟨_, rfl⟩
  have hb : Below w10.heap.size w10 w11 := by rw [hwn]; exact (Only.refl (fun _ => False) w10).drewN q |>.below (Nat.le_refl _) (fun _ _ => id)
  rw [← hwn]
  clear HP hwn
  have HA := mhid (HA.out.keepb hb)
  have HB := mhid (HB.out.keepb hb)
  have HC := mhid (HC.out.keepb hb)
  have HD := mhid (HD.out.keepb hb)
  have HF := mhid (HF.out.keepb hb)
  have HBW := mhid (HBW.out.trans (hb.mono HBW.out.size))
  have HX := mhid (HX.out.below hb)
  clear hb
  go_wp2_with fail
  obtain ⟨mC0, hmC0⟩ : ∃ m, m = { smallM [] with pc := 40 } := ⟨_, rfl⟩
  have HS := mhid (show Calls Tryz.prog 22 #[.pointer (some ⟨MC, 0, none⟩), .int .u32 40] w11 (fun e w' => e = .returned (.int .i64 0) ∧ MachAt w' GC MC mC0 ∧ Only (fun k => k = MC) w11 w') from by rw [hmC0]; exact msetpc_any w11 GC MC _ HC.out 40 (by omega))
  have HmmC0 := mhid hmC0
  clear hmC0
  refine HS.out.mono ?_
  rintro e w12 ⟨rfl, hg, ho0⟩
  have ho : Only GC.own w11 w12 := ho0.mono (fun k _ e => e ▸ HC.out.ownM)
  have hR : ∀ k, k < w11.heap.size → GC.R k = GC.R k := fun _ _ => rfl
  clear ho0
  have KAC := mhid (Apart.symm (Apart.goes (HAC.out.symm) HA.out hR))
  have KBC := mhid (Apart.symm (Apart.goes (HBC.out.symm) HB.out hR))
  have KCD := mhid (Apart.goes (HCD.out) HD.out hR)
  have KCF := mhid (Apart.goes (HCF.out) HF.out hR)
  have HA := mhid (HA.out.other (HAC.out.symm) ho)
  have HB := mhid (HB.out.other (HBC.out.symm) ho)
  have HD := mhid (HD.out.other (HCD.out) ho)
  have HF := mhid (HF.out.other (HCF.out) ho)
  have HAC := KAC
  clear KAC
  have HBC := KBC
  clear KBC
  have HCD := KCD
  clear KCD
  have HCF := KCF
  clear KCF
  have HC := mhid hg
  have HBN := mhid (HBW.out.trans (ho.below HBW.out.size (fun k hk hC => absurd (HlC.out k hC.1) (by omega))))
  have HlC := mhid (show ∀ k, GC.R k ≠ .none → w.heap.size ≤ k from fun k hk => by
    by_cases e : k < w11.heap.size
    · rw [hR k e] at hk; exact HlC.out k hk
    · have := HBW.out.size; omega)
  have HRXC0 := HRXC
  have HRXC := mhid (show GC.R X = .none from (hR X HX.out.lt).trans HRXC.out)
  have HX := mhid (HX.out.of_block (ho.block X HX.out.lt (fun hC => hC.1 HRXC0.out)))
  have HBW := HBN
  clear HBN hg ho hR HS
  go_wp2_with fail
  obtain ⟨mC1, hmC1⟩ : ∃ m, m = stepM (mC0) 3 := ⟨_, rfl⟩
  have HS := mhid (show Calls Tryz.prog 8 #[.pointer (some ⟨MC, 0, none⟩), .int .u8 3] w12 (StepOk w12 GC MC mC1) from by rw [hmC1]; exact mstep_any w12 (HT.out.keep HBW.out) (HR.out.keep HBW.out) GC MC _ HC.out 3 (by omega) (by omega) (by rw [HmmC0.out]; decide +kernel))
  have HmmC1 := mhid hmC1
  clear hmC1
  refine HS.out.mono ?_
  rintro e w13 ⟨rfl, GC13, hg, ho, hR⟩
  have KAC := mhid (Apart.symm (Apart.goes (HAC.out.symm) HA.out hR))
  have KBC := mhid (Apart.symm (Apart.goes (HBC.out.symm) HB.out hR))
  have KCD := mhid (Apart.goes (HCD.out) HD.out hR)
  have KCF := mhid (Apart.goes (HCF.out) HF.out hR)
  have HA := mhid (HA.out.other (HAC.out.symm) ho)
  have HB := mhid (HB.out.other (HBC.out.symm) ho)
  have HD := mhid (HD.out.other (HCD.out) ho)
  have HF := mhid (HF.out.other (HCF.out) ho)
  have HAC := KAC
  clear KAC
  have HBC := KBC
  clear KBC
  have HCD := KCD
  clear KCD
  have HCF := KCF
  clear KCF
  have HC := mhid hg
  have HBN := mhid (HBW.out.trans (ho.below HBW.out.size (fun k hk hC => absurd (HlC.out k hC.1) (by omega))))
  have HlC := mhid (show ∀ k, GC13.R k ≠ .none → w.heap.size ≤ k from fun k hk => by
    by_cases e : k < w12.heap.size
    · rw [hR k e] at hk; exact HlC.out k hk
    · have := HBW.out.size; omega)
  have HRXC0 := HRXC
  have HRXC := mhid (show GC13.R X = .none from (hR X HX.out.lt).trans HRXC.out)
  have HX := mhid (HX.out.of_block (ho.block X HX.out.lt (fun hC => hC.1 HRXC0.out)))
  have HBW := HBN
  clear HBN hg ho hR HS
  go_wp2_with fail
  have HP := mt_any w13 GC13 MC _ HC.out 3
  rw [show tV mC1 3 = 40 from by rw [HmmC1.out, HmmC0.out]; decide +kernel, show tE 3 = 0 from rfl] at HP
  refine HP.mono ?_
  rintro e w' ⟨rfl, q, rfl⟩
  obtain ⟨w14, hwn⟩ : ∃ W, W = w13.drewN q := ⟨_, rfl⟩
  have hb : Below w13.heap.size w13 w14 := by rw [hwn]; exact (Only.refl (fun _ => False) w13).drewN q |>.below (Nat.le_refl _) (fun _ _ => id)
  rw [← hwn]
  clear HP hwn
  have HA := mhid (HA.out.keepb hb)
  have HB := mhid (HB.out.keepb hb)
  have HC := mhid (HC.out.keepb hb)
  have HD := mhid (HD.out.keepb hb)
  have HF := mhid (HF.out.keepb hb)
  have HBW := mhid (HBW.out.trans (hb.mono HBW.out.size))
  have HX := mhid (HX.out.below hb)
  clear hb
  rw [show mA3.kind = 1 from by rw [HmmA3.out, HmmA2.out, HmmA1.out]; exact knownA.2.1, show mA3.v = 5 from by rw [HmmA3.out, HmmA2.out, HmmA1.out]; exact knownA.2.2.1] at HX
  have x0 := HX.out.cell (k := 0) rfl
  have x1 := HX.out.cell (k := 1) rfl
  go_wp2_with fail
  have HO := mout_any w14 GA8 MA _ HA.out (by rw [HmmA3.out, HmmA2.out, HmmA1.out]; decide +kernel)
  rw [show mA3.out = [5] from by rw [HmmA3.out, HmmA2.out, HmmA1.out]; exact knownA.2.2.2] at HO
  refine HO.mono ?_
  rintro e w15 ⟨ov, rfl, hov, hb⟩
  have HOV := mhid (Reads32.of_own (l := [5]) hov)
  obtain ⟨p7, n7, c7, rfl⟩ := HOV.out.shape'
  clear HO hov
  have HA := mhid (HA.out.keepb hb)
  have HB := mhid (HB.out.keepb hb)
  have HC := mhid (HC.out.keepb hb)
  have HD := mhid (HD.out.keepb hb)
  have HF := mhid (HF.out.keepb hb)
  have HBW := mhid (HBW.out.trans (hb.mono HBW.out.size))
  have HX := mhid (HX.out.below hb)
  clear hb
  go_wp2_with fail
  have ha : Below w15.heap.size w15 (w15.alloc (.cells #[.int .u32 5] 22)) := (Below.refl _ _).alloc (Nat.le_refl _) _
  have HSM := mhid (same_any (w15.alloc (.cells #[.int .u32 5] 22)) _ (.slice (some ⟨w15.heap.size, 0, none⟩) 1 1) [5] [5] (HOV.out.keepb ha) ⟨by unfold maxLen; simp, some ⟨w15.heap.size, 0, none⟩, 1, rfl, fun _ => ⟨w15.heap.size, 0, rfl, fun k hk => by
    obtain rfl : k = 0 := by simp at hk; omega
    simp [go_sem]⟩⟩)
  refine HSM.out.mono ?_
  rintro e w16 ⟨rfl, hb0⟩
  have hb : Below w15.heap.size w15 w16 := ha.trans (hb0.mono ha.size)
  clear ha hb0 HSM HOV
  have HA := mhid (HA.out.keepb hb)
  have HB := mhid (HB.out.keepb hb)
  have HC := mhid (HC.out.keepb hb)
  have HD := mhid (HD.out.keepb hb)
  have HF := mhid (HF.out.keepb hb)
  have HBW := mhid (HBW.out.trans (hb.mono HBW.out.size))
  have HX := mhid (HX.out.below hb)
  clear hb
  go_wp2_with fail
  have HP := mpc_any w16 GB10 MB _ HB.out
  rw [show mB1.pc = 272 from by rw [HmmB1.out]; exact knownB.1] at HP
  refine HP.mono ?_
  rintro e w' ⟨rfl, rfl⟩
  clear HP
  go_wp2_with fail
  have HP : Calls Tryz.prog 23 #[.pointer (some ⟨MB, 0, none⟩)] w16 fun e w' => e = .returned (.agg #[.int .u8 0, .int .u8 0, .int .u8 16, .int .u8 0]) ∧ Below w16.heap.size w16 w' := by
    have h := mpsr_any w16 GB10 MB _ HB.out
    have k0 : mB1.p.cwp = 0 := by rw [HmmB1.out]; decide +kernel
    have k1 : mB1.p.pil = 0 := by rw [HmmB1.out]; decide +kernel
    have k2 : mB1.p.bank = 16 := by rw [HmmB1.out]; decide +kernel
    have k3 : mB1.p.flags = 0 := by rw [HmmB1.out]; decide +kernel
    unfold Px.agg at h
    rw [k0, k1, k2, k3] at h
    exact h
  refine HP.mono ?_
  rintro e w17 ⟨rfl, hb⟩
  clear HP
  have HA := mhid (HA.out.keepb hb)
  have HB := mhid (HB.out.keepb hb)
  have HC := mhid (HC.out.keepb hb)
  have HD := mhid (HD.out.keepb hb)
  have HF := mhid (HF.out.keepb hb)
  have HBW := mhid (HBW.out.trans (hb.mono HBW.out.size))
  have HX := mhid (HX.out.below hb)
  clear hb
  go_wp2_with fail
  have HP := mwim_any w17 GB10 MB _ HB.out
  rw [show mB1.wim = 2 from by rw [HmmB1.out]; decide +kernel] at HP
  refine HP.mono ?_
  rintro e w' ⟨rfl, rfl⟩
  clear HP
  go_wp2_with fail
  have HP := mpc_any w17 GC13 MC _ HC.out
  rw [show mC1.pc = 560 from by rw [HmmC1.out, HmmC0.out]; exact knownC.1] at HP
  refine HP.mono ?_
  rintro e w' ⟨rfl, rfl⟩
  clear HP
  go_wp2_with fail
  have HP : Calls Tryz.prog 23 #[.pointer (some ⟨MC, 0, none⟩)] w17 fun e w' => e = .returned (.agg #[.int .u8 0, .int .u8 3, .int .u8 3, .int .u8 0]) ∧ Below w17.heap.size w17 w' := by
    have h := mpsr_any w17 GC13 MC _ HC.out
    have k0 : mC1.p.cwp = 0 := by rw [HmmC1.out, HmmC0.out]; decide +kernel
    have k1 : mC1.p.pil = 3 := by rw [HmmC1.out, HmmC0.out]; decide +kernel
    have k2 : mC1.p.bank = 3 := by rw [HmmC1.out, HmmC0.out]; decide +kernel
    have k3 : mC1.p.flags = 0 := by rw [HmmC1.out, HmmC0.out]; decide +kernel
    unfold Px.agg at h
    rw [k0, k1, k2, k3] at h
    exact h
  refine HP.mono ?_
  rintro e w18 ⟨rfl, hb⟩
  clear HP
  have HA := mhid (HA.out.keepb hb)
  have HB := mhid (HB.out.keepb hb)
  have HC := mhid (HC.out.keepb hb)
  have HD := mhid (HD.out.keepb hb)
  have HF := mhid (HF.out.keepb hb)
  have HBW := mhid (HBW.out.trans (hb.mono HBW.out.size))
  have HX := mhid (HX.out.below hb)
  clear hb
  go_wp2_with fail
  obtain ⟨mD1, hmD1⟩ : ∃ m, m = stepM (smallM headD) 0 := ⟨_, rfl⟩
  have HS := mhid (show Calls Tryz.prog 8 #[.pointer (some ⟨MD, 0, none⟩), .int .u8 0] w18 (StepOk w18 GD MD mD1) from by rw [hmD1]; exact mstep_any w18 (HT.out.keep HBW.out) (HR.out.keep HBW.out) GD MD _ HD.out 0 (by omega) (by omega) (by decide +kernel))
  have HmmD1 := mhid hmD1
  clear hmD1
  refine HS.out.mono ?_
  rintro e w19 ⟨rfl, GD19, hg, ho, hR⟩
  have KAD := mhid (Apart.symm (Apart.goes (HAD.out.symm) HA.out hR))
  have KBD := mhid (Apart.symm (Apart.goes (HBD.out.symm) HB.out hR))
  have KCD := mhid (Apart.symm (Apart.goes (HCD.out.symm) HC.out hR))
  have KDF := mhid (Apart.goes (HDF.out) HF.out hR)
  have HA := mhid (HA.out.other (HAD.out.symm) ho)
  have HB := mhid (HB.out.other (HBD.out.symm) ho)
  have HC := mhid (HC.out.other (HCD.out.symm) ho)
  have HF := mhid (HF.out.other (HDF.out) ho)
  have HAD := KAD
  clear KAD
  have HBD := KBD
  clear KBD
  have HCD := KCD
  clear KCD
  have HDF := KDF
  clear KDF
  have HD := mhid hg
  have HBN := mhid (HBW.out.trans (ho.below HBW.out.size (fun k hk hC => absurd (HlD.out k hC.1) (by omega))))
  have HlD := mhid (show ∀ k, GD19.R k ≠ .none → w.heap.size ≤ k from fun k hk => by
    by_cases e : k < w18.heap.size
    · rw [hR k e] at hk; exact HlD.out k hk
    · have := HBW.out.size; omega)
  have HRXD0 := HRXD
  have HRXD := mhid (show GD19.R X = .none from (hR X HX.out.lt).trans HRXD.out)
  have HX := mhid (HX.out.of_block (ho.block X HX.out.lt (fun hC => hC.1 HRXD0.out)))
  have HBW := HBN
  clear HBN hg ho hR HS
  have kkmD1 : mD1.kind = 2 := by rw [HmmD1.out]; decide +kernel
  have kvmD1 : mD1.v = 1 := by rw [HmmD1.out]; decide +kernel
  rw [kkmD1, kvmD1]
  clear kkmD1 kvmD1
  go_wp2_with fail
  obtain ⟨mF1, hmF1⟩ : ∃ m, m = stepM (smallM headF) 0 := ⟨_, rfl⟩
  have HS := mhid (show Calls Tryz.prog 8 #[.pointer (some ⟨MF, 0, none⟩), .int .u8 0] w19 (StepOk w19 GF MF mF1) from by rw [hmF1]; exact mstep_any w19 (HT.out.keep HBW.out) (HR.out.keep HBW.out) GF MF _ HF.out 0 (by omega) (by omega) (by decide +kernel))
  have HmmF1 := mhid hmF1
  clear hmF1
  refine HS.out.mono ?_
  rintro e w20 ⟨rfl, GF20, hg, ho, hR⟩
  have KAF := mhid (Apart.symm (Apart.goes (HAF.out.symm) HA.out hR))
  have KBF := mhid (Apart.symm (Apart.goes (HBF.out.symm) HB.out hR))
  have KCF := mhid (Apart.symm (Apart.goes (HCF.out.symm) HC.out hR))
  have KDF := mhid (Apart.symm (Apart.goes (HDF.out.symm) HD.out hR))
  have HA := mhid (HA.out.other (HAF.out.symm) ho)
  have HB := mhid (HB.out.other (HBF.out.symm) ho)
  have HC := mhid (HC.out.other (HCF.out.symm) ho)
  have HD := mhid (HD.out.other (HDF.out.symm) ho)
  have HAF := KAF
  clear KAF
  have HBF := KBF
  clear KBF
  have HCF := KCF
  clear KCF
  have HDF := KDF
  clear KDF
  have HF := mhid hg
  have HBN := mhid (HBW.out.trans (ho.below HBW.out.size (fun k hk hC => absurd (HlF.out k hC.1) (by omega))))
  have HlF := mhid (show ∀ k, GF20.R k ≠ .none → w.heap.size ≤ k from fun k hk => by
    by_cases e : k < w19.heap.size
    · rw [hR k e] at hk; exact HlF.out k hk
    · have := HBW.out.size; omega)
  have HRXF0 := HRXF
  have HRXF := mhid (show GF20.R X = .none from (hR X HX.out.lt).trans HRXF.out)
  have HX := mhid (HX.out.of_block (ho.block X HX.out.lt (fun hC => hC.1 HRXF0.out)))
  have HBW := HBN
  clear HBN hg ho hR HS
  have kkmF1 : mF1.kind = 3 := by rw [HmmF1.out]; decide +kernel
  have kvmF1 : mF1.v = 0 := by rw [HmmF1.out]; decide +kernel
  rw [kkmF1, kvmF1]
  clear kkmF1 kvmF1
  go_wp2_with fail
  obtain ⟨mC2, hmC2⟩ : ∃ m, m = stepM (mC1) 3 := ⟨_, rfl⟩
  have HS := mhid (show Calls Tryz.prog 8 #[.pointer (some ⟨MC, 0, none⟩), .int .u8 3] w20 (StepOk w20 GC13 MC mC2) from by rw [hmC2]; exact mstep_any w20 (HT.out.keep HBW.out) (HR.out.keep HBW.out) GC13 MC _ HC.out 3 (by omega) (by omega) (by rw [HmmC1.out, HmmC0.out]; decide +kernel))
  have HmmC2 := mhid hmC2
  clear hmC2
  refine HS.out.mono ?_
  rintro e w21 ⟨rfl, GC21, hg, ho, hR⟩
  have KAC := mhid (Apart.symm (Apart.goes (HAC.out.symm) HA.out hR))
  have KBC := mhid (Apart.symm (Apart.goes (HBC.out.symm) HB.out hR))
  have KCD := mhid (Apart.goes (HCD.out) HD.out hR)
  have KCF := mhid (Apart.goes (HCF.out) HF.out hR)
  have HA := mhid (HA.out.other (HAC.out.symm) ho)
  have HB := mhid (HB.out.other (HBC.out.symm) ho)
  have HD := mhid (HD.out.other (HCD.out) ho)
  have HF := mhid (HF.out.other (HCF.out) ho)
  have HAC := KAC
  clear KAC
  have HBC := KBC
  clear KBC
  have HCD := KCD
  clear KCD
  have HCF := KCF
  clear KCF
  have HC := mhid hg
  have HBN := mhid (HBW.out.trans (ho.below HBW.out.size (fun k hk hC => absurd (HlC.out k hC.1) (by omega))))
  have HlC := mhid (show ∀ k, GC21.R k ≠ .none → w.heap.size ≤ k from fun k hk => by
    by_cases e : k < w20.heap.size
    · rw [hR k e] at hk; exact HlC.out k hk
    · have := HBW.out.size; omega)
  have HRXC0 := HRXC
  have HRXC := mhid (show GC21.R X = .none from (hR X HX.out.lt).trans HRXC.out)
  have HX := mhid (HX.out.of_block (ho.block X HX.out.lt (fun hC => hC.1 HRXC0.out)))
  have HBW := HBN
  clear HBN hg ho hR HS
  have kkmC2 : mC2.kind = 3 := by rw [HmmC2.out, HmmC1.out, HmmC0.out]; decide +kernel
  have kvmC2 : mC2.v = 0 := by rw [HmmC2.out, HmmC1.out, HmmC0.out]; decide +kernel
  rw [kkmC2, kvmC2]
  clear kkmC2 kvmC2
  go_wp2_with fail
  go_ret
  exact ⟨rfl, HBW.out⟩
end Go.Proofs.YtgdebchbdmogcaaGreatDoor
/- Plain law: how a machine goes on where its memory has an instruction. No program in sight. -/
namespace Go.Proofs.YtgdebchbdmogcaaGreatDoor
open Go.RowKit
set_option linter.unusedVariables false
set_option linter.unusedSimpArgs false
/-- The memory's word at an address is an instruction's. -/
structure CodeAt (d : List Int) (a : Nat) (x : Ix) : Prop where
  al : a % 4 = 0
  lt : a + 4 ≤ d.length
  wd : loadS d a 4 = wordS x
  may : mayP x
  bd : x.bd
theorem span_in {n a : Nat} (h : a % 4 = 0) (h2 : a + 4 ≤ n) : spanE n (a : Int) 1 4 = 0 := by
  unfold spanE; rw [if_neg (by omega), if_neg (by omega), if_neg (by omega)]
theorem loadV_in {d : List Int} {a : Nat} (h : a % 4 = 0) (h2 : a + 4 ≤ d.length) : loadV d (a : Int) 4 = loadS d a 4 := by
  unfold loadV; rw [if_pos (span_in h h2)]; rfl
theorem step_code {m : Mx} {x : Ix} {level : Int} {a : Nat} (hk : m.kind = 0) (hl : ¬ (level < 16 ∧ m.p.pil < level)) (hp : m.pc = (a : Int)) (hc : CodeAt m.mem a x) : stepM m level = opS m x (getM m x.rs1) (sndM m x) := by
  obtain ⟨h1, h2, h3, h4, h5⟩ := hc
  have e : loadV m.mem m.pc 4 = wordS x := by rw [hp, loadV_in h1 h2, h3]
  have hd := dec_enc h5 h4
  have ha : atM m = x := by unfold atM; rw [e]; exact hd.2
  unfold stepM
  rw [if_neg (by omega), if_neg hl]
  unfold runM
  rw [if_neg (by unfold noneAt; rw [e, hp, span_in h1 h2, hd.1]; simp), ha]
theorem CodeAt.store {d : List Int} {a b : Nat} {x : Ix} (h : CodeAt d a x) (y : Int) (hb : a + 4 ≤ b ∨ b + 4 ≤ a) : CodeAt (storeS d b 4 y) a x := by
  obtain ⟨h1, h2, h3, h4, h5⟩ := h
  exact ⟨h1, by rw [storeS_len]; exact h2, by rw [load_store_ne _ _ _ _ (by omega)]; exact h3, h4, h5⟩
theorem CodeAt.new {d : List Int} {a : Nat} {x : Ix} (h : a % 4 = 0) (h2 : a + 4 ≤ d.length) (hb : x.bd) (hm : mayP x) : CodeAt (storeS d a 4 (wordS x)) a x :=
  ⟨h, by rw [storeS_len]; exact h2, load_store _ _ _ h2 (Int.le_of_lt (word_bd hb hm).1) (word_bd hb hm).2, hm, hb⟩
end Go.Proofs.YtgdebchbdmogcaaGreatDoor
