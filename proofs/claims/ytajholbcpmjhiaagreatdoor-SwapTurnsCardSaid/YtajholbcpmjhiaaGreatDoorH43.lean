/- Several texts in one: SwapWorld, SwapLiving, Ref10. -/
import Derived.Test.YtajholbcpmjhiaaGreatDoorH42
set_option linter.unusedVariables false
set_option linter.unusedSimpArgs false
/- The walk of muntinlaw10.world. (Printed by genswapworld.py.) -/
namespace Go.Proofs.YtajholbcpmjhiaaGreatDoor
open Go.RowKit Go.Maps
structure QM (w0 w wr : World) (G : MG) (M : Nat) (m : Mx) (B g0 : Nat) (f' : Fx) (N : Nat) (lv : Value) (inv : Int) (d : List Int) : Prop where
  q : ARow wr B 58 [.int .i64 m.f.nw, lv, .slice (some ⟨g0, 0, none⟩) m.mem.length m.mem.length, .int .i64 m.p.cwp, .int .i64 inv]
  r : ARow wr w.heap.size 58 [.int .i64 0, .slice none 0 0, .slice none 0 0, .int .i64 0, .int .i64 0]
  log : ∃ L, LogIn wr lv L ∧ LogOf L f' ∧ L.length ≤ N
  own : ∀ k, lv.ownBlock = some k → B < k
  mem : RefAt wr 0 g0 m.mem.length d
  len : d.length = m.mem.length
  bel : Below w.heap.size w wr
  lo : w.heap.size < g0 ∧ g0 < B
theorem QW.bytes {w0 w wr : World} {G : MG} {M : Nat} {m : Mx} {B g0 : Nat} {f' : Fx} {N : Nat} {lv : Value} {inv : Int} (h : QW w0 w wr G M m B g0 f' N lv inv) : QM w0 w wr G M m B g0 f' N lv inv (bytesTo m.mem 0) :=
  ⟨h.q, h.r, h.log, h.own, h.mem, by simp [bytesTo], h.bel, h.lo.1, h.lo.2.1⟩
theorem QM.keep {w0 w wr w' : World} {G : MG} {M : Nat} {m : Mx} {B g0 : Nat} {f' : Fx} {N : Nat} {lv : Value} {inv : Int} {d : List Int} (h : QM w0 w wr G M m B g0 f' N lv inv d) (hb : Below wr.heap.size wr w') : QM w0 w w' G M m B g0 f' N lv inv d := by
  obtain ⟨L, h3, h4⟩ := h.log
  exact ⟨h.q.below hb, h.r.below hb, ⟨L, h3.keep hb, h4⟩, h.own, refat_below h.mem hb, h.len, h.bel.trans (hb.mono h.bel.size), h.lo⟩
theorem QM.set {w0 w wr : World} {G : MG} {M : Nat} {m : Mx} {B g0 : Nat} {f' : Fx} {N : Nat} {lv : Value} {inv : Int} {d : List Int} (h : QM w0 w wr G M m B g0 f' N lv inv d) {i : Nat} (hi : i < m.mem.length) {x : Int} (hx : 0 ≤ x ∧ x < 256) :
    QM w0 w (wr.setCell ⟨g0, i, none⟩ (.int .u8 x)) G M m B g0 f' N lv inv (d.set i x) := by
  have hl := h.lo
  have o : Only (fun k => k = g0) wr (wr.setCell ⟨g0, i, none⟩ (.int .u8 x)) := (Only.refl (fun k => k = g0) wr).setCell (p := ⟨g0, i, none⟩) rfl _
  obtain ⟨L, h3, h4⟩ := h.log
  refine ⟨h.q.of_block (o.block _ h.q.lt (by omega)), h.r.of_block (o.block _ h.r.lt (by omega)), ⟨L, h3.only o (fun k hk e => by have := h.own k hk; have e : k = g0 := e; omega), h4⟩, h.own, h.mem.set (by rw [h.len]; exact hi) hx, by rw [List.length_set]; exact h.len, ?_, hl⟩
  exact h.bel.trans (o.below h.bel.size (fun k hk hS => by have hS : k = g0 := hS; omega))
set_option maxRecDepth 100000 in
set_option maxHeartbeats 8000000 in
theorem sworld_any (w0 w : World) (G : MG) (M : Nat) (m : Mx) (h : MIs w0 w G M m) (kk : Nat) (hk : kk < m.f.nw) (hwim : m.wim = 2 ^ kk) (hsz : m.mem.length % 4 = 0) (hsm : m.mem.length ≤ 8192) :
    Calls Tryz.prog 39 #[.pointer (some ⟨M, 0, none⟩), .int .i64 m.f.nw] w fun e w' => ∃ v f', e = .returned v ∧ WAt w' 700 v ⟨f', m.mem, m.p.cwp, kk⟩ ∧ FZero f' m.f ∧ (∀ k, own8 v k → w.heap.size ≤ k) ∧ Below w.heap.size w w' := by
  have HM := mhid h
  have hok := h.at'.ok
  have hpb := hok.pb
  have hcw := hok.cwp
  have hnw2 := hok.f.nw2
  have hnw32 := hok.f.nw32
  have hml : m.mem.length ≤ 4194304 := hok.mlen
  have HOK := mhid hok
  clear h hok
  go_enter Tryz.func39, Tryz.ntmps39
  go_wp2_with fail
  obtain ⟨W1, hW1⟩ : ∃ x, x = w.alloc (.cells #[.int .i64 0, .slice none 0 0, .slice none 0 0, .int .i64 0, .int .i64 0] 58) := ⟨_, rfl⟩
  have hb1 : Below w.heap.size w W1 := by rw [hW1]; exact (Below.refl _ _).alloc (Nat.le_refl _) _
  have hQ : ARow W1 w.heap.size 58 [.int .i64 0, .slice none 0 0, .slice none 0 0, .int .i64 0, .int .i64 0] := by rw [hW1]; exact ARow.fresh w _ _
  rw [← hW1]
  clear hW1
  have HM1 := mhid (HM.out.keepb hb1)
  have HB1 := mhid hb1
  have HQ1 := mhid hQ
  clear hb1 hQ
  have hps := mpsr_any W1 G M m HM1.out.at'
  rw [show m.p.agg = .agg #[.int .u8 m.p.cwp, .int .u8 m.p.pil, .int .u8 m.p.bank, .int .u8 m.p.flags] from rfl] at hps
  refine hps.mono ?_
  rintro e W2 ⟨rfl, hb2⟩
  have HM2 := mhid (HM1.out.keepb hb2)
  have HB2 := mhid (HB1.out.trans (hb2.mono HB1.out.size))
  have HQ2 := mhid (HQ1.out.below hb2)
  clear hps hb2 HM1 HB1 HQ1
  have fp0 := wfield_psr0
  have e1 : IntKind.i64.wrap m.p.cwp = m.p.cwp := IntWalk.i64_in _ (by have := hcw.2; unfold Mx.nw at this; omega)
  go_wp2_with fail
  refine (mmem_any W2 G M m HM2.out.at').mono ?_
  rintro e w' ⟨rfl, rfl⟩
  have HSZ := mhid (size_any W2 G.mB G.gB m.mem HM2.out.at'.mem)
  go_wp2_with fail
  refine HSZ.out.mono ?_
  rintro e w' ⟨rfl, rfl⟩
  have mk := fun (W : World) => run_make_row' (P := Tryz.prog) 56 5 (.int .u8 0) 1 Tryz.underlying56 infobyte rfl .i64 .i64 m.mem.length (by omega) (by omega) W
  have q0 := HQ2.out.cell (k := 0) rfl
  have q1 := HQ2.out.cell (k := 1) rfl
  have q2 := HQ2.out.cell (k := 2) rfl
  have q3 := HQ2.out.cell (k := 3) rfl
  have q4 := HQ2.out.cell (k := 4) rfl
  have qf0 := HQ2.out.frozen 0
  have qf1 := HQ2.out.frozen 1
  have qf2 := HQ2.out.frozen 2
  have qf3 := HQ2.out.frozen 3
  have qf4 := HQ2.out.frozen 4
  go_wp2_with fail
  obtain ⟨W3, hW3⟩ : ∃ x, x = (W2.alloc (.cells (madeCells #[.int .u8 0] m.mem.length) 5)).alloc (.cells #[.int .i64 0, .slice none 0 0, .slice (some ⟨W2.heap.size, 0, none⟩) m.mem.length m.mem.length, .int .i64 m.p.cwp, .int .i64 0] 58) := ⟨_, rfl⟩
  have hb3 : Below W2.heap.size W2 W3 := by rw [hW3]; exact ((Below.refl _ _).alloc (Nat.le_refl _) _).alloc (by simp) _
  have hQ3 : ARow W3 (W2.heap.size + 1) 58 [.int .i64 0, .slice none 0 0, .slice (some ⟨W2.heap.size, 0, none⟩) m.mem.length m.mem.length, .int .i64 m.p.cwp, .int .i64 0] := by
    rw [hW3]
    have := ARow.fresh (W2.alloc (.cells (madeCells #[.int .u8 0] m.mem.length) 5)) 58 #[.int .i64 0, .slice none 0 0, .slice (some ⟨W2.heap.size, 0, none⟩) m.mem.length m.mem.length, .int .i64 m.p.cwp, .int .i64 0]
    rw [World.size_alloc] at this; exact this
  have hR3 : RefAt W3 0 W2.heap.size m.mem.length (List.replicate m.mem.length 0) := by
    rw [hW3]; exact refat_below (refat_made W2 _ hml) ((Below.refl _ _).alloc (Nat.le_refl _) _)
  rw [← hW3]
  have HQ := mhid (show ∀ wx, Below W3.heap.size W3 wx → QW w0 w ((wx.setCell ⟨W2.heap.size + 1, 0, none⟩ (.int .i64 m.f.nw)).setCell ⟨W2.heap.size + 1, 1, none⟩ (.slice none 0 0)) G M m (W2.heap.size + 1) W2.heap.size (Fx.new m.f.nw) 0 (.slice none 0 0) 0 from fun wx hbx => by
    have hq : ARow wx (W2.heap.size + 1) 58 _ := hQ3.below hbx
    have hlt := HQ2.out.lt
    have ho : Only (fun k => k = W2.heap.size + 1) wx ((wx.setCell ⟨W2.heap.size + 1, 0, none⟩ (.int .i64 m.f.nw)).setCell ⟨W2.heap.size + 1, 1, none⟩ (.slice none 0 0)) := ((Only.refl (fun k => k = W2.heap.size + 1) wx).setCell (p := ⟨W2.heap.size + 1, 0, none⟩) rfl _).setCell (p := ⟨W2.heap.size + 1, 1, none⟩) rfl _
    have hm3 := (HM2.out.keepb hb3).keepb hbx
    have hbw := (HB2.out.trans (hb3.mono HB2.out.size))
    have hbw := hbw.trans (hbx.mono hbw.size)
    have hmlt : ∀ k, G.R k ≠ .none → k < w.heap.size := fun k hk => HM.out.at'.lt k hk
    refine ⟨(hq.set 0 (.int .i64 m.f.nw)).set 1 (.slice none 0 0), (((HQ2.out.below hb3).below hbx).of_block (ho.block _ ((HQ2.out.below hb3).below hbx).lt (by omega))), ⟨[], .inl ⟨rfl, rfl⟩, LogOf.new _, Nat.le_refl _⟩, fun k hk => (by cases hk), (refat_below hR3 hbx).keep ho (by omega), ⟨hm3.at'.keep ho (fun k hk e => by have := hmlt k hk; have e : k = W2.heap.size + 1 := e; omega), hm3.lo, ?_⟩, ?_, ⟨by omega, by omega, HM.out.bel.size⟩, hmlt⟩
    · exact hm3.bel.trans (ho.below hm3.bel.size (fun k hk hS => by have := HM.out.bel.size; have hS : k = W2.heap.size + 1 := hS; omega))
    · exact hbw.trans (ho.below hbw.size (fun k hk hS => by have hS : k = W2.heap.size + 1 := hS; omega)))
  have HQB := mhid (fun wx (hbx : Below W3.heap.size W3 wx) => (show ARow wx (W2.heap.size + 1) 58 _ from hQ3.below hbx))
  obtain ⟨B, hB⟩ : ∃ B, B = W2.heap.size + 1 := ⟨_, rfl⟩
  rw [← hB] at HQ HQB ⊢
  clear hW3 hb3 hQ3 hR3 q0 q1 q2 q3 q4 qf0 qf1 qf2 qf3 qf4 mk HSZ HQ2 e1
  generalize W2.heap.size = g0 at *
  clear hB
  refine (rf_new_ok m.f.nw hnw2 hnw32 W3).mono ?_
  rintro e W4 ⟨rfl, hb4⟩
  have HQ4 := mhid (HQ.out W4 hb4)
  have q0 := (HQB.out W4 hb4).cell (k := 0) rfl
  have q1 := (HQB.out W4 hb4).cell (k := 1) rfl
  have qf0 := (HQB.out W4 hb4).frozen 0
  have qf1 := (HQB.out W4 hb4).frozen 1
  clear hb4 HQ HQB
  go_wp2_with fail
  have HQ4b := HQ4
  clear q0 q1 qf0 qf1 HM2 HB2
  generalize (W4.setCell ⟨B, 0, none⟩ (.int .i64 m.f.nw)).setCell ⟨B, 1, none⟩ (.slice none 0 0) = W5 at *
  go_loopw [6] (fun i wr => ∃ (k : Nat) (f' : Fx) (lv : Value), k ≤ m.f.nw ∧ i = .int .i64 (k : Int) ∧ Hid (QW w0 w wr G M m B g0 f' (16 * k) lv (if kk < k then kk else 0)) ∧ Hid (FWin f' m.f k)) (fun i _ => m.f.nw - (intOf i).toNat)
  case atStart => exact ⟨0, _, _, by omega, rfl, (by rw [if_neg (by omega)]; exact HQ4), mhid (FWin.new HOK.out.f)⟩
  case round =>
    obtain ⟨k, f', lv, hkn, rfl, QQ, FW⟩ := hrel
    clear HQ4 HQ4b
    by_cases hlt : k < m.f.nw
    · have h1 : (k : Int) < (m.f.nw : Int) := by omega
      go_wp2_with fail
      refine (mfile_any _ G M m QQ.out.mis.at').mono ?_
      rintro e w' ⟨rfl, rfl⟩
      have HWIN := mhid (mw_win w0 _ G M m QQ.out.mis k)
      go_wp2_with fail
      refine HWIN.out.mono ?_
      rintro e w3 ⟨rv, rfl, hrow, hb3⟩
      have hre : regE m.f k 0 0 = 0 := if_pos ⟨⟨by omega, by omega⟩, by omega, by omega, by omega⟩
      rw [hre]
      rw [winV_nat hlt] at hrow
      have hl16 := winR_len HOK.out.f hlt
      have QQ3 := mhid (QQ.out.keep hb3)
      obtain ⟨L, hlog, hlo, hLn⟩ := QQ3.out.log
      have HRW := mhid hrow.1
      have hww : Words (winR m.f k) := fun x hx => by unfold winR at hx; exact HOK.out.f.ww x (List.mem_of_mem_drop (List.mem_of_mem_take hx))
      have HPU := mhid (rf_put w3 f' FW.out.way.ok lv L hlog (by omega) hlo k rv (winR m.f k) HRW.out hww ⟨by omega, by rw [FW.out.way.nw]; omega⟩ hl16)
      have hfn := FW.out.way.nw
      rw [hfn] at HPU
      obtain ⟨p1, c1, rfl⟩ := hlog.shape
      obtain ⟨-, pr, cr, rfl, -⟩ := HRW.out
      have q0 := QQ3.out.q.cell (k := 0) rfl
      have q1 := QQ3.out.q.cell (k := 1) rfl
      have qf0 := QQ3.out.q.frozen 0
      have qf1 := QQ3.out.q.frozen 1
      have HLL := mhid (And.intro hlog (And.intro hlo hLn))
      clear hrow hre hb3 hlog hlo hLn QQ HWIN hww
      go_wp2_with fail
      rw [hl16] at HPU
      refine HPU.out.mono ?_
      rintro e w5 ⟨lv2, L2, rfl, hq2, hlog2, hlen2, hb5, hown5⟩
      have hfl : f'.nw = m.f.nw := hfn
      rw [hfl]
      have QQ5 := mhid (QQ3.out.keep hb5)
      have hown : ∀ j, lv2.ownBlock = some j → B < j := fun j hj => by
        rcases hown5 j hj with h | h
        · exact QQ3.out.own j h
        · have := QQ3.out.q.lt; omega
      have HLN := mhid (show L2.length ≤ 16 * (k + 1) from by have := HLL.out.2.2; omega)
      obtain ⟨p2, c2, rfl⟩ := hq2.shape
      have HF := mhid (And.intro hq2 (And.intro hlog2 hown))
      have HFW := mhid (FW.out.window HOK.out.f hlt)
      clear hb5 hq2 hlog2 hown hown5 hlen2 q0 q1 qf0 qf1 hfn hfl HPU FW
      have q0 := QQ5.out.q.cell (k := 0) rfl
      have q1 := QQ5.out.q.cell (k := 1) rfl
      have q4 := QQ5.out.q.cell (k := 4) rfl
      have qf0 := QQ5.out.q.frozen 0
      have qf1 := QQ5.out.q.frozen 1
      go_wp2_with fail
      have QQ6 := mhid (QQ5.out.file HF.out.1 HF.out.2.1 HLN.out HF.out.2.2)
      clear q0 q1 q4 qf0 qf1 QQ5 QQ3
      generalize (w5.setCell ⟨B, 0, none⟩ (.int .i64 m.f.nw)).setCell ⟨B, 1, none⟩ (.slice p2 L2.length c2) = w6 at *
      refine (mwim_any w6 G M m QQ6.out.mis.at').mono ?_
      rintro e w' ⟨rfl, rfl⟩
      rw [hwim]
      have qf4 := QQ6.out.q.frozen 4
      have q4 := QQ6.out.q.cell (k := 4) rfl
      have hk32 : k < 32 := by omega
      have hkk32 : kk < 32 := by omega
      by_cases hkk : kk = k
      · have hE : ((2 : Int) ^ kk == 2 ^ k % 4294967296) = true := by rw [hkk, Int.emod_eq_of_lt (Int.pow_nonneg (by decide)) (wim_lt' k hk32)]; simp
        have HKK := mhid hkk
        clear hkk
        go_wp2_with fail
        have QQ7 := mhid (QQ6.out.invalid (k : Int))
        refine ⟨⟨k + 1, _, .slice p2 L2.length c2, by omega, by go_num, ?_, HFW⟩, by simp [intOf] <;> omega⟩
        rw [if_pos (by have := HKK.out; omega), show (kk : Int) = (k : Int) by have := HKK.out; omega]
        exact QQ7
      · have hE : ((2 : Int) ^ kk == 2 ^ k % 4294967296) = false := by
          rw [Int.emod_eq_of_lt (Int.pow_nonneg (by decide)) (wim_lt' k hk32)]
          simp only [beq_eq_false_iff_ne, ne_eq]
          intro h; exact hkk (pow_inj h)
        have HKK := mhid hkk
        clear hkk
        go_wp2_with fail
        refine ⟨⟨k + 1, _, .slice p2 L2.length c2, by omega, by go_num, ?_, HFW⟩, by simp [intOf] <;> omega⟩
        rw [show (if kk < k + 1 then (kk : Int) else 0) = (if kk < k then (kk : Int) else 0) by have := HKK.out; split <;> split <;> first | rfl | omega]
        exact QQ6
    · obtain rfl : k = m.f.nw := by omega
      go_wp2_with fail
      rw [if_pos hk] at QQ
      refine (mmem_any _ G M m QQ.out.mis.at').mono ?_
      rintro e w' ⟨rfl, rfl⟩
      go_wp2_with fail
      refine (mmem_any _ G M m QQ.out.mis.at').mono ?_
      rintro e w' ⟨rfl, rfl⟩
      have HSZ := mhid (size_any _ G.mB G.gB m.mem QQ.out.mis.at'.mem)
      go_wp2_with fail
      refine HSZ.out.mono ?_
      rintro e w' ⟨rfl, rfl⟩
      have hd4 : (m.mem.length : Int).tdiv 4 = ((m.mem.length / 4 : Nat) : Int) := by rw [Int.tdiv_eq_ediv_of_nonneg (Int.natCast_nonneg _)]; rfl
      obtain ⟨hw4, hsp, hmx, h4n, h63⟩ := quarter hsm hsz rfl
      have HWO := mhid (words_any _ G.mB G.gB m.mem QQ.out.mis.at'.mem 0 (Int.le_refl _) (by decide) ((m.mem.length / 4 : Nat) : Int) h63)
      generalize m.mem.length / 4 = n4 at *
      have HN4 := mhid (And.intro hmx (And.intro h4n hsm))
      clear hmx h4n h63 hml hsm
      have HSP := mhid hsp
      clear hsp
      go_wp2_with fail
      refine HWO.out.mono ?_
      rintro e w3 ⟨rv, l, rfl, hl, hrow, hb3⟩
      rw [HSP.out] at hl ⊢
      rw [if_pos rfl, Int.toNat_natCast, show (0 : Int).toNat = 0 from rfl] at hl
      subst hl
      have QQ3 := mhid (QQ.out.keep hb3)
      have QM3 := mhid QQ3.out.bytes
      have hll : (wordsS m.mem 0 n4).length = n4 := wordsS_len _ _ _
      have HRD := mhid (Reads32.of_own hrow)
      have HRO := mhid (show ∀ k, rv.ownBlock = some k → B < k from fun k hk => by
        have h1 := (own_range hrow k hk).1
        have h2 := QQ.out.q.lt
        omega)
      obtain ⟨-, pr, cr, rfl, -⟩ := Reads32.of_own hrow
      rw [hll] at HRD HRO ⊢
      clear hrow hb3 QQ hll HWO HSZ QQ3
      have HBY := mhid HOK.out.bytes
      have HNW := mhid (And.intro hnw2 (And.intro hnw32 (And.intro hcw hk)))
      have HN8 := mhid (show 4 * n4 ≤ 8192 ∧ m.mem.length = 4 * n4 from ⟨HN4.out.2.1 ▸ HN4.out.2.2, HN4.out.2.1⟩)
      have hq4 : n4 ≤ 2048 := Nat.le_of_mul_le_mul_left (show 4 * n4 ≤ 4 * 2048 from HN8.out.1) (by decide)
      clear hwim hsz hw4 hd4 hpb hnw2 hnw32 hcw hk HN4
      go_wp2_with fail
      go_loopw [11] (fun i wx => ∃ k : Nat, k ≤ n4 ∧ i = .int .i64 (k : Int) ∧ Hid (QM w0 w wx G M m B g0 f' (16 * m.f.nw) lv kk (bytesTo m.mem (4 * k))) ∧ Hid (Reads32 wx (.slice pr n4 cr) (wordsS m.mem 0 n4))) (fun i _ => n4 - (intOf i).toNat)
      case atStart => exact ⟨0, by omega, rfl, QM3, HRD⟩
      case round =>
        clear QM3 HRD
        obtain ⟨k, hkn, rfl, HQM, HRD⟩ := hrel
        have e1 : IntKind.i64.wrap ((k : Int) + 1) = ((k + 1 : Nat) : Int) := by rw [IntWalk.i64_in _ (by omega)]; omega
        by_cases hlt : k < n4
        · have h1 : (k : Int) < (n4 : Int) := by omega
          go_wp2_with fail
          go_loopw [12] (fun i wx => ∃ j : Nat, j ≤ 4 ∧ i = .int .i64 (j : Int) ∧ Hid (QM w0 w wx G M m B g0 f' (16 * m.f.nw) lv kk (bytesTo m.mem (4 * k + j))) ∧ Hid (Reads32 wx (.slice pr n4 cr) (wordsS m.mem 0 n4))) (fun i _ => 4 - (intOf i).toNat)
          case atStart => exact ⟨0, by omega, rfl, HQM, HRD⟩
          case round =>
            clear HQM HRD
            obtain ⟨j, hj4, rfl, HQM, HRD⟩ := hrel
            by_cases hjl : j < 4
            · have h2 : (j : Int) < 4 := by omega
              obtain ⟨b, o, p, c, e, -, q1, q2⟩ := HRD.out.shape
              rw [wordsS_len] at e q1 q2
              simp only [Value.slice.injEq] at e
              obtain ⟨rfl, -, rfl⟩ := e
              obtain rfl := q1 (by omega)
              have hc5 := q2 k hlt
              rw [wordsS_at _ _ _ _ hlt, Nat.zero_add] at hc5
              have HBT := mhid (byte_of HBY.out (4 * k) j hjl)
              have hwd := loadS_bd HBY.out (4 * k) 4
              obtain ⟨wd, hwde⟩ : ∃ wd : Nat, loadS m.mem (4 * k) 4 = (wd : Int) := ⟨_, (Int.toNat_of_nonneg hwd.1).symm⟩
              rw [hwde] at hc5 HBT
              have hwb : wd < 4294967296 := by omega
              clear hwd hwde q1 q2
              have HBT2 := mhid (show wd / 2 ^ (24 - 8 * j) % 256 = (m.mem.getD (4 * k + j) 0).toNat ∧ 0 ≤ m.mem.getD (4 * k + j) 0 ∧ m.mem.getD (4 * k + j) 0 < 256 from HBT.out)
              obtain ⟨vb, hvb⟩ : ∃ vb, vb = m.mem.getD (4 * k + j) 0 := ⟨_, rfl⟩
              rw [← hvb] at HBT2
              have HVB := mhid hvb
              have b2 := HQM.out.q.cell (k := 2) rfl
              have HLEN := mhid (show 4 * k + j < m.mem.length by have := HN8.out.2; omega)
              have hfree := HQM.out.mem.free (4 * k + j)
              have hold := HQM.out.mem.byte (i := 4 * k + j) (by rw [HQM.out.len]; exact HLEN.out)
              generalize (bytesTo m.mem (4 * k + j)).getD (4 * k + j) 0 = old at hold
              have e2 : IntKind.i64.wrap (4 * (k : Int)) = 4 * (k : Int) := IntWalk.i64_in _ (by omega)
              have e3 : IntKind.i64.wrap ((j : Int) + 1) = ((j + 1 : Nat) : Int) := by rw [IntWalk.i64_in _ (by omega)]; omega
              have E1 := mhid e1
              have E3 := mhid e3
              have HLT := mhid (And.intro hlt (And.intro hjl (And.intro h1 h2)))
              clear hvb HBT e1 e3
              have f3 : (0 : Int) ≤ (k : Int) := by omega
              have f4 : (k : Int) < (n4 : Int) := h1
              have hln : m.mem.length = 4 * n4 := HN8.out.2
              obtain ⟨len, hlen⟩ : ∃ len, len = m.mem.length := ⟨_, rfl⟩
              rw [← hlen] at b2 hln
              have HLN := mhid hlen
              clear hlen h1 h2 hlt
              rcases (show j = 0 ∨ j = 1 ∨ j = 2 ∨ j = 3 by omega) with rfl | rfl | rfl | rfl
              · clear hjl hj4
                have g2 : (0 : Int) ≤ 4 * (k : Int) := by omega
                have g3 : (4 * (k : Int)).toNat = 4 * k := by omega
                have g4 : 4 * (k : Int) < (len : Int) := by omega
                clear hln
                go_wp2_with fail
                go_still_tail 17, (by kernel_rfl)
                change wpList _ _ _ _ _ wr.drew
                have hbd : Below wr.heap.size wr wr.drew := (Below.refl _ _).drew
                have HQ2 := mhid (HQM.out.keep hbd)
                have HR2 := mhid (HRD.out.keepb hbd)
                clear HQM HRD hfree hold b2 hc5 hbd
                generalize wr.drew = w2 at HQ2 HR2 ⊢
                have hfree := HQ2.out.mem.free (4 * k)
                have hold := HQ2.out.mem.byte (i := 4 * k) (by rw [HQ2.out.len]; exact HLEN.out)
                generalize (bytesTo m.mem (4 * k + 0)).getD (4 * k) 0 = old2 at hold
                go_wp2_with fail
                have hx : ((wd : Int) / 16777216 % 256) = vb := by
                  have := HBT2.out
                  simp only [Nat.reduceMul, Nat.reduceSub, Nat.reducePow, Nat.sub_zero, Nat.mul_zero, Nat.div_one] at this
                  omega
                rw [hx]
                have hs := HQ2.out.set (i := 4 * k + 0) HLEN.out (x := vb) HBT2.out.2
                rw [show (bytesTo m.mem (4 * k + 0)).set (4 * k + 0) vb = bytesTo m.mem (4 * k + 0 + 1) from by rw [HVB.out]; exact bytesTo_set HLEN.out] at hs
                have hr := HR2.out.keepO ((Only.refl (fun q => q = g0) w2).setCell (p := ⟨g0, 4 * k + 0, none⟩) rfl (.int .u8 vb)) (fun q hq e => by have h1 := HRO.out q hq; have h2 := HQ2.out.lo.2; have e : q = g0 := e; omega)
                exact ⟨⟨1, by omega, rfl, mhid hs, mhid hr⟩, by simp [intOf]⟩
              · clear hjl hj4
                have g1 : IntKind.i64.wrap (4 * (k : Int) + 1) = 4 * (k : Int) + 1 := IntWalk.i64_in _ (by omega)
                have g2 : (0 : Int) ≤ 4 * (k : Int) + 1 := by omega
                have g3 : (4 * (k : Int) + 1).toNat = 4 * k + 1 := by omega
                have g4 : 4 * (k : Int) + 1 < (len : Int) := by omega
                clear hln
                go_wp2_with fail
                go_still_tail 17, (by kernel_rfl)
                change wpList _ _ _ _ _ wr.drew
                have hbd : Below wr.heap.size wr wr.drew := (Below.refl _ _).drew
                have HQ2 := mhid (HQM.out.keep hbd)
                have HR2 := mhid (HRD.out.keepb hbd)
                clear HQM HRD hfree hold b2 hc5 hbd
                generalize wr.drew = w2 at HQ2 HR2 ⊢
                have hfree := HQ2.out.mem.free (4 * k + 1)
                have hold := HQ2.out.mem.byte (i := 4 * k + 1) (by rw [HQ2.out.len]; exact HLEN.out)
                generalize (bytesTo m.mem (4 * k + 1)).getD (4 * k + 1) 0 = old2 at hold
                go_wp2_with fail
                have hx : ((wd : Int) / 65536 % 256) = vb := by
                  have := HBT2.out
                  simp only [Nat.reduceMul, Nat.reduceSub, Nat.reducePow, Nat.sub_zero, Nat.mul_zero, Nat.div_one] at this
                  omega
                rw [hx]
                have hs := HQ2.out.set (i := 4 * k + 1) HLEN.out (x := vb) HBT2.out.2
                rw [show (bytesTo m.mem (4 * k + 1)).set (4 * k + 1) vb = bytesTo m.mem (4 * k + 1 + 1) from by rw [HVB.out]; exact bytesTo_set HLEN.out] at hs
                have hr := HR2.out.keepO ((Only.refl (fun q => q = g0) w2).setCell (p := ⟨g0, 4 * k + 1, none⟩) rfl (.int .u8 vb)) (fun q hq e => by have h1 := HRO.out q hq; have h2 := HQ2.out.lo.2; have e : q = g0 := e; omega)
                exact ⟨⟨2, by omega, rfl, mhid hs, mhid hr⟩, by simp [intOf]⟩
              · clear hjl hj4
                have g1 : IntKind.i64.wrap (4 * (k : Int) + 2) = 4 * (k : Int) + 2 := IntWalk.i64_in _ (by omega)
                have g2 : (0 : Int) ≤ 4 * (k : Int) + 2 := by omega
                have g3 : (4 * (k : Int) + 2).toNat = 4 * k + 2 := by omega
                have g4 : 4 * (k : Int) + 2 < (len : Int) := by omega
                clear hln
                go_wp2_with fail
                go_still_tail 17, (by kernel_rfl)
                change wpList _ _ _ _ _ wr.drew
                have hbd : Below wr.heap.size wr wr.drew := (Below.refl _ _).drew
                have HQ2 := mhid (HQM.out.keep hbd)
                have HR2 := mhid (HRD.out.keepb hbd)
                clear HQM HRD hfree hold b2 hc5 hbd
                generalize wr.drew = w2 at HQ2 HR2 ⊢
                have hfree := HQ2.out.mem.free (4 * k + 2)
                have hold := HQ2.out.mem.byte (i := 4 * k + 2) (by rw [HQ2.out.len]; exact HLEN.out)
                generalize (bytesTo m.mem (4 * k + 2)).getD (4 * k + 2) 0 = old2 at hold
                go_wp2_with fail
                have hx : ((wd : Int) / 256 % 256) = vb := by
                  have := HBT2.out
                  simp only [Nat.reduceMul, Nat.reduceSub, Nat.reducePow, Nat.sub_zero, Nat.mul_zero, Nat.div_one] at this
                  omega
                rw [hx]
                have hs := HQ2.out.set (i := 4 * k + 2) HLEN.out (x := vb) HBT2.out.2
                rw [show (bytesTo m.mem (4 * k + 2)).set (4 * k + 2) vb = bytesTo m.mem (4 * k + 2 + 1) from by rw [HVB.out]; exact bytesTo_set HLEN.out] at hs
                have hr := HR2.out.keepO ((Only.refl (fun q => q = g0) w2).setCell (p := ⟨g0, 4 * k + 2, none⟩) rfl (.int .u8 vb)) (fun q hq e => by have h1 := HRO.out q hq; have h2 := HQ2.out.lo.2; have e : q = g0 := e; omega)
                exact ⟨⟨3, by omega, rfl, mhid hs, mhid hr⟩, by simp [intOf]⟩
              · clear hjl hj4
                have g1 : IntKind.i64.wrap (4 * (k : Int) + 3) = 4 * (k : Int) + 3 := IntWalk.i64_in _ (by omega)
                have g2 : (0 : Int) ≤ 4 * (k : Int) + 3 := by omega
                have g3 : (4 * (k : Int) + 3).toNat = 4 * k + 3 := by omega
                have g4 : 4 * (k : Int) + 3 < (len : Int) := by omega
                clear hln
                go_wp2_with fail
                go_still_tail 17, (by kernel_rfl)
                change wpList _ _ _ _ _ wr.drew
                have hbd : Below wr.heap.size wr wr.drew := (Below.refl _ _).drew
                have HQ2 := mhid (HQM.out.keep hbd)
                have HR2 := mhid (HRD.out.keepb hbd)
                clear HQM HRD hfree hold b2 hc5 hbd
                generalize wr.drew = w2 at HQ2 HR2 ⊢
                have hfree := HQ2.out.mem.free (4 * k + 3)
                have hold := HQ2.out.mem.byte (i := 4 * k + 3) (by rw [HQ2.out.len]; exact HLEN.out)
                generalize (bytesTo m.mem (4 * k + 3)).getD (4 * k + 3) 0 = old2 at hold
                go_wp2_with fail
                have hx : ((wd : Int) % 256) = vb := by
                  have := HBT2.out
                  simp only [Nat.reduceMul, Nat.reduceSub, Nat.reducePow, Nat.sub_zero, Nat.mul_zero, Nat.div_one] at this
                  omega
                rw [hx]
                have hs := HQ2.out.set (i := 4 * k + 3) HLEN.out (x := vb) HBT2.out.2
                rw [show (bytesTo m.mem (4 * k + 3)).set (4 * k + 3) vb = bytesTo m.mem (4 * k + 3 + 1) from by rw [HVB.out]; exact bytesTo_set HLEN.out] at hs
                have hr := HR2.out.keepO ((Only.refl (fun q => q = g0) w2).setCell (p := ⟨g0, 4 * k + 3, none⟩) rfl (.int .u8 vb)) (fun q hq e => by have h1 := HRO.out q hq; have h2 := HQ2.out.lo.2; have e : q = g0 := e; omega)
                exact ⟨⟨4, by omega, rfl, mhid hs, mhid hr⟩, by simp [intOf]⟩
            · obtain rfl : j = 4 := by omega
              have HE1 := mhid e1
              clear e1
              have hq := HQM.out
              rw [show 4 * k + 4 = 4 * (k + 1) by omega] at hq
              have HQ3 := mhid hq
              clear hq
              have e1 := HE1.out
              go_wp2_with fail
              exact ⟨⟨k + 1, by omega, by go_num, HQ3, HRD⟩, by simp [intOf] <;> omega⟩
        · obtain rfl : k = n4 := by omega
          obtain ⟨L, hlog, hlo, hLn⟩ := HQM.out.log
          obtain ⟨p2, c2, rfl⟩ := hlog.shape
          have HLO := mhid (And.intro hlog (And.intro hlo hLn))
          have hd : bytesTo m.mem (4 * k) = m.mem := by rw [← HN8.out.2]; exact bytesTo_all _
          rw [hd] at HQM
          have HRF := mhid HQM.out.mem
          have hBlt := HQM.out.q.lt
          have hlo2 := HQM.out.lo
          clear hlog hlo hLn hd e1
          have q0 := HQM.out.q.cell (k := 0) rfl
          have q1 := HQM.out.q.cell (k := 1) rfl
          have q2 := HQM.out.q.cell (k := 2) rfl
          have q3 := HQM.out.q.cell (k := 3) rfl
          have q4 := HQM.out.q.cell (k := 4) rfl
          have r0 := HQM.out.r.cell (k := 0) rfl
          have rf0 := HQM.out.r.frozen 0
          have r1 := HQM.out.r.cell (k := 1) rfl
          have rf1 := HQM.out.r.frozen 1
          have r2 := HQM.out.r.cell (k := 2) rfl
          have rf2 := HQM.out.r.frozen 2
          have r3 := HQM.out.r.cell (k := 3) rfl
          have rf3 := HQM.out.r.frozen 3
          have r4 := HQM.out.r.cell (k := 4) rfl
          have rf4 := HQM.out.r.frozen 4
          have hne : w.heap.size ≠ B := by omega
          go_wp2_with fail
          have hR9 := cp5_row HQM.out.r (.int .i64 m.f.nw) (.slice p2 L.length c2) (.slice (some ⟨g0, 0, none⟩) m.mem.length m.mem.length) (.int .i64 m.p.cwp) (.int .i64 kk)
          have ho9 : Only (fun k => k = w.heap.size) wr (cp5 wr w.heap.size (.int .i64 m.f.nw) (.slice p2 L.length c2) (.slice (some ⟨g0, 0, none⟩) m.mem.length m.mem.length) (.int .i64 m.p.cwp) (.int .i64 kk)) := cp5_only _ _ _ _ _ _ _ rfl
          change bodyPost _ _ _ _ _ (cp5 wr w.heap.size (.int .i64 m.f.nw) (.slice p2 L.length c2) (.slice (some ⟨g0, 0, none⟩) m.mem.length m.mem.length) (.int .i64 m.p.cwp) (.int .i64 kk))
          clear q0 q1 q2 q3 q4 r0 r1 r2 r3 r4 rf0 rf1 rf2 rf3 rf4
          generalize (cp5 wr w.heap.size (.int .i64 m.f.nw) (.slice p2 L.length c2) (.slice (some ⟨g0, 0, none⟩) m.mem.length m.mem.length) (.int .i64 m.p.cwp) (.int .i64 kk)) = W9 at *
          have s0 := hR9.cell (k := 0) rfl
          have s1 := hR9.cell (k := 1) rfl
          have s2 := hR9.cell (k := 2) rfl
          have s3 := hR9.cell (k := 3) rfl
          have s4 := hR9.cell (k := 4) rfl
          refine bodyPost_ret (by simp [results, Tryz.results39, go_sem, s0, s1, s2, s3, s4]; try rfl) rfl ?_
          have hnwf := FW.out.way.nw
          have hown5 := HQM.out.own
          have hbel := HQM.out.bel
          refine ⟨_, f', ?_, ⟨.slice p2 L.length c2, L, g0, m.mem.length, rfl, ⟨?_, HLO.out.2.1, ?_, FW.out.way.ok⟩, ?_⟩, FW.out.fin, ?_, ?_⟩
          · unfold W8.agg; simp only [hnwf]
          · exact HLO.out.1.only ho9 (fun k hk hS => by have := hown5 k hk; omega)
          · exact HRF.out.keep ho9 (fun hS => by omega)
          · have := HLO.out.2.2; have := HNW.out.2.1; omega
          · intro k hk
            rcases (own8_agg _ _ _ _ _).1 hk with h | rfl
            · have := hown5 k h; omega
            · omega
          · exact hbel.trans (ho9.below hbel.size (fun k hk hS => by omega))
end Go.Proofs.YtajholbcpmjhiaaGreatDoor
/- The walk of muntinlaw10.living. -/
namespace Go.Proofs.YtajholbcpmjhiaaGreatDoor
open Go.RowKit
theorem scnt_snoc (al : Nat → Nat) : ∀ f t, cntL al (f + 1) t = cntL al f t + al (t + f)
  | 0, t => by simp [cntL]
  | f + 1, t => by
    show al t + cntL al (f + 1) (t + 1) = al t + cntL al f (t + 1) + al (t + (f + 1))
    rw [scnt_snoc al f (t + 1), show t + 1 + f = t + (f + 1) by omega]; omega
theorem scnt_le (al : Nat → Nat) (h : ∀ t, al t ≤ 1) : ∀ f t, cntL al f t ≤ f
  | 0, t => by simp [cntL]
  | f + 1, t => by
    have := scnt_le al h f (t + 1)
    have := h t
    unfold cntL; omega
theorem alE_one (x : CaseS) (t : Nat) : alE (alN x) x.runs.toNat x.en t ≤ 1 := by
  unfold alE alN; split
  · omega
  · split <;> omega
set_option maxRecDepth 100000 in
set_option maxHeartbeats 4000000 in
theorem sliving_any (w : World) (x : CaseS) (vr vf : Value) (hm : mayS x) :
    Calls Tryz.prog 38 #[x.agg vr vf] w fun e w' => e = .returned (.int .i64 (liveS x : Int)) ∧ Below w.heap.size w w' := by
  obtain ⟨-, -, -, -, ⟨t1, t4⟩, ⟨r0, r1⟩, -⟩ := hm
  have HONE := mhid (alE_one x)
  obtain ⟨T, hT⟩ : ∃ T : Nat, x.threads = (T : Int) := ⟨x.threads.toNat, (Int.toNat_of_nonneg (by omega)).symm⟩
  obtain ⟨R, hR⟩ : ∃ R : Nat, x.runs = (R : Int) := ⟨x.runs.toNat, (Int.toNat_of_nonneg r0).symm⟩
  have hT4 : T ≤ 4 := by omega
  obtain ⟨W1, hW1⟩ : ∃ W1, W1 = w.alloc (.cells (x.cells vr vf).toArray 76) := ⟨_, rfl⟩
  have hb1 : Below w.heap.size w W1 := by rw [hW1]; exact (Below.refl _ _).alloc (Nat.le_refl _) _
  have hB : ARow W1 w.heap.size 76 (x.cells vr vf) := by rw [hW1]; exact ARow.fresh w _ _
  have HB1 := mhid hb1
  have HB := mhid hB
  unfold CaseS.cells at HB hW1
  rw [hT, hR] at HB hW1
  have HRES := mhid (show liveS x = cntL (alE (alN x) R x.en) T 0 by unfold liveS; rw [hT, hR, Int.toNat_natCast, Int.toNat_natCast])
  rw [show x.runs.toNat = R by omega] at HONE
  have c5 := HB.out.cell (k := 5) rfl
  have c6 := HB.out.cell (k := 6) rfl
  have c7 := HB.out.cell (k := 7) rfl
  have c8 := HB.out.cell (k := 8) rfl
  have c9 := HB.out.cell (k := 9) rfl
  have c10 := HB.out.cell (k := 10) rfl
  have c19 := HB.out.cell (k := 19) rfl
  rw [hW1] at c5 c6 c7 c8 c9 c10 c19
  go_enter Tryz.func38, Tryz.ntmps38
  unfold CaseS.agg
  rw [hT, hR]
  clear hT hR hb1 hB t1 t4 r0 r1
  go_wp2_with fail
  rw [← hW1]
  rw [← hW1] at c5 c6 c7 c8 c9 c10 c19
  clear hW1
  obtain ⟨ub, hub⟩ : ∃ ub, ub = x.en := ⟨_, rfl⟩
  obtain ⟨al, hal⟩ : ∃ al, al = x.alive := ⟨_, rfl⟩
  rw [← hub] at c19 HRES HONE
  rw [← hal] at c7 c8 c9 c10
  have HAL := mhid hal
  clear hal hub
  have HC := mhid c19
  go_loopw [3, 4] (fun n i wr => ∃ t : Nat, t ≤ T ∧ i = .int .i64 (t : Int) ∧ n = .int .i64 ((cntL (alE (alN x) R ub) t 0 : Nat) : Int) ∧ wr = W1) (fun _ i _ => T - (intOf i).toNat)
  case atStart => exact ⟨0, Nat.zero_le _, rfl, rfl, rfl⟩
  case round =>
    obtain ⟨t, ht, rfl, rfl, rfl⟩ := hrel
    by_cases hlt : t < T
    · have h1 : (t : Int) < (T : Int) := by omega
      have hca : wr.cell? ⟨w.heap.size, 7 + t, none⟩ = some (.bool (al t)) := by
        rcases (show t = 0 ∨ t = 1 ∨ t = 2 ∨ t = 3 by omega) with rfl | rfl | rfl | rfl
        · exact c7
        · exact c8
        · exact c9
        · exact c10
      have HS := mhid (scnt_snoc (alE (alN x) R ub) t 0)
      have HLE := mhid (scnt_le _ HONE.out t 0)
      have e1 : IntKind.i64.wrap ((t : Int) + 1) = ((t + 1 : Nat) : Int) := by rw [IntWalk.i64_in _ (by omega)]; omega
      have HA := mhid (show alE (alN x) R ub t = if ub = true ∧ t = R then 0 else (if al t = true then 1 else 0) by unfold alE alN; rw [HAL.out])
      generalize cntL (alE (alN x) R ub) t 0 = n at *
      have hn : IntKind.i64.wrap ((n : Int) + 1) = ((n + 1 : Nat) : Int) := by rw [IntWalk.i64_in _ (by have := HLE.out; omega)]; omega
      have h4 : t < 4 := by omega
      clear c7 c8 c9 c10
      obtain ⟨ua, hua⟩ : ∃ ua, ua = al t := ⟨_, rfl⟩
      rw [← hua] at hca HA
      clear hua
      have HT := mhid (And.intro hlt h4)
      clear hlt ht h4
      cases ub
      · cases ua
        · go_wp2_with fail
          exact ⟨⟨t + 1, by have := HT.out; omega, by go_num, (by rw [HS.out, Nat.zero_add, HA.out]; simp), by first | rfl | trivial⟩, by simp [intOf]; have := HT.out; omega⟩
        · go_wp2_with fail
          exact ⟨⟨t + 1, by have := HT.out; omega, by go_num, (by rw [HS.out, Nat.zero_add, HA.out]; simp), by first | rfl | trivial⟩, by simp [intOf]; have := HT.out; omega⟩
      · cases ua
        · go_wp2_with fail
          exact ⟨⟨t + 1, by have := HT.out; omega, by go_num, (by rw [HS.out, Nat.zero_add, HA.out]; simp), by first | rfl | trivial⟩, by simp [intOf]; have := HT.out; omega⟩
        · by_cases htr : t = R
          · have hE : ((t : Int) == (R : Int)) = true := by rw [htr]; simp
            have HTR := mhid htr
            clear htr
            go_wp2_with fail
            exact ⟨⟨t + 1, by have := HT.out; omega, by go_num, (by rw [HS.out, Nat.zero_add, HA.out, if_pos ⟨rfl, HTR.out⟩]; simp), by first | rfl | trivial⟩, by simp [intOf]; have := HT.out; omega⟩
          · have hE : ((t : Int) == (R : Int)) = false := by simp only [beq_eq_false_iff_ne, ne_eq]; omega
            have HTR := mhid htr
            clear htr
            go_wp2_with fail
            exact ⟨⟨t + 1, by have := HT.out; omega, by go_num, (by rw [HS.out, Nat.zero_add, HA.out, if_neg (fun h => HTR.out h.2)]; simp), by first | rfl | trivial⟩, by simp [intOf]; have := HT.out; omega⟩
    · obtain rfl : t = T := by omega
      clear c7 c8 c9 c10
      go_wp2_with fail
      first
        | go_ret2
        | go_ret
      exact ⟨congrArg (fun n : Nat => Ending.returned (.int .i64 (n : Int))) HRES.out.symm, HB1.out⟩
end Go.Proofs.YtajholbcpmjhiaaGreatDoor
/- The walks of the document's swap (muntinref10): word, block, lay. -/
namespace Go.Proofs.YtajholbcpmjhiaaGreatDoor
open Go.RowKit Go.Maps
def word10 (q : W8) (a : Int) : Int := loadV q.mem a 4
def lay10 (q : W8) (a x : Int) : W8 := { q with mem := storeV q.mem a 4 x }
theorem r10_block (W : World) (t : Nat) (ht : t < 1000) : Calls Tryz.prog 98 #[.int .u32 (t : Int)] W fun e w' => e = .returned (.int .u32 (64 + 16 * (t : Int))) ∧ W = w' := by
  have e1 : IntKind.u32.wrap (16 * (t : Int)) = 16 * (t : Int) := IntWalk.u32_in _ (by omega)
  have e2 : IntKind.u32.wrap (64 + 16 * (t : Int)) = 64 + 16 * (t : Int) := IntWalk.u32_in _ (by omega)
  go_enter Tryz.func98, Tryz.ntmps98
  go_wp2_with fail
  go_ret
  exact ⟨rfl, rfl⟩
set_option maxRecDepth 100000 in
set_option maxHeartbeats 4000000 in
theorem r10_word (W : World) (n : Nat) (v : Value) (q : W8) (hq : WAt W n v q) (a : Int) (ha : 0 ≤ a ∧ a < 4294967296) :
    Calls Tryz.prog 99 #[v, .int .u32 a] W fun e w' => e = .returned (.int .u32 (word10 q a)) ∧ Below W.heap.size W w' := by
  obtain ⟨lv, L, g, cap, rfl, hin, hL⟩ := hq
  obtain ⟨p, c, rfl⟩ := hin.log.shape
  obtain ⟨W1, hW1⟩ : ∃ x, x = W.alloc (.cells (q.cells (.slice p L.length c) g cap).toArray 58) := ⟨_, rfl⟩
  have hbw : Below W.heap.size W W1 := by rw [hW1]; exact (Below.refl _ _).alloc (Nat.le_refl _) _
  have hB : ARow W1 W.heap.size 58 (q.cells (.slice p L.length c) g cap) := by rw [hW1]; exact ARow.fresh W _ _
  have HLD := mhid (rload_any W1 0 g cap q.mem (refat_below hin.mem hbw) a 4 ha.1 ha.2)
  have HBW := mhid hbw
  have b2 := hB.cell (k := 2) rfl
  clear hbw hB hin
  go_enter Tryz.func99, Tryz.ntmps99
  unfold W8.cells at hW1
  unfold W8.agg
  rw [hW1] at b2
  go_wp2_with fail
  rw [← hW1]
  clear hW1 b2
  refine HLD.out.mono ?_
  rintro e w' ⟨rfl, rfl⟩
  go_wp2_with fail
  first
    | go_ret2
    | go_ret
  exact ⟨rfl, HBW.out⟩
set_option maxRecDepth 100000 in
set_option maxHeartbeats 4000000 in
theorem r10_lay (W : World) (n : Nat) (v : Value) (q : W8) (hq : WAt W n v q) (a x : Int) (ha : 0 ≤ a ∧ a < 4294967296) (hx : 0 ≤ x ∧ x < 4294967296) :
    Calls Tryz.prog 97 #[v, .int .u32 a, .int .u32 x] W fun e w' => ∃ v', e = .returned v' ∧ WAt w' n v' (lay10 q a x) ∧ Below W.heap.size W w' ∧ ∀ k, own8 v' k → own8 v k ∨ W.heap.size ≤ k := by
  obtain ⟨lv, L, g, cap, rfl, hin, hL⟩ := hq
  obtain ⟨p, c, rfl⟩ := hin.log.shape
  obtain ⟨W1, hW1⟩ : ∃ x, x = W.alloc (.cells (q.cells (.slice p L.length c) g cap).toArray 58) := ⟨_, rfl⟩
  have hbw : Below W.heap.size W W1 := by rw [hW1]; exact (Below.refl _ _).alloc (Nat.le_refl _) _
  have hB : ARow W1 W.heap.size 58 (q.cells (.slice p L.length c) g cap) := by rw [hW1]; exact ARow.fresh W _ _
  have hsz1 : W1.heap.size = W.heap.size + 1 := by rw [hW1]; simp
  have HIN := mhid (hin.keep hbw)
  have HB := mhid hB
  have HBW := mhid hbw
  have HG0 := mhid hin.mem.lt.2
  have HLO := mhid (fun k (hk : (Value.slice p L.length c).ownBlock = some k) => hin.log.own_lt hk)
  clear hbw hB hin
  go_enter Tryz.func97, Tryz.ntmps97
  unfold W8.cells at hW1 HB
  unfold W8.agg
  obtain ⟨W2, hW2⟩ : ∃ x, x = W1.alloc (.cells #[.int .i64 0, .slice none 0 0, .slice none 0 0, .int .i64 0, .int .i64 0] 58) := ⟨_, rfl⟩
  have hb2 : Below W1.heap.size W1 W2 := by rw [hW2]; exact (Below.refl _ _).alloc (Nat.le_refl _) _
  have hR : ARow W2 (W.heap.size + 1) 58 [.int .i64 0, .slice none 0 0, .slice none 0 0, .int .i64 0, .int .i64 0] := by rw [hW2, ← hsz1]; exact ARow.fresh W1 _ _
  have HB2 := mhid (HB.out.below hb2)
  have b2 := HB2.out.cell (k := 2) rfl
  have HIN2 := mhid (HIN.out.keep hb2)
  have HBW2 := mhid (HBW.out.trans (hb2.mono HBW.out.size))
  have HST := mhid (rstore_any W2 0 g cap q.mem HIN2.out.mem a 4 ha.1 ha.2 x hx.1 hx.2)
  have HRR := mhid hR
  have hlt2' := HRR.out.lt
  rw [hW2, hW1] at b2
  have HW := mhid (And.intro hW1 hW2)
  clear hR hb2 HB HIN HBW hW1 hW2 hsz1 hlt2'
  go_wp2_with fail
  rw [← HW.out.1, ← HW.out.2]
  refine HST.out.mono ?_
  rintro e wy ⟨g2, cap2, rfl, href, hby, hgg⟩
  have hsz2 : W.heap.size + 2 ≤ W2.heap.size := HRR.out.lt
  have HB := mhid (HB2.out.below hby)
  have HR := mhid (HRR.out.below hby)
  have HIN := mhid (HIN2.out.keep hby)
  have HBW := mhid (HBW2.out.trans (hby.mono HBW2.out.size))
  have HRF := mhid href
  have hlt2 := (href.lt).2
  have hgne : g2 = g ∨ W2.heap.size ≤ g2 := hgg
  have hglt : g < W.heap.size := HG0.out
  have hszy : W.heap.size + 2 ≤ wy.heap.size := Nat.le_trans hsz2 hby.size
  clear hby href hgg b2 HW HST HRR HB2 HIN2 HBW2
  have b0 := HB.out.cell (k := 0) rfl
  have b1 := HB.out.cell (k := 1) rfl
  have b3 := HB.out.cell (k := 3) rfl
  have b4 := HB.out.cell (k := 4) rfl
  have bf2 := HB.out.frozen 2
  have b2 := HB.out.cell (k := 2) rfl
  have r0 := HR.out.cell (k := 0) rfl
  have rf0 := HR.out.frozen 0
  have r1 := HR.out.cell (k := 1) rfl
  have rf1 := HR.out.frozen 1
  have r2 := HR.out.cell (k := 2) rfl
  have rf2 := HR.out.frozen 2
  have r3 := HR.out.cell (k := 3) rfl
  have rf3 := HR.out.frozen 3
  have r4 := HR.out.cell (k := 4) rfl
  have rf4 := HR.out.frozen 4
  go_wp2_with fail
  have hR9 := cp5_row (HR.out.other (a := ⟨W.heap.size, 2, none⟩) (by simp) (.slice (some ⟨g2, 0, none⟩) q.mem.length cap2)) (.int .i64 q.f.nw) (.slice p L.length c) (.slice (some ⟨g2, 0, none⟩) q.mem.length cap2) (.int .i64 q.cwp) (.int .i64 q.inv)
  have ho9 : Only (fun k => k = W.heap.size ∨ k = W.heap.size + 1) wy (cp5 (wy.setCell ⟨W.heap.size, 2, none⟩ (.slice (some ⟨g2, 0, none⟩) q.mem.length cap2)) (W.heap.size + 1) (.int .i64 q.f.nw) (.slice p L.length c) (.slice (some ⟨g2, 0, none⟩) q.mem.length cap2) (.int .i64 q.cwp) (.int .i64 q.inv)) :=
    ((Only.refl (fun k => k = W.heap.size ∨ k = W.heap.size + 1) wy).setCell (p := ⟨W.heap.size, 2, none⟩) (.inl rfl) _).trans (cp5_only _ _ _ _ _ _ _ (.inr rfl))
  change bodyPost _ _ _ _ _ (cp5 (wy.setCell ⟨W.heap.size, 2, none⟩ (.slice (some ⟨g2, 0, none⟩) q.mem.length cap2)) (W.heap.size + 1) (.int .i64 q.f.nw) (.slice p L.length c) (.slice (some ⟨g2, 0, none⟩) q.mem.length cap2) (.int .i64 q.cwp) (.int .i64 q.inv))
  clear b0 b1 b2 b3 b4 bf2 r0 r1 r2 r3 r4 rf0 rf1 rf2 rf3 rf4
  generalize (cp5 (wy.setCell ⟨W.heap.size, 2, none⟩ (.slice (some ⟨g2, 0, none⟩) q.mem.length cap2)) (W.heap.size + 1) (.int .i64 q.f.nw) (.slice p L.length c) (.slice (some ⟨g2, 0, none⟩) q.mem.length cap2) (.int .i64 q.cwp) (.int .i64 q.inv)) = W9 at *
  have s0 := hR9.cell (k := 0) rfl
  have s1 := hR9.cell (k := 1) rfl
  have s2 := hR9.cell (k := 2) rfl
  have s3 := hR9.cell (k := 3) rfl
  have s4 := hR9.cell (k := 4) rfl
  refine bodyPost_ret (by simp [results, Tryz.results97, go_sem, s0, s1, s2, s3, s4]; try rfl) rfl ?_
  have hmem : (lay10 q a x).mem.length = q.mem.length := storeV_len _ _ _ _
  refine ⟨(lay10 q a x).agg (.slice p L.length c) g2 cap2, ?_, ⟨.slice p L.length c, L, g2, cap2, rfl, ⟨?_, HIN.out.says, ?_, HIN.out.ok⟩, hL⟩, ?_, ?_⟩
  · rw [show (lay10 q a x).agg (.slice p L.length c) g2 cap2 = .agg #[.int .i64 q.f.nw, .slice p L.length c, .slice (some ⟨g2, 0, none⟩) q.mem.length cap2, .int .i64 q.cwp, .int .i64 q.inv] from by unfold W8.agg; rw [hmem]; rfl]
  · exact HIN.out.log.only ho9 (fun k hk hS => by have := HLO.out k hk; omega)
  · have h := HRF.out
    exact h.keep ho9 (by omega)
  · exact HBW.out.trans (ho9.below HBW.out.size (fun k hk hS => by omega))
  · intro k hk
    rcases (own8_agg _ _ _ _ _).1 hk with h | rfl
    · exact .inl ((own8_agg q _ _ _ _).2 (.inl h))
    · rcases hgne with rfl | h
      · exact .inl ((own8_agg q _ _ _ _).2 (.inr rfl))
      · exact .inr (by omega)
end Go.Proofs.YtajholbcpmjhiaaGreatDoor
