/- Several texts in one: WindWorld, WindGo, WindNo. -/
import Derived.Test.YtajholbcpmjhiaaGreatDoorH01
import Derived.Test.YtajholbcpmjhiaaGreatDoorH02
import Derived.Test.YtajholbcpmjhiaaGreatDoorH03
import Derived.Test.YtajholbcpmjhiaaGreatDoorH04
import Derived.Test.YtajholbcpmjhiaaGreatDoorH05
import Derived.Test.YtajholbcpmjhiaaGreatDoorH06
import Derived.Test.YtajholbcpmjhiaaGreatDoorH07
import Derived.Test.YtajholbcpmjhiaaGreatDoorH08
import Derived.Test.YtajholbcpmjhiaaGreatDoorH09
import Derived.Test.YtajholbcpmjhiaaGreatDoorH10
import Derived.Test.YtajholbcpmjhiaaGreatDoorH11
import Derived.Test.YtajholbcpmjhiaaGreatDoorH12
import Derived.Test.YtajholbcpmjhiaaGreatDoorH13
import Derived.Test.YtajholbcpmjhiaaGreatDoorH15
import Derived.Test.YtajholbcpmjhiaaGreatDoorH16
import Derived.Test.YtajholbcpmjhiaaGreatDoorH17
import Derived.Test.YtajholbcpmjhiaaGreatDoorH18
import Derived.Test.YtajholbcpmjhiaaGreatDoorH19
import Derived.Test.YtajholbcpmjhiaaGreatDoorH20
import Derived.Test.YtajholbcpmjhiaaGreatDoorH21
import Derived.Test.YtajholbcpmjhiaaGreatDoorH22
import Derived.Test.YtajholbcpmjhiaaGreatDoorH23
import Derived.Test.YtajholbcpmjhiaaGreatDoorH24
import Derived.Test.YtajholbcpmjhiaaGreatDoorH25
import Derived.Test.YtajholbcpmjhiaaGreatDoorH26
import Derived.Test.YtajholbcpmjhiaaGreatDoorH27
import Derived.Test.YtajholbcpmjhiaaGreatDoorH28
import Derived.Test.YtajholbcpmjhiaaGreatDoorH29
import Derived.Test.YtajholbcpmjhiaaGreatDoorH30
import Derived.Test.YtajholbcpmjhiaaGreatDoorH31
import Derived.Test.YtajholbcpmjhiaaGreatDoorH33
import Derived.Test.YtajholbcpmjhiaaGreatDoorH36
import Derived.Test.YtajholbcpmjhiaaGreatDoorH37
import Derived.Test.YtajholbcpmjhiaaGreatDoorH38
import Derived.Test.YtajholbcpmjhiaaGreatDoorH39
import Derived.Test.YtajholbcpmjhiaaGreatDoorH40
import Derived.Test.YtajholbcpmjhiaaGreatDoorH41
import Derived.Test.YtajholbcpmjhiaaGreatDoorH42
import Derived.Test.YtajholbcpmjhiaaGreatDoorH14
import Derived.Test.YtajholbcpmjhiaaGreatDoorH32
import Derived.Test.YtajholbcpmjhiaaGreatDoorH34
import Derived.Test.YtajholbcpmjhiaaGreatDoorH35
import Derived.WalkKit
import Derived.Laws.AppendOwn
import Derived.Below
import Derived.Deep.QuietTactic
import Derived.BigQuiet
import Derived.WalkSpells
import Derived.Test.YtajholbcpmjhiaaGreatDoorProg
import Derived.Handy
import Derived.WalkLawsBesides
import Derived.RegionTactic
import Derived.Outline
import Derived.Lib.BitFns
import Derived.Laws.Rows
import Derived.Laws.AppendOwnNone
import Derived.Deep.RegionHeld3
import Derived.Deep.AppendLies
import Derived.IntWalk
import Derived.Laws.CopyOwn
import Derived.Great.Ranges
import Derived.StillTailTactics
import Derived.BigRegion
import Derived.ChangeAlike
import Derived.Maps.OwnSet
import Derived.Maps.Views
import Derived.WalkArith
import Derived.OneCell
import Derived.ArgAppend
import Derived.Lib.SliceRun
import Derived.Deep.RegionLaw
import Derived.ProofKit
import Derived.OpenShut
import Derived.RangeFuncNested
import Derived.RangeFuncBound
import Derived.RangeFuncCalls
import Derived.RangeFuncLeaves
import Derived.Shelf.Abstract
import Derived.Shelf.RegionOpen
import Derived.OwnWalkIn
import Derived.TacticsInMore
import Derived.LoopNIn
import Derived.LoopIn
import Derived.RegionIn
import Derived.Deep.RegionHeld
import Derived.Deep.Cut
import Derived.Laws.EntriesVeiled
import Derived.Deep.OwnRows
import Derived.Shelf.SlMaps.Clone
import Derived.BigGuardPart
import Derived.Lib.ParseIntB
import Derived.Lib.ItoaNum
import Derived.Shelf.Strings.Cut
import Derived.Shelf.Small.Wraps
import Derived.Shelf.Pu.ParseUintPublic10
import Derived.Shelf.Strconv.Itoa3
import Derived.WalkSmall
import Derived.Lib.IndexMore
import Derived.Maps.AppendAt
import Derived.Deep.Slices
import Derived.Deep.CutRange
/- The walk of muntinlaw08.world. -/
namespace Go.Proofs.YtajholbcpmjhiaaGreatDoor
open Go.RowKit Go.Maps
set_option linter.unusedVariables false
set_option linter.unusedSimpArgs false
theorem wfield_psr0 (a b c d : Value) (w : World) : (Instr.field 47 (.agg #[a, b, c, d]) 0).run Tryz.prog w = .ok a w := by kernel_rfl
theorem infobyte : (Tryz.prog.info? 5).map (fun i => (i.zero, i.size, i.bytes)) = some (some (.int .u8 0), 1, 1) := by kernel_rfl
theorem refat_made (w : World) (n : Nat) (hn : n ≤ 4194304) : RefAt (w.alloc (.cells (madeCells #[.int .u8 0] n) 5)) 0 w.heap.size n (List.replicate n 0) := by
  have hr : (madeCells #[.int .u8 0] n).toList = u8s (List.replicate n 0) := by
    unfold u8s; rw [List.map_replicate]; exact toList_madeCells_one _ n
  have hsz : (madeCells #[.int .u8 0] n).size = n := by have := congrArg List.length hr; simpa [u8s] using this
  have h := RefAt.mk' (w := w.alloc (.cells (madeCells #[.int .u8 0] n) 5)) (B := 0) (g := w.heap.size) (cap := n) (d := List.replicate n 0) (cur := madeCells #[.int .u8 0] n) (Bytes.zeros n) (by simpa using hn) (Nat.zero_le _) (heap_alloc_new w _) (by simp) (by unfold maxLen; omega) hsz (by rw [hr]; simp [u8s])
  simpa using h
/-- The world under way: q lies in block B, what is to be answered in the first new one. -/
structure QW (w0 w wr : World) (G : MG) (M : Nat) (m : Mx) (B g0 : Nat) (f' : Fx) (N : Nat) (lv : Value) (inv : Int) : Prop where
  q : ARow wr B 58 [.int .i64 m.f.nw, lv, .slice (some ⟨g0, 0, none⟩) m.mem.length m.mem.length, .int .i64 m.p.cwp, .int .i64 inv]
  r : ARow wr w.heap.size 58 [.int .i64 0, .slice none 0 0, .slice none 0 0, .int .i64 0, .int .i64 0]
  log : ∃ L, LogIn wr lv L ∧ LogOf L f' ∧ L.length ≤ N
  own : ∀ k, lv.ownBlock = some k → B < k
  mem : RefAt wr 0 g0 m.mem.length (List.replicate m.mem.length 0)
  mis : MIs w0 wr G M m
  bel : Below w.heap.size w wr
  lo : w.heap.size < g0 ∧ g0 < B ∧ w0.heap.size ≤ w.heap.size
  mlt : ∀ k, G.R k ≠ .none → k < w.heap.size
section
variable {w0 w wr w' : World} {G : MG} {M : Nat} {m : Mx} {B g0 : Nat} {f' : Fx} {N : Nat} {lv : Value} {inv : Int}
theorem QW.keep (h : QW w0 w wr G M m B g0 f' N lv inv) (hb : Below wr.heap.size wr w') : QW w0 w w' G M m B g0 f' N lv inv := by
  obtain ⟨h1, h2, ⟨L, h3, h4⟩, h5, h6, h7, h8, h9, h10⟩ := h
  exact ⟨h1.below hb, h2.below hb, ⟨L, h3.keep hb, h4⟩, h5, refat_below h6 hb, h7.keepb hb, h8.trans (hb.mono h8.size), h9, h10⟩
/-- Only q's own cells change. -/
theorem QW.only (h : QW w0 w wr G M m B g0 f' N lv inv) (o : Only (fun k => k = B) wr w') : ARow w' w.heap.size 58 [.int .i64 0, .slice none 0 0, .slice none 0 0, .int .i64 0, .int .i64 0] ∧ RefAt w' 0 g0 m.mem.length (List.replicate m.mem.length 0) ∧ MIs w0 w' G M m ∧ Below w.heap.size w w' := by
  have hl := h.lo
  refine ⟨h.r.of_block (o.block _ h.r.lt (by omega)), h.mem.keep o (by omega), ⟨h.mis.at'.keep o (fun k hk e => ?_), h.mis.lo, ?_⟩, ?_⟩
  · have := h.mlt k hk
    have e : k = B := e
    omega
  · exact h.mis.bel.trans (o.below h.mis.bel.size (fun k hk hS => by have hS : k = B := hS; omega))
  · exact h.bel.trans (o.below h.bel.size (fun k hk hS => by have hS : k = B := hS; omega))
/-- Its file is set. -/
theorem QW.file (h : QW w0 w wr G M m B g0 f' N lv inv) {lv' : Value} {L : List Sd} {f2 : Fx} {N' : Nat} (hl : LogIn wr lv' L) (hs : LogOf L f2) (hn : L.length ≤ N') (ho : ∀ k, lv'.ownBlock = some k → B < k) :
    QW w0 w ((wr.setCell ⟨B, 0, none⟩ (.int .i64 m.f.nw)).setCell ⟨B, 1, none⟩ lv') G M m B g0 f2 N' lv' inv := by
  have o : Only (fun k => k = B) wr ((wr.setCell ⟨B, 0, none⟩ (.int .i64 m.f.nw)).setCell ⟨B, 1, none⟩ lv') := ((Only.refl (fun k => k = B) wr).setCell (p := ⟨B, 0, none⟩) rfl _).setCell (p := ⟨B, 1, none⟩) rfl _
  obtain ⟨h1, h2, h3, h4⟩ := h.only o
  exact ⟨(h.q.set 0 (.int .i64 m.f.nw)).set 1 lv', h1, ⟨L, hl.only o (fun k hk e => by have := ho k hk; have e : k = B := e; omega), hs, hn⟩, ho, h2, h3, h4, h.lo, h.mlt⟩
theorem QW.invalid (h : QW w0 w wr G M m B g0 f' N lv inv) (x : Int) : QW w0 w (wr.setCell ⟨B, 4, none⟩ (.int .i64 x)) G M m B g0 f' N lv x := by
  have o : Only (fun k => k = B) wr (wr.setCell ⟨B, 4, none⟩ (.int .i64 x)) := (Only.refl (fun k => k = B) wr).setCell (p := ⟨B, 4, none⟩) rfl _
  obtain ⟨h1, h2, h3, h4⟩ := h.only o
  obtain ⟨L, hl, hs, hn⟩ := h.log
  exact ⟨h.q.set 4 (.int .i64 x), h1, ⟨L, hl.only o (fun k hk e => by have := h.own k hk; have e : k = B := e; omega), hs, hn⟩, h.own, h2, h3, h4, h.lo, h.mlt⟩
end
theorem quarter {len n4 : Nat} (h : len ≤ 8192) (hd : len % 4 = 0) (hn : len / 4 = n4) : wrap64 (n4 : Int) = (n4 : Int) ∧ spanE len 0 (n4 : Int) 4 = 0 ∧ n4 ≤ maxLen ∧ len = 4 * n4 ∧ (n4 : Int) ≤ 9223372036854775807 := by
  have h1 : n4 ≤ 2048 := by omega
  refine ⟨IntWalk.wrap64_in _ (by omega), ?_, Nat.le_trans h1 (by decide), by omega, by omega⟩
  unfold spanE; rw [if_neg (by omega), if_neg (by omega), if_neg (by omega)]
set_option maxRecDepth 100000 in
set_option maxHeartbeats 4000000 in
theorem wworld_any (w0 w : World) (G : MG) (M : Nat) (m : Mx) (h : MIs w0 w G M m) (kk : Nat) (hk : kk < m.f.nw) (hwim : m.wim = 2 ^ kk) (hsz : m.mem.length % 4 = 0) (hsm : m.mem.length ≤ 8192) :
    Calls Tryz.prog 23 #[.pointer (some ⟨M, 0, none⟩), .int .i64 m.f.nw] w fun e w' => ∃ v f', e = .returned v ∧ WAt w' 700 v ⟨f', m.mem, m.p.cwp, kk⟩ ∧ FLike f' m.f ∧ (∀ k, own8 v k → w.heap.size ≤ k) ∧ Below w.heap.size w w' := by
  have HM := mhid h
  have hok := h.at'.ok
  have hpb := hok.pb
  have hcw := hok.cwp
  have hnw2 := hok.f.nw2
  have hnw32 := hok.f.nw32
  have hml : m.mem.length ≤ 4194304 := hok.mlen
  have HOK := mhid hok
  clear h hok
  go_enter Tryz.func23, Tryz.ntmps23
  go_wp2_with fail
  obtain ⟨W1, hW1⟩ : ∃ x, x = w.alloc (.cells #[.int .i64 0, .slice none 0 0, .slice none 0 0, .int .i64 0, .int .i64 0] 58) := ⟨_, rfl⟩
  have hb1 : Below w.heap.size w W1 := by rw [hW1]; exact (Below.refl _ _).alloc (Nat.le_refl _) _
  have hQ : ARow W1 w.heap.size 58 [.int .i64 0, .slice none 0 0, .slice none 0 0, .int .i64 0, .int .i64 0] := by rw [hW1]; exact ARow.fresh w _ _
  rw [← hW1]
  clear hW1
  have HM1 := mhid (HM.out.keepb hb1)
  have HB1 := mhid hb1
  have HQ1 := mhid hQ
  clear hb1 hQ
  have hps := mpsr_any W1 G M m HM1.out.at'
  rw [show m.p.agg = .agg #[.int .u8 m.p.cwp, .int .u8 m.p.pil, .int .u8 m.p.bank, .int .u8 m.p.flags] from rfl] at hps
  refine hps.mono ?_
  rintro e W2 ⟨rfl, hb2⟩
  have HM2 := mhid (HM1.out.keepb hb2)
  have HB2 := mhid (HB1.out.trans (hb2.mono HB1.out.size))
  have HQ2 := mhid (HQ1.out.below hb2)
  clear hps hb2 HM1 HB1 HQ1
  have fp0 := wfield_psr0
  have e1 : IntKind.i64.wrap m.p.cwp = m.p.cwp := IntWalk.i64_in _ (by have := hcw.2; unfold Mx.nw at this; omega)
  go_wp2_with fail
  refine (mmem_any W2 G M m HM2.out.at').mono ?_
  rintro e w' ⟨rfl, rfl⟩
  have HSZ := mhid (size_any W2 G.mB G.gB m.mem HM2.out.at'.mem)
  go_wp2_with fail
  refine HSZ.out.mono ?_
  rintro e w' ⟨rfl, rfl⟩
  have mk := fun (W : World) => run_make_row' (P := Tryz.prog) 56 5 (.int .u8 0) 1 Tryz.underlying56 infobyte rfl .i64 .i64 m.mem.length (by omega) (by omega) W
  have q0 := HQ2.out.cell (k := 0) rfl
  have q1 := HQ2.out.cell (k := 1) rfl
  have q2 := HQ2.out.cell (k := 2) rfl
  have q3 := HQ2.out.cell (k := 3) rfl
  have q4 := HQ2.out.cell (k := 4) rfl
  have qf0 := HQ2.out.frozen 0
  have qf1 := HQ2.out.frozen 1
  have qf2 := HQ2.out.frozen 2
  have qf3 := HQ2.out.frozen 3
  have qf4 := HQ2.out.frozen 4
  go_wp2_with fail
  obtain ⟨W3, hW3⟩ : ∃ x, x = (W2.alloc (.cells (madeCells #[.int .u8 0] m.mem.length) 5)).alloc (.cells #[.int .i64 0, .slice none 0 0, .slice (some ⟨W2.heap.size, 0, none⟩) m.mem.length m.mem.length, .int .i64 m.p.cwp, .int .i64 0] 58) := ⟨_, rfl⟩
  have hb3 : Below W2.heap.size W2 W3 := by rw [hW3]; exact ((Below.refl _ _).alloc (Nat.le_refl _) _).alloc (by simp) _
  have hQ3 : ARow W3 (W2.heap.size + 1) 58 [.int .i64 0, .slice none 0 0, .slice (some ⟨W2.heap.size, 0, none⟩) m.mem.length m.mem.length, .int .i64 m.p.cwp, .int .i64 0] := by
    rw [hW3]
    have := ARow.fresh (W2.alloc (.cells (madeCells #[.int .u8 0] m.mem.length) 5)) 58 #[.int .i64 0, .slice none 0 0, .slice (some ⟨W2.heap.size, 0, none⟩) m.mem.length m.mem.length, .int .i64 m.p.cwp, .int .i64 0]
    rw [World.size_alloc] at this; exact this
  have hR3 : RefAt W3 0 W2.heap.size m.mem.length (List.replicate m.mem.length 0) := by
    rw [hW3]; exact refat_below (refat_made W2 _ hml) ((Below.refl _ _).alloc (Nat.le_refl _) _)
  rw [← hW3]
  have HQ := mhid (show ∀ wx, Below W3.heap.size W3 wx → QW w0 w ((wx.setCell ⟨W2.heap.size + 1, 0, none⟩ (.int .i64 m.f.nw)).setCell ⟨W2.heap.size + 1, 1, none⟩ (.slice none 0 0)) G M m (W2.heap.size + 1) W2.heap.size (Fx.new m.f.nw) 0 (.slice none 0 0) 0 from fun wx hbx => by
    have hq : ARow wx (W2.heap.size + 1) 58 _ := hQ3.below hbx
    have hlt := HQ2.out.lt
    have ho : Only (fun k => k = W2.heap.size + 1) wx ((wx.setCell ⟨W2.heap.size + 1, 0, none⟩ (.int .i64 m.f.nw)).setCell ⟨W2.heap.size + 1, 1, none⟩ (.slice none 0 0)) := ((Only.refl (fun k => k = W2.heap.size + 1) wx).setCell (p := ⟨W2.heap.size + 1, 0, none⟩) rfl _).setCell (p := ⟨W2.heap.size + 1, 1, none⟩) rfl _
    have hm3 := (HM2.out.keepb hb3).keepb hbx
    have hbw := (HB2.out.trans (hb3.mono HB2.out.size))
    have hbw := hbw.trans (hbx.mono hbw.size)
    have hmlt : ∀ k, G.R k ≠ .none → k < w.heap.size := fun k hk => HM.out.at'.lt k hk
    refine ⟨(hq.set 0 (.int .i64 m.f.nw)).set 1 (.slice none 0 0), (((HQ2.out.below hb3).below hbx).of_block (ho.block _ ((HQ2.out.below hb3).below hbx).lt (by omega))), ⟨[], .inl ⟨rfl, rfl⟩, LogOf.new _, Nat.le_refl _⟩, fun k hk => (by cases hk), (refat_below hR3 hbx).keep ho (by omega), ⟨hm3.at'.keep ho (fun k hk e => by have := hmlt k hk; have e : k = W2.heap.size + 1 := e; omega), hm3.lo, ?_⟩, ?_, ⟨by omega, by omega, HM.out.bel.size⟩, hmlt⟩
    · exact hm3.bel.trans (ho.below hm3.bel.size (fun k hk hS => by have := HM.out.bel.size; have hS : k = W2.heap.size + 1 := hS; omega))
    · exact hbw.trans (ho.below hbw.size (fun k hk hS => by have hS : k = W2.heap.size + 1 := hS; omega)))
  have HQB := mhid (fun wx (hbx : Below W3.heap.size W3 wx) => (show ARow wx (W2.heap.size + 1) 58 _ from hQ3.below hbx))
  obtain ⟨B, hB⟩ : ∃ B, B = W2.heap.size + 1 := ⟨_, rfl⟩
  rw [← hB] at HQ HQB ⊢
  clear hW3 hb3 hQ3 hR3 q0 q1 q2 q3 q4 qf0 qf1 qf2 qf3 qf4 mk HSZ HQ2 e1
  generalize W2.heap.size = g0 at *
  clear hB
  refine (rf_new_ok m.f.nw hnw2 hnw32 W3).mono ?_
  rintro e W4 ⟨rfl, hb4⟩
  have HQ4 := mhid (HQ.out W4 hb4)
  have q0 := (HQB.out W4 hb4).cell (k := 0) rfl
  have q1 := (HQB.out W4 hb4).cell (k := 1) rfl
  have qf0 := (HQB.out W4 hb4).frozen 0
  have qf1 := (HQB.out W4 hb4).frozen 1
  clear hb4 HQ HQB
  go_wp2_with fail
  have HQ4b := HQ4
  clear q0 q1 qf0 qf1 HM2 HB2
  generalize (W4.setCell ⟨B, 0, none⟩ (.int .i64 m.f.nw)).setCell ⟨B, 1, none⟩ (.slice none 0 0) = W5 at *
  go_loopw [6] (fun i wr => ∃ (k : Nat) (f' : Fx) (lv : Value), k ≤ m.f.nw ∧ i = .int .i64 (k : Int) ∧ Hid (QW w0 w wr G M m B g0 f' (16 * k) lv (if kk < k then kk else 0)) ∧ Hid (FWay f' m.f k 0 0)) (fun i _ => m.f.nw - (intOf i).toNat)
  case atStart => exact ⟨0, _, _, by omega, rfl, (by rw [if_neg (by omega)]; exact HQ4), mhid (FWay.new HOK.out.f)⟩
  case round =>
    obtain ⟨k, f', lv, hkn, rfl, QQ, FW⟩ := hrel
    clear HQ4 HQ4b
    by_cases hlt : k < m.f.nw
    · have h1 : (k : Int) < (m.f.nw : Int) := by omega
      go_wp2_with fail
      refine (mfile_any _ G M m QQ.out.mis.at').mono ?_
      rintro e w' ⟨rfl, rfl⟩
      have HWIN := mhid (mw_win w0 _ G M m QQ.out.mis k)
      go_wp2_with fail
      refine HWIN.out.mono ?_
      rintro e w3 ⟨rv, rfl, hrow, hb3⟩
      have hre : regE m.f k 0 0 = 0 := if_pos ⟨⟨by omega, by omega⟩, by omega, by omega, by omega⟩
      rw [hre]
      rw [winV_nat hlt] at hrow
      have hl16 := winR_len HOK.out.f hlt
      have QQ3 := mhid (QQ.out.keep hb3)
      obtain ⟨L, hlog, hlo, hLn⟩ := QQ3.out.log
      have HRW := mhid hrow.1
      have hww : Words (winR m.f k) := fun x hx => by unfold winR at hx; exact HOK.out.f.ww x (List.mem_of_mem_drop (List.mem_of_mem_take hx))
      have HPU := mhid (rf_put w3 f' FW.out.ok lv L hlog (by omega) hlo k rv (winR m.f k) HRW.out hww ⟨by omega, by rw [FW.out.nw]; omega⟩ hl16)
      have hfn := FW.out.nw
      rw [hfn] at HPU
      obtain ⟨p1, c1, rfl⟩ := hlog.shape
      obtain ⟨-, pr, cr, rfl, -⟩ := HRW.out
      have q0 := QQ3.out.q.cell (k := 0) rfl
      have q1 := QQ3.out.q.cell (k := 1) rfl
      have qf0 := QQ3.out.q.frozen 0
      have qf1 := QQ3.out.q.frozen 1
      have HLL := mhid (And.intro hlog (And.intro hlo hLn))
      clear hrow hre hb3 hlog hlo hLn QQ HWIN hww
      go_wp2_with fail
      rw [hl16] at HPU
      refine HPU.out.mono ?_
      rintro e w5 ⟨lv2, L2, rfl, hq2, hlog2, hlen2, hb5, hown5⟩
      have hfl : f'.nw = m.f.nw := hfn
      rw [hfl]
      have QQ5 := mhid (QQ3.out.keep hb5)
      have hown : ∀ j, lv2.ownBlock = some j → B < j := fun j hj => by
        rcases hown5 j hj with h | h
        · exact QQ3.out.own j h
        · have := QQ3.out.q.lt; omega
      have HLN := mhid (show L2.length ≤ 16 * (k + 1) from by have := HLL.out.2.2; omega)
      obtain ⟨p2, c2, rfl⟩ := hq2.shape
      have HF := mhid (And.intro hq2 (And.intro hlog2 hown))
      have HFW := mhid (FW.out.window HOK.out.f hlt)
      clear hb5 hq2 hlog2 hown hown5 hlen2 q0 q1 qf0 qf1 hfn hfl HPU FW
      have q0 := QQ5.out.q.cell (k := 0) rfl
      have q1 := QQ5.out.q.cell (k := 1) rfl
      have q4 := QQ5.out.q.cell (k := 4) rfl
      have qf0 := QQ5.out.q.frozen 0
      have qf1 := QQ5.out.q.frozen 1
      go_wp2_with fail
      have QQ6 := mhid (QQ5.out.file HF.out.1 HF.out.2.1 HLN.out HF.out.2.2)
      clear q0 q1 q4 qf0 qf1 QQ5 QQ3
      generalize (w5.setCell ⟨B, 0, none⟩ (.int .i64 m.f.nw)).setCell ⟨B, 1, none⟩ (.slice p2 L2.length c2) = w6 at *
      refine (mwim_any w6 G M m QQ6.out.mis.at').mono ?_
      rintro e w' ⟨rfl, rfl⟩
      rw [hwim]
      have qf4 := QQ6.out.q.frozen 4
      have q4 := QQ6.out.q.cell (k := 4) rfl
      have hk32 : k < 32 := by omega
      have hkk32 : kk < 32 := by omega
      by_cases hkk : kk = k
      · have hE : ((2 : Int) ^ kk == 2 ^ k % 4294967296) = true := by rw [hkk, Int.emod_eq_of_lt (Int.pow_nonneg (by decide)) (wim_lt' k hk32)]; simp
        have HKK := mhid hkk
        clear hkk
        go_wp2_with fail
        have QQ7 := mhid (QQ6.out.invalid (k : Int))
        refine ⟨⟨k + 1, _, .slice p2 L2.length c2, by omega, by go_num, ?_, HFW⟩, by simp [intOf] <;> omega⟩
        rw [if_pos (by have := HKK.out; omega), show (kk : Int) = (k : Int) by have := HKK.out; omega]
        exact QQ7
      · have hE : ((2 : Int) ^ kk == 2 ^ k % 4294967296) = false := by
          rw [Int.emod_eq_of_lt (Int.pow_nonneg (by decide)) (wim_lt' k hk32)]
          simp only [beq_eq_false_iff_ne, ne_eq]
          intro h; exact hkk (pow_inj h)
        have HKK := mhid hkk
        clear hkk
        go_wp2_with fail
        refine ⟨⟨k + 1, _, .slice p2 L2.length c2, by omega, by go_num, ?_, HFW⟩, by simp [intOf] <;> omega⟩
        rw [show (if kk < k + 1 then (kk : Int) else 0) = (if kk < k then (kk : Int) else 0) by have := HKK.out; split <;> split <;> first | rfl | omega]
        exact QQ6
    · obtain rfl : k = m.f.nw := by omega
      go_wp2_with fail
      rw [if_pos hk] at QQ
      have QS := QQ
      have FS := mhid (FW.out.start HOK.out.f)
      go_loopw [9] (fun i wx => ∃ (b : Nat) (f' : Fx) (lv : Value), b ≤ 16 ∧ i = .int .i64 (b : Int) ∧ Hid (QW w0 w wx G M m B g0 f' (16 * m.f.nw + 7 * b) lv kk) ∧ Hid (FWay f' m.f m.f.nw b 1)) (fun i _ => 16 - (intOf i).toNat)
      case atStart => exact ⟨0, _, _, by omega, rfl, QS, FS⟩
      case round =>
        clear QQ QS FS FW
        obtain ⟨b, f', lv, hb16, rfl, QQ, FW⟩ := hrel
        by_cases hlt : b < 16
        · have h1 : (b : Int) < 16 := by omega
          go_wp2_with fail
          go_loopw [10] (fun i wx => ∃ (r : Nat) (f' : Fx) (lv : Value), (1 ≤ r ∧ r ≤ 8) ∧ i = .int .i64 (r : Int) ∧ Hid (QW w0 w wx G M m B g0 f' (16 * m.f.nw + 7 * b + (r - 1)) lv kk) ∧ Hid (FWay f' m.f m.f.nw b r)) (fun i _ => 8 - (intOf i).toNat)
          case atStart => exact ⟨1, _, _, ⟨by omega, by omega⟩, rfl, QQ, FW⟩
          case round =>
            clear QQ FW
            obtain ⟨r, f', lv, ⟨hr1, hr8⟩, rfl, QQ, FW⟩ := hrel
            by_cases hlr : r < 8
            · have h2 : (r : Int) < 8 := by omega
              go_wp2_with fail
              refine (mfile_any _ G M m QQ.out.mis.at').mono ?_
              rintro e w' ⟨rfl, rfl⟩
              have HGT := mhid (fget_any _ G.F G.Wb G.wc m.f QQ.out.mis.at'.file 0 b r)
              go_wp2_with fail
              refine HGT.out.mono ?_
              rintro e w3 ⟨rfl, dn, rfl⟩
              have QQ3 := mhid (QQ.out.keep (show Below _ _ (World.drewN _ dn) from ⟨rfl, rfl, rfl, Nat.le_refl _, fun _ _ => rfl⟩))
              obtain ⟨L, hlog, hlo, hLn⟩ := QQ3.out.log
              have hgb := HOK.out.f.gV 0 b r
              have HPU := mhid (rf_set _ f' FW.out.ok lv L hlog (by omega) hlo 0 b r (getV m.f 0 b r))
              have hfn := FW.out.nw
              rw [hfn] at HPU
              obtain ⟨p1, c1, rfl⟩ := hlog.shape
              have q0 := QQ3.out.q.cell (k := 0) rfl
              have q1 := QQ3.out.q.cell (k := 1) rfl
              have qf0 := QQ3.out.q.frozen 0
              have qf1 := QQ3.out.q.frozen 1
              have HLL := mhid (And.intro hlog (And.intro hlo hLn))
              have HFW := mhid (FW.out.global HOK.out.f hlt hr1 hlr)
              have HFN := mhid FW.out.nw
              clear hlog hlo hLn QQ HGT FW
              generalize getV m.f 0 (b : Int) (r : Int) = x at *
              generalize hWq : World.drewN _ dn = wq at *
              clear hWq
              go_wp2_with fail
              refine HPU.out.mono ?_
              rintro e w5 ⟨lv2, L2, rfl, hq2, hlog2, hlen2, hb5, hown5⟩
              rw [HFN.out]
              have QQ5 := mhid (QQ3.out.keep hb5)
              have hown : ∀ j, lv2.ownBlock = some j → B < j := fun j hj => by
                rcases hown5 j hj with h | h
                · exact QQ3.out.own j h
                · have := QQ3.out.q.lt; omega
              have HLN := mhid (show L2.length ≤ 16 * m.f.nw + 7 * b + (r + 1 - 1) from by have := HLL.out.2.2; omega)
              obtain ⟨p2, c2, rfl⟩ := hq2.shape
              have HF := mhid (And.intro hq2 (And.intro hlog2 hown))
              clear hb5 hq2 hlog2 hown hown5 hlen2 q0 q1 qf0 qf1 hfn HPU
              have q0 := QQ5.out.q.cell (k := 0) rfl
              have q1 := QQ5.out.q.cell (k := 1) rfl
              have qf0 := QQ5.out.q.frozen 0
              have qf1 := QQ5.out.q.frozen 1
              have HQ6 := mhid (QQ5.out.file HF.out.1 HF.out.2.1 HLN.out HF.out.2.2)
              go_wp2_with fail
              exact ⟨⟨r + 1, _, .slice p2 L2.length c2, ⟨by omega, by omega⟩, by go_num, HQ6, HFW⟩, by simp [intOf] <;> omega⟩
            · obtain rfl : r = 8 := by omega
              go_wp2_with fail
              exact ⟨⟨b + 1, f', lv, by omega, by go_num, mhid (by have h := QQ.out; rwa [show 16 * m.f.nw + 7 * b + (8 - 1) = 16 * m.f.nw + 7 * (b + 1) by omega] at h), mhid (FW.out.next HOK.out.f)⟩, by simp [intOf] <;> omega⟩
        · obtain rfl : b = 16 := by omega
          go_wp2_with fail
          refine (mmem_any _ G M m QQ.out.mis.at').mono ?_
          rintro e w' ⟨rfl, rfl⟩
          go_wp2_with fail
          refine (mmem_any _ G M m QQ.out.mis.at').mono ?_
          rintro e w' ⟨rfl, rfl⟩
          have HSZ := mhid (size_any _ G.mB G.gB m.mem QQ.out.mis.at'.mem)
          go_wp2_with fail
          refine HSZ.out.mono ?_
          rintro e w' ⟨rfl, rfl⟩
          have hd4 : (m.mem.length : Int).tdiv 4 = ((m.mem.length / 4 : Nat) : Int) := by rw [Int.tdiv_eq_ediv_of_nonneg (Int.natCast_nonneg _)]; rfl
          obtain ⟨hw4, hsp, hmx, h4n, h63⟩ := quarter hsm hsz rfl
          have HWO := mhid (words_any _ G.mB G.gB m.mem QQ.out.mis.at'.mem 0 (Int.le_refl _) (by decide) ((m.mem.length / 4 : Nat) : Int) h63)
          generalize m.mem.length / 4 = n4 at *
          have HN4 := mhid (And.intro hmx h4n)
          clear hmx h4n h63 hml hsm
          have HSP := mhid hsp
          clear hsp
          go_wp2_with fail
          refine HWO.out.mono ?_
          rintro e w3 ⟨rv, l, rfl, hl, hrow, hb3⟩
          rw [HSP.out] at hl ⊢
          rw [if_pos rfl, Int.toNat_natCast, show (0 : Int).toNat = 0 from rfl] at hl
          subst hl
          have QQ3 := mhid (QQ.out.keep hb3)
          have hll : (wordsS m.mem 0 n4).length = n4 := wordsS_len _ _ _
          obtain ⟨-, pr, cr, rfl, -⟩ := Reads32.of_own hrow
          have HPU := mhid (mrput_any w3 0 g0 m.mem.length (List.replicate m.mem.length 0) (by have h := QQ3.out.mem; simpa using h) 0 (Int.le_refl _) (by decide) _ (wordsS m.mem 0 n4) (by rw [hll]; exact HN4.out.1) (u32s_of hrow (wordsS_words HOK.out.bytes 0 n4) (Below.refl _ _)))
          have hpa : putV (List.replicate m.mem.length 0) 0 (wordsS m.mem 0 n4) = m.mem := by
            have h4 : m.mem.length = 4 * n4 := HN4.out.2
            unfold putV
            rw [hll, List.length_replicate, if_pos HSP.out]
            exact put_all HOK.out.bytes (by simp) n4 h4
          rw [hpa, hll, List.length_replicate, HSP.out] at HPU
          rw [hll]
          have q2 := QQ3.out.q.cell (k := 2) rfl
          have qf2 := QQ3.out.q.frozen 2
          clear hrow hb3 QQ hll hpa HWO HSZ
          go_wp2_with fail
          refine HPU.out.mono ?_
          rintro e w5 ⟨g2, cap2, rfl, href, hb5, hgg⟩
          have QQ5 := mhid (QQ3.out.keep hb5)
          obtain ⟨L, hlog, hlo, hLn⟩ := QQ5.out.log
          obtain ⟨p2, c2, rfl⟩ := hlog.shape
          have HLO := mhid (And.intro hlog (And.intro hlo hLn))
          have HRF := mhid href
          have hg2 : g2 = g0 ∨ w3.heap.size ≤ g2 := hgg
          have hlo3 := QQ3.out.lo
          have hBlt := QQ3.out.q.lt
          clear hb5 hlog hlo hLn href hgg q2 qf2 HPU
          have q0 := QQ5.out.q.cell (k := 0) rfl
          have q1 := QQ5.out.q.cell (k := 1) rfl
          have q2 := QQ5.out.q.cell (k := 2) rfl
          have q3 := QQ5.out.q.cell (k := 3) rfl
          have q4 := QQ5.out.q.cell (k := 4) rfl
          have qf2 := QQ5.out.q.frozen 2
          have r0 := QQ5.out.r.cell (k := 0) rfl
          have rf0 := QQ5.out.r.frozen 0
          have r1 := QQ5.out.r.cell (k := 1) rfl
          have rf1 := QQ5.out.r.frozen 1
          have r2 := QQ5.out.r.cell (k := 2) rfl
          have rf2 := QQ5.out.r.frozen 2
          have r3 := QQ5.out.r.cell (k := 3) rfl
          have rf3 := QQ5.out.r.frozen 3
          have r4 := QQ5.out.r.cell (k := 4) rfl
          have rf4 := QQ5.out.r.frozen 4
          have hne : w.heap.size ≠ B := by omega
          go_wp2_with fail
          have hR9 := cp5_row (QQ5.out.r.other (a := ⟨B, 2, none⟩) hne (.slice (some ⟨g2, 0, none⟩) m.mem.length cap2)) (.int .i64 m.f.nw) (.slice p2 L.length c2) (.slice (some ⟨g2, 0, none⟩) m.mem.length cap2) (.int .i64 m.p.cwp) (.int .i64 kk)
          have ho9 : Only (fun k => k = B ∨ k = w.heap.size) w5 (cp5 (w5.setCell ⟨B, 2, none⟩ (.slice (some ⟨g2, 0, none⟩) m.mem.length cap2)) w.heap.size (.int .i64 m.f.nw) (.slice p2 L.length c2) (.slice (some ⟨g2, 0, none⟩) m.mem.length cap2) (.int .i64 m.p.cwp) (.int .i64 kk)) :=
            ((Only.refl (fun k => k = B ∨ k = w.heap.size) w5).setCell (p := ⟨B, 2, none⟩) (.inl rfl) _).trans (cp5_only _ _ _ _ _ _ _ (.inr rfl))
          change bodyPost _ _ _ _ _ (cp5 (w5.setCell ⟨B, 2, none⟩ (.slice (some ⟨g2, 0, none⟩) m.mem.length cap2)) w.heap.size (.int .i64 m.f.nw) (.slice p2 L.length c2) (.slice (some ⟨g2, 0, none⟩) m.mem.length cap2) (.int .i64 m.p.cwp) (.int .i64 kk))
          clear q0 q1 q2 q3 q4 qf2 r0 r1 r2 r3 r4 rf0 rf1 rf2 rf3 rf4
          generalize (cp5 (w5.setCell ⟨B, 2, none⟩ (.slice (some ⟨g2, 0, none⟩) m.mem.length cap2)) w.heap.size (.int .i64 m.f.nw) (.slice p2 L.length c2) (.slice (some ⟨g2, 0, none⟩) m.mem.length cap2) (.int .i64 m.p.cwp) (.int .i64 kk)) = W9 at *
          have s0 := hR9.cell (k := 0) rfl
          have s1 := hR9.cell (k := 1) rfl
          have s2 := hR9.cell (k := 2) rfl
          have s3 := hR9.cell (k := 3) rfl
          have s4 := hR9.cell (k := 4) rfl
          refine bodyPost_ret (by simp [results, Tryz.results23, go_sem, s0, s1, s2, s3, s4]; try rfl) rfl ?_
          have hnwf := FW.out.nw
          have hown5 := QQ5.out.own
          refine ⟨_, f', ?_, ⟨.slice p2 L.length c2, L, g2, cap2, rfl, ⟨?_, HLO.out.2.1, ?_, FW.out.ok⟩, ?_⟩, FW.out.fin, ?_, ?_⟩
          · unfold W8.agg; simp only [hnwf]
          · exact HLO.out.1.only ho9 (fun k hk hS => by have := hown5 k hk; omega)
          · exact HRF.out.keep ho9 (by omega)
          · have := HLO.out.2.2; omega
          · intro k hk
            rcases (own8_agg _ _ _ _ _).1 hk with h | rfl
            · have := hown5 k h; omega
            · omega
          · exact QQ5.out.bel.trans (ho9.below QQ5.out.bel.size (fun k hk hS => by omega))
end Go.Proofs.YtajholbcpmjhiaaGreatDoor
/- The machine that made gives runs through its turn. -/
namespace Go.Proofs.YtajholbcpmjhiaaGreatDoor
open Go.RowKit
set_option linter.unusedVariables false
set_option linter.unusedSimpArgs false
theorem MadeW.traps {x : CaseW} {m : Mx} (h : MadeW x m) (hm : mayW x) (hok : m.ok) : Traps m 1536 x.cwp.toNat x.pil x.flags ∧ m.f.nw = x.nw.toNat := by
  have hn2 := hok.f.nw2
  have hn32 := hok.f.nw32
  have e : m.f.nw = x.nw.toNat := by have := h.nw; omega
  obtain ⟨a1, a2, a3, a4, -⟩ := hm
  refine ⟨⟨hok, h.kind, h.pc, ?_, by have := h.nw; omega, by decide, by decide, h.code.hs, (wind_is hn2 hn32).n, h.code.v1, h.code.v2⟩, e⟩
  rw [h.p, Int.toNat_of_nonneg a2.1]
theorem rest_of {c k : Nat} {m m' : Mx} {cw kk : Nat} {pil fl : Int} (hp : Path (Not4 ((c + 4 : Nat) : Int)) k m m') (ha : After m m' c cw kk pil fl) (hpc : m.pc = c) : 1 ≤ k ∧ Rest ((c + 4 : Nat) : Int) k m m' := by
  refine ⟨?_, hp, ha.kind, ha.pc, by rw [ha.p]⟩
  cases k with
  | zero =>
    obtain rfl : m = m' := hp
    have := ha.pc
    rw [hpc] at this
    omega
  | succ k => omega
theorem madeW_over {x : CaseW} {m : Mx} (h : MadeW x m) (hm : mayW x) (hok : m.ok) (hup : x.up = false) :
    ∃ n m', 1 ≤ n ∧ n ≤ 60 ∧ Rest (1540 : Nat) n m m' ∧ After m m' 1536 ((x.cwp.toNat + m.f.nw - 1) % m.f.nw) ((x.cwp.toNat + m.f.nw - 2) % m.f.nw) x.pil x.flags ∧ m'.f.win = m.f.win ∧ m'.mem = putS m.mem (frM m ((x.cwp.toNat + m.f.nw - 2) % m.f.nw)) (winR m.f ((x.cwp.toNat + m.f.nw - 2) % m.f.nw)) := by
  obtain ⟨ht, e⟩ := h.traps hm hok
  have hx : CodeAt m.mem 1536 ⟨20, 0, 0, 0, false, 0⟩ := h.code.c0 _ (by rw [hup]; rfl)
  have hw : m.wim = 2 ^ ((x.cwp.toNat + m.f.nw - 1) % m.f.nw) := by
    rw [h.wim, e]; unfold toW; rw [hup]; rfl
  obtain ⟨n, m', h1, h2, h3, h4, h5⟩ := wind_over ht hx hw (room := 4096) (by rw [h.code.len]; exact Nat.le_refl _) h.sp
  obtain ⟨q1, q2⟩ := rest_of h2 h3 h.pc
  exact ⟨n, m', q1, h1, q2, h3, h4, h5⟩
theorem madeW_under {x : CaseW} {m : Mx} (h : MadeW x m) (hm : mayW x) (hok : m.ok) (hup : x.up = true) :
    ∃ n m', 1 ≤ n ∧ n ≤ 60 ∧ Rest (1540 : Nat) n m m' ∧ After m m' 1536 ((x.cwp.toNat + 1) % m.f.nw) (((x.cwp.toNat + 1) % m.f.nw + 1) % m.f.nw) x.pil x.flags ∧ m'.f.win = setW m.f.win ((x.cwp.toNat + 1) % m.f.nw) (wordsS m.mem (frM m ((x.cwp.toNat + 1) % m.f.nw)) 16) ∧ m'.mem = m.mem := by
  obtain ⟨ht, e⟩ := h.traps hm hok
  have hx : CodeAt m.mem 1536 ⟨21, 0, 0, 0, false, 0⟩ := h.code.c0 _ (by rw [hup]; rfl)
  have hw : m.wim = 2 ^ ((x.cwp.toNat + 1) % m.f.nw) := by
    rw [h.wim, e]; unfold toW; rw [hup]; rfl
  have hn2 := hok.f.nw2
  have hll : (x.cwp.toNat + 1) % m.f.nw < m.f.nw := Nat.mod_lt _ (by omega)
  obtain ⟨n, m', h1, h2, h3, h4, h5⟩ := wind_under ht hx hw (room := 4096) (by rw [h.code.len]; exact Nat.le_refl _) (h.sp _ hll hll)
  obtain ⟨q1, q2⟩ := rest_of h2 h3 h.pc
  exact ⟨n, m', q1, h1, q2, h3, h4, h5⟩
/-- What the example's machine comes to. -/
theorem outL_made {x : CaseW} {m : Mx} (h : MadeW x m) : outL m = 0 := by unfold outL; rw [h.out]; rfl
end Go.Proofs.YtajholbcpmjhiaaGreatDoor
/- wind.Over where there is no list, or too few windows. -/
namespace Go.Proofs.YtajholbcpmjhiaaGreatDoor
open Go.RowKit Go.Maps
set_option linter.unusedVariables false
set_option linter.unusedSimpArgs false
theorem wbegin_nil (w : World) (n : Int) (s : ByteArray) : Calls Tryz.prog 113 #[.pointer none, .int .i64 n, .string s] w fun e w' => e = .returned (.int .i64 1) ∧ w = w' := by
  go_enter Tryz.func113, Tryz.ntmps113
  go_wp2_with fail
  refine (acopy_none w _ (anone_nil w)).mono ?_
  rintro e w' ⟨rfl, rfl⟩
  go_wp2_with fail
  go_ret
  exact ⟨rfl, rfl⟩
theorem wbegin_bad {W w : World} {pa : Nat} {S : Nat → Prop} {s : Bs} (h : BsAt W w pa S s) (hL : s.L.length < 4294967296) (n : Int) (hn : okE 0 n = 2) (nm : ByteArray) :
    Calls Tryz.prog 113 #[.pointer (some ⟨pa, 0, none⟩), .int .i64 n, .string nm] w fun e w' => e = .returned (.int .i64 2) ∧ Below w.heap.size w w' := by
  have HC := ahid (bs_copy h hL)
  have HK := ahid hn
  clear h hn
  go_enter Tryz.func113, Tryz.ntmps113
  go_wp2_with fail
  refine HC.out.mono ?_
  rintro e w1 ⟨⟨q, rfl⟩, hb1⟩
  go_wp2_with fail
  refine (wim_any 0 n w1).mono ?_
  rintro e w2 ⟨rfl, hb2⟩
  rw [HK.out]
  have HB := ahid (hb1.trans (hb2.mono hb1.size))
  clear hb1 hb2
  go_wp2_with fail
  go_ret
  exact ⟨rfl, HB.out⟩
set_option maxRecDepth 100000 in
set_option maxHeartbeats 4000000 in
theorem wover_nil (w : World) (n : Int) : Calls Tryz.prog 49 #[.pointer none, .int .i64 n] w fun e w' => e = .returned (.int .i64 1) ∧ w = w' := by
  have HB := ahid (wbegin_nil w n)
  go_enter Tryz.func49, Tryz.ntmps49
  go_wp2_with fail
  refine (HB.out _).mono ?_
  rintro e w' ⟨rfl, rfl⟩
  go_wp2_with fail
  go_ret
  exact ⟨rfl, rfl⟩
set_option maxRecDepth 100000 in
set_option maxHeartbeats 4000000 in
theorem wover_bad {W w : World} {pa : Nat} {S : Nat → Prop} {s : Bs} (h : BsAt W w pa S s) (hL : s.L.length < 4294967296) (n : Int) (hn : okE 0 n = 2) :
    Calls Tryz.prog 49 #[.pointer (some ⟨pa, 0, none⟩), .int .i64 n] w fun e w' => e = .returned (.int .i64 2) ∧ Below w.heap.size w w' := by
  have HB := ahid (wbegin_bad h hL n hn)
  clear h hn
  go_enter Tryz.func49, Tryz.ntmps49
  go_wp2_with fail
  refine (HB.out _).mono ?_
  rintro e w' ⟨rfl, hb⟩
  go_wp2_with fail
  go_ret
  exact ⟨rfl, hb⟩
end Go.Proofs.YtajholbcpmjhiaaGreatDoor
