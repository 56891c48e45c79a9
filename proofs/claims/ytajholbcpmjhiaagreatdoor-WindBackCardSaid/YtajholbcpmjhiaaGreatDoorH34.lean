/- Several texts in one: WindMade. -/
import Derived.Test.YtajholbcpmjhiaaGreatDoorH01
import Derived.Test.YtajholbcpmjhiaaGreatDoorH02
import Derived.Test.YtajholbcpmjhiaaGreatDoorH03
import Derived.Test.YtajholbcpmjhiaaGreatDoorH04
import Derived.Test.YtajholbcpmjhiaaGreatDoorH05
import Derived.Test.YtajholbcpmjhiaaGreatDoorH06
import Derived.Test.YtajholbcpmjhiaaGreatDoorH07
import Derived.Test.YtajholbcpmjhiaaGreatDoorH08
import Derived.Test.YtajholbcpmjhiaaGreatDoorH09
import Derived.Test.YtajholbcpmjhiaaGreatDoorH10
import Derived.Test.YtajholbcpmjhiaaGreatDoorH11
import Derived.Test.YtajholbcpmjhiaaGreatDoorH12
import Derived.Test.YtajholbcpmjhiaaGreatDoorH13
import Derived.Test.YtajholbcpmjhiaaGreatDoorH14
import Derived.Test.YtajholbcpmjhiaaGreatDoorH15
import Derived.Test.YtajholbcpmjhiaaGreatDoorH16
import Derived.Test.YtajholbcpmjhiaaGreatDoorH17
import Derived.Test.YtajholbcpmjhiaaGreatDoorH18
import Derived.Test.YtajholbcpmjhiaaGreatDoorH19
import Derived.Test.YtajholbcpmjhiaaGreatDoorH20
import Derived.Test.YtajholbcpmjhiaaGreatDoorH21
import Derived.Test.YtajholbcpmjhiaaGreatDoorH22
import Derived.Test.YtajholbcpmjhiaaGreatDoorH23
import Derived.Test.YtajholbcpmjhiaaGreatDoorH24
import Derived.Test.YtajholbcpmjhiaaGreatDoorH25
import Derived.Test.YtajholbcpmjhiaaGreatDoorH26
import Derived.Test.YtajholbcpmjhiaaGreatDoorH27
import Derived.Test.YtajholbcpmjhiaaGreatDoorH28
import Derived.Test.YtajholbcpmjhiaaGreatDoorH29
import Derived.Test.YtajholbcpmjhiaaGreatDoorH30
import Derived.Test.YtajholbcpmjhiaaGreatDoorH31
import Derived.Test.YtajholbcpmjhiaaGreatDoorH32
import Derived.Test.YtajholbcpmjhiaaGreatDoorH33
import Derived.WalkKit
import Derived.Laws.AppendOwn
import Derived.Below
import Derived.Deep.QuietTactic
import Derived.BigQuiet
import Derived.WalkSpells
import Derived.Test.YtajholbcpmjhiaaGreatDoorProg
import Derived.Handy
import Derived.WalkLawsBesides
import Derived.RegionTactic
import Derived.Outline
import Derived.Lib.BitFns
import Derived.StillTailTactics
import Derived.BigRegion
import Derived.ChangeAlike
import Derived.Maps.OwnSet
import Derived.Maps.Views
import Derived.Laws.AppendOwnNone
import Derived.WalkArith
import Derived.OneCell
import Derived.ArgAppend
import Derived.Lib.SliceRun
import Derived.Laws.Rows
import Derived.IntWalk
import Derived.Laws.CopyOwn
import Derived.Great.Ranges
import Derived.ProofKit
import Derived.OpenShut
import Derived.RangeFuncNested
import Derived.RangeFuncBound
import Derived.RangeFuncCalls
import Derived.RangeFuncLeaves
import Derived.Shelf.Abstract
import Derived.Shelf.RegionOpen
import Derived.OwnWalkIn
import Derived.TacticsInMore
import Derived.LoopNIn
import Derived.LoopIn
import Derived.RegionIn
import Derived.Deep.RegionHeld
import Derived.Deep.RegionHeld3
import Derived.Deep.Cut
import Derived.Laws.EntriesVeiled
import Derived.Deep.RegionLaw
import Derived.Shelf.SlMaps.Clone
import Derived.Deep.AppendLies
import Derived.BigGuardPart
import Derived.Lib.ParseIntB
import Derived.Lib.ItoaNum
import Derived.Shelf.Strings.Cut
import Derived.Shelf.Small.Wraps
import Derived.Shelf.Pu.ParseUintPublic10
import Derived.Shelf.Strconv.Itoa3
import Derived.WalkSmall
import Derived.Lib.IndexMore
import Derived.Maps.AppendAt
import Derived.Deep.Slices
import Derived.Deep.CutRange
/- The walk of muntinlaw08.made. -/
namespace Go.Proofs.YtajholbcpmjhiaaGreatDoor
open Go.RowKit Go.Maps
set_option linter.unusedVariables false
set_option linter.unusedSimpArgs false
/-- A machine ahead of a window's turn. -/
structure CaseW where
  nw : Int
  cwp : Int
  regs : List Int
  frames : List Int
  flags : Int
  pil : Int
  globals : List Int
  fill : Int
  up : Bool
def HalfsIn (w : World) (v : Value) (l : List Int) : Prop :=
  l.length ≤ maxLen ∧ (∀ x ∈ l, 0 ≤ x ∧ x < 65536) ∧ ∃ p c b o, v = .slice p l.length c ∧ (0 < l.length → p = some ⟨b, o, none⟩) ∧ ∀ k x, l[k]? = some x → w.cell? ⟨b, o + k, none⟩ = some (.int .u16 x)
theorem HalfsIn.keepb {w w' : World} {v : Value} {l : List Int} (h : HalfsIn w v l) (hb : Below w.heap.size w w') : HalfsIn w' v l := by
  obtain ⟨h1, h2, p, c, b, o, h3, h4, h5⟩ := h
  exact ⟨h1, h2, p, c, b, o, h3, h4, fun k x hx => (hb.cell (p := ⟨b, o + k, none⟩) (World.block_lt_of_cell? _ _ (h5 k x hx))).trans (h5 k x hx)⟩
def CaseW.agg (x : CaseW) (vr vf vg : Value) : Value := .agg #[.int .i64 x.nw, .int .i64 x.cwp, vr, vf, .int .u8 x.flags, .int .u8 x.pil, vg, .int .u32 x.fill, .bool x.up]
structure CaseIn (w : World) (x : CaseW) (vr vf vg : Value) : Prop where
  r : WordsIn w vr x.regs
  f : HalfsIn w vf x.frames
  g : WordsIn w vg x.globals
  nw : -9223372036854775808 ≤ x.nw ∧ x.nw ≤ 9223372036854775807
  cwp : -9223372036854775808 ≤ x.cwp ∧ x.cwp ≤ 9223372036854775807
  fl : 0 ≤ x.flags ∧ x.flags < 256
  pil : 0 ≤ x.pil ∧ x.pil < 256
  fill : 0 ≤ x.fill ∧ x.fill < 4294967296
theorem CaseIn.keepb {w w' : World} {x : CaseW} {vr vf vg : Value} (h : CaseIn w x vr vf vg) (hb : Below w.heap.size w w') : CaseIn w' x vr vf vg := by
  exact ⟨h.r.keepb hb, h.f.keepb hb, h.g.keepb hb, h.nw, h.cwp, h.fl, h.pil, h.fill⟩
/-- May a case be looked at? -/
def mayW (x : CaseW) : Prop := (2 ≤ x.nw ∧ x.nw ≤ 32) ∧ (0 ≤ x.cwp ∧ x.cwp < x.nw) ∧ x.pil ≤ 15 ∧ x.flags ≤ 15 ∧ x.regs.length ≤ 512 ∧ x.frames.length ≤ 64 ∧ x.globals.length ≤ 120
instance (x : CaseW) : Decidable (mayW x) := by unfold mayW; infer_instance
def turnOp (up : Bool) : Ix := ⟨if up then 21 else 20, 0, 0, 0, false, 0⟩
/-- Where the turn goes. -/
def toW (x : CaseW) : Nat := if x.up then (x.cwp.toNat + 1) % x.nw.toNat else (x.cwp.toNat + x.nw.toNat - 1) % x.nw.toNat
/-- The file that such a machine has. -/
def regF (nw : Nat) (regs : List Int) : Nat → Fx
  | 0 => Fx.new nw
  | k + 1 => setV (regF nw regs k) ((IntKind.i64.wrap ((k : Int) / 16)).tmod nw) 0 (IntKind.i64.wrap (16 + (k : Int).tmod 16)) (regs.getD k 0)
def frmY (frames : List Int) (k : Nat) : Int := if k < frames.length then frames.getD k 0 else (k : Int) * 64
def spF (f : Fx) (frames : List Int) : Nat → Fx
  | 0 => f
  | k + 1 => setV (spF f frames k) k 0 14 (2048 + frmY frames k % 496 * 4)
def gloF (f : Fx) (globals : List Int) : Nat → Fx
  | 0 => f
  | k + 1 => setV (gloF f globals k) 0 ((k : Int).tmod 16) (IntKind.i64.wrap (1 + (k : Int).tmod 7)) (globals.getD k 0)
def fileW (x : CaseW) : Fx := gloF (spF (regF x.nw.toNat x.regs x.regs.length) x.frames x.nw.toNat) x.globals x.globals.length
structure MadeW (x : CaseW) (m : Mx) : Prop where
  kind : m.kind = 0
  nw : (m.f.nw : Int) = x.nw
  pc : m.pc = 1536
  p : m.p = ⟨x.cwp, x.pil, 0, x.flags⟩
  wim : m.wim = 2 ^ toW x
  out : m.out = []
  code : WCode m.mem m.f.nw (some (turnOp x.up))
  sp : FrOk m.f m.f.nw 4096
  file : m.f = fileW x
theorem MIs.far {w0 w w' : World} {G : MG} {M : Nat} {m : Mx} {S : Nat → Prop} {B : Nat} (h : MIs w0 w G M m) (o : Only S w w') (hS : ∀ k, S k → B ≤ k) (hG : ∀ k, G.R k ≠ .none → k < B) (hB : w0.heap.size ≤ B) : MIs w0 w' G M m :=
  ⟨h.at'.keep o (fun k hk e => by have := hS k e; have := hG k hk; omega), h.lo, h.bel.trans (o.below h.bel.size (fun k hk e => by have := hS k e; omega))⟩
theorem mw_put (w0 w : World) (G : MG) (M : Nat) (m : Mx) (h : MIs w0 w G M m) (a : Int) (ha : 0 ≤ a) (ha2 : a < 4294967296) (v : Value) (l : List Int) (hl : l.length ≤ maxLen) (hv : U32s (· = G.gB) w v l) :
    Calls Tryz.prog 53 #[.pointer (some ⟨G.mB, 0, none⟩), .int .u32 a, v] w fun e w' => e = .returned (.int .i64 (spanE m.mem.length a l.length 4)) ∧ MTo w0 w w' G M { m with mem := putV m.mem a l } := by
  refine (put_any w G.mB G.gB m.mem h.at'.mem a ha ha2 v l hl hv).mono fun e w' he => ⟨he.1, h.to (h.at'.mem' he.2.2.1 he.2.1 (memM_ok h.at'.ok he.2.1.bytes (putV_len _ _ _))) (he.2.2.1.mono fun k _ hk => ?_)⟩
  have e : k = G.gB := hk
  rw [e, h.at'.rg]; simp
theorem MTo.box {w0 w1 w2 : World} {G : MG} {M : Nat} {m' : Mx} {b : Nat} {t : TypeId} {cs : List Value} (h : MTo w0 w1 w2 G M m') (hG : G.R b = .none) (hA : ARow w1 b t cs) : ∃ G', MIs w0 w2 G' M m' ∧ G'.R b = .none ∧ ARow w2 b t cs := by
  obtain ⟨G', h1, h2, h3⟩ := h
  exact ⟨G', h1, h3 b hA.lt hG, hA.of_block (h2.block b hA.lt (fun hh => hh hG))⟩
def jumpX (n : Int) : Ix := ⟨17, 0, 0, 0, true, n⟩
theorem jumpX_bd {n : Int} (h : 0 ≤ n) (h2 : n < 1000) : (jumpX n).bd := ⟨by simp [jumpX], by simp [jumpX], by simp [jumpX], by simp [jumpX], by simp only [jumpX]; omega⟩
def CaseW.cells (x : CaseW) (vr vf vg : Value) : List Value := [.int .i64 x.nw, .int .i64 x.cwp, vr, vf, .int .u8 x.flags, .int .u8 x.pil, vg, .int .u32 x.fill, .bool x.up]
theorem WordsIn.cell {w : World} {p : Option Addr} {n c : Nat} {l : List Int} (h : WordsIn w (.slice p n c) l) (h0 : 0 < l.length) : ∃ b o, p = some ⟨b, o, none⟩ ∧ ∀ k, k < l.length → w.cell? ⟨b, o + k, none⟩ = some (.int .u32 (l.getD k 0)) := by
  obtain ⟨⟨_, p', c', e, h2⟩, _⟩ := h
  cases e
  obtain ⟨b, o, rfl, _, _, h7⟩ := h2 h0
  exact ⟨b, o, rfl, fun k hk => h7 k hk⟩
/-- The machine under way, the case's box beside it. -/
structure WW (w wr : World) (G : MG) (M : Nat) (m : Mx) (cs : List Value) : Prop where
  mis : MIs w wr G M m
  off : G.R w.heap.size = .none
  box : ARow wr w.heap.size 26 cs
theorem WW.keep {w wr w' : World} {G : MG} {M : Nat} {m : Mx} {cs : List Value} (h : WW w wr G M m cs) (hb : Below wr.heap.size wr w') : WW w w' G M m cs := ⟨h.mis.keepb hb, h.off, h.box.below hb⟩
theorem WW.to {w wr w' : World} {G : MG} {M : Nat} {m m' : Mx} {cs : List Value} (h : WW w wr G M m cs) (ht : MTo w wr w' G M m') : ∃ G', WW w w' G' M m' cs := by
  obtain ⟨G', h1, h2, h3⟩ := ht.box h.off h.box
  exact ⟨G', h1, h2, h3⟩
theorem u32w_bd (n : Int) : 0 ≤ IntKind.u32.wrap n ∧ IntKind.u32.wrap n < 4294967296 := by
  rw [uw]; unfold u32; omega
set_option maxRecDepth 100000 in
set_option maxHeartbeats 4000000 in
theorem wmade_any (w : World) (ht : Tab w) (hbr : Bru w) (x : CaseW) (vr vf vg : Value) (h : CaseIn w x vr vf vg) (hm : mayW x) :
    Calls Tryz.prog 11 #[x.agg vr vf vg] w fun e w' => ∃ M G m, e = .returned (.pointer (some ⟨M, 0, none⟩)) ∧ MIs w w' G M m ∧ MadeW x m := by
  obtain ⟨nw, hnw⟩ : ∃ n : Nat, x.nw = n := ⟨x.nw.toNat, by have := hm.1; omega⟩
  have h2 : 2 ≤ nw ∧ nw ≤ 32 := by have := hm.1; omega
  obtain ⟨xnw, cwp, regs, frames, flags, pil, globals, fill, up⟩ := x
  obtain rfl : xnw = (nw : Int) := hnw
  have HT := mhid ht
  have HBR := mhid hbr
  have HX := mhid h
  have HMY := mhid hm
  obtain ⟨pr, cr, rfl⟩ : ∃ p c, vr = .slice p regs.length c := by obtain ⟨⟨_, p, c, e, _⟩, _⟩ := h.r; exact ⟨p, c, e⟩
  obtain ⟨pg, cg, rfl⟩ : ∃ p c, vg = .slice p globals.length c := by obtain ⟨⟨_, p, c, e, _⟩, _⟩ := h.g; exact ⟨p, c, e⟩
  obtain ⟨pf, cf, rfl⟩ : ∃ p c, vf = .slice p frames.length c := by obtain ⟨_, _, p, c, _, _, e, _⟩ := h.f; exact ⟨p, c, e⟩
  clear ht hbr h hm
  obtain ⟨W1, hW1⟩ : ∃ W1, W1 = w.alloc (.cells (CaseW.cells ⟨nw, cwp, regs, frames, flags, pil, globals, fill, up⟩ (.slice pr regs.length cr) (.slice pf frames.length cf) (.slice pg globals.length cg)).toArray 26) := ⟨_, rfl⟩
  have hb1 : Below w.heap.size w W1 := by rw [hW1]; exact (Below.refl _ _).alloc (Nat.le_refl _) _
  have hB : ARow W1 w.heap.size 26 (CaseW.cells ⟨nw, cwp, regs, frames, flags, pil, globals, fill, up⟩ (.slice pr regs.length cr) (.slice pf frames.length cf) (.slice pg globals.length cg)) := by rw [hW1]; exact ARow.fresh w _ _
  have HB1 := mhid hb1
  have HB := mhid hB
  have hlt1 := hB.lt
  unfold CaseW.cells at HB hW1
  clear hb1 hB
  have b0 := HB.out.cell (k := 0) rfl
  rw [hW1] at b0
  go_enter Tryz.func11, Tryz.ntmps11
  unfold CaseW.agg
  go_wp2_with fail
  rw [← hW1]
  clear hW1 b0
  refine (mw_new nw 4096 w W1 HB1.out h2.1 h2.2 (by decide) (by decide)).mono ?_
  rintro e W2 ⟨M, G, rfl, hM, hGn, hb2⟩
  have HM2 := mhid hM
  have HB2 := mhid (HB1.out.trans (hb2.mono HB1.out.size))
  have HBX := mhid (HB.out.below hb2)
  clear hM hb2 HB HB1
  go_wp2_with fail
  refine (new_lst W2 W2 (Below.refl _ _)).mono ?_
  rintro e W3 ⟨pa, S0, rfl, hl, hS0, hb3⟩
  have H0 := mhid (show BsAt W2 W3 pa S0 asm0 from ⟨hl, TabLo.start (HT.out.keep HB2.out) hb3, hb3⟩)
  have HM3 := mhid (HM2.out.keepb hb3)
  have HB3 := mhid (HB2.out.trans (hb3.mono HB2.out.size))
  have HBX3 := mhid (HBX.out.below hb3)
  clear hl hb3 hS0
  have b0 := HBX3.out.cell (k := 0) rfl
  have hn32 : ¬ ((nw : Int) > 32) := by omega
  go_wp2_with fail
  have HF := mhid (wind_is h2.1 h2.2)
  have hGlt : ∀ k, G.R k ≠ .none → k < W2.heap.size := fun k hk => HM2.out.at'.lt k hk
  have HGL := mhid (And.intro hGlt (And.intro HB2.out.size (show w.heap.size < W2.heap.size from HBX.out.lt)))
  clear hGlt b0
  refine (wover_any H0.out h2.1 h2.2 rfl rfl (by decide) (by decide)).mono ?_
  rintro e W4 ⟨rfl, S1, h1, o1, r1⟩
  have HM4 := mhid (HM3.out.far o1 (fun k hk => (H0.out.lst.lo k hk).1) HGL.out.1 HGL.out.2.1)
  have HBX4 := mhid (HBX3.out.of_block (o1.block _ HBX3.out.lt (fun hk => by have := (H0.out.lst.lo _ hk).1; have := HGL.out.2.2; omega)))
  have H1 := mhid h1
  clear h1 o1 r1
  have b0 := HBX4.out.cell (k := 0) rfl
  go_wp2_with fail
  have hz := HF.out.z
  refine (wunder_any H1.out h2.1 h2.2 HF.out.u1 HF.out.u2 (by omega) (by omega)).mono ?_
  rintro e W5 ⟨rfl, S2, h1, o1, r1⟩
  have HM5 := mhid (HM4.out.far o1 (fun k hk => (H1.out.lst.lo k hk).1) HGL.out.1 HGL.out.2.1)
  have HBX5 := mhid (HBX4.out.of_block (o1.block _ HBX4.out.lt (fun hk => by have := (H1.out.lst.lo _ hk).1; have := HGL.out.2.2; omega)))
  have H2 := mhid (show BsAt W2 W5 pa S2 (windS nw) from h1)
  clear h1 o1 r1 H0 H1 HM2 HM3 HM4 HBX HBX3 HBX4 b0
  go_wp2_with fail
  obtain ⟨sv, am, K, hA, hO, hK⟩ := H2.out.lst.ex
  have HA := mhid hA
  clear hA hO hK
  refine (awords_any W5 H2.out.tab.tab pa am sv K (windS nw).L (windS nw).M HA.out (by omega) (fun nm t ht => ?_)).mono ?_
  · unfold look at ht
    rw [Option.map_eq_some_iff] at ht
    obtain ⟨q, hq, rfl⟩ := ht
    have := HF.out.m q (List.mem_of_find?_eq_some hq)
    omega
  rintro e W6 ⟨v, l, rfl, hl, hown, hb6⟩
  rw [HF.out.e] at hl ⊢
  rw [if_pos rfl, HF.out.l] at hl
  have HM6 := mhid (HM5.out.keepb hb6)
  have HBX6 := mhid (HBX5.out.below hb6)
  have HA6 := mhid (HA.out.keep (Only.of_below (S := fun _ => False) hb6) (fun _ _ h => h) (fun _ _ h => h))
  have HBW := mhid (H2.out.bel.trans (hb6.mono H2.out.bel.size))
  have hll : l.length ≤ 80 := by rw [hl, List.length_map]; exact HF.out.n
  have hww : Words l := by rw [hl]; exact encs_words HF.out.ok
  have HROW := mhid hown
  obtain ⟨-, pl, cl, rfl, -⟩ := Reads32.of_own hown
  have HLW := mhid (And.intro hl hww)
  have hW5 : W2.heap.size ≤ W5.heap.size := H2.out.bel.size
  have hAT := aat_made W6 pa am sv K (windS nw).L (windS nw).M HA6.out ⟨nmUnder.toArray⟩ (by decide)
  rw [HF.out.at', HF.out.ae] at hAT
  have HAT := mhid hAT
  clear hl hww hown hb6 hAT HM5 HBX5 HA
  go_wp2_with fail
  refine HAT.out.mono ?_
  rintro e W7 ⟨rfl, rfl⟩
  have hlo : (overL nw).length ≤ 80 := by have := HF.out.n; unfold windI at this; rw [List.length_append] at this; omega
  obtain ⟨no, hno⟩ : ∃ no, no = (overL nw).length := ⟨_, rfl⟩
  rw [← hno] at hlo ⊢
  have HNO := mhid hno
  have hl192 : ¬ ((l.length : Int) > 192) := by omega
  have HGN := mhid (hGn w.heap.size hlt1)
  have HU := mhid (Reads32.u32s (S := (· = G.gB)) HROW.out HLW.out.2 (fun k hk e => by have := HGL.out.1 k (by have e : k = G.gB := e; rw [e, HM6.out.at'.rg]; simp); omega))
  clear hno HAT hGn
  go_wp2_with fail
  refine (mmem_any W6 G M _ HM6.out.at').mono ?_
  rintro e w' ⟨rfl, rfl⟩
  go_wp2_with fail
  refine (mw_put w W6 G M _ HM6.out 768 (by decide) (by decide) _ l (by unfold maxLen; omega) HU.out).mono ?_
  rintro e W7 ⟨rfl, hto⟩
  obtain ⟨G7, hM7, hG7, hB7⟩ := hto.box HGN.out HBX6.out
  have HM := mhid hM7
  have HG := mhid hG7
  have HB := mhid hB7
  clear hto hM7 hG7 hB7 HM6 HBX6 HU HROW HGL
  go_wp2_with fail
  refine (renc_any (jumpX 124) (jumpX_bd (by decide) (by decide)) W7).mono ?_
  rintro e W8 ⟨rfl, hb8⟩
  have HM := mhid (HM.out.keepb hb8)
  have HB := mhid (HB.out.below hb8)
  clear hb8
  have e120 : IntKind.i32.wrap (120 + (no : Int)) = 120 + (no : Int) := IntWalk.i32_in _ (by omega)
  have e120b : IntKind.i64.wrap (120 + (no : Int)) = 120 + (no : Int) := IntWalk.i64_in _ (by omega)
  go_wp2_with fail
  refine (renc_any (jumpX (120 + (no : Int))) (jumpX_bd (by omega) (by omega)) W8).mono ?_
  rintro e W9 ⟨rfl, hb9⟩
  have HM := mhid (HM.out.keepb hb9)
  have HB := mhid (HB.out.below hb9)
  have he1 := encS_bd (jumpX_bd (n := 124) (by decide) (by decide))
  have he2 := encS_bd (jumpX_bd (n := 120 + (no : Int)) (by omega) (by omega))
  clear hb9
  go_wp2_with fail
  refine (mmem_any W9 _ M _ HM.out.at').mono ?_
  rintro e w' ⟨rfl, rfl⟩
  go_wp2_with fail
  refine (mw_store w W9 _ M _ HM.out 272 _ (by decide) he1).mono ?_
  rintro e W10 ⟨rfl, hto⟩
  obtain ⟨G10, hM, hG, hB⟩ := hto.box HG.out HB.out
  have HM := mhid hM
  have HG := mhid hG
  have HB := mhid hB
  clear hto hM hG hB
  go_wp2_with fail
  refine (mmem_any W10 _ M _ HM.out.at').mono ?_
  rintro e w' ⟨rfl, rfl⟩
  go_wp2_with fail
  refine (mw_store w W10 _ M _ HM.out 288 _ (by decide) he2).mono ?_
  rintro e W11 ⟨rfl, hto⟩
  obtain ⟨G11, hM, hG, hB⟩ := hto.box HG.out HB.out
  have hnew := WCode.new (nw := nw) HF.out (d := (newM nw 4096).mem) (by show (List.replicate 4096 (0 : Int)).length = 4096; rw [List.length_replicate])
  rw [← HNO.out, ← HLW.out.1] at hnew
  have HC := mhid hnew
  obtain ⟨m11, hm11⟩ : ∃ m11 : Mx, m11 = { newM nw 4096 with mem := storeV (storeV (putV (newM nw 4096).mem 768 l) 272 4 (encS (jumpX 124))) 288 4 (encS (jumpX (120 + (no : Int)))) } := ⟨_, rfl⟩
  have HM := mhid (show MIs w W11 G11 M m11 from by rw [hm11]; exact hM)
  have HC := mhid (show m11.kind = 0 ∧ m11.f = Fx.new nw ∧ m11.out = [] ∧ WCode m11.mem nw none from by rw [hm11]; exact ⟨rfl, rfl, rfl, HC.out⟩)
  have HG := mhid hG
  have HB := mhid hB
  clear hto hM hG hB hm11 hnew he1 he2
  go_wp2_with fail
  have WW0 := mhid (show WW w W11 G11 M m11 _ from ⟨HM.out, HG.out, HB.out⟩)
  clear HM HG HB H2 HBW HA6 HNO e120 e120b hW5 hll hz hl192
  go_loopw [14] (fun i wr => ∃ (k : Nat) (G : MG) (m : Mx), k ≤ 512 ∧ i = .int .i64 ((2048 + 4 * k : Nat) : Int) ∧ Hid (WW w wr G M m [.int .i64 nw, .int .i64 cwp, .slice pr regs.length cr, .slice pf frames.length cf, .int .u8 flags, .int .u8 pil, .slice pg globals.length cg, .int .u32 fill, .bool up]) ∧ Hid (m.kind = 0 ∧ m.f = Fx.new nw ∧ m.out = [] ∧ WCode m.mem nw none)) (fun i _ => 4096 - (intOf i).toNat)
  case atStart => exact ⟨0, _, _, by omega, rfl, WW0, HC⟩
  case round =>
    clear WW0 HC
    obtain ⟨k, G, m, hk, rfl, WQ, HC⟩ := hrel
    by_cases hlt : k < 512
    · have h1 : ((2048 + 4 * k : Nat) : Int) < 4096 := by omega
      have b7 := WQ.out.box.cell (k := 7) rfl
      have HMEM := mhid (fun (w' : World) (hb : Below wr.heap.size wr w') => mmem_any w' G M m (WQ.out.keep hb).mis.at')
      have hbl0 := Below.refl wr.heap.size wr
      have hle0 : wr.heap.size ≤ wr.heap.size := Nat.le_refl _
      have HK7 := mhid (fun (w' : World) (hb : Below wr.heap.size wr w') => (WQ.out.keep hb).box.cell (k := 7) rfl)
      have eu : IntKind.u32.wrap (2048 + 4 * (k : Int)) = ((2048 + 4 * k : Nat) : Int) := by rw [IntWalk.u32_in _ (by omega)]; omega
      have EU := mhid eu
      have HST := mhid (fun (w' : World) (hb : Below wr.heap.size wr w') => mw_store w w' G M m (WQ.out.keep hb).mis (IntKind.u32.wrap (2048 + 4 * (k : Int))) (IntKind.u32.wrap (fill + IntKind.u32.wrap (IntKind.u32.wrap (2048 + 4 * (k : Int)) * 2654435761))) (u32w_bd _) (u32w_bd _))
      have HWK := mhid (fun (w' : World) (hb : Below wr.heap.size wr w') => WQ.out.keep hb)
      clear eu
      go_wp2_with fail
      go_region_held3 (fun w' => w'.cell? ⟨w.heap.size, 7, none⟩ = some (.int .u32 fill)) (first | (with_reducible exact b7) | (with_reducible exact b7x) | (refine HK7.out _ ?_; go_grown; done))
        (first
          | (go_at_call 16; refine (HMEM.out _ (by go_grown)).mono ?_; rintro e wx ⟨rfl, rfl⟩)
          | (go_at_call 17; refine (HST.out _ (by go_grown)).mono ?_; rintro e w5 ⟨rfl, hto⟩; obtain ⟨G5, hW5⟩ := (HWK.out _ (by go_grown)).to hto; have b7x := hW5.box.cell (k := 7) rfl))
      have hW5b := hW5
      rw [EU.out] at hW5b
      have hc5 := HC.out.2.2.2.store HF.out.n (a := 2048 + 4 * k) (by omega) (by omega) (by omega) (IntKind.u32.wrap (fill + IntKind.u32.wrap (((2048 + 4 * k : Nat) : Int) * 2654435761)))
      have HW5 := mhid hW5b
      have HC5 := mhid (And.intro HC.out.1 (And.intro HC.out.2.1 (And.intro HC.out.2.2.1 hc5)))
      clear hW5 hW5b hc5 hto b7 b7x
      go_wp2_with fail
      exact ⟨⟨k + 1, G5, _, by omega, by go_num, HW5, HC5⟩, by simp [intOf] <;> omega⟩
    · obtain rfl : k = 512 := by omega
      have b8 := WQ.out.box.cell (k := 8) rfl
      obtain ⟨wr0, hwr0⟩ : ∃ x, x = wr := ⟨_, rfl⟩
      go_upto_if 119 with (fail)
      go_cut [15] from 118 (fun op w' => w' = wr0 ∧ op = .int .u8 (turnOp up).op)
      case first =>
        cases up
        · go_wp2_with fail
          go_meet
          exact ⟨hwr0.symm, rfl⟩
        · go_wp2_with fail
          go_meet
          exact ⟨hwr0.symm, rfl⟩
      case rest =>
        obtain ⟨rfl, rfl⟩ := hcut
        obtain rfl := hwr0
        clear b8
        go_wp2_with fail
        refine (renc_any (turnOp up) (by cases up <;> decide) _).mono ?_
        rintro e w5 ⟨rfl, hb5⟩
        have WQ5 := mhid (WQ.out.keep hb5)
        clear hb5 WQ
        go_wp2_with fail
        refine (mmem_any w5 G M m WQ5.out.mis.at').mono ?_
        rintro e w' ⟨rfl, rfl⟩
        have hxb := encS_bd (show (turnOp up).bd by cases up <;> decide)
        go_wp2_with fail
        refine (mw_store w w5 G M m WQ5.out.mis 1536 _ (by decide) hxb).mono ?_
        rintro e w6 ⟨rfl, hto⟩
        obtain ⟨G6, hW6⟩ := WQ5.out.to hto
        have WQ6 := mhid hW6
        have HC6 := mhid (show ({ m with mem := storeV m.mem 1536 4 (encS (turnOp up)) } : Mx).kind = 0 ∧ ({ m with mem := storeV m.mem 1536 4 (encS (turnOp up)) } : Mx).f.nw = nw ∧ ({ m with mem := storeV m.mem 1536 4 (encS (turnOp up)) } : Mx).out = [] ∧ WCode ({ m with mem := storeV m.mem 1536 4 (encS (turnOp up)) } : Mx).mem nw (some (turnOp up)) from
          ⟨HC.out.1, by show m.f.nw = nw; rw [HC.out.2.1]; rfl, HC.out.2.2.1, HC.out.2.2.2.code HF.out.n (by cases up <;> decide) (by cases up <;> decide)⟩)
        have HF6 := mhid (show ({ m with mem := storeV m.mem 1536 4 (encS (turnOp up)) } : Mx).f = regF nw regs 0 from HC.out.2.1)
        clear hto hW6 WQ5 HC hxb
        generalize ({ m with mem := storeV m.mem 1536 4 (encS (turnOp up)) } : Mx) = m6 at *
        go_wp2_with fail
        go_loopw [18] (fun i wx => ∃ (k : Nat) (G : MG) (m : Mx), k ≤ regs.length ∧ i = .int .i64 (k : Int) ∧ Hid (WW w wx G M m [.int .i64 nw, .int .i64 cwp, .slice pr regs.length cr, .slice pf frames.length cf, .int .u8 flags, .int .u8 pil, .slice pg globals.length cg, .int .u32 fill, .bool up]) ∧ Hid (m.kind = 0 ∧ m.f.nw = nw ∧ m.out = [] ∧ WCode m.mem nw (some (turnOp up))) ∧ Hid (m.f = regF nw regs k)) (fun i _ => regs.length - (intOf i).toNat)
        case atStart => exact ⟨0, _, _, Nat.zero_le _, rfl, WQ6, HC6, HF6⟩
        case round =>
          clear WQ6 HC6 HF6
          obtain ⟨k, G, m, hk, rfl, WQ, HC, HFL⟩ := hrel
          have b2 := WQ.out.box.cell (k := 2) rfl
          by_cases hlt : k < regs.length
          · have h1 : (k : Int) < (regs.length : Int) := by omega
            obtain ⟨rb, ro, rfl, hrc⟩ := HX.out.r.cell (by show 0 < regs.length; omega)
            have hk512 : k < 512 := by have : regs.length ≤ 512 := HMY.out.2.2.2.2.1; omega
            have c0 := (WQ.out.mis.bel.cell (World.block_lt_of_cell? _ _ (hrc k hlt))).trans (hrc k hlt)
            have b0 := WQ.out.box.cell (k := 0) rfl
            have hxb : 0 ≤ regs.getD k 0 ∧ regs.getD k 0 < 4294967296 := HX.out.r.1.1.at k
            have HMF := mhid (fun (w' : World) (hb : Below wr.heap.size wr w') => mfile_any w' G M m (WQ.out.keep hb).mis.at')
            have HWK := mhid (fun (w' : World) (hb : Below wr.heap.size wr w') => WQ.out.keep hb)
            have HST := mhid (fun (w' : World) (hb : Below wr.heap.size wr w') (a r : Int) => mw_set w w' G M m (WQ.out.keep hb).mis a 0 r (regs.getD k 0) hxb)
            have HKK := mhid (fun (w' : World) (hb : Below wr.heap.size wr w') => (show w'.cell? ⟨w.heap.size, 0, none⟩ = some (.int .i64 nw) ∧ w'.cell? ⟨w.heap.size, 2, none⟩ = some (.slice (some ⟨rb, ro, none⟩) regs.length cr) ∧ w'.cell? ⟨rb, ro + k, none⟩ = some (.int .u32 (regs.getD k 0)) from ⟨(WQ.out.keep hb).box.cell (k := 0) rfl, (WQ.out.keep hb).box.cell (k := 2) rfl, (hb.cell (World.block_lt_of_cell? _ _ c0)).trans c0⟩))
            have hbl0 := Below.refl wr.heap.size wr
            have hle0 : wr.heap.size ≤ wr.heap.size := Nat.le_refl _
            have hnw0 : ((nw : Int) == 0) = false := by rw [beq_eq_false_iff_ne]; omega
            have hnw1 : ¬ (nw : Int) = 0 := by omega
            have hnw2 : decide ((nw : Int) = 0) = false := decide_eq_false hnw1
            have hnw3 : ¬ nw = 0 := by omega
            have hnw4 : decide (nw = 0) = false := decide_eq_false hnw3
            have HB0 := mhid (fun (w' : World) (hb : Below w.heap.size w w') => (hb.cell (World.block_lt_of_cell? _ _ (hrc k hlt))).trans (hrc k hlt))
            clear hrc
            have HRX := mhid (show regF nw regs (k + 1) = setV (regF nw regs k) ((IntKind.i64.wrap ((k : Int) / 16)).tmod nw) 0 (IntKind.i64.wrap (16 + (k : Int).tmod 16)) (regs.getD k 0) from rfl)
            generalize regs.getD k 0 = x at *
            go_wp2_with fail
            go_region_held3 (fun w' => w'.cell? ⟨w.heap.size, 0, none⟩ = some (.int .i64 nw) ∧ w'.cell? ⟨w.heap.size, 2, none⟩ = some (.slice (some ⟨rb, ro, none⟩) regs.length cr) ∧ w'.cell? ⟨rb, ro + k, none⟩ = some (.int .u32 x)) (first | (with_reducible exact ⟨b0, b2, c0⟩) | (with_reducible exact hSx) | (refine HKK.out _ ?_; go_grown; done))
              (first
                | (go_at_call 12; refine (HMF.out _ (by go_grown)).mono ?_; rintro e wx ⟨rfl, rfl⟩)
                | (go_at_call 20; refine (HST.out _ (by go_grown) _ _).mono ?_; rintro e w5 ⟨rfl, hto⟩; obtain ⟨G5, hW5⟩ := (HWK.out _ (by go_grown)).to hto; have hSx := (show w5.cell? ⟨w.heap.size, 0, none⟩ = some (.int .i64 nw) ∧ w5.cell? ⟨w.heap.size, 2, none⟩ = some (.slice (some ⟨rb, ro, none⟩) regs.length cr) ∧ w5.cell? ⟨rb, ro + k, none⟩ = some (.int .u32 x) from ⟨hW5.box.cell (k := 0) rfl, hW5.box.cell (k := 2) rfl, HB0.out w5 hW5.mis.bel⟩)))
            all_goals
              have HW5 := mhid hW5
              clear hSx b0 b2 c0 hto hW5
              go_wp2_with fail
              exact ⟨⟨k + 1, G5, _, by omega, by go_num, HW5, mhid ⟨HC.out.1, (setV_nw _ _ _ _ _).trans HC.out.2.1, HC.out.2.2⟩, mhid ((congrArg (fun f => setV f ((IntKind.i64.wrap ((k : Int) / 16)).tmod nw) 0 (IntKind.i64.wrap (16 + (k : Int).tmod 16)) x) HFL.out).trans HRX.out.symm)⟩, by simp [intOf] <;> omega⟩
          · obtain rfl : k = regs.length := by omega
            go_wp2_with fail
            go_loopw [19] (fun i wx => ∃ (k : Nat) (G : MG) (m : Mx), k ≤ nw ∧ i = .int .i64 (k : Int) ∧ Hid (WW w wx G M m [.int .i64 nw, .int .i64 cwp, .slice pr regs.length cr, .slice pf frames.length cf, .int .u8 flags, .int .u8 pil, .slice pg globals.length cg, .int .u32 fill, .bool up]) ∧ Hid (m.kind = 0 ∧ m.f.nw = nw ∧ m.out = [] ∧ WCode m.mem nw (some (turnOp up)) ∧ FrOk m.f k 4096) ∧ Hid (m.f = spF (regF nw regs regs.length) frames k)) (fun i _ => nw - (intOf i).toNat)
            case atStart => exact ⟨0, _, _, Nat.zero_le _, rfl, WQ, mhid ⟨HC.out.1, HC.out.2.1, HC.out.2.2.1, HC.out.2.2.2, fun w hw => by omega⟩, HFL⟩
            case round =>
              clear WQ HC b2 HFL
              obtain ⟨k, G, m, hk, rfl, WQ, HC, HFL⟩ := hrel
              have b0 := WQ.out.box.cell (k := 0) rfl
              have b3 := WQ.out.box.cell (k := 3) rfl
              by_cases hlt : k < nw
              · have h1 : (k : Int) < (nw : Int) := by omega
                obtain ⟨wr0, hwr0⟩ : ∃ x, x = wr := ⟨_, rfl⟩
                go_upto_if 166 with (fail)
                go_cut [20] from 153 to 180 (fun fv w' => w' = wr0 ∧ ∃ y : Int, fv = .int .u16 y ∧ 0 ≤ y ∧ y < 65536 ∧ y = frmY frames k)
                case first =>
                  by_cases hf : k < frames.length
                  · have hfi : (k : Int) < (frames.length : Int) := by omega
                    obtain ⟨-, hfb, p9, c9, fb, fo, e9, hf9, hfc⟩ := HX.out.f
                    cases e9
                    obtain rfl := hf9 (by show 0 < frames.length; omega)
                    obtain ⟨y, hy⟩ : ∃ y, frames[k]? = some y := ⟨_, List.getElem?_eq_getElem hf⟩
                    have hyb := hfb y (List.mem_of_getElem? hy)
                    have c0 := (WQ.out.mis.bel.cell (World.block_lt_of_cell? _ _ (hfc k y hy))).trans (hfc k y hy)
                    go_wp2_with fail
                    go_meet
                    exact ⟨hwr0.symm, y, rfl, hyb.1, hyb.2, by unfold frmY; rw [if_pos hf, List.getD_eq_getElem?_getD, hy]; rfl⟩
                  · have hfi : ¬ (k : Int) < (frames.length : Int) := by omega
                    go_wp2_with fail
                    go_meet
                    exact ⟨hwr0.symm, _, rfl, by omega, by omega, by unfold frmY; rw [if_neg hf]⟩
                case rest =>
                  obtain ⟨rfl, y, rfl, hy0, hy1, hyf⟩ := hcut
                  obtain rfl := hwr0
                  have e1 : y.tmod 496 = y % 496 := Int.tmod_eq_emod_of_nonneg hy0
                  obtain ⟨A, hA⟩ : ∃ A : Nat, 2048 + y % 496 * 4 = (A : Int) := ⟨(2048 + y % 496 * 4).toNat, by omega⟩
                  have hA2 : 2048 ≤ A ∧ A % 4 = 0 ∧ A + 64 ≤ 4096 := by omega
                  obtain ⟨z, hz⟩ : ∃ z, z = y % 496 := ⟨_, rfl⟩
                  have hzb : 0 ≤ z ∧ z < 496 := by omega
                  have HZA := mhid (show 2048 + z * 4 = (A : Int) by rw [hz]; exact hA)
                  have HYA := mhid (show (A : Int) = 2048 + frmY frames k % 496 * 4 from by rw [← hyf]; exact hA.symm)
                  rw [← hz] at e1
                  clear hz hA b3 hyf
                  go_wp2_with fail
                  refine (mfile_any _ G M m WQ.out.mis.at').mono ?_
                  rintro e w' ⟨rfl, rfl⟩
                  go_wp2_with fail
                  refine (mw_set w _ G M m WQ.out.mis (k : Int) 0 14 (2048 + z * 4) ⟨by omega, by omega⟩).mono ?_
                  rintro e w5 ⟨rfl, hto⟩
                  obtain ⟨G5, hW5⟩ := WQ.out.to hto
                  have hok := WQ.out.mis.at'.ok.f
                  rw [HZA.out] at hW5
                  have HW5 := mhid hW5
                  have HC5 := mhid (show ({ m with f := setV m.f k 0 14 A } : Mx).kind = 0 ∧ ({ m with f := setV m.f k 0 14 A } : Mx).f.nw = nw ∧ ({ m with f := setV m.f k 0 14 A } : Mx).out = [] ∧ WCode ({ m with f := setV m.f k 0 14 A } : Mx).mem nw (some (turnOp up)) ∧ FrOk ({ m with f := setV m.f k 0 14 A } : Mx).f (k + 1) 4096 from
                    ⟨HC.out.1, (setV_nw _ _ _ _ _).trans HC.out.2.1, HC.out.2.2.1, HC.out.2.2.2.1, HC.out.2.2.2.2.set hok (by rw [HC.out.2.1]; exact hlt) hA2.1 hA2.2.1 hA2.2.2⟩)
                  have HF5 := mhid (show ({ m with f := setV m.f k 0 14 A } : Mx).f = spF (regF nw regs regs.length) frames (k + 1) from by
                    show setV m.f k 0 14 A = setV (spF (regF nw regs regs.length) frames k) k 0 14 (2048 + frmY frames k % 496 * 4)
                    rw [HYA.out, HFL.out])
                  clear hto hW5 hok WQ HC HFL
                  go_wp2_with fail
                  exact ⟨⟨k + 1, G5, _, by omega, by go_num, HW5, HC5, HF5⟩, by simp [intOf] <;> omega⟩
              · obtain rfl : nw = k := by omega
                clear b3
                go_wp2_with fail
                go_loopw [21] (fun i wx => ∃ (k : Nat) (G : MG) (m : Mx), k ≤ globals.length ∧ i = .int .i64 (k : Int) ∧ Hid (WW w wx G M m [.int .i64 nw, .int .i64 cwp, .slice pr regs.length cr, .slice pf frames.length cf, .int .u8 flags, .int .u8 pil, .slice pg globals.length cg, .int .u32 fill, .bool up]) ∧ Hid (m.kind = 0 ∧ m.f.nw = nw ∧ m.out = [] ∧ WCode m.mem nw (some (turnOp up)) ∧ FrOk m.f nw 4096) ∧ Hid (m.f = gloF (spF (regF nw regs regs.length) frames nw) globals k)) (fun i _ => globals.length - (intOf i).toNat)
                case atStart => exact ⟨0, _, _, Nat.zero_le _, rfl, WQ, HC, HFL⟩
                case round =>
                  clear WQ HC b0 HFL
                  obtain ⟨k, G, m, hk, rfl, WQ, HC, HFL⟩ := hrel
                  have b6 := WQ.out.box.cell (k := 6) rfl
                  by_cases hlt : k < globals.length
                  · have h1 : (k : Int) < (globals.length : Int) := by omega
                    obtain ⟨rb, ro, rfl, hrc⟩ := HX.out.g.cell (by show 0 < globals.length; omega)
                    have hk512 : k < 512 := by have : globals.length ≤ 120 := HMY.out.2.2.2.2.2.2; omega
                    have c0 := (WQ.out.mis.bel.cell (World.block_lt_of_cell? _ _ (hrc k hlt))).trans (hrc k hlt)
                    have hxb : 0 ≤ globals.getD k 0 ∧ globals.getD k 0 < 4294967296 := HX.out.g.1.1.at k
                    have HMF := mhid (fun (w' : World) (hb : Below wr.heap.size wr w') => mfile_any w' G M m (WQ.out.keep hb).mis.at')
                    have HWK := mhid (fun (w' : World) (hb : Below wr.heap.size wr w') => WQ.out.keep hb)
                    have HST := mhid (fun (w' : World) (hb : Below wr.heap.size wr w') (a r : Int) => mw_set w w' G M m (WQ.out.keep hb).mis 0 a r (globals.getD k 0) hxb)
                    have HKK := mhid (fun (w' : World) (hb : Below wr.heap.size wr w') => (show w'.cell? ⟨w.heap.size, 6, none⟩ = some (.slice (some ⟨rb, ro, none⟩) globals.length cg) ∧ w'.cell? ⟨rb, ro + k, none⟩ = some (.int .u32 (globals.getD k 0)) from ⟨(WQ.out.keep hb).box.cell (k := 6) rfl, (hb.cell (World.block_lt_of_cell? _ _ c0)).trans c0⟩))
                    have hbl0 := Below.refl wr.heap.size wr
                    have hle0 : wr.heap.size ≤ wr.heap.size := Nat.le_refl _
                    have HB0 := mhid (fun (w' : World) (hb : Below w.heap.size w w') => (hb.cell (World.block_lt_of_cell? _ _ (hrc k hlt))).trans (hrc k hlt))
                    have hm7 : (k : Int).tmod 7 < 7 := Int.tmod_lt_of_pos _ (by decide)
                    have hm8 : 0 ≤ (k : Int).tmod 7 := Int.tmod_nonneg _ (by omega)
                    have HM7 := mhid (show IntKind.i64.wrap (1 + (k : Int).tmod 7) < 8 from by rw [IntWalk.i64_in _ (by omega)]; omega)
                    clear hrc hm7 hm8
                    have HGX := mhid (show gloF (spF (regF nw regs regs.length) frames nw) globals (k + 1) = setV (gloF (spF (regF nw regs regs.length) frames nw) globals k) 0 ((k : Int).tmod 16) (IntKind.i64.wrap (1 + (k : Int).tmod 7)) (globals.getD k 0) from rfl)
                    generalize globals.getD k 0 = x at *
                    go_wp2_with fail
                    go_region_held3 (fun w' => w'.cell? ⟨w.heap.size, 6, none⟩ = some (.slice (some ⟨rb, ro, none⟩) globals.length cg) ∧ w'.cell? ⟨rb, ro + k, none⟩ = some (.int .u32 x)) (first | (with_reducible exact ⟨b6, c0⟩) | (with_reducible exact hSx) | (refine HKK.out _ ?_; go_grown; done))
                      (first
                        | (go_at_call 12; refine (HMF.out _ (by go_grown)).mono ?_; rintro e wx ⟨rfl, rfl⟩)
                        | (go_at_call 20; refine (HST.out _ (by go_grown) _ _).mono ?_; rintro e w5 ⟨rfl, hto⟩; obtain ⟨G5, hW5⟩ := (HWK.out _ (by go_grown)).to hto; have hSx := (show w5.cell? ⟨w.heap.size, 6, none⟩ = some (.slice (some ⟨rb, ro, none⟩) globals.length cg) ∧ w5.cell? ⟨rb, ro + k, none⟩ = some (.int .u32 x) from ⟨hW5.box.cell (k := 6) rfl, HB0.out w5 hW5.mis.bel⟩)))
                    all_goals
                      have HW5 := mhid hW5
                      have HC5 := mhid (show m.kind = 0 ∧ (setV m.f 0 ((k : Int).tmod 16) (IntKind.i64.wrap (1 + (k : Int).tmod 7)) x).nw = nw ∧ m.out = [] ∧ WCode m.mem nw (some (turnOp up)) ∧ FrOk (setV m.f 0 ((k : Int).tmod 16) (IntKind.i64.wrap (1 + (k : Int).tmod 7)) x) nw 4096 from
                        ⟨HC.out.1, (setV_nw _ _ _ _ _).trans HC.out.2.1, HC.out.2.2.1, HC.out.2.2.2.1, HC.out.2.2.2.2.glo (by rw [HC.out.2.1]; omega) HM7.out x⟩)
                      clear hSx b6 c0 hto hW5
                      go_wp2_with fail
                      refine ⟨⟨k + 1, G5, { m with f := setV m.f 0 ((k : Int).tmod 16) (IntKind.i64.wrap (1 + (k : Int).tmod 7)) x }, by omega, by go_num, ?_, ?_, ?_⟩, by simp [intOf] <;> omega⟩
                      · exact HW5
                      · exact HC5
                      · exact mhid ((congrArg (fun f => setV f 0 ((k : Int).tmod 16) (IntKind.i64.wrap (1 + (k : Int).tmod 7)) x) HFL.out).trans HGX.out.symm)
                  · obtain rfl : k = globals.length := by omega
                    go_wp2_with fail
                    refine (mw_setpc w _ G M m WQ.out.mis 1536 (by decide)).mono ?_
                    rintro e w5 ⟨rfl, hto⟩
                    obtain ⟨G5, hW5⟩ := WQ.out.to hto
                    have WQ5 := mhid hW5
                    obtain ⟨cw, rfl⟩ := Int.eq_ofNat_of_zero_le (show 0 ≤ cwp from HMY.out.2.1.1)
                    have hcw : cw < nw := by have : (cw : Int) < (nw : Int) := HMY.out.2.1.2; omega
                    have hpil : 0 ≤ pil ∧ pil ≤ 15 := ⟨HX.out.pil.1, HMY.out.2.2.1⟩
                    have hfl : 0 ≤ flags ∧ flags ≤ 15 := ⟨HX.out.fl.1, HMY.out.2.2.2.1⟩
                    have b1 := WQ5.out.box.cell (k := 1) rfl
                    have b4 := WQ5.out.box.cell (k := 4) rfl
                    have b5 := WQ5.out.box.cell (k := 5) rfl
                    have hu8 : IntKind.u8.wrap (cw : Int) = (cw : Int) := IntWalk.u8_in _ (by omega)
                    clear hto hW5 WQ b6
                    go_wp2_with fail
                    have hqb : (⟨cw, pil, 0, flags⟩ : Px).bd := by unfold Px.bd; simp only; omega
                    refine (mw_setpsr w w5 G5 M _ WQ5.out.mis ⟨cw, pil, 0, flags⟩ hqb).mono ?_
                    rintro e w6 ⟨rfl, hto⟩
                    have hnwm : m.nw = (nw : Int) := by unfold Mx.nw; rw [HC.out.2.1]
                    have hpm : pmayP ⟨cw, pil, 0, flags⟩ (nw : Int) := by unfold pmayP; simp only; omega
                    have hwp : winP (nw : Int) := ⟨by omega, by omega⟩
                    have hpk : packE ⟨cw, pil, 0, flags⟩ ({ m with pc := 1536 } : Mx).nw = 0 := by
                      show packE _ m.nw = 0
                      rw [hnwm]; exact if_pos ⟨hwp, hpm⟩
                    obtain ⟨G6, hW6⟩ := WQ5.out.to hto
                    have hsp : spsrM { m with pc := 1536 } ⟨cw, pil, 0, flags⟩ = { m with pc := 1536, p := ⟨cw, pil, 0, flags⟩ } := if_pos hpk
                    rw [hsp] at hW6
                    have WQ6 := mhid hW6
                    have b0 := WQ6.out.box.cell (k := 0) rfl
                    have b1 := WQ6.out.box.cell (k := 1) rfl
                    have b8 := WQ6.out.box.cell (k := 8) rfl
                    have HCW := mhid (And.intro hcw (And.intro hpm hwp))
                    clear hto hW6 hsp hpk WQ5 b4 b5 hqb hpm hwp
                    have e1 : IntKind.i64.wrap ((cw : Int) + (nw : Int)) = (cw : Int) + (nw : Int) := IntWalk.i64_in _ (by omega)
                    have e2 : IntKind.i64.wrap ((cw : Int) + (nw : Int) - 1) = ((cw + nw - 1 : Nat) : Int) := by rw [IntWalk.i64_in _ (by omega)]; omega
                    have e3 : IntKind.i64.wrap ((cw : Int) + 1) = ((cw + 1 : Nat) : Int) := by rw [IntWalk.i64_in _ (by omega)]; omega
                    have e4 : ((cw + nw - 1 : Nat) : Int).tmod (nw : Int) = (((cw + nw - 1) % nw : Nat) : Int) := by rw [Int.tmod_eq_emod_of_nonneg (by omega)]; exact (Int.natCast_emod _ _).symm
                    have e5 : ((cw + 1 : Nat) : Int).tmod (nw : Int) = (((cw + 1) % nw : Nat) : Int) := by rw [Int.tmod_eq_emod_of_nonneg (by omega)]; exact (Int.natCast_emod _ _).symm
                    have hnz : ((nw : Int) == 0) = false := by rw [beq_eq_false_iff_ne]; omega
                    obtain ⟨wr0, hwr0⟩ : ∃ x, x = w6 := ⟨_, rfl⟩
                    go_upto_if 223 with (fail)
                    go_cut [22] from 222 (fun t w' => w' = wr0 ∧ t = .int .i64 ((toW ⟨nw, cw, regs, frames, flags, pil, globals, fill, up⟩ : Nat) : Int))
                    case first =>
                      cases up
                      · go_wp2_with fail
                        go_meet
                        exact ⟨hwr0.symm, congrArg (Value.int IntKind.i64) (Int.natCast_emod _ _).symm⟩
                      · go_wp2_with fail
                        go_meet
                        exact ⟨hwr0.symm, congrArg (Value.int IntKind.i64) (Int.natCast_emod _ _).symm⟩
                    case rest =>
                      obtain ⟨rfl, rfl⟩ := hcut
                      obtain rfl := hwr0
                      have hto : toW ⟨nw, cw, regs, frames, flags, pil, globals, fill, up⟩ < nw := by
                        have : toW ⟨nw, cw, regs, frames, flags, pil, globals, fill, up⟩ = if up then (cw + 1) % nw else (cw + nw - 1) % nw := rfl
                        rw [this]; split <;> exact Nat.mod_lt _ (by omega)
                      have HTO := mhid (show toW ⟨nw, cw, regs, frames, flags, pil, globals, fill, up⟩ = toW ⟨nw, cw, regs, frames, flags, pil, globals, fill, up⟩ from rfl)
                      generalize htt : toW ⟨nw, cw, regs, frames, flags, pil, globals, fill, up⟩ = tw at *
                      have ht32 : tw < 32 := by omega
                      have HTT := mhid htt
                      have hpw : (2 : Int) ^ tw % 4294967296 = 2 ^ tw := Int.emod_eq_of_lt (Int.pow_nonneg (by decide)) (wim_lt' tw ht32)
                      clear htt HTO b0 b1 b8 e1 e2 e3 e4 e5 hnz
                      go_wp2_with fail
                      refine (mw_setwim w _ G6 M _ WQ6.out.mis HBR.out (2 ^ tw) ⟨Int.pow_nonneg (by decide), wim_lt' tw ht32⟩).mono ?_
                      rintro e w7 ⟨rfl, hto7⟩
                      obtain ⟨G7, hW7⟩ := WQ6.out.to hto7
                      have hwe : swimM { m with pc := 1536, p := ⟨cw, pil, 0, flags⟩ } (2 ^ tw) = { m with pc := 1536, p := ⟨cw, pil, 0, flags⟩, wim := 2 ^ tw } := by
                        unfold swimM
                        refine if_pos ?_
                        show invE _ m.nw = 0
                        rw [hnwm]
                        exact inv_pow h2.1 h2.2 hto
                      rw [hwe] at hW7
                      have hmn : m.f.nw = nw := HC.out.2.1
                      have WQ7 := mhid hW7
                      have HFIN := mhid (show MadeW ⟨nw, cw, regs, frames, flags, pil, globals, fill, up⟩ { m with pc := 1536, p := ⟨cw, pil, 0, flags⟩, wim := 2 ^ tw } from
                        { kind := HC.out.1, nw := by show ((m.f.nw : Nat) : Int) = (nw : Int); rw [hmn], pc := rfl, p := rfl, wim := by rw [HTT.out], out := HC.out.2.2.1,
                          code := by show WCode m.mem m.f.nw _; rw [hmn]; exact HC.out.2.2.2.1, sp := by show FrOk m.f m.f.nw 4096; rw [hmn]; exact HC.out.2.2.2.2,
                          file := by show m.f = fileW _; rw [HFL.out]; rfl })
                      clear hto7 hW7 hwe hmn
                      go_wp2_with fail
                      first
                        | go_ret2
                        | go_ret
                      exact ⟨M, G7, _, rfl, WQ7.out.mis, HFIN.out⟩
end Go.Proofs.YtajholbcpmjhiaaGreatDoor
