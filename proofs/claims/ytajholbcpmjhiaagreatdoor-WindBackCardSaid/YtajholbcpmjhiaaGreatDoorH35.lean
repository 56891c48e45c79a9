/- Several texts in one: WindHeadLaw, WindTurn, WindRunsLaw, WindRuns. -/
import Derived.Test.YtajholbcpmjhiaaGreatDoorH01
import Derived.Test.YtajholbcpmjhiaaGreatDoorH02
import Derived.Test.YtajholbcpmjhiaaGreatDoorH03
import Derived.Test.YtajholbcpmjhiaaGreatDoorH04
import Derived.Test.YtajholbcpmjhiaaGreatDoorH05
import Derived.Test.YtajholbcpmjhiaaGreatDoorH06
import Derived.Test.YtajholbcpmjhiaaGreatDoorH07
import Derived.Test.YtajholbcpmjhiaaGreatDoorH08
import Derived.Test.YtajholbcpmjhiaaGreatDoorH09
import Derived.Test.YtajholbcpmjhiaaGreatDoorH10
import Derived.Test.YtajholbcpmjhiaaGreatDoorH11
import Derived.Test.YtajholbcpmjhiaaGreatDoorH12
import Derived.Test.YtajholbcpmjhiaaGreatDoorH13
import Derived.Test.YtajholbcpmjhiaaGreatDoorH14
import Derived.Test.YtajholbcpmjhiaaGreatDoorH15
import Derived.Test.YtajholbcpmjhiaaGreatDoorH16
import Derived.Test.YtajholbcpmjhiaaGreatDoorH17
import Derived.Test.YtajholbcpmjhiaaGreatDoorH18
import Derived.Test.YtajholbcpmjhiaaGreatDoorH19
import Derived.Test.YtajholbcpmjhiaaGreatDoorH20
import Derived.Test.YtajholbcpmjhiaaGreatDoorH21
import Derived.Test.YtajholbcpmjhiaaGreatDoorH22
import Derived.Test.YtajholbcpmjhiaaGreatDoorH23
import Derived.Test.YtajholbcpmjhiaaGreatDoorH24
import Derived.Test.YtajholbcpmjhiaaGreatDoorH25
import Derived.Test.YtajholbcpmjhiaaGreatDoorH26
import Derived.Test.YtajholbcpmjhiaaGreatDoorH27
import Derived.Test.YtajholbcpmjhiaaGreatDoorH28
import Derived.Test.YtajholbcpmjhiaaGreatDoorH29
import Derived.Test.YtajholbcpmjhiaaGreatDoorH30
import Derived.Test.YtajholbcpmjhiaaGreatDoorH31
import Derived.Test.YtajholbcpmjhiaaGreatDoorH32
import Derived.Test.YtajholbcpmjhiaaGreatDoorH33
import Derived.Test.YtajholbcpmjhiaaGreatDoorH34
import Derived.WalkKit
import Derived.Laws.AppendOwn
import Derived.Below
import Derived.Deep.QuietTactic
import Derived.BigQuiet
import Derived.WalkSpells
import Derived.Test.YtajholbcpmjhiaaGreatDoorProg
import Derived.Handy
import Derived.WalkLawsBesides
import Derived.RegionTactic
import Derived.Outline
import Derived.Lib.BitFns
import Derived.StillTailTactics
import Derived.BigRegion
import Derived.ChangeAlike
import Derived.Maps.OwnSet
import Derived.Maps.Views
import Derived.Laws.AppendOwnNone
import Derived.WalkArith
import Derived.OneCell
import Derived.ArgAppend
import Derived.Lib.SliceRun
import Derived.Laws.Rows
import Derived.IntWalk
import Derived.Laws.CopyOwn
import Derived.Great.Ranges
import Derived.ProofKit
import Derived.OpenShut
import Derived.RangeFuncNested
import Derived.RangeFuncBound
import Derived.RangeFuncCalls
import Derived.RangeFuncLeaves
import Derived.Shelf.Abstract
import Derived.Shelf.RegionOpen
import Derived.OwnWalkIn
import Derived.TacticsInMore
import Derived.LoopNIn
import Derived.LoopIn
import Derived.RegionIn
import Derived.Deep.RegionHeld
import Derived.Deep.RegionHeld3
import Derived.Deep.Cut
import Derived.Laws.EntriesVeiled
import Derived.Deep.RegionLaw
import Derived.Shelf.SlMaps.Clone
import Derived.Deep.AppendLies
import Derived.BigGuardPart
import Derived.Lib.ParseIntB
import Derived.Lib.ItoaNum
import Derived.Shelf.Strings.Cut
import Derived.Shelf.Small.Wraps
import Derived.Shelf.Pu.ParseUintPublic10
import Derived.Shelf.Strconv.Itoa3
import Derived.WalkSmall
import Derived.Lib.IndexMore
import Derived.Maps.AppendAt
import Derived.Deep.Slices
import Derived.Deep.CutRange
/- The case of the document's example, and its file, reckoned by the kernel. -/
namespace Go.Proofs.YtajholbcpmjhiaaGreatDoor
open Go.RowKit
set_option linter.unusedVariables false
set_option linter.unusedSimpArgs false
def headRegs : List Int := (List.range 48).map fun (i : Nat) => 1000 + (i : Int)
def headX : CaseW := ⟨3, 0, headRegs, [0, 100, 200], 0, 0, [], 0, false⟩
theorem head_may : mayW headX := by unfold mayW headX headRegs; simp
theorem head_win : winR (fileW headX) 1 = (List.range 16).map fun (i : Nat) => if i = 14 then 2848 else 1016 + (i : Int) := by decide +kernel
theorem head_out : getV (fileW headX) 1 0 14 = 2448 := by decide +kernel
end Go.Proofs.YtajholbcpmjhiaaGreatDoor
/- Plain law: a SAVE, or a RESTORE, that traps, its handler, and the second try. No program in sight. -/
namespace Go.Proofs.YtajholbcpmjhiaaGreatDoor
open Go.RowKit
set_option linter.unusedVariables false
set_option linter.unusedSimpArgs false
theorem CodeAt.putS {a : Nat} {x : Ix} : ∀ (l : List Int) {d : List Int} {b : Nat}, CodeAt d a x → (a + 4 ≤ b ∨ b + 4 * l.length ≤ a) → CodeAt (putS d b l) a x
  | [], _, _, h, _ => h
  | y :: l, d, b, h, hb => by
    simp only [List.length_cons] at hb
    exact CodeAt.putS l (h.store y (by omega)) (by omega)
/-- Not yet at the place. -/
def Not4 (c : Int) (m : Mx) : Prop := m.kind = 0 ∧ ¬ (m.pc = c ∧ m.p.bank = 0)
def He.of (m : Mx) (pil : Int) (lo : Nat) (L : List Ix) : He := ⟨m.f.nw, m.f.glo.take 128, pil, m.tpsr.set 16 (packS m.p m.nw), m.out, m.v, lo, L⟩
def Hn.of (m : Mx) (cw : Nat) (fl : Int) (c : Int) : Hn := ⟨m.f.win, m.f.glo.drop 128, m.mem, 0, m.wim, cw, fl, m.tpc.set 16 c, m.ch⟩
theorem Mx.ok.noirq {m : Mx} (h : m.ok) : ¬ ((0 : Int) < 16 ∧ m.p.pil < 0) := by
  have := h.pb.2.1.1; omega
theorem trap_in {m : Mx} (hok : m.ok) (hk : m.kind = 0) {c cw : Nat} {pil fl : Int} (hpc : m.pc = c) (hp : m.p = ⟨cw, pil, 0, fl⟩) {x : Ix} (hx : CodeAt m.mem c x) {kind : Nat} (hw : opS m x (getM m x.rs1) (sndM m x) = winM m kind m.pc) {n lo : Nat} (hj : CodeAt m.mem (256 + 16 * kind) ⟨17, 0, 0, 0, true, n⟩) (hlo : 256 + 16 * kind + 4 * n = lo) (hlo3 : lo < 4194304) (L : List Ix) (hL : Codes m.mem lo L) (hlo2 : 256 ≤ lo) :
    (stepM m 0).kind = 0 ∧ (stepM m 0).p.bank = 16 ∧ stepM (stepM m 0) 0 = hm (He.of m pil lo L) (Hn.of m cw fl c) ∧ Hs (He.of m pil lo L) (Hn.of m cw fl c) := by
  have h1 : stepM m 0 = trapM m 16 kind m.pc := by
    rw [step_code hk hok.noirq hpc hx, hw]
    unfold winM
    rw [if_pos (by rw [hp])]
  have hk1 : (stepM m 0).kind = 0 := by rw [h1]; exact hk
  have hb1 : (stepM m 0).p.bank = 16 := by rw [h1]; rfl
  have hok1 := stepM_ok hok (level := 0) (by omega)
  have hok2 := stepM_ok hok1 (level := 0) (by omega)
  have hp1 : (stepM m 0).pc = ((256 + 16 * kind : Nat) : Int) := by rw [h1]; show (256 : Int) + 16 * (kind : Int) = _; omega
  have h2 : stepM (stepM m 0) 0 = hm (He.of m pil lo L) (Hn.of m cw fl c) := by
    rw [step_code hk1 hok1.noirq hp1 (show CodeAt (stepM m 0).mem _ ⟨17, 0, 0, 0, true, n⟩ by rw [h1]; exact hj)]
    unfold opS sndM
    simp only
    rw [if_neg (by decide), if_neg (by decide), if_neg (by decide), if_pos (by decide), if_pos (show holdsS (Int.toNat 0) _ = true from rfl), if_pos (by decide), hp1]
    have e : u32 (((256 + 16 * kind : Nat) : Int) + 4 * u32 (n : Int)) = ((lo + 4 * 0 : Nat) : Int) := by unfold u32; omega
    rw [e, h1]
    unfold trapM hm He.of Hn.of
    simp only [hp, hpc, List.take_append_drop, hk]
    rfl
  refine ⟨hk1, hb1, h2, ?_, ?_, ?_, hlo2, hL⟩
  · show (m.f.glo.take 128).length = 128
    rw [List.length_take, hok.f.gl]; rfl
  · show (m.f.glo.drop 128).length = 8
    rw [List.length_drop, hok.f.gl]
  · rw [← h2]; exact hok2
theorem unpacked {p : Px} {nw : Int} (hb : p.bd) (hw : winP nw) (hm : pmayP p nw) : unE (packW p) nw = 0 ∧ unS (packW p) nw = p := by
  have hu := un_pack hb hw hm
  have hk : unOk (packW p) nw := ⟨(pack_bd hb hw hm).2, by rw [hu]; exact hm⟩
  unfold unE unS
  rw [if_pos hw, if_pos hk, if_pos ⟨hw, hk⟩]
  exact ⟨rfl, hu⟩
def outM (E : He) (s : Hn) (c : Int) (p : Px) : Mx := ⟨⟨E.nw, s.win, E.G0 ++ s.g⟩, s.mem, c, s.wim, p, s.tpc, E.tpsr, s.ch, E.out, 0, E.v⟩
theorem rett_out {E : He} {s : Hn} (h : Hs E s) (hx : E.L[s.i]? = some ⟨32, 0, 0, 0, false, 0⟩) {p : Px} (hb : p.bd) (hpm : pmayP p E.nw) (hw : winP E.nw) (hq : E.tpsr.getD 16 0 = packW p) {c : Int} (hc : s.tpc.getD 16 0 = c) :
    stepM (hm E s) 0 = outM E s c p := by
  rw [step_code (m := hm E s) rfl h.ok.noirq (show (hm E s).pc = ((E.lo + 4 * s.i : Nat) : Int) from rfl) (h.code _ _ hx)]
  obtain ⟨u1, u2⟩ := unpacked hb hw hpm
  unfold opS
  simp only
  rw [if_neg (by decide), if_neg (by decide), if_neg (by decide), if_neg (by decide), if_neg (by decide), if_neg (by decide), if_neg (by decide), if_neg (by decide), if_neg (by decide), if_neg (by decide), if_neg (by decide), if_neg (by decide), if_neg (by decide), if_neg (by decide), if_neg (by decide), if_neg (by decide), if_neg (by decide), if_neg (by decide), if_pos (by decide)]
  have e1 : (hm E s).tpsr.getD (hm E s).p.bank.toNat 0 = packW p := hq
  have e2 : (hm E s).tpc.getD (hm E s).p.bank.toNat 0 = c := hc
  rw [e1, e2, show (hm E s).nw = (E.nw : Int) from rfl, if_neg (by show ¬ ((16 : Int) = 0); decide), if_pos u1, u2]
  rfl
/-- The second try: the window that it goes tow is another than the invalid one. -/
theorem turn_free {m : Mx} (hok : m.ok) (hk : m.kind = 0) {c : Nat} (hpc : m.pc = c) (hc : c < 4194304) {x : Ix} (hx : CodeAt m.mem c x) {tow kind : Int} (hw : opS m x (getM m x.rs1) (sndM m x) = turnM m 0 (getM m x.rs1) (sndM m x) tow kind) (ht : tow ≠ invV m.wim m.nw) :
    stepM m 0 = { m with p := { m.p with cwp := tow }, pc := ((c + 4 : Nat) : Int) } := by
  rw [step_code hk hok.noirq hpc hx, hw]
  unfold turnM
  rw [if_neg ht]
  unfold onM setM setF
  have e : u32 (m.pc + 4) = ((c + 4 : Nat) : Int) := by rw [hpc]; unfold u32; omega
  simp only [Int.toNat_zero, if_true, e]
/-- The machine behind a turn that trapped. -/
structure After (m m' : Mx) (c : Nat) (cw k : Nat) (pil fl : Int) : Prop where
  ok : m'.ok
  kind : m'.kind = 0
  pc : m'.pc = ((c + 4 : Nat) : Int)
  p : m'.p = ⟨cw, pil, 0, fl⟩
  wim : m'.wim = 2 ^ k
  out : m'.out = m.out
  nw : m'.f.nw = m.f.nw
  glo : m'.f.glo.take 128 = m.f.glo.take 128
theorem turn_lens : ∀ nw : Nat, nw < 33 → (turnI nw 9 8).length ≤ 30 ∧ (turnI nw 8 9).length ≤ 30 := by decide +kernel
theorem over_end (nw : Nat) : (overL nw)[(turnI nw 9 8).length + 26]? = some ⟨32, 0, 0, 0, false, 0⟩ := by
  unfold overL
  rw [List.getElem?_append_right (by omega), Nat.add_sub_cancel_left]
  rfl
theorem under_end (nw : Nat) : (underL nw)[(turnI nw 8 9).length + 26]? = some ⟨32, 0, 0, 0, false, 0⟩ := by
  unfold underL
  rw [List.getElem?_append_right (by omega), Nat.add_sub_cancel_left]
  rfl
theorem Codes.left {d : List Int} {lo : Nat} {A B : List Ix} (h : Codes d lo (A ++ B)) : Codes d lo A := fun i x hx => by
  have hi := (List.getElem?_eq_some_iff.1 hx).1
  exact h i x (by rw [List.getElem?_append_left hi]; exact hx)
theorem Codes.right {d : List Int} {lo : Nat} {A B : List Ix} (h : Codes d lo (A ++ B)) : Codes d (lo + 4 * A.length) B := fun i x hx => by
  have := h (A.length + i) x (by rw [List.getElem?_append_right (by omega), Nat.add_sub_cancel_left]; exact hx)
  rw [show lo + 4 * A.length + 4 * i = lo + 4 * (A.length + i) by omega]; exact this
theorem less_one {n a : Nat} (ha : a < n) : (a + n - 1) % n = if a = 0 then n - 1 else a - 1 := by
  by_cases h0 : a = 0
  · subst h0; rw [if_pos rfl, Nat.zero_add, Nat.mod_eq_of_lt (by omega)]
  · rw [if_neg h0, show a + n - 1 = (a - 1) + n by omega, Nat.add_mod_right, Nat.mod_eq_of_lt (by omega)]
theorem more_one {n a : Nat} (ha : a < n) : (a + 1) % n = if a = n - 1 then 0 else a + 1 := by
  by_cases h0 : a = n - 1
  · rw [if_pos h0, show a + 1 = n by omega, Nat.mod_self]
  · rw [if_neg h0, Nat.mod_eq_of_lt (by omega)]
theorem less_two {n a : Nat} (ha : a < n) (h2 : 2 ≤ n) : ((a + n - 1) % n + n - 1) % n = (a + n - 2) % n := by
  have hl : (a + n - 1) % n < n := Nat.mod_lt _ (by omega)
  rw [less_one hl, less_one ha]
  by_cases h0 : a = 0
  · subst h0
    rw [if_pos rfl, if_neg (by omega), Nat.zero_add, Nat.mod_eq_of_lt (by omega)]; omega
  · rw [if_neg h0]
    by_cases h1 : a = 1
    · subst h1
      rw [if_pos rfl, show 1 + n - 2 = n - 1 by omega, Nat.mod_eq_of_lt (by omega)]
    · rw [if_neg (by omega), show a + n - 2 = (a - 2) + n by omega, Nat.add_mod_right, Nat.mod_eq_of_lt (by omega)]; omega
theorem path_in {E : He} {n c : Nat} {s s' : Hn} (h : Path PH n (hm E s) (hm E s')) : Path (Not4 ((c + 4 : Nat) : Int)) n (hm E s) (hm E s') :=
  h.mono fun m hm => ⟨hm.1, fun e => by rw [hm.2.1] at e; exact absurd e.2 (by decide)⟩
theorem wind_core {m : Mx} (hok : m.ok) (hk : m.kind = 0) {c cw : Nat} {pil fl : Int} (hpc : m.pc = c) (hc4 : c < 4194304) (hp : m.p = ⟨cw, pil, 0, fl⟩) {x : Ix} (hx : CodeAt m.mem c x) {kind : Nat} {tow : Nat}
    (hop : ∀ m1 : Mx, m1.p = ⟨cw, pil, 0, fl⟩ → m1.f.nw = m.f.nw → opS m1 x (getM m1 x.rs1) (sndM m1 x) = turnM m1 0 (getM m1 x.rs1) (sndM m1 x) (tow : Int) kind)
    (hto : invV m.wim m.nw = tow) {n lo : Nat} (hj : CodeAt m.mem (256 + 16 * kind) ⟨17, 0, 0, 0, true, n⟩) (hlo : 256 + 16 * kind + 4 * n = lo) (hlo3 : lo < 4194304) (L : List Ix) (hL : Codes m.mem lo L) (hlo2 : 256 ≤ lo)
    {N k2 last i2 : Nat} {win2 mem2 g2 : List Int} (hN : N ≤ 56) (hg2 : g2.length = 8)
    (hrun : Hp (He.of m pil lo L) N (Hn.of m cw fl c) ⟨win2, g2, mem2, i2, 2 ^ k2, last, fl, m.tpc.set 16 c, m.ch⟩)
    (hx2 : CodeAt mem2 c x) (hend : L[i2]? = some ⟨32, 0, 0, 0, false, 0⟩) (hne : ((tow : Nat) : Int) ≠ invV (2 ^ k2) m.nw) (htn : tow < m.f.nw) :
    ∃ n m', n ≤ 60 ∧ Path (Not4 ((c + 4 : Nat) : Int)) n m m' ∧ After m m' c tow k2 pil fl ∧ m'.f.win = win2 ∧ m'.mem = mem2 := by
  have hpb : m.p.bd := hok.pb
  have hpm : pmayP m.p m.nw := hok.pm
  have hwp : winP m.nw := hok.win
  have hw : opS m x (getM m x.rs1) (sndM m x) = winM m kind m.pc := by
    rw [hop m hp rfl]
    unfold turnM
    rw [if_pos hto.symm]
  obtain ⟨k1, b1, e1, hs⟩ := trap_in hok hk hpc hp hx hw hj hlo hlo3 L hL hlo2
  obtain ⟨hpath, hs2⟩ := hrun hs
  have hq : (He.of m pil lo L).tpsr.getD 16 0 = packW m.p := by
    show (m.tpsr.set 16 (packS m.p m.nw)).getD 16 0 = _
    rw [List.getD_eq_getElem?_getD, List.getElem?_set_self (by rw [hok.sl]; decide)]
    show packS m.p m.nw = _
    unfold packS; rw [if_pos ⟨hwp, hpm⟩]
  have hcc : (m.tpc.set 16 (c : Int)).getD 16 0 = (c : Int) := by
    rw [List.getD_eq_getElem?_getD, List.getElem?_set_self (by rw [hok.tl]; decide)]; rfl
  have hr := rett_out hs2 hend hpb hpm hwp hq hcc
  have hokr : (outM (He.of m pil lo L) ⟨win2, g2, mem2, i2, 2 ^ k2, last, fl, m.tpc.set 16 c, m.ch⟩ c m.p).ok := by
    rw [← hr]; exact stepM_ok hs2.ok (by omega)
  generalize hm3 : outM (He.of m pil lo L) ⟨win2, g2, mem2, i2, 2 ^ k2, last, fl, m.tpc.set 16 c, m.ch⟩ c m.p = m3 at *
  have q1 : m3.kind = 0 := by rw [← hm3]; rfl
  have q2 : m3.pc = (c : Int) := by rw [← hm3]; rfl
  have q3 : m3.mem = mem2 := by rw [← hm3]; rfl
  have q4 : m3.p = m.p := by rw [← hm3]; rfl
  have q5 : m3.wim = 2 ^ k2 := by rw [← hm3]; rfl
  have q6 : m3.f.nw = m.f.nw := by rw [← hm3]; rfl
  have q7 : m3.f.win = win2 := by rw [← hm3]; rfl
  have q8 : m3.out = m.out := by rw [← hm3]; rfl
  have q9 : m3.f.glo.take 128 = m.f.glo.take 128 := by
    rw [← hm3]
    show (m.f.glo.take 128 ++ g2).take 128 = _
    rw [List.take_append_of_le_length (by rw [List.length_take, hok.f.gl]; decide), List.take_take]
    rfl
  have hf := turn_free hokr q1 q2 hc4 (show CodeAt m3.mem c x by rw [q3]; exact hx2) (hop m3 (q4.trans hp) q6) (by rw [q5]; unfold Mx.nw; rw [q6]; exact hne)
  have hokf := stepM_ok hokr (level := 0) (by omega)
  refine ⟨1 + 1 + N + 1 + 1, stepM m3 0, by omega, ?_, ?_, ?_, ?_⟩
  · refine Path.trans (b := m3) (Path.trans (b := hm (He.of m pil lo L) ⟨win2, g2, mem2, i2, 2 ^ k2, last, fl, m.tpc.set 16 c, m.ch⟩) (Path.trans (b := hm (He.of m pil lo L) (Hn.of m cw fl c)) (Path.trans (b := stepM m 0) ?_ ?_) (path_in hpath)) ?_) ?_
    · exact ⟨⟨hk, fun e => by rw [hpc] at e; have := e.1; omega⟩, rfl⟩
    · exact ⟨⟨k1, fun e => by rw [b1] at e; exact absurd e.2 (by decide)⟩, e1⟩
    · exact ⟨⟨rfl, fun e => absurd e.2 (by show ¬ ((16 : Int) = 0); decide)⟩, hr⟩
    · exact ⟨⟨q1, fun e => by rw [q2] at e; have := e.1; omega⟩, rfl⟩
  · rw [hf] at hokf ⊢
    exact ⟨hokf, q1, rfl, by simp only [q4, hp], q5, q8, q6, q9⟩
  · rw [hf]; exact q7
  · rw [hf]; exact q3
theorem step_pred {nw cw : Nat} (h2 : 2 ≤ nw) (h32 : nw ≤ 32) (hc : cw < nw) : stepV (cw : Int) ((nw : Int) - 1) nw = (((cw + nw - 1) % nw : Nat) : Int) := by
  unfold stepV
  rw [if_pos (show okW _ _ from ⟨⟨by omega, by omega⟩, by omega, by omega⟩), Int.natCast_emod]
  congr 1; omega
theorem step_succ {nw cw : Nat} (h2 : 2 ≤ nw) (h32 : nw ≤ 32) (hc : cw < nw) : stepV (cw : Int) 1 nw = (((cw + 1) % nw : Nat) : Int) := by
  unfold stepV
  rw [if_pos (show okW _ _ from ⟨⟨by omega, by omega⟩, by omega, by omega⟩), Int.natCast_emod]
  rfl
theorem op20 (m : Mx) (a b : Int) : opS m ⟨20, 0, 0, 0, false, 0⟩ a b = turnM m 0 a b (stepV m.p.cwp (m.nw - 1) m.nw) 1 := by
  unfold opS; simp only
  rw [if_neg (by decide), if_neg (by decide), if_neg (by decide), if_neg (by decide), if_neg (by decide), if_neg (by decide), if_pos (by decide)]
theorem op21 (m : Mx) (a b : Int) : opS m ⟨21, 0, 0, 0, false, 0⟩ a b = turnM m 0 a b (stepV m.p.cwp 1 m.nw) 2 := by
  unfold opS; simp only
  rw [if_neg (by decide), if_neg (by decide), if_neg (by decide), if_neg (by decide), if_neg (by decide), if_neg (by decide), if_neg (by decide), if_pos (by decide)]
/-- Where window w's frame lies. -/
def frM (m : Mx) (w : Nat) : Nat := (getV m.f w 0 14).toNat
structure Traps (m : Mx) (c cw : Nat) (pil fl : Int) : Prop where
  ok : m.ok
  kind : m.kind = 0
  pc : m.pc = c
  p : m.p = ⟨cw, pil, 0, fl⟩
  cw : cw < m.f.nw
  lo : 1536 ≤ c
  hi : c + 4 ≤ 2048
  hs : Codes m.mem 768 (windI m.f.nw)
  n : (windI m.f.nw).length ≤ 80
  v1 : CodeAt m.mem 272 ⟨17, 0, 0, 0, true, 124⟩
  v2 : CodeAt m.mem 288 ⟨17, 0, 0, 0, true, 120 + (overL m.f.nw).length⟩
theorem FrOk.frM {m : Mx} {k room w : Nat} (h : FrOk m.f k room) (hw : w < k) (hw2 : w < m.f.nw) : getV m.f w 0 14 = frM m w ∧ 2048 ≤ frM m w ∧ frM m w % 4 = 0 ∧ frM m w + 64 ≤ room := by
  obtain ⟨A, h1, h2⟩ := h w hw hw2
  have e : Go.Proofs.YtajholbcpmjhiaaGreatDoor.frM m w = A := by unfold Go.Proofs.YtajholbcpmjhiaaGreatDoor.frM; rw [h1]; rfl
  rw [e]; exact ⟨h1, h2⟩
theorem wind_over {m : Mx} {c cw : Nat} {pil fl : Int} (h : Traps m c cw pil fl) (hx : CodeAt m.mem c ⟨20, 0, 0, 0, false, 0⟩) (hwim : m.wim = 2 ^ ((cw + m.f.nw - 1) % m.f.nw)) {room : Nat} (hr : room ≤ m.mem.length) (hsp : FrOk m.f m.f.nw room) :
    ∃ n m', n ≤ 60 ∧ Path (Not4 ((c + 4 : Nat) : Int)) n m m' ∧ After m m' c ((cw + m.f.nw - 1) % m.f.nw) ((cw + m.f.nw - 2) % m.f.nw) pil fl ∧ m'.f.win = m.f.win ∧ m'.mem = putS m.mem (frM m ((cw + m.f.nw - 2) % m.f.nw)) (winR m.f ((cw + m.f.nw - 2) % m.f.nw)) := by
  obtain ⟨hok, hk, hpc, hp, hcw, hlo, hhi, hs, hn, hv1, hv2⟩ := h
  have hnw2 := hok.f.nw2
  have hnw32 := hok.f.nw32
  have hll : (cw + m.f.nw - 2) % m.f.nw < m.f.nw := Nat.mod_lt _ (by omega)
  obtain ⟨a1, a2, a3, a4⟩ := hsp.frM hll hll
  rw [getV_out hnw2 hll] at a1
  have hL : Codes m.mem 768 (overL m.f.nw) := hs.left
  have hn1 : (overL m.f.nw).length ≤ 80 := by unfold windI at hn; rw [List.length_append] at hn; omega
  have hpb : m.p.bd := hok.pb
  have hpm : pmayP m.p m.nw := hok.pm
  rw [hp] at hpb hpm
  obtain ⟨g', N, hg', hN, hrun⟩ := over_run (E := He.of m pil 768 (overL m.f.nw)) (win := m.f.win) (g := m.f.glo.drop 128) (mem := m.mem) (wim := m.wim) (cwp := cw) (fl := fl) (tpc := m.tpc.set 16 c) (ch := m.ch) rfl (k := (cw + m.f.nw - 1) % m.f.nw) (Nat.mod_lt _ (by show 0 < m.f.nw; omega)) hwim hnw2 hnw32 hcw ⟨hpb.2.1.1, hpm.2.1⟩ ⟨hpb.2.2.2.1, hpm.2.2.2⟩ (by rw [List.length_drop, hok.f.gl]) hok.f.wl hok.mlen
    (A := frM m ((cw + m.f.nw - 2) % m.f.nw)) (last := (cw + m.f.nw - 2) % m.f.nw) rfl a1 ⟨by omega, a3, by omega⟩ (.inr (by show 768 + 4 * (overL m.f.nw).length ≤ _; omega))
  have ew : (16 : Nat) = 16 := rfl
  have hkk : (((cw + m.f.nw - 1) % m.f.nw) + m.f.nw - 1) % m.f.nw = (cw + m.f.nw - 2) % m.f.nw := less_two hcw hnw2
  have hln := (turn_lens m.f.nw (by omega)).1
  have hkE : (((cw + m.f.nw - 1) % m.f.nw) + (He.of m pil 768 (overL m.f.nw)).nw - 1) % (He.of m pil 768 (overL m.f.nw)).nw = (cw + m.f.nw - 2) % m.f.nw := hkk
  rw [hkE] at hrun
  obtain ⟨n, m', h1, h2, h3, h4, h5⟩ := wind_core hok hk hpc (by omega) hp hx (kind := 1) (tow := (cw + m.f.nw - 1) % m.f.nw)
    (fun m1 e1 e2 => by
      rw [op20, e1]
      unfold Mx.nw
      rw [e2]
      simp only [step_pred hnw2 hnw32 hcw]
      rfl)
    (by rw [hwim]; exact inv_powV hnw2 hnw32 (Nat.mod_lt _ (by omega))) (n := 124) (lo := 768) hv1 rfl (by decide) (overL m.f.nw) hL (by decide) (N := N) (k2 := (cw + m.f.nw - 2) % m.f.nw) (by have : N ≤ (turnI m.f.nw 9 8).length + 26 := hN; omega) hg' hrun
    (hx.putS _ (.inl (by omega))) (over_end m.f.nw) (by
      rw [show m.nw = (m.f.nw : Int) from rfl, inv_powV hnw2 hnw32 hll]
      rw [← hkk, less_one (Nat.mod_lt (cw + m.f.nw - 1) (by omega : m.f.nw > 0))]
      have := Nat.mod_lt (cw + m.f.nw - 1) (by omega : m.f.nw > 0)
      split <;> omega) (Nat.mod_lt _ (by omega))
  exact ⟨n, m', h1, h2, h3, h4, h5⟩
theorem wind_under {m : Mx} {c cw : Nat} {pil fl : Int} (h : Traps m c cw pil fl) (hx : CodeAt m.mem c ⟨21, 0, 0, 0, false, 0⟩) (hwim : m.wim = 2 ^ ((cw + 1) % m.f.nw)) {room : Nat} (hr : room ≤ m.mem.length) (hsp : ∃ A : Nat, getV m.f ((cw + 1) % m.f.nw : Nat) 0 14 = A ∧ 2048 ≤ A ∧ A % 4 = 0 ∧ A + 64 ≤ room) :
    ∃ n m', n ≤ 60 ∧ Path (Not4 ((c + 4 : Nat) : Int)) n m m' ∧ After m m' c ((cw + 1) % m.f.nw) (((cw + 1) % m.f.nw + 1) % m.f.nw) pil fl ∧ m'.f.win = setW m.f.win ((cw + 1) % m.f.nw) (wordsS m.mem (frM m ((cw + 1) % m.f.nw)) 16) ∧ m'.mem = m.mem := by
  obtain ⟨hok, hk, hpc, hp, hcw, hlo, hhi, hs, hn, hv1, hv2⟩ := h
  have hnw2 := hok.f.nw2
  have hnw32 := hok.f.nw32
  have hll : (cw + 1) % m.f.nw < m.f.nw := Nat.mod_lt _ (by omega)
  obtain ⟨A, a1, a2, a3, a4⟩ := hsp
  have eA : frM m ((cw + 1) % m.f.nw) = A := by unfold frM; rw [a1]; rfl
  rw [eA]
  rw [getV_out hnw2 hll] at a1
  have hL : Codes m.mem (768 + 4 * (overL m.f.nw).length) (underL m.f.nw) := hs.right
  have hn1 : (overL m.f.nw).length ≤ 80 := by unfold windI at hn; rw [List.length_append] at hn; omega
  have hpb : m.p.bd := hok.pb
  have hpm : pmayP m.p m.nw := hok.pm
  rw [hp] at hpb hpm
  obtain ⟨g', N, hg', hN, hrun⟩ := under_run (E := He.of m pil (768 + 4 * (overL m.f.nw).length) (underL m.f.nw)) (win := m.f.win) (g := m.f.glo.drop 128) (mem := m.mem) (wim := m.wim) (cwp := cw) (fl := fl) (tpc := m.tpc.set 16 c) (ch := m.ch) rfl (k := (cw + 1) % m.f.nw) (Nat.mod_lt _ (by show 0 < m.f.nw; omega)) hwim hnw2 hnw32 hcw ⟨hpb.2.1.1, hpm.2.1⟩ ⟨hpb.2.2.2.1, hpm.2.2.2⟩ (by rw [List.length_drop, hok.f.gl]) hok.f.wl hok.mlen
    (A := A) (last := (cw + 1) % m.f.nw) rfl a1 ⟨by omega, a3, by omega⟩
  have hln := (turn_lens m.f.nw (by omega)).2
  obtain ⟨n, m', h1, h2, h3, h4, h5⟩ := wind_core hok hk hpc (by omega) hp hx (kind := 2) (tow := (cw + 1) % m.f.nw)
    (fun m1 e1 e2 => by
      rw [op21, e1]
      unfold Mx.nw
      rw [e2]
      simp only [step_succ hnw2 hnw32 hcw]
      rfl)
    (by rw [hwim]; exact inv_powV hnw2 hnw32 (Nat.mod_lt _ (by omega))) (n := 120 + (overL m.f.nw).length) (lo := 768 + 4 * (overL m.f.nw).length) (by rw [Int.natCast_add]; exact hv2) (by omega) (by omega) (underL m.f.nw) hL (by omega) (N := N) (k2 := ((cw + 1) % m.f.nw + 1) % m.f.nw) (by have : N ≤ (turnI m.f.nw 8 9).length + 26 := hN; omega) hg' hrun
    hx (under_end m.f.nw) (by
      rw [show m.nw = (m.f.nw : Int) from rfl, inv_powV hnw2 hnw32 (Nat.mod_lt _ (by omega)), more_one hll]
      split <;> omega) hll
  exact ⟨n, m', h1, h2, h3, h4, h5⟩
end Go.Proofs.YtajholbcpmjhiaaGreatDoor
/- Plain law: what a machine says grows by one word a step at most. No program in sight. -/
namespace Go.Proofs.YtajholbcpmjhiaaGreatDoor
open Go.RowKit
set_option linter.unusedVariables false
set_option linter.unusedSimpArgs false
def outL (m : Mx) : Nat := m.out.length
theorem outL_win (m : Mx) (k pc : Int) : outL (winM m k pc) = outL m := by unfold winM; split <;> rfl
theorem outL_turn (m : Mx) (rd a b tow k : Int) : outL (turnM m rd a b tow k) = outL m := by
  unfold turnM
  split
  · exact outL_win _ _ _
  · rfl
theorem outL_load (m : Mx) (rd a k : Int) : outL (loadM m rd a k) = outL m := by unfold loadM; split <;> rfl
theorem outL_store (m : Mx) (rd a k : Int) : outL (storeM m rd a k) = outL m := by unfold storeM; split <;> rfl
theorem outL_ite {c : Prop} [Decidable c] {a b : Mx} {n : Nat} (ha : outL a ≤ n) (hb : outL b ≤ n) : outL (if c then a else b) ≤ n := by split <;> assumption
theorem outL_op (m : Mx) (x : Ix) (a b : Int) : outL (opS m x a b) ≤ outL m + 1 := by
  have h0 : ∀ m' : Mx, outL m' = outL m → outL m' ≤ outL m + 1 := fun m' h => by omega
  unfold opS
  repeat' apply outL_ite
  all_goals first
    | (exact h0 _ rfl)
    | (exact h0 _ (outL_turn _ _ _ _ _ _))
    | (exact h0 _ (outL_load _ _ _ _))
    | (exact h0 _ (outL_store _ _ _ _))
    | (exact h0 _ (outL_win _ _ _))
    | (show (m.out ++ [a]).length ≤ m.out.length + 1; rw [List.length_append]; exact Nat.le_refl _)
theorem outL_step (m : Mx) (l : Int) : outL (stepM m l) ≤ outL m + 1 := by
  unfold stepM
  split
  · omega
  split
  · exact Nat.le_succ _
  · unfold runM
    split
    · exact Nat.le_succ _
    · exact outL_op _ _ _ _
end Go.Proofs.YtajholbcpmjhiaaGreatDoor
namespace Go.Proofs.YtajholbcpmjhiaaGreatDoor
open Go.RowKit
set_option linter.unusedVariables false
set_option linter.unusedSimpArgs false
theorem wfield_stop (a b : Value) (w : World) : (Instr.field 89 (.agg #[a, b]) 0).run Tryz.prog w = .ok a w := by kernel_rfl
theorem wfield_bank (a b c d : Value) (w : World) : (Instr.field 47 (.agg #[a, b, c, d]) 2).run Tryz.prog w = .ok c w := by kernel_rfl
theorem MKeeps.trans {w w1 w2 : World} {G G1 G2 : MG} (h1 : MKeeps w w1 G G1) (h2 : MKeeps w1 w2 G1 G2) : MKeeps w w2 G G2 := by
  have hs := h1.1.size
  obtain ⟨a1, a2, a3, a4, a5⟩ := h1.1
  obtain ⟨b1, b2, b3, b4, b5⟩ := h2.1
  refine ⟨⟨b1.trans a1, b2.trans a2, b3.trans a3, Nat.le_trans a4 b4, fun k hk hn => ?_⟩, fun k hk e => h2.2 k (Nat.lt_of_lt_of_le hk hs) (h1.2 k hk e)⟩
  have e : G.R k = .none := by
    by_cases e : G.R k = .none
    · exact e
    · exact absurd e hn
  exact (b5 k (Nat.lt_of_lt_of_le hk hs) (fun hh => hh (h1.2 k hk e))).trans (a5 k hk hn)
theorem MKeeps.of_below {w w' : World} {G : MG} (h : Below w.heap.size w w') : MKeeps w w' G G := ⟨(Only.of_below (S := fun _ => False) h).mono (fun _ _ h => h.elim), fun _ _ e => e⟩
/-- The rest of a way: it ends at the place. -/
def Rest (c : Int) (k : Nat) (m m' : Mx) : Prop := Path (Not4 c) k m m' ∧ m'.kind = 0 ∧ m'.pc = c ∧ m'.p.bank = 0
set_option maxRecDepth 100000 in
set_option maxHeartbeats 4000000 in
theorem wruns_any (w0 w : World) (ht : Tab w0) (hbr : Bru w0) (G : MG) (M : Nat) (m m' : Mx) (h : MIs w0 w G M m) (c most n : Nat) (hc : c < 4294967296) (hmost : most < 1000000) (hn : n ≤ most) (hn1 : 1 ≤ n) (hol : outL m < 1000000) (hp : Rest c n m m') :
    Calls Tryz.prog 18 #[.pointer (some ⟨M, 0, none⟩), .int .u32 c, .int .i64 most] w fun e w' => e = .returned (.bool true) ∧ MTo w0 w w' G M m' := by
  have HM := mhid h
  have HT := mhid ht
  have HR := mhid hbr
  have HP := mhid hp
  clear h ht hbr hp
  go_enter Tryz.func18, Tryz.ntmps18
  go_wp2_with fail
  go_loopw [7] (fun i wr => ∃ (k : Nat) (G' : MG) (mk : Mx), i = .int .i64 (k : Int) ∧ k < n ∧ Hid (MIs w0 wr G' M mk) ∧ Hid (MKeeps w wr G G') ∧ Hid (Rest c (n - k) mk m') ∧ Hid (outL mk ≤ outL m + k)) (fun i _ => n - (intOf i).toNat)
  case atStart => exact ⟨0, G, m, rfl, by omega, HM, mhid (MKeeps.of_below (Below.refl _ _)), HP, mhid (Nat.le_refl _)⟩
  case round =>
    clear HM HP
    obtain ⟨k, G', mk, rfl, hk, HM, HK, HP, HO⟩ := hrel
    have c1 : (k : Int) < (most : Int) := by omega
    have c4 : IntKind.i64.wrap ((k : Int) + 1) = ((k + 1 : Nat) : Int) := by rw [IntWalk.i64_in _ (by omega)]; omega
    have fs := wfield_stop
    have fb := wfield_bank
    obtain ⟨j, hj⟩ : ∃ j, n - k = j + 1 := ⟨n - k - 1, by omega⟩
    have HP2 := mhid (show Path (Not4 c) j (stepM mk 0) m' ∧ m'.kind = 0 ∧ m'.pc = (c : Int) ∧ m'.p.bank = 0 from by
      have := HP.out
      rw [hj] at this
      exact ⟨this.1.2, this.2⟩)
    have hkind : (stepM mk 0).kind = 0 := by
      cases j with
      | zero => rw [show stepM mk 0 = m' from HP2.out.1]; exact HP2.out.2.1
      | succ j => exact HP2.out.1.1.1
    have hs1 := mw_step w0 wr G' M mk HM.out (HT.out) (HR.out) 0 (by omega) (by omega) (by have := HO.out; show outL mk < 4294967296; omega)
    rw [hkind] at hs1
    have HS := mhid hs1
    have HO2 := mhid (show outL (stepM mk 0) ≤ outL m + (k + 1) from by have := outL_step mk 0; have := HO.out; omega)
    have HKD := mhid hkind
    clear HP hs1 hkind HO
    go_wp2_with fail
    refine HS.out.mono ?_
    rintro e w1 ⟨rfl, G1, hM1, hk1⟩
    have HM := mhid hM1
    have HK := mhid (HK.out.trans hk1)
    clear hM1 hk1 HS
    generalize stepM mk 0 = m1 at *
    have hok1 := HM.out.at'.ok
    have hpc1 : 0 ≤ m1.pc ∧ m1.pc < 4294967296 := ⟨hok1.pc0, hok1.pc1⟩
    clear hok1
    go_wp2_with fail
    refine (mpc_any w1 G1 M m1 HM.out.at').mono ?_
    rintro e w' ⟨rfl, rfl⟩
    have HPS := mhid (show Calls Tryz.prog 19 #[.pointer (some ⟨M, 0, none⟩)] w1 fun e w' => e = .returned (.agg #[.int .u8 m1.p.cwp, .int .u8 m1.p.pil, .int .u8 m1.p.bank, .int .u8 m1.p.flags]) ∧ Below w1.heap.size w1 w' from mpsr_any w1 G1 M m1 HM.out.at')
    have hbb : 0 ≤ m1.p.bank ∧ m1.p.bank < 256 := HM.out.at'.ok.pb.2.2.1
    by_cases hd : j = 0
    · subst hd
      obtain rfl : m1 = m' := HP2.out.1
      have hpc : m1.pc = (c : Int) := HP2.out.2.2.1
      have hbk : m1.p.bank = 0 := HP2.out.2.2.2
      go_wp2_with fail
      refine HPS.out.mono ?_
      rintro e w2 ⟨rfl, hb2⟩
      have HM := mhid (HM.out.keepb hb2)
      have HK := mhid (HK.out.trans (MKeeps.of_below hb2))
      clear hb2 HPS
      go_wp2_with fail
      first
        | go_ret2
        | go_ret
      exact ⟨rfl, G1, HM.out, HK.out⟩
    · obtain ⟨j', rfl⟩ : ∃ j', j = j' + 1 := ⟨j - 1, by omega⟩
      have HN := mhid (show ¬ (m1.pc = (c : Int) ∧ m1.p.bank = 0) from HP2.out.1.1.2)
      have HR2 := mhid (show Rest c (n - (k + 1)) m1 m' from by
        rw [show n - (k + 1) = j' + 1 by omega]; exact HP2.out)
      by_cases hpc : m1.pc = (c : Int)
      · have hbk : ¬ (m1.p.bank = 0) := fun e => HN.out ⟨hpc, e⟩
        go_wp2_with fail
        refine HPS.out.mono ?_
        rintro e w2 ⟨rfl, hb2⟩
        have HM := mhid (HM.out.keepb hb2)
        have HK := mhid (HK.out.trans (MKeeps.of_below hb2))
        clear hb2 HPS
        go_wp2_with fail
        exact ⟨⟨k + 1, G1, m1, by go_num, by omega, HM, HK, HR2, HO2⟩, by simp only [intOf]; omega⟩
      · go_wp2_with fail
        exact ⟨⟨k + 1, G1, m1, by go_num, by omega, HM, HK, HR2, HO2⟩, by simp only [intOf]; omega⟩
end Go.Proofs.YtajholbcpmjhiaaGreatDoor
