/- Several texts in one: WindMade. -/
import Derived.Test.YtajholbcpmjhiaaGreatDoorH01
import Derived.Test.YtajholbcpmjhiaaGreatDoorH02
import Derived.Test.YtajholbcpmjhiaaGreatDoorH03
import Derived.Test.YtajholbcpmjhiaaGreatDoorH04
import Derived.Test.YtajholbcpmjhiaaGreatDoorH05
import Derived.Test.YtajholbcpmjhiaaGreatDoorH06
import Derived.Test.YtajholbcpmjhiaaGreatDoorH07
import Derived.Test.YtajholbcpmjhiaaGreatDoorH08
import Derived.Test.YtajholbcpmjhiaaGreatDoorH09
import Derived.Test.YtajholbcpmjhiaaGreatDoorH10
import Derived.Test.YtajholbcpmjhiaaGreatDoorH11
import Derived.Test.YtajholbcpmjhiaaGreatDoorH12
import Derived.Test.YtajholbcpmjhiaaGreatDoorH13
import Derived.Test.YtajholbcpmjhiaaGreatDoorH14
import Derived.Test.YtajholbcpmjhiaaGreatDoorH15
import Derived.Test.YtajholbcpmjhiaaGreatDoorH16
import Derived.Test.YtajholbcpmjhiaaGreatDoorH17
import Derived.Test.YtajholbcpmjhiaaGreatDoorH18
import Derived.Test.YtajholbcpmjhiaaGreatDoorH19
import Derived.Test.YtajholbcpmjhiaaGreatDoorH20
import Derived.Test.YtajholbcpmjhiaaGreatDoorH21
import Derived.Test.YtajholbcpmjhiaaGreatDoorH22
import Derived.Test.YtajholbcpmjhiaaGreatDoorH23
import Derived.Test.YtajholbcpmjhiaaGreatDoorH24
import Derived.Test.YtajholbcpmjhiaaGreatDoorH25
import Derived.Test.YtajholbcpmjhiaaGreatDoorH26
import Derived.Test.YtajholbcpmjhiaaGreatDoorH27
import Derived.Test.YtajholbcpmjhiaaGreatDoorH28
import Derived.Test.YtajholbcpmjhiaaGreatDoorH29
import Derived.Test.YtajholbcpmjhiaaGreatDoorH30
import Derived.Test.YtajholbcpmjhiaaGreatDoorH31
import Derived.WalkKit
import Derived.Laws.AppendOwn
import Derived.Below
import Derived.Deep.QuietTactic
import Derived.BigQuiet
import Derived.WalkSpells
import Derived.Test.YtajholbcpmjhiaaGreatDoorProg
import Derived.Handy
import Derived.WalkLawsBesides
import Derived.RegionTactic
import Derived.Outline
import Derived.Lib.BitFns
import Derived.StillTailTactics
import Derived.BigRegion
import Derived.ChangeAlike
import Derived.Maps.OwnSet
import Derived.Maps.Views
import Derived.Laws.AppendOwnNone
import Derived.WalkArith
import Derived.OneCell
import Derived.ArgAppend
import Derived.Lib.SliceRun
import Derived.Laws.Rows
import Derived.IntWalk
import Derived.Laws.CopyOwn
import Derived.Great.Ranges
import Derived.ProofKit
import Derived.OpenShut
import Derived.RangeFuncNested
import Derived.RangeFuncBound
import Derived.RangeFuncCalls
import Derived.RangeFuncLeaves
import Derived.Shelf.Abstract
import Derived.Shelf.RegionOpen
import Derived.OwnWalkIn
import Derived.TacticsInMore
import Derived.LoopNIn
import Derived.LoopIn
import Derived.RegionIn
import Derived.Deep.RegionHeld
import Derived.Deep.RegionHeld3
import Derived.Deep.Cut
import Derived.Laws.EntriesVeiled
import Derived.Deep.RegionLaw
import Derived.Shelf.SlMaps.Clone
import Derived.Deep.AppendLies
import Derived.BigGuardPart
import Derived.Lib.ParseIntB
import Derived.Lib.ItoaNum
import Derived.Shelf.Strings.Cut
import Derived.Shelf.Small.Wraps
import Derived.Shelf.Pu.ParseUintPublic10
import Derived.Shelf.Strconv.Itoa3
import Derived.WalkSmall
import Derived.Lib.IndexMore
import Derived.Maps.AppendAt
import Derived.Deep.Slices
import Derived.Deep.CutRange
/- The walk of muntinlaw08.made. -/
namespace Go.Proofs.YtajholbcpmjhiaaGreatDoor
open Go.RowKit Go.Maps
set_option linter.unusedVariables false
set_option linter.unusedSimpArgs false
def HalfsIn (w : World) (v : Value) (l : List Int) : Prop :=
  l.length ≤ maxLen ∧ (∀ x ∈ l, 0 ≤ x ∧ x < 65536) ∧ ∃ p c b o, v = .slice p l.length c ∧ (0 < l.length → p = some ⟨b, o, none⟩) ∧ ∀ k x, l[k]? = some x → w.cell? ⟨b, o + k, none⟩ = some (.int .u16 x)
theorem HalfsIn.keepb {w w' : World} {v : Value} {l : List Int} (h : HalfsIn w v l) (hb : Below w.heap.size w w') : HalfsIn w' v l := by
  obtain ⟨h1, h2, p, c, b, o, h3, h4, h5⟩ := h
  exact ⟨h1, h2, p, c, b, o, h3, h4, fun k x hx => (hb.cell (p := ⟨b, o + k, none⟩) (World.block_lt_of_cell? _ _ (h5 k x hx))).trans (h5 k x hx)⟩
/-- The file that such a machine has. -/
def regF (nw : Nat) (regs : List Int) : Nat → Fx
  | 0 => Fx.new nw
  | k + 1 => setV (regF nw regs k) ((IntKind.i64.wrap ((k : Int) / 16)).tmod nw) 0 (IntKind.i64.wrap (16 + (k : Int).tmod 16)) (regs.getD k 0)
theorem MIs.far {w0 w w' : World} {G : MG} {M : Nat} {m : Mx} {S : Nat → Prop} {B : Nat} (h : MIs w0 w G M m) (o : Only S w w') (hS : ∀ k, S k → B ≤ k) (hG : ∀ k, G.R k ≠ .none → k < B) (hB : w0.heap.size ≤ B) : MIs w0 w' G M m :=
  ⟨h.at'.keep o (fun k hk e => by have := hS k e; have := hG k hk; omega), h.lo, h.bel.trans (o.below h.bel.size (fun k hk e => by have := hS k e; omega))⟩
theorem mw_put (w0 w : World) (G : MG) (M : Nat) (m : Mx) (h : MIs w0 w G M m) (a : Int) (ha : 0 ≤ a) (ha2 : a < 4294967296) (v : Value) (l : List Int) (hl : l.length ≤ maxLen) (hv : U32s (· = G.gB) w v l) :
    Calls Tryz.prog 53 #[.pointer (some ⟨G.mB, 0, none⟩), .int .u32 a, v] w fun e w' => e = .returned (.int .i64 (spanE m.mem.length a l.length 4)) ∧ MTo w0 w w' G M { m with mem := putV m.mem a l } := by
  refine (put_any w G.mB G.gB m.mem h.at'.mem a ha ha2 v l hl hv).mono fun e w' he => ⟨he.1, h.to (h.at'.mem' he.2.2.1 he.2.1 (memM_ok h.at'.ok he.2.1.bytes (putV_len _ _ _))) (he.2.2.1.mono fun k _ hk => ?_)⟩
  have e : k = G.gB := hk
  rw [e, h.at'.rg]; simp
theorem MTo.box {w0 w1 w2 : World} {G : MG} {M : Nat} {m' : Mx} {b : Nat} {t : TypeId} {cs : List Value} (h : MTo w0 w1 w2 G M m') (hG : G.R b = .none) (hA : ARow w1 b t cs) : ∃ G', MIs w0 w2 G' M m' ∧ G'.R b = .none ∧ ARow w2 b t cs := by
  obtain ⟨G', h1, h2, h3⟩ := h
  exact ⟨G', h1, h3 b hA.lt hG, hA.of_block (h2.block b hA.lt (fun hh => hh hG))⟩
theorem WordsIn.cell {w : World} {p : Option Addr} {n c : Nat} {l : List Int} (h : WordsIn w (.slice p n c) l) (h0 : 0 < l.length) : ∃ b o, p = some ⟨b, o, none⟩ ∧ ∀ k, k < l.length → w.cell? ⟨b, o + k, none⟩ = some (.int .u32 (l.getD k 0)) := by
  obtain ⟨⟨_, p', c', e, h2⟩, _⟩ := h
  cases e
  obtain ⟨b, o, rfl, _, _, h7⟩ := h2 h0
  exact ⟨b, o, rfl, fun k hk => h7 k hk⟩
theorem u32w_bd (n : Int) : 0 ≤ IntKind.u32.wrap n ∧ IntKind.u32.wrap n < 4294967296 := by
  rw [uw]; unfold u32; omega
end Go.Proofs.YtajholbcpmjhiaaGreatDoor
