/- Several texts in one: WindMade. -/
import Derived.Test.YtajholbcpmjhiaaGreatDoorH28
import Derived.Deep.CutRange
set_option linter.unusedVariables false
set_option linter.unusedSimpArgs false
/- The walk of muntinlaw08.made. -/
namespace Go.Proofs.YtajholbcpmjhiaaGreatDoor
open Go.RowKit Go.Maps
def HalfsIn (w : World) (v : Value) (l : List Int) : Prop :=
  l.length ≤ maxLen ∧ (∀ x ∈ l, 0 ≤ x ∧ x < 65536) ∧ ∃ p c b o, v = .slice p l.length c ∧ (0 < l.length → p = some ⟨b, o, none⟩) ∧ ∀ k x, l[k]? = some x → w.cell? ⟨b, o + k, none⟩ = some (.int .u16 x)
theorem HalfsIn.keepb {w w' : World} {v : Value} {l : List Int} (h : HalfsIn w v l) (hb : Below w.heap.size w w') : HalfsIn w' v l := by
  obtain ⟨h1, h2, p, c, b, o, h3, h4, h5⟩ := h
  exact ⟨h1, h2, p, c, b, o, h3, h4, fun k x hx => (hb.cell (p := ⟨b, o + k, none⟩) (World.block_lt_of_cell? _ _ (h5 k x hx))).trans (h5 k x hx)⟩
def regF (nw : Nat) (regs : List Int) : Nat → Fx
  | 0 => Fx.new nw
  | k + 1 => setV (regF nw regs k) ((IntKind.i64.wrap ((k : Int) / 16)).tmod nw) 0 (IntKind.i64.wrap (16 + (k : Int).tmod 16)) (regs.getD k 0)
theorem MIs.far {w0 w w' : World} {G : MG} {M : Nat} {m : Mx} {S : Nat → Prop} {B : Nat} (h : MIs w0 w G M m) (o : Only S w w') (hS : ∀ k, S k → B ≤ k) (hG : ∀ k, G.R k ≠ .none → k < B) (hB : w0.heap.size ≤ B) : MIs w0 w' G M m :=
  ⟨h.at'.keep o (fun k hk e => by have := hS k e; have := hG k hk; omega), h.lo, h.bel.trans (o.below h.bel.size (fun k hk e => by have := hS k e; omega))⟩
theorem mw_put (w0 w : World) (G : MG) (M : Nat) (m : Mx) (h : MIs w0 w G M m) (a : Int) (ha : 0 ≤ a) (ha2 : a < 4294967296) (v : Value) (l : List Int) (hl : l.length ≤ maxLen) (hv : U32s (· = G.gB) w v l) :
    Calls Tryz.prog 53 #[.pointer (some ⟨G.mB, 0, none⟩), .int .u32 a, v] w fun e w' => e = .returned (.int .i64 (spanE m.mem.length a l.length 4)) ∧ MTo w0 w w' G M { m with mem := putV m.mem a l } := by
  refine (put_any w G.mB G.gB m.mem h.at'.mem a ha ha2 v l hl hv).mono fun e w' he => ⟨he.1, h.to (h.at'.mem' he.2.2.1 he.2.1 (memM_ok h.at'.ok he.2.1.bytes (putV_len _ _ _))) (he.2.2.1.mono fun k _ hk => ?_)⟩
  have e : k = G.gB := hk
  rw [e, h.at'.rg]; simp
theorem MTo.box {w0 w1 w2 : World} {G : MG} {M : Nat} {m' : Mx} {b : Nat} {t : TypeId} {cs : List Value} (h : MTo w0 w1 w2 G M m') (hG : G.R b = .none) (hA : ARow w1 b t cs) : ∃ G', MIs w0 w2 G' M m' ∧ G'.R b = .none ∧ ARow w2 b t cs := by
  obtain ⟨G', h1, h2, h3⟩ := h
  exact ⟨G', h1, h3 b hA.lt hG, hA.of_block (h2.block b hA.lt (fun hh => hh hG))⟩
theorem WordsIn.cell {w : World} {p : Option Addr} {n c : Nat} {l : List Int} (h : WordsIn w (.slice p n c) l) (h0 : 0 < l.length) : ∃ b o, p = some ⟨b, o, none⟩ ∧ ∀ k, k < l.length → w.cell? ⟨b, o + k, none⟩ = some (.int .u32 (l.getD k 0)) := by
  obtain ⟨⟨_, p', c', e, h2⟩, _⟩ := h
  cases e
  obtain ⟨b, o, rfl, _, _, h7⟩ := h2 h0
  exact ⟨b, o, rfl, fun k hk => h7 k hk⟩
theorem u32w_bd (n : Int) : 0 ≤ IntKind.u32.wrap n ∧ IntKind.u32.wrap n < 4294967296 := by
  rw [uw]; unfold u32; omega
end Go.Proofs.YtajholbcpmjhiaaGreatDoor
