/- Several texts in one: WindMade. -/
import Derived.Test.YtajholbcpmjhiaaGreatDoorH26
import Derived.BigGuardPart
import Derived.Lib.ParseIntB
import Derived.Lib.ItoaNum
import Derived.Shelf.Strings.Cut
import Derived.Shelf.Small.Wraps
import Derived.Shelf.Pu.ParseUintPublic10
import Derived.Shelf.Strconv.Itoa3
import Derived.WalkSmall
import Derived.Lib.IndexMore
set_option linter.unusedVariables false
set_option linter.unusedSimpArgs false
/- The walk of muntinlaw08.made. -/
namespace Go.Proofs.YtajholbcpmjhiaaGreatDoor
open Go.RowKit Go.Maps
theorem MIs.far {w0 w w' : World} {G : MG} {M : Nat} {m : Mx} {S : Nat → Prop} {B : Nat} (h : MIs w0 w G M m) (o : Only S w w') (hS : ∀ k, S k → B ≤ k) (hG : ∀ k, G.R k ≠ .none → k < B) (hB : w0.heap.size ≤ B) : MIs w0 w' G M m :=
  ⟨h.at'.keep o (fun k hk e => by have := hS k e; have := hG k hk; omega), h.lo, h.bel.trans (o.below h.bel.size (fun k hk e => by have := hS k e; omega))⟩
theorem mw_put (w0 w : World) (G : MG) (M : Nat) (m : Mx) (h : MIs w0 w G M m) (a : Int) (ha : 0 ≤ a) (ha2 : a < 4294967296) (v : Value) (l : List Int) (hl : l.length ≤ maxLen) (hv : U32s (· = G.gB) w v l) :
    Calls Tryz.prog 53 #[.pointer (some ⟨G.mB, 0, none⟩), .int .u32 a, v] w fun e w' => e = .returned (.int .i64 (spanE m.mem.length a l.length 4)) ∧ MTo w0 w w' G M { m with mem := putV m.mem a l } := by
  refine (put_any w G.mB G.gB m.mem h.at'.mem a ha ha2 v l hl hv).mono fun e w' he => ⟨he.1, h.to (h.at'.mem' he.2.2.1 he.2.1 (memM_ok h.at'.ok he.2.1.bytes (putV_len _ _ _))) (he.2.2.1.mono fun k _ hk => ?_)⟩
  have e : k = G.gB := hk
  rw [e, h.at'.rg]; simp
end Go.Proofs.YtajholbcpmjhiaaGreatDoor
