/- Several texts in one: MemHead, MemRowsLaw, MachAt, PsrParts. -/
import Derived.Test.YtajholbcpmjhiaaGreatDoorH01
import Derived.Test.YtajholbcpmjhiaaGreatDoorH04
import Derived.Test.YtajholbcpmjhiaaGreatDoorH09
import Derived.Test.YtajholbcpmjhiaaGreatDoorH05
import Derived.Test.YtajholbcpmjhiaaGreatDoorH02
import Derived.Test.YtajholbcpmjhiaaGreatDoorH03
import Derived.Test.YtajholbcpmjhiaaGreatDoorH10
import Derived.Test.YtajholbcpmjhiaaGreatDoorH11
import Derived.WalkKit
import Derived.Laws.AppendOwn
import Derived.Below
import Derived.Deep.QuietTactic
import Derived.BigQuiet
import Derived.WalkSpells
import Derived.Test.YtajholbcpmjhiaaGreatDoorProg
import Derived.Handy
import Derived.WalkLawsBesides
import Derived.StillTailTactics
import Derived.ProofKit
import Derived.OpenShut
import Derived.RegionTactic
import Derived.Outline
import Derived.Lib.BitFns
import Derived.Laws.Rows
import Derived.IntWalk
import Derived.RangeFuncNested
import Derived.RangeFuncBound
import Derived.RangeFuncCalls
import Derived.RangeFuncLeaves
import Derived.Shelf.Abstract
import Derived.Shelf.RegionOpen
import Derived.OwnWalkIn
import Derived.TacticsInMore
import Derived.LoopNIn
import Derived.LoopIn
import Derived.RegionIn
/- The walk of muntinlaw05.head: the calls whose answers the document fixes. -/
namespace Go.Proofs.YtajholbcpmjhiaaGreatDoor
open Go.RowKit
set_option linter.unusedVariables false
theorem Reads32.keep {a b : World} {v : Value} {l : List Int} (h : Reads32 a v l) (hb : Below a.heap.size a b) : Reads32 b v l := by
  obtain ⟨h1, p, c, rfl, h2⟩ := h
  refine ⟨h1, p, c, rfl, fun h0 => ?_⟩
  obtain ⟨k, o, rfl, h3⟩ := h2 h0
  exact ⟨k, o, rfl, fun j hj => (hb.cell (World.block_lt_of_cell? _ _ (h3 j hj))).trans (h3 j hj)⟩
abbrev e0 : List Int := [0, 0, 0, 0, 0, 0, 0, 0, 0, 0, 0, 0, 0, 0, 0, 0]
abbrev e1 : List Int := [0, 0, 0, 0, 1, 2, 3, 4, 0, 0, 0, 0, 0, 0, 0, 0]
abbrev e2 : List Int := [0, 0, 0, 0, 1, 255, 3, 4, 0, 0, 0, 0, 0, 0, 0, 0]
abbrev e3 : List Int := [0, 0, 0, 0, 1, 255, 3, 4, 0, 0, 0, 5, 0, 0, 0, 6]
end Go.Proofs.YtajholbcpmjhiaaGreatDoor
/- The walk of muntinlaw05.MemWords: rows of words. -/
namespace Go.Proofs.YtajholbcpmjhiaaGreatDoor
open Go.RowKit
set_option linter.unusedVariables false
theorem load_put_before (l : List Int) : ∀ (d : List Int) (b a : Nat), a + 4 ≤ b → loadS (putS d b l) a 4 = loadS d a 4 := by
  induction l with
  | nil => intro d b a _; rfl
  | cons x l ih => intro d b a h; unfold putS; rw [ih _ _ _ (by omega), load_store_ne _ _ _ _ (by omega)]
theorem load_put (l : List Int) : ∀ (d : List Int) (a i : Nat), Words l → a + 4 * l.length ≤ d.length → i < l.length → loadS (putS d a l) (a + 4 * i) 4 = l.getD i 0 := by
  induction l with
  | nil => intro d a i _ _ hi; simp at hi
  | cons x l ih =>
    intro d a i hw hl hi
    simp at hl hi
    have hx := hw x (by simp)
    unfold putS
    cases i with
    | zero => rw [load_put_before _ _ _ _ (by omega)]; exact load_store _ _ _ (by omega) hx.1 hx.2
    | succ i => rw [show a + 4 * (i + 1) = a + 4 + 4 * i by omega, ih _ _ i (fun y hy => hw y (by simp [hy])) (by rw [storeS_len]; omega) (by omega)]; rfl
theorem U32s.mono {S S' : Nat → Prop} {w : World} {v : Value} {l : List Int} (h : U32s S w v l) (hs : ∀ k, S' k → S k) : U32s S' w v l := by
  obtain ⟨h1, p, c, rfl, h2⟩ := h
  exact ⟨h1, p, c, rfl, fun h0 => by obtain ⟨b, o, rfl, h3, h4⟩ := h2 h0; exact ⟨b, o, rfl, fun q => h3 (hs _ q), h4⟩⟩
theorem U32s.keep {S T : Nat → Prop} {a b : World} {v : Value} {l : List Int} (h : U32s S a v l) (o : Only T a b) (hT : ∀ k, T k → k < a.heap.size → S k) : U32s S b v l := by
  obtain ⟨h1, p, c, rfl, h2⟩ := h
  refine ⟨h1, p, c, rfl, fun h0 => ?_⟩
  obtain ⟨k, e, rfl, h3, h4, h5⟩ := h2 h0
  exact ⟨k, e, rfl, h3, Nat.lt_of_lt_of_le h4 o.size, fun j hj => (o.cell (p := ⟨k, e + j, none⟩) h4 (fun q => h3 (hT _ q h4))).trans (h5 j hj)⟩
end Go.Proofs.YtajholbcpmjhiaaGreatDoor
/- How a machine lies in the world; what stays when some of its blocks change. No function of the program is walked here. -/
namespace Go.Proofs.YtajholbcpmjhiaaGreatDoor
open Go.RowKit
set_option linter.unusedVariables false
set_option linter.unusedSimpArgs false
/-- What a block is to a machine. -/
inductive MRole
  | none
  | mach
  | file
  | win
  | mem
  | bytes
  | out
  | ch
/-- Blocks' roles, and what the machine's cells hold of them. -/
structure MG where
  R : Nat → MRole
  F : Nat
  Wb : Nat
  wc : Nat
  mB : Nat
  gB : Nat
  outv : Value
  chv : Value
def MG.own (G : MG) (k : Nat) : Prop := G.R k ≠ .none ∧ G.R k ≠ .ch
def machH (G : MG) (m : Mx) : List Value := [.int .i64 m.f.nw, .pointer (some ⟨G.F, 0, none⟩), .pointer (some ⟨G.mB, 0, none⟩), .int .u32 m.pc, .int .u32 m.wim, .int .u8 m.p.cwp, .int .u8 m.p.pil, .int .u8 m.p.bank, .int .u8 m.p.flags]
def machT (G : MG) (m : Mx) : List Value := [G.chv, G.outv, .int .u8 m.kind, .int .u32 m.v]
def machC (G : MG) (m : Mx) : List Value := machH G m ++ (u32s m.tpc ++ (u32s m.tpsr ++ machT G m))
/-- A row of words that is read only. -/
def MChAt (w : World) (v : Value) (l : List Int) : Prop := Reads32 w v l ∧ ∀ p n c, v = .slice p n c → n ≤ c ∧ (p = none → c = 0)
structure MachAt (w : World) (G : MG) (M : Nat) (m : Mx) : Prop where
  ok : m.ok
  ptr : ARow w M 103 (machC G m)
  file : FileAt w G.F G.Wb G.wc m.f
  mem : MemAt w G.mB G.gB m.mem
  out : w.ownsRow 0 24 1 G.outv m.out.length (u32s m.out)
  ch : ∀ W : World, (∀ k, G.R k = .ch → W.heap[k]? = w.heap[k]?) → MChAt W G.chv m.ch
  rM : G.R M = .mach
  rF : G.R G.F = .file
  rW : G.R G.Wb = .win
  rm : G.R G.mB = .mem
  rg : G.R G.gB = .bytes
  ro : ∀ k, G.outv.ownBlock = some k → G.R k = .out
  lt : ∀ k, G.R k ≠ .none → k < w.heap.size
theorem MachAt.keep {C : Nat → Prop} {w w' : World} {G : MG} {M : Nat} {m : Mx} (h : MachAt w G M m) (o : Only C w w') (hC : ∀ k, G.R k ≠ .none → ¬ C k) : MachAt w' G M m := by
  have ob : ∀ k, G.R k ≠ .none → w'.heap[k]? = w.heap[k]? := fun k hk => o.block k (h.lt k hk) (hC k hk)
  exact ⟨h.ok, h.ptr.of_block (ob _ (by rw [h.rM]; simp)), h.file.keep o (hC _ (by rw [h.rF]; simp)) (hC _ (by rw [h.rW]; simp)), h.mem.keep o (hC _ (by rw [h.rm]; simp)) (hC _ (by rw [h.rg]; simp)),
    h.out.keepw o (fun k hk => hC k (by rw [h.ro k hk]; simp)), fun W hW => h.ch W (fun k hk => (hW k hk).trans (ob k (by rw [hk]; simp))), h.rM, h.rF, h.rW, h.rm, h.rg, h.ro, fun k hk => Nat.lt_of_lt_of_le (h.lt k hk) o.size⟩
theorem MachAt.keepb {w w' : World} {G : MG} {M : Nat} {m : Mx} (h : MachAt w G M m) (hb : Below w.heap.size w w') : MachAt w' G M m := h.keep (Only.of_below (S := fun _ => False) hb) (fun _ _ => id)
theorem MachAt.chs {w : World} {G : MG} {M : Nat} {m : Mx} (h : MachAt w G M m) : MChAt w G.chv m.ch := h.ch w (fun _ _ => rfl)
/-- The machine's own cells change. -/
theorem MachAt.cells' {w w' : World} {G : MG} {M : Nat} {m m' : Mx} (h : MachAt w G M m) (o : Only (fun k => k = M) w w') (chv : Value) (hok : m'.ok) (hp : ARow w' M 103 (machC { G with chv := chv } m')) (hf : m'.f = m.f) (hm : m'.mem = m.mem) (ho : m'.out = m.out) (hch : ∀ W : World, MChAt W G.chv m.ch → MChAt W chv m'.ch) :
    MachAt w' { G with chv := chv } M m' := by
  have ob : ∀ k, G.R k ≠ .none → G.R k ≠ .mach → w'.heap[k]? = w.heap[k]? := fun k hk hm => o.block k (h.lt k hk) (fun e => hm (by rw [e]; exact h.rM))
  have ne : ∀ k, G.R k ≠ .mach → ¬ k = M := fun k hk e => hk (by rw [e]; exact h.rM)
  refine ⟨hok, hp, ?_, ?_, ?_, fun W hW => hch W (h.ch W (fun k hk => (hW k hk).trans (ob k (by rw [hk]; simp) (by rw [hk]; simp)))), h.rM, h.rF, h.rW, h.rm, h.rg, h.ro, fun k hk => Nat.lt_of_lt_of_le (h.lt k hk) o.size⟩
  · rw [hf]; exact h.file.keep o (ne _ (by rw [h.rF]; simp)) (ne _ (by rw [h.rW]; simp))
  · rw [hm]; exact h.mem.keep o (ne _ (by rw [h.rm]; simp)) (ne _ (by rw [h.rg]; simp))
  · rw [ho]; exact h.out.keepw o (fun k hk => ne k (by rw [h.ro k hk]; simp))
theorem MachAt.cells {w w' : World} {G : MG} {M : Nat} {m m' : Mx} (h : MachAt w G M m) (o : Only (fun k => k = M) w w') (hok : m'.ok) (hp : ARow w' M 103 (machC G m')) (hf : m'.f = m.f) (hm : m'.mem = m.mem) (ho : m'.out = m.out) (hc : m'.ch = m.ch) : MachAt w' G M m' :=
  h.cells' o G.chv hok hp hf hm ho (fun W hW => by rw [hc]; exact hW)
/-- The file changes. -/
theorem MachAt.file' {w w' : World} {G : MG} {M : Nat} {m : Mx} {f : Fx} (h : MachAt w G M m) (o : Only (fun k => k = G.F ∨ k = G.Wb) w w') (hf : FileAt w' G.F G.Wb G.wc f) (hn : f.nw = m.f.nw) (hok : ({ m with f := f } : Mx).ok) : MachAt w' G M { m with f := f } := by
  have ne : ∀ k, G.R k ≠ .file → G.R k ≠ .win → ¬ (k = G.F ∨ k = G.Wb) := fun k h1 h2 e => by
    rcases e with e | e
    · exact h1 (by rw [e]; exact h.rF)
    · exact h2 (by rw [e]; exact h.rW)
  have ob : ∀ k, G.R k ≠ .none → G.R k ≠ .file → G.R k ≠ .win → w'.heap[k]? = w.heap[k]? := fun k hk h1 h2 => o.block k (h.lt k hk) (ne k h1 h2)
  refine ⟨hok, ?_, hf, h.mem.keep o (ne _ (by rw [h.rm]; simp) (by rw [h.rm]; simp)) (ne _ (by rw [h.rg]; simp) (by rw [h.rg]; simp)), h.out.keepw o (fun k hk => ne k (by rw [h.ro k hk]; simp) (by rw [h.ro k hk]; simp)),
    fun W hW => h.ch W (fun k hk => (hW k hk).trans (ob k (by rw [hk]; simp) (by rw [hk]; simp) (by rw [hk]; simp))), h.rM, h.rF, h.rW, h.rm, h.rg, h.ro, fun k hk => Nat.lt_of_lt_of_le (h.lt k hk) o.size⟩
  have := h.ptr.of_block (ob M (by rw [h.rM]; simp) (by rw [h.rM]; simp) (by rw [h.rM]; simp))
  unfold machC machH at this ⊢
  simp only [hn] at this ⊢
  exact this
/-- The memory changes. -/
theorem MachAt.mem' {w w' : World} {G : MG} {M : Nat} {m : Mx} {d : List Int} (h : MachAt w G M m) (o : Only (fun k => k = G.gB) w w') (hd : MemAt w' G.mB G.gB d) (hok : ({ m with mem := d } : Mx).ok) : MachAt w' G M { m with mem := d } := by
  have ne : ∀ k, G.R k ≠ .bytes → ¬ k = G.gB := fun k h1 e => h1 (by rw [e]; exact h.rg)
  have ob : ∀ k, G.R k ≠ .none → G.R k ≠ .bytes → w'.heap[k]? = w.heap[k]? := fun k hk h1 => o.block k (h.lt k hk) (ne k h1)
  exact ⟨hok, h.ptr.of_block (ob M (by rw [h.rM]; simp) (by rw [h.rM]; simp)), h.file.keep o (ne _ (by rw [h.rF]; simp)) (ne _ (by rw [h.rW]; simp)), hd, h.out.keepw o (fun k hk => ne k (by rw [h.ro k hk]; simp)),
    fun W hW => h.ch W (fun k hk => (hW k hk).trans (ob k (by rw [hk]; simp) (by rw [hk]; simp))), h.rM, h.rF, h.rW, h.rm, h.rg, h.ro, fun k hk => Nat.lt_of_lt_of_le (h.lt k hk) o.size⟩
/-- The output changes. -/
theorem MachAt.out' {C : Nat → Prop} {w w' : World} {G : MG} {M : Nat} {m : Mx} {l : List Int} (h : MachAt w G M m) (o : Only C w w') (hC : ∀ k, C k → G.R k = .mach ∨ G.R k = .out) (outv : Value) (R' : Nat → MRole) (hR : ∀ k, G.R k ≠ .none → R' k = G.R k) (hlt : ∀ k, R' k ≠ .none → k < w'.heap.size) (hch : ∀ k, R' k = .ch → G.R k = .ch)
    (hro : ∀ k, outv.ownBlock = some k → R' k = .out) (hout : w'.ownsRow 0 24 1 outv l.length (u32s l)) (hok : ({ m with out := l } : Mx).ok) (hp : ARow w' M 103 (machC { G with R := R', outv := outv } { m with out := l })) :
    MachAt w' { G with R := R', outv := outv } M { m with out := l } := by
  have ne : ∀ k, G.R k ≠ .mach → G.R k ≠ .out → ¬ C k := fun k h1 h2 hk => by rcases hC k hk with e | e; exact h1 e; exact h2 e
  have ob : ∀ k, G.R k ≠ .none → G.R k ≠ .mach → G.R k ≠ .out → w'.heap[k]? = w.heap[k]? := fun k hk h1 h2 => o.block k (h.lt k hk) (ne k h1 h2)
  exact ⟨hok, hp, h.file.keep o (ne _ (by rw [h.rF]; simp) (by rw [h.rF]; simp)) (ne _ (by rw [h.rW]; simp) (by rw [h.rW]; simp)), h.mem.keep o (ne _ (by rw [h.rm]; simp) (by rw [h.rm]; simp)) (ne _ (by rw [h.rg]; simp) (by rw [h.rg]; simp)), hout,
    fun W hW => h.ch W (fun k hk => (hW k ((hR k (by rw [hk]; simp)).trans hk)).trans (ob k (by rw [hk]; simp) (by rw [hk]; simp) (by rw [hk]; simp))),
    (hR M (by rw [h.rM]; simp)).trans h.rM, (hR _ (by rw [h.rF]; simp)).trans h.rF, (hR _ (by rw [h.rW]; simp)).trans h.rW, (hR _ (by rw [h.rm]; simp)).trans h.rm, (hR _ (by rw [h.rg]; simp)).trans h.rg, hro, hlt⟩
/-! What the machine's cells hold. -/
theorem machC_head {G : MG} {m : Mx} {k : Nat} (hk : k < 9) : (machC G m)[k]? = (machH G m)[k]? := by
  unfold machC; rw [List.getElem?_append_left (by simpa [machH] using hk)]
theorem machC_tpc {G : MG} {m : Mx} (h : m.ok) {i : Nat} (hi : i < 17) : (machC G m)[9 + i]? = some (.int .u32 (m.tpc.getD i 0)) := by
  have ht := h.tl
  unfold machC
  rw [List.getElem?_append_right (by simp [machH]), show 9 + i - (machH G m).length = i from by simp [machH], List.getElem?_append_left (by simp [u32s]; omega)]
  exact u32s_get (by omega)
theorem machC_tpsr {G : MG} {m : Mx} (h : m.ok) {i : Nat} (hi : i < 17) : (machC G m)[26 + i]? = some (.int .u32 (m.tpsr.getD i 0)) := by
  have ht := h.tl; have hs := h.sl
  unfold machC
  rw [List.getElem?_append_right (by simp [machH]; omega), List.getElem?_append_right (by simp [machH, u32s]; omega), show 26 + i - (machH G m).length - (u32s m.tpc).length = i from by simp [machH, u32s]; omega, List.getElem?_append_left (by simp [u32s]; omega)]
  exact u32s_get (by omega)
theorem machC_tail {G : MG} {m : Mx} (h : m.ok) {i : Nat} : (machC G m)[43 + i]? = (machT G m)[i]? := by
  have ht := h.tl; have hs := h.sl
  unfold machC
  rw [List.getElem?_append_right (by simp [machH]; omega), List.getElem?_append_right (by simp [machH, u32s]; omega), List.getElem?_append_right (by simp [machH, u32s]; omega)]
  congr 1
  simp [machH, u32s]; omega
structure MCells (w : World) (G : MG) (M : Nat) (m : Mx) : Prop where
  nw : w.cell? ⟨M, 0, none⟩ = some (.int .i64 m.f.nw)
  f : w.cell? ⟨M, 1, none⟩ = some (.pointer (some ⟨G.F, 0, none⟩))
  mem : w.cell? ⟨M, 2, none⟩ = some (.pointer (some ⟨G.mB, 0, none⟩))
  pc : w.cell? ⟨M, 3, none⟩ = some (.int .u32 m.pc)
  wim : w.cell? ⟨M, 4, none⟩ = some (.int .u32 m.wim)
  cwp : w.cell? ⟨M, 5, none⟩ = some (.int .u8 m.p.cwp)
  pil : w.cell? ⟨M, 6, none⟩ = some (.int .u8 m.p.pil)
  bank : w.cell? ⟨M, 7, none⟩ = some (.int .u8 m.p.bank)
  flags : w.cell? ⟨M, 8, none⟩ = some (.int .u8 m.p.flags)
  ch : w.cell? ⟨M, 43, none⟩ = some G.chv
  out : w.cell? ⟨M, 44, none⟩ = some G.outv
  kind : w.cell? ⟨M, 45, none⟩ = some (.int .u8 m.kind)
  v : w.cell? ⟨M, 46, none⟩ = some (.int .u32 m.v)
  fz : ∀ i, w.frozen? ⟨M, i, none⟩ = false
theorem MachAt.mc {w : World} {G : MG} {M : Nat} {m : Mx} (h : MachAt w G M m) : MCells w G M m := by
  have hh : ∀ {k : Nat} {x : Value}, k < 9 → (machH G m)[k]? = some x → w.cell? ⟨M, k, none⟩ = some x := fun hk hx => h.ptr.cell ((machC_head hk).trans hx)
  have ht : ∀ {i : Nat} {x : Value}, (machT G m)[i]? = some x → w.cell? ⟨M, 43 + i, none⟩ = some x := fun hx => h.ptr.cell ((machC_tail h.ok).trans hx)
  exact ⟨hh (by omega) rfl, hh (by omega) rfl, hh (by omega) rfl, hh (by omega) rfl, hh (by omega) rfl, hh (by omega) rfl, hh (by omega) rfl, hh (by omega) rfl, hh (by omega) rfl, ht (i := 0) rfl, ht (i := 1) rfl, ht (i := 2) rfl, ht (i := 3) rfl, h.ptr.frozen⟩
theorem MachAt.tpcc {w : World} {G : MG} {M : Nat} {m : Mx} (h : MachAt w G M m) {i : Nat} (hi : i < 17) : w.cell? ⟨M, 9 + i, none⟩ = some (.int .u32 (m.tpc.getD i 0)) := h.ptr.cell (machC_tpc h.ok hi)
theorem MachAt.tpsrc {w : World} {G : MG} {M : Nat} {m : Mx} (h : MachAt w G M m) {i : Nat} (hi : i < 17) : w.cell? ⟨M, 26 + i, none⟩ = some (.int .u32 (m.tpsr.getD i 0)) := h.ptr.cell (machC_tpsr h.ok hi)
/-! One cell of the machine is stored. -/
theorem machC_setH {G : MG} {m m' : Mx} {k : Nat} {v : Value} (hk : k < 9) (h : (machH G m).set k v = machH G m') (h1 : m'.tpc = m.tpc) (h2 : m'.tpsr = m.tpsr) (h3 : machT G m' = machT G m) : (machC G m).set k v = machC G m' := by
  unfold machC
  rw [List.set_append_left _ _ (by simpa [machH] using hk), h, h1, h2, h3]
theorem machC_setT {G G' : MG} {m m' : Mx} {k : Nat} {v : Value} (ho : m.ok) (h : (machT G m).set k v = machT G' m') (h1 : m'.tpc = m.tpc) (h2 : m'.tpsr = m.tpsr) (h3 : machH G' m' = machH G m) : (machC G m).set (43 + k) v = machC G' m' := by
  have ht := ho.tl; have hs := ho.sl
  unfold machC
  rw [List.set_append_right _ _ (by simp [machH]; omega), List.set_append_right _ _ (by simp [machH, u32s]; omega), List.set_append_right _ _ (by simp [machH, u32s]; omega), h1, h2, h3,
    show 43 + k - (machH G m).length - (u32s m.tpc).length - (u32s m.tpsr).length = k from by simp [machH, u32s]; omega, h]
theorem machC_setP {G : MG} {m m' : Mx} {i : Nat} {x : Int} (ho : m.ok) (hi : i < 17) (h : m'.tpc = m.tpc.set i x) (h2 : m'.tpsr = m.tpsr) (h3 : machH G m' = machH G m) (h4 : machT G m' = machT G m) : (machC G m).set (9 + i) (.int .u32 x) = machC G m' := by
  have ht := ho.tl
  unfold machC
  rw [List.set_append_right _ _ (by simp [machH]), show 9 + i - (machH G m).length = i from by simp [machH], List.set_append_left _ _ (by simp [u32s]; omega), u32s_set, h, h2, h3, h4]
theorem machC_setS {G : MG} {m m' : Mx} {i : Nat} {x : Int} (ho : m.ok) (hi : i < 17) (h : m'.tpsr = m.tpsr.set i x) (h2 : m'.tpc = m.tpc) (h3 : machH G m' = machH G m) (h4 : machT G m' = machT G m) : (machC G m).set (26 + i) (.int .u32 x) = machC G m' := by
  have ht := ho.tl; have hs := ho.sl
  unfold machC
  rw [List.set_append_right _ _ (by simp [machH]; omega), List.set_append_right _ _ (by simp [machH, u32s]; omega), show 26 + i - (machH G m).length - (u32s m.tpc).length = i from by simp [machH, u32s]; omega, List.set_append_left _ _ (by simp [u32s]; omega), u32s_set, h, h2, h3, h4]
section
variable {w : World} {G : MG} {M : Nat} {m : Mx}
theorem onlyM (w : World) (M i : Nat) (v : Value) : Only (fun k => k = M) w (w.setCell ⟨M, i, none⟩ v) := (Only.refl (fun k => k = M) w).setCell (p := ⟨M, i, none⟩) rfl v
theorem ARow.to {w : World} {g : Nat} {t : TypeId} {a b : List Value} (h : ARow w g t a) (e : a = b) : ARow w g t b := e ▸ h
theorem MachAt.setPc (h : MachAt w G M m) {x : Int} (hx : 0 ≤ x ∧ x < 4294967296) : MachAt (w.setCell ⟨M, 3, none⟩ (.int .u32 x)) G M { m with pc := x } :=
  h.cells (onlyM w M 3 _) (pcM_ok h.ok hx) ((h.ptr.set 3 _).to (machC_setH (m := m) (k := 3) (v := .int .u32 x) (by omega) rfl rfl rfl rfl)) rfl rfl rfl rfl
theorem MachAt.setWim (h : MachAt w G M m) {x : Int} (hx : 0 ≤ x ∧ x < 4294967296) : MachAt (w.setCell ⟨M, 4, none⟩ (.int .u32 x)) G M { m with wim := x } :=
  h.cells (onlyM w M 4 _) (wimM_ok h.ok hx) ((h.ptr.set 4 _).to (machC_setH (m := m) (k := 4) (v := .int .u32 x) (by omega) rfl rfl rfl rfl)) rfl rfl rfl rfl
theorem MachAt.setCwp (h : MachAt w G M m) {x : Int} (hx : 0 ≤ x ∧ x < m.nw) : MachAt (w.setCell ⟨M, 5, none⟩ (.int .u8 x)) G M { m with p := { m.p with cwp := x } } :=
  h.cells (onlyM w M 5 _) (psM_ok h.ok (p := { m.p with cwp := x }) ⟨⟨hx.1, by have := h.ok.win.2; show x < 256; omega⟩, h.ok.pb.2⟩ ⟨hx.2, h.ok.pm.2⟩) ((h.ptr.set 5 _).to (machC_setH (m := m) (k := 5) (v := .int .u8 x) (by omega) rfl rfl rfl rfl)) rfl rfl rfl rfl
theorem MachAt.setPil (h : MachAt w G M m) {x : Int} (hx : 0 ≤ x ∧ x < 16) : MachAt (w.setCell ⟨M, 6, none⟩ (.int .u8 x)) G M { m with p := { m.p with pil := x } } :=
  h.cells (onlyM w M 6 _) (psM_ok h.ok (p := { m.p with pil := x }) ⟨h.ok.pb.1, ⟨hx.1, by show x < 256; omega⟩, h.ok.pb.2.2⟩ ⟨h.ok.pm.1, hx.2, h.ok.pm.2.2⟩) ((h.ptr.set 6 _).to (machC_setH (m := m) (k := 6) (v := .int .u8 x) (by omega) rfl rfl rfl rfl)) rfl rfl rfl rfl
theorem MachAt.setBank (h : MachAt w G M m) {x : Int} (hx : 0 ≤ x ∧ x < 17) : MachAt (w.setCell ⟨M, 7, none⟩ (.int .u8 x)) G M { m with p := { m.p with bank := x } } :=
  h.cells (onlyM w M 7 _) (psM_ok h.ok (p := { m.p with bank := x }) ⟨h.ok.pb.1, h.ok.pb.2.1, ⟨hx.1, by show x < 256; omega⟩, h.ok.pb.2.2.2⟩ ⟨h.ok.pm.1, h.ok.pm.2.1, hx.2, h.ok.pm.2.2.2⟩) ((h.ptr.set 7 _).to (machC_setH (m := m) (k := 7) (v := .int .u8 x) (by omega) rfl rfl rfl rfl)) rfl rfl rfl rfl
theorem MachAt.setFlags (h : MachAt w G M m) {x : Int} (hx : 0 ≤ x ∧ x < 16) : MachAt (w.setCell ⟨M, 8, none⟩ (.int .u8 x)) G M { m with p := { m.p with flags := x } } :=
  h.cells (onlyM w M 8 _) (psM_ok h.ok (p := { m.p with flags := x }) ⟨h.ok.pb.1, h.ok.pb.2.1, h.ok.pb.2.2.1, hx.1, by show x < 256; omega⟩ ⟨h.ok.pm.1, h.ok.pm.2.1, h.ok.pm.2.2.1, hx.2⟩) ((h.ptr.set 8 _).to (machC_setH (m := m) (k := 8) (v := .int .u8 x) (by omega) rfl rfl rfl rfl)) rfl rfl rfl rfl
theorem MachAt.setTpc (h : MachAt w G M m) {i : Nat} (hi : i < 17) {x : Int} (hx : 0 ≤ x ∧ x < 4294967296) : MachAt (w.setCell ⟨M, 9 + i, none⟩ (.int .u32 x)) G M { m with tpc := m.tpc.set i x } :=
  h.cells (onlyM w M _ _) (tpcM_ok h.ok i hx) ((h.ptr.set _ _).to (machC_setP (m := m) (i := i) (x := x) h.ok hi rfl rfl rfl rfl)) rfl rfl rfl rfl
theorem MachAt.setTpsr (h : MachAt w G M m) {i : Nat} (hi : i < 17) {x : Int} (hx : 0 ≤ x ∧ x < 4294967296) : MachAt (w.setCell ⟨M, 26 + i, none⟩ (.int .u32 x)) G M { m with tpsr := m.tpsr.set i x } :=
  h.cells (onlyM w M _ _) (tpsrM_ok h.ok i hx) ((h.ptr.set _ _).to (machC_setS (m := m) (i := i) (x := x) h.ok hi rfl rfl rfl rfl)) rfl rfl rfl rfl
theorem MachAt.setCh (h : MachAt w G M m) (chv : Value) (l : List Int) (hl : Words l) (hch : ∀ W : World, MChAt W G.chv m.ch → MChAt W chv l) : MachAt (w.setCell ⟨M, 43, none⟩ chv) { G with chv := chv } M { m with ch := l } :=
  h.cells' (onlyM w M 43 _) chv (chM_ok h.ok hl) ((h.ptr.set 43 _).to (machC_setT (G := G) (G' := { G with chv := chv }) (m := m) (k := 0) (v := chv) h.ok rfl rfl rfl rfl)) rfl rfl rfl hch
theorem MachAt.setKind (h : MachAt w G M m) {x : Int} (hx : 0 ≤ x ∧ x < 256) : MachAt (w.setCell ⟨M, 45, none⟩ (.int .u8 x)) G M { m with kind := x } :=
  h.cells (onlyM w M 45 _) (haltM_ok h.ok hx ⟨h.ok.v0, h.ok.v1⟩) ((h.ptr.set 45 _).to (machC_setT (G := G) (G' := G) (m := m) (m' := { m with kind := x }) (k := 2) (v := .int .u8 x) h.ok rfl rfl rfl rfl)) rfl rfl rfl rfl
theorem MachAt.setV (h : MachAt w G M m) {x : Int} (hx : 0 ≤ x ∧ x < 4294967296) : MachAt (w.setCell ⟨M, 46, none⟩ (.int .u32 x)) G M { m with v := x } :=
  h.cells (onlyM w M 46 _) (haltM_ok h.ok ⟨h.ok.k0, h.ok.k1⟩ hx) ((h.ptr.set 46 _).to (machC_setT (G := G) (G' := G) (m := m) (m' := { m with v := x }) (k := 3) (v := .int .u32 x) h.ok rfl rfl rfl rfl)) rfl rfl rfl rfl
end
end Go.Proofs.YtajholbcpmjhiaaGreatDoor
/- The parts of a state, gone over: the contract of psr.parts's function. -/
namespace Go.Proofs.YtajholbcpmjhiaaGreatDoor
open Go.RowKit Go.Shelf
set_option linter.unusedVariables false
set_option linter.unusedSimpArgs false
attribute [local go_sem] Oper.semAt_some
/-- How many bits a part has. -/
def bitsP (i : Fin 4) : Int := if i.val = 0 ∨ i.val = 2 then 5 else 4
abbrev encP (b : Nat) (i : Fin 4) : Array Value := #[.pointer (some ⟨b, i.val, none⟩), .int .i64 (bitsP i)]
set_option maxRecDepth 100000 in
set_option maxHeartbeats 4000000 in
/-- All four, in their order; or a part of them. -/
theorem parts_stops (n : Nat) (hn : 1 ≤ n) (c b : Nat) (w : World) (hc : w.cell? ⟨c, 0, none⟩ = some (.pointer (some ⟨b, 0, none⟩))) :
    SeqStopsK Fence.wide n Tryz.prog 209 #[.pointer (some ⟨c, 0, none⟩)] (encP b) (fun _ _ => True) (fun xs => xs = [0, 1, 2, 3]) (fun _ => True) 4 w := fun l J Jx W hW hAb _ hY h0 => by
  have hc' := (hW.cell (p := ⟨c, 0, none⟩) (World.block_lt_of_cell? _ _ hc)).trans hc
  refine callsIn_of_wp Tryz.func209 rfl trivial ?_ rfl
  simp only [Tryz.ntmps209, List.size_toArray, List.length_cons, List.length_nil, Nat.reduceAdd, Nat.reduceSub, Array.replicate_succ, Array.replicate_zero, List.push_toArray, List.append_toArray, List.nil_append, List.cons_append]
  have ix0 : ∀ w, (Instr.index 251 (.agg #[.pointer (some ⟨b, 0, none⟩), .pointer (some ⟨b, 1, none⟩), .pointer (some ⟨b, 2, none⟩), .pointer (some ⟨b, 3, none⟩)]) (.int .i64 0)).run Tryz.prog w = .ok (.pointer (some ⟨b, 0, none⟩)) w := fun _ => by kernel_rfl
  have iy0 : ∀ w, (Instr.index 252 (.agg #[.int .i64 5, .int .i64 4, .int .i64 5, .int .i64 4]) (.int .i64 0)).run Tryz.prog w = .ok (.int .i64 5) w := fun _ => by kernel_rfl
  have ix1 : ∀ w, (Instr.index 251 (.agg #[.pointer (some ⟨b, 0, none⟩), .pointer (some ⟨b, 1, none⟩), .pointer (some ⟨b, 2, none⟩), .pointer (some ⟨b, 3, none⟩)]) (.int .i64 1)).run Tryz.prog w = .ok (.pointer (some ⟨b, 1, none⟩)) w := fun _ => by kernel_rfl
  have iy1 : ∀ w, (Instr.index 252 (.agg #[.int .i64 5, .int .i64 4, .int .i64 5, .int .i64 4]) (.int .i64 1)).run Tryz.prog w = .ok (.int .i64 4) w := fun _ => by kernel_rfl
  have ix2 : ∀ w, (Instr.index 251 (.agg #[.pointer (some ⟨b, 0, none⟩), .pointer (some ⟨b, 1, none⟩), .pointer (some ⟨b, 2, none⟩), .pointer (some ⟨b, 3, none⟩)]) (.int .i64 2)).run Tryz.prog w = .ok (.pointer (some ⟨b, 2, none⟩)) w := fun _ => by kernel_rfl
  have iy2 : ∀ w, (Instr.index 252 (.agg #[.int .i64 5, .int .i64 4, .int .i64 5, .int .i64 4]) (.int .i64 2)).run Tryz.prog w = .ok (.int .i64 5) w := fun _ => by kernel_rfl
  have ix3 : ∀ w, (Instr.index 251 (.agg #[.pointer (some ⟨b, 0, none⟩), .pointer (some ⟨b, 1, none⟩), .pointer (some ⟨b, 2, none⟩), .pointer (some ⟨b, 3, none⟩)]) (.int .i64 3)).run Tryz.prog w = .ok (.pointer (some ⟨b, 3, none⟩)) w := fun _ => by kernel_rfl
  have iy3 : ∀ w, (Instr.index 252 (.agg #[.int .i64 5, .int .i64 4, .int .i64 5, .int .i64 4]) (.int .i64 3)).run Tryz.prog w = .ok (.int .i64 4) w := fun _ => by kernel_rfl
  gi_wp2
  refine wpIn_wide.2 ?_
  go_quiet (fail)
  have hJ1 : J [] (W.drewN nq) := hAb [] _ _ none h0 ⟨rfl, rfl, rfl, Nat.le_refl _, fun _ _ _ => rfl⟩ (fun r e => by cases e)
  gi_wp2
  gi_loopw [18] (fun i wr => ∃ k : Nat, k ≤ 4 ∧ i = .int .i64 k ∧ J (([0, 1, 2, 3] : List (Fin 4)).take k) wr) (fun i _ => 4 - (intOf i).toNat)
  case atStart => exact ⟨0, by omega, rfl, hJ1⟩
  case round =>
    obtain ⟨k, hk, rfl, hJ⟩ := hrel
    have hk : k = 0 ∨ k = 1 ∨ k = 2 ∨ k = 3 ∨ k = 4 := by omega
    rcases hk with rfl | rfl | rfl | rfl | rfl
    · obtain ⟨fn, tmps, assign, body, hy0, hR⟩ := hY _ 0 wr hJ (by simp)
      have hy : Sem.run Tryz.prog (Instr.yield l #[.pointer (some ⟨b, 0, none⟩), .int .i64 5]) wr = .ok (Next.round l fn tmps assign body) wr := hy0
      clear hy0
      gi_wp2
      refine hR.mono ?_
      rintro e W3 (⟨rfl, hJ3, hk3⟩ | ⟨rfl, hJx3⟩)
      · gi_wp2
        go_roundw
        case rel => exact ⟨1, by omega, by go_num, hJ3⟩
        case measure => simp [intOf] <;> omega
      · gi_wp2
        refine bodyPost_ret (results_none rfl _ _ _) rfl ?_
        exact ⟨⟨_, rfl⟩, .inr ⟨_, trivial, hJx3⟩⟩
    · obtain ⟨fn, tmps, assign, body, hy0, hR⟩ := hY _ 1 wr hJ (by simp)
      have hy : Sem.run Tryz.prog (Instr.yield l #[.pointer (some ⟨b, 1, none⟩), .int .i64 4]) wr = .ok (Next.round l fn tmps assign body) wr := hy0
      clear hy0
      gi_wp2
      refine hR.mono ?_
      rintro e W3 (⟨rfl, hJ3, hk3⟩ | ⟨rfl, hJx3⟩)
      · gi_wp2
        go_roundw
        case rel => exact ⟨2, by omega, by go_num, hJ3⟩
        case measure => simp [intOf] <;> omega
      · gi_wp2
        refine bodyPost_ret (results_none rfl _ _ _) rfl ?_
        exact ⟨⟨_, rfl⟩, .inr ⟨_, trivial, hJx3⟩⟩
    · obtain ⟨fn, tmps, assign, body, hy0, hR⟩ := hY _ 2 wr hJ (by simp)
      have hy : Sem.run Tryz.prog (Instr.yield l #[.pointer (some ⟨b, 2, none⟩), .int .i64 5]) wr = .ok (Next.round l fn tmps assign body) wr := hy0
      clear hy0
      gi_wp2
      refine hR.mono ?_
      rintro e W3 (⟨rfl, hJ3, hk3⟩ | ⟨rfl, hJx3⟩)
      · gi_wp2
        go_roundw
        case rel => exact ⟨3, by omega, by go_num, hJ3⟩
        case measure => simp [intOf] <;> omega
      · gi_wp2
        refine bodyPost_ret (results_none rfl _ _ _) rfl ?_
        exact ⟨⟨_, rfl⟩, .inr ⟨_, trivial, hJx3⟩⟩
    · obtain ⟨fn, tmps, assign, body, hy0, hR⟩ := hY _ 3 wr hJ (by simp)
      have hy : Sem.run Tryz.prog (Instr.yield l #[.pointer (some ⟨b, 3, none⟩), .int .i64 4]) wr = .ok (Next.round l fn tmps assign body) wr := hy0
      clear hy0
      gi_wp2
      refine hR.mono ?_
      rintro e W3 (⟨rfl, hJ3, hk3⟩ | ⟨rfl, hJx3⟩)
      · gi_wp2
        go_roundw
        case rel => exact ⟨4, by omega, by go_num, hJ3⟩
        case measure => simp [intOf] <;> omega
      · gi_wp2
        refine bodyPost_ret (results_none rfl _ _ _) rfl ?_
        exact ⟨⟨_, rfl⟩, .inr ⟨_, trivial, hJx3⟩⟩
    · gi_wp2
      go_end0
      exact ⟨⟨_, rfl⟩, .inl ⟨_, rfl, hJ⟩⟩
set_option maxHeartbeats 1000000 in
theorem parts_any (p : Option Addr) (w : World) : Calls Tryz.prog 188 #[.pointer p] w fun e w' => e = .returned (.func (.func 209) #[] #[.pointer (some ⟨w.heap.size, 0, none⟩)]) ∧ w.alloc (.cells #[.pointer p] 226) = w' := by
  go_enter Tryz.func188, Tryz.ntmps188
  go_wp2
  go_ret
  exact ⟨rfl, rfl⟩
end Go.Proofs.YtajholbcpmjhiaaGreatDoor
