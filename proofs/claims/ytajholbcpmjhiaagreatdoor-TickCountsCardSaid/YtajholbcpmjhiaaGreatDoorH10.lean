/- Several texts in one: MemRowsLaw, MachAt, PsrParts, PsrPack, PsrPackAny. -/
import Derived.Test.YtajholbcpmjhiaaGreatDoorH08
import Derived.ProofKit
import Derived.OpenShut
import Derived.RangeFuncNested
import Derived.RangeFuncBound
import Derived.RangeFuncCalls
import Derived.RangeFuncLeaves
import Derived.Shelf.Abstract
import Derived.Shelf.RegionOpen
import Derived.OwnWalkIn
import Derived.TacticsInMore
import Derived.LoopNIn
import Derived.LoopIn
import Derived.RegionIn
import Derived.Deep.RegionHeld
set_option linter.unusedVariables false
set_option linter.unusedSimpArgs false
/- The walk of muntinlaw05.MemWords: rows of words. -/
namespace Go.Proofs.YtajholbcpmjhiaaGreatDoor
open Go.RowKit
theorem load_put_before (l : List Int) : ∀ (d : List Int) (b a : Nat), a + 4 ≤ b → loadS (putS d b l) a 4 = loadS d a 4 := by
  induction l with
  | nil => intro d b a _; rfl
  | cons x l ih => intro d b a h; unfold putS; rw [ih _ _ _ (by omega), load_store_ne _ _ _ _ (by omega)]
theorem load_put (l : List Int) : ∀ (d : List Int) (a i : Nat), Words l → a + 4 * l.length ≤ d.length → i < l.length → loadS (putS d a l) (a + 4 * i) 4 = l.getD i 0 := by
  induction l with
  | nil => intro d a i _ _ hi; simp at hi
  | cons x l ih =>
    intro d a i hw hl hi
    simp at hl hi
    have hx := hw x (by simp)
    unfold putS
    cases i with
    | zero => rw [load_put_before _ _ _ _ (by omega)]; exact load_store _ _ _ (by omega) hx.1 hx.2
    | succ i => rw [show a + 4 * (i + 1) = a + 4 + 4 * i by omega, ih _ _ i (fun y hy => hw y (by simp [hy])) (by rw [storeS_len]; omega) (by omega)]; rfl
end Go.Proofs.YtajholbcpmjhiaaGreatDoor
/- How a machine lies in the world; what stays when some of its blocks change. No function of the program is walked here. -/
namespace Go.Proofs.YtajholbcpmjhiaaGreatDoor
open Go.RowKit
inductive MRole
  | none
  | mach
  | file
  | win
  | mem
  | bytes
  | out
  | ch
structure MG where
  R : Nat → MRole
  F : Nat
  Wb : Nat
  wc : Nat
  mB : Nat
  gB : Nat
  outv : Value
  chv : Value
def MG.own (G : MG) (k : Nat) : Prop := G.R k ≠ .none ∧ G.R k ≠ .ch
def machH (G : MG) (m : Mx) : List Value := [.int .i64 m.f.nw, .pointer (some ⟨G.F, 0, none⟩), .pointer (some ⟨G.mB, 0, none⟩), .int .u32 m.pc, .int .u32 m.wim, .int .u8 m.p.cwp, .int .u8 m.p.pil, .int .u8 m.p.bank, .int .u8 m.p.flags]
def machT (G : MG) (m : Mx) : List Value := [G.chv, G.outv, .int .u8 m.kind, .int .u32 m.v]
def machC (G : MG) (m : Mx) : List Value := machH G m ++ (u32s m.tpc ++ (u32s m.tpsr ++ machT G m))
def MChAt (w : World) (v : Value) (l : List Int) : Prop := Reads32 w v l ∧ ∀ p n c, v = .slice p n c → n ≤ c ∧ (p = none → c = 0)
structure MachAt (w : World) (G : MG) (M : Nat) (m : Mx) : Prop where
  ok : m.ok
  ptr : ARow w M 103 (machC G m)
  file : FileAt w G.F G.Wb G.wc m.f
  mem : MemAt w G.mB G.gB m.mem
  out : w.ownsRow 0 24 1 G.outv m.out.length (u32s m.out)
  ch : ∀ W : World, (∀ k, G.R k = .ch → W.heap[k]? = w.heap[k]?) → MChAt W G.chv m.ch
  rM : G.R M = .mach
  rF : G.R G.F = .file
  rW : G.R G.Wb = .win
  rm : G.R G.mB = .mem
  rg : G.R G.gB = .bytes
  ro : ∀ k, G.outv.ownBlock = some k → G.R k = .out
  lt : ∀ k, G.R k ≠ .none → k < w.heap.size
theorem MachAt.keep {C : Nat → Prop} {w w' : World} {G : MG} {M : Nat} {m : Mx} (h : MachAt w G M m) (o : Only C w w') (hC : ∀ k, G.R k ≠ .none → ¬ C k) : MachAt w' G M m := by
  have ob : ∀ k, G.R k ≠ .none → w'.heap[k]? = w.heap[k]? := fun k hk => o.block k (h.lt k hk) (hC k hk)
  exact ⟨h.ok, h.ptr.of_block (ob _ (by rw [h.rM]; simp)), h.file.keep o (hC _ (by rw [h.rF]; simp)) (hC _ (by rw [h.rW]; simp)), h.mem.keep o (hC _ (by rw [h.rm]; simp)) (hC _ (by rw [h.rg]; simp)),
    h.out.keepw o (fun k hk => hC k (by rw [h.ro k hk]; simp)), fun W hW => h.ch W (fun k hk => (hW k hk).trans (ob k (by rw [hk]; simp))), h.rM, h.rF, h.rW, h.rm, h.rg, h.ro, fun k hk => Nat.lt_of_lt_of_le (h.lt k hk) o.size⟩
theorem MachAt.keepb {w w' : World} {G : MG} {M : Nat} {m : Mx} (h : MachAt w G M m) (hb : Below w.heap.size w w') : MachAt w' G M m := h.keep (Only.of_below (S := fun _ => False) hb) (fun _ _ => id)
theorem MachAt.chs {w : World} {G : MG} {M : Nat} {m : Mx} (h : MachAt w G M m) : MChAt w G.chv m.ch := h.ch w (fun _ _ => rfl)
theorem MachAt.cells' {w w' : World} {G : MG} {M : Nat} {m m' : Mx} (h : MachAt w G M m) (o : Only (fun k => k = M) w w') (chv : Value) (hok : m'.ok) (hp : ARow w' M 103 (machC { G with chv := chv } m')) (hf : m'.f = m.f) (hm : m'.mem = m.mem) (ho : m'.out = m.out) (hch : ∀ W : World, MChAt W G.chv m.ch → MChAt W chv m'.ch) :
    MachAt w' { G with chv := chv } M m' := by
  have ob : ∀ k, G.R k ≠ .none → G.R k ≠ .mach → w'.heap[k]? = w.heap[k]? := fun k hk hm => o.block k (h.lt k hk) (fun e => hm (by rw [e]; exact h.rM))
  have ne : ∀ k, G.R k ≠ .mach → ¬ k = M := fun k hk e => hk (by rw [e]; exact h.rM)
  refine ⟨hok, hp, ?_, ?_, ?_, fun W hW => hch W (h.ch W (fun k hk => (hW k hk).trans (ob k (by rw [hk]; simp) (by rw [hk]; simp)))), h.rM, h.rF, h.rW, h.rm, h.rg, h.ro, fun k hk => Nat.lt_of_lt_of_le (h.lt k hk) o.size⟩
  · rw [hf]; exact h.file.keep o (ne _ (by rw [h.rF]; simp)) (ne _ (by rw [h.rW]; simp))
  · rw [hm]; exact h.mem.keep o (ne _ (by rw [h.rm]; simp)) (ne _ (by rw [h.rg]; simp))
  · rw [ho]; exact h.out.keepw o (fun k hk => ne k (by rw [h.ro k hk]; simp))
theorem MachAt.cells {w w' : World} {G : MG} {M : Nat} {m m' : Mx} (h : MachAt w G M m) (o : Only (fun k => k = M) w w') (hok : m'.ok) (hp : ARow w' M 103 (machC G m')) (hf : m'.f = m.f) (hm : m'.mem = m.mem) (ho : m'.out = m.out) (hc : m'.ch = m.ch) : MachAt w' G M m' :=
  h.cells' o G.chv hok hp hf hm ho (fun W hW => by rw [hc]; exact hW)
theorem MachAt.file' {w w' : World} {G : MG} {M : Nat} {m : Mx} {f : Fx} (h : MachAt w G M m) (o : Only (fun k => k = G.F ∨ k = G.Wb) w w') (hf : FileAt w' G.F G.Wb G.wc f) (hn : f.nw = m.f.nw) (hok : ({ m with f := f } : Mx).ok) : MachAt w' G M { m with f := f } := by
  have ne : ∀ k, G.R k ≠ .file → G.R k ≠ .win → ¬ (k = G.F ∨ k = G.Wb) := fun k h1 h2 e => by
    rcases e with e | e
    · exact h1 (by rw [e]; exact h.rF)
    · exact h2 (by rw [e]; exact h.rW)
  have ob : ∀ k, G.R k ≠ .none → G.R k ≠ .file → G.R k ≠ .win → w'.heap[k]? = w.heap[k]? := fun k hk h1 h2 => o.block k (h.lt k hk) (ne k h1 h2)
  refine ⟨hok, ?_, hf, h.mem.keep o (ne _ (by rw [h.rm]; simp) (by rw [h.rm]; simp)) (ne _ (by rw [h.rg]; simp) (by rw [h.rg]; simp)), h.out.keepw o (fun k hk => ne k (by rw [h.ro k hk]; simp) (by rw [h.ro k hk]; simp)),
    fun W hW => h.ch W (fun k hk => (hW k hk).trans (ob k (by rw [hk]; simp) (by rw [hk]; simp) (by rw [hk]; simp))), h.rM, h.rF, h.rW, h.rm, h.rg, h.ro, fun k hk => Nat.lt_of_lt_of_le (h.lt k hk) o.size⟩
  have := h.ptr.of_block (ob M (by rw [h.rM]; simp) (by rw [h.rM]; simp) (by rw [h.rM]; simp))
  unfold machC machH at this ⊢
  simp only [hn] at this ⊢
  exact this
theorem MachAt.mem' {w w' : World} {G : MG} {M : Nat} {m : Mx} {d : List Int} (h : MachAt w G M m) (o : Only (fun k => k = G.gB) w w') (hd : MemAt w' G.mB G.gB d) (hok : ({ m with mem := d } : Mx).ok) : MachAt w' G M { m with mem := d } := by
  have ne : ∀ k, G.R k ≠ .bytes → ¬ k = G.gB := fun k h1 e => h1 (by rw [e]; exact h.rg)
  have ob : ∀ k, G.R k ≠ .none → G.R k ≠ .bytes → w'.heap[k]? = w.heap[k]? := fun k hk h1 => o.block k (h.lt k hk) (ne k h1)
  exact ⟨hok, h.ptr.of_block (ob M (by rw [h.rM]; simp) (by rw [h.rM]; simp)), h.file.keep o (ne _ (by rw [h.rF]; simp)) (ne _ (by rw [h.rW]; simp)), hd, h.out.keepw o (fun k hk => ne k (by rw [h.ro k hk]; simp)),
    fun W hW => h.ch W (fun k hk => (hW k hk).trans (ob k (by rw [hk]; simp) (by rw [hk]; simp))), h.rM, h.rF, h.rW, h.rm, h.rg, h.ro, fun k hk => Nat.lt_of_lt_of_le (h.lt k hk) o.size⟩
theorem MachAt.out' {C : Nat → Prop} {w w' : World} {G : MG} {M : Nat} {m : Mx} {l : List Int} (h : MachAt w G M m) (o : Only C w w') (hC : ∀ k, C k → G.R k = .mach ∨ G.R k = .out) (outv : Value) (R' : Nat → MRole) (hR : ∀ k, G.R k ≠ .none → R' k = G.R k) (hlt : ∀ k, R' k ≠ .none → k < w'.heap.size) (hch : ∀ k, R' k = .ch → G.R k = .ch)
    (hro : ∀ k, outv.ownBlock = some k → R' k = .out) (hout : w'.ownsRow 0 24 1 outv l.length (u32s l)) (hok : ({ m with out := l } : Mx).ok) (hp : ARow w' M 103 (machC { G with R := R', outv := outv } { m with out := l })) :
    MachAt w' { G with R := R', outv := outv } M { m with out := l } := by
  have ne : ∀ k, G.R k ≠ .mach → G.R k ≠ .out → ¬ C k := fun k h1 h2 hk => by rcases hC k hk with e | e; exact h1 e; exact h2 e
  have ob : ∀ k, G.R k ≠ .none → G.R k ≠ .mach → G.R k ≠ .out → w'.heap[k]? = w.heap[k]? := fun k hk h1 h2 => o.block k (h.lt k hk) (ne k h1 h2)
  exact ⟨hok, hp, h.file.keep o (ne _ (by rw [h.rF]; simp) (by rw [h.rF]; simp)) (ne _ (by rw [h.rW]; simp) (by rw [h.rW]; simp)), h.mem.keep o (ne _ (by rw [h.rm]; simp) (by rw [h.rm]; simp)) (ne _ (by rw [h.rg]; simp) (by rw [h.rg]; simp)), hout,
    fun W hW => h.ch W (fun k hk => (hW k ((hR k (by rw [hk]; simp)).trans hk)).trans (ob k (by rw [hk]; simp) (by rw [hk]; simp) (by rw [hk]; simp))),
    (hR M (by rw [h.rM]; simp)).trans h.rM, (hR _ (by rw [h.rF]; simp)).trans h.rF, (hR _ (by rw [h.rW]; simp)).trans h.rW, (hR _ (by rw [h.rm]; simp)).trans h.rm, (hR _ (by rw [h.rg]; simp)).trans h.rg, hro, hlt⟩
/-! What the machine's cells hold. -/
theorem machC_head {G : MG} {m : Mx} {k : Nat} (hk : k < 9) : (machC G m)[k]? = (machH G m)[k]? := by
  unfold machC; rw [List.getElem?_append_left (by simpa [machH] using hk)]
theorem machC_tpc {G : MG} {m : Mx} (h : m.ok) {i : Nat} (hi : i < 17) : (machC G m)[9 + i]? = some (.int .u32 (m.tpc.getD i 0)) := by
  have ht := h.tl
  unfold machC
  rw [List.getElem?_append_right (by simp [machH]), show 9 + i - (machH G m).length = i from by simp [machH], List.getElem?_append_left (by simp [u32s]; omega)]
  exact u32s_get (by omega)
theorem machC_tpsr {G : MG} {m : Mx} (h : m.ok) {i : Nat} (hi : i < 17) : (machC G m)[26 + i]? = some (.int .u32 (m.tpsr.getD i 0)) := by
  have ht := h.tl; have hs := h.sl
  unfold machC
  rw [List.getElem?_append_right (by simp [machH]; omega), List.getElem?_append_right (by simp [machH, u32s]; omega), show 26 + i - (machH G m).length - (u32s m.tpc).length = i from by simp [machH, u32s]; omega, List.getElem?_append_left (by simp [u32s]; omega)]
  exact u32s_get (by omega)
theorem machC_tail {G : MG} {m : Mx} (h : m.ok) {i : Nat} : (machC G m)[43 + i]? = (machT G m)[i]? := by
  have ht := h.tl; have hs := h.sl
  unfold machC
  rw [List.getElem?_append_right (by simp [machH]; omega), List.getElem?_append_right (by simp [machH, u32s]; omega), List.getElem?_append_right (by simp [machH, u32s]; omega)]
  congr 1
  simp [machH, u32s]; omega
structure MCells (w : World) (G : MG) (M : Nat) (m : Mx) : Prop where
  nw : w.cell? ⟨M, 0, none⟩ = some (.int .i64 m.f.nw)
  f : w.cell? ⟨M, 1, none⟩ = some (.pointer (some ⟨G.F, 0, none⟩))
  mem : w.cell? ⟨M, 2, none⟩ = some (.pointer (some ⟨G.mB, 0, none⟩))
  pc : w.cell? ⟨M, 3, none⟩ = some (.int .u32 m.pc)
  wim : w.cell? ⟨M, 4, none⟩ = some (.int .u32 m.wim)
  cwp : w.cell? ⟨M, 5, none⟩ = some (.int .u8 m.p.cwp)
  pil : w.cell? ⟨M, 6, none⟩ = some (.int .u8 m.p.pil)
  bank : w.cell? ⟨M, 7, none⟩ = some (.int .u8 m.p.bank)
  flags : w.cell? ⟨M, 8, none⟩ = some (.int .u8 m.p.flags)
  ch : w.cell? ⟨M, 43, none⟩ = some G.chv
  out : w.cell? ⟨M, 44, none⟩ = some G.outv
  kind : w.cell? ⟨M, 45, none⟩ = some (.int .u8 m.kind)
  v : w.cell? ⟨M, 46, none⟩ = some (.int .u32 m.v)
  fz : ∀ i, w.frozen? ⟨M, i, none⟩ = false
theorem MachAt.mc {w : World} {G : MG} {M : Nat} {m : Mx} (h : MachAt w G M m) : MCells w G M m := by
  have hh : ∀ {k : Nat} {x : Value}, k < 9 → (machH G m)[k]? = some x → w.cell? ⟨M, k, none⟩ = some x := fun hk hx => h.ptr.cell ((machC_head hk).trans hx)
  have ht : ∀ {i : Nat} {x : Value}, (machT G m)[i]? = some x → w.cell? ⟨M, 43 + i, none⟩ = some x := fun hx => h.ptr.cell ((machC_tail h.ok).trans hx)
  exact ⟨hh (by omega) rfl, hh (by omega) rfl, hh (by omega) rfl, hh (by omega) rfl, hh (by omega) rfl, hh (by omega) rfl, hh (by omega) rfl, hh (by omega) rfl, hh (by omega) rfl, ht (i := 0) rfl, ht (i := 1) rfl, ht (i := 2) rfl, ht (i := 3) rfl, h.ptr.frozen⟩
theorem MachAt.tpcc {w : World} {G : MG} {M : Nat} {m : Mx} (h : MachAt w G M m) {i : Nat} (hi : i < 17) : w.cell? ⟨M, 9 + i, none⟩ = some (.int .u32 (m.tpc.getD i 0)) := h.ptr.cell (machC_tpc h.ok hi)
theorem MachAt.tpsrc {w : World} {G : MG} {M : Nat} {m : Mx} (h : MachAt w G M m) {i : Nat} (hi : i < 17) : w.cell? ⟨M, 26 + i, none⟩ = some (.int .u32 (m.tpsr.getD i 0)) := h.ptr.cell (machC_tpsr h.ok hi)
/-! One cell of the machine is stored. -/
theorem machC_setH {G : MG} {m m' : Mx} {k : Nat} {v : Value} (hk : k < 9) (h : (machH G m).set k v = machH G m') (h1 : m'.tpc = m.tpc) (h2 : m'.tpsr = m.tpsr) (h3 : machT G m' = machT G m) : (machC G m).set k v = machC G m' := by
  unfold machC
  rw [List.set_append_left _ _ (by simpa [machH] using hk), h, h1, h2, h3]
theorem machC_setT {G G' : MG} {m m' : Mx} {k : Nat} {v : Value} (ho : m.ok) (h : (machT G m).set k v = machT G' m') (h1 : m'.tpc = m.tpc) (h2 : m'.tpsr = m.tpsr) (h3 : machH G' m' = machH G m) : (machC G m).set (43 + k) v = machC G' m' := by
  have ht := ho.tl; have hs := ho.sl
  unfold machC
  rw [List.set_append_right _ _ (by simp [machH]; omega), List.set_append_right _ _ (by simp [machH, u32s]; omega), List.set_append_right _ _ (by simp [machH, u32s]; omega), h1, h2, h3,
    show 43 + k - (machH G m).length - (u32s m.tpc).length - (u32s m.tpsr).length = k from by simp [machH, u32s]; omega, h]
theorem machC_setP {G : MG} {m m' : Mx} {i : Nat} {x : Int} (ho : m.ok) (hi : i < 17) (h : m'.tpc = m.tpc.set i x) (h2 : m'.tpsr = m.tpsr) (h3 : machH G m' = machH G m) (h4 : machT G m' = machT G m) : (machC G m).set (9 + i) (.int .u32 x) = machC G m' := by
  have ht := ho.tl
  unfold machC
  rw [List.set_append_right _ _ (by simp [machH]), show 9 + i - (machH G m).length = i from by simp [machH], List.set_append_left _ _ (by simp [u32s]; omega), u32s_set, h, h2, h3, h4]
theorem machC_setS {G : MG} {m m' : Mx} {i : Nat} {x : Int} (ho : m.ok) (hi : i < 17) (h : m'.tpsr = m.tpsr.set i x) (h2 : m'.tpc = m.tpc) (h3 : machH G m' = machH G m) (h4 : machT G m' = machT G m) : (machC G m).set (26 + i) (.int .u32 x) = machC G m' := by
  have ht := ho.tl; have hs := ho.sl
  unfold machC
  rw [List.set_append_right _ _ (by simp [machH]; omega), List.set_append_right _ _ (by simp [machH, u32s]; omega), show 26 + i - (machH G m).length - (u32s m.tpc).length = i from by simp [machH, u32s]; omega, List.set_append_left _ _ (by simp [u32s]; omega), u32s_set, h, h2, h3, h4]
section
variable {w : World} {G : MG} {M : Nat} {m : Mx}
theorem onlyM (w : World) (M i : Nat) (v : Value) : Only (fun k => k = M) w (w.setCell ⟨M, i, none⟩ v) := (Only.refl (fun k => k = M) w).setCell (p := ⟨M, i, none⟩) rfl v
theorem ARow.to {w : World} {g : Nat} {t : TypeId} {a b : List Value} (h : ARow w g t a) (e : a = b) : ARow w g t b := e ▸ h
theorem MachAt.setPc (h : MachAt w G M m) {x : Int} (hx : 0 ≤ x ∧ x < 4294967296) : MachAt (w.setCell ⟨M, 3, none⟩ (.int .u32 x)) G M { m with pc := x } :=
  h.cells (onlyM w M 3 _) (pcM_ok h.ok hx) ((h.ptr.set 3 _).to (machC_setH (m := m) (k := 3) (v := .int .u32 x) (by omega) rfl rfl rfl rfl)) rfl rfl rfl rfl
theorem MachAt.setWim (h : MachAt w G M m) {x : Int} (hx : 0 ≤ x ∧ x < 4294967296) : MachAt (w.setCell ⟨M, 4, none⟩ (.int .u32 x)) G M { m with wim := x } :=
  h.cells (onlyM w M 4 _) (wimM_ok h.ok hx) ((h.ptr.set 4 _).to (machC_setH (m := m) (k := 4) (v := .int .u32 x) (by omega) rfl rfl rfl rfl)) rfl rfl rfl rfl
theorem MachAt.setCwp (h : MachAt w G M m) {x : Int} (hx : 0 ≤ x ∧ x < m.nw) : MachAt (w.setCell ⟨M, 5, none⟩ (.int .u8 x)) G M { m with p := { m.p with cwp := x } } :=
  h.cells (onlyM w M 5 _) (psM_ok h.ok (p := { m.p with cwp := x }) ⟨⟨hx.1, by have := h.ok.win.2; show x < 256; omega⟩, h.ok.pb.2⟩ ⟨hx.2, h.ok.pm.2⟩) ((h.ptr.set 5 _).to (machC_setH (m := m) (k := 5) (v := .int .u8 x) (by omega) rfl rfl rfl rfl)) rfl rfl rfl rfl
theorem MachAt.setPil (h : MachAt w G M m) {x : Int} (hx : 0 ≤ x ∧ x < 16) : MachAt (w.setCell ⟨M, 6, none⟩ (.int .u8 x)) G M { m with p := { m.p with pil := x } } :=
  h.cells (onlyM w M 6 _) (psM_ok h.ok (p := { m.p with pil := x }) ⟨h.ok.pb.1, ⟨hx.1, by show x < 256; omega⟩, h.ok.pb.2.2⟩ ⟨h.ok.pm.1, hx.2, h.ok.pm.2.2⟩) ((h.ptr.set 6 _).to (machC_setH (m := m) (k := 6) (v := .int .u8 x) (by omega) rfl rfl rfl rfl)) rfl rfl rfl rfl
theorem MachAt.setBank (h : MachAt w G M m) {x : Int} (hx : 0 ≤ x ∧ x < 17) : MachAt (w.setCell ⟨M, 7, none⟩ (.int .u8 x)) G M { m with p := { m.p with bank := x } } :=
  h.cells (onlyM w M 7 _) (psM_ok h.ok (p := { m.p with bank := x }) ⟨h.ok.pb.1, h.ok.pb.2.1, ⟨hx.1, by show x < 256; omega⟩, h.ok.pb.2.2.2⟩ ⟨h.ok.pm.1, h.ok.pm.2.1, hx.2, h.ok.pm.2.2.2⟩) ((h.ptr.set 7 _).to (machC_setH (m := m) (k := 7) (v := .int .u8 x) (by omega) rfl rfl rfl rfl)) rfl rfl rfl rfl
theorem MachAt.setFlags (h : MachAt w G M m) {x : Int} (hx : 0 ≤ x ∧ x < 16) : MachAt (w.setCell ⟨M, 8, none⟩ (.int .u8 x)) G M { m with p := { m.p with flags := x } } :=
  h.cells (onlyM w M 8 _) (psM_ok h.ok (p := { m.p with flags := x }) ⟨h.ok.pb.1, h.ok.pb.2.1, h.ok.pb.2.2.1, hx.1, by show x < 256; omega⟩ ⟨h.ok.pm.1, h.ok.pm.2.1, h.ok.pm.2.2.1, hx.2⟩) ((h.ptr.set 8 _).to (machC_setH (m := m) (k := 8) (v := .int .u8 x) (by omega) rfl rfl rfl rfl)) rfl rfl rfl rfl
theorem MachAt.setTpc (h : MachAt w G M m) {i : Nat} (hi : i < 17) {x : Int} (hx : 0 ≤ x ∧ x < 4294967296) : MachAt (w.setCell ⟨M, 9 + i, none⟩ (.int .u32 x)) G M { m with tpc := m.tpc.set i x } :=
  h.cells (onlyM w M _ _) (tpcM_ok h.ok i hx) ((h.ptr.set _ _).to (machC_setP (m := m) (i := i) (x := x) h.ok hi rfl rfl rfl rfl)) rfl rfl rfl rfl
theorem MachAt.setTpsr (h : MachAt w G M m) {i : Nat} (hi : i < 17) {x : Int} (hx : 0 ≤ x ∧ x < 4294967296) : MachAt (w.setCell ⟨M, 26 + i, none⟩ (.int .u32 x)) G M { m with tpsr := m.tpsr.set i x } :=
  h.cells (onlyM w M _ _) (tpsrM_ok h.ok i hx) ((h.ptr.set _ _).to (machC_setS (m := m) (i := i) (x := x) h.ok hi rfl rfl rfl rfl)) rfl rfl rfl rfl
theorem MachAt.setCh (h : MachAt w G M m) (chv : Value) (l : List Int) (hl : Words l) (hch : ∀ W : World, MChAt W G.chv m.ch → MChAt W chv l) : MachAt (w.setCell ⟨M, 43, none⟩ chv) { G with chv := chv } M { m with ch := l } :=
  h.cells' (onlyM w M 43 _) chv (chM_ok h.ok hl) ((h.ptr.set 43 _).to (machC_setT (G := G) (G' := { G with chv := chv }) (m := m) (k := 0) (v := chv) h.ok rfl rfl rfl rfl)) rfl rfl rfl hch
theorem MachAt.setKind (h : MachAt w G M m) {x : Int} (hx : 0 ≤ x ∧ x < 256) : MachAt (w.setCell ⟨M, 45, none⟩ (.int .u8 x)) G M { m with kind := x } :=
  h.cells (onlyM w M 45 _) (haltM_ok h.ok hx ⟨h.ok.v0, h.ok.v1⟩) ((h.ptr.set 45 _).to (machC_setT (G := G) (G' := G) (m := m) (m' := { m with kind := x }) (k := 2) (v := .int .u8 x) h.ok rfl rfl rfl rfl)) rfl rfl rfl rfl
theorem MachAt.setV (h : MachAt w G M m) {x : Int} (hx : 0 ≤ x ∧ x < 4294967296) : MachAt (w.setCell ⟨M, 46, none⟩ (.int .u32 x)) G M { m with v := x } :=
  h.cells (onlyM w M 46 _) (haltM_ok h.ok ⟨h.ok.k0, h.ok.k1⟩ hx) ((h.ptr.set 46 _).to (machC_setT (G := G) (G' := G) (m := m) (m' := { m with v := x }) (k := 3) (v := .int .u32 x) h.ok rfl rfl rfl rfl)) rfl rfl rfl rfl
end
end Go.Proofs.YtajholbcpmjhiaaGreatDoor
/- The parts of a state, gone over: the contract of psr.parts's function. -/
namespace Go.Proofs.YtajholbcpmjhiaaGreatDoor
open Go.RowKit Go.Shelf
attribute [local go_sem] Oper.semAt_some
def bitsP (i : Fin 4) : Int := if i.val = 0 ∨ i.val = 2 then 5 else 4
abbrev encP (b : Nat) (i : Fin 4) : Array Value := #[.pointer (some ⟨b, i.val, none⟩), .int .i64 (bitsP i)]
set_option maxRecDepth 100000 in
set_option maxHeartbeats 4000000 in
/-- All four, in their order; or a part of them. -/
theorem parts_stops (n : Nat) (hn : 1 ≤ n) (c b : Nat) (w : World) (hc : w.cell? ⟨c, 0, none⟩ = some (.pointer (some ⟨b, 0, none⟩))) :
    SeqStopsK Fence.wide n Tryz.prog 209 #[.pointer (some ⟨c, 0, none⟩)] (encP b) (fun _ _ => True) (fun xs => xs = [0, 1, 2, 3]) (fun _ => True) 4 w := fun l J Jx W hW hAb _ hY h0 => by
  have hc' := (hW.cell (p := ⟨c, 0, none⟩) (World.block_lt_of_cell? _ _ hc)).trans hc
  refine callsIn_of_wp Tryz.func209 rfl trivial ?_ rfl
  simp only [Tryz.ntmps209, List.size_toArray, List.length_cons, List.length_nil, Nat.reduceAdd, Nat.reduceSub, Array.replicate_succ, Array.replicate_zero, List.push_toArray, List.append_toArray, List.nil_append, List.cons_append]
  have ix0 : ∀ w, (Instr.index 251 (.agg #[.pointer (some ⟨b, 0, none⟩), .pointer (some ⟨b, 1, none⟩), .pointer (some ⟨b, 2, none⟩), .pointer (some ⟨b, 3, none⟩)]) (.int .i64 0)).run Tryz.prog w = .ok (.pointer (some ⟨b, 0, none⟩)) w := fun _ => by kernel_rfl
  have iy0 : ∀ w, (Instr.index 252 (.agg #[.int .i64 5, .int .i64 4, .int .i64 5, .int .i64 4]) (.int .i64 0)).run Tryz.prog w = .ok (.int .i64 5) w := fun _ => by kernel_rfl
  have ix1 : ∀ w, (Instr.index 251 (.agg #[.pointer (some ⟨b, 0, none⟩), .pointer (some ⟨b, 1, none⟩), .pointer (some ⟨b, 2, none⟩), .pointer (some ⟨b, 3, none⟩)]) (.int .i64 1)).run Tryz.prog w = .ok (.pointer (some ⟨b, 1, none⟩)) w := fun _ => by kernel_rfl
  have iy1 : ∀ w, (Instr.index 252 (.agg #[.int .i64 5, .int .i64 4, .int .i64 5, .int .i64 4]) (.int .i64 1)).run Tryz.prog w = .ok (.int .i64 4) w := fun _ => by kernel_rfl
  have ix2 : ∀ w, (Instr.index 251 (.agg #[.pointer (some ⟨b, 0, none⟩), .pointer (some ⟨b, 1, none⟩), .pointer (some ⟨b, 2, none⟩), .pointer (some ⟨b, 3, none⟩)]) (.int .i64 2)).run Tryz.prog w = .ok (.pointer (some ⟨b, 2, none⟩)) w := fun _ => by kernel_rfl
  have iy2 : ∀ w, (Instr.index 252 (.agg #[.int .i64 5, .int .i64 4, .int .i64 5, .int .i64 4]) (.int .i64 2)).run Tryz.prog w = .ok (.int .i64 5) w := fun _ => by kernel_rfl
  have ix3 : ∀ w, (Instr.index 251 (.agg #[.pointer (some ⟨b, 0, none⟩), .pointer (some ⟨b, 1, none⟩), .pointer (some ⟨b, 2, none⟩), .pointer (some ⟨b, 3, none⟩)]) (.int .i64 3)).run Tryz.prog w = .ok (.pointer (some ⟨b, 3, none⟩)) w := fun _ => by kernel_rfl
  have iy3 : ∀ w, (Instr.index 252 (.agg #[.int .i64 5, .int .i64 4, .int .i64 5, .int .i64 4]) (.int .i64 3)).run Tryz.prog w = .ok (.int .i64 4) w := fun _ => by kernel_rfl
  gi_wp2
  refine wpIn_wide.2 ?_
  go_quiet (fail)
  have hJ1 : J [] (W.drewN nq) := hAb [] _ _ none h0 ⟨rfl, rfl, rfl, Nat.le_refl _, fun _ _ _ => rfl⟩ (fun r e => by cases e)
  gi_wp2
  gi_loopw [18] (fun i wr => ∃ k : Nat, k ≤ 4 ∧ i = .int .i64 k ∧ J (([0, 1, 2, 3] : List (Fin 4)).take k) wr) (fun i _ => 4 - (intOf i).toNat)
  case atStart => exact ⟨0, by omega, rfl, hJ1⟩
  case round =>
    obtain ⟨k, hk, rfl, hJ⟩ := hrel
    have hk : k = 0 ∨ k = 1 ∨ k = 2 ∨ k = 3 ∨ k = 4 := by omega
    rcases hk with rfl | rfl | rfl | rfl | rfl
    · obtain ⟨fn, tmps, assign, body, hy0, hR⟩ := hY _ 0 wr hJ (by simp)
      have hy : Sem.run Tryz.prog (Instr.yield l #[.pointer (some ⟨b, 0, none⟩), .int .i64 5]) wr = .ok (Next.round l fn tmps assign body) wr := hy0
      clear hy0
      gi_wp2
      refine hR.mono ?_
      rintro e W3 (⟨rfl, hJ3, hk3⟩ | ⟨rfl, hJx3⟩)
      · gi_wp2
        go_roundw
        case rel => exact ⟨1, by omega, by go_num, hJ3⟩
        case measure => simp [intOf] <;> omega
      · gi_wp2
        refine bodyPost_ret (results_none rfl _ _ _) rfl ?_
        exact ⟨⟨_, rfl⟩, .inr ⟨_, trivial, hJx3⟩⟩
    · obtain ⟨fn, tmps, assign, body, hy0, hR⟩ := hY _ 1 wr hJ (by simp)
      have hy : Sem.run Tryz.prog (Instr.yield l #[.pointer (some ⟨b, 1, none⟩), .int .i64 4]) wr = .ok (Next.round l fn tmps assign body) wr := hy0
      clear hy0
      gi_wp2
      refine hR.mono ?_
      rintro e W3 (⟨rfl, hJ3, hk3⟩ | ⟨rfl, hJx3⟩)
      · gi_wp2
        go_roundw
        case rel => exact ⟨2, by omega, by go_num, hJ3⟩
        case measure => simp [intOf] <;> omega
      · gi_wp2
        refine bodyPost_ret (results_none rfl _ _ _) rfl ?_
        exact ⟨⟨_, rfl⟩, .inr ⟨_, trivial, hJx3⟩⟩
    · obtain ⟨fn, tmps, assign, body, hy0, hR⟩ := hY _ 2 wr hJ (by simp)
      have hy : Sem.run Tryz.prog (Instr.yield l #[.pointer (some ⟨b, 2, none⟩), .int .i64 5]) wr = .ok (Next.round l fn tmps assign body) wr := hy0
      clear hy0
      gi_wp2
      refine hR.mono ?_
      rintro e W3 (⟨rfl, hJ3, hk3⟩ | ⟨rfl, hJx3⟩)
      · gi_wp2
        go_roundw
        case rel => exact ⟨3, by omega, by go_num, hJ3⟩
        case measure => simp [intOf] <;> omega
      · gi_wp2
        refine bodyPost_ret (results_none rfl _ _ _) rfl ?_
        exact ⟨⟨_, rfl⟩, .inr ⟨_, trivial, hJx3⟩⟩
    · obtain ⟨fn, tmps, assign, body, hy0, hR⟩ := hY _ 3 wr hJ (by simp)
      have hy : Sem.run Tryz.prog (Instr.yield l #[.pointer (some ⟨b, 3, none⟩), .int .i64 4]) wr = .ok (Next.round l fn tmps assign body) wr := hy0
      clear hy0
      gi_wp2
      refine hR.mono ?_
      rintro e W3 (⟨rfl, hJ3, hk3⟩ | ⟨rfl, hJx3⟩)
      · gi_wp2
        go_roundw
        case rel => exact ⟨4, by omega, by go_num, hJ3⟩
        case measure => simp [intOf] <;> omega
      · gi_wp2
        refine bodyPost_ret (results_none rfl _ _ _) rfl ?_
        exact ⟨⟨_, rfl⟩, .inr ⟨_, trivial, hJx3⟩⟩
    · gi_wp2
      go_end0
      exact ⟨⟨_, rfl⟩, .inl ⟨_, rfl, hJ⟩⟩
set_option maxHeartbeats 1000000 in
theorem parts_any (p : Option Addr) (w : World) : Calls Tryz.prog 188 #[.pointer p] w fun e w' => e = .returned (.func (.func 209) #[] #[.pointer (some ⟨w.heap.size, 0, none⟩)]) ∧ w.alloc (.cells #[.pointer p] 226) = w' := by
  go_enter Tryz.func188, Tryz.ntmps188
  go_wp2
  go_ret
  exact ⟨rfl, rfl⟩
end Go.Proofs.YtajholbcpmjhiaaGreatDoor
/- The walk of psr.Pack. -/
namespace Go.Proofs.YtajholbcpmjhiaaGreatDoor
open Go.RowKit Go.Shelf
attribute [local go_sem] Oper.semAt_some
theorem pcal {w : World} {o : Obj} {p : Addr} {v : Value} (h : w.cell? p = some v) : (w.alloc o).cell? p = some v := ((pbal w o).cell (World.block_lt_of_cell? _ _ h)).trans h
def partP (p : Px) (i : Fin 4) : Int := if i.val = 0 then p.cwp else if i.val = 1 then p.pil else if i.val = 2 then p.bank else p.flags
def stP (p : Px) (x : Int × Int) (i : Fin 4) : Int × Int := (bits .or .u32 x.1 (partP p i * 2 ^ x.2.toNat % 4294967296), x.2 + bitsP i)
def accP (p : Px) (pre : List (Fin 4)) : Int × Int := pre.foldl (stP p) (0, 0)
theorem accP_snoc (p : Px) (pre : List (Fin 4)) (i : Fin 4) : accP p (pre ++ [i]) = stP p (accP p pre) i := by unfold accP; rw [List.foldl_append]; rfl
theorem por_add {a b : Int} (k : Nat) (hk : k ≤ 32) (ha : 0 ≤ a) (ha2 : a < 2 ^ k) (hb : 0 ≤ b) (hb2 : b < 4294967296) (hd : b % 2 ^ k = 0) : bits .or .u32 a b = a + b := by
  obtain ⟨A, rfl⟩ := Int.eq_ofNat_of_zero_le ha
  obtain ⟨B, rfl⟩ := Int.eq_ofNat_of_zero_le hb
  have hp : (2 : Int) ^ k = ((2 ^ k : Nat) : Int) := by simp
  rw [hp] at hd ha2
  have hp2 : 2 ^ k ≤ 2 ^ 32 := Nat.pow_le_pow_right (by omega) hk
  have hA : A < 2 ^ k := by omega
  have hB : 2 ^ k * (B / 2 ^ k) = B := by
    have h1 : B % 2 ^ k = 0 := by omega
    have h2 := Nat.div_add_mod B (2 ^ k)
    omega
  rw [u32_or _ _ (by omega) (by omega) (by omega) hb2]
  simp only [Int.toNat_natCast]
  rw [Nat.or_comm, ← hB, ← Nat.two_pow_add_eq_or_of_lt hA]
  omega
theorem accP_all {p : Px} {nw : Int} (hb : p.bd) (hw : winP nw) (hm : pmayP p nw) : (accP p [0, 1, 2, 3]).1 = packW p := by
  obtain ⟨cwp, pil, bank, flags⟩ := p
  obtain ⟨⟨a, _⟩, ⟨b, _⟩, ⟨c, _⟩, ⟨d, _⟩⟩ := hb
  obtain ⟨h1, h2, h3, h4⟩ := hm
  obtain ⟨_, hw⟩ := hw
  simp only at *
  show bits .or .u32 (bits .or .u32 (bits .or .u32 (bits .or .u32 0 (cwp * 2 ^ 0 % 4294967296)) (pil * 2 ^ 5 % 4294967296)) (bank * 2 ^ 9 % 4294967296)) (flags * 2 ^ 14 % 4294967296) = packW ⟨cwp, pil, bank, flags⟩
  rw [por_add (a := 0) (b := cwp * 2 ^ 0 % 4294967296) 0 (by omega) (by omega) (by omega) (by omega) (by omega) (by omega)]
  rw [por_add (a := 0 + cwp * 2 ^ 0 % 4294967296) 5 (by omega) (by omega) (by omega) (by omega) (by omega) (by omega)]
  rw [por_add (b := bank * 2 ^ 9 % 4294967296) 9 (by omega) (by omega) (by omega) (by omega) (by omega) (by omega)]
  rw [por_add 14 (by omega) (by omega) (by omega) (by omega) (by omega) (by omega)]
  unfold packW; simp only; omega
theorem pack_round {n b g : Nat} {w W : World} {c0 c1 c2 c3 a' t' : Value} (hn : n ≤ g) (hbg : b < g)
    (hp : W.cell? ⟨b, 0, none⟩ = some c0 ∧ W.cell? ⟨b, 1, none⟩ = some c1 ∧ W.cell? ⟨b, 2, none⟩ = some c2 ∧ W.cell? ⟨b, 3, none⟩ = some c3)
    {a t : Value} (ha : W.cell? ⟨g, 0, none⟩ = some a) (hfa : W.frozen? ⟨g, 0, none⟩ = false) (ht : W.cell? ⟨g + 1, 0, none⟩ = some t) (hft : W.frozen? ⟨g + 1, 0, none⟩ = false) (hB : Below n w W) :
    ((((((W.setCell ⟨g, 0, none⟩ a').setCell ⟨g + 1, 0, none⟩ t').drew).cell? ⟨b, 0, none⟩ = some c0 ∧ (((W.setCell ⟨g, 0, none⟩ a').setCell ⟨g + 1, 0, none⟩ t').drew).cell? ⟨b, 1, none⟩ = some c1 ∧ (((W.setCell ⟨g, 0, none⟩ a').setCell ⟨g + 1, 0, none⟩ t').drew).cell? ⟨b, 2, none⟩ = some c2 ∧ (((W.setCell ⟨g, 0, none⟩ a').setCell ⟨g + 1, 0, none⟩ t').drew).cell? ⟨b, 3, none⟩ = some c3) ∧
      ((((W.setCell ⟨g, 0, none⟩ a').setCell ⟨g + 1, 0, none⟩ t').drew).cell? ⟨g, 0, none⟩ = some a' ∧ (((W.setCell ⟨g, 0, none⟩ a').setCell ⟨g + 1, 0, none⟩ t').drew).frozen? ⟨g, 0, none⟩ = false) ∧
      ((((W.setCell ⟨g, 0, none⟩ a').setCell ⟨g + 1, 0, none⟩ t').drew).cell? ⟨g + 1, 0, none⟩ = some t' ∧ (((W.setCell ⟨g, 0, none⟩ a').setCell ⟨g + 1, 0, none⟩ t').drew).frozen? ⟨g + 1, 0, none⟩ = false))) ∧ Below n w (((W.setCell ⟨g, 0, none⟩ a').setCell ⟨g + 1, 0, none⟩ t').drew) := by
  have far : ∀ i, (((W.setCell ⟨g, 0, none⟩ a').setCell ⟨g + 1, 0, none⟩ t').drew).cell? ⟨b, i, none⟩ = W.cell? ⟨b, i, none⟩ := by
    intro i
    show ((W.setCell ⟨g, 0, none⟩ a').setCell ⟨g + 1, 0, none⟩ t').cell? ⟨b, i, none⟩ = _
    rw [World.cell?_setCell_far _ _ _ _ (by show g + 1 ≠ b; omega), World.cell?_setCell_far _ _ _ _ (by show g ≠ b; omega)]
  have h1 : (W.setCell ⟨g, 0, none⟩ a').cell? ⟨g + 1, 0, none⟩ = some t := by
    rw [World.cell?_setCell_far _ _ _ _ (by show g ≠ g + 1; omega)]; exact ht
  refine ⟨⟨⟨?_, ?_, ?_, ?_⟩, ⟨?_, ?_⟩, ⟨?_, ?_⟩⟩, ?_⟩
  · rw [far]; exact hp.1
  · rw [far]; exact hp.2.1
  · rw [far]; exact hp.2.2.1
  · rw [far]; exact hp.2.2.2
  · show ((W.setCell ⟨g, 0, none⟩ a').setCell ⟨g + 1, 0, none⟩ t').cell? ⟨g, 0, none⟩ = _
    rw [World.cell?_setCell_far _ _ _ _ (by show g + 1 ≠ g; omega)]
    exact World.cell?_setCell_same' _ _ _ (by rw [ha]; rfl)
  · show ((W.setCell ⟨g, 0, none⟩ a').setCell ⟨g + 1, 0, none⟩ t').frozen? ⟨g, 0, none⟩ = _
    rw [World.frozen?_setCell, World.frozen?_setCell]; exact hfa
  · show ((W.setCell ⟨g, 0, none⟩ a').setCell ⟨g + 1, 0, none⟩ t').cell? ⟨g + 1, 0, none⟩ = _
    exact World.cell?_setCell_same' _ _ _ (by rw [h1]; rfl)
  · show ((W.setCell ⟨g, 0, none⟩ a').setCell ⟨g + 1, 0, none⟩ t').frozen? ⟨g + 1, 0, none⟩ = _
    rw [World.frozen?_setCell, World.frozen?_setCell]; exact hft
  · exact ((hB.setCell (p := ⟨g, 0, none⟩) hn _).setCell (p := ⟨g + 1, 0, none⟩) (by show n ≤ g + 1; omega) _).drew
theorem partP_bd {p : Px} (hb : p.bd) (i : Fin 4) : 0 ≤ partP p i ∧ partP p i < 256 := by
  obtain ⟨h0, h1, h2, h3⟩ := hb
  unfold partP; split
  · exact h0
  · split
    · exact h1
    · split
      · exact h2
      · exact h3
theorem bitsP_bd (i : Fin 4) : 4 ≤ bitsP i ∧ bitsP i ≤ 5 := by unfold bitsP; split <;> omega
theorem por_bd {a b : Int} (h : 0 ≤ a) (h' : a < 4294967296) (k : 0 ≤ b) (k' : b < 4294967296) : 0 ≤ bits .or .u32 a b ∧ bits .or .u32 a b < 4294967296 := by
  rw [u32_or a b h h' k k']
  have := Nat.or_lt_two_pow (x := a.toNat) (y := b.toNat) (n := 32) (by omega) (by omega)
  omega
theorem accP_bd (p : Px) (l : List (Fin 4)) : ∀ x : Int × Int, 0 ≤ x.1 ∧ x.1 < 4294967296 → (0 ≤ (l.foldl (stP p) x).1 ∧ (l.foldl (stP p) x).1 < 4294967296) ∧ x.2 ≤ (l.foldl (stP p) x).2 ∧ (l.foldl (stP p) x).2 ≤ x.2 + 5 * l.length := by
  induction l with
  | nil => intro x hx; exact ⟨hx, Int.le_refl _, by simp⟩
  | cons i l ih =>
    intro x hx
    have hi := bitsP_bd i
    have h := ih (stP p x i) (por_bd hx.1 hx.2 (by omega) (by omega))
    simp only [List.foldl_cons, List.length_cons]
    refine ⟨h.1, ?_, ?_⟩
    · have := h.2.1; simp only [stP] at this ⊢; omega
    · have := h.2.2; simp only [stP] at this ⊢; omega
set_option maxRecDepth 100000 in
set_option maxHeartbeats 4000000 in
theorem pack_yes (p : Px) (hb : p.bd) (nw : Int) (hw : winP nw) (hm : pmayP p nw) (w : World) :
    Calls Tryz.prog 124 #[p.agg, .int .i64 nw] w fun e w' => e = .returned (.tuple #[.int .u32 (packW p), .int .i64 0]) ∧ Below w.heap.size w w' := by
  have h1 := windows_any nw
  rw [decide_eq_true hw] at h1
  have h2 := pmay_any p hb nw
  rw [decide_eq_true hm] at h2
  have H1 := phid h1
  have H2 := phid h2
  clear h1 h2
  have HB := phid hb
  clear hb
  obtain ⟨cwp, pil, bank, flags⟩ := p
  refine (callsIn_wide (n := 6)).1 ?_
  refine callsIn_of_wp_marks Tryz.func124 rfl trivial ?_ rfl
  simp only [Tryz.ntmps124, List.size_toArray, List.length_cons, List.length_nil, Nat.reduceAdd, Nat.reduceSub, Array.replicate_succ, Array.replicate_zero, List.push_toArray, List.append_toArray, List.nil_append, List.cons_append]
  gi_wp2_with fail
  refine ⟨trivial, (callsIn_wide.2 (H1.out _)).mono ?_⟩
  rintro e w' ⟨rfl, rfl⟩
  gi_wp2_with fail
  refine ⟨trivial, (callsIn_wide.2 (H2.out _)).mono ?_⟩
  rintro e w1 ⟨rfl, hb1⟩
  have hc0 := hb1.cell (p := ⟨w.heap.size, 0, none⟩) (by simp)
  have hc1 := hb1.cell (p := ⟨w.heap.size, 1, none⟩) (by simp)
  have hc2 := hb1.cell (p := ⟨w.heap.size, 2, none⟩) (by simp)
  have hc3 := hb1.cell (p := ⟨w.heap.size, 3, none⟩) (by simp)
  simp at hc0 hc1 hc2 hc3
  have hlt : w.heap.size < w1.heap.size := by have := hb1.size; simp at this; omega
  have B1 := phid (pbt (pbal w _) hb1)
  clear hb1
  gi_wp2_with fail
  refine ⟨trivial, (callsIn_wide.2 (parts_any _ _)).mono ?_⟩
  rintro e w' ⟨rfl, rfl⟩
  gi_wp2_with fail
  have BW : Below w.heap.size w (((w1.alloc (.cells #[.int .u32 0] 24)).alloc (.cells #[.int .i64 0] 3)).alloc (.cells #[.pointer (some ⟨w.heap.size, 0, none⟩)] 226)) :=
    pbt (pbt (pbt B1.out (pbal _ _)) (pbal _ _)) (pbal _ _)
  refine wpIn_rangeFunc_ownF rfl (by omega) (gf := 209) (lb := #[.pointer (some ⟨w1.heap.size + 1 + 1, 0, none⟩)]) rfl trivial (enters_of Tryz.func209 (by kernel_rfl) rfl)
    (parts_stops 5 (by omega) (w1.heap.size + 1 + 1) w.heap.size _ (by simp [go_sem])) (fun _ _ => trivial) (fun _ _ _ _ _ _ _ _ => trivial) (Below.refl _ _) (fun _ => rfl)
    (fun pre W => ((W.cell? ⟨w.heap.size, 0, none⟩ = some (.int .u8 cwp) ∧ W.cell? ⟨w.heap.size, 1, none⟩ = some (.int .u8 pil) ∧ W.cell? ⟨w.heap.size, 2, none⟩ = some (.int .u8 bank) ∧ W.cell? ⟨w.heap.size, 3, none⟩ = some (.int .u8 flags)) ∧
      (W.cell? ⟨w1.heap.size, 0, none⟩ = some (.int .u32 (accP ⟨cwp, pil, bank, flags⟩ pre).1) ∧ W.frozen? ⟨w1.heap.size, 0, none⟩ = false) ∧
      (W.cell? ⟨w1.heap.size + 1, 0, none⟩ = some (.int .i64 (accP ⟨cwp, pil, bank, flags⟩ pre).2) ∧ W.frozen? ⟨w1.heap.size + 1, 0, none⟩ = false)) ∧ Below w.heap.size w W)
    (fun _ _ _ => False)
    (OwnFrom.and (Own.from (fun s A B row hs hg hr => ⟨⟨cell_kept hs.1.1 hg hr, cell_kept hs.1.2.1 hg hr, cell_kept hs.1.2.2.1 hg hr, cell_kept hs.1.2.2.2 hg hr⟩, ⟨cell_kept hs.2.1.1 hg hr, (frozen_kept hs.2.1.1 hg hr).trans hs.2.1.2⟩, ⟨cell_kept hs.2.2.1 hg hr, (frozen_kept hs.2.2.1 hg hr).trans hs.2.2.2⟩⟩) _) (ownFrom_below (Nat.le_refl _) (by simp; omega)))
    (fun _ _ _ _ _ hs _ _ => hs)
    ⟨⟨⟨pcal (pcal (pcal hc0)), pcal (pcal (pcal hc1)), pcal (pcal (pcal hc2)), pcal (pcal (pcal hc3))⟩, ⟨by simp [go_sem, accP], by simp [go_sem]⟩, ⟨by simp [go_sem, accP], by simp [go_sem]⟩⟩, BW⟩
    (fun x => { tmps := #[.agg #[.int .u8 cwp, .int .u8 pil, .int .u8 bank, .int .u8 flags], .int .i64 nw, .pointer (some ⟨w.heap.size, 0, none⟩), undef, .int .u32 0, .int .i64 0, .pointer (some ⟨w1.heap.size, 0, none⟩), .pointer (some ⟨w1.heap.size + 1, 0, none⟩), .pointer (some ⟨w.heap.size, x.val, none⟩), .int .i64 (bitsP x), .int .i64 nw, .bool true, .bool false, .bool false, .agg #[.int .u8 cwp, .int .u8 pil, .int .u8 bank, .int .u8 flags], .int .i64 nw, .bool true, .bool false, .bool false, .func (.func 209) #[] #[.pointer (some ⟨w1.heap.size + 1 + 1, 0, none⟩)], .pointer (some ⟨w.heap.size, x.val, none⟩), .int .i64 (bitsP x), undef, undef, undef, undef, undef, undef, undef, undef, undef, undef, undef, undef], defers := [] }) ?assign ?body ?done ?stop
  case assign =>
    intro l x W K hK
    gi_wp2
    exact hK
  case body =>
    rintro l pre x W ⟨⟨⟨p0, p1, p2, p3⟩, ⟨ha, hfa⟩, ⟨ht, hft⟩⟩, hB⟩ hlen
    have hpart : W.cell? ⟨w.heap.size, x.val, none⟩ = some (.int .u8 (partP ⟨cwp, pil, bank, flags⟩ x)) := by
      match x with
      | 0 => exact p0
      | 1 => exact p1
      | 2 => exact p2
      | 3 => exact p3
    have hbd := accP_bd ⟨cwp, pil, bank, flags⟩ pre (0, 0) ⟨by simp, by simp⟩
    have hpb := partP_bd HB.out x
    have hbb := bitsP_bd x
    have hs1 : (accP ⟨cwp, pil, bank, flags⟩ (pre ++ [x])).1 = bits .or .u32 (accP ⟨cwp, pil, bank, flags⟩ pre).1 (partP ⟨cwp, pil, bank, flags⟩ x * 2 ^ (accP ⟨cwp, pil, bank, flags⟩ pre).2.toNat % 4294967296) := by rw [accP_snoc]; rfl
    have hs2 : (accP ⟨cwp, pil, bank, flags⟩ (pre ++ [x])).2 = (accP ⟨cwp, pil, bank, flags⟩ pre).2 + bitsP x := by rw [accP_snoc]; rfl
    have P4 := phid (And.intro p0 (And.intro p1 (And.intro p2 p3)))
    have hB' := phid hB
    have hbd2 : (0 : Int) ≤ (accP ⟨cwp, pil, bank, flags⟩ pre).2 ∧ (accP ⟨cwp, pil, bank, flags⟩ pre).2 ≤ 0 + 5 * (pre.length : Int) := hbd.2
    have hbd1 : (0 : Int) ≤ (accP ⟨cwp, pil, bank, flags⟩ pre).1 ∧ (accP ⟨cwp, pil, bank, flags⟩ pre).1 < 4294967296 := hbd.1
    clear p0 p1 p2 p3 hB hbd
    generalize partP ⟨cwp, pil, bank, flags⟩ x = v at hpart hpb hs1
    generalize (accP ⟨cwp, pil, bank, flags⟩ pre).1 = a at ha hs1 hbd1
    generalize (accP ⟨cwp, pil, bank, flags⟩ pre).2 = t at ht hs1 hs2 hbd2
    have HS := phid (And.intro hs1 hs2)
    clear hs1 hs2
    have hmix : Tryz.prog.follows .mixedOrders = true := by kernel_rfl
    gi_wp2
    gi_region_with_o (fail)
    all_goals gi_wp2
    all_goals
      refine ⟨KeepsOthers.trans (KeepsOthers.trans (KeepsOthers.setCell _ _ _) (KeepsOthers.setCell _ _ _)) (KeepsOthers.drew _), trivial, ?_⟩
      have e := pack_round (a' := .int .u32 (bits .or .u32 a (v * 2 ^ t.toNat % 4294967296))) (t' := .int .i64 (t + bitsP x)) (Nat.le_of_lt hlt) hlt P4.out ha hfa ht hft hB'.out
      rw [← HS.out.1, ← HS.out.2] at e ⊢
      exact e
  case done =>
    rintro D ys W hD rfl ⟨⟨hp, ⟨ha, hfa⟩, ⟨ht, hft⟩⟩, hB⟩ hK
    have E := phid (accP_all HB.out hw hm)
    gi_wp2
    refine ⟨by simp, .inl ⟨_, _, rfl, run_takeDeferred hK, ?_⟩⟩
    refine ⟨.tuple #[.int .u32 (accP ⟨cwp, pil, bank, flags⟩ [0, 1, 2, 3]).1, .int .i64 0], by simp [results, Tryz.results124, go_sem], pret2 E.out rfl, ?_⟩
    exact hB.trans (belowK_b (w := w) (Nat.le_refl _) W D _ _ (by simp [go_sem] at hD; omega) hK rfl rfl)
  case stop =>
    rintro D c pre W _ _ h _
    exact h.elim
end Go.Proofs.YtajholbcpmjhiaaGreatDoor
/- psr.Pack, whatever the state and the windows are. -/
namespace Go.Proofs.YtajholbcpmjhiaaGreatDoor
open Go.RowKit Go.Shelf
set_option maxRecDepth 100000 in
set_option maxHeartbeats 1000000 in
theorem pack_any (p : Px) (hb : p.bd) (nw : Int) (w : World) :
    Calls Tryz.prog 124 #[p.agg, .int .i64 nw] w fun e w' => e = .returned (.tuple #[.int .u32 (packS p nw), .int .i64 (packE p nw)]) ∧ Below w.heap.size w w' := by
  by_cases h : winP nw ∧ pmayP p nw
  · rw [show packS p nw = packW p from if_pos h, show packE p nw = 0 from if_pos h]
    exact pack_yes p hb nw h.1 h.2 w
  · rw [show packS p nw = 0 from if_neg h, show packE p nw = 2 from if_neg h]
    have hq := windows_any nw
    by_cases hw : winP nw
    · have hm := pmay_any p hb nw
      rw [decide_eq_true hw] at hq
      rw [decide_eq_false (fun hm => h ⟨hw, hm⟩)] at hm
      have H1 := phid hq
      have H2 := phid hm
      clear hq hm hw h hb
      obtain ⟨cwp, pil, bank, flags⟩ := p
      go_enter Tryz.func124, Tryz.ntmps124
      go_wp2_with fail
      refine (H1.out _).mono ?_
      rintro e w' ⟨rfl, rfl⟩
      go_wp2_with fail
      refine (H2.out _).mono ?_
      rintro e w' ⟨rfl, hB⟩
      have HB := phid hB
      clear hB
      go_wp2_with fail
      go_ret2
      exact ⟨rfl, pbt (pbal _ _) HB.out⟩
    · rw [decide_eq_false hw] at hq
      have H1 := phid hq
      clear hq hw h hb
      obtain ⟨cwp, pil, bank, flags⟩ := p
      go_enter Tryz.func124, Tryz.ntmps124
      go_wp2_with fail
      refine (H1.out _).mono ?_
      rintro e w' ⟨rfl, rfl⟩
      go_wp2_with fail
      go_ret2
      exact ⟨rfl, by go_grown⟩
end Go.Proofs.YtajholbcpmjhiaaGreatDoor
