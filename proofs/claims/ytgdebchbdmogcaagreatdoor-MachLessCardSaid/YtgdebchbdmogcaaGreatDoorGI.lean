/- Several texts in one: MachAt, MachGet, MachDo. -/
import Derived.Test.YtgdebchbdmogcaaGreatDoorGF
import Derived.Test.YtgdebchbdmogcaaGreatDoorGE
import Derived.Test.YtgdebchbdmogcaaGreatDoorGD
import Derived.Test.YtgdebchbdmogcaaGreatDoorGH
import Derived.StillTailTactics
import Derived.RegionTactic
import Derived.BigRegion
import Derived.Deep.RegionHeld3
import Derived.Deep.Cut
/- How a machine lies in the world; what stays when some of its blocks change. No function of the program is walked here. -/
namespace Go.Proofs.YtgdebchbdmogcaaGreatDoor
open Go.RowKit
set_option linter.unusedVariables false
set_option linter.unusedSimpArgs false
/-- What a block is to a machine. -/
inductive MRole
  | none
  | mach
  | file
  | win
  | mem
  | bytes
  | out
  | ch
/-- Blocks' roles, and what the machine's cells hold of them. -/
structure MG where
  R : Nat → MRole
  F : Nat
  Wb : Nat
  wc : Nat
  mB : Nat
  gB : Nat
  outv : Value
  chv : Value
def MG.own (G : MG) (k : Nat) : Prop := G.R k ≠ .none ∧ G.R k ≠ .ch
def machH (G : MG) (m : Mx) : List Value := [.int .i64 m.f.nw, .pointer (some ⟨G.F, 0, none⟩), .pointer (some ⟨G.mB, 0, none⟩), .int .u32 m.pc, .int .u32 m.wim, .int .u8 m.p.cwp, .int .u8 m.p.pil, .int .u8 m.p.bank, .int .u8 m.p.flags]
def machT (G : MG) (m : Mx) : List Value := [G.chv, G.outv, .int .u8 m.kind, .int .u32 m.v]
def machC (G : MG) (m : Mx) : List Value := machH G m ++ (u32s m.tpc ++ (u32s m.tpsr ++ machT G m))
/-- A row of words that is read only. -/
def MChAt (w : World) (v : Value) (l : List Int) : Prop := Reads32 w v l ∧ ∀ p n c, v = .slice p n c → n ≤ c ∧ (p = none → c = 0)
structure MachAt (w : World) (G : MG) (M : Nat) (m : Mx) : Prop where
  ok : m.ok
  ptr : ARow w M 84 (machC G m)
  file : FileAt w G.F G.Wb G.wc m.f
  mem : MemAt w G.mB G.gB m.mem
  out : w.ownsRow 0 22 1 G.outv m.out.length (u32s m.out)
  ch : ∀ W : World, (∀ k, G.R k = .ch → W.heap[k]? = w.heap[k]?) → MChAt W G.chv m.ch
  rM : G.R M = .mach
  rF : G.R G.F = .file
  rW : G.R G.Wb = .win
  rm : G.R G.mB = .mem
  rg : G.R G.gB = .bytes
  ro : ∀ k, G.outv.ownBlock = some k → G.R k = .out
  lt : ∀ k, G.R k ≠ .none → k < w.heap.size
theorem MachAt.keep {C : Nat → Prop} {w w' : World} {G : MG} {M : Nat} {m : Mx} (h : MachAt w G M m) (o : Only C w w') (hC : ∀ k, G.R k ≠ .none → ¬ C k) : MachAt w' G M m := by
  have ob : ∀ k, G.R k ≠ .none → w'.heap[k]? = w.heap[k]? := fun k hk => o.block k (h.lt k hk) (hC k hk)
  exact ⟨h.ok, h.ptr.of_block (ob _ (by rw [h.rM]; simp)), h.file.keep o (hC _ (by rw [h.rF]; simp)) (hC _ (by rw [h.rW]; simp)), h.mem.keep o (hC _ (by rw [h.rm]; simp)) (hC _ (by rw [h.rg]; simp)),
    h.out.keepw o (fun k hk => hC k (by rw [h.ro k hk]; simp)), fun W hW => h.ch W (fun k hk => (hW k hk).trans (ob k (by rw [hk]; simp))), h.rM, h.rF, h.rW, h.rm, h.rg, h.ro, fun k hk => Nat.lt_of_lt_of_le (h.lt k hk) o.size⟩
theorem MachAt.keepb {w w' : World} {G : MG} {M : Nat} {m : Mx} (h : MachAt w G M m) (hb : Below w.heap.size w w') : MachAt w' G M m := h.keep (Only.of_below (S := fun _ => False) hb) (fun _ _ => id)
theorem MachAt.chs {w : World} {G : MG} {M : Nat} {m : Mx} (h : MachAt w G M m) : MChAt w G.chv m.ch := h.ch w (fun _ _ => rfl)
/-- The machine's own cells change. -/
theorem MachAt.cells' {w w' : World} {G : MG} {M : Nat} {m m' : Mx} (h : MachAt w G M m) (o : Only (fun k => k = M) w w') (chv : Value) (hok : m'.ok) (hp : ARow w' M 84 (machC { G with chv := chv } m')) (hf : m'.f = m.f) (hm : m'.mem = m.mem) (ho : m'.out = m.out) (hch : ∀ W : World, MChAt W G.chv m.ch → MChAt W chv m'.ch) :
    MachAt w' { G with chv := chv } M m' := by
  have ob : ∀ k, G.R k ≠ .none → G.R k ≠ .mach → w'.heap[k]? = w.heap[k]? := fun k hk hm => o.block k (h.lt k hk) (fun e => hm (by rw [e]; exact h.rM))
  have ne : ∀ k, G.R k ≠ .mach → ¬ k = M := fun k hk e => hk (by rw [e]; exact h.rM)
  refine ⟨hok, hp, ?_, ?_, ?_, fun W hW => hch W (h.ch W (fun k hk => (hW k hk).trans (ob k (by rw [hk]; simp) (by rw [hk]; simp)))), h.rM, h.rF, h.rW, h.rm, h.rg, h.ro, fun k hk => Nat.lt_of_lt_of_le (h.lt k hk) o.size⟩
  · rw [hf]; exact h.file.keep o (ne _ (by rw [h.rF]; simp)) (ne _ (by rw [h.rW]; simp))
  · rw [hm]; exact h.mem.keep o (ne _ (by rw [h.rm]; simp)) (ne _ (by rw [h.rg]; simp))
  · rw [ho]; exact h.out.keepw o (fun k hk => ne k (by rw [h.ro k hk]; simp))
theorem MachAt.cells {w w' : World} {G : MG} {M : Nat} {m m' : Mx} (h : MachAt w G M m) (o : Only (fun k => k = M) w w') (hok : m'.ok) (hp : ARow w' M 84 (machC G m')) (hf : m'.f = m.f) (hm : m'.mem = m.mem) (ho : m'.out = m.out) (hc : m'.ch = m.ch) : MachAt w' G M m' :=
  h.cells' o G.chv hok hp hf hm ho (fun W hW => by rw [hc]; exact hW)
/-- The file changes. -/
theorem MachAt.file' {w w' : World} {G : MG} {M : Nat} {m : Mx} {f : Fx} (h : MachAt w G M m) (o : Only (fun k => k = G.F ∨ k = G.Wb) w w') (hf : FileAt w' G.F G.Wb G.wc f) (hn : f.nw = m.f.nw) (hok : ({ m with f := f } : Mx).ok) : MachAt w' G M { m with f := f } := by
  have ne : ∀ k, G.R k ≠ .file → G.R k ≠ .win → ¬ (k = G.F ∨ k = G.Wb) := fun k h1 h2 e => by
    rcases e with e | e
    · exact h1 (by rw [e]; exact h.rF)
    · exact h2 (by rw [e]; exact h.rW)
  have ob : ∀ k, G.R k ≠ .none → G.R k ≠ .file → G.R k ≠ .win → w'.heap[k]? = w.heap[k]? := fun k hk h1 h2 => o.block k (h.lt k hk) (ne k h1 h2)
  refine ⟨hok, ?_, hf, h.mem.keep o (ne _ (by rw [h.rm]; simp) (by rw [h.rm]; simp)) (ne _ (by rw [h.rg]; simp) (by rw [h.rg]; simp)), h.out.keepw o (fun k hk => ne k (by rw [h.ro k hk]; simp) (by rw [h.ro k hk]; simp)),
    fun W hW => h.ch W (fun k hk => (hW k hk).trans (ob k (by rw [hk]; simp) (by rw [hk]; simp) (by rw [hk]; simp))), h.rM, h.rF, h.rW, h.rm, h.rg, h.ro, fun k hk => Nat.lt_of_lt_of_le (h.lt k hk) o.size⟩
  have := h.ptr.of_block (ob M (by rw [h.rM]; simp) (by rw [h.rM]; simp) (by rw [h.rM]; simp))
  unfold machC machH at this ⊢
  simp only [hn] at this ⊢
  exact this
/-- The memory changes. -/
theorem MachAt.mem' {w w' : World} {G : MG} {M : Nat} {m : Mx} {d : List Int} (h : MachAt w G M m) (o : Only (fun k => k = G.gB) w w') (hd : MemAt w' G.mB G.gB d) (hok : ({ m with mem := d } : Mx).ok) : MachAt w' G M { m with mem := d } := by
  have ne : ∀ k, G.R k ≠ .bytes → ¬ k = G.gB := fun k h1 e => h1 (by rw [e]; exact h.rg)
  have ob : ∀ k, G.R k ≠ .none → G.R k ≠ .bytes → w'.heap[k]? = w.heap[k]? := fun k hk h1 => o.block k (h.lt k hk) (ne k h1)
  exact ⟨hok, h.ptr.of_block (ob M (by rw [h.rM]; simp) (by rw [h.rM]; simp)), h.file.keep o (ne _ (by rw [h.rF]; simp)) (ne _ (by rw [h.rW]; simp)), hd, h.out.keepw o (fun k hk => ne k (by rw [h.ro k hk]; simp)),
    fun W hW => h.ch W (fun k hk => (hW k hk).trans (ob k (by rw [hk]; simp) (by rw [hk]; simp))), h.rM, h.rF, h.rW, h.rm, h.rg, h.ro, fun k hk => Nat.lt_of_lt_of_le (h.lt k hk) o.size⟩
/-- The output changes. -/
theorem MachAt.out' {C : Nat → Prop} {w w' : World} {G : MG} {M : Nat} {m : Mx} {l : List Int} (h : MachAt w G M m) (o : Only C w w') (hC : ∀ k, C k → G.R k = .mach ∨ G.R k = .out) (outv : Value) (R' : Nat → MRole) (hR : ∀ k, G.R k ≠ .none → R' k = G.R k) (hlt : ∀ k, R' k ≠ .none → k < w'.heap.size) (hch : ∀ k, R' k = .ch → G.R k = .ch)
    (hro : ∀ k, outv.ownBlock = some k → R' k = .out) (hout : w'.ownsRow 0 22 1 outv l.length (u32s l)) (hok : ({ m with out := l } : Mx).ok) (hp : ARow w' M 84 (machC { G with R := R', outv := outv } { m with out := l })) :
    MachAt w' { G with R := R', outv := outv } M { m with out := l } := by
  have ne : ∀ k, G.R k ≠ .mach → G.R k ≠ .out → ¬ C k := fun k h1 h2 hk => by rcases hC k hk with e | e; exact h1 e; exact h2 e
  have ob : ∀ k, G.R k ≠ .none → G.R k ≠ .mach → G.R k ≠ .out → w'.heap[k]? = w.heap[k]? := fun k hk h1 h2 => o.block k (h.lt k hk) (ne k h1 h2)
  exact ⟨hok, hp, h.file.keep o (ne _ (by rw [h.rF]; simp) (by rw [h.rF]; simp)) (ne _ (by rw [h.rW]; simp) (by rw [h.rW]; simp)), h.mem.keep o (ne _ (by rw [h.rm]; simp) (by rw [h.rm]; simp)) (ne _ (by rw [h.rg]; simp) (by rw [h.rg]; simp)), hout,
    fun W hW => h.ch W (fun k hk => (hW k ((hR k (by rw [hk]; simp)).trans hk)).trans (ob k (by rw [hk]; simp) (by rw [hk]; simp) (by rw [hk]; simp))),
    (hR M (by rw [h.rM]; simp)).trans h.rM, (hR _ (by rw [h.rF]; simp)).trans h.rF, (hR _ (by rw [h.rW]; simp)).trans h.rW, (hR _ (by rw [h.rm]; simp)).trans h.rm, (hR _ (by rw [h.rg]; simp)).trans h.rg, hro, hlt⟩
/-! What the machine's cells hold. -/
theorem machC_len {G : MG} {m : Mx} (h : m.ok) : (machC G m).length = 47 := by
  simp [machC, machH, machT, u32s, h.tl, h.sl]
theorem machC_head {G : MG} {m : Mx} {k : Nat} (hk : k < 9) : (machC G m)[k]? = (machH G m)[k]? := by
  unfold machC; rw [List.getElem?_append_left (by simpa [machH] using hk)]
theorem machC_tpc {G : MG} {m : Mx} (h : m.ok) {i : Nat} (hi : i < 17) : (machC G m)[9 + i]? = some (.int .u32 (m.tpc.getD i 0)) := by
  have ht := h.tl
  unfold machC
  rw [List.getElem?_append_right (by simp [machH]), show 9 + i - (machH G m).length = i from by simp [machH], List.getElem?_append_left (by simp [u32s]; omega)]
  exact u32s_get (by omega)
theorem machC_tpsr {G : MG} {m : Mx} (h : m.ok) {i : Nat} (hi : i < 17) : (machC G m)[26 + i]? = some (.int .u32 (m.tpsr.getD i 0)) := by
  have ht := h.tl; have hs := h.sl
  unfold machC
  rw [List.getElem?_append_right (by simp [machH]; omega), List.getElem?_append_right (by simp [machH, u32s]; omega), show 26 + i - (machH G m).length - (u32s m.tpc).length = i from by simp [machH, u32s]; omega, List.getElem?_append_left (by simp [u32s]; omega)]
  exact u32s_get (by omega)
theorem machC_tail {G : MG} {m : Mx} (h : m.ok) {i : Nat} : (machC G m)[43 + i]? = (machT G m)[i]? := by
  have ht := h.tl; have hs := h.sl
  unfold machC
  rw [List.getElem?_append_right (by simp [machH]; omega), List.getElem?_append_right (by simp [machH, u32s]; omega), List.getElem?_append_right (by simp [machH, u32s]; omega)]
  congr 1
  simp [machH, u32s]; omega
structure MCells (w : World) (G : MG) (M : Nat) (m : Mx) : Prop where
  nw : w.cell? ⟨M, 0, none⟩ = some (.int .i64 m.f.nw)
  f : w.cell? ⟨M, 1, none⟩ = some (.pointer (some ⟨G.F, 0, none⟩))
  mem : w.cell? ⟨M, 2, none⟩ = some (.pointer (some ⟨G.mB, 0, none⟩))
  pc : w.cell? ⟨M, 3, none⟩ = some (.int .u32 m.pc)
  wim : w.cell? ⟨M, 4, none⟩ = some (.int .u32 m.wim)
  cwp : w.cell? ⟨M, 5, none⟩ = some (.int .u8 m.p.cwp)
  pil : w.cell? ⟨M, 6, none⟩ = some (.int .u8 m.p.pil)
  bank : w.cell? ⟨M, 7, none⟩ = some (.int .u8 m.p.bank)
  flags : w.cell? ⟨M, 8, none⟩ = some (.int .u8 m.p.flags)
  ch : w.cell? ⟨M, 43, none⟩ = some G.chv
  out : w.cell? ⟨M, 44, none⟩ = some G.outv
  kind : w.cell? ⟨M, 45, none⟩ = some (.int .u8 m.kind)
  v : w.cell? ⟨M, 46, none⟩ = some (.int .u32 m.v)
  fz : ∀ i, w.frozen? ⟨M, i, none⟩ = false
theorem MachAt.mc {w : World} {G : MG} {M : Nat} {m : Mx} (h : MachAt w G M m) : MCells w G M m := by
  have hh : ∀ {k : Nat} {x : Value}, k < 9 → (machH G m)[k]? = some x → w.cell? ⟨M, k, none⟩ = some x := fun hk hx => h.ptr.cell ((machC_head hk).trans hx)
  have ht : ∀ {i : Nat} {x : Value}, (machT G m)[i]? = some x → w.cell? ⟨M, 43 + i, none⟩ = some x := fun hx => h.ptr.cell ((machC_tail h.ok).trans hx)
  exact ⟨hh (by omega) rfl, hh (by omega) rfl, hh (by omega) rfl, hh (by omega) rfl, hh (by omega) rfl, hh (by omega) rfl, hh (by omega) rfl, hh (by omega) rfl, hh (by omega) rfl, ht (i := 0) rfl, ht (i := 1) rfl, ht (i := 2) rfl, ht (i := 3) rfl, h.ptr.frozen⟩
theorem MachAt.tpcc {w : World} {G : MG} {M : Nat} {m : Mx} (h : MachAt w G M m) {i : Nat} (hi : i < 17) : w.cell? ⟨M, 9 + i, none⟩ = some (.int .u32 (m.tpc.getD i 0)) := h.ptr.cell (machC_tpc h.ok hi)
theorem MachAt.tpsrc {w : World} {G : MG} {M : Nat} {m : Mx} (h : MachAt w G M m) {i : Nat} (hi : i < 17) : w.cell? ⟨M, 26 + i, none⟩ = some (.int .u32 (m.tpsr.getD i 0)) := h.ptr.cell (machC_tpsr h.ok hi)
/-! One cell of the machine is stored. -/
theorem machC_setH {G : MG} {m m' : Mx} {k : Nat} {v : Value} (hk : k < 9) (h : (machH G m).set k v = machH G m') (h1 : m'.tpc = m.tpc) (h2 : m'.tpsr = m.tpsr) (h3 : machT G m' = machT G m) : (machC G m).set k v = machC G m' := by
  unfold machC
  rw [List.set_append_left _ _ (by simpa [machH] using hk), h, h1, h2, h3]
theorem machC_setT {G G' : MG} {m m' : Mx} {k : Nat} {v : Value} (ho : m.ok) (h : (machT G m).set k v = machT G' m') (h1 : m'.tpc = m.tpc) (h2 : m'.tpsr = m.tpsr) (h3 : machH G' m' = machH G m) : (machC G m).set (43 + k) v = machC G' m' := by
  have ht := ho.tl; have hs := ho.sl
  unfold machC
  rw [List.set_append_right _ _ (by simp [machH]; omega), List.set_append_right _ _ (by simp [machH, u32s]; omega), List.set_append_right _ _ (by simp [machH, u32s]; omega), h1, h2, h3,
    show 43 + k - (machH G m).length - (u32s m.tpc).length - (u32s m.tpsr).length = k from by simp [machH, u32s]; omega, h]
theorem machC_setP {G : MG} {m m' : Mx} {i : Nat} {x : Int} (ho : m.ok) (hi : i < 17) (h : m'.tpc = m.tpc.set i x) (h2 : m'.tpsr = m.tpsr) (h3 : machH G m' = machH G m) (h4 : machT G m' = machT G m) : (machC G m).set (9 + i) (.int .u32 x) = machC G m' := by
  have ht := ho.tl
  unfold machC
  rw [List.set_append_right _ _ (by simp [machH]), show 9 + i - (machH G m).length = i from by simp [machH], List.set_append_left _ _ (by simp [u32s]; omega), u32s_set, h, h2, h3, h4]
theorem machC_setS {G : MG} {m m' : Mx} {i : Nat} {x : Int} (ho : m.ok) (hi : i < 17) (h : m'.tpsr = m.tpsr.set i x) (h2 : m'.tpc = m.tpc) (h3 : machH G m' = machH G m) (h4 : machT G m' = machT G m) : (machC G m).set (26 + i) (.int .u32 x) = machC G m' := by
  have ht := ho.tl; have hs := ho.sl
  unfold machC
  rw [List.set_append_right _ _ (by simp [machH]; omega), List.set_append_right _ _ (by simp [machH, u32s]; omega), show 26 + i - (machH G m).length - (u32s m.tpc).length = i from by simp [machH, u32s]; omega, List.set_append_left _ _ (by simp [u32s]; omega), u32s_set, h, h2, h3, h4]
section
variable {w : World} {G : MG} {M : Nat} {m : Mx}
theorem onlyM (w : World) (M i : Nat) (v : Value) : Only (fun k => k = M) w (w.setCell ⟨M, i, none⟩ v) := (Only.refl (fun k => k = M) w).setCell (p := ⟨M, i, none⟩) rfl v
theorem ARow.to {w : World} {g : Nat} {t : TypeId} {a b : List Value} (h : ARow w g t a) (e : a = b) : ARow w g t b := e ▸ h
theorem MachAt.setPc (h : MachAt w G M m) {x : Int} (hx : 0 ≤ x ∧ x < 4294967296) : MachAt (w.setCell ⟨M, 3, none⟩ (.int .u32 x)) G M { m with pc := x } :=
  h.cells (onlyM w M 3 _) (pcM_ok h.ok hx) ((h.ptr.set 3 _).to (machC_setH (m := m) (k := 3) (v := .int .u32 x) (by omega) rfl rfl rfl rfl)) rfl rfl rfl rfl
theorem MachAt.setWim (h : MachAt w G M m) {x : Int} (hx : 0 ≤ x ∧ x < 4294967296) : MachAt (w.setCell ⟨M, 4, none⟩ (.int .u32 x)) G M { m with wim := x } :=
  h.cells (onlyM w M 4 _) (wimM_ok h.ok hx) ((h.ptr.set 4 _).to (machC_setH (m := m) (k := 4) (v := .int .u32 x) (by omega) rfl rfl rfl rfl)) rfl rfl rfl rfl
theorem MachAt.setCwp (h : MachAt w G M m) {x : Int} (hx : 0 ≤ x ∧ x < m.nw) : MachAt (w.setCell ⟨M, 5, none⟩ (.int .u8 x)) G M { m with p := { m.p with cwp := x } } :=
  h.cells (onlyM w M 5 _) (psM_ok h.ok (p := { m.p with cwp := x }) ⟨⟨hx.1, by have := h.ok.win.2; show x < 256; omega⟩, h.ok.pb.2⟩ ⟨hx.2, h.ok.pm.2⟩) ((h.ptr.set 5 _).to (machC_setH (m := m) (k := 5) (v := .int .u8 x) (by omega) rfl rfl rfl rfl)) rfl rfl rfl rfl
theorem MachAt.setPil (h : MachAt w G M m) {x : Int} (hx : 0 ≤ x ∧ x < 16) : MachAt (w.setCell ⟨M, 6, none⟩ (.int .u8 x)) G M { m with p := { m.p with pil := x } } :=
  h.cells (onlyM w M 6 _) (psM_ok h.ok (p := { m.p with pil := x }) ⟨h.ok.pb.1, ⟨hx.1, by show x < 256; omega⟩, h.ok.pb.2.2⟩ ⟨h.ok.pm.1, hx.2, h.ok.pm.2.2⟩) ((h.ptr.set 6 _).to (machC_setH (m := m) (k := 6) (v := .int .u8 x) (by omega) rfl rfl rfl rfl)) rfl rfl rfl rfl
theorem MachAt.setBank (h : MachAt w G M m) {x : Int} (hx : 0 ≤ x ∧ x < 17) : MachAt (w.setCell ⟨M, 7, none⟩ (.int .u8 x)) G M { m with p := { m.p with bank := x } } :=
  h.cells (onlyM w M 7 _) (psM_ok h.ok (p := { m.p with bank := x }) ⟨h.ok.pb.1, h.ok.pb.2.1, ⟨hx.1, by show x < 256; omega⟩, h.ok.pb.2.2.2⟩ ⟨h.ok.pm.1, h.ok.pm.2.1, hx.2, h.ok.pm.2.2.2⟩) ((h.ptr.set 7 _).to (machC_setH (m := m) (k := 7) (v := .int .u8 x) (by omega) rfl rfl rfl rfl)) rfl rfl rfl rfl
theorem MachAt.setFlags (h : MachAt w G M m) {x : Int} (hx : 0 ≤ x ∧ x < 16) : MachAt (w.setCell ⟨M, 8, none⟩ (.int .u8 x)) G M { m with p := { m.p with flags := x } } :=
  h.cells (onlyM w M 8 _) (psM_ok h.ok (p := { m.p with flags := x }) ⟨h.ok.pb.1, h.ok.pb.2.1, h.ok.pb.2.2.1, hx.1, by show x < 256; omega⟩ ⟨h.ok.pm.1, h.ok.pm.2.1, h.ok.pm.2.2.1, hx.2⟩) ((h.ptr.set 8 _).to (machC_setH (m := m) (k := 8) (v := .int .u8 x) (by omega) rfl rfl rfl rfl)) rfl rfl rfl rfl
theorem MachAt.setTpc (h : MachAt w G M m) {i : Nat} (hi : i < 17) {x : Int} (hx : 0 ≤ x ∧ x < 4294967296) : MachAt (w.setCell ⟨M, 9 + i, none⟩ (.int .u32 x)) G M { m with tpc := m.tpc.set i x } :=
  h.cells (onlyM w M _ _) (tpcM_ok h.ok i hx) ((h.ptr.set _ _).to (machC_setP (m := m) (i := i) (x := x) h.ok hi rfl rfl rfl rfl)) rfl rfl rfl rfl
theorem MachAt.setTpsr (h : MachAt w G M m) {i : Nat} (hi : i < 17) {x : Int} (hx : 0 ≤ x ∧ x < 4294967296) : MachAt (w.setCell ⟨M, 26 + i, none⟩ (.int .u32 x)) G M { m with tpsr := m.tpsr.set i x } :=
  h.cells (onlyM w M _ _) (tpsrM_ok h.ok i hx) ((h.ptr.set _ _).to (machC_setS (m := m) (i := i) (x := x) h.ok hi rfl rfl rfl rfl)) rfl rfl rfl rfl
theorem MachAt.setCh (h : MachAt w G M m) (chv : Value) (l : List Int) (hl : Words l) (hch : ∀ W : World, MChAt W G.chv m.ch → MChAt W chv l) : MachAt (w.setCell ⟨M, 43, none⟩ chv) { G with chv := chv } M { m with ch := l } :=
  h.cells' (onlyM w M 43 _) chv (chM_ok h.ok hl) ((h.ptr.set 43 _).to (machC_setT (G := G) (G' := { G with chv := chv }) (m := m) (k := 0) (v := chv) h.ok rfl rfl rfl rfl)) rfl rfl rfl hch
theorem MachAt.setKind (h : MachAt w G M m) {x : Int} (hx : 0 ≤ x ∧ x < 256) : MachAt (w.setCell ⟨M, 45, none⟩ (.int .u8 x)) G M { m with kind := x } :=
  h.cells (onlyM w M 45 _) (haltM_ok h.ok hx ⟨h.ok.v0, h.ok.v1⟩) ((h.ptr.set 45 _).to (machC_setT (G := G) (G' := G) (m := m) (m' := { m with kind := x }) (k := 2) (v := .int .u8 x) h.ok rfl rfl rfl rfl)) rfl rfl rfl rfl
theorem MachAt.setV (h : MachAt w G M m) {x : Int} (hx : 0 ≤ x ∧ x < 4294967296) : MachAt (w.setCell ⟨M, 46, none⟩ (.int .u32 x)) G M { m with v := x } :=
  h.cells (onlyM w M 46 _) (haltM_ok h.ok ⟨h.ok.k0, h.ok.k1⟩ hx) ((h.ptr.set 46 _).to (machC_setT (G := G) (G' := G) (m := m) (m' := { m with v := x }) (k := 3) (v := .int .u32 x) h.ok rfl rfl rfl rfl)) rfl rfl rfl rfl
end
end Go.Proofs.YtgdebchbdmogcaaGreatDoor
/- The walks of the machine's small functions: none, get, set, halt, trap. -/
namespace Go.Proofs.YtgdebchbdmogcaaGreatDoor
open Go.RowKit
set_option linter.unusedVariables false
set_option linter.unusedSimpArgs false
theorem mmnone_nil (w : World) : Calls Tryz.prog 34 #[.pointer none] w fun e w' => e = .returned (.bool true) ∧ w = w' := by
  go_enter Tryz.func34, Tryz.ntmps34
  go_wp2
  go_ret
  exact ⟨rfl, rfl⟩
theorem mmnone_empty (w : World) (M : Nat) (h : w.cell? ⟨M, 1, none⟩ = some (.pointer none)) : Calls Tryz.prog 34 #[.pointer (some ⟨M, 0, none⟩)] w fun e w' => e = .returned (.bool true) ∧ w = w' := by
  go_enter Tryz.func34, Tryz.ntmps34
  go_wp2
  go_ret
  exact ⟨rfl, rfl⟩
theorem mmnone_made (w : World) (M : Nat) (a : Addr) (h : w.cell? ⟨M, 1, none⟩ = some (.pointer (some a))) : Calls Tryz.prog 34 #[.pointer (some ⟨M, 0, none⟩)] w fun e w' => e = .returned (.bool false) ∧ w = w' := by
  go_enter Tryz.func34, Tryz.ntmps34
  go_wp2
  go_ret
  exact ⟨rfl, rfl⟩
/-- A register of the machine is one of its file. -/
theorem regOk_of {m : Mx} (h : m.ok) {r : Int} (h0 : 0 ≤ r) (h1 : r < 32) : regOk m.f m.p.cwp m.p.bank r := ⟨h.cwp, h.bank, h0, h1⟩
set_option maxRecDepth 100000 in
set_option maxHeartbeats 1000000 in
theorem mget_any (w : World) (G : MG) (M : Nat) (m : Mx) (h : MachAt w G M m) (r : Int) (h0 : 0 ≤ r) (h1 : r < 32) :
    Calls Tryz.prog 63 #[.pointer (some ⟨M, 0, none⟩), .int .u8 r] w fun e w' => e = .returned (.int .u32 (getM m r)) ∧ ∃ n, w' = w.drewN n := by
  have hr := regOk_of h.ok h0 h1
  have HF := mhid (fun n => (fget_any (w.drewN n) G.F G.Wb G.wc m.f (h.file.keepb ((Only.refl (fun _ => False) w).drewN n |>.below (Nat.le_refl _) (fun _ _ => id))) m.p.cwp m.p.bank r))
  have HE := mhid (show getV m.f m.p.cwp m.p.bank r = getM m r ∧ regE m.f m.p.cwp m.p.bank r = 0 from ⟨if_pos hr, if_pos hr⟩)
  have hc := h.mc
  obtain ⟨c1, c5, c7⟩ : w.cell? ⟨M, 1, none⟩ = some (.pointer (some ⟨G.F, 0, none⟩)) ∧ w.cell? ⟨M, 5, none⟩ = some (.int .u8 m.p.cwp) ∧ w.cell? ⟨M, 7, none⟩ = some (.int .u8 m.p.bank) := ⟨hc.f, hc.cwp, hc.bank⟩
  have b1 := h.ok.cwp
  have b2 := h.ok.bank
  have b3 := h.ok.win.2
  clear hc h hr
  generalize m.p.cwp = cw at *
  generalize m.p.bank = bk at *
  have f1 : IntKind.i64.wrap cw = cw := IntWalk.i64_in _ (by omega)
  have f2 : IntKind.i64.wrap bk = bk := IntWalk.i64_in _ (by omega)
  have f3 : IntKind.i64.wrap r = r := IntWalk.i64_in _ (by omega)
  go_enter Tryz.func63, Tryz.ntmps63
  go_wp2_with fail
  go_quiet ((go_at_call 12; exact Calls.quiet_of (HF.out _)))
  go_wp2_with fail
  go_ret
  exact ⟨mret_i HE.out.1, _, rfl⟩
set_option maxRecDepth 100000 in
set_option maxHeartbeats 1000000 in
theorem mset_any (w : World) (G : MG) (M : Nat) (m : Mx) (h : MachAt w G M m) (r x : Int) (h0 : 0 ≤ r) (h1 : r < 32) (hx : 0 ≤ x ∧ x < 4294967296) :
    Calls Tryz.prog 88 #[.pointer (some ⟨M, 0, none⟩), .int .u8 r, .int .u32 x] w fun e w' => e = .returned (.tuple #[]) ∧ MachAt w' G M (setM m r x) ∧ Only (fun k => k = G.F ∨ k = G.Wb) w w' := by
  have hr := regOk_of h.ok h0 h1
  have hd : Below w.heap.size w w.drew := (Below.refl _ _).drew
  have HM := mhid (h.keepb hd)
  have HF := mhid (fset_any w.drew G.F G.Wb G.wc m.f (h.file.keepb hd) m.p.cwp m.p.bank r x hx)
  have HE := mhid (show setV m.f m.p.cwp m.p.bank r x = (setM m r x).f ∧ regE m.f m.p.cwp m.p.bank r = 0 from ⟨if_pos hr, if_pos hr⟩)
  have HK := mhid (setM_ok h.ok r hx)
  have hc := h.mc
  obtain ⟨c1, c5, c7⟩ : w.cell? ⟨M, 1, none⟩ = some (.pointer (some ⟨G.F, 0, none⟩)) ∧ w.cell? ⟨M, 5, none⟩ = some (.int .u8 m.p.cwp) ∧ w.cell? ⟨M, 7, none⟩ = some (.int .u8 m.p.bank) := ⟨hc.f, hc.cwp, hc.bank⟩
  have b1 := h.ok.cwp
  have b2 := h.ok.bank
  have b3 := h.ok.win.2
  clear hc h hr hd
  generalize hcw : m.p.cwp = cw at c5 HF HE b1
  generalize hbk : m.p.bank = bk at c7 HF HE b2
  have HW := mhid (And.intro hcw hbk)
  clear hcw hbk
  have f1 : IntKind.i64.wrap cw = cw := IntWalk.i64_in _ (by omega)
  have f2 : IntKind.i64.wrap bk = bk := IntWalk.i64_in _ (by omega)
  have f3 : IntKind.i64.wrap r = r := IntWalk.i64_in _ (by omega)
  go_enter Tryz.func88, Tryz.ntmps88
  go_wp2_with fail
  go_still_tail 19, (by kernel_rfl)
  change wpList _ _ _ _ _ w.drew
  go_wp2_with fail
  refine HF.out.mono ?_
  rintro e w' ⟨rfl, hf, ho, hs⟩
  rw [HE.out.1] at hf
  have hm := HM.out.file' ho hf (setF_nw _ _ _ _ _) HK.out
  have ho2 : Only (fun k => k = G.F ∨ k = G.Wb) w w' := ((Only.refl _ w).drew).trans ho
  clear hf ho hs
  go_wp2_with fail
  go_returns
  exact ⟨rfl, hm, ho2⟩
set_option maxHeartbeats 1000000 in
theorem mhalt_any (w : World) (G : MG) (M : Nat) (m : Mx) (h : MachAt w G M m) (k v : Int) (hk : 0 ≤ k ∧ k < 256) (hv : 0 ≤ v ∧ v < 4294967296) :
    Calls Tryz.prog 40 #[.pointer (some ⟨M, 0, none⟩), .int .u8 k, .int .u32 v] w fun e w' => e = .returned (.tuple #[]) ∧ MachAt w' G M (haltM m k v) ∧ Only (fun k => k = M) w w' := by
  have H := mhid (show MachAt ((w.setCell ⟨M, 45, none⟩ (.int .u8 k)).setCell ⟨M, 46, none⟩ (.int .u32 v)) G M (haltM m k v) from (h.setKind hk).setV hv)
  have c1 := h.mc.kind
  have c2 := h.mc.v
  have f1 := h.mc.fz 45
  have f2 := h.mc.fz 46
  clear h
  go_enter Tryz.func40, Tryz.ntmps40
  go_wp2_with fail
  go_returns
  exact ⟨rfl, H.out, ((Only.refl (fun k => k = M) w).setCell (p := ⟨M, 45, none⟩) rfl _).setCell (p := ⟨M, 46, none⟩) rfl _⟩
set_option maxRecDepth 100000 in
set_option maxHeartbeats 2000000 in
theorem mtrap_any (w : World) (G : MG) (M : Nat) (m : Mx) (h : MachAt w G M m) (bank kind pc : Int) (hb : 0 ≤ bank ∧ bank < 17) (hk : 0 ≤ kind ∧ kind < 256) (hp : 0 ≤ pc ∧ pc < 4294967296) :
    Calls Tryz.prog 38 #[.pointer (some ⟨M, 0, none⟩), .int .u8 bank, .int .u8 kind, .int .u32 pc] w fun e w' => e = .returned (.tuple #[]) ∧ MachAt w' G M (trapM m bank kind pc) ∧ Only (fun k => k = M) w w' := by
  have hd : Below w.heap.size w w.drew := (Below.refl _ _).drew
  have HP := mhid (fun w' => pack_any m.p h.ok.pb m.f.nw w')
  have HB := mhid (packS_bd (nw := m.nw) h.ok.pb)
  have hc := h.mc
  obtain ⟨c0, c5, c6, c7, c8⟩ : w.cell? ⟨M, 0, none⟩ = some (.int .i64 m.f.nw) ∧ w.cell? ⟨M, 5, none⟩ = some (.int .u8 m.p.cwp) ∧ w.cell? ⟨M, 6, none⟩ = some (.int .u8 m.p.pil) ∧ w.cell? ⟨M, 7, none⟩ = some (.int .u8 m.p.bank) ∧ w.cell? ⟨M, 8, none⟩ = some (.int .u8 m.p.flags) := ⟨hc.nw, hc.cwp, hc.pil, hc.bank, hc.flags⟩
  have H := mhid h
  have HS := mhid (show ∀ w', Below w.heap.size w w' → w'.cell? ⟨M, 0, none⟩ = some (.int .i64 m.f.nw) ∧ w'.cell? ⟨M, 5, none⟩ = some (.int .u8 m.p.cwp) ∧ w'.cell? ⟨M, 6, none⟩ = some (.int .u8 m.p.pil) ∧ w'.cell? ⟨M, 7, none⟩ = some (.int .u8 m.p.bank) ∧ w'.cell? ⟨M, 8, none⟩ = some (.int .u8 m.p.flags) from fun w' hb => by
    have hc := (h.keepb hb).mc
    exact ⟨hc.nw, hc.cwp, hc.pil, hc.bank, hc.flags⟩)
  obtain ⟨b, rfl⟩ := Int.eq_ofNat_of_zero_le hb.1
  have hb17 : b < 17 := by omega
  have hb16 : (b : Int) < 17 := by omega
  have hb0 : (0 : Int) ≤ (b : Int) := by omega
  have u1 : IntKind.u32.wrap kind = kind := by rw [IntKind.wrap_u32]; omega
  have u2 : IntKind.u32.wrap (16 * kind) = 16 * kind := by rw [IntKind.wrap_u32]; omega
  have u3 : IntKind.u32.wrap (256 + 16 * kind) = 256 + 16 * kind := by rw [IntKind.wrap_u32]; omega
  clear hc h
  go_enter Tryz.func38, Tryz.ntmps38
  go_wp2_with fail
  go_region_held3 (fun w' => w'.cell? ⟨M, 0, none⟩ = some (.int .i64 m.f.nw) ∧ w'.cell? ⟨M, 5, none⟩ = some (.int .u8 m.p.cwp) ∧ w'.cell? ⟨M, 6, none⟩ = some (.int .u8 m.p.pil) ∧ w'.cell? ⟨M, 7, none⟩ = some (.int .u8 m.p.bank) ∧ w'.cell? ⟨M, 8, none⟩ = some (.int .u8 m.p.flags)) (first | (with_reducible exact ⟨c0, c5, c6, c7, c8⟩) | (refine HS.out _ ?_; go_grown; done))
    ((go_at_call 57; (with_reducible refine (HP.out _).mono ?_); rintro e W1 ⟨rfl, hb10⟩; have hb1 : Below w.heap.size w W1 := hd.trans (hb10.mono hd.size)))
  clear c0 c5 c6 c7 c8
  have H1 := mhid (H.out.keepb hb1)
  have HO := mhid (show Only (fun k => k = M) w W1 from Only.of_below hb1)
  clear hb1 hb10 hd HS HP H
  have ca := H1.out.tpcc hb17
  have cb := H1.out.tpsrc hb17
  have fa := H1.out.mc.fz (9 + b)
  have fb := H1.out.mc.fz (26 + b)
  have HW := mhid (show packS m.p m.f.nw = packS m.p m.nw from rfl)
  have hw := HB.out
  generalize hpw : packS m.p m.nw = pw at *
  rw [HW.out]
  have HPW := mhid hpw
  clear hpw
  go_wp2_with fail
  go_region
  have h2 := (H1.out.setTpc hb17 hp).setTpsr (m := { m with tpc := m.tpc.set b pc }) hb17 hw
  have h3 := h2.keepb ((Below.refl _ _).drew)
  have o3 : Only (fun k => k = M) w ((W1.setCell ⟨M, 9 + b, none⟩ (.int .u32 pc)).setCell ⟨M, 26 + b, none⟩ (.int .u32 pw)).drew := ((HO.out.setCell (p := ⟨M, 9 + b, none⟩) rfl _).setCell (p := ⟨M, 26 + b, none⟩) rfl _).drew
  clear h2 ca cb fa fb
  generalize ((W1.setCell ⟨M, 9 + b, none⟩ (.int .u32 pc)).setCell ⟨M, 26 + b, none⟩ (.int .u32 pw)).drew = W2 at *
  have HO3 := mhid o3
  have c7 := h3.mc.bank
  have c3 := h3.mc.pc
  have f7 := h3.mc.fz 7
  have f3 := h3.mc.fz 3
  have H3 := mhid h3
  clear h3 o3
  go_wp2_with fail
  go_returns
  refine ⟨rfl, ?_, (HO3.out.setCell (p := ⟨M, 7, none⟩) rfl _).setCell (p := ⟨M, 3, none⟩) rfl _⟩
  have h4 := (H3.out.setBank (x := (b : Int)) (by omega)).setPc (x := 256 + 16 * kind) (by omega)
  unfold trapM
  rw [HPW.out, Int.toNat_natCast]
  exact h4
set_option maxHeartbeats 1000000 in
theorem mirq_set (w : World) (G : MG) (M : Nat) (m : Mx) (h : MachAt w G M m) : True := trivial
end Go.Proofs.YtgdebchbdmogcaaGreatDoor
/- The machine's instructions at hand: what they are given, what they leave; the walks of window, sure. -/
namespace Go.Proofs.YtgdebchbdmogcaaGreatDoor
open Go.RowKit
set_option linter.unusedVariables false
set_option linter.unusedSimpArgs false
/-- An instruction at hand, at block D. -/
def DAt (w : World) (D M : Nat) (x : Ix) (a b n : Int) : Prop :=
  ARow w D 95 [.pointer (some ⟨M, 0, none⟩), .int .u8 x.op, .int .u8 x.rd, .int .u8 x.rs1, .int .u8 x.rs2, .bool x.is, .int .i32 x.imm, .int .u32 a, .int .u32 b, .int .u32 n]
structure DoIn (w : World) (G : MG) (M : Nat) (m : Mx) (D : Nat) (x : Ix) (a b n : Int) : Prop where
  mach : MachAt w G M m
  d : DAt w D M x a b n
  rD : G.R D = .none
  fits : x.fits
  ha : 0 ≤ a ∧ a < 4294967296
  hb : 0 ≤ b ∧ b < 4294967296
  hn : 0 ≤ n ∧ n < 4294967296
  run : m.kind = 0
/-- The PC goes on, if the machine runs. -/
def finM (m : Mx) (n : Int) : Mx := if m.kind = 0 then { m with pc := n } else m
/-- What an instruction leaves, of which the machine comes to be r. -/
def DoEnd (w : World) (G : MG) (M D : Nat) (x : Ix) (a b : Int) (r : Mx) (w' : World) : Prop :=
  ∃ G' m1 n1, MachAt w' G' M m1 ∧ DAt w' D M x a b n1 ∧ Only (fun k => G.own k ∨ k = D) w w' ∧ (∀ k, k < w.heap.size → G'.R k = G.R k) ∧ (0 ≤ n1 ∧ n1 < 4294967296) ∧ finM m1 n1 = r
section
variable {w : World} {G : MG} {M : Nat} {m : Mx} {D : Nat} {x : Ix} {a b n : Int}
theorem DAt.keep {C : Nat → Prop} {w' : World} (h : DAt w D M x a b n) (o : Only C w w') (hD : ¬ C D) : DAt w' D M x a b n := ARow.of_block h (o.block D (ARow.lt h) hD)
theorem DAt.setNext (h : DAt w D M x a b n) (n' : Int) : DAt (w.setCell ⟨D, 9, none⟩ (.int .u32 n')) D M x a b n' := ARow.set h 9 _
theorem DoIn.keepb {w' : World} (h : DoIn w G M m D x a b n) (hb : Below w.heap.size w w') : DoIn w' G M m D x a b n :=
  ⟨h.mach.keepb hb, h.d.keep (Only.of_below (S := fun _ => False) hb) id, h.rD, h.fits, h.ha, h.hb, h.hn, h.run⟩
theorem DoIn.drew (h : DoIn w G M m D x a b n) : DoIn w.drew G M m D x a b n := h.keepb ((Below.refl _ _).drew)
theorem DoIn.ne (h : DoIn w G M m D x a b n) : ¬ D = M ∧ ¬ D = G.F ∧ ¬ D = G.Wb ∧ ¬ D = G.gB := by
  have r := h.rD
  refine ⟨fun e => ?_, fun e => ?_, fun e => ?_, fun e => ?_⟩
  · rw [e, h.mach.rM] at r; cases r
  · rw [e, h.mach.rF] at r; cases r
  · rw [e, h.mach.rW] at r; cases r
  · rw [e, h.mach.rg] at r; cases r
theorem MachAt.ownM (h : MachAt w G M m) : G.own M := ⟨by rw [h.rM]; simp, by rw [h.rM]; simp⟩
theorem MachAt.ownF (h : MachAt w G M m) : G.own G.F := ⟨by rw [h.rF]; simp, by rw [h.rF]; simp⟩
theorem MachAt.ownW (h : MachAt w G M m) : G.own G.Wb := ⟨by rw [h.rW]; simp, by rw [h.rW]; simp⟩
theorem MachAt.owng (h : MachAt w G M m) : G.own G.gB := ⟨by rw [h.rg]; simp, by rw [h.rg]; simp⟩
/-- The cells that instructions read. -/
structure DCells (w : World) (G : MG) (M : Nat) (m : Mx) (D : Nat) (x : Ix) (a b n : Int) : Prop where
  d0 : w.cell? ⟨D, 0, none⟩ = some (.pointer (some ⟨M, 0, none⟩))
  d1 : w.cell? ⟨D, 1, none⟩ = some (.int .u8 x.op)
  d2 : w.cell? ⟨D, 2, none⟩ = some (.int .u8 x.rd)
  d3 : w.cell? ⟨D, 3, none⟩ = some (.int .u8 x.rs1)
  d5 : w.cell? ⟨D, 5, none⟩ = some (.bool x.is)
  d6 : w.cell? ⟨D, 6, none⟩ = some (.int .i32 x.imm)
  d7 : w.cell? ⟨D, 7, none⟩ = some (.int .u32 a)
  d8 : w.cell? ⟨D, 8, none⟩ = some (.int .u32 b)
  d9 : w.cell? ⟨D, 9, none⟩ = some (.int .u32 n)
  fd : w.frozen? ⟨D, 9, none⟩ = false
theorem DAt.dc (h : DAt w D M x a b n) : DCells w G M m D x a b n :=
  ⟨ARow.cell h (k := 0) rfl, ARow.cell h (k := 1) rfl, ARow.cell h (k := 2) rfl, ARow.cell h (k := 3) rfl, ARow.cell h (k := 5) rfl, ARow.cell h (k := 6) rfl, ARow.cell h (k := 7) rfl, ARow.cell h (k := 8) rfl, ARow.cell h (k := 9) rfl, ARow.frozen h 9⟩
theorem DoIn.dc (h : DoIn w G M m D x a b n) : DCells w G M m D x a b n := DAt.dc h.d
/-! Ends. -/
theorem DoEnd.of {w' : World} {m1 : Mx} {r : Mx} {n1 : Int} (hm : MachAt w' G M m1) (hd : DAt w' D M x a b n1) (o : Only (fun k => G.own k ∨ k = D) w w') (hn : 0 ≤ n1 ∧ n1 < 4294967296) (hf : finM m1 n1 = r) : DoEnd w G M D x a b r w' :=
  ⟨G, m1, n1, hm, hd, o, fun _ _ => rfl, hn, hf⟩
theorem finM_run {m : Mx} {n : Int} (h : m.kind = 0) : finM m n = { m with pc := n } := if_pos h
theorem finM_halt (m : Mx) (k v n : Int) (hk : k ≠ 0) : finM (haltM m k v) n = haltM m k v := if_neg hk
/-- The machine has changed, the instruction has not. -/
theorem DoIn.fin {w0 w' : World} {C : Nat → Prop} {m1 r : Mx} (h : DoIn w G M m D x a b n) (o0 : Only (fun k => G.own k ∨ k = D) w0 w) (hm : MachAt w' G M m1) (o : Only C w w') (hC : ∀ k, C k → G.own k) (hf : finM m1 n = r) : DoEnd w0 G M D x a b r w' := by
  have hD : ¬ C D := fun hc => (hC D hc).1 h.rD
  exact DoEnd.of hm (h.d.keep o hD) (o0.trans (o.mono (fun k _ hk => .inl (hC k hk)))) h.hn hf
end
set_option maxHeartbeats 1000000 in
theorem dsure_no (w : World) (G : MG) (M : Nat) (m : Mx) (D : Nat) (x : Ix) (a b n : Int) (h : DoIn w G M m D x a b n) :
    Calls Tryz.prog 108 #[.pointer (some ⟨D, 0, none⟩), .int .i64 0] w fun e w' => e = .returned (.bool true) ∧ w = w' := by
  go_enter Tryz.func108, Tryz.ntmps108
  go_wp2_with fail
  go_ret
  exact ⟨rfl, rfl⟩
set_option maxHeartbeats 1000000 in
theorem dsure_yes (w : World) (G : MG) (M : Nat) (m : Mx) (D : Nat) (x : Ix) (a b n : Int) (h : DoIn w G M m D x a b n) (er : Int) (he : er ≠ 0) :
    Calls Tryz.prog 108 #[.pointer (some ⟨D, 0, none⟩), .int .i64 er] w fun e w' => e = .returned (.bool false) ∧ MachAt w' G M (haltM m 3 0) ∧ Only (fun k => k = M) w w' := by
  have HH := mhid (mhalt_any w G M m h.mach 3 0 (by omega) (by omega))
  have d0 := h.dc.d0
  have e1 : (er != 0) = true := by simpa using he
  have e2 : (er == 0) = false := by simpa using he
  clear h he
  go_enter Tryz.func108, Tryz.ntmps108
  go_wp2_with fail
  refine HH.out.mono ?_
  rintro e w' ⟨rfl, hm, ho⟩
  go_wp2_with fail
  go_ret
  exact ⟨rfl, hm, ho⟩
set_option maxHeartbeats 1000000 in
theorem dwindow_any (w : World) (G : MG) (M : Nat) (m : Mx) (D : Nat) (x : Ix) (a b n : Int) (h : DoIn w G M m D x a b n) (kind pc : Int) (hk : 0 ≤ kind ∧ kind < 256) (hp : 0 ≤ pc ∧ pc < 4294967296) :
    Calls Tryz.prog 110 #[.pointer (some ⟨D, 0, none⟩), .int .u8 kind, .int .u32 pc] w fun e w' => e = .returned (.tuple #[]) ∧ DoEnd w G M D x a b (winM m kind pc) w' := by
  have d0 := h.dc.d0
  have c7 := h.mach.mc.bank
  have H := mhid h
  by_cases hz : m.p.bank = 0
  · have HT := mhid (mtrap_any w G M m h.mach 16 kind pc (by omega) hk hp)
    have HE := mhid (show winM m kind pc = trapM m 16 kind pc from if_pos hz)
    have e1 : (m.p.bank != 0) = false := by simp [hz]
    have HC := mhid (show ∀ w', MachAt w' G M (trapM m 16 kind pc) → Only (fun k => k = M) w w' → w'.cell? ⟨D, 0, none⟩ = some (.pointer (some ⟨M, 0, none⟩)) ∧ w'.cell? ⟨M, 3, none⟩ = some (.int .u32 (256 + 16 * kind)) ∧ w'.cell? ⟨D, 9, none⟩ = some (.int .u32 n) ∧ w'.frozen? ⟨D, 9, none⟩ = false from fun w' hm ho => by
      have hd := DAt.dc (G := G) (m := m) (h.d.keep ho h.ne.1)
      exact ⟨hd.d0, hm.mc.pc, hd.d9, hd.fd⟩)
    clear h hz
    generalize m.p.bank = bk at *
    go_enter Tryz.func110, Tryz.ntmps110
    go_wp2_with fail
    refine HT.out.mono ?_
    rintro e w1 ⟨rfl, hm, ho⟩
    obtain ⟨q0, q3, q9, qf⟩ := HC.out w1 hm ho
    have HM := mhid (And.intro hm ho)
    clear hm ho d0 c7
    go_wp2_with fail
    go_returns
    refine ⟨rfl, ?_⟩
    rw [HE.out]
    have hD : DAt w1 D M x a b n := H.out.d.keep HM.out.2 H.out.ne.1
    refine DoEnd.of (m1 := trapM m 16 kind pc) (HM.out.1.keep ((Only.refl (fun k => k = D) w1).setCell (p := ⟨D, 9, none⟩) rfl _) (fun k hk e => hk (by rw [e]; exact H.out.rD))) (hD.setNext _) (((HM.out.2.mono (fun k _ e => .inl (e ▸ H.out.mach.ownM))).setCell (p := ⟨D, 9, none⟩) (.inr rfl) _)) (by omega) ?_
    exact finM_run H.out.run
  · have HT := mhid (mhalt_any w G M m h.mach 3 0 (by omega) (by omega))
    have HE := mhid (show winM m kind pc = haltM m 3 0 from if_neg hz)
    have e1 : (m.p.bank != 0) = true := by simpa using hz
    clear h hz
    generalize m.p.bank = bk at *
    go_enter Tryz.func110, Tryz.ntmps110
    go_wp2_with fail
    refine HT.out.mono ?_
    rintro e w1 ⟨rfl, hm, ho⟩
    go_wp2_with fail
    go_returns
    refine ⟨rfl, ?_⟩
    rw [HE.out]
    exact H.out.fin (Only.refl _ _) hm ho (fun k e => e ▸ H.out.mach.ownM) (finM_halt _ _ _ _ (by omega))
end Go.Proofs.YtgdebchbdmogcaaGreatDoor
