/- Several texts in one: FlatNameLaw, FlatNamesCopy, ShapeHeapsLaw, FlatMoreLaw, FlatMoreRun. -/
import Derived.Test.YtdefooailcbnlaaG33
import Derived.Test.YtdefooailcbnlaaG22
/- Names that do not count: a program with other names. Plain; no function of the program is walked here. -/
namespace Go.Proofs.Ytdefooailcbnlaa
open Go.RowKit
set_option linter.unusedVariables false
set_option linter.unusedSimpArgs false
structure Ren (g : ByteArray → ByteArray) : Prop where
  inj : ∀ s t, g s = g t → s = t
  name : ∀ s, nameB s.data.toList = true → s.size ≤ 60 → nameB (g s).data.toList = true
def sfy (s : ByteArray) : ByteArray := s ++ ⟨#[95, 121]⟩
def pfb (s : ByteArray) : ByteArray := ⟨#[98, 95]⟩ ++ s
theorem sfy_list (s : ByteArray) : (sfy s).data.toList = s.data.toList ++ [95, 121] := by
  unfold sfy
  rw [ByteArray.data_append]; simp
theorem pfb_list (s : ByteArray) : (pfb s).data.toList = [98, 95] ++ s.data.toList := by
  unfold pfb
  rw [ByteArray.data_append]; simp
theorem ren_sfy : Ren sfy := by
  refine ⟨fun s t h => ?_, fun s h hl => ?_⟩
  · have h1 := congrArg (fun b : ByteArray => b.data.toList) h
    simp only [sfy_list] at h1
    have h2 := List.append_cancel_right h1
    apply ByteArray.ext
    exact Array.toList_inj.1 h2
  · rw [sfy_list]
    have hs : s.size = s.data.toList.length := by show s.data.size = _; rw [Array.length_toList]
    rw [hs] at hl
    clear hs
    generalize s.data.toList = l at *
    cases l with
    | nil => cases h
    | cons c r =>
      simp only [List.cons_append]
      unfold nameB at h ⊢
      simp only [Bool.and_eq_true, decide_eq_true_eq, Bool.not_eq_true', List.length_append, List.length_cons, List.length_nil] at h ⊢
      obtain ⟨⟨⟨h1, h2⟩, h3⟩, h4⟩ := h
      refine ⟨⟨⟨by simp at hl; omega, h2⟩, ?_⟩, ?_⟩
      · unfold allwB at h3 ⊢
        rw [List.all_append, h3]
        simp [wordP, letP, digP]
      · have : alldB (r ++ [95, 121]) = false := by
          unfold alldB
          rw [List.all_append]
          simp [digP]
        rw [this]; simp
theorem ren_pfb : Ren pfb := by
  refine ⟨fun s t h => ?_, fun s h hl => ?_⟩
  · have h1 := congrArg (fun b : ByteArray => b.data.toList) h
    simp only [pfb_list] at h1
    have h2 := List.append_cancel_left h1
    apply ByteArray.ext
    exact Array.toList_inj.1 h2
  · rw [pfb_list]
    have hs : s.size = s.data.toList.length := by show s.data.size = _; rw [Array.length_toList]
    rw [hs] at hl
    clear hs
    generalize s.data.toList = l at *
    cases l with
    | nil => cases h
    | cons c r =>
      simp only [List.cons_append, List.nil_append]
      unfold nameB at h ⊢
      simp only [Bool.and_eq_true, decide_eq_true_eq, Bool.not_eq_true', List.length_append, List.length_cons, List.length_nil] at h ⊢
      obtain ⟨⟨⟨h1, h2⟩, h3⟩, h4⟩ := h
      refine ⟨⟨⟨by simp at hl; omega, by simp [letP]⟩, ?_⟩, ?_⟩
      · unfold allwB at h3 ⊢
        rw [List.all_cons, List.all_cons, h3]
        have hw : wordP c.toNat := .inl h2
        rw [decide_eq_true hw]
        simp [wordP, letP, digP]
      · have : alldB (95 :: c :: r) = false := by
          unfold alldB
          rw [List.all_cons]
          simp [digP]
        rw [this]; simp
section
variable {g h : ByteArray → ByteArray}
def renBg (h : ByteArray → ByteArray) (b : Blk) : Blk := ⟨h b.name, b.ins⟩
def renFg (g h : ByteArray → ByteArray) (f : Fnx) : Fnx := ⟨g f.name, f.args, f.regs, f.blocks.map (renBg h)⟩
theorem reng_ins (bs : List Blk) (i : Nat) : insAt (bs.map (renBg h)) i = insAt bs i := by
  unfold insAt
  rw [List.getElem?_map]
  cases bs[i]? <;> rfl
theorem reng_great (bs : List Blk) : greatestS (bs.map (renBg h)) = greatestS bs := by
  unfold greatestS
  rw [List.foldl_map]; rfl
theorem reng_args (fs : List Fnx) (k : Nat) : argsOf (fs.map (renFg g h)) k = argsOf fs k := by
  unfold argsOf
  rw [List.getElem?_map]
  cases fs[k]? <;> rfl
theorem reng_insF (fs : List Fnx) (nb : Nat) (op d a b n f : Int) (args : List Int) (l1 l2 : Int) : insF (fs.map (renFg g h)) nb op d a b n f args l1 l2 = insF fs nb op d a b n f args l1 l2 := by
  unfold insF
  rw [List.length_map, reng_args]
theorem reng_twice {nm nm' : Nat → ByteArray} {g : ByteArray → ByteArray} (hg : Ren g) (n : Nat) (hn : ∀ i, i ≤ n → nm' i = g (nm i)) (hl : (nm n).size ≤ 60) (h : twiceB nm n = false) : twiceB nm' n = false := by
  unfold twiceB at h ⊢
  simp only [Bool.or_eq_false_iff, Bool.not_eq_false'] at h ⊢
  obtain ⟨h1, h2⟩ := h
  refine ⟨?_, by rw [hn n (Nat.le_refl _)]; exact hg.name _ h2 hl⟩
  rw [List.any_eq_false] at h1 ⊢
  intro i hi
  have hne : nm i ≠ nm n := fun e => h1 i hi (by rw [e]; exact bytes_self _)
  intro e
  have e' : nm' i = nm' n := bytes_eq e
  rw [hn i (by have := List.mem_range.1 hi; omega), hn n (Nat.le_refl _)] at e'
  exact hne (hg.inj _ _ e')
theorem reng_wr {bs : List Blk} : ∀ i, goesOf (bs.map (renBg h)) i = goesOf bs i := fun i => by unfold goesOf; rw [reng_ins]
theorem reng_lstep (bs : List Blk) (r : Nat) (o : List Bool) (i : Nat) : lstep (bs.map (renBg h)) r o i = lstep bs r o i := by
  unfold lstep; rw [reng_ins, reng_wr]
theorem reng_lpass (bs : List Blk) (r : Nat) (o : List Bool) : ∀ n, lpass (bs.map (renBg h)) r o n = lpass bs r o n
  | 0 => rfl
  | n + 1 => by rw [lpass_succ, lpass_succ, reng_lpass bs r o n, reng_lstep]
theorem reng_lpasses (bs : List Blk) (r : Nat) (o : List Bool) : ∀ n, lpasses (bs.map (renBg h)) r o n = lpasses bs r o n
  | 0 => rfl
  | n + 1 => by
    show lpass (bs.map (renBg h)) r (lpasses (bs.map (renBg h)) r o n) (bs.map (renBg h)).length = lpass bs r (lpasses bs r o n) bs.length
    rw [reng_lpasses bs r o n, List.length_map, reng_lpass]
theorem reng_lacks (bs : List Blk) (A : Int) (r : Nat) : lacksL (bs.map (renBg h)) A r = lacksL bs A r := by
  unfold lacksL linit
  rw [List.length_map, reng_lpasses]
theorem reng_miss (bs : List Blk) (A : Int) (n : Nat) : missB (bs.map (renBg h)) A n = missB bs A n := by
  unfold missB lackF
  rw [reng_ins]
  simp only [reng_lacks]
theorem reng_ok (hg : Ren g) (hh : Ren h) {hp : Int} {ts : List Int} {fs : List Fnx} (hl : ∀ f ∈ fs, f.name.size ≤ 60 ∧ ∀ b ∈ f.blocks, b.name.size ≤ 60) (hc : (checkS ⟨hp, ts, fs⟩).2.2 = 0) : checkS ⟨hp, ts, fs.map (renFg g h)⟩ = (0, 0, 0) := by
  obtain ⟨h1, h2, h3, h4⟩ := checkS_may hc
  have hget : ∀ (n : Nat) y, (fs.map (renFg g h))[n]? = some y → ∃ x, fs[n]? = some x ∧ y = renFg g h x := by
    intro n y hy
    rw [List.getElem?_map] at hy
    cases hx : fs[n]? with
    | none => rw [hx] at hy; cases hy
    | some x => rw [hx] at hy; cases hy; exact ⟨x, rfl, rfl⟩
  refine checkS_of ?_ (fun n y hy => ?_) (fun n y hy i b hb => ?_) (fun n y hy i hi => ?_)
  · rw [← h1]
    unfold topB
    simp only [List.length_map]
    congr 2
    refine congrArg (fun g => List.any ts g) (funext fun t => ?_)
    unfold badT
    rw [List.length_map, reng_args]
  · obtain ⟨x, hx, rfl⟩ := hget n y hy
    have hq := h2 n x hx
    unfold headB at hq ⊢
    simp only [Bool.and_eq_true, Bool.not_eq_true', decide_eq_true_eq] at hq ⊢
    obtain ⟨k1, k2⟩ := hq
    refine ⟨reng_twice (nm := fnNames fs) hg n (fun i hi => ?_) ?_ k1, ?_⟩
    · have hin : i < fs.length := by have := (List.getElem?_eq_some_iff.1 hx).1; omega
      have hxi := List.getElem?_eq_getElem hin
      rw [fnNames_at hxi, fnNames_at (x := renFg g h fs[i]) (by rw [List.getElem?_map, hxi]; rfl)]
      rfl
    · rw [fnNames_at hx]; exact (hl x (List.mem_of_getElem? hx)).1
    · show 0 ≤ x.args ∧ x.args ≤ 6 ∧ x.regs = max x.args (greatestS (x.blocks.map (renBg h))) ∧ x.regs ≤ 4096 ∧ 0 < (x.blocks.map (renBg h)).length
      rw [reng_great, List.length_map]; exact k2
  · obtain ⟨x, hx, rfl⟩ := hget n y hy
    have hb' : (x.blocks.map (renBg h))[i]? = some b := hb
    rw [List.getElem?_map] at hb'
    cases hxb : x.blocks[i]? with
    | none => rw [hxb] at hb'; cases hb'
    | some c =>
      rw [hxb] at hb'
      obtain rfl : renBg h c = b := by simpa using hb'
      have hq := h3 n x hx i c hxb
      show blockB (fs.map (renFg g h)) (x.blocks.map (renBg h)) i (renBg h c) = true
      unfold blockB at hq ⊢
      simp only [Bool.and_eq_true, Bool.not_eq_true', decide_eq_true_eq] at hq ⊢
      obtain ⟨⟨k1, k2⟩, k3⟩ := hq
      refine ⟨⟨reng_twice (nm := blkNames x.blocks) hh i (fun j hj => ?_) ?_ k1, k2⟩, ?_⟩
      · have hin : j < x.blocks.length := by have := (List.getElem?_eq_some_iff.1 hxb).1; omega
        have hxi := List.getElem?_eq_getElem hin
        rw [blkNames_at hxi, blkNames_at (x := renBg h x.blocks[j]) (by rw [List.getElem?_map, hxi]; rfl)]
        rfl
      · rw [blkNames_at hxb]; exact (hl x (List.mem_of_getElem? hx)).2 c (List.mem_of_getElem? hxb)
      · rw [List.length_map]
        rw [← k3]
        show (List.range c.ins.length).all (okAt (fs.map (renFg g h)) x.blocks.length c.ins) = _
        congr 1
        funext j
        unfold okAt insX
        simp only [reng_insF]
  · obtain ⟨x, hx, rfl⟩ := hget n y hy
    have hi' : i < (x.blocks.map (renBg h)).length := hi
    rw [List.length_map] at hi'
    show missB (x.blocks.map (renBg h)) x.args i = false
    rw [reng_miss]
    exact h4 n x hx i hi'

/-- A program with other names runs as it did. -/
def renP (g h : ByteArray → ByteArray) (p : Prg) : Prg := ⟨p.heap, p.threads, p.funcs.map (renFg g h)⟩
theorem reng_insOf (p : Prg) (f : Fr) : insOf (renP g h p) f = insOf p f := by
  unfold insOf renP
  dsimp only
  rw [List.getElem?_map]
  cases hf : p.funcs[f.f]? with
  | none => rfl
  | some x =>
    show ((x.blocks.map (renBg h))[f.b]?).bind _ = (x.blocks[f.b]?).bind _
    rw [List.getElem?_map]
    cases x.blocks[f.b]? <;> rfl
theorem reng_regs (p : Prg) (k : Nat) : regsN (renP g h p) k = regsN p k := by
  unfold regsN renP
  dsimp only
  rw [List.getElem?_map]
  cases p.funcs[k]? <;> rfl
theorem reng_frame (p : Prg) (k : Nat) (a : List Int) : frameOf (renP g h p) k a = frameOf p k a := by
  unfold frameOf
  rw [reng_regs]
theorem reng_step (p : Prg) (s : Mdl) : step (renP g h p) s = step p s := by
  have hi : insOf (renP g h p) = insOf p := funext (reng_insOf p)
  have hf : frameOf (renP g h p) = frameOf p := funext fun k => funext (reng_frame p k)
  unfold step actS retS
  rw [hi, hf]
theorem reng_run (p : Prg) : ∀ (n : Nat) (s : Mdl), run (renP g h p) n s = run p n s
  | 0, _ => rfl
  | n + 1, s => by rw [run_one, run_one, reng_step, reng_run p n]
theorem reng_new (p : Prg) (ch : List Int) : newS (renP g h p) ch = newS p ch := by
  unfold newS
  have hf : frameOf (renP g h p) = frameOf p := funext fun k => funext (reng_frame p k)
  rw [hf]
  rfl
end
end Go.Proofs.Ytdefooailcbnlaa
/- How the copy with other names (muntinlaw16) lies while it is made. No function of the program is walked here. -/
namespace Go.Proofs.Ytdefooailcbnlaa
namespace Names
open Go.RowKit
set_option linter.unusedVariables false
set_option linter.unusedSimpArgs false
/-- A block of a function's blocks, all with their new names. -/
def BlkCells (w : World) (x : Fnx) (bl : List Value) (k : Nat) : Prop := ∀ (q : Nat) y, x.blocks[q]? = some y → (bl[q * 2]? = some (.string (if q < k then pfb y.name else y.name))) ∧ (q < k → y.name.size ≤ 60) ∧ ∃ v, bl[q * 2 + 1]? = some v ∧ InsxIn w v y.ins
/-- Function j has its new name, and blocks of its own; these lie in a block of N. -/
structure Done (w wr : World) (gF : Nat) (N : Nat → Prop) (j : Nat) (x : Fnx) : Prop where
  nm : wr.cell? ⟨gF, j * 4, none⟩ = some (.string (sfy x.name))
  ar : wr.cell? ⟨gF, j * 4 + 1, none⟩ = some (.int .i64 x.args)
  rg : wr.cell? ⟨gF, j * 4 + 2, none⟩ = some (.int .i64 x.regs)
  bl : ∃ g c bl, wr.cell? ⟨gF, j * 4 + 3, none⟩ = some (.slice (some ⟨g, 0, none⟩) x.blocks.length c) ∧ VRow wr g 46 bl ∧ g ≠ gF ∧ N g ∧ BlkCells w x bl x.blocks.length
  short : x.name.size ≤ 60
theorem Done.keep {w wr w' : World} {gF j : Nat} {N : Nat → Prop} {x : Fnx} (h : Done w wr gF N j x) (hb : Below wr.heap.size wr w') : Done w w' gF N j x := by
  have hl := World.block_lt_of_cell? _ _ h.nm
  obtain ⟨g, c, bl, h1, h2, h3, h4, h5⟩ := h.bl
  exact ⟨(hb.cell (p := ⟨gF, j * 4, none⟩) hl).trans h.nm, (hb.cell (p := ⟨gF, j * 4 + 1, none⟩) hl).trans h.ar, (hb.cell (p := ⟨gF, j * 4 + 2, none⟩) hl).trans h.rg, ⟨g, c, bl, (hb.cell (p := ⟨gF, j * 4 + 3, none⟩) hl).trans h1, h2.below hb, h3, h4, h5⟩, h.short⟩
theorem Done.imp {w wr : World} {gF j : Nat} {N N' : Nat → Prop} {x : Fnx} (h : Done w wr gF N j x) (hi : ∀ g, g < wr.heap.size → N g → N' g) : Done w wr gF N' j x := by
  obtain ⟨g, c, bl, h1, h2, h3, h4, h5⟩ := h.bl
  exact ⟨h.nm, h.ar, h.rg, ⟨g, c, bl, h1, h2, h3, hi g h2.lt h4, h5⟩, h.short⟩
/-- A store into the functions' block, at another function's cells. -/
theorem Done.far {w wr : World} {gF j o : Nat} {N : Nat → Prop} {x : Fnx} (h : Done w wr gF N j x) (ho : o < j * 4 ∨ j * 4 + 4 ≤ o) (u : Value) : Done w (wr.setCell ⟨gF, o, none⟩ u) gF N j x := by
  obtain ⟨g, c, bl, h1, h2, h3, h4, h5⟩ := h.bl
  have hne : ∀ t, t < 4 → (⟨gF, o, none⟩ : Addr) ≠ ⟨gF, j * 4 + t, none⟩ := fun t ht e => by
    have := congrArg Addr.off e
    simp only at this; omega
  exact ⟨(World.cell?_setCell_other _ _ _ _ (hne 0 (by omega))).trans h.nm, (World.cell?_setCell_other _ _ _ _ (hne 1 (by omega))).trans h.ar, (World.cell?_setCell_other _ _ _ _ (hne 2 (by omega))).trans h.rg, ⟨g, c, bl, (World.cell?_setCell_other _ _ _ _ (hne 3 (by omega))).trans h1, h2.other h3 _, h3, h4, h5⟩, h.short⟩
/-- A store into another block. -/
theorem Done.other {w wr : World} {gF j : Nat} {N : Nat → Prop} {x : Fnx} (h : Done w wr gF N j x) {p : Addr} (hp : p.block ≠ gF) (hN : ∀ g, N g → g ≠ p.block) (u : Value) : Done w (wr.setCell p u) gF N j x := by
  obtain ⟨g, c, bl, h1, h2, h3, h4, h5⟩ := h.bl
  have hne : ∀ t, p ≠ (⟨gF, t, none⟩ : Addr) := fun t e => hp (congrArg Addr.block e)
  exact ⟨(World.cell?_setCell_other _ _ _ _ (hne _)).trans h.nm, (World.cell?_setCell_other _ _ _ _ (hne _)).trans h.ar, (World.cell?_setCell_other _ _ _ _ (hne _)).trans h.rg, ⟨g, c, bl, (World.cell?_setCell_other _ _ _ _ (hne _)).trans h1, h2.other (hN g h4) _, h3, h4, h5⟩, h.short⟩
/-- Function j is as it was. -/
def Same4 (w wr : World) (fb fo gF j : Nat) : Prop := ∀ t, t < 4 → wr.cell? ⟨gF, j * 4 + t, none⟩ = w.cell? ⟨fb, fo + j * 4 + t, none⟩
theorem Same4.keep {w wr w' : World} {fb fo gF j : Nat} (h : Same4 w wr fb fo gF j) (hg : gF < wr.heap.size) (hb : Below wr.heap.size wr w') : Same4 w w' fb fo gF j := fun t ht => (hb.cell (p := ⟨gF, j * 4 + t, none⟩) hg).trans (h t ht)
theorem Same4.far {w wr : World} {fb fo gF j o : Nat} (h : Same4 w wr fb fo gF j) (ho : o < j * 4 ∨ j * 4 + 4 ≤ o) (u : Value) : Same4 w (wr.setCell ⟨gF, o, none⟩ u) fb fo gF j := fun t ht =>
  (World.cell?_setCell_other _ _ _ _ (fun e => by have := congrArg Addr.off e; simp only at this; omega)).trans (h t ht)
theorem Same4.other {w wr : World} {fb fo gF j : Nat} (h : Same4 w wr fb fo gF j) {p : Addr} (hp : p.block ≠ gF) (u : Value) : Same4 w (wr.setCell p u) fb fo gF j := fun t ht =>
  (World.cell?_setCell_other _ _ _ _ (fun e => hp (congrArg Addr.block e))).trans (h t ht)
/-- The copy, the first i functions done. -/
structure Named (w wr : World) (fs : List Fnx) (fb fo gF : Nat) (N : Nat → Prop) (i : Nat) : Prop where
  row : ∃ fl, VRow wr gF 41 fl ∧ fl.length = fs.length * 4
  done : ∀ j x, j < i → fs[j]? = some x → Done w wr gF N j x ∧ ∀ b ∈ x.blocks, b.name.size ≤ 60
  same : ∀ j, i ≤ j → j < fs.length → Same4 w wr fb fo gF j
theorem Named.keep {w wr w' : World} {fs : List Fnx} {fb fo gF i : Nat} {N : Nat → Prop} (h : Named w wr fs fb fo gF N i) (hb : Below wr.heap.size wr w') : Named w w' fs fb fo gF N i := by
  obtain ⟨fl, h1, h2⟩ := h.row
  exact ⟨⟨fl, h1.below hb, h2⟩, fun j x hj hx => ⟨(h.done j x hj hx).1.keep hb, (h.done j x hj hx).2⟩, fun j hj hl => (h.same j hj hl).keep h1.lt hb⟩
theorem Named.imp {w wr : World} {fs : List Fnx} {fb fo gF i : Nat} {N N' : Nat → Prop} (h : Named w wr fs fb fo gF N i) (hi : ∀ g, g < wr.heap.size → N g → N' g) : Named w wr fs fb fo gF N' i :=
  ⟨h.row, fun j x hj hx => ⟨(h.done j x hj hx).1.imp hi, (h.done j x hj hx).2⟩, h.same⟩
/-- In the middle of function i: its name is new, its blocks are copied into block gB, the first k of them with new names. -/
structure Mid (w wr : World) (fs : List Fnx) (fb fo gF i : Nat) (x : Fnx) (gB c k : Nat) : Prop where
  row : ∃ fl, VRow wr gF 41 fl ∧ fl.length = fs.length * 4
  done : ∀ j y, j < i → fs[j]? = some y → Done w wr gF (fun g => g ≠ gB) j y ∧ ∀ b ∈ y.blocks, b.name.size ≤ 60
  same : ∀ j, i < j → j < fs.length → Same4 w wr fb fo gF j
  nm : wr.cell? ⟨gF, i * 4, none⟩ = some (.string (sfy x.name))
  ar : wr.cell? ⟨gF, i * 4 + 1, none⟩ = some (.int .i64 x.args)
  rg : wr.cell? ⟨gF, i * 4 + 2, none⟩ = some (.int .i64 x.regs)
  bv : wr.cell? ⟨gF, i * 4 + 3, none⟩ = some (.slice (some ⟨gB, 0, none⟩) x.blocks.length c)
  bl : ∃ bl, VRow wr gB 46 bl ∧ bl.length = x.blocks.length * 2 ∧ BlkCells w x bl k
  ne : gB ≠ gF
  short : x.name.size ≤ 60
theorem Mid.keep {w wr w' : World} {fs : List Fnx} {fb fo gF i gB c k : Nat} {x : Fnx} (h : Mid w wr fs fb fo gF i x gB c k) (hb : Below wr.heap.size wr w') : Mid w w' fs fb fo gF i x gB c k := by
  obtain ⟨fl, h1, h2⟩ := h.row
  obtain ⟨bl, b1, b2, b3⟩ := h.bl
  have hl := h1.lt
  exact ⟨⟨fl, h1.below hb, h2⟩, fun j y hj hy => ⟨(h.done j y hj hy).1.keep hb, (h.done j y hj hy).2⟩, fun j hj hl' => (h.same j hj hl').keep hl hb, (hb.cell (p := ⟨gF, i * 4, none⟩) hl).trans h.nm, (hb.cell (p := ⟨gF, i * 4 + 1, none⟩) hl).trans h.ar, (hb.cell (p := ⟨gF, i * 4 + 2, none⟩) hl).trans h.rg, (hb.cell (p := ⟨gF, i * 4 + 3, none⟩) hl).trans h.bv, ⟨bl, b1.below hb, b2, b3⟩, h.ne, h.short⟩
/-- One block's name. -/
theorem Mid.step {w wr : World} {fs : List Fnx} {fb fo gF i gB c k : Nat} {x : Fnx} (h : Mid w wr fs fb fo gF i x gB c k) {y : Blk} (hy : x.blocks[k]? = some y) (hs : y.name.size ≤ 60) : Mid w (wr.setCell ⟨gB, k * 2, none⟩ (.string (pfb y.name))) fs fb fo gF i x gB c (k + 1) := by
  obtain ⟨fl, h1, h2⟩ := h.row
  obtain ⟨bl, b1, b2, b3⟩ := h.bl
  have hk : k < x.blocks.length := (List.getElem?_eq_some_iff.1 hy).1
  have hne : ∀ t, (⟨gB, k * 2, none⟩ : Addr) ≠ ⟨gF, t, none⟩ := fun t e => h.ne (congrArg Addr.block e)
  refine ⟨⟨fl, h1.other (fun e => h.ne e.symm) _, h2⟩, fun j z hj hz => ⟨(h.done j z hj hz).1.other h.ne (fun g hg => hg) _, (h.done j z hj hz).2⟩, fun j hj hl => (h.same j hj hl).other h.ne _, (World.cell?_setCell_other _ _ _ _ (hne _)).trans h.nm, (World.cell?_setCell_other _ _ _ _ (hne _)).trans h.ar, (World.cell?_setCell_other _ _ _ _ (hne _)).trans h.rg, (World.cell?_setCell_other _ _ _ _ (hne _)).trans h.bv, ⟨bl.set (k * 2) (.string (pfb y.name)), b1.set (by omega) _, by simpa using b2, fun q z hz => ?_⟩, h.ne, h.short⟩
  obtain ⟨e1, e2, v, e3, e4⟩ := b3 q z hz
  by_cases e : k = q
  · subst e
    rw [hy] at hz
    cases hz
    refine ⟨by rw [List.getElem?_set_self (by omega), if_pos (by omega)], fun _ => hs, v, ?_, e4⟩
    rw [List.getElem?_set_ne (by omega)]; exact e3
  · refine ⟨?_, fun hq => e2 (by omega), v, ?_, e4⟩
    · rw [List.getElem?_set_ne (by omega), e1]
      by_cases hq : q < k
      · rw [if_pos hq, if_pos (by omega)]
      · rw [if_neg hq, if_neg (by omega)]
    · rw [List.getElem?_set_ne (by omega)]; exact e3
theorem Mid.name {w wr : World} {fs : List Fnx} {fb fo gF i gB c k : Nat} {x : Fnx} (h : Mid w wr fs fb fo gF i x gB c k) {y : Blk} (hy : x.blocks[k]? = some y) : wr.cell? ⟨gB, k * 2, none⟩ = some (.string y.name) := by
  obtain ⟨bl, b1, b2, b3⟩ := h.bl
  have := (b3 k y hy).1
  rw [if_neg (by omega)] at this
  exact b1.cell this
theorem Mid.free {w wr : World} {fs : List Fnx} {fb fo gF i gB c k : Nat} {x : Fnx} (h : Mid w wr fs fb fo gF i x gB c k) (o : Nat) : wr.frozen? ⟨gB, o, none⟩ = false := by
  obtain ⟨bl, b1, _⟩ := h.bl
  exact b1.frozen o
theorem Mid.fin {w wr : World} {fs : List Fnx} {fb fo gF i gB c : Nat} {x : Fnx} (h : Mid w wr fs fb fo gF i x gB c x.blocks.length) (hx : fs[i]? = some x) : Named w wr fs fb fo gF (fun _ => True) (i + 1) := by
  obtain ⟨bl, b1, b2, b3⟩ := h.bl
  refine ⟨h.row, fun j y hj hy => ?_, fun j hj hl => h.same j (by omega) hl⟩
  by_cases e : j = i
  · subst e
    rw [hx] at hy
    cases hy
    refine ⟨⟨h.nm, h.ar, h.rg, ⟨gB, c, bl, h.bv, b1, h.ne, trivial, b3⟩, h.short⟩, fun b hb => ?_⟩
    obtain ⟨q, hq⟩ := List.getElem?_of_mem hb
    exact (b3 q b hq).2.1 (List.getElem?_eq_some_iff.1 hq).1
  · obtain ⟨h1, h2⟩ := h.done j y (by omega) hy
    exact ⟨h1.imp fun _ _ _ => trivial, h2⟩
/-- Its name, then its blocks: the middle begins. -/
theorem Named.mid {w wr : World} {fs : List Fnx} {fb fo gF i gB c : Nat} {x : Fnx} {bl : List Value} (h : Named w wr fs fb fo gF (fun _ => True) i) (hx : fs[i]? = some x) (hF : FnAt w fb (fo + i * 4) x) (hs : x.name.size ≤ 60) {W : World} (hb : Below wr.heap.size (wr.setCell ⟨gF, i * 4, none⟩ (.string (sfy x.name))) W) (hg : wr.heap.size ≤ gB) (hv : VRow W gB 46 bl) (hl : bl.length = x.blocks.length * 2) (hc : BlkCells w x bl 0) :
    Mid w (W.setCell ⟨gF, i * 4 + 3, none⟩ (.slice (some ⟨gB, 0, none⟩) x.blocks.length c)) fs fb fo gF i x gB c 0 := by
  obtain ⟨fl, h1, h2⟩ := h.row
  have hi : i < fs.length := (List.getElem?_eq_some_iff.1 hx).1
  have hgl := h1.lt
  have hne : gB ≠ gF := by omega
  have hv1 := (h1.set (k := i * 4) (by omega) (.string (sfy x.name))).keep hb (g := gF) hgl
  have hs4 : ∀ t, t < 4 → wr.cell? ⟨gF, i * 4 + t, none⟩ = w.cell? ⟨fb, fo + i * 4 + t, none⟩ := h.same i (Nat.le_refl _) hi
  have hsz : (wr.setCell ⟨gF, i * 4, none⟩ (.string (sfy x.name))).heap.size = wr.heap.size := by simp [World.setCell]
  have keepc : ∀ o : Nat, W.cell? ⟨gF, o, none⟩ = (wr.setCell ⟨gF, i * 4, none⟩ (.string (sfy x.name))).cell? ⟨gF, o, none⟩ := fun o => hb.cell (p := ⟨gF, o, none⟩) hgl
  have hne2 : ∀ o o' : Nat, o ≠ o' → (⟨gF, o, none⟩ : Addr) ≠ ⟨gF, o', none⟩ := fun o o' ho e => ho (congrArg Addr.off e)
  refine ⟨⟨_, hv1.set (k := i * 4 + 3) (by simp; omega) _, by simpa using h2⟩, fun j y hj hy => ?_, fun j hj hl => ?_, ?_, ?_, ?_, ?_, ⟨bl, hv.other hne _, hl, hc⟩, hne, hs⟩
  · obtain ⟨d1, d2⟩ := h.done j y hj hy
    refine ⟨?_, d2⟩
    have a1 := d1.imp (N' := fun g => g ≠ gB) (fun g hlt _ => by omega)
    have a2 := a1.far (o := i * 4) (.inr (by omega)) (.string (sfy x.name))
    rw [← hsz] at hb
    exact (a2.keep hb).far (.inr (by omega)) _
  · have a1 := (h.same j (by omega) hl).far (o := i * 4) (.inl (by omega)) (.string (sfy x.name))
    rw [← hsz] at hb
    exact (a1.keep (by rw [hsz]; exact hgl) hb).far (.inl (by omega)) _
  · rw [World.cell?_setCell_other _ _ _ _ (hne2 _ _ (by omega)), keepc]
    exact World.cell?_setCell_same _ _ _ ((hs4 0 (by omega)).trans hF.c0)
  · rw [World.cell?_setCell_other _ _ _ _ (hne2 _ _ (by omega)), keepc, World.cell?_setCell_other _ _ _ _ (hne2 _ _ (by omega))]
    exact (hs4 1 (by omega)).trans hF.c1
  · rw [World.cell?_setCell_other _ _ _ _ (hne2 _ _ (by omega)), keepc, World.cell?_setCell_other _ _ _ _ (hne2 _ _ (by omega))]
    exact (hs4 2 (by omega)).trans hF.c2
  · obtain ⟨bv, h3, _⟩ := hF.c3
    refine World.cell?_setCell_same _ _ _ (u := bv) ?_
    rw [keepc, World.cell?_setCell_other _ _ _ _ (hne2 _ _ (by omega))]
    exact (hs4 3 (by omega)).trans h3
/-- All done: the copy is read as the functions with other names. -/
theorem Named.fns {w wr : World} {fs : List Fnx} {fb fo gF cF : Nat} {N : Nat → Prop} (h : Named w wr fs fb fo gF N fs.length) (hfl : fs.length * 56 ≤ 140737488352000) (hb : Below w.heap.size w wr) (hF : ∀ (k : Nat) x, fs[k]? = some x → FnAt w fb (fo + k * 4) x) : FnsIn wr (.slice (some ⟨gF, 0, none⟩) fs.length cF) (fs.map (renFg sfy pfb)) := by
  refine ⟨by simpa using hfl, some ⟨gF, 0, none⟩, cF, gF, 0, by simp, ⟨fun _ => rfl, fun h => by cases h⟩, fun k y hy => ?_⟩
  rw [List.getElem?_map] at hy
  cases hx : fs[k]? with
  | none => rw [hx] at hy; cases hy
  | some x =>
    rw [hx] at hy
    obtain rfl : (renFg sfy pfb) x = y := by simpa using hy
    have hk : k < fs.length := (List.getElem?_eq_some_iff.1 hx).1
    obtain ⟨hd, hs⟩ := h.done k x hk hx
    have hf := hF k x hx
    obtain ⟨g, c, bl, h1, h2, h3, h4, h5⟩ := hd.bl
    obtain ⟨bv, _, hbv⟩ := hf.c3
    have hbl := hbv.1
    rw [Nat.zero_add]
    have hsz : ∀ s : ByteArray, s.size ≤ 60 → (sfy s).size ≤ 140737488352000 := fun s hs => by
      unfold sfy
      rw [ByteArray.size_append]
      have : (⟨#[95, 121]⟩ : ByteArray).size = 2 := rfl
      omega
    have hsz2 : ∀ s : ByteArray, s.size ≤ 60 → (pfb s).size ≤ 140737488352000 := fun s hs => by
      unfold pfb
      rw [ByteArray.size_append]
      have : (⟨#[98, 95]⟩ : ByteArray).size = 2 := rfl
      omega
    refine ⟨hd.nm, hd.ar, hd.rg, ⟨_, h1, ?_⟩, hsz _ hd.short, hf.ba, hf.br⟩
    refine ⟨by simpa [renFg] using hbl, some ⟨g, 0, none⟩, c, g, 0, by simp [renFg], ⟨fun _ => rfl, fun h => by cases h⟩, fun q b hb' => ?_⟩
    have hb'' : (x.blocks.map (renBg pfb))[q]? = some b := hb'
    rw [List.getElem?_map] at hb''
    cases hy : x.blocks[q]? with
    | none => rw [hy] at hb''; cases hb''
    | some z =>
      rw [hy] at hb''
      obtain rfl : (renBg pfb) z = b := by simpa using hb''
      have hq : q < x.blocks.length := (List.getElem?_eq_some_iff.1 hy).1
      obtain ⟨e1, _, v, e2, e3⟩ := h5 q z hy
      rw [if_pos hq] at e1
      rw [Nat.zero_add]
      exact ⟨h2.cell e1, ⟨v, h2.cell e2, InsxIn.keep e3 hb⟩, hsz2 _ (hs z (List.mem_of_getElem? hy))⟩
end Names
end Go.Proofs.Ytdefooailcbnlaa
/- How the copy with other names lies while it is made. No function of the program is walked here. -/
namespace Go.Proofs.Ytdefooailcbnlaa
open Go.RowKit
set_option linter.unusedVariables false
set_option linter.unusedSimpArgs false
/-- A block of a function's blocks, all with their new names. -/
def BlkCells (w : World) (x : Fnx) (bl : List Value) (k : Nat) : Prop := ∀ (q : Nat) y, x.blocks[q]? = some y → (bl[q * 2]? = some (.string (if q < k then sfx y.name else y.name))) ∧ (q < k → y.name.size ≤ 60) ∧ ∃ v, bl[q * 2 + 1]? = some v ∧ InsxIn w v y.ins
/-- Function j has its new name, and blocks of its own; these lie in a block of N. -/
structure Done (w wr : World) (gF : Nat) (N : Nat → Prop) (j : Nat) (x : Fnx) : Prop where
  nm : wr.cell? ⟨gF, j * 4, none⟩ = some (.string (sfx x.name))
  ar : wr.cell? ⟨gF, j * 4 + 1, none⟩ = some (.int .i64 x.args)
  rg : wr.cell? ⟨gF, j * 4 + 2, none⟩ = some (.int .i64 x.regs)
  bl : ∃ g c bl, wr.cell? ⟨gF, j * 4 + 3, none⟩ = some (.slice (some ⟨g, 0, none⟩) x.blocks.length c) ∧ VRow wr g 46 bl ∧ g ≠ gF ∧ N g ∧ BlkCells w x bl x.blocks.length
  short : x.name.size ≤ 60
theorem Done.keep {w wr w' : World} {gF j : Nat} {N : Nat → Prop} {x : Fnx} (h : Done w wr gF N j x) (hb : Below wr.heap.size wr w') : Done w w' gF N j x := by
  have hl := World.block_lt_of_cell? _ _ h.nm
  obtain ⟨g, c, bl, h1, h2, h3, h4, h5⟩ := h.bl
  exact ⟨(hb.cell (p := ⟨gF, j * 4, none⟩) hl).trans h.nm, (hb.cell (p := ⟨gF, j * 4 + 1, none⟩) hl).trans h.ar, (hb.cell (p := ⟨gF, j * 4 + 2, none⟩) hl).trans h.rg, ⟨g, c, bl, (hb.cell (p := ⟨gF, j * 4 + 3, none⟩) hl).trans h1, h2.below hb, h3, h4, h5⟩, h.short⟩
theorem Done.imp {w wr : World} {gF j : Nat} {N N' : Nat → Prop} {x : Fnx} (h : Done w wr gF N j x) (hi : ∀ g, g < wr.heap.size → N g → N' g) : Done w wr gF N' j x := by
  obtain ⟨g, c, bl, h1, h2, h3, h4, h5⟩ := h.bl
  exact ⟨h.nm, h.ar, h.rg, ⟨g, c, bl, h1, h2, h3, hi g h2.lt h4, h5⟩, h.short⟩
/-- A store into the functions' block, at another function's cells. -/
theorem Done.far {w wr : World} {gF j o : Nat} {N : Nat → Prop} {x : Fnx} (h : Done w wr gF N j x) (ho : o < j * 4 ∨ j * 4 + 4 ≤ o) (u : Value) : Done w (wr.setCell ⟨gF, o, none⟩ u) gF N j x := by
  obtain ⟨g, c, bl, h1, h2, h3, h4, h5⟩ := h.bl
  have hne : ∀ t, t < 4 → (⟨gF, o, none⟩ : Addr) ≠ ⟨gF, j * 4 + t, none⟩ := fun t ht e => by
    have := congrArg Addr.off e
    simp only at this; omega
  exact ⟨(World.cell?_setCell_other _ _ _ _ (hne 0 (by omega))).trans h.nm, (World.cell?_setCell_other _ _ _ _ (hne 1 (by omega))).trans h.ar, (World.cell?_setCell_other _ _ _ _ (hne 2 (by omega))).trans h.rg, ⟨g, c, bl, (World.cell?_setCell_other _ _ _ _ (hne 3 (by omega))).trans h1, h2.other h3 _, h3, h4, h5⟩, h.short⟩
/-- A store into another block. -/
theorem Done.other {w wr : World} {gF j : Nat} {N : Nat → Prop} {x : Fnx} (h : Done w wr gF N j x) {p : Addr} (hp : p.block ≠ gF) (hN : ∀ g, N g → g ≠ p.block) (u : Value) : Done w (wr.setCell p u) gF N j x := by
  obtain ⟨g, c, bl, h1, h2, h3, h4, h5⟩ := h.bl
  have hne : ∀ t, p ≠ (⟨gF, t, none⟩ : Addr) := fun t e => hp (congrArg Addr.block e)
  exact ⟨(World.cell?_setCell_other _ _ _ _ (hne _)).trans h.nm, (World.cell?_setCell_other _ _ _ _ (hne _)).trans h.ar, (World.cell?_setCell_other _ _ _ _ (hne _)).trans h.rg, ⟨g, c, bl, (World.cell?_setCell_other _ _ _ _ (hne _)).trans h1, h2.other (hN g h4) _, h3, h4, h5⟩, h.short⟩
/-- Function j is as it was. -/
def Same4 (w wr : World) (fb fo gF j : Nat) : Prop := ∀ t, t < 4 → wr.cell? ⟨gF, j * 4 + t, none⟩ = w.cell? ⟨fb, fo + j * 4 + t, none⟩
theorem Same4.keep {w wr w' : World} {fb fo gF j : Nat} (h : Same4 w wr fb fo gF j) (hg : gF < wr.heap.size) (hb : Below wr.heap.size wr w') : Same4 w w' fb fo gF j := fun t ht => (hb.cell (p := ⟨gF, j * 4 + t, none⟩) hg).trans (h t ht)
theorem Same4.far {w wr : World} {fb fo gF j o : Nat} (h : Same4 w wr fb fo gF j) (ho : o < j * 4 ∨ j * 4 + 4 ≤ o) (u : Value) : Same4 w (wr.setCell ⟨gF, o, none⟩ u) fb fo gF j := fun t ht =>
  (World.cell?_setCell_other _ _ _ _ (fun e => by have := congrArg Addr.off e; simp only at this; omega)).trans (h t ht)
theorem Same4.other {w wr : World} {fb fo gF j : Nat} (h : Same4 w wr fb fo gF j) {p : Addr} (hp : p.block ≠ gF) (u : Value) : Same4 w (wr.setCell p u) fb fo gF j := fun t ht =>
  (World.cell?_setCell_other _ _ _ _ (fun e => hp (congrArg Addr.block e))).trans (h t ht)
/-- The copy, the first i functions done. -/
structure Named (w wr : World) (fs : List Fnx) (fb fo gF : Nat) (N : Nat → Prop) (i : Nat) : Prop where
  row : ∃ fl, VRow wr gF 41 fl ∧ fl.length = fs.length * 4
  done : ∀ j x, j < i → fs[j]? = some x → Done w wr gF N j x ∧ ∀ b ∈ x.blocks, b.name.size ≤ 60
  same : ∀ j, i ≤ j → j < fs.length → Same4 w wr fb fo gF j
theorem Named.keep {w wr w' : World} {fs : List Fnx} {fb fo gF i : Nat} {N : Nat → Prop} (h : Named w wr fs fb fo gF N i) (hb : Below wr.heap.size wr w') : Named w w' fs fb fo gF N i := by
  obtain ⟨fl, h1, h2⟩ := h.row
  exact ⟨⟨fl, h1.below hb, h2⟩, fun j x hj hx => ⟨(h.done j x hj hx).1.keep hb, (h.done j x hj hx).2⟩, fun j hj hl => (h.same j hj hl).keep h1.lt hb⟩
theorem Named.imp {w wr : World} {fs : List Fnx} {fb fo gF i : Nat} {N N' : Nat → Prop} (h : Named w wr fs fb fo gF N i) (hi : ∀ g, g < wr.heap.size → N g → N' g) : Named w wr fs fb fo gF N' i :=
  ⟨h.row, fun j x hj hx => ⟨(h.done j x hj hx).1.imp hi, (h.done j x hj hx).2⟩, h.same⟩
/-- In the middle of function i: its name is new, its blocks are copied into block gB, the first k of them with new names. -/
structure Mid (w wr : World) (fs : List Fnx) (fb fo gF i : Nat) (x : Fnx) (gB c k : Nat) : Prop where
  row : ∃ fl, VRow wr gF 41 fl ∧ fl.length = fs.length * 4
  done : ∀ j y, j < i → fs[j]? = some y → Done w wr gF (fun g => g ≠ gB) j y ∧ ∀ b ∈ y.blocks, b.name.size ≤ 60
  same : ∀ j, i < j → j < fs.length → Same4 w wr fb fo gF j
  nm : wr.cell? ⟨gF, i * 4, none⟩ = some (.string (sfx x.name))
  ar : wr.cell? ⟨gF, i * 4 + 1, none⟩ = some (.int .i64 x.args)
  rg : wr.cell? ⟨gF, i * 4 + 2, none⟩ = some (.int .i64 x.regs)
  bv : wr.cell? ⟨gF, i * 4 + 3, none⟩ = some (.slice (some ⟨gB, 0, none⟩) x.blocks.length c)
  bl : ∃ bl, VRow wr gB 46 bl ∧ bl.length = x.blocks.length * 2 ∧ BlkCells w x bl k
  ne : gB ≠ gF
  short : x.name.size ≤ 60
theorem Mid.keep {w wr w' : World} {fs : List Fnx} {fb fo gF i gB c k : Nat} {x : Fnx} (h : Mid w wr fs fb fo gF i x gB c k) (hb : Below wr.heap.size wr w') : Mid w w' fs fb fo gF i x gB c k := by
  obtain ⟨fl, h1, h2⟩ := h.row
  obtain ⟨bl, b1, b2, b3⟩ := h.bl
  have hl := h1.lt
  exact ⟨⟨fl, h1.below hb, h2⟩, fun j y hj hy => ⟨(h.done j y hj hy).1.keep hb, (h.done j y hj hy).2⟩, fun j hj hl' => (h.same j hj hl').keep hl hb, (hb.cell (p := ⟨gF, i * 4, none⟩) hl).trans h.nm, (hb.cell (p := ⟨gF, i * 4 + 1, none⟩) hl).trans h.ar, (hb.cell (p := ⟨gF, i * 4 + 2, none⟩) hl).trans h.rg, (hb.cell (p := ⟨gF, i * 4 + 3, none⟩) hl).trans h.bv, ⟨bl, b1.below hb, b2, b3⟩, h.ne, h.short⟩
/-- One block's name. -/
theorem Mid.step {w wr : World} {fs : List Fnx} {fb fo gF i gB c k : Nat} {x : Fnx} (h : Mid w wr fs fb fo gF i x gB c k) {y : Blk} (hy : x.blocks[k]? = some y) (hs : y.name.size ≤ 60) : Mid w (wr.setCell ⟨gB, k * 2, none⟩ (.string (sfx y.name))) fs fb fo gF i x gB c (k + 1) := by
  obtain ⟨fl, h1, h2⟩ := h.row
  obtain ⟨bl, b1, b2, b3⟩ := h.bl
  have hk : k < x.blocks.length := (List.getElem?_eq_some_iff.1 hy).1
  have hne : ∀ t, (⟨gB, k * 2, none⟩ : Addr) ≠ ⟨gF, t, none⟩ := fun t e => h.ne (congrArg Addr.block e)
  refine ⟨⟨fl, h1.other (fun e => h.ne e.symm) _, h2⟩, fun j z hj hz => ⟨(h.done j z hj hz).1.other h.ne (fun g hg => hg) _, (h.done j z hj hz).2⟩, fun j hj hl => (h.same j hj hl).other h.ne _, (World.cell?_setCell_other _ _ _ _ (hne _)).trans h.nm, (World.cell?_setCell_other _ _ _ _ (hne _)).trans h.ar, (World.cell?_setCell_other _ _ _ _ (hne _)).trans h.rg, (World.cell?_setCell_other _ _ _ _ (hne _)).trans h.bv, ⟨bl.set (k * 2) (.string (sfx y.name)), b1.set (by omega) _, by simpa using b2, fun q z hz => ?_⟩, h.ne, h.short⟩
  obtain ⟨e1, e2, v, e3, e4⟩ := b3 q z hz
  by_cases e : k = q
  · subst e
    rw [hy] at hz
    cases hz
    refine ⟨by rw [List.getElem?_set_self (by omega), if_pos (by omega)], fun _ => hs, v, ?_, e4⟩
    rw [List.getElem?_set_ne (by omega)]; exact e3
  · refine ⟨?_, fun hq => e2 (by omega), v, ?_, e4⟩
    · rw [List.getElem?_set_ne (by omega), e1]
      by_cases hq : q < k
      · rw [if_pos hq, if_pos (by omega)]
      · rw [if_neg hq, if_neg (by omega)]
    · rw [List.getElem?_set_ne (by omega)]; exact e3
theorem Mid.name {w wr : World} {fs : List Fnx} {fb fo gF i gB c k : Nat} {x : Fnx} (h : Mid w wr fs fb fo gF i x gB c k) {y : Blk} (hy : x.blocks[k]? = some y) : wr.cell? ⟨gB, k * 2, none⟩ = some (.string y.name) := by
  obtain ⟨bl, b1, b2, b3⟩ := h.bl
  have := (b3 k y hy).1
  rw [if_neg (by omega)] at this
  exact b1.cell this
theorem Mid.free {w wr : World} {fs : List Fnx} {fb fo gF i gB c k : Nat} {x : Fnx} (h : Mid w wr fs fb fo gF i x gB c k) (o : Nat) : wr.frozen? ⟨gB, o, none⟩ = false := by
  obtain ⟨bl, b1, _⟩ := h.bl
  exact b1.frozen o
theorem Mid.fin {w wr : World} {fs : List Fnx} {fb fo gF i gB c : Nat} {x : Fnx} (h : Mid w wr fs fb fo gF i x gB c x.blocks.length) (hx : fs[i]? = some x) : Named w wr fs fb fo gF (fun _ => True) (i + 1) := by
  obtain ⟨bl, b1, b2, b3⟩ := h.bl
  refine ⟨h.row, fun j y hj hy => ?_, fun j hj hl => h.same j (by omega) hl⟩
  by_cases e : j = i
  · subst e
    rw [hx] at hy
    cases hy
    refine ⟨⟨h.nm, h.ar, h.rg, ⟨gB, c, bl, h.bv, b1, h.ne, trivial, b3⟩, h.short⟩, fun b hb => ?_⟩
    obtain ⟨q, hq⟩ := List.getElem?_of_mem hb
    exact (b3 q b hq).2.1 (List.getElem?_eq_some_iff.1 hq).1
  · obtain ⟨h1, h2⟩ := h.done j y (by omega) hy
    exact ⟨h1.imp fun _ _ _ => trivial, h2⟩
/-- Its name, then its blocks: the middle begins. -/
theorem Named.mid {w wr : World} {fs : List Fnx} {fb fo gF i gB c : Nat} {x : Fnx} {bl : List Value} (h : Named w wr fs fb fo gF (fun _ => True) i) (hx : fs[i]? = some x) (hF : FnAt w fb (fo + i * 4) x) (hs : x.name.size ≤ 60) {W : World} (hb : Below wr.heap.size (wr.setCell ⟨gF, i * 4, none⟩ (.string (sfx x.name))) W) (hg : wr.heap.size ≤ gB) (hv : VRow W gB 46 bl) (hl : bl.length = x.blocks.length * 2) (hc : BlkCells w x bl 0) :
    Mid w (W.setCell ⟨gF, i * 4 + 3, none⟩ (.slice (some ⟨gB, 0, none⟩) x.blocks.length c)) fs fb fo gF i x gB c 0 := by
  obtain ⟨fl, h1, h2⟩ := h.row
  have hi : i < fs.length := (List.getElem?_eq_some_iff.1 hx).1
  have hgl := h1.lt
  have hne : gB ≠ gF := by omega
  have hv1 := (h1.set (k := i * 4) (by omega) (.string (sfx x.name))).keep hb (g := gF) hgl
  have hs4 : ∀ t, t < 4 → wr.cell? ⟨gF, i * 4 + t, none⟩ = w.cell? ⟨fb, fo + i * 4 + t, none⟩ := h.same i (Nat.le_refl _) hi
  have hsz : (wr.setCell ⟨gF, i * 4, none⟩ (.string (sfx x.name))).heap.size = wr.heap.size := by simp [World.setCell]
  have keepc : ∀ o : Nat, W.cell? ⟨gF, o, none⟩ = (wr.setCell ⟨gF, i * 4, none⟩ (.string (sfx x.name))).cell? ⟨gF, o, none⟩ := fun o => hb.cell (p := ⟨gF, o, none⟩) hgl
  have hne2 : ∀ o o' : Nat, o ≠ o' → (⟨gF, o, none⟩ : Addr) ≠ ⟨gF, o', none⟩ := fun o o' ho e => ho (congrArg Addr.off e)
  refine ⟨⟨_, hv1.set (k := i * 4 + 3) (by simp; omega) _, by simpa using h2⟩, fun j y hj hy => ?_, fun j hj hl => ?_, ?_, ?_, ?_, ?_, ⟨bl, hv.other hne _, hl, hc⟩, hne, hs⟩
  · obtain ⟨d1, d2⟩ := h.done j y hj hy
    refine ⟨?_, d2⟩
    have a1 := d1.imp (N' := fun g => g ≠ gB) (fun g hlt _ => by omega)
    have a2 := a1.far (o := i * 4) (.inr (by omega)) (.string (sfx x.name))
    rw [← hsz] at hb
    exact (a2.keep hb).far (.inr (by omega)) _
  · have a1 := (h.same j (by omega) hl).far (o := i * 4) (.inl (by omega)) (.string (sfx x.name))
    rw [← hsz] at hb
    exact (a1.keep (by rw [hsz]; exact hgl) hb).far (.inl (by omega)) _
  · rw [World.cell?_setCell_other _ _ _ _ (hne2 _ _ (by omega)), keepc]
    exact World.cell?_setCell_same _ _ _ ((hs4 0 (by omega)).trans hF.c0)
  · rw [World.cell?_setCell_other _ _ _ _ (hne2 _ _ (by omega)), keepc, World.cell?_setCell_other _ _ _ _ (hne2 _ _ (by omega))]
    exact (hs4 1 (by omega)).trans hF.c1
  · rw [World.cell?_setCell_other _ _ _ _ (hne2 _ _ (by omega)), keepc, World.cell?_setCell_other _ _ _ _ (hne2 _ _ (by omega))]
    exact (hs4 2 (by omega)).trans hF.c2
  · obtain ⟨bv, h3, _⟩ := hF.c3
    refine World.cell?_setCell_same _ _ _ (u := bv) ?_
    rw [keepc, World.cell?_setCell_other _ _ _ _ (hne2 _ _ (by omega))]
    exact (hs4 3 (by omega)).trans h3
/-- All done: the copy is read as the functions with other names. -/
theorem Named.fns {w wr : World} {fs : List Fnx} {fb fo gF cF : Nat} {N : Nat → Prop} (h : Named w wr fs fb fo gF N fs.length) (hfl : fs.length * 56 ≤ 140737488352000) (hb : Below w.heap.size w wr) (hF : ∀ (k : Nat) x, fs[k]? = some x → FnAt w fb (fo + k * 4) x) : FnsIn wr (.slice (some ⟨gF, 0, none⟩) fs.length cF) (fs.map renF) := by
  refine ⟨by simpa using hfl, some ⟨gF, 0, none⟩, cF, gF, 0, by simp, ⟨fun _ => rfl, fun h => by cases h⟩, fun k y hy => ?_⟩
  rw [List.getElem?_map] at hy
  cases hx : fs[k]? with
  | none => rw [hx] at hy; cases hy
  | some x =>
    rw [hx] at hy
    obtain rfl : renF x = y := by simpa using hy
    have hk : k < fs.length := (List.getElem?_eq_some_iff.1 hx).1
    obtain ⟨hd, hs⟩ := h.done k x hk hx
    have hf := hF k x hx
    obtain ⟨g, c, bl, h1, h2, h3, h4, h5⟩ := hd.bl
    obtain ⟨bv, _, hbv⟩ := hf.c3
    have hbl := hbv.1
    rw [Nat.zero_add]
    have hsz : ∀ s : ByteArray, s.size ≤ 60 → (sfx s).size ≤ 140737488352000 := fun s hs => by
      unfold sfx
      rw [ByteArray.size_append]
      have : (⟨#[95, 120]⟩ : ByteArray).size = 2 := rfl
      omega
    refine ⟨hd.nm, hd.ar, hd.rg, ⟨_, h1, ?_⟩, hsz _ hd.short, hf.ba, hf.br⟩
    refine ⟨by simpa [renF] using hbl, some ⟨g, 0, none⟩, c, g, 0, by simp [renF], ⟨fun _ => rfl, fun h => by cases h⟩, fun q b hb' => ?_⟩
    have hb'' : (x.blocks.map renB)[q]? = some b := hb'
    rw [List.getElem?_map] at hb''
    cases hy : x.blocks[q]? with
    | none => rw [hy] at hb''; cases hb''
    | some z =>
      rw [hy] at hb''
      obtain rfl : renB z = b := by simpa using hb''
      have hq : q < x.blocks.length := (List.getElem?_eq_some_iff.1 hy).1
      obtain ⟨e1, _, v, e2, e3⟩ := h5 q z hy
      rw [if_pos hq] at e1
      rw [Nat.zero_add]
      exact ⟨h2.cell e1, ⟨v, h2.cell e2, InsxIn.keep e3 hb⟩, hsz _ (hs z (List.mem_of_getElem? hy))⟩
end Go.Proofs.Ytdefooailcbnlaa
/- An instruction more, that writes a register of its own, at the beginning of a block: the program may be, and runs as it did. Plain; no function of the program is walked here. -/
namespace Go.Proofs.Ytdefooailcbnlaa
open Go.RowKit
set_option linter.unusedVariables false
set_option linter.unusedSimpArgs false
def mIns (d c : Int) : Insx := ⟨0, d, 0, 0, c, 0, [], 0, 0⟩
def mddB (b : Blk) (d c : Int) : Blk := ⟨b.name, mIns d c :: b.ins⟩
def mddF (x : Fnx) (k : Nat) (b : Blk) (d c : Int) : Fnx := ⟨x.name, x.args, x.regs + 1, x.blocks.set k (mddB b d c)⟩
section
variable {bs : List Blk} {k : Nat} {b : Blk} {d c : Int}
theorem madd_at (hb : bs[k]? = some b) (i : Nat) : insAt (bs.set k (mddB b d c)) i = if i = k then mIns d c :: insAt bs k else insAt bs i := by
  have hk : k < bs.length := (List.getElem?_eq_some_iff.1 hb).1
  unfold insAt
  by_cases e : k = i
  · subst e
    rw [List.getElem?_set_self hk, if_pos rfl, hb]; rfl
  · rw [List.getElem?_set_ne e, if_neg (fun h => e h.symm)]
theorem madd_goes (hb : bs[k]? = some b) (hl : 0 < b.ins.length) (i : Nat) : goesOf (bs.set k (mddB b d c)) i = goesOf bs i := by
  unfold goesOf
  rw [madd_at hb]
  split
  · rename_i e
    subst e
    have hi : insAt bs i = b.ins := by unfold insAt; rw [hb]; rfl
    rw [hi]
    obtain ⟨m, hm⟩ : ∃ m, b.ins.length = m + 1 := ⟨b.ins.length - 1, by omega⟩
    simp [hm]
  · rfl
theorem madd_lack (hb : bs[k]? = some b) (hl : 0 < b.ins.length) {A : Int} {r i : Nat} (h : Lack (bs.set k (mddB b d c)) A r i) : Lack bs A r i := by
  induction h with
  | start ha => exact .start ha
  | next i j _ hw hj ih =>
    rw [madd_goes hb hl] at hj
    refine .next i j ih ?_ hj
    rw [madd_at hb] at hw
    split at hw
    · rename_i e
      subst e
      rw [wrB_cons] at hw
      exact ((Bool.or_eq_false_iff).1 hw).2
    · exact hw
theorem madd_great (hb : bs[k]? = some b) (M : Int) (h0 : 0 ≤ M) (hg : greatestS bs ≤ M) (hd : min d 4096 + 1 ≤ M) : (greatestS bs ≤ greatestS (bs.set k (mddB b d c)) ∧ min d 4096 + 1 ≤ greatestS (bs.set k (mddB b d c))) ∧ greatestS (bs.set k (mddB b d c)) ≤ M := by
  have ub : ∀ (l : List Int) (n : Int), n ≤ M → (∀ r ∈ l, min r 4096 + 1 ≤ M) → greatN l n ≤ M := by
    intro l
    induction l with
    | nil => intro n hn _; exact hn
    | cons r l ih => intro n hn h; exact ih _ (by show max n (min r 4096 + 1) ≤ M; have := h r (by simp); omega) (fun q hq => h q (by simp [hq]))
  have ub2 : ∀ (l : List Insx) (n : Int), n ≤ M → (∀ x ∈ l, ∀ r ∈ regsOf x, min r 4096 + 1 ≤ M) → insGreat l n ≤ M := by
    intro l
    induction l with
    | nil => intro n hn _; exact hn
    | cons x l ih => intro n hn h; exact ih _ (ub _ _ hn (h x (by simp))) (fun q hq => h q (by simp [hq]))
  have ub3 : ∀ (l : List Blk) (n : Int), n ≤ M → (∀ b ∈ l, ∀ x ∈ b.ins, ∀ r ∈ regsOf x, min r 4096 + 1 ≤ M) → l.foldl (fun n b => insGreat b.ins n) n ≤ M := by
    intro l
    induction l with
    | nil => intro n hn _; exact hn
    | cons x l ih => intro n hn h; exact ih _ (ub2 _ _ hn (h x (by simp))) (fun q hq => h q (by simp [hq]))
  have mono : ∀ (l : List Int) (n m : Int), n ≤ m → greatN l n ≤ greatN l m := by
    intro l
    induction l with
    | nil => intro n m h; exact h
    | cons r l ih => intro n m h; exact ih _ _ (by show max n (min r 4096 + 1) ≤ max m (min r 4096 + 1); omega)
  have mono2 : ∀ (l : List Insx) (n m : Int), n ≤ m → insGreat l n ≤ insGreat l m := by
    intro l
    induction l with
    | nil => intro n m h; exact h
    | cons x l ih => intro n m h; exact ih _ _ (mono _ _ _ h)
  have mono3 : ∀ (l : List Blk) (n m : Int), n ≤ m → l.foldl (fun n b => insGreat b.ins n) n ≤ l.foldl (fun n b => insGreat b.ins n) m := by
    intro l
    induction l with
    | nil => intro n m h; exact h
    | cons x l ih => intro n m h; exact ih _ _ (mono2 _ _ _ h)
  have setm : ∀ (l : List Blk) (j : Nat) (n : Int), l[j]? = some b → l.foldl (fun n b => insGreat b.ins n) n ≤ (l.set j (mddB b d c)).foldl (fun n b => insGreat b.ins n) n := by
    intro l
    induction l with
    | nil => intro j n h; simp at h
    | cons x l ih =>
      intro j n h
      cases j with
      | zero =>
        obtain rfl : x = b := by simpa using h
        simp only [List.set_cons_zero, List.foldl_cons]
        refine mono3 _ _ _ ?_
        show insGreat x.ins n ≤ insGreat x.ins (greatN (regsOf (mIns d c)) n)
        exact mono2 _ _ _ (greatN_le _ _).1
      | succ j =>
        simp only [List.set_cons_succ, List.foldl_cons]
        exact ih j _ (by simpa using h)
  refine ⟨⟨setm bs k 0 hb, (greatest_le' _ 0).2 (mddB b d c) (List.mem_of_getElem? (List.getElem?_set_self (List.getElem?_eq_some_iff.1 hb).1)) (mIns d c) (by simp [mddB]) d (by simp [regsOf, writesB, writesD, readsS, mIns])⟩, ub3 _ _ h0 fun q hc x hx r hr => ?_⟩
  have hall := (greatest_le' bs 0).2
  rcases List.mem_or_eq_of_mem_set hc with h | h
  · exact Int.le_trans (hall q h x hx r hr) hg
  · subst h
    have hx' : x ∈ mIns d c :: b.ins := hx
    rcases List.mem_cons.1 hx' with rfl | h
    · have e : regsOf (mIns d c) = [d] := by simp [regsOf, writesB, writesD, readsS, mIns]
      rw [e] at hr
      simp at hr; subst hr
      exact hd
    · exact Int.le_trans (hall b (List.mem_of_getElem? hb) x h r hr) hg
theorem madd_miss {A R R' : Nat} (hbk : BlksOk R bs) (hbk' : BlksOk R' (bs.set k (mddB b d c))) (hb : bs[k]? = some b) (hl : 0 < b.ins.length) (hm : ∀ i, i < bs.length → missB bs A i = false) (i : Nat) (hi : i < bs.length) : missB (bs.set k (mddB b d c)) A i = false := by
  have hL : ∀ r : Nat, lackF (bs.set k (mddB b d c)) A i r = true → lackF bs A i r = true := by
    intro r h
    unfold lackF at h ⊢
    rw [Int.toNat_natCast] at h ⊢
    have h1 : (lacksL (bs.set k (mddB b d c)) A r)[i]? = some true := by
      cases hq : (lacksL (bs.set k (mddB b d c)) A r)[i]? with
      | none => rw [hq] at h; cases h
      | some x => rw [hq] at h; simp at h; rw [h]
    have h2 := madd_lack hb hl ((lacks_iff hbk'.flow hbk'.some i).1 h1)
    rw [(lacks_iff hbk.flow hbk.some i).2 h2]; rfl
  have h0 := hm i hi
  unfold missB at h0 ⊢
  rw [List.any_eq_false] at h0 ⊢
  intro j hj hmj
  rw [madd_at hb] at hj hmj
  split at hmj
  · rename_i e
    subst e
    rw [if_pos rfl] at hj
    unfold missAt at hmj
    cases j with
    | zero =>
      simp only [List.getElem?_cons_zero] at hmj
      have e : readsS (mIns d c) = [] := by simp [readsS, mIns]
      rw [e] at hmj; simp at hmj
    | succ j =>
      simp only [List.getElem?_cons_succ] at hmj
      have hj' : j < (insAt bs i).length := by have := List.mem_range.1 hj; simp at this; omega
      refine h0 j (List.mem_range.2 hj') ?_
      unfold missAt
      cases hx : (insAt bs i)[j]? with
      | none => rw [hx] at hmj; cases hmj
      | some x =>
        rw [hx] at hmj
        simp only [List.any_eq_true, Bool.and_eq_true, Bool.not_eq_true'] at hmj ⊢
        obtain ⟨r, hr, h1, h2⟩ := hmj
        have hnn := ((hbk.names i x (List.mem_of_getElem? hx)).1 r hr).1
        obtain ⟨rn, rfl⟩ := Int.eq_ofNat_of_zero_le hnn
        refine ⟨rn, hr, hL rn h1, ?_⟩
        unfold wrB at h2 ⊢
        rw [List.take_succ_cons, List.any_cons] at h2
        exact ((Bool.or_eq_false_iff).1 h2).2
  · rename_i e
    rw [if_neg e] at hj
    refine h0 j hj ?_
    unfold missAt at hmj ⊢
    cases hx : (insAt bs i)[j]? with
    | none => rw [hx] at hmj; cases hmj
    | some x =>
      rw [hx] at hmj
      simp only [List.any_eq_true, Bool.and_eq_true, Bool.not_eq_true'] at hmj ⊢
      obtain ⟨r, hr, h1, h2⟩ := hmj
      have hnn := ((hbk.names i x (List.mem_of_getElem? hx)).1 r hr).1
      obtain ⟨rn, rfl⟩ := Int.eq_ofNat_of_zero_le hnn
      exact ⟨rn, hr, hL rn h1, h2⟩
end
theorem more_ok {p : Prg} (h : (checkS p).2.2 = 0) {n k : Nat} {x : Fnx} {b : Blk} {d c : Int} (hx : p.funcs[n]? = some x) (hb : x.blocks[k]? = some b) (hd0 : d = x.regs) (hd : x.regs ≤ 60) : checkS ⟨p.heap, p.threads, p.funcs.set n (mddF x k b d c)⟩ = (0, 0, 0) := by
  obtain ⟨h1, h2, h3, h4⟩ := checkS_may h
  have hnl : n < p.funcs.length := (List.getElem?_eq_some_iff.1 hx).1
  have hkl : k < x.blocks.length := (List.getElem?_eq_some_iff.1 hb).1
  obtain ⟨A, R, hA, hR, hAR, hR4, hbk⟩ := blksOk_of h2 h3 hx
  have hbi := block_ins hb (h3 n x hx k b hb)
  have hargs : ∀ m, argsOf (p.funcs.set n (mddF x k b d c)) m = argsOf p.funcs m := by
    intro m
    unfold argsOf
    by_cases e : n = m
    · subst e; rw [List.getElem?_set_self hnl, hx]; rfl
    · rw [List.getElem?_set_ne e]
  have hins : ∀ nb op d' a b' n' f args l1 l2, insF (p.funcs.set n (mddF x k b d c)) nb op d' a b' n' f args l1 l2 = insF p.funcs nb op d' a b' n' f args l1 l2 := by
    intro nb op d' a b' n' f args l1 l2
    unfold insF
    rw [List.length_set, hargs]
  have hfn : ∀ m, fnNames (p.funcs.set n (mddF x k b d c)) m = fnNames p.funcs m := by
    intro m
    unfold fnNames
    by_cases e : n = m
    · subst e; rw [List.getElem?_set_self hnl, hx]; rfl
    · rw [List.getElem?_set_ne e]
  have hbn : ∀ m, blkNames (x.blocks.set k (mddB b d c)) m = blkNames x.blocks m := by
    intro m
    unfold blkNames
    by_cases e : k = m
    · subst e; rw [List.getElem?_set_self hkl, hb]; rfl
    · rw [List.getElem?_set_ne e]
  have hget : ∀ (m : Nat) y, (p.funcs.set n (mddF x k b d c))[m]? = some y → (m = n ∧ y = mddF x k b d c) ∨ (m ≠ n ∧ p.funcs[m]? = some y) := by
    intro m y hy
    by_cases e : n = m
    · subst e; rw [List.getElem?_set_self hnl] at hy; cases hy; exact .inl ⟨rfl, rfl⟩
    · rw [List.getElem?_set_ne e] at hy; exact .inr ⟨fun h => e h.symm, hy⟩
  have hH := h2 n x hx
  have hheads : HeadsOk (p.funcs.set n (mddF x k b d c)) := by
    intro m y hy
    rcases hget m y hy with ⟨rfl, rfl⟩ | ⟨_, hy'⟩
    · unfold headB at hH ⊢
      simp only [Bool.and_eq_true, Bool.not_eq_true', decide_eq_true_eq] at hH ⊢
      obtain ⟨k1, k2, k3, k4, k5, k6⟩ := hH
      refine ⟨add_twice m (fun i _ => hfn i) k1, k2, k3, ?_, by show x.regs + 1 ≤ 4096; omega, ?_⟩
      · have hgr := madd_great (d := d) (c := c) hb (x.regs + 1) (by omega) (by omega) (by omega)
        show x.regs + 1 = max x.args (greatestS (x.blocks.set k (mddB b d c)))
        omega
      · show 0 < (x.blocks.set k (mddB b d c)).length
        simpa using k6
    · have hm := h2 m y hy'
      unfold headB at hm ⊢
      simp only [Bool.and_eq_true, Bool.not_eq_true', decide_eq_true_eq] at hm ⊢
      exact ⟨add_twice m (fun i _ => hfn i) hm.1, hm.2⟩
  have hblocks : BlocksOk (p.funcs.set n (mddF x k b d c)) := by
    intro m y hy i q hc
    rcases hget m y hy with ⟨rfl, rfl⟩ | ⟨_, hy'⟩
    · have hc' : (x.blocks.set k (mddB b d c))[i]? = some q := hc
      show blockB (p.funcs.set m (mddF x k b d c)) (x.blocks.set k (mddB b d c)) i q = true
      by_cases e : k = i
      · subst e
        rw [List.getElem?_set_self hkl] at hc'
        cases hc'
        have h := h3 m x hx k b hb
        unfold blockB at h ⊢
        simp only [Bool.and_eq_true, Bool.not_eq_true', decide_eq_true_eq] at h ⊢
        obtain ⟨⟨k1, k2⟩, k3⟩ := h
        refine ⟨⟨add_twice k (fun i _ => hbn i) k1, by show 0 < (mIns d c :: b.ins).length; simp⟩, ?_⟩
        rw [List.all_eq_true]
        intro j hj
        show okAt (p.funcs.set m (mddF x k b d c)) (x.blocks.set k (mddB b d c)).length (mIns d c :: b.ins) j = true
        cases j with
        | zero =>
          rw [okAt_some (y := mIns d c) (by simp)]
          have e1 : endsB (mIns d c) = false := by simp [endsB, mIns]
          rw [e1]
          have e2 : decide (0 + 1 = (mIns d c :: b.ins).length) = false := decide_eq_false (by have := hbi.1; show ¬ (0 + 1 = b.ins.length + 1); omega)
          rw [e2]
          simp only [beq_self_eq_true, Bool.true_and]
          unfold insX
          refine decide_eq_true ?_
          rw [hins]
          unfold insF emptyF mIns
          simp only
          refine ⟨by omega, by simp, by omega, by omega, by omega, by simp, by omega, by omega, by omega⟩
        | succ j =>
          have hj' : j < b.ins.length := by have h9 : j + 1 < b.ins.length + 1 := List.mem_range.1 hj; omega
          have hx' := List.getElem?_eq_getElem hj'
          obtain ⟨f1, f2⟩ := hbi.2 j _ hx'
          rw [okAt_some (y := b.ins[j]) (by simp [hx'])]
          rw [f1]
          have e2 : decide (j + 1 + 1 = (mIns d c :: b.ins).length) = decide (j + 1 = b.ins.length) := by simp
          rw [e2]
          simp only [beq_self_eq_true, Bool.true_and]
          unfold insX
          refine decide_eq_true ?_
          rw [hins, List.length_set]
          exact f2
      · rw [List.getElem?_set_ne e] at hc'
        have h := h3 m x hx i q hc'
        unfold blockB at h ⊢
        simp only [Bool.and_eq_true, Bool.not_eq_true', decide_eq_true_eq] at h ⊢
        refine ⟨⟨add_twice i (fun j _ => hbn j) h.1.1, h.1.2⟩, ?_⟩
        rw [← h.2]
        congr 1
        funext j
        unfold okAt insX
        simp only [hins, List.length_set]
    · have h := h3 m y hy' i q hc
      unfold blockB at h ⊢
      simp only [Bool.and_eq_true, Bool.not_eq_true', decide_eq_true_eq] at h ⊢
      refine ⟨h.1, ?_⟩
      rw [← h.2]
      congr 1
      funext j
      unfold okAt insX
      simp only [hins]
  refine checkS_of ?_ hheads hblocks (fun m y hy i hi => ?_)
  · rw [← h1]
    unfold topB
    simp only [List.length_set]
    congr 2
    refine congrArg (fun g => List.any p.threads g) (funext fun t => ?_)
    unfold badT
    rw [List.length_set, hargs]
  · rcases hget m y hy with ⟨rfl, rfl⟩ | ⟨_, hy'⟩
    · obtain ⟨A', R', hA', hR', _, _, hbk'⟩ := blksOk_of hheads hblocks hy
      have hi' : i < x.blocks.length := by
        have : i < (x.blocks.set k (mddB b d c)).length := hi
        simpa using this
      show missB (x.blocks.set k (mddB b d c)) x.args i = false
      rw [hA]
      exact madd_miss hbk hbk' hb hbi.1 (fun j hj => by have := h4 m x hx j hj; rw [hA] at this; exact this) i hi'
    · exact h4 m y hy' i hi
end Go.Proofs.Ytdefooailcbnlaa
/- A program with an instruction more runs as it did, one step behind here and there. Plain; no function of the program is walked here. -/
namespace Go.Proofs.Ytdefooailcbnlaa
open Go.RowKit
set_option linter.unusedVariables false
set_option linter.unusedSimpArgs false
inductive All2 {α β : Type} (R : α → β → Prop) : List α → List β → Prop
  | nil : All2 R [] []
  | cons {a : α} {b : β} {l : List α} {m : List β} : R a b → All2 R l m → All2 R (a :: l) (b :: m)
section
variable {α β : Type} {R : α → β → Prop}
theorem All2.len {l : List α} {m : List β} (h : All2 R l m) : l.length = m.length := by
  induction h with
  | nil => rfl
  | cons _ _ ih => simp [ih]
theorem All2.get {l : List α} {m : List β} (h : All2 R l m) : ∀ (i : Nat) a, l[i]? = some a → ∃ b, m[i]? = some b ∧ R a b := by
  induction h with
  | nil => intro i a h; simp at h
  | cons hr _ ih =>
    intro i a h
    cases i with
    | zero => simp only [List.getElem?_cons_zero, Option.some.injEq] at h; subst h; exact ⟨_, rfl, hr⟩
    | succ i => simp only [List.getElem?_cons_succ] at h ⊢; exact ih i a h
theorem All2.set {l : List α} {m : List β} (h : All2 R l m) {a : α} {b : β} (hr : R a b) : ∀ (i : Nat), All2 R (l.set i a) (m.set i b) := by
  induction h with
  | nil => intro i; exact .nil
  | cons hr' h' ih =>
    intro i
    cases i with
    | zero => exact .cons hr h'
    | succ i => exact .cons hr' (ih i)
theorem All2.append {l l' : List α} {m m' : List β} (h : All2 R l m) (h' : All2 R l' m') : All2 R (l ++ l') (m ++ m') := by
  induction h with
  | nil => exact h'
  | cons hr _ ih => exact .cons hr ih
theorem All2.snoc {l : List α} {m : List β} (h : All2 R l m) {a : α} {b : β} (hr : R a b) : All2 R (l ++ [a]) (m ++ [b]) := h.append (.cons hr .nil)
theorem All2.last {l : List α} {a : α} {m : List β} (h : All2 R (l ++ [a]) m) : ∃ m' b, m = m' ++ [b] ∧ All2 R l m' ∧ R a b := by
  induction l generalizing m with
  | nil =>
    cases h with
    | cons hr h' => cases h'; exact ⟨[], _, rfl, .nil, hr⟩
  | cons x l ih =>
    cases h with
    | cons hr h' =>
      obtain ⟨m', b, rfl, h1, h2⟩ := ih h'
      exact ⟨_ :: m', b, rfl, .cons hr h1, h2⟩
theorem All2.map {γ : Type} {f : γ → α} {g : γ → β} {l : List γ} (h : ∀ x ∈ l, R (f x) (g x)) : All2 R (l.map f) (l.map g) := by
  induction l with
  | nil => exact .nil
  | cons x l ih => exact .cons (h x (by simp)) (ih fun y hy => h y (by simp [hy]))
end
def moreP (p : Prg) (n k : Nat) (x : Fnx) (b : Blk) (c : Int) : Prg := ⟨p.heap, p.threads, p.funcs.set n (mddF x k b x.regs c)⟩
def sh (n k : Nat) (f : Fr) : Nat := if f.f = n ∧ f.b = k then 1 else 0
def RegsR (n : Nat) (f g : Fr) : Prop := if f.f = n then ∃ y, g.regs = f.regs ++ [y] else g.regs = f.regs
structure Beh (n : Nat) (f g : Fr) (i : Nat) : Prop where
  ff : g.f = f.f
  fb : g.b = f.b
  fi : g.i = f.i + i
  rg : RegsR n f g
/-- The frame stands where it stood. -/
def Upf (n k : Nat) (f g : Fr) : Prop := Beh n f g (sh n k f)
/-- The instruction more is still to be run. -/
def Lag (n k : Nat) (f g : Fr) : Prop := (f.f = n ∧ f.b = k ∧ f.i = 0) ∧ Beh n f g 0
def ThrR (n k : Nat) (l m : List Fr) : Prop := (l = [] ∧ m = []) ∨ ∃ up f up' f', l = up ++ [f] ∧ m = up' ++ [f'] ∧ All2 (Upf n k) up up' ∧ (Upf n k f f' ∨ Lag n k f f')
structure Rel (n k : Nat) (s t : Mdl) : Prop where
  heap : t.heap = s.heap
  out : t.out = s.out
  thr : All2 (ThrR n k) s.thr t.thr
  cur : t.cur = s.cur
  ch : t.ch = s.ch
  kind : t.kind = s.kind
  v : t.v = s.v
section
variable {p : Prg} {n k : Nat} {x : Fnx} {b : Blk} {c : Int}
theorem RegsR.at {f g : Fr} (h : RegsR n f g) {r : Int} (hr : 0 ≤ r ∧ r < f.regs.length) : regAt g.regs r = regAt f.regs r := by
  unfold RegsR at h
  unfold regAt
  split at h
  · obtain ⟨y, h⟩ := h
    rw [h, List.getD_eq_getElem?_getD, List.getD_eq_getElem?_getD, List.getElem?_append_left (by omega)]
  · rw [h]
theorem RegsR.wr {f g : Fr} (h : RegsR n f g) {d : Int} (hd : 0 ≤ d ∧ d < f.regs.length) (w : Int) : RegsR n (f.wr d w) (g.wr d w) := by
  unfold RegsR at h ⊢
  show if f.f = n then ∃ y, g.regs.set d.toNat w = f.regs.set d.toNat w ++ [y] else g.regs.set d.toNat w = f.regs.set d.toNat w
  split
  · rename_i e
    rw [if_pos e] at h
    obtain ⟨y, h⟩ := h
    exact ⟨y, by rw [h, List.set_append_left _ _ (by omega)]⟩
  · rename_i e
    rw [if_neg e] at h
    rw [h]
theorem Upf.next {f g : Fr} (h : Upf n k f g) : Upf n k f.next g.next := ⟨h.ff, h.fb, by show g.i + 1 = f.i + 1 + sh n k f; rw [h.fi]; omega, h.rg⟩
theorem Upf.wr {f g : Fr} (h : Upf n k f g) {d : Int} (hd : 0 ≤ d ∧ d < f.regs.length) (w : Int) : Upf n k (f.wr d w) (g.wr d w) := ⟨h.ff, h.fb, h.fi, h.rg.wr hd w⟩
theorem Upf.to {f g : Fr} (h : Upf n k f g) (l : Int) : Upf n k (f.to l) (g.to l) ∨ Lag n k (f.to l) (g.to l) := by
  by_cases e : f.f = n ∧ l.toNat = k
  · exact .inr ⟨⟨e.1, e.2, rfl⟩, ⟨h.ff, rfl, rfl, h.rg⟩⟩
  · refine .inl ⟨h.ff, rfl, ?_, h.rg⟩
    show 0 = 0 + if f.f = n ∧ l.toNat = k then 1 else 0
    rw [if_neg e]
theorem Rel.put {s t : Mdl} (h : Rel n k s t) {l m : List Fr} (hl : ThrR n k l m) : Rel n k (put s l) (put t m) := ⟨h.heap, h.out, by show All2 _ (s.thr.set s.cur l) (t.thr.set t.cur m); rw [h.cur]; exact h.thr.set hl _, h.cur, h.ch, h.kind, h.v⟩
theorem ThrR.of {up up' : List Fr} {f f' : Fr} (h : All2 (Upf n k) up up') (h2 : Upf n k f f' ∨ Lag n k f f') : ThrR n k (up ++ [f]) (up' ++ [f']) := .inr ⟨_, _, _, _, rfl, rfl, h, h2⟩
theorem ThrR.empty {l m : List Fr} (h : ThrR n k l m) : l.isEmpty = m.isEmpty := by
  rcases h with ⟨rfl, rfl⟩ | ⟨up, f, up', f', rfl, rfl, _⟩
  · rfl
  · cases up <;> cases up' <;> rfl
theorem live_rel {l m : List (List Fr)} (h : All2 (ThrR n k) l m) : live m = live l := by
  unfold live
  rw [h.len]
  refine List.filter_congr fun i hi => ?_
  have him : i < l.length := by rw [h.len]; exact List.mem_range.1 hi
  obtain ⟨b', h1, h2⟩ := h.get i _ (List.getElem?_eq_getElem him)
  rw [h1, List.getElem?_eq_getElem him]
  show (!b'.isEmpty) = !(l[i]).isEmpty
  rw [h2.empty]
theorem Rel.choose {s t : Mdl} (h : Rel n k s t) : Rel n k (choose s) (choose t) := by
  refine ⟨h.heap, h.out, h.thr, ?_, ?_, h.kind, h.v⟩
  · show (live t.thr).getD ((t.ch.headD 0).toNat % (live t.thr).length) 0 = (live s.thr).getD ((s.ch.headD 0).toNat % (live s.thr).length) 0
    rw [live_rel h.thr, h.ch]
  · show t.ch.tail = s.ch.tail
    rw [h.ch]
theorem Rel.fault {s t : Mdl} (h : Rel n k s t) (w : Int) : Rel n k (fault s w) (fault t w) := ⟨h.heap, h.out, h.thr, h.cur, h.ch, rfl, rfl⟩
theorem more_fn (hx : p.funcs[n]? = some x) (m : Nat) : (moreP p n k x b c).funcs[m]? = if m = n then some (mddF x k b x.regs c) else p.funcs[m]? := by
  have hn : n < p.funcs.length := (List.getElem?_eq_some_iff.1 hx).1
  show (p.funcs.set n (mddF x k b x.regs c))[m]? = _
  by_cases e : m = n
  · subst e; rw [List.getElem?_set_self hn, if_pos rfl]
  · rw [List.getElem?_set_ne (Ne.symm e), if_neg e]
theorem more_ins (hx : p.funcs[n]? = some x) (hb : x.blocks[k]? = some b) {f g : Fr} (h : Upf n k f g) : insOf (moreP p n k x b c) g = insOf p f := by
  have hk : k < x.blocks.length := (List.getElem?_eq_some_iff.1 hb).1
  unfold insOf
  rw [more_fn hx, h.ff, h.fb, h.fi]
  by_cases e : f.f = n
  · rw [if_pos e, e, hx]
    show ((x.blocks.set k (mddB b x.regs c))[f.b]?).bind _ = (x.blocks[f.b]?).bind _
    by_cases e2 : f.b = k
    · rw [e2, List.getElem?_set_self hk, hb]
      have : sh n k f = 1 := if_pos ⟨e, e2⟩
      rw [this]
      rfl
    · rw [List.getElem?_set_ne (Ne.symm e2)]
      have : sh n k f = 0 := if_neg (fun h => e2 h.2)
      rw [this]
      rfl
  · rw [if_neg e]
    have : sh n k f = 0 := if_neg (fun h => e h.1)
    rw [this]
    rfl
theorem lag_ins (hx : p.funcs[n]? = some x) (hb : x.blocks[k]? = some b) {f g : Fr} (h : Lag n k f g) : insOf (moreP p n k x b c) g = some (mIns x.regs c) := by
  have hk : k < x.blocks.length := (List.getElem?_eq_some_iff.1 hb).1
  obtain ⟨⟨h1, h2, h3⟩, h4⟩ := h
  unfold insOf
  rw [more_fn hx, h4.ff, h4.fb, h4.fi, h1, h2, h3, if_pos rfl]
  show ((x.blocks.set k (mddB b x.regs c))[k]?).bind _ = _
  rw [List.getElem?_set_self hk]
  rfl
theorem more_frame (hx : p.funcs[n]? = some x) (hr : 0 ≤ x.regs) {f : Nat} {a : List Int} (ha : a.length ≤ regsN p f) : Upf n k (frameOf p f a) (frameOf (moreP p n k x b c) f a) ∨ Lag n k (frameOf p f a) (frameOf (moreP p n k x b c) f a) := by
  have hrg : RegsR n (frameOf p f a) (frameOf (moreP p n k x b c) f a) := by
    unfold RegsR
    show if f = n then ∃ y, a ++ List.replicate (regsN (moreP p n k x b c) f - a.length) 0 = (a ++ List.replicate (regsN p f - a.length) 0) ++ [y] else a ++ List.replicate (regsN (moreP p n k x b c) f - a.length) 0 = a ++ List.replicate (regsN p f - a.length) 0
    by_cases e : f = n
    · rw [if_pos e]
      have h1 : regsN (moreP p n k x b c) f = regsN p f + 1 := by
        unfold regsN
        rw [more_fn hx, if_pos e, e, hx]
        show (x.regs + 1).toNat = x.regs.toNat + 1
        omega
      refine ⟨0, ?_⟩
      rw [h1, show regsN p f + 1 - a.length = (regsN p f - a.length) + 1 by omega, List.replicate_succ', List.append_assoc]
    · rw [if_neg e]
      have h1 : regsN (moreP p n k x b c) f = regsN p f := by
        unfold regsN
        rw [more_fn hx, if_neg e]
      rw [h1]
  by_cases e : f = n ∧ 0 = k
  · exact .inr ⟨⟨e.1, e.2, rfl⟩, ⟨rfl, rfl, rfl, hrg⟩⟩
  · refine .inl ⟨rfl, rfl, ?_, hrg⟩
    show 0 = 0 + if f = n ∧ 0 = k then 1 else 0
    rw [if_neg e]
/-- What the return of a call does. -/
theorem ret_rel (hp : Good p) (hx : p.funcs[n]? = some x) (hb : x.blocks[k]? = some b) {s t : Mdl} (h : Rel n k s t) {up up' : List Fr} (hu : All2 (Upf n k) up up') (hok : ∀ g ∈ up, FrOk p g ∧ CallOk p g) (v : Int) :
    Rel n k (retS p s up v) (retS (moreP p n k x b c) t up' v) := by
  unfold retS
  rcases List.eq_nil_or_concat up with rfl | ⟨up0, g, rfl⟩
  · cases hu
    show Rel n k (if s.cur = 0 then { put s [] with kind := 1, v := v } else choose (put s [])) (if t.cur = 0 then { put t [] with kind := 1, v := v } else choose (put t []))
    rw [h.cur]
    have hp' := h.put (l := []) (m := []) (.inl ⟨rfl, rfl⟩)
    split
    · exact ⟨hp'.heap, hp'.out, hp'.thr, hp'.cur, hp'.ch, rfl, rfl⟩
    · exact hp'.choose
  · rw [List.concat_eq_append] at hu hok ⊢
    obtain ⟨up0', g', rfl, h1, h2⟩ := hu.last
    simp only [List.getLast?_concat, List.dropLast_concat]
    obtain ⟨⟨hy, hl, hw⟩, y, hy2, hop⟩ := hok g (by simp)
    rw [more_ins hx hb h2, hy2]
    have hst := stands hp (hok g (by simp)).1 hy2
    have hd := hst.writes (by unfold writesB; rw [hop]; rfl)
    exact h.put (ThrR.of h1 (.inl ((h2.wr hd v).next)))
theorem callF (hp : Good p) {nb : Nat} {op d a b n f : Int} {args : List Int} {l1 l2 : Int} (h : insF p.funcs nb op d a b n f args l1 l2) (h5 : op = 5) : args.length ≤ regsN p f.toNat := by
  obtain ⟨_, _, _, _, _, _, _, hc, _⟩ := h
  obtain ⟨c1, c2, c3⟩ := hc h5
  have hk : f.toNat < p.funcs.length := by omega
  have h1 := List.getElem?_eq_getElem hk
  obtain ⟨a1, a2, a3, a4⟩ := (hp.fn _ (List.getElem_mem hk)).args
  have hab : argsOf p.funcs f.toNat = (p.funcs[f.toNat]).args := by unfold argsOf; rw [h1]; rfl
  have hrn : regsN p f.toNat = (p.funcs[f.toNat]).regs.toNat := by unfold regsN; rw [h1]; rfl
  omega
theorem act_rel (hp : Good p) (hx : p.funcs[n]? = some x) (hb : x.blocks[k]? = some b) {s t : Mdl} (h : Rel n k s t) {up up' : List Fr} {f f' : Fr} {y : Insx} (hat : AtIns p s up f y) (hy0 : 0 ≤ y.op) (hu : All2 (Upf n k) up up') (hf : Upf n k f f') :
    Rel n k (actS p s up f y) (actS (moreP p n k x b c) t up' f' y) := by
  obtain ⟨hthr, hins, hfo, hups, hs⟩ := hat
  obtain ⟨fn, bb, g1, g2, g3, g4, g5, g6, g7⟩ := hs.fn
  have rd := hs.reads
  have wt := hs.writes
  have hra : y.a ∈ readsS y → regAt f'.regs y.a = regAt f.regs y.a := fun hm => hf.rg.at (rd _ hm)
  have hrb : y.b ∈ readsS y → regAt f'.regs y.b = regAt f.regs y.b := fun hm => hf.rg.at (rd _ hm)
  have pu : ∀ g g', Upf n k g g' ∨ Lag n k g g' → Rel n k (put s (up ++ [g])) (put t (up' ++ [g'])) := fun g g' hg => h.put (ThrR.of hu hg)
  unfold actS
  dsimp only
  rw [h.heap]
  by_cases h0 : y.op = 0
  · simp only [if_pos h0]
    exact pu _ _ (.inl (hf.next.wr (wt (by simp [writesB, h0])) _))
  simp only [if_neg h0]
  by_cases h1 : y.op = 1
  · simp only [if_pos h1]
    rw [hra (by simp [readsS, h1]), hrb (by simp [readsS, h1])]
    split
    · exact pu _ _ (.inl (hf.next.wr (wt (by simp [writesB, h1])) _))
    · exact h.fault 1
  simp only [if_neg h1]
  by_cases h2 : y.op = 2
  · simp only [if_pos h2]
    rw [hra (by simp [readsS, h2])]
    exact pu _ _ (.inl (hf.next.wr (wt (by simp [writesB, h2])) _))
  simp only [if_neg h2]
  by_cases h3 : y.op = 3
  · simp only [if_pos h3]
    rw [hra (by simp [readsS, h3])]
    split
    · exact pu _ _ (.inl (hf.next.wr (wt (by simp [writesB, h3])) _))
    · exact h.fault 2
  simp only [if_neg h3]
  by_cases h4 : y.op = 4
  · simp only [if_pos h4]
    rw [hra (by simp [readsS, h4]), hrb (by simp [readsS, h4])]
    split
    · have hh : Rel n k { s with heap := s.heap.set (regAt f.regs y.a).toNat (regAt f.regs y.b) } { t with heap := s.heap.set (regAt f.regs y.a).toNat (regAt f.regs y.b) } := ⟨rfl, h.out, h.thr, h.cur, h.ch, h.kind, h.v⟩
      exact hh.put (ThrR.of hu (.inl hf.next))
    · exact h.fault 2
  simp only [if_neg h4]
  by_cases h5 : y.op = 5
  · simp only [if_pos h5]
    have hargs : y.args.map (regAt f'.regs) = y.args.map (regAt f.regs) := List.map_congr_left fun r hr => hf.rg.at (rd r (by simp [readsS, h5, hr]))
    rw [hargs]
    have hxr : 0 ≤ x.regs := by have := (hp.fn x (List.mem_of_getElem? hx)).args; omega
    have hlen : (y.args.map (regAt f.regs)).length ≤ regsN p y.f.toNat := by
      rw [List.length_map]
      have hcall := callF hp g7 h5
      exact hcall
    have hfr := more_frame (k := k) (b := b) (c := c) hx hxr hlen
    have e1 : ∀ (a a2 : Fr) (l : List Fr), l ++ [a, a2] = (l ++ [a]) ++ [a2] := fun a a2 l => by simp
    rw [e1, e1]
    exact h.put (ThrR.of (hu.snoc hf) hfr)
  simp only [if_neg h5]
  by_cases h6 : y.op = 6
  · simp only [if_pos h6]
    rw [hra (by simp [readsS, h6]), h.out]
    have hh : Rel n k { s with out := s.out ++ [regAt f.regs y.a] } { t with heap := s.heap, out := s.out ++ [regAt f.regs y.a] } := ⟨rfl, rfl, h.thr, h.cur, h.ch, h.kind, h.v⟩
    exact hh.put (ThrR.of hu (.inl hf.next))
  simp only [if_neg h6]
  by_cases h7 : y.op = 7
  · simp only [if_pos h7]
    exact (pu _ _ (.inl hf.next)).choose
  simp only [if_neg h7]
  by_cases h8 : y.op = 8
  · simp only [if_pos h8]
    exact pu _ _ (hf.to _)
  simp only [if_neg h8]
  by_cases h9 : y.op = 9
  · simp only [if_pos h9]
    rw [hra (by simp [readsS, h9])]
    exact pu _ _ (hf.to _)
  simp only [if_neg h9]
  have h10 : y.op = 10 := by
    have := g7
    unfold insF at this
    omega
  rw [hra (by simp [readsS, h10])]
  exact ret_rel hp hx hb h hu hups _
/-- One step: one, or two, of the other program. -/
theorem step_rel (hp : Good p) (hop : ∀ f y, insOf p f = some y → 0 ≤ y.op) (hx : p.funcs[n]? = some x) (hb : x.blocks[k]? = some b) {N : Nat} {s t : Mdl} (hok : Ok p N s) (hk : s.kind = 0) (h : Rel n k s t) : ∃ m, m ≤ 2 ∧ Rel n k (step p s) (run (moreP p n k x b c) m t) := by
  obtain ⟨up, f, y, hat, _, hst⟩ := hok.at' hp hk
  have htk : t.kind = 0 := h.kind.trans hk
  obtain ⟨l', hl', hR⟩ := h.thr.get _ _ hat.thr
  rw [hst]
  rcases hR with ⟨e, _⟩ | ⟨up1, f1, up', f', e, rfl, hu, hf⟩
  · simp at e
  obtain ⟨rfl, e2⟩ := List.append_inj' e rfl
  obtain rfl : f = f1 := by simpa using e2
  have hcur : t.cur = s.cur := h.cur
  rcases hf with hf | hf
  · refine ⟨1, by omega, ?_⟩
    have hstep : step (moreP p n k x b c) t = actS (moreP p n k x b c) t up' f' y := by
      unfold step
      rw [hcur, hl']
      simp only [List.getLast?_concat, List.dropLast_concat, more_ins hx hb hf, hat.ins]
    rw [run_one, if_pos htk, hstep]
    exact act_rel hp hx hb h hat (hop _ _ hat.ins) hu hf
  · refine ⟨2, by omega, ?_⟩
    have hfo := hat.fok
    obtain ⟨⟨e1, e2, e3⟩, hbeh⟩ := hf
    have hrl : (f.regs.length : Int) = x.regs := by
      have h1 := hfo.2.1
      have h2 : regsN p f.f = x.regs.toNat := by unfold regsN; rw [e1, hx]; rfl
      have h3 := (hp.fn x (List.mem_of_getElem? hx)).args
      omega
    obtain ⟨z, hz⟩ : ∃ z, f'.regs = f.regs ++ [z] := by have := hbeh.rg; unfold RegsR at this; rwa [if_pos e1] at this
    have hstep : step (moreP p n k x b c) t = put t (up' ++ [f'.next.wr x.regs c]) := by
      unfold step
      rw [hcur, hl']
      simp only [List.getLast?_concat, List.dropLast_concat, lag_ins hx hb ⟨⟨e1, e2, e3⟩, hbeh⟩]
      rfl
    have hu2 : Upf n k f (f'.next.wr x.regs c) := by
      refine ⟨hbeh.ff, hbeh.fb, ?_, ?_⟩
      · show f'.i + 1 = f.i + sh n k f
        rw [hbeh.fi]
        unfold sh
        rw [if_pos ⟨e1, e2⟩]
      · unfold RegsR
        rw [if_pos e1]
        refine ⟨c, ?_⟩
        show f'.regs.set x.regs.toNat c = _
        rw [hz, List.set_append_right _ _ (by omega), show x.regs.toNat - f.regs.length = 0 by omega]
        rfl
    have hset : s.thr.set s.cur (up ++ [f]) = s.thr := by
      obtain ⟨hk', hv⟩ := List.getElem?_eq_some_iff.1 hat.thr
      rw [← hv, List.set_getElem_self]
    have hR2 : Rel n k s (put t (up' ++ [f'.next.wr x.regs c])) := by
      have h1 := h.put (ThrR.of hu (.inl hu2))
      have : put s (up ++ [f]) = s := by unfold put; rw [hset]
      rwa [this] at h1
    have hstep2 : step (moreP p n k x b c) (put t (up' ++ [f'.next.wr x.regs c])) = actS (moreP p n k x b c) (put t (up' ++ [f'.next.wr x.regs c])) up' (f'.next.wr x.regs c) y := by
      have hl2 : (put t (up' ++ [f'.next.wr x.regs c])).thr[(put t (up' ++ [f'.next.wr x.regs c])).cur]? = some (up' ++ [f'.next.wr x.regs c]) := by
        show (t.thr.set t.cur _)[t.cur]? = _
        rw [List.getElem?_set_self (by rw [hcur]; exact (List.getElem?_eq_some_iff.1 hl').1)]
      unfold step
      rw [hl2]
      simp only [List.getLast?_concat, List.dropLast_concat, more_ins hx hb hu2, hat.ins]
    rw [run_one, if_pos htk, hstep, run_one, if_pos (show (put t (up' ++ [f'.next.wr x.regs c])).kind = 0 from htk), hstep2]
    exact act_rel hp hx hb hR2 hat (hop _ _ hat.ins) hu hu2
theorem run_rel (hp : Good p) (hop : ∀ f y, insOf p f = some y → (0 ≤ y.n ∧ y.n < 4294967296) ∧ 0 ≤ y.op) (hx : p.funcs[n]? = some x) (hb : x.blocks[k]? = some b) : ∀ (F : Nat) {N : Nat} {s t : Mdl}, Ok p N s → Rel n k s t → ∃ m, m ≤ 2 * F ∧ Rel n k (run p F s) (run (moreP p n k x b c) m t)
  | 0, N, s, t, _, h => ⟨0, by omega, h⟩
  | F + 1, N, s, t, hok, h => by
    rw [run_one]
    split
    · rename_i hk
      obtain ⟨m1, h1, h2⟩ := step_rel (c := c) hp (fun f y hy => (hop f y hy).2) hx hb hok hk h
      obtain ⟨m2, h3, h4⟩ := run_rel hp hop hx hb F (mstep_ok hp (fun f y hy => (hop f y hy).1) hok hk) h2
      exact ⟨m1 + m2, by omega, by rw [run_add]; exact h4⟩
    · exact ⟨0, by omega, h⟩
theorem new_rel (hp : Good p) (hx : p.funcs[n]? = some x) (ch : List Int) : Rel n k (newS p ch) (newS (moreP p n k x b c) ch) := by
  refine ⟨rfl, rfl, ?_, rfl, rfl, rfl, rfl⟩
  show All2 _ (p.threads.map fun t => [frameOf p t.toNat []]) (p.threads.map fun t => [frameOf (moreP p n k x b c) t.toNat []])
  refine All2.map (f := fun t : Int => [frameOf p t.toNat []]) (g := fun t : Int => [frameOf (moreP p n k x b c) t.toNat []]) fun t ht => ?_
  have h3 := (hp.fn x (List.mem_of_getElem? hx)).args
  exact .inr ⟨[], _, [], _, rfl, rfl, .nil, more_frame hx (by omega) (by simp)⟩
/-- What a program that stands still comes to. -/
theorem more_run (hp : Good p) (hop : ∀ f y, insOf p f = some y → (0 ≤ y.n ∧ y.n < 4294967296) ∧ 0 ≤ y.op) (hx : p.funcs[n]? = some x) (hb : x.blocks[k]? = some b) {ch : List Int} (hc : Words ch) (F : Nat) (hk : (run p F (newS p ch)).kind ≠ 0) (M : Nat) (hM : 2 * F ≤ M) :
    (run (moreP p n k x b c) M (newS (moreP p n k x b c) ch)).out = (run p F (newS p ch)).out ∧ (run (moreP p n k x b c) M (newS (moreP p n k x b c) ch)).kind = (run p F (newS p ch)).kind ∧ (run (moreP p n k x b c) M (newS (moreP p n k x b c) ch)).v = (run p F (newS p ch)).v ∧ (run (moreP p n k x b c) M (newS (moreP p n k x b c) ch)).heap = (run p F (newS p ch)).heap := by
  obtain ⟨m, h1, h2⟩ := run_rel (c := c) hp hop hx hb F (mnew_ok hp hc) (new_rel hp hx ch)
  have h3 : run (moreP p n k x b c) M (newS (moreP p n k x b c) ch) = run (moreP p n k x b c) m (newS (moreP p n k x b c) ch) := by
    rw [show M = m + (M - m) by omega, run_add]
    exact (run_stop _ _ _ (by rw [h2.kind]; exact hk)).1
  rw [h3]
  exact ⟨h2.out, h2.kind, h2.v, h2.heap⟩
end
end Go.Proofs.Ytdefooailcbnlaa
