/- Walks of the package flat: frameOf, runs, does. -/
import Derived.Test.YtdefooailcbnlaaG27
import Derived.Test.YtdefooailcbnlaaG33
import Derived.Laws.CopyRow
import Derived.Laws.IdiomCopy
import Derived.Deep.OwnRows
namespace Go.Proofs.Ytdefooailcbnlaa
open Go.RowKit
set_option linter.unusedVariables false
set_option linter.unusedSimpArgs false
theorem runs_nil (w : World) : Calls Try.prog 30 #[.pointer none] w fun e w' => e = .returned (.bool false) ∧ w = w' := by
  go_enter Try.func30, Try.ntmps30
  go_wp2_with fail
  go_ret
  exact ⟨rfl, rfl⟩
theorem runs_no (w : World) (m : Nat) (a : Option Addr) (c : Nat) (h : w.cell? ⟨m, 5, none⟩ = some (.slice a 0 c)) : Calls Try.prog 30 #[.pointer (some ⟨m, 0, none⟩)] w fun e w' => e = .returned (.bool false) ∧ w = w' := by
  go_enter Try.func30, Try.ntmps30
  go_wp2_with fail
  go_ret
  exact ⟨rfl, rfl⟩
theorem runs_any (w : World) (p : Prg) (G : Gh) (m : Nat) (s : Mdl) (h : MdlAt w p G m s) (ht : 0 < s.thr.length) : Calls Try.prog 30 #[.pointer (some ⟨m, 0, none⟩)] w fun e w' => e = .returned (.bool (decide (s.kind = 0))) ∧ w = w' := by
  obtain ⟨⟨c3, c4, c5, c6, c7, c8, c9⟩, _, fz⟩ := h.cellsm
  have h0 : (0 : Int) < s.thr.length := by omega
  clear h fz
  by_cases hk : s.kind = 0
  · have e0 : (s.kind == 0) = true := by simpa using hk
    go_enter Try.func30, Try.ntmps30
    go_wp2_with fail
    go_ret
    exact ⟨by rw [decide_eq_true hk]; rfl, rfl⟩
  · have e0 : (s.kind == 0) = false := by simpa using hk
    go_enter Try.func30, Try.ntmps30
    go_wp2_with fail
    go_ret
    exact ⟨by rw [decide_eq_false hk]; rfl, rfl⟩
theorem infofr : (Try.prog.info? 31).map (fun i => (i.zero, i.size, i.bytes)) = some (some (.int .u32 0), 1, 4) := by kernel_rfl
theorem made_u32 (n : Nat) : (Go.madeCells #[Value.int .u32 0] n).toList = u32s (List.replicate n 0) := by
  simp [Go.madeCells, u32s]
  apply List.ext_getElem
  · simp
  · intro i h1 h2
    simp [Nat.mod_one]
theorem words_frame (R : Nat) (l : List Int) (hl : l.length ≤ R) (cur : Array Value) (hc : cur.toList = u32s (List.replicate R 0)) : (cur.toList.take 0 ++ u32s l ++ cur.toList.drop (0 + (u32s l).length)) = u32s (l ++ List.replicate (R - l.length) 0) := by
  rw [hc]
  simp [u32s]
theorem setRow_only (w : World) (g : Nat) (row : Array Value) : Only (fun k => k = g) w (w.setRow g row) :=
  ⟨rfl, rfl, rfl, by simp [World.setRow], fun k hk hne => by simp only [World.setRow, Array.getElem?_modify]; rw [if_neg (fun e => hne e.symm)]⟩
theorem setRow_obj {w : World} {g : Nat} {cur : Array Value} {t : TypeId} {fz : Nat × Nat} (h : w.heap[g]? = some (.cells cur t fz)) (row : Array Value) : (w.setRow g row).heap[g]? = some (.cells row t fz) := by
  simp [World.setRow, Array.getElem?_modify, h]
set_option maxRecDepth 100000 in
set_option maxHeartbeats 2000000 in
/-- A new frame. -/
theorem frameOf_any (w : World) (m : Nat) (fv : Value) (fs : List Fnx) (hm : w.cell? ⟨m, 2, none⟩ = some fv) (hF : FnsIn w fv fs) (f : Nat) (fn : Fnx) (h1 : fs[f]? = some fn) (R : Nat) (hR : fn.regs = R) (hR2 : R ≤ 4096) (av : Value) (l : List Int) (hav : Reads32 w av l) (hl : l.length ≤ R) :
    Calls Try.prog 28 #[.pointer (some ⟨m, 0, none⟩), .int .i64 f, av] w fun e w' => ∃ k, e = .returned (.agg #[.int .i64 f, .int .i64 0, .int .i64 0, .slice (some ⟨k, 0, none⟩) R R]) ∧ w.heap.size ≤ k ∧ RegsAt w' k (l ++ List.replicate (R - l.length) 0) ∧ Below w.heap.size w w' := by
  obtain ⟨_, pf, cf, fb, fo, rfl, ⟨pf1, _⟩, hfn⟩ := hF
  have lf := (List.getElem?_eq_some_iff.1 h1).1
  obtain rfl := pf1 (by omega)
  obtain ⟨d0, d1, d2, d3, _, _, _⟩ := hfn f fn h1
  rw [hR] at d2
  have l1 : (f : Int) < fs.length := by omega
  have mk := fun (W : World) => run_make_row' (P := Try.prog) 26 31 (.int .u32 0) 4 Try.underlying26 infofr rfl .i64 .i64 R (by omega) (by omega) W
  have hml := World.block_lt_of_cell? _ _ hm
  have hfl := World.block_lt_of_cell? _ _ d2
  obtain ⟨ab, ao, pa, ca, rfl, hlm, hap, hac⟩ := hav.shape
  have HA := fhid (And.intro hap hac)
  clear hfn d0 d1 d3 h1 pf1 hap hac hav
  go_enter Try.func28, Try.ntmps28
  go_wp2_with fail
  have hbA : Below w.heap.size w (((w.alloc (.cells #[.int .i64 0, .int .i64 0, .int .i64 0, .slice none 0 0] 78)).alloc (.cells (madeCells #[.int .u32 0] R) 31)).alloc (.cells #[.int .i64 f, .int .i64 0, .int .i64 0, .slice (some ⟨w.heap.size + 1, 0, none⟩) R R] 78)) := (((Below.refl _ _).alloc (Nat.le_refl _) _).alloc (by simp) _).alloc (by simp; omega) _
  have hX := vrow_new ((w.alloc (.cells #[.int .i64 0, .int .i64 0, .int .i64 0, .slice none 0 0] 78)).alloc (.cells (madeCells #[.int .u32 0] R) 31)) #[.int .i64 f, .int .i64 0, .int .i64 0, .slice (some ⟨w.heap.size + 1, 0, none⟩) R R] 78
  have hZ := ((vrow_new w #[.int .i64 0, .int .i64 0, .int .i64 0, .slice none 0 0] 78).alloc (.cells (madeCells #[.int .u32 0] R) 31)).alloc (.cells #[.int .i64 f, .int .i64 0, .int .i64 0, .slice (some ⟨w.heap.size + 1, 0, none⟩) R R] 78)
  have hG : (((w.alloc (.cells #[.int .i64 0, .int .i64 0, .int .i64 0, .slice none 0 0] 78)).alloc (.cells (madeCells #[.int .u32 0] R) 31)).alloc (.cells #[.int .i64 f, .int .i64 0, .int .i64 0, .slice (some ⟨w.heap.size + 1, 0, none⟩) R R] 78)).heap[w.heap.size + 1]? = some (.cells (madeCells #[.int .u32 0] R) 31 (0, 0)) := by
    have := heap_alloc_new (w.alloc (.cells #[.int .i64 0, .int .i64 0, .int .i64 0, .slice none 0 0] 78)) (.cells (madeCells #[.int .u32 0] R) 31)
    rw [World.size_alloc] at this
    exact (Below.heap_alloc _ _ _ (by simp)).trans this
  simp only [World.size_alloc] at hX
  generalize ((w.alloc (.cells #[.int .i64 0, .int .i64 0, .int .i64 0, .slice none 0 0] 78)).alloc (.cells (madeCells #[.int .u32 0] R) 31)).alloc (.cells #[.int .i64 f, .int .i64 0, .int .i64 0, .slice (some ⟨w.heap.size + 1, 0, none⟩) R R] 78) = W at *
  have hcp : ∃ W4 z, (Builtin.copy_ #[26, 26] 3 #[.slice (some ⟨w.heap.size + 1, 0, none⟩) R R, .slice pa l.length ca]).run Try.prog W = .ok (.int .i64 z) W4 ∧ Only (fun k => k = w.heap.size + 1) W W4 ∧ RegsAt W4 (w.heap.size + 1) (l ++ List.replicate (R - l.length) 0) := by
    by_cases h0 : l.length = 0
    · obtain rfl := List.eq_nil_of_length_eq_zero h0
      have := run_copy_none (P := Try.prog) W 26 26 3 31 (some ⟨w.heap.size + 1, 0, none⟩) pa R R 0 ca Try.underlying26 (by kernel_rfl) (by simp)
      refine ⟨W, 0, this, Only.refl _ _, ⟨_, hG, fun k x hx => ?_⟩⟩
      rw [← Array.getElem?_toList, made_u32]
      simpa using hx
    · obtain rfl := HA.out.1 (by omega)
      have hsrc : ∀ (j : Nat) v, (u32s l)[j]? = some v → W.cell? ((⟨ab, ao, none⟩ : Addr).add j) = some v := fun j v hj => by
        have hjl : j < l.length := by
          have := (List.getElem?_eq_some_iff.1 hj).1
          simpa [u32s] using this
        rw [words_at hjl] at hj
        cases hj
        have hc := HA.out.2 j hjl
        have e : (⟨ab, ao, none⟩ : Addr).add j = ⟨ab, ao + j, none⟩ := by unfold Addr.add; split <;> simp [*]
        rw [e]
        exact (hbA.cell (p := ⟨ab, ao + j, none⟩) (World.block_lt_of_cell? _ _ hc)).trans hc
      have hmn : Nat.min l.length R = l.length := Nat.min_eq_left hl
      have := run_copy_row (P := Try.prog) W 26 26 3 31 (w.heap.size + 1) 0 R R ⟨ab, ao, none⟩ l.length ca (madeCells #[.int .u32 0] R) 31 (u32s l) Try.underlying26 (by kernel_rfl) hG (by rw [hmn]; simp [u32s]) hsrc (by rw [size_madeCells]; simp [u32s]; omega) (fun v hv => by obtain ⟨x, _, rfl⟩ := List.mem_map.1 hv; rfl)
      rw [words_frame R l hl _ (made_u32 R)] at this
      refine ⟨_, _, this, setRow_only _ _ _, ⟨_, setRow_obj hG _, fun k x hx => by simpa using hx⟩⟩
  obtain ⟨W4, z, hrun, ho4, hr4⟩ := hcp
  rw [hrun]
  have hX4 := hX.of_block (ho4.block _ hX.lt (by omega))
  have hZ4 := hZ.of_block (ho4.block _ hZ.lt (by omega))
  have hb4 : Below w.heap.size w W4 := hbA.trans (ho4.below hbA.size (fun k hk e => by omega))
  have x0 := hX4.cell (k := 0) (x := .int .i64 f) rfl
  have x1 := hX4.cell (k := 1) (x := .int .i64 0) rfl
  have x2 := hX4.cell (k := 2) (x := .int .i64 0) rfl
  have x3 := hX4.cell (k := 3) (x := .slice (some ⟨w.heap.size + 1, 0, none⟩) R R) rfl
  have z0 := hZ4.cell (k := 0) (x := .int .i64 0) rfl
  have z1 := hZ4.cell (k := 1) (x := .int .i64 0) rfl
  have z2 := hZ4.cell (k := 2) (x := .int .i64 0) rfl
  have z3 := hZ4.cell (k := 3) (x := .slice none 0 0) rfl
  have y0 := hZ4.frozen 0
  have y1 := hZ4.frozen 1
  have y2 := hZ4.frozen 2
  have y3 := hZ4.frozen 3
  have HF := fhid (And.intro hZ4 (And.intro hr4 hb4))
  clear hrun ho4 hr4 hX hZ hX4 hZ4 hbA hG hb4 mk d2 hm
  go_wp2_with fail
  have h9 := (((HF.out.1.set (k := 0) (by simp) (.int .i64 f)).set (k := 1) (by simp) (.int .i64 0)).set (k := 2) (by simp) (.int .i64 0)).set (k := 3) (by simp) (.slice (some ⟨w.heap.size + 1, 0, none⟩) R R)
  simp only [List.set_cons_zero, List.set_cons_succ] at h9
  have o9 : Only (fun k => k = w.heap.size) W4 ((((W4.setCell ⟨w.heap.size, 0, none⟩ (.int .i64 f)).setCell ⟨w.heap.size, 1, none⟩ (.int .i64 0)).setCell ⟨w.heap.size, 2, none⟩ (.int .i64 0)).setCell ⟨w.heap.size, 3, none⟩ (.slice (some ⟨w.heap.size + 1, 0, none⟩) R R)) := ((((Only.refl (fun k => k = w.heap.size) W4).setCell (p := ⟨w.heap.size, 0, none⟩) rfl _).setCell (p := ⟨w.heap.size, 1, none⟩) rfl _).setCell (p := ⟨w.heap.size, 2, none⟩) rfl _).setCell (p := ⟨w.heap.size, 3, none⟩) rfl _
  generalize (((W4.setCell ⟨w.heap.size, 0, none⟩ (.int .i64 f)).setCell ⟨w.heap.size, 1, none⟩ (.int .i64 0)).setCell ⟨w.heap.size, 2, none⟩ (.int .i64 0)).setCell ⟨w.heap.size, 3, none⟩ (.slice (some ⟨w.heap.size + 1, 0, none⟩) R R) = W9 at h9 o9 ⊢
  have r0 := h9.cell (k := 0) rfl
  have r1 := h9.cell (k := 1) rfl
  have r2 := h9.cell (k := 2) rfl
  have r3 := h9.cell (k := 3) rfl
  have hb9 : Below w.heap.size w W9 := HF.out.2.2.trans (o9.below HF.out.2.2.size (fun k hk e => by omega))
  exact bodyPost_ret (v := .agg #[.int .i64 f, .int .i64 0, .int .i64 0, .slice (some ⟨w.heap.size + 1, 0, none⟩) R R]) (by simp [results, Try.results28, go_sem, r0, r1, r2, r3]; try rfl) rfl ⟨w.heap.size + 1, rfl, by omega, HF.out.2.1.of_block (o9.block _ HF.out.2.1.lt (by omega)), hb9⟩
end Go.Proofs.Ytdefooailcbnlaa
