/- The walk of muntinlaw16.head. -/
import Derived.Test.YtdefooailcbnlaaG46
import Derived.Test.YtdefooailcbnlaaG22
namespace Go.Proofs.Ytdefooailcbnlaa
open Go.RowKit Go.Deep
set_option linter.unusedVariables false
set_option linter.unusedSimpArgs false
/-- The cells of an instruction. -/
def insC (x : Insx × Value) : List Value := [.int .u8 x.1.op, .int .i64 x.1.d, .int .i64 x.1.a, .int .i64 x.1.b, .int .u32 x.1.n, .int .i64 x.1.f, x.2, .int .i64 x.1.l1, .int .i64 x.1.l2]
theorem insC_len (x : Insx × Value) : (insC x).length = 9 := rfl
/-- A row of instructions just made. -/
theorem insx_made {w : World} {g : Nat} {T : TypeId} {fz : Nat × Nat} {xs : Array Value} (c : List (Insx × Value)) (h : w.heap[g]? = some (.cells xs T fz)) (hxs : xs.toList = c.flatMap insC) (hx : ∀ y ∈ c, IntsIn w y.2 y.1.args ∧ y.1.bd) (hb : c.length * 88 ≤ 140737488352000) (l : List Insx) (hl : c.map (·.1) = l) (n : Nat) (hn : l.length = n) : InsxIn w (.slice (some ⟨g, 0, none⟩) l.length n) l := by
  subst hl
  refine ⟨by simpa using hb, some ⟨g, 0, none⟩, n, g, 0, rfl, ⟨fun _ => rfl, fun e => by cases e⟩, fun k x hk => ?_⟩
  rw [List.getElem?_map] at hk
  cases hc : c[k]? with
  | none => rw [hc] at hk; cases hk
  | some y =>
    rw [hc] at hk
    obtain rfl : y.1 = x := by simpa using hk
    obtain ⟨h1, h2⟩ := hx y (List.mem_of_getElem? hc)
    have cc : ∀ q u, q < 9 → (insC y)[q]? = some u → w.cell? ⟨g, 0 + k * 9 + q, none⟩ = some u := fun q u hq hu => by
      rw [Nat.zero_add, cell_of_obj h, ← Array.getElem?_toList, hxs, flat_get insC 9 insC_len c k q y hc hq]; exact hu
    exact ⟨cc 0 _ (by omega) rfl, cc 1 _ (by omega) rfl, cc 2 _ (by omega) rfl, cc 3 _ (by omega) rfl, cc 4 _ (by omega) rfl, cc 5 _ (by omega) rfl, ⟨y.2, cc 6 _ (by omega) rfl, h1⟩, cc 7 _ (by omega) rfl, cc 8 _ (by omega) rfl, h2⟩
/-- Two functions: one moved, one new. -/
theorem fns_two {w W : World} {gF gN c : Nat} {T : TypeId} {f1 : Fnx} {nm : ByteArray} {ar rg : Int} {bv : Value} {bl : List Blk} (h1 : FnAt w gF 0 f1) (hb : Below w.heap.size w W) (hv : VRow W gN T (rowCells w gF 0 4 ++ [.string nm, .int .i64 ar, .int .i64 rg, bv])) (hB : BlksIn W bv bl) (hn : nm.size ≤ 140737488352000) (ha : I64 ar) (hr : I64 rg) :
    FnsIn W (.slice (some ⟨gN, 0, none⟩) 2 c) [f1, ⟨nm, ar, rg, bl⟩] := by
  have h1' : ∀ (k : Nat) x, [f1][k]? = some x → FnAt w gF (0 + k * 4) x := fun k x hx => by
    match k, hx with
    | 0, hx => simp at hx; subst hx; simpa using h1
  have hrow := row_moved flat_fn h1' hb (g := gN) (q := 0) (fun j hj => by
    have hj4 : j < 4 := by simpa using hj
    obtain ⟨u, hu, _⟩ := row_cells flat_fn h1' j hj
    rw [hu, Nat.zero_add]
    refine hv.cell ?_
    rw [List.getElem?_append_left (by rw [rowCells_length]; exact hj4), rowCells_get hj4, hu]; rfl)
  have cc : ∀ q u, q < 4 → [Value.string nm, .int .i64 ar, .int .i64 rg, bv][q]? = some u → W.cell? ⟨gN, 4 + q, none⟩ = some u := fun q u hq hu => by
    refine hv.cell ?_
    rw [List.getElem?_append_right (by rw [rowCells_length]; omega), rowCells_length, show 4 + q - 4 = q by omega]; exact hu
  refine ⟨by simp, some ⟨gN, 0, none⟩, c, gN, 0, rfl, ⟨fun _ => rfl, fun e => by cases e⟩, fun k x hx => ?_⟩
  match k, hx with
  | 0, hx => simp at hx; subst hx; exact hrow 0 f1 rfl
  | 1, hx => simp at hx; subst hx; exact ⟨cc 0 _ (by omega) rfl, cc 1 _ (by omega) rfl, cc 2 _ (by omega) rfl, ⟨bv, cc 3 _ (by omega) rfl, hB⟩, hn, ha, hr⟩
theorem infofnc : (Try.prog.info? 41).map (fun i => (i.zero.map fun z => z.cells.size, i.size, i.bytes)) = some (some 4, 4, 56) := by kernel_rfl
theorem hp_alloc (w : World) (o : Obj) (k : Nat) : (w.alloc o).heap[k]? = if k = w.heap.size then some o else w.heap[k]? := by show (w.heap.push o)[k]? = _; rw [Array.getElem?_push]
theorem hp_drew (w : World) : w.drew.heap = w.heap := rfl
theorem reads_lit {W : World} {Y n : Nat} {l : List Int} (hl : l.length ≤ maxLen) (h : ∃ xs T fz, W.heap[Y]? = some (.cells xs T fz) ∧ xs.toList = u32s l) : Reads32 W (.slice (some ⟨Y, 0, none⟩) l.length n) l := by
  obtain ⟨xs, T, fz, h1, h2⟩ := h
  refine ⟨hl, _, _, rfl, fun _ => ⟨Y, 0, rfl, fun k hk => ?_⟩⟩
  rw [Nat.zero_add, cell_of_obj h1, ← Array.getElem?_toList, h2]
  exact words_at hk
theorem head_call {W W0 : World} {p : Prg} {pt : Option Addr} {nt ct : Nat} {pf : Option Addr} {nf cf : Nat} {cv : Value} {ch : List Int} {want : Value} {out heap : List Int} {kind stop : Int} (hp : Int) (hh : p.heap = hp) (he : (checkS p).2.2 = 0) (hr : ((fin16 p ch 100).out, (fin16 p ch 100).kind, (fin16 p ch 100).v, (fin16 p ch 100).heap) = (out, kind, stop, heap)) (hT : IntsIn W (.slice pt nt ct) p.threads) (hF : FnsIn W (.slice pf nf cf) p.funcs) (hc : Reads32 W cv ch) (hcw : Words ch) (hcl : ch.length ≤ 1048576) (hnil : ∀ c n, cv = .slice none n c → c = 0) (hw : OutV W want out kind stop heap) (hb : Below W0.heap.size W0 W) :
    Calls Try.prog 24 #[.agg #[.int .i64 hp, .slice pt nt ct, .slice pf nf cf], cv, want] W fun e w' => e = .returned (.bool true) ∧ Below W0.heap.size W0 w' := by
  obtain ⟨_, _, h1⟩ := hT.shape
  obtain ⟨_, _, h2⟩ := hF.shape
  cases h1; cases h2; subst hh
  simp only [Prod.mk.injEq] at hr
  refine (comes_any W p pt ct pf cf cv ch hT hF hc hcw hcl hnil want out heap kind stop hw he hr.1 hr.2.1 hr.2.2.1 hr.2.2.2).mono ?_
  rintro e w' ⟨rfl, hb'⟩
  exact ⟨rfl, hb.trans (hb'.mono hb.size)⟩
theorem own_some {w : World} {base n size : Nat} {t : TypeId} {v : Value} {xs : List Value} (h : w.ownsRow base t size v n xs) (hn : 0 < n) : v ≠ .slice none 0 0 := by
  intro e
  rcases h.2 with ⟨_, h0⟩ | ⟨g, cap, cur, h1, _⟩
  · omega
  · rw [e] at h1; cases h1
theorem div_row (w : World) : InsxIn (w.alloc (.cells #[.int .u8 0, .int .i64 0, .int .i64 0, .int .i64 0, .int .u32 1, .int .i64 0, .slice none 0 0, .int .i64 0, .int .i64 0, .int .u8 0, .int .i64 1, .int .i64 0, .int .i64 0, .int .u32 0, .int .i64 0, .slice none 0 0, .int .i64 0, .int .i64 0, .int .u8 1, .int .i64 0, .int .i64 0, .int .i64 1, .int .u32 3, .int .i64 0, .slice none 0 0, .int .i64 0, .int .i64 0, .int .u8 10, .int .i64 0, .int .i64 0, .int .i64 0, .int .u32 0, .int .i64 0, .slice none 0 0, .int .i64 0, .int .i64 0] 44)) (.slice (some ⟨w.heap.size, 0, none⟩) divL.length 4) divL := by
  refine insx_made [(iX 0 0 0 0 1 0 [], .slice none 0 0), (iX 0 1 0 0 0 0 [], .slice none 0 0), (iX 1 0 0 1 3 0 [], .slice none 0 0), (iX 10 0 0 0 0 0 [], .slice none 0 0)] (heap_alloc_new w (.cells #[.int .u8 0, .int .i64 0, .int .i64 0, .int .i64 0, .int .u32 1, .int .i64 0, .slice none 0 0, .int .i64 0, .int .i64 0, .int .u8 0, .int .i64 1, .int .i64 0, .int .i64 0, .int .u32 0, .int .i64 0, .slice none 0 0, .int .i64 0, .int .i64 0, .int .u8 1, .int .i64 0, .int .i64 0, .int .i64 1, .int .u32 3, .int .i64 0, .slice none 0 0, .int .i64 0, .int .i64 0, .int .u8 10, .int .i64 0, .int .i64 0, .int .i64 0, .int .u32 0, .int .i64 0, .slice none 0 0, .int .i64 0, .int .i64 0] 44)) rfl (fun y hy => ?_) (by simp) divL rfl 4 rfl
  simp only [List.mem_cons, List.not_mem_nil, or_false] at hy
  rcases hy with rfl | rfl | rfl | rfl <;> exact ⟨ints_nil _, by unfold Insx.bd iX I64; simp⟩
theorem heap_row (w : World) : InsxIn (w.alloc (.cells #[.int .u8 0, .int .i64 0, .int .i64 0, .int .i64 0, .int .u32 1, .int .i64 0, .slice none 0 0, .int .i64 0, .int .i64 0, .int .u8 4, .int .i64 0, .int .i64 0, .int .i64 0, .int .u32 0, .int .i64 0, .slice none 0 0, .int .i64 0, .int .i64 0, .int .u8 10, .int .i64 0, .int .i64 0, .int .i64 0, .int .u32 0, .int .i64 0, .slice none 0 0, .int .i64 0, .int .i64 0] 44)) (.slice (some ⟨w.heap.size, 0, none⟩) heapL.length 3) heapL := by
  refine insx_made [(iX 0 0 0 0 1 0 [], .slice none 0 0), (iX 4 0 0 0 0 0 [], .slice none 0 0), (iX 10 0 0 0 0 0 [], .slice none 0 0)] (heap_alloc_new w (.cells #[.int .u8 0, .int .i64 0, .int .i64 0, .int .i64 0, .int .u32 1, .int .i64 0, .slice none 0 0, .int .i64 0, .int .i64 0, .int .u8 4, .int .i64 0, .int .i64 0, .int .i64 0, .int .u32 0, .int .i64 0, .slice none 0 0, .int .i64 0, .int .i64 0, .int .u8 10, .int .i64 0, .int .i64 0, .int .i64 0, .int .u32 0, .int .i64 0, .slice none 0 0, .int .i64 0, .int .i64 0] 44)) rfl (fun y hy => ?_) (by simp) heapL rfl 3 rfl
  simp only [List.mem_cons, List.not_mem_nil, or_false] at hy
  rcases hy with rfl | rfl | rfl <;> exact ⟨ints_nil _, by unfold Insx.bd iX I64; simp⟩
theorem two_row (w : World) : InsxIn (w.alloc (.cells #[.int .u8 7, .int .i64 0, .int .i64 0, .int .i64 0, .int .u32 0, .int .i64 0, .slice none 0 0, .int .i64 0, .int .i64 0, .int .u8 0, .int .i64 0, .int .i64 0, .int .i64 0, .int .u32 1, .int .i64 0, .slice none 0 0, .int .i64 0, .int .i64 0, .int .u8 6, .int .i64 0, .int .i64 0, .int .i64 0, .int .u32 0, .int .i64 0, .slice none 0 0, .int .i64 0, .int .i64 0, .int .u8 10, .int .i64 0, .int .i64 0, .int .i64 0, .int .u32 0, .int .i64 0, .slice none 0 0, .int .i64 0, .int .i64 0] 44)) (.slice (some ⟨w.heap.size, 0, none⟩) twoL.length 4) twoL := by
  refine insx_made [(iX 7 0 0 0 0 0 [], .slice none 0 0), (iX 0 0 0 0 1 0 [], .slice none 0 0), (iX 6 0 0 0 0 0 [], .slice none 0 0), (iX 10 0 0 0 0 0 [], .slice none 0 0)] (heap_alloc_new w (.cells #[.int .u8 7, .int .i64 0, .int .i64 0, .int .i64 0, .int .u32 0, .int .i64 0, .slice none 0 0, .int .i64 0, .int .i64 0, .int .u8 0, .int .i64 0, .int .i64 0, .int .i64 0, .int .u32 1, .int .i64 0, .slice none 0 0, .int .i64 0, .int .i64 0, .int .u8 6, .int .i64 0, .int .i64 0, .int .i64 0, .int .u32 0, .int .i64 0, .slice none 0 0, .int .i64 0, .int .i64 0, .int .u8 10, .int .i64 0, .int .i64 0, .int .i64 0, .int .u32 0, .int .i64 0, .slice none 0 0, .int .i64 0, .int .i64 0] 44)) rfl (fun y hy => ?_) (by simp) twoL rfl 4 rfl
  simp only [List.mem_cons, List.not_mem_nil, or_false] at hy
  rcases hy with rfl | rfl | rfl | rfl <;> exact ⟨ints_nil _, by unfold Insx.bd iX I64; simp⟩
theorem twice_blks {W : World} {b : Nat} (h1 : W.heap[b]? = some (.cells #[.int .u8 1, .int .i64 1, .int .i64 0, .int .i64 0, .int .u32 0, .int .i64 0, .slice none 0 0, .int .i64 0, .int .i64 0, .int .u8 10, .int .i64 0, .int .i64 1, .int .i64 0, .int .u32 0, .int .i64 0, .slice none 0 0, .int .i64 0, .int .i64 0] 44)) (h2 : W.heap[b + 1]? = some (.cells #[.string ⟨#[111, 110, 108, 121]⟩, .slice (some ⟨b, 0, none⟩) 2 2] 46)) : BlksIn W (.slice (some ⟨b + 1, 0, none⟩) 1 1) [⟨⟨#[111, 110, 108, 121]⟩, twiceL⟩] := by
  refine RowIn.one (by omega) ⟨(cell_of_obj (i := 0) h2).trans rfl, ⟨_, (cell_of_obj (i := 1) h2).trans rfl, ?_⟩, by simp [ByteArray.size]⟩
  refine insx_made [(iX 1 1 0 0 0 0 [], .slice none 0 0), (iX 10 0 1 0 0 0 [], .slice none 0 0)] h1 rfl (fun y hy => ?_) (by simp) twiceL rfl 2 rfl
  simp only [List.mem_cons, List.not_mem_nil, or_false] at hy
  rcases hy with rfl | rfl <;> exact ⟨ints_nil _, by unfold Insx.bd iX I64; simp⟩
theorem twice_fn (w : World) : (((w.alloc (.cells #[.int .u8 1, .int .i64 1, .int .i64 0, .int .i64 0, .int .u32 0, .int .i64 0, .slice none 0 0, .int .i64 0, .int .i64 0, .int .u8 10, .int .i64 0, .int .i64 1, .int .i64 0, .int .u32 0, .int .i64 0, .slice none 0 0, .int .i64 0, .int .i64 0] 44)).alloc (.cells #[.string ⟨#[111, 110, 108, 121]⟩, .slice (some ⟨w.heap.size, 0, none⟩) 2 2] 46)).alloc (.cells #[.string ⟨#[116, 119, 105, 99, 101]⟩, .int .i64 1, .int .i64 2, .slice (some ⟨w.heap.size + 1, 0, none⟩) 1 1] 41)).heap[w.heap.size]? = some (.cells #[.int .u8 1, .int .i64 1, .int .i64 0, .int .i64 0, .int .u32 0, .int .i64 0, .slice none 0 0, .int .i64 0, .int .i64 0, .int .u8 10, .int .i64 0, .int .i64 1, .int .i64 0, .int .u32 0, .int .i64 0, .slice none 0 0, .int .i64 0, .int .i64 0] 44) ∧ (((w.alloc (.cells #[.int .u8 1, .int .i64 1, .int .i64 0, .int .i64 0, .int .u32 0, .int .i64 0, .slice none 0 0, .int .i64 0, .int .i64 0, .int .u8 10, .int .i64 0, .int .i64 1, .int .i64 0, .int .u32 0, .int .i64 0, .slice none 0 0, .int .i64 0, .int .i64 0] 44)).alloc (.cells #[.string ⟨#[111, 110, 108, 121]⟩, .slice (some ⟨w.heap.size, 0, none⟩) 2 2] 46)).alloc (.cells #[.string ⟨#[116, 119, 105, 99, 101]⟩, .int .i64 1, .int .i64 2, .slice (some ⟨w.heap.size + 1, 0, none⟩) 1 1] 41)).heap[w.heap.size + 1]? = some (.cells #[.string ⟨#[111, 110, 108, 121]⟩, .slice (some ⟨w.heap.size, 0, none⟩) 2 2] 46) ∧ (∀ j u, [Value.string ⟨#[116, 119, 105, 99, 101]⟩, .int .i64 1, .int .i64 2, .slice (some ⟨w.heap.size + 1, 0, none⟩) 1 1][j]? = some u → (((w.alloc (.cells #[.int .u8 1, .int .i64 1, .int .i64 0, .int .i64 0, .int .u32 0, .int .i64 0, .slice none 0 0, .int .i64 0, .int .i64 0, .int .u8 10, .int .i64 0, .int .i64 1, .int .i64 0, .int .u32 0, .int .i64 0, .slice none 0 0, .int .i64 0, .int .i64 0] 44)).alloc (.cells #[.string ⟨#[111, 110, 108, 121]⟩, .slice (some ⟨w.heap.size, 0, none⟩) 2 2] 46)).alloc (.cells #[.string ⟨#[116, 119, 105, 99, 101]⟩, .int .i64 1, .int .i64 2, .slice (some ⟨w.heap.size + 1, 0, none⟩) 1 1] 41)).cell? ((⟨w.heap.size + 1 + 1, 0, none⟩ : Addr).add j) = some u) := by
  have h2 := heap_alloc_new (w.alloc (.cells #[.int .u8 1, .int .i64 1, .int .i64 0, .int .i64 0, .int .u32 0, .int .i64 0, .slice none 0 0, .int .i64 0, .int .i64 0, .int .u8 10, .int .i64 0, .int .i64 1, .int .i64 0, .int .u32 0, .int .i64 0, .slice none 0 0, .int .i64 0, .int .i64 0] 44)) (.cells #[.string ⟨#[111, 110, 108, 121]⟩, .slice (some ⟨w.heap.size, 0, none⟩) 2 2] 46)
  rw [World.size_alloc] at h2
  have h3 := cells_new ((w.alloc (.cells #[.int .u8 1, .int .i64 1, .int .i64 0, .int .i64 0, .int .u32 0, .int .i64 0, .slice none 0 0, .int .i64 0, .int .i64 0, .int .u8 10, .int .i64 0, .int .i64 1, .int .i64 0, .int .u32 0, .int .i64 0, .slice none 0 0, .int .i64 0, .int .i64 0] 44)).alloc (.cells #[.string ⟨#[111, 110, 108, 121]⟩, .slice (some ⟨w.heap.size, 0, none⟩) 2 2] 46)) #[.string ⟨#[116, 119, 105, 99, 101]⟩, .int .i64 1, .int .i64 2, .slice (some ⟨w.heap.size + 1, 0, none⟩) 1 1] 41
  rw [World.size_alloc, World.size_alloc] at h3
  exact ⟨(Below.heap_alloc _ _ _ (by simp; omega)).trans ((Below.heap_alloc _ _ _ (by simp)).trans (heap_alloc_new w (.cells #[.int .u8 1, .int .i64 1, .int .i64 0, .int .i64 0, .int .u32 0, .int .i64 0, .slice none 0 0, .int .i64 0, .int .i64 0, .int .u8 10, .int .i64 0, .int .i64 1, .int .i64 0, .int .u32 0, .int .i64 0, .slice none 0 0, .int .i64 0, .int .i64 0] 44))), (Below.heap_alloc _ _ _ (by simp)).trans h2, fun j u hj => h3 j u (by simpa using hj)⟩
theorem g_blks {W : World} {b : Nat} (h1 : W.heap[b]? = some (.cells #[.int .u8 0, .int .i64 0, .int .i64 0, .int .i64 0, .int .u32 2, .int .i64 0, .slice none 0 0, .int .i64 0, .int .i64 0, .int .u8 6, .int .i64 0, .int .i64 0, .int .i64 0, .int .u32 0, .int .i64 0, .slice none 0 0, .int .i64 0, .int .i64 0, .int .u8 10, .int .i64 0, .int .i64 0, .int .i64 0, .int .u32 0, .int .i64 0, .slice none 0 0, .int .i64 0, .int .i64 0] 44)) (h2 : W.heap[b + 1]? = some (.cells #[.string ⟨#[97]⟩, .slice (some ⟨b, 0, none⟩) 3 3] 46)) : BlksIn W (.slice (some ⟨b + 1, 0, none⟩) 1 1) [⟨⟨#[97]⟩, gL⟩] := by
  refine RowIn.one (by omega) ⟨(cell_of_obj (i := 0) h2).trans rfl, ⟨_, (cell_of_obj (i := 1) h2).trans rfl, ?_⟩, by simp [ByteArray.size]⟩
  refine insx_made [(iX 0 0 0 0 2 0 [], .slice none 0 0), (iX 6 0 0 0 0 0 [], .slice none 0 0), (iX 10 0 0 0 0 0 [], .slice none 0 0)] h1 rfl (fun y hy => ?_) (by simp) gL rfl 3 rfl
  simp only [List.mem_cons, List.not_mem_nil, or_false] at hy
  rcases hy with rfl | rfl | rfl <;> exact ⟨ints_nil _, by unfold Insx.bd iX I64; simp⟩
theorem g_fn (w : World) : (((w.alloc (.cells #[.int .u8 0, .int .i64 0, .int .i64 0, .int .i64 0, .int .u32 2, .int .i64 0, .slice none 0 0, .int .i64 0, .int .i64 0, .int .u8 6, .int .i64 0, .int .i64 0, .int .i64 0, .int .u32 0, .int .i64 0, .slice none 0 0, .int .i64 0, .int .i64 0, .int .u8 10, .int .i64 0, .int .i64 0, .int .i64 0, .int .u32 0, .int .i64 0, .slice none 0 0, .int .i64 0, .int .i64 0] 44)).alloc (.cells #[.string ⟨#[97]⟩, .slice (some ⟨w.heap.size, 0, none⟩) 3 3] 46)).alloc (.cells #[.string ⟨#[103]⟩, .int .i64 0, .int .i64 1, .slice (some ⟨w.heap.size + 1, 0, none⟩) 1 1] 41)).heap[w.heap.size]? = some (.cells #[.int .u8 0, .int .i64 0, .int .i64 0, .int .i64 0, .int .u32 2, .int .i64 0, .slice none 0 0, .int .i64 0, .int .i64 0, .int .u8 6, .int .i64 0, .int .i64 0, .int .i64 0, .int .u32 0, .int .i64 0, .slice none 0 0, .int .i64 0, .int .i64 0, .int .u8 10, .int .i64 0, .int .i64 0, .int .i64 0, .int .u32 0, .int .i64 0, .slice none 0 0, .int .i64 0, .int .i64 0] 44) ∧ (((w.alloc (.cells #[.int .u8 0, .int .i64 0, .int .i64 0, .int .i64 0, .int .u32 2, .int .i64 0, .slice none 0 0, .int .i64 0, .int .i64 0, .int .u8 6, .int .i64 0, .int .i64 0, .int .i64 0, .int .u32 0, .int .i64 0, .slice none 0 0, .int .i64 0, .int .i64 0, .int .u8 10, .int .i64 0, .int .i64 0, .int .i64 0, .int .u32 0, .int .i64 0, .slice none 0 0, .int .i64 0, .int .i64 0] 44)).alloc (.cells #[.string ⟨#[97]⟩, .slice (some ⟨w.heap.size, 0, none⟩) 3 3] 46)).alloc (.cells #[.string ⟨#[103]⟩, .int .i64 0, .int .i64 1, .slice (some ⟨w.heap.size + 1, 0, none⟩) 1 1] 41)).heap[w.heap.size + 1]? = some (.cells #[.string ⟨#[97]⟩, .slice (some ⟨w.heap.size, 0, none⟩) 3 3] 46) ∧ (∀ j u, [Value.string ⟨#[103]⟩, .int .i64 0, .int .i64 1, .slice (some ⟨w.heap.size + 1, 0, none⟩) 1 1][j]? = some u → (((w.alloc (.cells #[.int .u8 0, .int .i64 0, .int .i64 0, .int .i64 0, .int .u32 2, .int .i64 0, .slice none 0 0, .int .i64 0, .int .i64 0, .int .u8 6, .int .i64 0, .int .i64 0, .int .i64 0, .int .u32 0, .int .i64 0, .slice none 0 0, .int .i64 0, .int .i64 0, .int .u8 10, .int .i64 0, .int .i64 0, .int .i64 0, .int .u32 0, .int .i64 0, .slice none 0 0, .int .i64 0, .int .i64 0] 44)).alloc (.cells #[.string ⟨#[97]⟩, .slice (some ⟨w.heap.size, 0, none⟩) 3 3] 46)).alloc (.cells #[.string ⟨#[103]⟩, .int .i64 0, .int .i64 1, .slice (some ⟨w.heap.size + 1, 0, none⟩) 1 1] 41)).cell? ((⟨w.heap.size + 1 + 1, 0, none⟩ : Addr).add j) = some u) := by
  have h2 := heap_alloc_new (w.alloc (.cells #[.int .u8 0, .int .i64 0, .int .i64 0, .int .i64 0, .int .u32 2, .int .i64 0, .slice none 0 0, .int .i64 0, .int .i64 0, .int .u8 6, .int .i64 0, .int .i64 0, .int .i64 0, .int .u32 0, .int .i64 0, .slice none 0 0, .int .i64 0, .int .i64 0, .int .u8 10, .int .i64 0, .int .i64 0, .int .i64 0, .int .u32 0, .int .i64 0, .slice none 0 0, .int .i64 0, .int .i64 0] 44)) (.cells #[.string ⟨#[97]⟩, .slice (some ⟨w.heap.size, 0, none⟩) 3 3] 46)
  rw [World.size_alloc] at h2
  have h3 := cells_new ((w.alloc (.cells #[.int .u8 0, .int .i64 0, .int .i64 0, .int .i64 0, .int .u32 2, .int .i64 0, .slice none 0 0, .int .i64 0, .int .i64 0, .int .u8 6, .int .i64 0, .int .i64 0, .int .i64 0, .int .u32 0, .int .i64 0, .slice none 0 0, .int .i64 0, .int .i64 0, .int .u8 10, .int .i64 0, .int .i64 0, .int .i64 0, .int .u32 0, .int .i64 0, .slice none 0 0, .int .i64 0, .int .i64 0] 44)).alloc (.cells #[.string ⟨#[97]⟩, .slice (some ⟨w.heap.size, 0, none⟩) 3 3] 46)) #[.string ⟨#[103]⟩, .int .i64 0, .int .i64 1, .slice (some ⟨w.heap.size + 1, 0, none⟩) 1 1] 41
  rw [World.size_alloc, World.size_alloc] at h3
  exact ⟨(Below.heap_alloc _ _ _ (by simp; omega)).trans ((Below.heap_alloc _ _ _ (by simp)).trans (heap_alloc_new w (.cells #[.int .u8 0, .int .i64 0, .int .i64 0, .int .i64 0, .int .u32 2, .int .i64 0, .slice none 0 0, .int .i64 0, .int .i64 0, .int .u8 6, .int .i64 0, .int .i64 0, .int .i64 0, .int .u32 0, .int .i64 0, .slice none 0 0, .int .i64 0, .int .i64 0, .int .u8 10, .int .i64 0, .int .i64 0, .int .i64 0, .int .u32 0, .int .i64 0, .slice none 0 0, .int .i64 0, .int .i64 0] 44))), (Below.heap_alloc _ _ _ (by simp)).trans h2, fun j u hj => h3 j u (by simpa using hj)⟩
set_option maxRecDepth 100000 in
set_option maxHeartbeats 4000000 in
theorem head16_any (w : World) : Calls Try.prog 9 #[] w fun e w' => e = .returned (.bool true) ∧ Below w.heap.size w w' := by
  have hI0 : InsxIn ((w.alloc (.cells #[.int .i64 0] 3)).alloc (.cells #[.int .u8 0, .int .i64 0, .int .i64 0, .int .i64 0, .int .u32 5, .int .i64 0, .slice none 0 0, .int .i64 0, .int .i64 0, .int .u8 5, .int .i64 1, .int .i64 0, .int .i64 0, .int .u32 0, .int .i64 1, .slice (some ⟨w.heap.size, 0, none⟩) 1 1, .int .i64 0, .int .i64 0, .int .u8 6, .int .i64 0, .int .i64 1, .int .i64 0, .int .u32 0, .int .i64 0, .slice none 0 0, .int .i64 0, .int .i64 0, .int .u8 10, .int .i64 0, .int .i64 1, .int .i64 0, .int .u32 0, .int .i64 0, .slice none 0 0, .int .i64 0, .int .i64 0] 44)) (.slice (some ⟨w.heap.size + 1, 0, none⟩) fiveL.length 4) fiveL := by
    have hg := heap_alloc_new (w.alloc (.cells #[.int .i64 0] 3)) (.cells #[.int .u8 0, .int .i64 0, .int .i64 0, .int .i64 0, .int .u32 5, .int .i64 0, .slice none 0 0, .int .i64 0, .int .i64 0, .int .u8 5, .int .i64 1, .int .i64 0, .int .i64 0, .int .u32 0, .int .i64 1, .slice (some ⟨w.heap.size, 0, none⟩) 1 1, .int .i64 0, .int .i64 0, .int .u8 6, .int .i64 0, .int .i64 1, .int .i64 0, .int .u32 0, .int .i64 0, .slice none 0 0, .int .i64 0, .int .i64 0, .int .u8 10, .int .i64 0, .int .i64 1, .int .i64 0, .int .u32 0, .int .i64 0, .slice none 0 0, .int .i64 0, .int .i64 0] 44)
    rw [World.size_alloc] at hg
    have ha : IntsIn ((w.alloc (.cells #[.int .i64 0] 3)).alloc (.cells #[.int .u8 0, .int .i64 0, .int .i64 0, .int .i64 0, .int .u32 5, .int .i64 0, .slice none 0 0, .int .i64 0, .int .i64 0, .int .u8 5, .int .i64 1, .int .i64 0, .int .i64 0, .int .u32 0, .int .i64 1, .slice (some ⟨w.heap.size, 0, none⟩) 1 1, .int .i64 0, .int .i64 0, .int .u8 6, .int .i64 0, .int .i64 1, .int .i64 0, .int .u32 0, .int .i64 0, .slice none 0 0, .int .i64 0, .int .i64 0, .int .u8 10, .int .i64 0, .int .i64 1, .int .i64 0, .int .u32 0, .int .i64 0, .slice none 0 0, .int .i64 0, .int .i64 0] 44)) (.slice (some ⟨w.heap.size, 0, none⟩) 1 1) [0] := RowIn.one (by omega) ⟨(cell_of_obj (i := 0) ((Below.heap_alloc _ _ _ (by simp)).trans (heap_alloc_new w (.cells #[.int .i64 0] 3)))).trans rfl, by unfold I64; omega⟩
    refine insx_made [(iX 0 0 0 0 5 0 [], .slice none 0 0), (iX 5 1 0 0 0 1 [0], .slice (some ⟨w.heap.size, 0, none⟩) 1 1), (iX 6 0 1 0 0 0 [], .slice none 0 0), (iX 10 0 1 0 0 0 [], .slice none 0 0)] hg rfl (fun y hy => ?_) (by simp) fiveL rfl 4 rfl
    simp only [List.mem_cons, List.not_mem_nil, or_false] at hy
    rcases hy with rfl | rfl | rfl | rfl
    · exact ⟨ints_nil _, by unfold Insx.bd iX I64; simp⟩
    · exact ⟨ha, by unfold Insx.bd iX I64; simp⟩
    · exact ⟨ints_nil _, by unfold Insx.bd iX I64; simp⟩
    · exact ⟨ints_nil _, by unfold Insx.bd iX I64; simp⟩
  have HP0 := fhid (prog16_any 16 2 (by unfold I64; omega) fiveL _ 4 _ hI0)
  have HW0 := fhid (show Below w.heap.size w ((w.alloc (.cells #[.int .i64 0] 3)).alloc (.cells #[.int .u8 0, .int .i64 0, .int .i64 0, .int .i64 0, .int .u32 5, .int .i64 0, .slice none 0 0, .int .i64 0, .int .i64 0, .int .u8 5, .int .i64 1, .int .i64 0, .int .i64 0, .int .u32 0, .int .i64 1, .slice (some ⟨w.heap.size, 0, none⟩) 1 1, .int .i64 0, .int .i64 0, .int .u8 6, .int .i64 0, .int .i64 1, .int .i64 0, .int .u32 0, .int .i64 0, .slice none 0 0, .int .i64 0, .int .i64 0, .int .u8 10, .int .i64 0, .int .i64 1, .int .i64 0, .int .u32 0, .int .i64 0, .slice none 0 0, .int .i64 0, .int .i64 0] 44)) from ((Below.refl _ _).alloc (Nat.le_refl _) _).alloc (by simp) _)
  clear hI0
  go_enter Try.func9, Try.ntmps9
  go_wp2_with fail
  refine HP0.out.mono ?_
  rintro e w1 ⟨v, rfl, hM, hb1⟩
  obtain ⟨gT, gF, rfl, hT1, hF1, hgT, hgF⟩ := hM.ex
  have HW1 := fhid (HW0.out.trans (hb1.mono HW0.out.size))
  have H1 := fhid (And.intro hT1 hF1)
  clear hM hb1 hT1 hF1 HP0 HW0
  obtain ⟨ifn, zfn, hif, hzf, hsf, hbf, hcf⟩ := info4_parts infofnc
  have HX1 := fhid (show Below w1.heap.size w1 (w1.alloc (.cells #[.int .i64 16, .slice (some ⟨gT, 0, none⟩) 1 1, .slice (some ⟨gF, 0, none⟩) 1 1] 25)) from (Below.refl _ _).alloc (Nat.le_refl _) _)
  have HF1 := fhid (show FnAt w1 gF 0 (fnM 2 fiveL) from H1.out.2)
  have HQ1 := fhid (show VRow (w1.alloc (.cells #[.int .i64 16, .slice (some ⟨gT, 0, none⟩) 1 1, .slice (some ⟨gF, 0, none⟩) 1 1] 25)) w1.heap.size 25 [.int .i64 16, .slice (some ⟨gT, 0, none⟩) 1 1, .slice (some ⟨gF, 0, none⟩) 1 1] from vrow_new w1 _ _)
  have HB1 := fhid (show w1.heap.size ≤ w1.heap.size ∧ w1.heap.size < w1.heap.size + 1 from ⟨Nat.le_refl _, Nat.lt_succ_self _⟩)
  clear hgT hgF
  have hfn1 := twice_fn (w1.alloc (.cells #[.int .i64 16, .slice (some ⟨gT, 0, none⟩) 1 1, .slice (some ⟨gF, 0, none⟩) 1 1] 25))
  simp only [World.size_alloc, World.size_setCell] at hfn1
  have hbx1 : Below w1.heap.size w1 ((((w1.alloc (.cells #[.int .i64 16, .slice (some ⟨gT, 0, none⟩) 1 1, .slice (some ⟨gF, 0, none⟩) 1 1] 25)).alloc (.cells #[.int .u8 1, .int .i64 1, .int .i64 0, .int .i64 0, .int .u32 0, .int .i64 0, .slice none 0 0, .int .i64 0, .int .i64 0, .int .u8 10, .int .i64 0, .int .i64 1, .int .i64 0, .int .u32 0, .int .i64 0, .slice none 0 0, .int .i64 0, .int .i64 0] 44)).alloc (.cells #[.string ⟨#[111, 110, 108, 121]⟩, .slice (some ⟨w1.heap.size + 1, 0, none⟩) 2 2] 46)).alloc (.cells #[.string ⟨#[116, 119, 105, 99, 101]⟩, .int .i64 1, .int .i64 2, .slice (some ⟨w1.heap.size + 1 + 1, 0, none⟩) 1 1] 41)) := (((HX1.out).alloc HX1.out.size _).alloc (by have := HX1.out.size; simp only [World.size_alloc, World.size_setCell] at this ⊢; omega) _).alloc (by have := HX1.out.size; simp only [World.size_alloc, World.size_setCell] at this ⊢; omega) _
  have hnew1 := rowCells_news flat_fn (l := [fnM 2 fiveL]) (w := w1) (b := gF) (o := 0) (fun k x hx => by
    match k, hx with
    | 0, hx => simp at hx; subst hx; simpa using HF1.out)
  have HN1 := fhid (And.intro hfn1 (And.intro hbx1 hnew1))
  have HQQ1 := fhid (show VRow ((((w1.alloc (.cells #[.int .i64 16, .slice (some ⟨gT, 0, none⟩) 1 1, .slice (some ⟨gF, 0, none⟩) 1 1] 25)).alloc (.cells #[.int .u8 1, .int .i64 1, .int .i64 0, .int .i64 0, .int .u32 0, .int .i64 0, .slice none 0 0, .int .i64 0, .int .i64 0, .int .u8 10, .int .i64 0, .int .i64 1, .int .i64 0, .int .u32 0, .int .i64 0, .slice none 0 0, .int .i64 0, .int .i64 0] 44)).alloc (.cells #[.string ⟨#[111, 110, 108, 121]⟩, .slice (some ⟨w1.heap.size + 1, 0, none⟩) 2 2] 46)).alloc (.cells #[.string ⟨#[116, 119, 105, 99, 101]⟩, .int .i64 1, .int .i64 2, .slice (some ⟨w1.heap.size + 1 + 1, 0, none⟩) 1 1] 41)) w1.heap.size 25 [.int .i64 16, .slice (some ⟨gT, 0, none⟩) 1 1, .slice (some ⟨gF, 0, none⟩) 1 1] from ((HQ1.out.alloc _).alloc _).alloc _)
  clear hfn1 hbx1 hnew1
  go_wp2_with (at_builtin; refine wpList_append_grows _ rfl _ _ 23 rfl 41 ifn zfn 4 56 Try.underlying23 hif hzf hsf hbf hcf (by decide) (some ⟨gF, 0, none⟩) 1 1 (rowCells w1 gF 0 4) rfl (by simp) (rowCells_length _ _ _ _) (fun b hb j u hj => by cases hb; have h1 := HN1.out.2.2.1 j u hj; rw [Nat.zero_add] at h1; rw [addr_add0]; exact (HN1.out.2.1.cell (p := ⟨gF, j, none⟩) (World.block_lt_of_cell? _ _ h1)).trans h1) ⟨w1.heap.size + 1 + 1 + 1, 0, none⟩ 1 1 [.string ⟨#[116, 119, 105, 99, 101]⟩, .int .i64 1, .int .i64 2, .slice (some ⟨w1.heap.size + 1 + 1, 0, none⟩) 1 1] rfl rfl (HN1.out.1.2.2) (by simp [Value.oneCell']) (by omega) (by unfold maxLen; omega) (by omega) ?_; intro v' w5 hown1 hgrow1; obtain ⟨gN1, cN1, rfl, hgN1, hgl1, hvr1⟩ := VRow.of_own' hown1 (own_some hown1 (by omega)); have hb51 : Below ((((w1.alloc (.cells #[.int .i64 16, .slice (some ⟨gT, 0, none⟩) 1 1, .slice (some ⟨gF, 0, none⟩) 1 1] 25)).alloc (.cells #[.int .u8 1, .int .i64 1, .int .i64 0, .int .i64 0, .int .u32 0, .int .i64 0, .slice none 0 0, .int .i64 0, .int .i64 0, .int .u8 10, .int .i64 0, .int .i64 1, .int .i64 0, .int .u32 0, .int .i64 0, .slice none 0 0, .int .i64 0, .int .i64 0] 44)).alloc (.cells #[.string ⟨#[111, 110, 108, 121]⟩, .slice (some ⟨w1.heap.size + 1, 0, none⟩) 2 2] 46)).alloc (.cells #[.string ⟨#[116, 119, 105, 99, 101]⟩, .int .i64 1, .int .i64 2, .slice (some ⟨w1.heap.size + 1 + 1, 0, none⟩) 1 1] 41)).heap.size ((((w1.alloc (.cells #[.int .i64 16, .slice (some ⟨gT, 0, none⟩) 1 1, .slice (some ⟨gF, 0, none⟩) 1 1] 25)).alloc (.cells #[.int .u8 1, .int .i64 1, .int .i64 0, .int .i64 0, .int .u32 0, .int .i64 0, .slice none 0 0, .int .i64 0, .int .i64 0, .int .u8 10, .int .i64 0, .int .i64 1, .int .i64 0, .int .u32 0, .int .i64 0, .slice none 0 0, .int .i64 0, .int .i64 0] 44)).alloc (.cells #[.string ⟨#[111, 110, 108, 121]⟩, .slice (some ⟨w1.heap.size + 1, 0, none⟩) 2 2] 46)).alloc (.cells #[.string ⟨#[116, 119, 105, 99, 101]⟩, .int .i64 1, .int .i64 2, .slice (some ⟨w1.heap.size + 1 + 1, 0, none⟩) 1 1] 41)) w5 := (Below.refl _ _).grown hgrow1 (Nat.le_refl _) (fun k hk => by simp at hk); have hq1 := HQQ1.out.below hb51; have c5 := hq1.cell (k := 2) rfl; have f5 := hq1.frozen 2; clear hown1 hgrow1)
  clear c5 f5
  have hne1 : gN1 ≠ w1.heap.size := by have := HN1.out.2.1.size; have := HQQ1.out.lt; omega
  have o1 : Only (fun k => k = w1.heap.size) w5 (w5.setCell ⟨w1.heap.size, 2, none⟩ (.slice (some ⟨gN1, 0, none⟩) 2 cN1)) := (Only.refl (fun k => k = w1.heap.size) w5).setCell (p := ⟨w1.heap.size, 2, none⟩) rfl _
  have hq61 := hq1.set (k := 2) (by simp) (.slice (some ⟨gN1, 0, none⟩) 2 cN1)
  simp only [List.set_cons_zero, List.set_cons_succ] at hq61
  have hpb1 : Below w1.heap.size w1 (w5.setCell ⟨w1.heap.size, 2, none⟩ (.slice (some ⟨gN1, 0, none⟩) 2 cN1)) := (HN1.out.2.1.trans (hb51.mono HN1.out.2.1.size)).trans (o1.below (Nat.le_trans HN1.out.2.1.size hb51.size) (fun k hk e => by have := HB1.out; omega))
  have hW1 : ∀ k, k < ((((w1.alloc (.cells #[.int .i64 16, .slice (some ⟨gT, 0, none⟩) 1 1, .slice (some ⟨gF, 0, none⟩) 1 1] 25)).alloc (.cells #[.int .u8 1, .int .i64 1, .int .i64 0, .int .i64 0, .int .u32 0, .int .i64 0, .slice none 0 0, .int .i64 0, .int .i64 0, .int .u8 10, .int .i64 0, .int .i64 1, .int .i64 0, .int .u32 0, .int .i64 0, .slice none 0 0, .int .i64 0, .int .i64 0] 44)).alloc (.cells #[.string ⟨#[111, 110, 108, 121]⟩, .slice (some ⟨w1.heap.size + 1, 0, none⟩) 2 2] 46)).alloc (.cells #[.string ⟨#[116, 119, 105, 99, 101]⟩, .int .i64 1, .int .i64 2, .slice (some ⟨w1.heap.size + 1 + 1, 0, none⟩) 1 1] 41)).heap.size → k ≠ w1.heap.size → (w5.setCell ⟨w1.heap.size, 2, none⟩ (.slice (some ⟨gN1, 0, none⟩) 2 cN1)).heap[k]? = ((((w1.alloc (.cells #[.int .i64 16, .slice (some ⟨gT, 0, none⟩) 1 1, .slice (some ⟨gF, 0, none⟩) 1 1] 25)).alloc (.cells #[.int .u8 1, .int .i64 1, .int .i64 0, .int .i64 0, .int .u32 0, .int .i64 0, .slice none 0 0, .int .i64 0, .int .i64 0, .int .u8 10, .int .i64 0, .int .i64 1, .int .i64 0, .int .u32 0, .int .i64 0, .slice none 0 0, .int .i64 0, .int .i64 0] 44)).alloc (.cells #[.string ⟨#[111, 110, 108, 121]⟩, .slice (some ⟨w1.heap.size + 1, 0, none⟩) 2 2] 46)).alloc (.cells #[.string ⟨#[116, 119, 105, 99, 101]⟩, .int .i64 1, .int .i64 2, .slice (some ⟨w1.heap.size + 1 + 1, 0, none⟩) 1 1] 41)).heap[k]? := fun k hk hn => (o1.block k (Nat.lt_of_lt_of_le hk hb51.size) hn).trans (hb51.block k hk)
  have hbl1 := twice_blks (W := (w5.setCell ⟨w1.heap.size, 2, none⟩ (.slice (some ⟨gN1, 0, none⟩) 2 cN1))) (b := w1.heap.size + 1) ((hW1 _ (by simp only [World.size_alloc, World.size_setCell]; omega) (by have := HB1.out; omega)).trans HN1.out.1.1) ((hW1 _ (by simp only [World.size_alloc, World.size_setCell]; omega) (by have := HB1.out; omega)).trans HN1.out.1.2.1)
  have hfs1 := fns_two (c := cN1) HF1.out hpb1 (hvr1.of_block (o1.block _ hgl1 hne1)) hbl1 (by simp [ByteArray.size]) (by unfold I64; omega) (by unfold I64; omega)
  have HS1 := fhid (And.intro hfs1 (And.intro hq61 hpb1))
  clear hbl1 hfs1 hq61 hpb1 hW1 o1 hne1 hvr1 hb51 hq1 hgN1 hgl1 HN1 HQ1 HQQ1 HX1 HF1 HB1
  have HT1 := fhid (IntsIn.keep H1.out.1 HS1.out.2.2)
  have HW6 := fhid (HW1.out.trans (HS1.out.2.2.mono HW1.out.size))
  have hsz1 : w5.heap.size = (w5.setCell ⟨w1.heap.size, 2, none⟩ (.slice (some ⟨gN1, 0, none⟩) 2 cN1)).heap.size := by simp
  rw [hsz1]
  clear hsz1 H1 HW1
  generalize (w5.setCell ⟨w1.heap.size, 2, none⟩ (.slice (some ⟨gN1, 0, none⟩) 2 cN1)) = W6 at *
  have HR2 := fhid (prog16_any 0 2 (by unfold I64; omega) divL _ 4 _ (div_row W6))
  refine HR2.out.mono ?_
  rintro e w7 ⟨v, rfl, hM, hb⟩
  obtain ⟨gT2, gF2, rfl, hT2, hF2, _, _⟩ := hM.ex
  have HA2 := fhid (show Below W6.heap.size W6 w7 from ((Below.refl _ _).alloc (Nat.le_refl _) _).trans (hb.mono (by simp)))
  have HM2 := fhid (And.intro hT2 hF2)
  clear hM hb hT2 hF2 HR2
  go_wp2_with fail
  have hz : w7.heap.size + 1 = (w7.alloc (.cells #[.int .i64 0, .slice (some ⟨gT2, 0, none⟩) 1 1, .slice (some ⟨gF2, 0, none⟩) 1 1] 25)).heap.size := by simp
  rw [hz]
  clear hz
  have hal : Below w7.heap.size w7 (w7.alloc (.cells #[.int .i64 0, .slice (some ⟨gT2, 0, none⟩) 1 1, .slice (some ⟨gF2, 0, none⟩) 1 1] 25)) := (Below.refl _ _).alloc (Nat.le_refl _) _
  have HS2 := fhid (show VRow (w7.alloc (.cells #[.int .i64 0, .slice (some ⟨gT2, 0, none⟩) 1 1, .slice (some ⟨gF2, 0, none⟩) 1 1] 25)) w7.heap.size 25 [.int .i64 0, .slice (some ⟨gT2, 0, none⟩) 1 1, .slice (some ⟨gF2, 0, none⟩) 1 1] ∧ IntsIn (w7.alloc (.cells #[.int .i64 0, .slice (some ⟨gT2, 0, none⟩) 1 1, .slice (some ⟨gF2, 0, none⟩) 1 1] 25)) (.slice (some ⟨gT2, 0, none⟩) 1 1) [0] ∧ FnsIn (w7.alloc (.cells #[.int .i64 0, .slice (some ⟨gT2, 0, none⟩) 1 1, .slice (some ⟨gF2, 0, none⟩) 1 1] 25)) (.slice (some ⟨gF2, 0, none⟩) 1 1) [fnM 2 divL] from ⟨vrow_new w7 _ _, IntsIn.keep HM2.out.1 hal, RowIn.one (by omega) (HM2.out.2.keep hal)⟩)
  have HW8 := fhid (show Below W6.heap.size W6 (w7.alloc (.cells #[.int .i64 0, .slice (some ⟨gT2, 0, none⟩) 1 1, .slice (some ⟨gF2, 0, none⟩) 1 1] 25)) from HA2.out.trans (hal.mono HA2.out.size))
  clear hal HM2 HA2
  generalize w7.alloc (.cells #[.int .i64 0, .slice (some ⟨gT2, 0, none⟩) 1 1, .slice (some ⟨gF2, 0, none⟩) 1 1] 25) = W8 at *
  have HR3 := fhid (prog16_any 1 1 (by unfold I64; omega) heapL _ 3 _ (heap_row W8))
  refine HR3.out.mono ?_
  rintro e w9 ⟨v, rfl, hM, hb⟩
  obtain ⟨gT3, gF3, rfl, hT3, hF3, _, _⟩ := hM.ex
  have HA3 := fhid (show Below W8.heap.size W8 w9 from ((Below.refl _ _).alloc (Nat.le_refl _) _).trans (hb.mono (by simp)))
  have HM3 := fhid (And.intro hT3 hF3)
  clear hM hb hT3 hF3 HR3
  go_wp2_with fail
  have hz : w9.heap.size + 1 = (w9.alloc (.cells #[.int .i64 1, .slice (some ⟨gT3, 0, none⟩) 1 1, .slice (some ⟨gF3, 0, none⟩) 1 1] 25)).heap.size := by simp
  rw [hz]
  clear hz
  have hal : Below w9.heap.size w9 (w9.alloc (.cells #[.int .i64 1, .slice (some ⟨gT3, 0, none⟩) 1 1, .slice (some ⟨gF3, 0, none⟩) 1 1] 25)) := (Below.refl _ _).alloc (Nat.le_refl _) _
  have HS3 := fhid (show VRow (w9.alloc (.cells #[.int .i64 1, .slice (some ⟨gT3, 0, none⟩) 1 1, .slice (some ⟨gF3, 0, none⟩) 1 1] 25)) w9.heap.size 25 [.int .i64 1, .slice (some ⟨gT3, 0, none⟩) 1 1, .slice (some ⟨gF3, 0, none⟩) 1 1] ∧ IntsIn (w9.alloc (.cells #[.int .i64 1, .slice (some ⟨gT3, 0, none⟩) 1 1, .slice (some ⟨gF3, 0, none⟩) 1 1] 25)) (.slice (some ⟨gT3, 0, none⟩) 1 1) [0] ∧ FnsIn (w9.alloc (.cells #[.int .i64 1, .slice (some ⟨gT3, 0, none⟩) 1 1, .slice (some ⟨gF3, 0, none⟩) 1 1] 25)) (.slice (some ⟨gF3, 0, none⟩) 1 1) [fnM 1 heapL] from ⟨vrow_new w9 _ _, IntsIn.keep HM3.out.1 hal, RowIn.one (by omega) (HM3.out.2.keep hal)⟩)
  have HW10 := fhid (show Below W8.heap.size W8 (w9.alloc (.cells #[.int .i64 1, .slice (some ⟨gT3, 0, none⟩) 1 1, .slice (some ⟨gF3, 0, none⟩) 1 1] 25)) from HA3.out.trans (hal.mono HA3.out.size))
  clear hal HM3 HA3
  generalize w9.alloc (.cells #[.int .i64 1, .slice (some ⟨gT3, 0, none⟩) 1 1, .slice (some ⟨gF3, 0, none⟩) 1 1] 25) = W10 at *
  have HR4 := fhid (prog16_any 0 1 (by unfold I64; omega) twoL _ 4 _ (two_row W10))
  refine HR4.out.mono ?_
  rintro e w11 ⟨v, rfl, hM, hb⟩
  obtain ⟨gT4, gF4, rfl, hT4, hF4, _, _⟩ := hM.ex
  have HA4 := fhid (show Below W10.heap.size W10 w11 from ((Below.refl _ _).alloc (Nat.le_refl _) _).trans (hb.mono (by simp)))
  have HM4 := fhid (And.intro hT4 hF4)
  clear hM hb hT4 hF4 HR4
  have HX4 := fhid (show Below w11.heap.size w11 ((w11.alloc (.cells #[.int .i64 0, .slice (some ⟨w11.heap.size + 1, 0, none⟩) 2 2, .slice (some ⟨gF4, 0, none⟩) 1 1] 25)).alloc (.cells #[.int .i64 0, .int .i64 1] 3)) from ((Below.refl _ _).alloc (Nat.le_refl _) _).alloc (by simp) _)
  have HF4 := fhid (show FnAt w11 gF4 0 (fnM 1 twoL) from HM4.out.2)
  have HQ4 := fhid (show VRow ((w11.alloc (.cells #[.int .i64 0, .slice (some ⟨w11.heap.size + 1, 0, none⟩) 2 2, .slice (some ⟨gF4, 0, none⟩) 1 1] 25)).alloc (.cells #[.int .i64 0, .int .i64 1] 3)) w11.heap.size 25 [.int .i64 0, .slice (some ⟨w11.heap.size + 1, 0, none⟩) 2 2, .slice (some ⟨gF4, 0, none⟩) 1 1] from (vrow_new w11 _ _).alloc _)
  have HB4 := fhid (show w11.heap.size ≤ w11.heap.size ∧ w11.heap.size < w11.heap.size + 1 from ⟨Nat.le_refl _, Nat.lt_succ_self _⟩)
  have hir := heap_alloc_new (w11.alloc (.cells #[.int .i64 0, .slice (some ⟨w11.heap.size + 1, 0, none⟩) 2 2, .slice (some ⟨gF4, 0, none⟩) 1 1] 25)) (.cells #[.int .i64 0, .int .i64 1] 3)
  rw [World.size_alloc] at hir
  have HIR := fhid hir
  clear hir
  have hfn4 := g_fn ((w11.alloc (.cells #[.int .i64 0, .slice (some ⟨w11.heap.size + 1, 0, none⟩) 2 2, .slice (some ⟨gF4, 0, none⟩) 1 1] 25)).alloc (.cells #[.int .i64 0, .int .i64 1] 3))
  simp only [World.size_alloc, World.size_setCell] at hfn4
  have hbx4 : Below w11.heap.size w11 (((((w11.alloc (.cells #[.int .i64 0, .slice (some ⟨w11.heap.size + 1, 0, none⟩) 2 2, .slice (some ⟨gF4, 0, none⟩) 1 1] 25)).alloc (.cells #[.int .i64 0, .int .i64 1] 3)).alloc (.cells #[.int .u8 0, .int .i64 0, .int .i64 0, .int .i64 0, .int .u32 2, .int .i64 0, .slice none 0 0, .int .i64 0, .int .i64 0, .int .u8 6, .int .i64 0, .int .i64 0, .int .i64 0, .int .u32 0, .int .i64 0, .slice none 0 0, .int .i64 0, .int .i64 0, .int .u8 10, .int .i64 0, .int .i64 0, .int .i64 0, .int .u32 0, .int .i64 0, .slice none 0 0, .int .i64 0, .int .i64 0] 44)).alloc (.cells #[.string ⟨#[97]⟩, .slice (some ⟨w11.heap.size + 1 + 1, 0, none⟩) 3 3] 46)).alloc (.cells #[.string ⟨#[103]⟩, .int .i64 0, .int .i64 1, .slice (some ⟨w11.heap.size + 1 + 1 + 1, 0, none⟩) 1 1] 41)) := (((HX4.out).alloc HX4.out.size _).alloc (by have := HX4.out.size; simp only [World.size_alloc, World.size_setCell] at this ⊢; omega) _).alloc (by have := HX4.out.size; simp only [World.size_alloc, World.size_setCell] at this ⊢; omega) _
  have hnew4 := rowCells_news flat_fn (l := [fnM 1 twoL]) (w := w11) (b := gF4) (o := 0) (fun k x hx => by
    match k, hx with
    | 0, hx => simp at hx; subst hx; simpa using HF4.out)
  have HN4 := fhid (And.intro hfn4 (And.intro hbx4 hnew4))
  have HQQ4 := fhid (show VRow (((((w11.alloc (.cells #[.int .i64 0, .slice (some ⟨w11.heap.size + 1, 0, none⟩) 2 2, .slice (some ⟨gF4, 0, none⟩) 1 1] 25)).alloc (.cells #[.int .i64 0, .int .i64 1] 3)).alloc (.cells #[.int .u8 0, .int .i64 0, .int .i64 0, .int .i64 0, .int .u32 2, .int .i64 0, .slice none 0 0, .int .i64 0, .int .i64 0, .int .u8 6, .int .i64 0, .int .i64 0, .int .i64 0, .int .u32 0, .int .i64 0, .slice none 0 0, .int .i64 0, .int .i64 0, .int .u8 10, .int .i64 0, .int .i64 0, .int .i64 0, .int .u32 0, .int .i64 0, .slice none 0 0, .int .i64 0, .int .i64 0] 44)).alloc (.cells #[.string ⟨#[97]⟩, .slice (some ⟨w11.heap.size + 1 + 1, 0, none⟩) 3 3] 46)).alloc (.cells #[.string ⟨#[103]⟩, .int .i64 0, .int .i64 1, .slice (some ⟨w11.heap.size + 1 + 1 + 1, 0, none⟩) 1 1] 41)) w11.heap.size 25 [.int .i64 0, .slice (some ⟨w11.heap.size + 1, 0, none⟩) 2 2, .slice (some ⟨gF4, 0, none⟩) 1 1] from ((HQ4.out.alloc _).alloc _).alloc _)
  clear hfn4 hbx4 hnew4
  go_wp2_with (at_builtin; refine wpList_append_grows _ rfl _ _ 23 rfl 41 ifn zfn 4 56 Try.underlying23 hif hzf hsf hbf hcf (by decide) (some ⟨gF4, 0, none⟩) 1 1 (rowCells w11 gF4 0 4) rfl (by simp) (rowCells_length _ _ _ _) (fun b hb j u hj => by cases hb; have h1 := HN4.out.2.2.1 j u hj; rw [Nat.zero_add] at h1; rw [addr_add0]; exact (HN4.out.2.1.cell (p := ⟨gF4, j, none⟩) (World.block_lt_of_cell? _ _ h1)).trans h1) ⟨w11.heap.size + 1 + 1 + 1 + 1, 0, none⟩ 1 1 [.string ⟨#[103]⟩, .int .i64 0, .int .i64 1, .slice (some ⟨w11.heap.size + 1 + 1 + 1, 0, none⟩) 1 1] rfl rfl (HN4.out.1.2.2) (by simp [Value.oneCell']) (by omega) (by unfold maxLen; omega) (by omega) ?_; intro v' w5 hown4 hgrow4; obtain ⟨gN4, cN4, rfl, hgN4, hgl4, hvr4⟩ := VRow.of_own' hown4 (own_some hown4 (by omega)); have hb54 : Below (((((w11.alloc (.cells #[.int .i64 0, .slice (some ⟨w11.heap.size + 1, 0, none⟩) 2 2, .slice (some ⟨gF4, 0, none⟩) 1 1] 25)).alloc (.cells #[.int .i64 0, .int .i64 1] 3)).alloc (.cells #[.int .u8 0, .int .i64 0, .int .i64 0, .int .i64 0, .int .u32 2, .int .i64 0, .slice none 0 0, .int .i64 0, .int .i64 0, .int .u8 6, .int .i64 0, .int .i64 0, .int .i64 0, .int .u32 0, .int .i64 0, .slice none 0 0, .int .i64 0, .int .i64 0, .int .u8 10, .int .i64 0, .int .i64 0, .int .i64 0, .int .u32 0, .int .i64 0, .slice none 0 0, .int .i64 0, .int .i64 0] 44)).alloc (.cells #[.string ⟨#[97]⟩, .slice (some ⟨w11.heap.size + 1 + 1, 0, none⟩) 3 3] 46)).alloc (.cells #[.string ⟨#[103]⟩, .int .i64 0, .int .i64 1, .slice (some ⟨w11.heap.size + 1 + 1 + 1, 0, none⟩) 1 1] 41)).heap.size (((((w11.alloc (.cells #[.int .i64 0, .slice (some ⟨w11.heap.size + 1, 0, none⟩) 2 2, .slice (some ⟨gF4, 0, none⟩) 1 1] 25)).alloc (.cells #[.int .i64 0, .int .i64 1] 3)).alloc (.cells #[.int .u8 0, .int .i64 0, .int .i64 0, .int .i64 0, .int .u32 2, .int .i64 0, .slice none 0 0, .int .i64 0, .int .i64 0, .int .u8 6, .int .i64 0, .int .i64 0, .int .i64 0, .int .u32 0, .int .i64 0, .slice none 0 0, .int .i64 0, .int .i64 0, .int .u8 10, .int .i64 0, .int .i64 0, .int .i64 0, .int .u32 0, .int .i64 0, .slice none 0 0, .int .i64 0, .int .i64 0] 44)).alloc (.cells #[.string ⟨#[97]⟩, .slice (some ⟨w11.heap.size + 1 + 1, 0, none⟩) 3 3] 46)).alloc (.cells #[.string ⟨#[103]⟩, .int .i64 0, .int .i64 1, .slice (some ⟨w11.heap.size + 1 + 1 + 1, 0, none⟩) 1 1] 41)) w5 := (Below.refl _ _).grown hgrow4 (Nat.le_refl _) (fun k hk => by simp at hk); have hq4 := HQQ4.out.below hb54; have c5 := hq4.cell (k := 2) rfl; have f5 := hq4.frozen 2; clear hown4 hgrow4)
  clear c5 f5
  have hne4 : gN4 ≠ w11.heap.size := by have := HN4.out.2.1.size; have := HQQ4.out.lt; omega
  have o4 : Only (fun k => k = w11.heap.size) w5 (w5.setCell ⟨w11.heap.size, 2, none⟩ (.slice (some ⟨gN4, 0, none⟩) 2 cN4)) := (Only.refl (fun k => k = w11.heap.size) w5).setCell (p := ⟨w11.heap.size, 2, none⟩) rfl _
  have hq64 := hq4.set (k := 2) (by simp) (.slice (some ⟨gN4, 0, none⟩) 2 cN4)
  simp only [List.set_cons_zero, List.set_cons_succ] at hq64
  have hpb4 : Below w11.heap.size w11 (w5.setCell ⟨w11.heap.size, 2, none⟩ (.slice (some ⟨gN4, 0, none⟩) 2 cN4)) := (HN4.out.2.1.trans (hb54.mono HN4.out.2.1.size)).trans (o4.below (Nat.le_trans HN4.out.2.1.size hb54.size) (fun k hk e => by have := HB4.out; omega))
  have hW4 : ∀ k, k < (((((w11.alloc (.cells #[.int .i64 0, .slice (some ⟨w11.heap.size + 1, 0, none⟩) 2 2, .slice (some ⟨gF4, 0, none⟩) 1 1] 25)).alloc (.cells #[.int .i64 0, .int .i64 1] 3)).alloc (.cells #[.int .u8 0, .int .i64 0, .int .i64 0, .int .i64 0, .int .u32 2, .int .i64 0, .slice none 0 0, .int .i64 0, .int .i64 0, .int .u8 6, .int .i64 0, .int .i64 0, .int .i64 0, .int .u32 0, .int .i64 0, .slice none 0 0, .int .i64 0, .int .i64 0, .int .u8 10, .int .i64 0, .int .i64 0, .int .i64 0, .int .u32 0, .int .i64 0, .slice none 0 0, .int .i64 0, .int .i64 0] 44)).alloc (.cells #[.string ⟨#[97]⟩, .slice (some ⟨w11.heap.size + 1 + 1, 0, none⟩) 3 3] 46)).alloc (.cells #[.string ⟨#[103]⟩, .int .i64 0, .int .i64 1, .slice (some ⟨w11.heap.size + 1 + 1 + 1, 0, none⟩) 1 1] 41)).heap.size → k ≠ w11.heap.size → (w5.setCell ⟨w11.heap.size, 2, none⟩ (.slice (some ⟨gN4, 0, none⟩) 2 cN4)).heap[k]? = (((((w11.alloc (.cells #[.int .i64 0, .slice (some ⟨w11.heap.size + 1, 0, none⟩) 2 2, .slice (some ⟨gF4, 0, none⟩) 1 1] 25)).alloc (.cells #[.int .i64 0, .int .i64 1] 3)).alloc (.cells #[.int .u8 0, .int .i64 0, .int .i64 0, .int .i64 0, .int .u32 2, .int .i64 0, .slice none 0 0, .int .i64 0, .int .i64 0, .int .u8 6, .int .i64 0, .int .i64 0, .int .i64 0, .int .u32 0, .int .i64 0, .slice none 0 0, .int .i64 0, .int .i64 0, .int .u8 10, .int .i64 0, .int .i64 0, .int .i64 0, .int .u32 0, .int .i64 0, .slice none 0 0, .int .i64 0, .int .i64 0] 44)).alloc (.cells #[.string ⟨#[97]⟩, .slice (some ⟨w11.heap.size + 1 + 1, 0, none⟩) 3 3] 46)).alloc (.cells #[.string ⟨#[103]⟩, .int .i64 0, .int .i64 1, .slice (some ⟨w11.heap.size + 1 + 1 + 1, 0, none⟩) 1 1] 41)).heap[k]? := fun k hk hn => (o4.block k (Nat.lt_of_lt_of_le hk hb54.size) hn).trans (hb54.block k hk)
  have hbl4 := g_blks (W := (w5.setCell ⟨w11.heap.size, 2, none⟩ (.slice (some ⟨gN4, 0, none⟩) 2 cN4))) (b := w11.heap.size + 1 + 1) ((hW4 _ (by simp only [World.size_alloc, World.size_setCell]; omega) (by have := HB4.out; omega)).trans HN4.out.1.1) ((hW4 _ (by simp only [World.size_alloc, World.size_setCell]; omega) (by have := HB4.out; omega)).trans HN4.out.1.2.1)
  have hfs4 := fns_two (c := cN4) HF4.out hpb4 (hvr4.of_block (o4.block _ hgl4 hne4)) hbl4 (by simp [ByteArray.size]) (by unfold I64; omega) (by unfold I64; omega)
  have hir4 := (hW4 (w11.heap.size + 1) (by simp only [World.size_alloc, World.size_setCell]; omega) (by omega)).trans ((Below.heap_alloc _ _ _ (by simp)).trans ((Below.heap_alloc _ _ _ (by simp)).trans ((Below.heap_alloc _ _ _ (by simp)).trans HIR.out)))
  have hin4 : IntsIn (w5.setCell ⟨w11.heap.size, 2, none⟩ (.slice (some ⟨gN4, 0, none⟩) 2 cN4)) (.slice (some ⟨w11.heap.size + 1, 0, none⟩) 2 2) [0, 1] := RowIn.two (by omega) ⟨(cell_of_obj (i := 0) hir4).trans rfl, by unfold I64; omega⟩ ⟨(cell_of_obj (i := 1) hir4).trans rfl, by unfold I64; omega⟩
  have HT4 := fhid hin4
  clear hir4 hin4
  have HS4 := fhid (And.intro hfs4 (And.intro hq64 hpb4))
  clear hbl4 hfs4 hq64 hpb4 hW4 o4 hne4 hvr4 hb54 hq4 hgN4 hgl4 HN4 HQ4 HQQ4 HX4 HF4 HB4
  have HW16 := fhid (show Below W10.heap.size W10 (w5.setCell ⟨w11.heap.size, 2, none⟩ (.slice (some ⟨gN4, 0, none⟩) 2 cN4)) from HA4.out.trans (HS4.out.2.2.mono HA4.out.size))
  have hsz4 : w5.heap.size = (w5.setCell ⟨w11.heap.size, 2, none⟩ (.slice (some ⟨gN4, 0, none⟩) 2 cN4)).heap.size := by simp
  try rw [hsz4]
  clear hsz4 HM4 HA4 HIR
  generalize (w5.setCell ⟨w11.heap.size, 2, none⟩ (.slice (some ⟨gN4, 0, none⟩) 2 cN4)) = W16 at *
  have HR5 := fhid (prog16_any 0 1 (by unfold I64; omega) [] none 0 W16 ⟨by simp, none, 0, 0, 0, rfl, ⟨fun h => by simp at h, fun _ => rfl⟩, fun k x h => by simp at h⟩)
  refine HR5.out.mono ?_
  rintro e w17 ⟨v, rfl, hM, hb⟩
  obtain ⟨gT5, gF5, rfl, hT5, hF5, _, _⟩ := hM.ex
  have HR6 := fhid (frun_any w17 noneP (some ⟨gT5, 0, none⟩) 1 (some ⟨gF5, 0, none⟩) 1 (.slice none 0 0) [] hT5 (RowIn.one (by omega) hF5) ⟨by simp [maxLen], _, _, rfl, fun h => by simp at h⟩ (fun y hy => by cases hy) (by simp) (fun c n e => by cases e; rfl) 5 (by omega))
  have HA5 := fhid hb
  clear hM hb hT5 hF5 HR5
  go_wp2_with fail
  have h140 := none_ok
  refine HR6.out.mono ?_
  rintro e w18 ⟨v, rfl, hov, hb6⟩
  rw [h140]
  obtain ⟨po, no, co, ph, nh, ch, rfl, _, _⟩ := hov.here
  have HA6 := fhid (HA5.out.trans (hb6.mono HA5.out.size))
  clear hov hb6 HR6 h140 HA5
  go_wp2_with fail
  have hal19 : Below w18.heap.size w18 (w18.alloc (.cells #[.slice po no co, .int .u8 (fin16 noneP [] 5).kind, .int .u32 (fin16 noneP [] 5).v, .slice ph nh ch] 35)) := (Below.refl _ _).alloc (Nat.le_refl _) _
  have hb16 := HA6.out.trans (hal19.mono HA6.out.size)
  have hb10 := HW16.out.trans (hb16.mono HW16.out.size)
  have hb8 := HW10.out.trans (hb10.mono HW10.out.size)
  have hb6 := HW8.out.trans (hb8.mono HW8.out.size)
  have hb0 := HW6.out.trans (hb6.mono HW6.out.size)
  clear hal19 HA6 HW16 HW10 HW8 HW6
  generalize w18.alloc (.cells #[.slice po no co, .int .u8 (fin16 noneP [] 5).kind, .int .u32 (fin16 noneP [] 5).v, .slice ph nh ch] 35) = W19 at *
  have HV1 := fhid (HS1.out.2.1.below hb6)
  have HV2 := fhid (HS2.out.1.below hb8)
  have HV3 := fhid (HS3.out.1.below hb10)
  have HV4 := fhid (HS4.out.2.1.below hb16)
  have HKS := fhid (fun (W : World) (hW : Below W19.heap.size W19 W) => (show (W.cell? ⟨w1.heap.size, 0, none⟩ = some (.int .i64 16) ∧ W.cell? ⟨w1.heap.size, 1, none⟩ = some (.slice (some ⟨gT, 0, none⟩) 1 1) ∧ W.cell? ⟨w1.heap.size, 2, none⟩ = some (.slice (some ⟨gN1, 0, none⟩) 2 cN1)) ∧ (W.cell? ⟨w7.heap.size, 0, none⟩ = some (.int .i64 0) ∧ W.cell? ⟨w7.heap.size, 1, none⟩ = some (.slice (some ⟨gT2, 0, none⟩) 1 1) ∧ W.cell? ⟨w7.heap.size, 2, none⟩ = some (.slice (some ⟨gF2, 0, none⟩) 1 1)) ∧ (W.cell? ⟨w9.heap.size, 0, none⟩ = some (.int .i64 1) ∧ W.cell? ⟨w9.heap.size, 1, none⟩ = some (.slice (some ⟨gT3, 0, none⟩) 1 1) ∧ W.cell? ⟨w9.heap.size, 2, none⟩ = some (.slice (some ⟨gF3, 0, none⟩) 1 1)) ∧ (W.cell? ⟨w11.heap.size, 0, none⟩ = some (.int .i64 0) ∧ W.cell? ⟨w11.heap.size, 1, none⟩ = some (.slice (some ⟨w11.heap.size + 1, 0, none⟩) 2 2) ∧ W.cell? ⟨w11.heap.size, 2, none⟩ = some (.slice (some ⟨gN4, 0, none⟩) 2 cN4)) from
    ⟨⟨(HV1.out.below hW).cell (k := 0) rfl, (HV1.out.below hW).cell (k := 1) rfl, (HV1.out.below hW).cell (k := 2) rfl⟩, ⟨(HV2.out.below hW).cell (k := 0) rfl, (HV2.out.below hW).cell (k := 1) rfl, (HV2.out.below hW).cell (k := 2) rfl⟩, ⟨(HV3.out.below hW).cell (k := 0) rfl, (HV3.out.below hW).cell (k := 1) rfl, (HV3.out.below hW).cell (k := 2) rfl⟩, ⟨(HV4.out.below hW).cell (k := 0) rfl, (HV4.out.below hW).cell (k := 1) rfl, (HV4.out.below hW).cell (k := 2) rfl⟩⟩))
  have hnil : ∀ W : World, Reads32 W (.slice none 0 0) [] := fun W => ⟨by simp [maxLen], _, _, rfl, fun h => by simp at h⟩
  have HC1 := fhid (fun (W : World) (want : Value) (hW : Below W19.heap.size W19 W) (ho : OutV W want [10] 1 10 (List.replicate 16 0)) => head_call 16 rfl five_ok five_runs (IntsIn.keep (IntsIn.keep HT1.out hb6) hW) (FnsIn.keep (FnsIn.keep HS1.out.1 hb6) hW) (hnil W) (fun y hy => by cases hy) (by simp) (fun c n e => by cases e; rfl) ho hW)
  have HC2 := fhid (fun (W : World) (want : Value) (hW : Below W19.heap.size W19 W) (ho : OutV W want [] 2 1 []) => head_call 0 rfl div_ok div_runs (IntsIn.keep (IntsIn.keep HS2.out.2.1 hb8) hW) (FnsIn.keep (FnsIn.keep HS2.out.2.2 hb8) hW) (hnil W) (fun y hy => by cases hy) (by simp) (fun c n e => by cases e; rfl) ho hW)
  have HC3 := fhid (fun (W : World) (want : Value) (hW : Below W19.heap.size W19 W) (ho : OutV W want [] 2 2 [0]) => head_call 1 rfl heap_ok heap_runs (IntsIn.keep (IntsIn.keep HS3.out.2.1 hb10) hW) (FnsIn.keep (FnsIn.keep HS3.out.2.2 hb10) hW) (hnil W) (fun y hy => by cases hy) (by simp) (fun c n e => by cases e; rfl) ho hW)
  have HC4 := fhid (fun (W : World) (want cv : Value) (hW : Below W19.heap.size W19 W) (hcv : Reads32 W cv [1, 0]) (hnl : ∀ c n, cv = .slice none n c → c = 0) (ho : OutV W want [2, 1] 1 1 []) => head_call 0 rfl two_ok two_runs (IntsIn.keep (IntsIn.keep HT4.out hb16) hW) (FnsIn.keep (FnsIn.keep HS4.out.1 hb16) hW) hcv (fun y hy => by simp at hy; omega) (by simp) hnl ho hW)
  have HB0 := fhid hb0
  have hle : W19.heap.size ≤ W19.heap.size := Nat.le_refl _
  clear hb0 hb6 hb8 hb10 hb16 HV1 HV2 HV3 HV4 HS1 HS2 HS3 HS4 HT1 HT4
  have HNIL := fhid hnil
  clear hnil
  clear hif hzf hsf hbf hcf
  have mk : ∀ W : World, (Instr.makeSlice 26 (.int .i64 16) (.int .i64 16)).run Try.prog W = .ok (.slice (some ⟨W.heap.size, 0, none⟩) 16 16) (W.alloc (.cells (madeCells #[.int .u32 0] 16) 31)) := fun W => run_make_row' (P := Try.prog) 26 31 (.int .u32 0) 4 Try.underlying26 infofr rfl .i64 .i64 16 (by omega) (by omega) W
  go_region_held3 (fun W => (W.cell? ⟨w1.heap.size, 0, none⟩ = some (.int .i64 16) ∧ W.cell? ⟨w1.heap.size, 1, none⟩ = some (.slice (some ⟨gT, 0, none⟩) 1 1) ∧ W.cell? ⟨w1.heap.size, 2, none⟩ = some (.slice (some ⟨gN1, 0, none⟩) 2 cN1)) ∧ (W.cell? ⟨w7.heap.size, 0, none⟩ = some (.int .i64 0) ∧ W.cell? ⟨w7.heap.size, 1, none⟩ = some (.slice (some ⟨gT2, 0, none⟩) 1 1) ∧ W.cell? ⟨w7.heap.size, 2, none⟩ = some (.slice (some ⟨gF2, 0, none⟩) 1 1)) ∧ (W.cell? ⟨w9.heap.size, 0, none⟩ = some (.int .i64 1) ∧ W.cell? ⟨w9.heap.size, 1, none⟩ = some (.slice (some ⟨gT3, 0, none⟩) 1 1) ∧ W.cell? ⟨w9.heap.size, 2, none⟩ = some (.slice (some ⟨gF3, 0, none⟩) 1 1)) ∧ (W.cell? ⟨w11.heap.size, 0, none⟩ = some (.int .i64 0) ∧ W.cell? ⟨w11.heap.size, 1, none⟩ = some (.slice (some ⟨w11.heap.size + 1, 0, none⟩) 2 2) ∧ W.cell? ⟨w11.heap.size, 2, none⟩ = some (.slice (some ⟨gN4, 0, none⟩) 2 cN4))) (first | (refine HKS.out _ ?_; go_grown; done))
    (first
      | (go_at_call 24; (with_reducible refine (HC1.out _ _ ?hb ?ho).mono ?_); (case hb => go_grown; done); (case ho => exact ⟨_, _, _, _, _, _, rfl, reads_lit (l := [10]) (by simp [maxLen]) ⟨_, _, _, (by (try rw [hp_drew]); first | (rw [hp_alloc, if_pos]; all_goals (simp; done)) | (rw [hp_alloc, if_neg, hp_alloc, if_pos]; all_goals (simp; done))), (by first | rfl | exact made_u32 16)⟩, reads_lit (l := List.replicate 16 0) (by simp [maxLen]) ⟨_, _, _, (by (try rw [hp_drew]); first | (rw [hp_alloc, if_pos]; all_goals (simp; done)) | (rw [hp_alloc, if_neg, hp_alloc, if_pos]; all_goals (simp; done))), (by first | rfl | exact made_u32 16)⟩⟩); rintro e V1 ⟨rfl, hv1⟩; have hl1 : W19.heap.size ≤ V1.heap.size := hv1.size)
      | (go_at_call 24; (with_reducible refine (HC2.out _ _ ?hb ?ho).mono ?_); (case hb => go_grown; done); (case ho => exact ⟨_, _, _, _, _, _, rfl, HNIL.out _, HNIL.out _⟩); rintro e V2 ⟨rfl, hv2⟩; have hl2 : W19.heap.size ≤ V2.heap.size := hv2.size)
      | (go_at_call 24; (with_reducible refine (HC3.out _ _ ?hb ?ho).mono ?_); (case hb => go_grown; done); (case ho => exact ⟨_, _, _, _, _, _, rfl, HNIL.out _, reads_lit (l := [0]) (by simp [maxLen]) ⟨_, _, _, (by (try rw [hp_drew]); first | (rw [hp_alloc, if_pos]; all_goals (simp; done)) | (rw [hp_alloc, if_neg, hp_alloc, if_pos]; all_goals (simp; done))), (by first | rfl | exact made_u32 16)⟩⟩); rintro e V3 ⟨rfl, hv3⟩; have hl3 : W19.heap.size ≤ V3.heap.size := hv3.size)
      | (go_at_call 24; (with_reducible refine (HC4.out _ _ _ ?hb ?gq ?hn ?ho).mono ?_); (case hb => go_grown; done); (case gq => exact reads_lit (l := [1, 0]) (by simp [maxLen]) ⟨_, _, _, (by (try rw [hp_drew]); first | (rw [hp_alloc, if_pos]; all_goals (simp; done)) | (rw [hp_alloc, if_neg, hp_alloc, if_pos]; all_goals (simp; done))), (by first | rfl | exact made_u32 16)⟩); (case hn => (intro c n e; cases e)); (case ho => exact ⟨_, _, _, _, _, _, rfl, reads_lit (l := [2, 1]) (by simp [maxLen]) ⟨_, _, _, (by (try rw [hp_drew]); first | (rw [hp_alloc, if_pos]; all_goals (simp; done)) | (rw [hp_alloc, if_neg, hp_alloc, if_pos]; all_goals (simp; done))), (by first | rfl | exact made_u32 16)⟩, HNIL.out _⟩); rintro e V4 ⟨rfl, hv4⟩; have hl4 : W19.heap.size ≤ V4.heap.size := hv4.size))
  all_goals
    have HFIN := fhid (HB0.out.trans (hv4.mono HB0.out.size))
    clear HC1 HC2 HC3 HC4 HKS hv1 hv2 hv3 hv4 mk
    go_wp2_with fail
    go_ret
    exact ⟨rfl, HFIN.out⟩
end Go.Proofs.Ytdefooailcbnlaa
