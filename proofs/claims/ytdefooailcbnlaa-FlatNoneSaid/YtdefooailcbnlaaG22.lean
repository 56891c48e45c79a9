/- Several texts in one: ShapeRCheck, ShapeLaw, ShapeCopy, ShapePathsLaw, ShapeMore, ShapeAddsLaw. -/
import Derived.Test.YtdefooailcbnlaaG19
import Derived.Test.YtdefooailcbnlaaG20
import Derived.Test.YtdefooailcbnlaaG21
import Derived.Test.YtdefooailcbnlaaG05
import Derived.Test.YtdefooailcbnlaaG09
/- The walk of muntinref14.Check. -/
namespace Go.Proofs.Ytdefooailcbnlaa
open Go.RowKit Go.Deep
set_option linter.unusedVariables false
set_option linter.unusedSimpArgs false
theorem topB_no {p : Prg} (h : ¬ (0 ≤ p.heap ∧ p.heap ≤ 1024 ∧ 1 ≤ p.funcs.length ∧ p.funcs.length ≤ 64 ∧ 1 ≤ p.threads.length ∧ p.threads.length ≤ 4)) : topB p = false := by unfold topB; rw [decide_eq_false h]; rfl
theorem topB_bad {p : Prg} {k : Nat} {t : Int} (h : p.threads[k]? = some t) (hb : badT p.funcs t = true) : topB p = false := by
  unfold topB
  have : p.threads.any (badT p.funcs) = true := List.any_eq_true.2 ⟨t, List.mem_of_getElem? h, hb⟩
  rw [this]; simp
theorem topB_yes {p : Prg} (h : 0 ≤ p.heap ∧ p.heap ≤ 1024 ∧ 1 ≤ p.funcs.length ∧ p.funcs.length ≤ 64 ∧ 1 ≤ p.threads.length ∧ p.threads.length ≤ 4) (hb : ∀ t ∈ p.threads, badT p.funcs t = false) : topB p = true := by
  unfold topB
  have : p.threads.any (badT p.funcs) = false := List.any_eq_false.2 fun t ht => by rw [hb t ht]; simp
  rw [this, decide_eq_true h]; rfl
theorem inforow : (Try.prog.info? 97).map (fun i => (i.zero, i.size, i.bytes)) = some (some (.slice none 0 0), 1, 24) := by kernel_rfl
/-- The lacks of the first registers, in a slice of one's own. -/
def LackRow (w : World) (B : Nat) (v : Value) (bs : List Blk) (A r : Nat) : Prop :=
  ∃ xs, w.ownsRow B 97 1 v r xs ∧ ∀ q, q < r → ∃ u g, xs[q]? = some u ∧ SetAt w g u (lacksL bs A q)
theorem LackRow.below {w w' : World} {B : Nat} {v : Value} {bs : List Blk} {A r : Nat} (h : LackRow w B v bs A r) (hb : Below w.heap.size w w') : LackRow w' B v bs A r := by
  obtain ⟨xs, h1, h2⟩ := h
  refine ⟨xs, ownsRow_below h1 hb, fun q hq => ?_⟩
  obtain ⟨u, g, h3, h4⟩ := h2 q hq
  exact ⟨u, g, h3, h4.below hb⟩
theorem LackRow.apart {w : World} {B n : Nat} {v : Value} {xs : List Value} (h : w.ownsRow B 97 1 v n xs) {g : Nat} {l : List Value} (hg : VRow w g 4 l) : v.ownBlock ≠ some g := by
  intro e
  rcases h.2 with ⟨rfl, _⟩ | ⟨k, cap, cur, rfl, h2, h3, _⟩
  · cases e
  · simp only [Value.ownBlock, Option.some.injEq] at e
    subst e
    obtain ⟨c2, h4, _⟩ := hg
    rw [h3] at h4
    simp at h4
theorem SetAt.grown {w w' : World} {row : Option Nat} {g : Nat} {v : Value} {l : List Bool} (h : SetAt w g v l) (hg : w.grownBy w' row) (hr : row ≠ some g) : SetAt w' g v l := ⟨h.1, h.2.of_block (hg.block g h.2.lt (fun e => hr e.symm))⟩
theorem LackRow.more {w w' : World} {B : Nat} {v v' : Value} {bs : List Blk} {A r : Nat} {xs : List Value} (h : w.ownsRow B 97 1 v r xs) (h2 : ∀ q, q < r → ∃ u g, xs[q]? = some u ∧ SetAt w g u (lacksL bs A q)) {u : Value} {g : Nat} (hu : SetAt w g u (lacksL bs A r))
    (hown : w'.ownsRow B 97 1 v' (r + 1) (xs ++ [u])) (hgr : w.grownBy w' v.ownBlock) : LackRow w' B v' bs A (r + 1) := by
  refine ⟨_, hown, fun q hq => ?_⟩
  have hl : xs.length = r := by have := h.1; omega
  rcases Nat.lt_or_ge q r with h1 | h1
  · obtain ⟨u', g', h3, h4⟩ := h2 q h1
    exact ⟨u', g', by rw [List.getElem?_append_left (by omega)]; exact h3, h4.grown hgr (LackRow.apart h h4.2)⟩
  · obtain rfl : q = r := by omega
    exact ⟨u, g, by rw [List.getElem?_append_right (by omega), hl]; simp, hu.grown hgr (LackRow.apart h hu.2)⟩
theorem LackRow.in {w : World} {B : Nat} {p : Option Addr} {c : Nat} {bs : List Blk} {A r : Nat} (h : LackRow w B (.slice p r c) bs A r) : LacksIn w p bs A r := by
  obtain ⟨xs, h1, h2⟩ := h
  rcases Nat.eq_zero_or_pos r with h0 | h0
  · exact ⟨0, fun h => by omega, fun q hq => by omega⟩
  · obtain ⟨g, c', hv, _, hr⟩ := VRow.of_own h1 (fun e => by cases e; omega)
    cases hv
    refine ⟨g, fun _ => rfl, fun q hq => ?_⟩
    obtain ⟨u, k, h3, h4⟩ := h2 q hq
    exact ⟨u, k, hr.cell h3, h4⟩
end Go.Proofs.Ytdefooailcbnlaa
/- The walks of muntinlaw14.small, is, head. -/
namespace Go.Proofs.Ytdefooailcbnlaa
open Go.RowKit Go.Deep
set_option linter.unusedVariables false
set_option linter.unusedSimpArgs false
theorem RowIn.one {α : Type} {At : World → Nat → Nat → α → Prop} {size bytes : Nat} {w : World} {g : Nat} {x : α} (hb : bytes ≤ 140737488352000) (h : At w g 0 x) : RowIn At size bytes w (.slice (some ⟨g, 0, none⟩) 1 1) [x] :=
  ⟨by simpa using hb, some ⟨g, 0, none⟩, 1, g, 0, rfl, ⟨fun _ => rfl, fun h => by cases h⟩, fun k y hy => by
    match k, hy with
    | 0, hy => simp at hy; subst hy; simpa using h⟩
theorem RowIn.two {α : Type} {At : World → Nat → Nat → α → Prop} {size bytes : Nat} {w : World} {g : Nat} {x y : α} (hb : 2 * bytes ≤ 140737488352000) (h : At w g 0 x) (k : At w g size y) : RowIn At size bytes w (.slice (some ⟨g, 0, none⟩) 2 2) [x, y] :=
  ⟨by simpa using hb, some ⟨g, 0, none⟩, 2, g, 0, rfl, ⟨fun _ => rfl, fun h => by cases h⟩, fun j z hz => by
    match j, hz with
    | 0, hz => simp at hz; subst hz; simpa using h
    | 1, hz => simp at hz; subst hz; simpa using k⟩
theorem ints_nil (w : World) : IntsIn w (.slice none 0 0) [] := ⟨by simp, none, 0, 0, 0, rfl, ⟨fun h => by simp at h, fun _ => rfl⟩, fun k x h => by simp at h⟩
/-- The program of the known answers. -/
def smallP (heap regs : Int) (l : List Insx) : Prg := ⟨heap, [0], [⟨⟨#[109]⟩, 0, regs, [⟨⟨#[97]⟩, l⟩]⟩]⟩
/-- A program, as a value. -/
def PrgV (w : World) (v : Value) (p : Prg) : Prop := ∃ pt ct pf cf, v = .agg #[.int .i64 p.heap, .slice pt p.threads.length ct, .slice pf p.funcs.length cf] ∧ IntsIn w (.slice pt p.threads.length ct) p.threads ∧ FnsIn w (.slice pf p.funcs.length cf) p.funcs
theorem PrgV.keep {w w' : World} {v : Value} {p : Prg} (h : PrgV w v p) (hb : Below w.heap.size w w') : PrgV w' v p := by
  obtain ⟨pt, ct, pf, cf, rfl, h1, h2⟩ := h
  exact ⟨pt, ct, pf, cf, rfl, IntsIn.keep h1 hb, FnsIn.keep h2 hb⟩
def cX : Insx := ⟨0, 0, 0, 0, 1, 0, [], 0, 0⟩
def rX : Insx := ⟨10, 0, 0, 0, 0, 0, [], 0, 0⟩
theorem known1 : checkS (smallP 0 1 [cX, rX]) = (0, 0, 0) := by decide
theorem known2 : checkS (smallP 0 1 [rX]) = (0, 0, 140) := by decide
theorem known3 : checkS (smallP 0 2 [cX, rX]) = (0, -1, 140) := by decide
theorem known4 : checkS (smallP 0 1 [cX]) = (0, 0, 140) := by decide
theorem known5 : checkS (smallP (-1) 1 [cX, rX]) = (-1, -1, 140) := by decide
theorem insxAt_new {w : World} {g o : Nat} {x : Insx} (ha : x.args = []) (hb : x.bd) (h : ∀ j u, [Value.int .u8 x.op, .int .i64 x.d, .int .i64 x.a, .int .i64 x.b, .int .u32 x.n, .int .i64 x.f, .slice none 0 0, .int .i64 x.l1, .int .i64 x.l2][j]? = some u → w.cell? ⟨g, o + j, none⟩ = some u) : InsxAt w g o x :=
  ⟨h 0 _ rfl, h 1 _ rfl, h 2 _ rfl, h 3 _ rfl, h 4 _ rfl, h 5 _ rfl, ⟨_, h 6 _ rfl, by rw [ha]; exact ints_nil w⟩, h 7 _ rfl, h 8 _ rfl, hb⟩
theorem cX_bd : cX.bd := by unfold Insx.bd cX I64; simp
theorem rX_bd : rX.bd := by unfold Insx.bd rX I64; simp
theorem insx_two (w : World) : InsxIn (w.alloc (.cells #[.int .u8 0, .int .i64 0, .int .i64 0, .int .i64 0, .int .u32 1, .int .i64 0, .slice none 0 0, .int .i64 0, .int .i64 0, .int .u8 10, .int .i64 0, .int .i64 0, .int .i64 0, .int .u32 0, .int .i64 0, .slice none 0 0, .int .i64 0, .int .i64 0] 44)) (.slice (some ⟨w.heap.size, 0, none⟩) 2 2) [cX, rX] := by
  have k := fun i => cell_of_obj (i := i) (heap_alloc_new w (.cells #[.int .u8 0, .int .i64 0, .int .i64 0, .int .i64 0, .int .u32 1, .int .i64 0, .slice none 0 0, .int .i64 0, .int .i64 0, .int .u8 10, .int .i64 0, .int .i64 0, .int .i64 0, .int .u32 0, .int .i64 0, .slice none 0 0, .int .i64 0, .int .i64 0] 44))
  refine RowIn.two (by omega) (insxAt_new rfl cX_bd fun j u hj => ?_) (insxAt_new rfl rX_bd fun j u hj => ?_)
  · rw [k]; rcases j with _ | _ | _ | _ | _ | _ | _ | _ | _ | j <;> simp [cX] at hj ⊢ <;> assumption
  · rw [k]; rcases j with _ | _ | _ | _ | _ | _ | _ | _ | _ | j <;> simp [rX] at hj ⊢ <;> assumption
theorem insx_c (w : World) : InsxIn (w.alloc (.cells #[.int .u8 0, .int .i64 0, .int .i64 0, .int .i64 0, .int .u32 1, .int .i64 0, .slice none 0 0, .int .i64 0, .int .i64 0] 44)) (.slice (some ⟨w.heap.size, 0, none⟩) 1 1) [cX] := by
  have k := fun i => cell_of_obj (i := i) (heap_alloc_new w (.cells #[.int .u8 0, .int .i64 0, .int .i64 0, .int .i64 0, .int .u32 1, .int .i64 0, .slice none 0 0, .int .i64 0, .int .i64 0] 44))
  refine RowIn.one (by omega) (insxAt_new rfl cX_bd fun j u hj => ?_)
  rw [k]; rcases j with _ | _ | _ | _ | _ | _ | _ | _ | _ | j <;> simp [cX] at hj ⊢ <;> assumption
theorem insx_r (w : World) : InsxIn (w.alloc (.cells #[.int .u8 10, .int .i64 0, .int .i64 0, .int .i64 0, .int .u32 0, .int .i64 0, .slice none 0 0, .int .i64 0, .int .i64 0] 44)) (.slice (some ⟨w.heap.size, 0, none⟩) 1 1) [rX] := by
  have k := fun i => cell_of_obj (i := i) (heap_alloc_new w (.cells #[.int .u8 10, .int .i64 0, .int .i64 0, .int .i64 0, .int .u32 0, .int .i64 0, .slice none 0 0, .int .i64 0, .int .i64 0] 44))
  refine RowIn.one (by omega) (insxAt_new rfl rX_bd fun j u hj => ?_)
  rw [k]; rcases j with _ | _ | _ | _ | _ | _ | _ | _ | _ | j <;> simp [rX] at hj ⊢ <;> assumption
end Go.Proofs.Ytdefooailcbnlaa
/- Rows of structs, copied into blocks of one's own. No function of the program is walked here. -/
namespace Go.Proofs.Ytdefooailcbnlaa
open Go.RowKit
set_option linter.unusedVariables false
set_option linter.unusedSimpArgs false
/-- What lies in size cells, each of them one; and it may lie elsewhere. -/
structure Flat {α : Type} (At : World → Nat → Nat → α → Prop) (size : Nat) : Prop where
  cells : ∀ (w : World) b o x, At w b o x → ∀ j, j < size → ∃ u, w.cell? ⟨b, o + j, none⟩ = some u ∧ u.oneCell' = true
  move : ∀ (w W : World) b o g q x, At w b o x → Below w.heap.size w W → (∀ j, j < size → W.cell? ⟨g, q + j, none⟩ = w.cell? ⟨b, o + j, none⟩) → At W g q x
theorem one_slice {α : Type} {At : World → Nat → Nat → α → Prop} {size bytes : Nat} {w : World} {v : Value} {l : List α} (h : RowIn At size bytes w v l) : v.oneCell' = true := by
  obtain ⟨p, c, rfl⟩ := h.shape; rfl
theorem flat_int : Flat IntAt 1 := by
  refine ⟨fun w b o x h j hj => ?_, fun w W b o g q x h hb hc => ⟨(hc 0 (by omega)).trans h.1, h.2⟩⟩
  obtain rfl : j = 0 := by omega
  exact ⟨_, h.1, rfl⟩
theorem flat_ins : Flat InsxAt 9 := by
  refine ⟨fun w b o x h j hj => ?_, fun w W b o g q x h hb hc => ?_⟩
  · obtain ⟨v, h6, hv⟩ := h.c6
    rcases j with _ | _ | _ | _ | _ | _ | _ | _ | _ | j
    · exact ⟨_, h.c0, rfl⟩
    · exact ⟨_, h.c1, rfl⟩
    · exact ⟨_, h.c2, rfl⟩
    · exact ⟨_, h.c3, rfl⟩
    · exact ⟨_, h.c4, rfl⟩
    · exact ⟨_, h.c5, rfl⟩
    · exact ⟨_, h6, one_slice hv⟩
    · exact ⟨_, h.c7, rfl⟩
    · exact ⟨_, h.c8, rfl⟩
    · omega
  · obtain ⟨v, h6, hv⟩ := h.c6
    exact ⟨(hc 0 (by omega)).trans h.c0, (hc 1 (by omega)).trans h.c1, (hc 2 (by omega)).trans h.c2, (hc 3 (by omega)).trans h.c3, (hc 4 (by omega)).trans h.c4, (hc 5 (by omega)).trans h.c5, ⟨v, (hc 6 (by omega)).trans h6, IntsIn.keep hv hb⟩, (hc 7 (by omega)).trans h.c7, (hc 8 (by omega)).trans h.c8, h.bd⟩
theorem flat_blk : Flat BlkAt 2 := by
  refine ⟨fun w b o x h j hj => ?_, fun w W b o g q x h hb hc => ?_⟩
  · obtain ⟨v, h1, hv⟩ := h.c1
    rcases j with _ | _ | j
    · exact ⟨_, h.c0, rfl⟩
    · exact ⟨_, h1, one_slice hv⟩
    · omega
  · obtain ⟨v, h1, hv⟩ := h.c1
    exact ⟨(hc 0 (by omega)).trans h.c0, ⟨v, (hc 1 (by omega)).trans h1, InsxIn.keep hv hb⟩, h.nm⟩
theorem flat_fn : Flat FnAt 4 := by
  refine ⟨fun w b o x h j hj => ?_, fun w W b o g q x h hb hc => ?_⟩
  · obtain ⟨v, h3, hv⟩ := h.c3
    rcases j with _ | _ | _ | _ | j
    · exact ⟨_, h.c0, rfl⟩
    · exact ⟨_, h.c1, rfl⟩
    · exact ⟨_, h.c2, rfl⟩
    · exact ⟨_, h3, one_slice hv⟩
    · omega
  · obtain ⟨v, h3, hv⟩ := h.c3
    exact ⟨(hc 0 (by omega)).trans h.c0, (hc 1 (by omega)).trans h.c1, (hc 2 (by omega)).trans h.c2, ⟨v, (hc 3 (by omega)).trans h3, BlksIn.keep hv hb⟩, h.nm, h.ba, h.br⟩
/-- The cells of a row. -/
def rowCells (w : World) (b o n : Nat) : List Value := (List.range n).map fun j => (w.cell? ⟨b, o + j, none⟩).getD undef
theorem rowCells_length (w : World) (b o n : Nat) : (rowCells w b o n).length = n := by simp [rowCells]
theorem rowCells_get {w : World} {b o n j : Nat} (hj : j < n) : (rowCells w b o n)[j]? = some ((w.cell? ⟨b, o + j, none⟩).getD undef) := by simp [rowCells, hj]
section
variable {α : Type} {At : World → Nat → Nat → α → Prop} {size bytes : Nat}
theorem row_cells (hF : Flat At size) {w : World} {b o : Nat} {l : List α} (h : ∀ (k : Nat) x, l[k]? = some x → At w b (o + k * size) x) (j : Nat) (hj : j < l.length * size) : ∃ u, w.cell? ⟨b, o + j, none⟩ = some u ∧ u.oneCell' = true := by
  have hs : 0 < size := by rcases Nat.eq_zero_or_pos size with e | e; · rw [e] at hj; simp at hj
                           · exact e
  have hk : j / size < l.length := (Nat.div_lt_iff_lt_mul hs).2 hj
  have h1 := hF.cells w b _ _ (h (j / size) _ (List.getElem?_eq_getElem hk)) (j % size) (Nat.mod_lt _ hs)
  have e : o + j / size * size + j % size = o + j := by rw [Nat.add_assoc, Nat.mul_comm, Nat.div_add_mod]
  rw [e] at h1; exact h1
theorem rowCells_news (hF : Flat At size) {w : World} {b o : Nat} {l : List α} (h : ∀ (k : Nat) x, l[k]? = some x → At w b (o + k * size) x) : (∀ j u, (rowCells w b o (l.length * size))[j]? = some u → w.cell? ⟨b, o + j, none⟩ = some u) ∧ (∀ u ∈ rowCells w b o (l.length * size), u.oneCell' = true) := by
  refine ⟨fun j u hu => ?_, fun u hu => ?_⟩
  · have hj : j < l.length * size := by
      rcases Nat.lt_or_ge j (l.length * size) with h | h
      · exact h
      · rw [List.getElem?_eq_none (by rw [rowCells_length]; exact h)] at hu; cases hu
    obtain ⟨u', h1, _⟩ := row_cells hF h j hj
    rw [rowCells_get hj, h1] at hu
    rw [h1]; simpa using hu
  · obtain ⟨j, hj⟩ := List.getElem?_of_mem hu
    have hjl : j < l.length * size := by
      rcases Nat.lt_or_ge j (l.length * size) with h | h
      · exact h
      · rw [List.getElem?_eq_none (by rw [rowCells_length]; exact h)] at hj; cases hj
    obtain ⟨u', h1, h2⟩ := row_cells hF h j hjl
    rw [rowCells_get hjl, h1] at hj
    simp at hj; rw [← hj]; exact h2
/-- A row that lies in a block of one's own as it lay elsewhere. -/
theorem row_moved (hF : Flat At size) {w W : World} {b o g q : Nat} {l : List α} (h : ∀ (k : Nat) x, l[k]? = some x → At w b (o + k * size) x) (hb : Below w.heap.size w W) (hc : ∀ j, j < l.length * size → W.cell? ⟨g, q + j, none⟩ = w.cell? ⟨b, o + j, none⟩) (k : Nat) (x : α) (hx : l[k]? = some x) : At W g (q + k * size) x := by
  have hk : k < l.length := (List.getElem?_eq_some_iff.1 hx).1
  refine hF.move w W b (o + k * size) g (q + k * size) x (h k x hx) hb fun j hj => ?_
  have hlt : k * size + j < l.length * size := by
    have : (k + 1) * size ≤ l.length * size := Nat.mul_le_mul_right _ hk
    rw [Nat.succ_mul] at this; omega
  have := hc (k * size + j) hlt
  rw [← Nat.add_assoc, ← Nat.add_assoc] at this
  exact this
end
theorem rowIn_upd {α : Type} {At : World → Nat → Nat → α → Prop} {size bytes : Nat} (hF : Flat At size) {w W : World} {b o g c m : Nat} {l : List α} {y : α} (h : ∀ (k : Nat) x, l[k]? = some x → At w b (o + k * size) x) (hby : l.length * bytes ≤ 140737488352000) (hb : Below w.heap.size w W) (hc : ∀ j i, j < l.length → j ≠ m → i < size → W.cell? ⟨g, j * size + i, none⟩ = w.cell? ⟨b, o + (j * size + i), none⟩) (hml : m < l.length) (hm : At W g (m * size) y) :
    RowIn At size bytes W (.slice (some ⟨g, 0, none⟩) l.length c) (l.set m y) := by
  refine ⟨by simpa using hby, some ⟨g, 0, none⟩, c, g, 0, by simp, ⟨fun _ => rfl, fun h => by cases h⟩, fun j x hx => ?_⟩
  rw [Nat.zero_add]
  by_cases e : m = j
  · subst e
    rw [List.getElem?_set_self hml] at hx
    cases hx; exact hm
  · rw [List.getElem?_set_ne e] at hx
    refine hF.move w W b (o + j * size) g (j * size) x (h j x hx) hb fun i hi => ?_
    rw [hc j i (List.getElem?_eq_some_iff.1 hx).1 (fun h => e h.symm) hi, Nat.add_assoc]
theorem rowIn_cons {α : Type} {At : World → Nat → Nat → α → Prop} {size bytes : Nat} (hF : Flat At size) {w W : World} {b o g c n : Nat} {l : List α} {y : α} (h : ∀ (k : Nat) x, l[k]? = some x → At w b (o + k * size) x) (hby : (l.length + 1) * bytes ≤ 140737488352000) (hb : Below w.heap.size w W) (hc : ∀ j i, j < l.length → i < size → W.cell? ⟨g, (j + 1) * size + i, none⟩ = w.cell? ⟨b, o + (j * size + i), none⟩) (hn : n = l.length + 1) (hm : At W g 0 y) :
    RowIn At size bytes W (.slice (some ⟨g, 0, none⟩) n c) (y :: l) := by
  subst hn
  refine ⟨by simpa using hby, some ⟨g, 0, none⟩, c, g, 0, by simp, ⟨fun _ => rfl, fun h => by cases h⟩, fun j x hx => ?_⟩
  rw [Nat.zero_add]
  cases j with
  | zero => simp at hx; subst hx; simpa using hm
  | succ j =>
    rw [List.getElem?_cons_succ] at hx
    refine hF.move w W b (o + j * size) g ((j + 1) * size) x (h j x hx) hb fun i hi => ?_
    rw [hc j i (List.getElem?_eq_some_iff.1 hx).1 hi, Nat.add_assoc]
/-- A block of one's own, whatever its things are long. -/
theorem VRow.of_own' {w : World} {base n size : Nat} {t : TypeId} {v : Value} {xs : List Value} (h : w.ownsRow base t size v n xs) (hv : v ≠ .slice none 0 0) : ∃ g c, v = .slice (some ⟨g, 0, none⟩) n c ∧ base ≤ g ∧ g < w.heap.size ∧ VRow w g t xs := by
  rcases h.2 with ⟨rfl, _⟩ | ⟨g, cap, cur, rfl, h2, h3, h4, h5, h6, h7⟩
  · exact absurd rfl hv
  · refine ⟨g, cap, rfl, h2, lt_of_block h3, cur, h3, fun k x hx => ?_⟩
    rw [← h7] at hx
    rw [List.getElem?_take] at hx
    split at hx
    · rw [← Array.getElem?_toList]; exact hx
    · cases hx
end Go.Proofs.Ytdefooailcbnlaa
/- What a program that may be says of its paths. No function of the program is walked here. -/
namespace Go.Proofs.Ytdefooailcbnlaa
open Go.RowKit
set_option linter.unusedVariables false
set_option linter.unusedSimpArgs false
/-- All blocks read nothing that is not surely there. -/
def MissOk (fs : List Fnx) : Prop := ∀ (n : Nat) x, fs[n]? = some x → ∀ i, i < x.blocks.length → missB x.blocks x.args i = false
theorem checkS_may {p : Prg} (h : (checkS p).2.2 = 0) : topB p = true ∧ HeadsOk p.funcs ∧ BlocksOk p.funcs ∧ MissOk p.funcs := by
  unfold checkS at h
  split at h
  · cases h
  · rename_i ht
    split at h
    · cases h
    · rename_i hs
      split at h
      · cases h
      · rename_i hb
        split at h
        · cases h
        · rename_i hm
          have h1 := seek_none_iff _ _ hs
          have h2 := seek2_none_iff _ _ hb
          have h3 := seek2_none_iff _ _ hm
          refine ⟨by simpa using ht, heads_of fun m hm => h1 m (Nat.zero_le _) (by omega), blocks_of fun m hm q hq => h2 m (Nat.zero_le _) (by omega) q hq, fun n x hx i hi => ?_⟩
          have := h3 n (Nat.zero_le _) (by have := (List.getElem?_eq_some_iff.1 hx).1; omega) i (by rw [nbOf_at hx]; exact hi)
          rw [badMiss_at hx] at this; exact this
theorem checkS_err {p : Prg} (h : (checkS p).2.2 ≠ 0) : (checkS p).2.2 = 140 := by
  unfold checkS at h ⊢
  split
  · rfl
  · rename_i ht
    rw [if_neg ht] at h
    split
    · rfl
    · rename_i hs
      rw [hs] at h
      split
      · rfl
      · rename_i hb
        rw [hb] at h
        split
        · rfl
        · rename_i hm
          rw [hm] at h
          exact absurd rfl h
theorem checkS_of {p : Prg} (h1 : topB p = true) (h2 : HeadsOk p.funcs) (h3 : BlocksOk p.funcs) (h4 : MissOk p.funcs) : checkS p = (0, 0, 0) := by
  refine checkS_ok h1 (fun m hm => ?_) (fun m hm q hq => ?_) (fun m hm q hq => ?_)
  · have hx := List.getElem?_eq_getElem hm
    rw [badHead_at hx, h2 m _ hx]; rfl
  · have hx := List.getElem?_eq_getElem hm
    rw [nbOf_at hx] at hq
    have hb := List.getElem?_eq_getElem hq
    rw [badBlock_at hx hb, h3 m _ hx q _ hb]; rfl
  · have hx := List.getElem?_eq_getElem hm
    rw [nbOf_at hx] at hq
    rw [badMiss_at hx]; exact h4 m _ hx q hq
/-- On a path: what is not there, is lacked so far. -/
structure PathAt (bs : List Blk) (A R : Nat) (a k : Nat) (th : List Bool) : Prop where
  len : th.length = R
  lack : ∀ r : Nat, th[r]? = some false → Lack bs A r a ∧ wrB (insAt bs a) r k = false
theorem path_start (bs : List Blk) (A R : Nat) : PathAt bs A R 0 0 (firstL R A) := by
  refine ⟨firstL_length _ _, fun r hr => ⟨?_, rfl⟩⟩
  have hrR : r < R := by have := (List.getElem?_eq_some_iff.1 hr).1; rwa [firstL_length] at this
  rw [firstL_get hrR] at hr
  simp at hr
  exact .start (by omega)
theorem path_read {bs : List Blk} {A R : Nat} (hbk : BlksOk R bs) (hm : ∀ i, i < bs.length → missB bs A i = false) {a k : Nat} {th : List Bool} (h : PathAt bs A R a k th) (ha : a < bs.length) {x : Insx} (hx : (insAt bs a)[k]? = some x) {r : Nat} (hr : (r : Int) ∈ readsS x) : th[r]? = some true := by
  obtain ⟨h0, h1⟩ := (hbk.names a x (List.mem_of_getElem? hx)).1 _ hr
  have hlt : r < th.length := by rw [h.len]; omega
  obtain ⟨y, hy⟩ : ∃ y, th[r]? = some y := ⟨_, List.getElem?_eq_getElem hlt⟩
  cases y with
  | true => exact hy
  | false =>
    obtain ⟨l1, l2⟩ := h.lack r hy
    have hmb : missB bs A a = true := by
      unfold missB
      rw [List.any_eq_true]
      have hk : k < (insAt bs a).length := (List.getElem?_eq_some_iff.1 hx).1
      refine ⟨k, List.mem_range.2 hk, ?_⟩
      unfold missAt
      rw [hx]
      simp only [List.any_eq_true, Bool.and_eq_true, Bool.not_eq_true']
      refine ⟨r, hr, ?_, l2⟩
      unfold lackF
      rw [Int.toNat_natCast, (lacks_iff hbk.flow hbk.some a).2 l1]
      rfl
    rw [hm a ha] at hmb
    cases hmb
theorem wrB_succ {l : List Insx} {k : Nat} {x : Insx} (hx : l[k]? = some x) (r : Int) : wrB l r (k + 1) = (wrB l r k || (writesB x && decide (writesD x = r))) := by
  unfold wrB
  rw [stake_get hx, List.any_append]
  simp
theorem path_write {bs : List Blk} {A R : Nat} (hbk : BlksOk R bs) {a k : Nat} {th : List Bool} (h : PathAt bs A R a k th) {x : Insx} (hx : (insAt bs a)[k]? = some x) : PathAt bs A R a (k + 1) (wr1 th x) := by
  refine ⟨by rw [wr1_length]; exact h.len, fun r hr => ?_⟩
  unfold wr1 at hr
  rw [wrB_succ hx]
  split at hr
  · rename_i hw
    have h0 := ((hbk.names a x (List.mem_of_getElem? hx)).2 hw).1
    by_cases e : x.d.toNat = r
    · subst e
      rw [List.getElem?_set_self'] at hr
      cases hs : th[x.d.toNat]? <;> rw [hs] at hr <;> simp at hr
    · rw [List.getElem?_set_ne e] at hr
      obtain ⟨l1, l2⟩ := h.lack r hr
      refine ⟨l1, ?_⟩
      rw [l2, show writesD x = x.d from if_pos hw, decide_eq_false (by omega)]; simp
  · rename_i hw
    obtain ⟨l1, l2⟩ := h.lack r hr
    refine ⟨l1, ?_⟩
    rw [l2]; simp [hw]
theorem path_go {bs : List Blk} {A R : Nat} (hbk : BlksOk R bs) {a k : Nat} {th : List Bool} (h : PathAt bs A R a k th) (hk : k = (insAt bs a).length) {j : Int} (hj : j ∈ goesOf bs a) : PathAt bs A R j.toNat 0 th :=
  ⟨h.len, fun r hr => by
    obtain ⟨l1, l2⟩ := h.lack r hr
    rw [hk] at l2
    exact ⟨.next a j l1 l2 hj, rfl⟩⟩
theorem goes_last {bs : List Blk} {a k : Nat} {x : Insx} (hx : (insAt bs a)[k]? = some x) (hk : k + 1 = (insAt bs a).length) : goesOf bs a = goesS x := by
  unfold goesOf
  rw [← hk, Nat.add_sub_cancel, hx]; rfl
end Go.Proofs.Ytdefooailcbnlaa
/- Programs that still may be: another heap, other names, one write more. No function of the program is walked here. -/
namespace Go.Proofs.Ytdefooailcbnlaa
open Go.RowKit
set_option linter.unusedVariables false
set_option linter.unusedSimpArgs false
theorem checkS_congr {p q : Prg} (ht : topB p = topB q) (hf : p.funcs = q.funcs) : checkS p = checkS q := by
  unfold checkS; rw [ht, hf]
theorem topB_heap (h1 h2 : Int) (ts : List Int) (fs : List Fnx) (k1 : 0 ≤ h1 ∧ h1 ≤ 1024) (k2 : 0 ≤ h2 ∧ h2 ≤ 1024) : topB ⟨h1, ts, fs⟩ = topB ⟨h2, ts, fs⟩ := by
  unfold topB
  simp only
  congr 1
  simp only [decide_eq_decide]
  omega
/-! ### Names -/
def sfx (s : ByteArray) : ByteArray := s ++ ⟨#[95, 120]⟩
theorem sfx_list (s : ByteArray) : (sfx s).data.toList = s.data.toList ++ [95, 120] := by
  unfold sfx
  rw [ByteArray.data_append]; simp
theorem sfx_inj {s t : ByteArray} (h : sfx s = sfx t) : s = t := by
  have h1 := congrArg (fun b : ByteArray => b.data.toList) h
  simp only [sfx_list] at h1
  have h2 := List.append_cancel_right h1
  apply ByteArray.ext
  exact Array.toList_inj.1 h2
theorem sfx_name {s : ByteArray} (h : nameB s.data.toList = true) (hl : s.size ≤ 60) : nameB (sfx s).data.toList = true := by
  rw [sfx_list]
  have hs : s.size = s.data.toList.length := by show s.data.size = _; rw [Array.length_toList]
  rw [hs] at hl
  clear hs
  generalize s.data.toList = l at *
  cases l with
  | nil => cases h
  | cons c r =>
    simp only [List.cons_append]
    unfold nameB at h ⊢
    simp only [Bool.and_eq_true, decide_eq_true_eq, Bool.not_eq_true', List.length_append, List.length_cons, List.length_nil] at h ⊢
    obtain ⟨⟨⟨h1, h2⟩, h3⟩, h4⟩ := h
    refine ⟨⟨⟨by simp at hl; omega, h2⟩, ?_⟩, ?_⟩
    · unfold allwB at h3 ⊢
      rw [List.all_append, h3]
      simp [wordP, letP, digP]
    · have : alldB (r ++ [95, 120]) = false := by
        unfold alldB
        rw [List.all_append]
        simp [digP]
      rw [this]; simp
def renB (b : Blk) : Blk := ⟨sfx b.name, b.ins⟩
def renF (f : Fnx) : Fnx := ⟨sfx f.name, f.args, f.regs, f.blocks.map renB⟩
theorem ren_ins (bs : List Blk) (i : Nat) : insAt (bs.map renB) i = insAt bs i := by
  unfold insAt
  rw [List.getElem?_map]
  cases bs[i]? <;> rfl
theorem ren_great (bs : List Blk) : greatestS (bs.map renB) = greatestS bs := by
  unfold greatestS
  rw [List.foldl_map]; rfl
theorem ren_args (fs : List Fnx) (k : Nat) : argsOf (fs.map renF) k = argsOf fs k := by
  unfold argsOf
  rw [List.getElem?_map]
  cases fs[k]? <;> rfl
theorem ren_insF (fs : List Fnx) (nb : Nat) (op d a b n f : Int) (args : List Int) (l1 l2 : Int) : insF (fs.map renF) nb op d a b n f args l1 l2 = insF fs nb op d a b n f args l1 l2 := by
  unfold insF
  rw [List.length_map, ren_args]
theorem bytes_list (a : ByteArray) : a.toList = a.data.toList := ByteArray.toList_eq a
theorem bytes_eq {a b : ByteArray} (h : (a == b) = true) : a = b := by
  rw [beq_toListBytes] at h
  have h1 := eq_of_beq h
  rw [bytes_list, bytes_list] at h1
  apply ByteArray.ext
  exact Array.toList_inj.1 h1
theorem bytes_self (a : ByteArray) : (a == a) = true := by rw [beq_toListBytes]; simp
theorem ren_twice {nm nm' : Nat → ByteArray} (n : Nat) (hn : ∀ i, i ≤ n → nm' i = sfx (nm i)) (hl : (nm n).size ≤ 60) (h : twiceB nm n = false) : twiceB nm' n = false := by
  unfold twiceB at h ⊢
  simp only [Bool.or_eq_false_iff, Bool.not_eq_false'] at h ⊢
  obtain ⟨h1, h2⟩ := h
  refine ⟨?_, by rw [hn n (Nat.le_refl _)]; exact sfx_name h2 hl⟩
  rw [List.any_eq_false] at h1 ⊢
  intro i hi
  have hne : nm i ≠ nm n := fun e => h1 i hi (by rw [e]; exact bytes_self _)
  intro e
  have e' : nm' i = nm' n := bytes_eq e
  rw [hn i (by have := List.mem_range.1 hi; omega), hn n (Nat.le_refl _)] at e'
  exact hne (sfx_inj e')
theorem ren_wr {bs : List Blk} : ∀ i, goesOf (bs.map renB) i = goesOf bs i := fun i => by unfold goesOf; rw [ren_ins]
theorem ren_lstep (bs : List Blk) (r : Nat) (o : List Bool) (i : Nat) : lstep (bs.map renB) r o i = lstep bs r o i := by
  unfold lstep; rw [ren_ins, ren_wr]
theorem ren_lpass (bs : List Blk) (r : Nat) (o : List Bool) : ∀ n, lpass (bs.map renB) r o n = lpass bs r o n
  | 0 => rfl
  | n + 1 => by rw [lpass_succ, lpass_succ, ren_lpass bs r o n, ren_lstep]
theorem ren_lpasses (bs : List Blk) (r : Nat) (o : List Bool) : ∀ n, lpasses (bs.map renB) r o n = lpasses bs r o n
  | 0 => rfl
  | n + 1 => by
    show lpass (bs.map renB) r (lpasses (bs.map renB) r o n) (bs.map renB).length = lpass bs r (lpasses bs r o n) bs.length
    rw [ren_lpasses bs r o n, List.length_map, ren_lpass]
theorem ren_lacks (bs : List Blk) (A : Int) (r : Nat) : lacksL (bs.map renB) A r = lacksL bs A r := by
  unfold lacksL linit
  rw [List.length_map, ren_lpasses]
theorem ren_miss (bs : List Blk) (A : Int) (n : Nat) : missB (bs.map renB) A n = missB bs A n := by
  unfold missB lackF
  rw [ren_ins]
  simp only [ren_lacks]
theorem ren_ok {hp : Int} {ts : List Int} {fs : List Fnx} (hl : ∀ f ∈ fs, f.name.size ≤ 60 ∧ ∀ b ∈ f.blocks, b.name.size ≤ 60) (h : (checkS ⟨hp, ts, fs⟩).2.2 = 0) : checkS ⟨hp, ts, fs.map renF⟩ = (0, 0, 0) := by
  obtain ⟨h1, h2, h3, h4⟩ := checkS_may h
  have hget : ∀ (n : Nat) y, (fs.map renF)[n]? = some y → ∃ x, fs[n]? = some x ∧ y = renF x := by
    intro n y hy
    rw [List.getElem?_map] at hy
    cases hx : fs[n]? with
    | none => rw [hx] at hy; cases hy
    | some x => rw [hx] at hy; cases hy; exact ⟨x, rfl, rfl⟩
  refine checkS_of ?_ (fun n y hy => ?_) (fun n y hy i b hb => ?_) (fun n y hy i hi => ?_)
  · rw [← h1]
    unfold topB
    simp only [List.length_map]
    congr 2
    refine congrArg (fun g => List.any ts g) (funext fun t => ?_)
    unfold badT
    rw [List.length_map, ren_args]
  · obtain ⟨x, hx, rfl⟩ := hget n y hy
    have h := h2 n x hx
    unfold headB at h ⊢
    simp only [Bool.and_eq_true, Bool.not_eq_true', decide_eq_true_eq] at h ⊢
    obtain ⟨k1, k2⟩ := h
    refine ⟨ren_twice (nm := fnNames fs) n (fun i hi => ?_) ?_ k1, ?_⟩
    · have hin : i < fs.length := by have := (List.getElem?_eq_some_iff.1 hx).1; omega
      have hxi := List.getElem?_eq_getElem hin
      rw [fnNames_at hxi, fnNames_at (x := renF fs[i]) (by rw [List.getElem?_map, hxi]; rfl)]
      rfl
    · rw [fnNames_at hx]; exact (hl x (List.mem_of_getElem? hx)).1
    · show 0 ≤ x.args ∧ x.args ≤ 6 ∧ x.regs = max x.args (greatestS (x.blocks.map renB)) ∧ x.regs ≤ 4096 ∧ 0 < (x.blocks.map renB).length
      rw [ren_great, List.length_map]; exact k2
  · obtain ⟨x, hx, rfl⟩ := hget n y hy
    have hb' : (x.blocks.map renB)[i]? = some b := hb
    rw [List.getElem?_map] at hb'
    cases hxb : x.blocks[i]? with
    | none => rw [hxb] at hb'; cases hb'
    | some c =>
      rw [hxb] at hb'
      obtain rfl : renB c = b := by simpa using hb'
      have h := h3 n x hx i c hxb
      show blockB (fs.map renF) (x.blocks.map renB) i (renB c) = true
      unfold blockB at h ⊢
      simp only [Bool.and_eq_true, Bool.not_eq_true', decide_eq_true_eq] at h ⊢
      obtain ⟨⟨k1, k2⟩, k3⟩ := h
      refine ⟨⟨ren_twice (nm := blkNames x.blocks) i (fun j hj => ?_) ?_ k1, k2⟩, ?_⟩
      · have hin : j < x.blocks.length := by have := (List.getElem?_eq_some_iff.1 hxb).1; omega
        have hxi := List.getElem?_eq_getElem hin
        rw [blkNames_at hxi, blkNames_at (x := renB x.blocks[j]) (by rw [List.getElem?_map, hxi]; rfl)]
        rfl
      · rw [blkNames_at hxb]; exact (hl x (List.mem_of_getElem? hx)).2 c (List.mem_of_getElem? hxb)
      · rw [List.length_map]
        rw [← k3]
        show (List.range c.ins.length).all (okAt (fs.map renF) x.blocks.length c.ins) = _
        congr 1
        funext j
        unfold okAt insX
        simp only [ren_insF]
  · obtain ⟨x, hx, rfl⟩ := hget n y hy
    have hi' : i < (x.blocks.map renB).length := hi
    rw [List.length_map] at hi'
    show missB (x.blocks.map renB) x.args i = false
    rw [ren_miss]
    exact h4 n x hx i hi'
end Go.Proofs.Ytdefooailcbnlaa
/- One write more, at the beginning of a block. No function of the program is walked here. -/
namespace Go.Proofs.Ytdefooailcbnlaa
open Go.RowKit
set_option linter.unusedVariables false
set_option linter.unusedSimpArgs false
def cIns (d : Int) : Insx := ⟨0, d, 0, 0, 5, 0, [], 0, 0⟩
def addB (b : Blk) (d : Int) : Blk := ⟨b.name, cIns d :: b.ins⟩
def addF (x : Fnx) (k : Nat) (b : Blk) (d : Int) : Fnx := ⟨x.name, x.args, x.regs, x.blocks.set k (addB b d)⟩
section
variable {bs : List Blk} {k : Nat} {b : Blk} {d : Int}
theorem add_at (hb : bs[k]? = some b) (i : Nat) : insAt (bs.set k (addB b d)) i = if i = k then cIns d :: insAt bs k else insAt bs i := by
  have hk : k < bs.length := (List.getElem?_eq_some_iff.1 hb).1
  unfold insAt
  by_cases e : k = i
  · subst e
    rw [List.getElem?_set_self hk, if_pos rfl, hb]; rfl
  · rw [List.getElem?_set_ne e, if_neg (fun h => e h.symm)]
theorem add_goes (hb : bs[k]? = some b) (hl : 0 < b.ins.length) (i : Nat) : goesOf (bs.set k (addB b d)) i = goesOf bs i := by
  unfold goesOf
  rw [add_at hb]
  split
  · rename_i e
    subst e
    have hi : insAt bs i = b.ins := by unfold insAt; rw [hb]; rfl
    rw [hi]
    obtain ⟨m, hm⟩ : ∃ m, b.ins.length = m + 1 := ⟨b.ins.length - 1, by omega⟩
    simp [hm]
  · rfl
theorem add_lack (hb : bs[k]? = some b) (hl : 0 < b.ins.length) {A : Int} {r i : Nat} (h : Lack (bs.set k (addB b d)) A r i) : Lack bs A r i := by
  induction h with
  | start ha => exact .start ha
  | next i j _ hw hj ih =>
    rw [add_goes hb hl] at hj
    refine .next i j ih ?_ hj
    rw [add_at hb] at hw
    split at hw
    · rename_i e
      subst e
      rw [wrB_cons] at hw
      exact ((Bool.or_eq_false_iff).1 hw).2
    · exact hw
theorem add_great (hb : bs[k]? = some b) (M : Int) (h0 : 0 ≤ M) (hg : greatestS bs ≤ M) (hd : min d 4096 + 1 ≤ M) : greatestS bs ≤ greatestS (bs.set k (addB b d)) ∧ greatestS (bs.set k (addB b d)) ≤ M := by
  have ub : ∀ (l : List Int) (n : Int), n ≤ M → (∀ r ∈ l, min r 4096 + 1 ≤ M) → greatN l n ≤ M := by
    intro l
    induction l with
    | nil => intro n hn _; exact hn
    | cons r l ih => intro n hn h; exact ih _ (by show max n (min r 4096 + 1) ≤ M; have := h r (by simp); omega) (fun q hq => h q (by simp [hq]))
  have ub2 : ∀ (l : List Insx) (n : Int), n ≤ M → (∀ x ∈ l, ∀ r ∈ regsOf x, min r 4096 + 1 ≤ M) → insGreat l n ≤ M := by
    intro l
    induction l with
    | nil => intro n hn _; exact hn
    | cons x l ih => intro n hn h; exact ih _ (ub _ _ hn (h x (by simp))) (fun q hq => h q (by simp [hq]))
  have ub3 : ∀ (l : List Blk) (n : Int), n ≤ M → (∀ b ∈ l, ∀ x ∈ b.ins, ∀ r ∈ regsOf x, min r 4096 + 1 ≤ M) → l.foldl (fun n b => insGreat b.ins n) n ≤ M := by
    intro l
    induction l with
    | nil => intro n hn _; exact hn
    | cons x l ih => intro n hn h; exact ih _ (ub2 _ _ hn (h x (by simp))) (fun q hq => h q (by simp [hq]))
  have mono : ∀ (l : List Int) (n m : Int), n ≤ m → greatN l n ≤ greatN l m := by
    intro l
    induction l with
    | nil => intro n m h; exact h
    | cons r l ih => intro n m h; exact ih _ _ (by show max n (min r 4096 + 1) ≤ max m (min r 4096 + 1); omega)
  have mono2 : ∀ (l : List Insx) (n m : Int), n ≤ m → insGreat l n ≤ insGreat l m := by
    intro l
    induction l with
    | nil => intro n m h; exact h
    | cons x l ih => intro n m h; exact ih _ _ (mono _ _ _ h)
  have mono3 : ∀ (l : List Blk) (n m : Int), n ≤ m → l.foldl (fun n b => insGreat b.ins n) n ≤ l.foldl (fun n b => insGreat b.ins n) m := by
    intro l
    induction l with
    | nil => intro n m h; exact h
    | cons x l ih => intro n m h; exact ih _ _ (mono2 _ _ _ h)
  have setm : ∀ (l : List Blk) (j : Nat) (n : Int), l[j]? = some b → l.foldl (fun n b => insGreat b.ins n) n ≤ (l.set j (addB b d)).foldl (fun n b => insGreat b.ins n) n := by
    intro l
    induction l with
    | nil => intro j n h; simp at h
    | cons x l ih =>
      intro j n h
      cases j with
      | zero =>
        obtain rfl : x = b := by simpa using h
        simp only [List.set_cons_zero, List.foldl_cons]
        refine mono3 _ _ _ ?_
        show insGreat x.ins n ≤ insGreat x.ins (greatN (regsOf (cIns d)) n)
        exact mono2 _ _ _ (greatN_le _ _).1
      | succ j =>
        simp only [List.set_cons_succ, List.foldl_cons]
        exact ih j _ (by simpa using h)
  refine ⟨setm bs k 0 hb, ub3 _ _ h0 fun c hc x hx r hr => ?_⟩
  have hall := (greatest_le' bs 0).2
  rcases List.mem_or_eq_of_mem_set hc with h | h
  · exact Int.le_trans (hall c h x hx r hr) hg
  · subst h
    have hx' : x ∈ cIns d :: b.ins := hx
    rcases List.mem_cons.1 hx' with rfl | h
    · have e : regsOf (cIns d) = [d] := by simp [regsOf, writesB, writesD, readsS, cIns]
      rw [e] at hr
      simp at hr; subst hr
      exact hd
    · exact Int.le_trans (hall b (List.mem_of_getElem? hb) x h r hr) hg
theorem add_miss {A R : Nat} (hbk : BlksOk R bs) (hbk' : BlksOk R (bs.set k (addB b d))) (hb : bs[k]? = some b) (hl : 0 < b.ins.length) (hm : ∀ i, i < bs.length → missB bs A i = false) (i : Nat) (hi : i < bs.length) : missB (bs.set k (addB b d)) A i = false := by
  have hL : ∀ r : Nat, lackF (bs.set k (addB b d)) A i r = true → lackF bs A i r = true := by
    intro r h
    unfold lackF at h ⊢
    rw [Int.toNat_natCast] at h ⊢
    have h1 : (lacksL (bs.set k (addB b d)) A r)[i]? = some true := by
      cases hq : (lacksL (bs.set k (addB b d)) A r)[i]? with
      | none => rw [hq] at h; cases h
      | some x => rw [hq] at h; simp at h; rw [h]
    have h2 := add_lack hb hl ((lacks_iff hbk'.flow hbk'.some i).1 h1)
    rw [(lacks_iff hbk.flow hbk.some i).2 h2]; rfl
  have h0 := hm i hi
  unfold missB at h0 ⊢
  rw [List.any_eq_false] at h0 ⊢
  intro j hj hmj
  rw [add_at hb] at hj hmj
  split at hmj
  · rename_i e
    subst e
    rw [if_pos rfl] at hj
    unfold missAt at hmj
    cases j with
    | zero =>
      simp only [List.getElem?_cons_zero] at hmj
      have e : readsS (cIns d) = [] := by simp [readsS, cIns]
      rw [e] at hmj; simp at hmj
    | succ j =>
      simp only [List.getElem?_cons_succ] at hmj
      have hj' : j < (insAt bs i).length := by have := List.mem_range.1 hj; simp at this; omega
      refine h0 j (List.mem_range.2 hj') ?_
      unfold missAt
      cases hx : (insAt bs i)[j]? with
      | none => rw [hx] at hmj; cases hmj
      | some x =>
        rw [hx] at hmj
        simp only [List.any_eq_true, Bool.and_eq_true, Bool.not_eq_true'] at hmj ⊢
        obtain ⟨r, hr, h1, h2⟩ := hmj
        have hnn := ((hbk.names i x (List.mem_of_getElem? hx)).1 r hr).1
        obtain ⟨rn, rfl⟩ := Int.eq_ofNat_of_zero_le hnn
        refine ⟨rn, hr, hL rn h1, ?_⟩
        unfold wrB at h2 ⊢
        rw [List.take_succ_cons, List.any_cons] at h2
        exact ((Bool.or_eq_false_iff).1 h2).2
  · rename_i e
    rw [if_neg e] at hj
    refine h0 j hj ?_
    unfold missAt at hmj ⊢
    cases hx : (insAt bs i)[j]? with
    | none => rw [hx] at hmj; cases hmj
    | some x =>
      rw [hx] at hmj
      simp only [List.any_eq_true, Bool.and_eq_true, Bool.not_eq_true'] at hmj ⊢
      obtain ⟨r, hr, h1, h2⟩ := hmj
      have hnn := ((hbk.names i x (List.mem_of_getElem? hx)).1 r hr).1
      obtain ⟨rn, rfl⟩ := Int.eq_ofNat_of_zero_le hnn
      exact ⟨rn, hr, hL rn h1, h2⟩
end
theorem add_twice {nm nm' : Nat → ByteArray} (n : Nat) (hn : ∀ i, i ≤ n → nm' i = nm i) (h : twiceB nm n = false) : twiceB nm' n = false := by
  unfold twiceB at h ⊢
  rw [hn n (Nat.le_refl _)]
  rw [← h]
  congr 1
  rw [Bool.eq_iff_iff, List.any_eq_true, List.any_eq_true]
  constructor
  · rintro ⟨i, hi, e⟩
    exact ⟨i, hi, by rw [← hn i (by have := List.mem_range.1 hi; omega)]; exact e⟩
  · rintro ⟨i, hi, e⟩
    exact ⟨i, hi, by rw [hn i (by have := List.mem_range.1 hi; omega)]; exact e⟩
theorem adds_ok {p : Prg} (h : (checkS p).2.2 = 0) {n k : Nat} {x : Fnx} {b : Blk} {d : Int} (hx : p.funcs[n]? = some x) (hb : x.blocks[k]? = some b) (hd0 : 0 ≤ d) (hd : d < x.regs) : checkS ⟨p.heap, p.threads, p.funcs.set n (addF x k b d)⟩ = (0, 0, 0) := by
  obtain ⟨h1, h2, h3, h4⟩ := checkS_may h
  have hnl : n < p.funcs.length := (List.getElem?_eq_some_iff.1 hx).1
  have hkl : k < x.blocks.length := (List.getElem?_eq_some_iff.1 hb).1
  obtain ⟨A, R, hA, hR, hAR, hR4, hbk⟩ := blksOk_of h2 h3 hx
  have hbi := block_ins hb (h3 n x hx k b hb)
  have hargs : ∀ m, argsOf (p.funcs.set n (addF x k b d)) m = argsOf p.funcs m := by
    intro m
    unfold argsOf
    by_cases e : n = m
    · subst e; rw [List.getElem?_set_self hnl, hx]; rfl
    · rw [List.getElem?_set_ne e]
  have hins : ∀ nb op d' a b' n' f args l1 l2, insF (p.funcs.set n (addF x k b d)) nb op d' a b' n' f args l1 l2 = insF p.funcs nb op d' a b' n' f args l1 l2 := by
    intro nb op d' a b' n' f args l1 l2
    unfold insF
    rw [List.length_set, hargs]
  have hfn : ∀ m, fnNames (p.funcs.set n (addF x k b d)) m = fnNames p.funcs m := by
    intro m
    unfold fnNames
    by_cases e : n = m
    · subst e; rw [List.getElem?_set_self hnl, hx]; rfl
    · rw [List.getElem?_set_ne e]
  have hbn : ∀ m, blkNames (x.blocks.set k (addB b d)) m = blkNames x.blocks m := by
    intro m
    unfold blkNames
    by_cases e : k = m
    · subst e; rw [List.getElem?_set_self hkl, hb]; rfl
    · rw [List.getElem?_set_ne e]
  have hget : ∀ (m : Nat) y, (p.funcs.set n (addF x k b d))[m]? = some y → (m = n ∧ y = addF x k b d) ∨ (m ≠ n ∧ p.funcs[m]? = some y) := by
    intro m y hy
    by_cases e : n = m
    · subst e; rw [List.getElem?_set_self hnl] at hy; cases hy; exact .inl ⟨rfl, rfl⟩
    · rw [List.getElem?_set_ne e] at hy; exact .inr ⟨fun h => e h.symm, hy⟩
  have hH := h2 n x hx
  have hheads : HeadsOk (p.funcs.set n (addF x k b d)) := by
    intro m y hy
    rcases hget m y hy with ⟨rfl, rfl⟩ | ⟨_, hy'⟩
    · unfold headB at hH ⊢
      simp only [Bool.and_eq_true, Bool.not_eq_true', decide_eq_true_eq] at hH ⊢
      obtain ⟨k1, k2, k3, k4, k5, k6⟩ := hH
      refine ⟨add_twice m (fun i _ => hfn i) k1, k2, k3, ?_, k5, ?_⟩
      · have hgr := add_great (d := d) hb x.regs (by omega) (by omega) (by omega)
        show x.regs = max x.args (greatestS (x.blocks.set k (addB b d)))
        omega
      · show 0 < (x.blocks.set k (addB b d)).length
        simpa using k6
    · have hm := h2 m y hy'
      unfold headB at hm ⊢
      simp only [Bool.and_eq_true, Bool.not_eq_true', decide_eq_true_eq] at hm ⊢
      exact ⟨add_twice m (fun i _ => hfn i) hm.1, hm.2⟩
  have hblocks : BlocksOk (p.funcs.set n (addF x k b d)) := by
    intro m y hy i c hc
    rcases hget m y hy with ⟨rfl, rfl⟩ | ⟨_, hy'⟩
    · have hc' : (x.blocks.set k (addB b d))[i]? = some c := hc
      show blockB (p.funcs.set m (addF x k b d)) (x.blocks.set k (addB b d)) i c = true
      by_cases e : k = i
      · subst e
        rw [List.getElem?_set_self hkl] at hc'
        cases hc'
        have h := h3 m x hx k b hb
        unfold blockB at h ⊢
        simp only [Bool.and_eq_true, Bool.not_eq_true', decide_eq_true_eq] at h ⊢
        obtain ⟨⟨k1, k2⟩, k3⟩ := h
        refine ⟨⟨add_twice k (fun i _ => hbn i) k1, by show 0 < (cIns d :: b.ins).length; simp⟩, ?_⟩
        rw [List.all_eq_true]
        intro j hj
        show okAt (p.funcs.set m (addF x k b d)) (x.blocks.set k (addB b d)).length (cIns d :: b.ins) j = true
        cases j with
        | zero =>
          rw [okAt_some (y := cIns d) (by simp)]
          have e1 : endsB (cIns d) = false := by simp [endsB, cIns]
          rw [e1]
          have e2 : decide (0 + 1 = (cIns d :: b.ins).length) = false := decide_eq_false (by have := hbi.1; show ¬ (0 + 1 = b.ins.length + 1); omega)
          rw [e2]
          simp only [beq_self_eq_true, Bool.true_and]
          unfold insX
          refine decide_eq_true ?_
          rw [hins]
          unfold insF emptyF cIns
          simp only
          refine ⟨by omega, by simp, by omega, by omega, by omega, by simp, by omega, by omega, by omega⟩
        | succ j =>
          have hj' : j < b.ins.length := by have h9 : j + 1 < b.ins.length + 1 := List.mem_range.1 hj; omega
          have hx' := List.getElem?_eq_getElem hj'
          obtain ⟨f1, f2⟩ := hbi.2 j _ hx'
          rw [okAt_some (y := b.ins[j]) (by simp [hx'])]
          rw [f1]
          have e2 : decide (j + 1 + 1 = (cIns d :: b.ins).length) = decide (j + 1 = b.ins.length) := by simp
          rw [e2]
          simp only [beq_self_eq_true, Bool.true_and]
          unfold insX
          refine decide_eq_true ?_
          rw [hins, List.length_set]
          exact f2
      · rw [List.getElem?_set_ne e] at hc'
        have h := h3 m x hx i c hc'
        unfold blockB at h ⊢
        simp only [Bool.and_eq_true, Bool.not_eq_true', decide_eq_true_eq] at h ⊢
        refine ⟨⟨add_twice i (fun j _ => hbn j) h.1.1, h.1.2⟩, ?_⟩
        rw [← h.2]
        congr 1
        funext j
        unfold okAt insX
        simp only [hins, List.length_set]
    · have h := h3 m y hy' i c hc
      unfold blockB at h ⊢
      simp only [Bool.and_eq_true, Bool.not_eq_true', decide_eq_true_eq] at h ⊢
      refine ⟨h.1, ?_⟩
      rw [← h.2]
      congr 1
      funext j
      unfold okAt insX
      simp only [hins]
  refine checkS_of ?_ hheads hblocks (fun m y hy i hi => ?_)
  · rw [← h1]
    unfold topB
    simp only [List.length_set]
    congr 2
    refine congrArg (fun g => List.any p.threads g) (funext fun t => ?_)
    unfold badT
    rw [List.length_set, hargs]
  · rcases hget m y hy with ⟨rfl, rfl⟩ | ⟨_, hy'⟩
    · obtain ⟨A', R', hA', hR', _, _, hbk'⟩ := blksOk_of hheads hblocks hy
      have hR2 : R' = R := by
        have : x.regs = R' := hR'
        omega
      subst hR2
      have hi' : i < x.blocks.length := by
        have : i < (x.blocks.set k (addB b d)).length := hi
        simpa using this
      show missB (x.blocks.set k (addB b d)) x.args i = false
      rw [hA]
      exact add_miss hbk hbk' hb hbi.1 (fun j hj => by have := h4 m x hx j hj; rw [hA] at this; exact this) i hi'
    · exact h4 m y hy' i hi
end Go.Proofs.Ytdefooailcbnlaa
