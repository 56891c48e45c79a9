/- Several texts in one: LowDisp, LowFold, LowFunc, LowStub, LowStubs, LowKnown, LowHead, LowNumber, LowGreat, LowRStub, LowRPuts. -/
import Derived.Test.YtfbbodaapkfbdaaDoorG29
import Derived.Laws.EntriesVeiled
import Derived.StillTailTactics
/- What is put for an instruction: lower's eleven methods as one. -/
namespace Go.Proofs.YtfbbodaapkfbdaaDoor
open Go.RowKit
set_option linter.unusedVariables false
set_option linter.unusedSimpArgs false
/-- The method that puts an instruction. -/
def fnOfL (op : Nat) : Nat :=
  match op with
  | 0 => 55 | 1 => 56 | 2 => 57 | 3 => 58 | 4 => 59 | 5 => 60
  | 6 => 61 | 7 => 62 | 8 => 63 | 9 => 64 | _ => 65
def insV (i : Insx) (pi : Option Addr) (ci : Nat) : Value := .agg #[.int .u8 i.op, .int .i64 i.d, .int .i64 i.a, .int .i64 i.b, .int .u32 i.n, .int .i64 i.f, .slice pi i.args.length ci, .int .i64 i.l1, .int .i64 i.l2]
def acV (x : Acx) (px : Option Addr) (cx : Nat) : Value := .agg #[.int .u8 x.kind, .int .i64 x.at', .int .i64 x.d, .int .i64 x.a, .int .i64 x.b, .slice px x.args.length cx]
theorem disp_low {W wi : World} {c : Mc} {S0 : Nat → Prop} {s0 : Lo} (h : LowAt W wi c S0 s0) {hp h32 sl : Int} {thr fns en bl : Value} {f : Nat} {leaf : Bool} (hmk : MkC c hp thr fns f leaf sl en bl h32) (hf : f < 9223372036854775808) (h3 : 0 ≤ h32 ∧ h32 < 4294967296) (hm : s0.many + 1 < 1000000) (hM : s0.M.length + 1 < 100000000) (hL : s0.L.length + 10 < 4294967296)
    {i : Insx} (hi : i.bd) {x : Acx} {nf nb : Nat} (hd : doP nf nb i x) (pi px : Option Addr) (ci cx : Nat) :
    Calls Tryd.prog (fnOfL i.op.toNat) #[.pointer (some ⟨c.g, 0, none⟩), insV i pi ci, acV x px cx] wi fun e w' => e = .returned (.tuple #[]) ∧ LowGo W wi c S0 (s0.does f leaf (hp % 4294967296) h32 i x) w' := by
  obtain ⟨op, d, a, b, n, iff, al, l1, l2⟩ := i
  obtain ⟨xk, xt, xd, xa, xb, xl⟩ := x
  obtain ⟨d1, d2, d3, d4, d5, d6, d7, d8, d9, d10⟩ := hd
  obtain ⟨-, -, -, -, hn, hff, -, hl1, hl2⟩ := hi
  unfold I64 at hff hl1 hl2
  simp only at *
  unfold insV acV
  dsimp only
  have hc : op = 0 ∨ op = 1 ∨ op = 2 ∨ op = 3 ∨ op = 4 ∨ op = 5 ∨ op = 6 ∨ op = 7 ∨ op = 8 ∨ op = 9 ∨ op = 10 := by
    unfold hasS at d1
    by_cases hq : 0 ≤ op ∧ op ≤ 10
    · omega
    · rw [if_neg hq] at d1; omega
  unfold regP at d2 d3 d4
  rcases hc with rfl | rfl | rfl | rfl | rfl | rfl | rfl | rfl | rfl | rfl | rfl
  · exact op_constant h hmk hf h3 hm hM hL (by simpa [hasS] using d2) hn
  · exact op_alu h hmk hf h3 hm hM hL (by simpa [hasS] using d2) (by simpa [hasS] using d3) (by simpa [hasS] using d4) ⟨hn.1, d7 rfl⟩
  · exact op_mov h hmk hf h3 hm hM hL (by simpa [hasS] using d2) (by simpa [hasS] using d3)
  · exact op_load h hmk hf h3 hm hM hL (by simpa [hasS] using d2) (by simpa [hasS] using d3)
  · exact op_store h hmk hf h3 hm hM hL (by simpa [hasS] using d4) (by simpa [hasS] using d3)
  · have hh := d8 rfl
    exact op_call h hmk hf h3 hm hM hL (n := iff.toNat) (by omega) (by omega)
  · exact op_print h hmk hf h3 hm hM hL (by simpa [hasS] using d3)
  · exact op_yield h hmk hf h3 hm hM hL
  · have hh := d9 (.inl rfl)
    exact op_jmp h hmk hf h3 hm hM hL (n := l1.toNat) (by omega) (by omega)
  · have hh := d9 (.inr rfl)
    have hh2 := d10 rfl
    exact op_br h hmk hf h3 hm hM hL (by simpa [hasS] using d3) (n := l1.toNat) (by omega) (by omega) (n2 := l2.toNat) (by omega) (by omega)
  · cases leaf with
    | true => exact op_ret_leaf h hmk hf h3 hm hM hL
    | false => exact op_ret h hmk hf h3 hm hM hL
set_option maxRecDepth 100000 in
theorem instructions_any (w : World) : Calls Tryd.prog 28 #[] w fun e w' => e = .returned (.agg #[.func (.func 55) #[] #[], .func (.func 56) #[] #[], .func (.func 57) #[] #[], .func (.func 58) #[] #[], .func (.func 59) #[] #[], .func (.func 60) #[] #[], .func (.func 61) #[] #[], .func (.func 62) #[] #[], .func (.func 63) #[] #[], .func (.func 64) #[] #[], .func (.func 65) #[] #[]]) ∧ Below w.heap.size w w' := by
  go_enter Tryd.func28, Tryd.ntmps28
  go_wp2_with fail
  refine bodyPost_ret (by simp [results, Tryd.results28, go_sem]; try rfl) rfl ?_
  exact ⟨rfl, (Below.refl _ w).alloc (Nat.le_refl _) _⟩
end Go.Proofs.YtfbbodaapkfbdaaDoor
/- What is put for rows of cells and of blocks, one by one. No function of the program is walked here. -/
namespace Go.Proofs.YtfbbodaapkfbdaaDoor
open Go.RowKit
set_option linter.unusedVariables false
set_option linter.unusedSimpArgs false
section
variable {s : Lo} {a b c : Nat}
theorem Lo.le.cell (h : s.le a b c) (f : Nat) (leaf : Bool) (hs hp : Int) (l : List Insx) (x : Acx) : (s.cell f leaf hs hp l x).le (a + 10) (b + 1) (c + 1) := by
  unfold Lo.cell
  split
  · exact (h.moved x).mono (by omega) (by omega) (by omega)
  · split
    · exact h.does _ _ _ _ _ _
    · exact h.mono (by omega) (by omega) (by omega)
theorem Lo.le.entries (h : s.le a b c) (l : List Acx) : (l.foldl Lo.moved s).le (a + 4 * l.length) b c := by
  induction l generalizing s a with
  | nil => exact h
  | cons x l ih => exact (ih (h.moved x)).mono (by simp only [List.length_cons]; omega) (Nat.le_refl _) (Nat.le_refl _)
theorem Lo.le.cells (h : s.le a b c) (f : Nat) (leaf : Bool) (hs hp : Int) (l : List Insx) (cs : List Acx) : (cs.foldl (fun s x => s.cell f leaf hs hp l x) s).le (a + 10 * cs.length) (b + cs.length) (c + cs.length) := by
  induction cs generalizing s a b c with
  | nil => exact h
  | cons x cs ih => exact (ih (h.cell f leaf hs hp l x)).mono (by simp only [List.length_cons]; omega) (by simp only [List.length_cons]; omega) (by simp only [List.length_cons]; omega)
theorem Lo.le.block (h : s.le a b c) (f : Nat) (leaf : Bool) (hs hp : Int) (k : Nat) (l : List Insx) (cs : List Acx) : (s.block f leaf hs hp k l cs).le (a + 10 * cs.length) (b + 1 + cs.length) (c + cs.length) := (h.mark _).cells _ _ _ _ _ _
/-- How many cells a function's blocks have. -/
def cellsN (ls : List (List Acx)) : Nat := (ls.map List.length).sum
theorem cellsN_take (ls : List (List Acx)) (k : Nat) (h : k < ls.length) : cellsN (ls.take (k + 1)) = cellsN (ls.take k) + ls[k].length := by
  unfold cellsN
  rw [List.take_succ_eq_append_getElem h, List.map_append, List.sum_append]
  simp
theorem cellsN_le (ls : List (List Acx)) (k : Nat) : cellsN (ls.take k) ≤ cellsN ls := by
  have h := congrArg (fun l => (l.map List.length).sum) (List.take_append_drop k ls)
  simp only [List.map_append, List.sum_append] at h
  unfold cellsN
  omega
end
theorem blocks_take (f : Nat) (leaf : Bool) (hs hp : Int) (bs : List Blk) (ls : List (List Acx)) (j k : Nat) (s : Lo) (hb : k < bs.length) (hl : k < ls.length) :
    Lo.blocks f leaf hs hp j (bs.take (k + 1)) (ls.take (k + 1)) s = (Lo.blocks f leaf hs hp j (bs.take k) (ls.take k) s).block f leaf hs hp (j + k) bs[k].ins ls[k] := by
  induction k generalizing bs ls j s with
  | zero =>
    cases bs with
    | nil => simp at hb
    | cons x bs => cases ls with
      | nil => simp at hl
      | cons y ls => simp [Lo.blocks]
  | succ k ih =>
    cases bs with
    | nil => simp at hb
    | cons x bs => cases ls with
      | nil => simp at hl
      | cons y ls =>
        simp only [List.take_succ_cons, Lo.blocks, List.getElem_cons_succ]
        rw [ih bs ls (j + 1) _ (by simpa using hb) (by simpa using hl)]
        rw [show j + 1 + k = j + (k + 1) by omega]
theorem blocks_le (f : Nat) (leaf : Bool) (hs hp : Int) (bs : List Blk) (ls : List (List Acx)) (s : Lo) {a b c : Nat} (h : s.le a b c) (k : Nat) (hb : k ≤ bs.length) (hl : k ≤ ls.length) :
    (Lo.blocks f leaf hs hp 0 (bs.take k) (ls.take k) s).le (a + 10 * cellsN (ls.take k)) (b + k + cellsN (ls.take k)) (c + cellsN (ls.take k)) := by
  induction k with
  | zero => simpa [Lo.blocks, cellsN] using h
  | succ k ih =>
    rw [blocks_take f leaf hs hp bs ls 0 k s (by omega) (by omega), cellsN_take ls k (by omega)]
    exact ((ih (by omega) (by omega)).block f leaf hs hp (0 + k) _ _).mono (by omega) (by omega) (by omega)
theorem foldl_take {α β : Type} (g : β → α → β) (l : List α) (s : β) (k : Nat) (h : k < l.length) : (l.take (k + 1)).foldl g s = g ((l.take k).foldl g s) l[k] := by
  rw [List.take_succ_eq_append_getElem h, List.foldl_append]
  rfl
theorem lcopy_any {w0 : Nat} {w : World} {p : Nat} {S : Nat → Prop} {L : List It} {M : List (List UInt8 × Int)} (h : Lst w0 w p S L M) (hL : L.length < 4294967296) :
    Calls Tryd.prog 23 #[.pointer (some ⟨p, 0, none⟩)] w fun e w' => (∃ q, e = .returned (.pointer (some ⟨q, 0, none⟩))) ∧ Below w.heap.size w w' := by
  obtain ⟨sv, m, K, hA, hO, hK⟩ := h.ex
  refine (acopy_any w p m sv K L M hA hL).mono fun e w' hh => ?_
  obtain ⟨q, v, m', he, _, _, hb⟩ := hh
  exact ⟨⟨q, he⟩, hb⟩
end Go.Proofs.YtfbbodaapkfbdaaDoor
/- Walks of the package lower: Func. -/
namespace Go.Proofs.YtfbbodaapkfbdaaDoor
open Go.RowKit
set_option linter.unusedVariables false
set_option linter.unusedSimpArgs false
def funcE (p : Prg) (f : Int) (x : Afx) (M : List (List UInt8 × Int)) : Int := if lowB p f x = true then markE M (nameB' (fNameL f.toNat)) else 2
def funcS (p : Prg) (f : Int) (x : Afx) (h32 : Int) (L : List It) (M : List (List UInt8 × Int)) : Lo := if lowB p f x = true ∧ markE M (nameB' (fNameL f.toNat)) = 0 then lowerS p f.toNat x h32 L M else ⟨L, M, 0⟩
theorem LowGo.lgo {W w w1 w' : World} {c : Mc} {S : Nat → Prop} {s : Lo} (hg : LowGo W w1 c S s w') (hb : Below w.heap.size w w1) (hc : w.heap.size ≤ c.g) (hS : ∀ k, S k → k < w.heap.size) : LGo W.heap.size w c.pa S s.L s.M w' := by
  obtain ⟨S', h', o', r'⟩ := hg
  refine ⟨S', h'.lst, (Only.of_below (S := S) hb).fresh o' (fun i hi hk => ?_), fun k hk => (r' k hk).imp id (fun h => Nat.le_trans hb.size h)⟩
  rcases hk with hk | hk
  · exact hk
  · omega
theorem VRow.fresh (w : World) (t : TypeId) (vs : List Value) : VRow (w.alloc (.cells vs.toArray t)) w.heap.size t vs := ⟨vs.toArray, heap_alloc_new w _, fun k x hx => by simpa using hx⟩
/-- The world behind Func's first steps: the program, the function and the maker lie in new blocks. -/
structure FuncAt (W w w1 : World) (pa : Nat) (S : Nat → Prop) (L : List It) (M : List (List UInt8 × Int)) (p : Prg) (x : Afx) (f h32 : Int) (pt pf pe pb : Option Addr) (ct cf ce cb : Nat) : Prop where
  bel : Below w.heap.size w w1
  sz : w1.heap.size = w.heap.size + 3
  at' : LowAt W w1 ⟨w.heap.size + 2, pa, [.int .i64 p.heap, .slice pt p.threads.length ct, .slice pf p.funcs.length cf, .int .i64 f, .bool x.leaf, .int .i64 x.slots, .slice pe x.entry.length ce, .slice pb x.blocks.length cb, .int .u32 h32]⟩ S ⟨L, M, 0⟩
  p2 : w1.cell? ⟨w.heap.size, 2, none⟩ = some (.slice pf p.funcs.length cf)
  x2 : w1.cell? ⟨w.heap.size + 1, 2, none⟩ = some (.slice pe x.entry.length ce)
  x3 : w1.cell? ⟨w.heap.size + 1, 3, none⟩ = some (.slice pb x.blocks.length cb)
theorem func_start {W w : World} {pa : Nat} {S : Nat → Prop} {L : List It} {M : List (List UInt8 × Int)} (hl : Lst W.heap.size w pa S L M) (ht : TabLo W.heap.size w) (hpw : PowLo W.heap.size w) (hb : Below W.heap.size W w) (p : Prg) (x : Afx) (f h32 : Int) (pt pf pe pb : Option Addr) (ct cf ce cb : Nat) :
    FuncAt W w (((w.alloc (.cells #[.int .i64 p.heap, .slice pt p.threads.length ct, .slice pf p.funcs.length cf] 25)).alloc (.cells #[.bool x.leaf, .int .i64 x.slots, .slice pe x.entry.length ce, .slice pb x.blocks.length cb] 29)).alloc (.cells #[.pointer (some ⟨pa, 0, none⟩), .int .i64 p.heap, .slice pt p.threads.length ct, .slice pf p.funcs.length cf, .int .i64 f, .bool x.leaf, .int .i64 x.slots, .slice pe x.entry.length ce, .slice pb x.blocks.length cb, .int .u32 h32, .int .i32 0] 88)) pa S L M p x f h32 pt pf pe pb ct cf ce cb := by
  obtain ⟨w2, hw2⟩ : ∃ w2, w2 = (w.alloc (.cells #[.int .i64 p.heap, .slice pt p.threads.length ct, .slice pf p.funcs.length cf] 25)).alloc (.cells #[.bool x.leaf, .int .i64 x.slots, .slice pe x.entry.length ce, .slice pb x.blocks.length cb] 29) := ⟨_, rfl⟩
  have hs2 : w2.heap.size = w.heap.size + 2 := by rw [hw2]; simp [go_sem]
  have hb2 : Below w.heap.size w w2 := by rw [hw2]; exact ((Below.refl _ w).alloc (Nat.le_refl _) _).alloc (by simp [go_sem]) _
  have p2 : w2.cell? ⟨w.heap.size, 2, none⟩ = some (.slice pf p.funcs.length cf) := by rw [hw2]; simp [go_sem]
  have x2 : w2.cell? ⟨w.heap.size + 1, 2, none⟩ = some (.slice pe x.entry.length ce) := by rw [hw2]; simp [go_sem]
  have x3 : w2.cell? ⟨w.heap.size + 1, 3, none⟩ = some (.slice pb x.blocks.length cb) := by rw [hw2]; simp [go_sem]
  rw [← hw2]
  have hb3 : Below w.heap.size w (w2.alloc (.cells #[.pointer (some ⟨pa, 0, none⟩), .int .i64 p.heap, .slice pt p.threads.length ct, .slice pf p.funcs.length cf, .int .i64 f, .bool x.leaf, .int .i64 x.slots, .slice pe x.entry.length ce, .slice pb x.blocks.length cb, .int .u32 h32, .int .i32 0] 88)) := hb2.alloc (by omega) _
  have hm := VRow.fresh w2 88 [.pointer (some ⟨pa, 0, none⟩), .int .i64 p.heap, .slice pt p.threads.length ct, .slice pf p.funcs.length cf, .int .i64 f, .bool x.leaf, .int .i64 x.slots, .slice pe x.entry.length ce, .slice pb x.blocks.length cb, .int .u32 h32, .int .i32 0]
  rw [hs2] at hm
  refine ⟨hb3, by simp [go_sem, hs2], ⟨hl.keepb hb3, ht.keepb hb3, hpw.keepB (hb3.mono hb.size), hm, fun hk => ?_, ?_, hb.trans (hb3.mono hb.size)⟩, Lib.cell?_alloc_some _ p2, Lib.cell?_alloc_some _ x2, Lib.cell?_alloc_some _ x3⟩
  · have hk' : S (w.heap.size + 2) := hk
    have := (hl.lo _ hk').2
    omega
  · have := hb.size
    show W.heap.size ≤ w.heap.size + 2
    omega
theorem AcV.keep {w w' : World} {v : Value} {x : Acx} (h : AcV w v x) (hb : Below w.heap.size w w') : AcV w' v x := by
  obtain ⟨p, c, h1, h2, h3⟩ := h
  exact ⟨p, c, h1, h2.keep fun _ _ _ _ hh => hh.keep hb, h3⟩
theorem lenter_constant (args : Array Value) (w : World) : (callFunc 55 args).run Tryd.prog w = .ok (.enter 55 args) w := by kernel_rfl
theorem lenter_alu (args : Array Value) (w : World) : (callFunc 56 args).run Tryd.prog w = .ok (.enter 56 args) w := by kernel_rfl
theorem lenter_mov (args : Array Value) (w : World) : (callFunc 57 args).run Tryd.prog w = .ok (.enter 57 args) w := by kernel_rfl
theorem lenter_load (args : Array Value) (w : World) : (callFunc 58 args).run Tryd.prog w = .ok (.enter 58 args) w := by kernel_rfl
theorem lenter_store (args : Array Value) (w : World) : (callFunc 59 args).run Tryd.prog w = .ok (.enter 59 args) w := by kernel_rfl
theorem lenter_call (args : Array Value) (w : World) : (callFunc 60 args).run Tryd.prog w = .ok (.enter 60 args) w := by kernel_rfl
theorem lenter_print (args : Array Value) (w : World) : (callFunc 61 args).run Tryd.prog w = .ok (.enter 61 args) w := by kernel_rfl
theorem lenter_yield (args : Array Value) (w : World) : (callFunc 62 args).run Tryd.prog w = .ok (.enter 62 args) w := by kernel_rfl
theorem lenter_jmp (args : Array Value) (w : World) : (callFunc 63 args).run Tryd.prog w = .ok (.enter 63 args) w := by kernel_rfl
theorem lenter_br (args : Array Value) (w : World) : (callFunc 64 args).run Tryd.prog w = .ok (.enter 64 args) w := by kernel_rfl
theorem lenter_ret (args : Array Value) (w : World) : (callFunc 65 args).run Tryd.prog w = .ok (.enter 65 args) w := by kernel_rfl
theorem lenter_fn (i : Nat) (hi : i ≤ 10) (args : Array Value) (w : World) : (callFunc (fnOfL i) args).run Tryd.prog w = .ok (.enter (fnOfL i) args) w := by
  have hc : i = 0 ∨ i = 1 ∨ i = 2 ∨ i = 3 ∨ i = 4 ∨ i = 5 ∨ i = 6 ∨ i = 7 ∨ i = 8 ∨ i = 9 ∨ i = 10 := by omega
  rcases hc with rfl | rfl | rfl | rfl | rfl | rfl | rfl | rfl | rfl | rfl | rfl
  · exact lenter_constant args w
  · exact lenter_alu args w
  · exact lenter_mov args w
  · exact lenter_load args w
  · exact lenter_store args w
  · exact lenter_call args w
  · exact lenter_print args w
  · exact lenter_yield args w
  · exact lenter_jmp args w
  · exact lenter_br args w
  · exact lenter_ret args w
theorem lenter_at (i : Nat) (hi : i ≤ 10) : ([.func (.func 55) #[] #[], .func (.func 56) #[] #[], .func (.func 57) #[] #[], .func (.func 58) #[] #[], .func (.func 59) #[] #[], .func (.func 60) #[] #[], .func (.func 61) #[] #[], .func (.func 62) #[] #[], .func (.func 63) #[] #[], .func (.func 64) #[] #[], .func (.func 65) #[] #[]] : List Value)[i]? = some (.func (.func (fnOfL i)) #[] #[]) := by
  have hc : i = 0 ∨ i = 1 ∨ i = 2 ∨ i = 3 ∨ i = 4 ∨ i = 5 ∨ i = 6 ∨ i = 7 ∨ i = 8 ∨ i = 9 ∨ i = 10 := by omega
  rcases hc with rfl | rfl | rfl | rfl | rfl | rfl | rfl | rfl | rfl | rfl | rfl <;> rfl
set_option maxRecDepth 100000 in
set_option maxHeartbeats 8000000 in
theorem func_any {W w : World} {pa : Nat} {S : Nat → Prop} {L : List It} {M : List (List UInt8 × Int)} (hl : Lst W.heap.size w pa S L M) (ht : TabLo W.heap.size w) (hpw : PowLo W.heap.size w) (hb : Below W.heap.size W w) {pv xv : Value} {p : Prg} {x : Afx} (hp : PrgIn W pv p) (hx : AfV W xv x) (hs : x.slots < 2000000) {f h32 : Int} (hff : I64 f) (h3 : 0 ≤ h32 ∧ h32 < 4294967296)
    (hL : L.length + 20 + 4 * x.entry.length + 10 * cellsN x.blocks < 4294967296) (hM : M.length + 5 + x.blocks.length + cellsN x.blocks < 100000000) (hm : cellsN x.blocks + 5 < 1000000) :
    Calls Tryd.prog 9 #[.pointer (some ⟨pa, 0, none⟩), pv, .int .i64 f, xv, .int .u32 h32] w fun e w' => e = .returned (.int .i64 (funcE p f x M)) ∧ LGo W.heap.size w pa S (funcS p f x h32 L M).L (funcS p f x h32 L M).M w' := by
  obtain ⟨⟨tv, fv, rfl, hth, hfn⟩, hpb⟩ := hp
  obtain ⟨pt, ct, rfl⟩ := hth.shape
  obtain ⟨pf, cf, rfl⟩ := hfn.shape
  obtain ⟨pe, ce, pb, cb, rfl, hen, hbl⟩ := hx
  have HS := func_start hl ht hpw hb p x f h32 pt pf pe pb ct cf ce cb
  have hcp := lcopy_any HS.at'.lst (by show L.length < 4294967296; omega)
  have HLO := ahid (fun k (hk : S k) => (hl.lo k hk).2)
  obtain ⟨w1, hw1⟩ : ∃ w1, w1 = ((w.alloc (.cells #[.int .i64 p.heap, .slice pt p.threads.length ct, .slice pf p.funcs.length cf] 25)).alloc (.cells #[.bool x.leaf, .int .i64 x.slots, .slice pe x.entry.length ce, .slice pb x.blocks.length cb] 29)).alloc (.cells #[.pointer (some ⟨pa, 0, none⟩), .int .i64 p.heap, .slice pt p.threads.length ct, .slice pf p.funcs.length cf, .int .i64 f, .bool x.leaf, .int .i64 x.slots, .slice pe x.entry.length ce, .slice pb x.blocks.length cb, .int .u32 h32, .int .i32 0] 88) := ⟨_, rfl⟩
  rw [← hw1] at HS hcp
  obtain ⟨hb1, hz1, h1, p2, x2, x3⟩ := HS
  generalize hcs : ([.int .i64 p.heap, .slice pt p.threads.length ct, .slice pf p.funcs.length cf, .int .i64 f, .bool x.leaf, .int .i64 x.slots, .slice pe x.entry.length ce, .slice pb x.blocks.length cb, .int .u32 h32] : List Value) = cs at h1
  obtain ⟨c, hc⟩ : ∃ c : Mc, c = ⟨w.heap.size + 2, pa, cs⟩ := ⟨_, rfl⟩
  have hcg : c.g = w.heap.size + 2 := by rw [hc]
  have hcpa : c.pa = pa := by rw [hc]
  have hmk : MkC c p.heap (.slice pt p.threads.length ct) (.slice pf p.funcs.length cf) f x.leaf x.slots (.slice pe x.entry.length ce) (.slice pb x.blocks.length cb) h32 := ⟨by rw [hc]; exact hcs.symm⟩
  rw [← hc] at h1
  clear hcs hc
  have HCP := ahid hcp
  have HB1 := ahid hb1
  have H1 := ahid h1
  have HM := ahid hmk
  have HFN := ahid hfn
  have HEN := ahid hen
  have HBL := ahid hbl
  clear hl ht hpw hb hcp hb1 h1 hmk hfn hen hbl hth
  -- whoever ends early puts nothing
  have HNO := ahid (show ∀ w', Below w1.heap.size w1 w' → (funcS p f x h32 L M = ⟨L, M, 0⟩) → LGo W.heap.size w pa S (funcS p f x h32 L M).L (funcS p f x h32 L M).M w' from fun w' hb' he => by
    rw [he, ← hcpa]
    exact (LowGo.same (H1.out.keepb hb')).lgo (HB1.out.trans (hb'.mono HB1.out.size)) (by omega) HLO.out)
  have HAL := ahid (fun w' (hb' : Below w1.heap.size w1 w') => all_any (g := c.g) (w := w') (p := p) (x := x) (f := f) (by omega) ((H1.out.keepb hb').cell (HM.out.c3 _)) ((H1.out.keepb hb').cell (HM.out.c4 _)) ((H1.out.keepb hb').cell (HM.out.c6 _)) ((H1.out.keepb hb').cell (HM.out.c7 _)) ((H1.out.keepb hb').cell (HM.out.c8 _)) (HFN.out.keep fun _ _ _ _ hh => FnAt.keep hh (H1.out.keepb hb').bel) ((AcsIn.keep HEN.out (H1.out.keepb hb').bel)) ((AbsIn.keep HBL.out (H1.out.keepb hb').bel)))
  by_cases hB : lowB p f x = true
  rotate_left
  · have e1 : funcE p f x M = 2 := if_neg hB
    have e2 : funcS p f x h32 L M = ⟨L, M, 0⟩ := if_neg (fun h => hB h.1)
    have HNO2 := ahid (fun w' hb' => HNO.out w' hb' e2)
    rw [e1]
    generalize (funcS p f x h32 L M) = Z at HNO2 ⊢
    rw [Bool.eq_false_iff.2 hB] at HAL
    clear HNO e1 e2 hB H1 HM HFN HEN HBL p2 x2 x3
    go_enter Tryd.func9, Tryd.ntmps9
    go_wp2_with fail
    rw [← hw1]
    clear hw1
    refine HCP.out.mono ?_
    rintro e w2 ⟨⟨q, rfl⟩, hb2⟩
    go_wp2_with fail
    refine ((hcg ▸ HAL.out w2 hb2 : _)).mono ?_
    rintro e w3 ⟨rfl, hb3⟩
    have HE := ahid (HNO2.out _ (hb2.trans (hb3.mono hb2.size)))
    go_wp2_with fail
    go_ret
    exact ⟨rfl, HE.out⟩
  obtain ⟨n, hn, fn, hfn⟩ : ∃ n : Nat, f = n ∧ ∃ fn, p.funcs[n]? = some fn := by
    unfold lowB at hB
    rw [Bool.and_eq_true, decide_eq_true_iff] at hB
    refine ⟨f.toNat, by omega, ?_⟩
    cases h : p.funcs[f.toNat]? with
    | none => rw [h] at hB; simp at hB
    | some fn => exact ⟨fn, rfl⟩
  subst hn
  have hn63 : n < 9223372036854775808 := by unfold I64 at hff; omega
  have HNM := ahid (fun w' (hb' : Below w1.heap.size w1 w') => low_name H1.out hn63 hb')
  have HMK := ahid (fun w' (hb' : Below w1.heap.size w1 w') => low_mark (H1.out.keepb hb') (nm := fNameL n) (fname_len n hn63) (by show M.length < maxLen; unfold maxLen; omega) (by show L.length < _; omega))
  have e1 : funcE p n x M = markE M (nameB' (fNameL n)) := by unfold funcE; rw [if_pos hB]; rfl
  rw [e1]
  clear e1
  rw [hB] at HAL
  rw [hcpa] at HMK
  by_cases hmE : markE M (nameB' (fNameL n)) = 0
  rotate_left
  · have e2 : funcS p n x h32 L M = ⟨L, M, 0⟩ := if_neg (fun h => hmE h.2)
    have e3 : markE M (nameB' (fNameL n)) = 9 := by
      unfold markE at hmE ⊢
      split
      · rfl
      · rename_i h; exact absurd (if_neg h) hmE
    have e4 : (⟨L, M, 0⟩ : Lo).mark (fNameL n) = ⟨L, M, 0⟩ := by
      unfold Lo.mark markM
      rw [if_pos]
      unfold markE at hmE
      split at hmE
      · assumption
      · exact absurd rfl hmE
    rw [e2]
    have HMK' : Hid (∀ w', Below w1.heap.size w1 w' → Calls Tryd.prog 10 #[.pointer (some ⟨pa, 0, none⟩), .string (nameB' (fNameL n))] w' fun e w2 => e = .returned (.int .i64 9) ∧ LowGo W w' c S ⟨L, M, 0⟩ w2) := ahid fun w' hb' => (HMK.out w' hb').mono fun e w2 ⟨q1, q2⟩ => ⟨by rw [q1]; exact congrArg (fun b => Ending.returned (.int .i64 b)) e3, by rw [← e4]; exact q2⟩
    have HFIN := ahid (show ∀ w2 w', Below w1.heap.size w1 w2 → LowGo W w2 c S ⟨L, M, 0⟩ w' → LGo W.heap.size w pa S L M w' from fun w2 w' hb' hg => by
      have := (hg.behind hb').lgo (w := w) HB1.out (by omega) HLO.out
      rw [hcpa] at this
      exact this)
    rw [e3]
    clear HNO e2 e3 e4 hB H1 HM HFN HEN HBL p2 x2 x3 HMK hmE
    generalize nameB' (fNameL n) = nm at HNM HMK'
    go_enter Tryd.func9, Tryd.ntmps9
    go_wp2_with fail
    rw [← hw1]
    clear hw1
    refine HCP.out.mono ?_
    rintro e w2 ⟨⟨q, rfl⟩, hb2⟩
    go_wp2_with fail
    refine ((hcg ▸ HAL.out w2 hb2 : _)).mono ?_
    rintro e w3 ⟨rfl, hb3⟩
    have hb4 := hb2.trans (hb3.mono hb2.size)
    go_wp2_with fail
    refine (HNM.out _ hb4).mono ?_
    rintro e w5 ⟨rfl, hb5⟩
    have hb6 := hb4.trans (hb5.mono hb4.size)
    go_wp2_with fail
    refine (HMK'.out _ hb6).mono ?_
    rintro e w7 ⟨rfl, hg⟩
    have HE := ahid (HFIN.out _ _ hb6 hg)
    clear hg hb6 hb5 hb4 hb3 hb2
    go_wp2_with fail
    go_ret
    exact ⟨rfl, HE.out⟩
  -- what all tells
  obtain ⟨HEA, hlen, HBA⟩ : Hid (∀ k y, x.entry[k]? = some y → moveP x.slots y) ∧ fn.blocks.length = x.blocks.length ∧ Hid (∀ (j : Nat) (b : Blk) (l : List Acx), fn.blocks[j]? = some b → x.blocks[j]? = some l → ∀ k y, l[k]? = some y → cellB p.funcs.length fn.blocks.length x.slots b.ins y = true) := by
    unfold lowB at hB
    simp only [Int.toNat_natCast, hfn, Bool.and_eq_true, List.all_eq_true, decide_eq_true_iff, blocksB_iff] at hB
    obtain ⟨-, h1, h2, h3⟩ := hB
    exact ⟨ahid fun k y hy => (h1 y (List.mem_of_getElem? hy)).2, h2, ahid fun j b l hb hl k y hy => h3 j b l hb hl y (List.mem_of_getElem? hy)⟩
  obtain ⟨s0, hs0⟩ : ∃ s : Lo, s = (⟨L, M, 0⟩ : Lo).mark (fNameL n) := ⟨_, rfl⟩
  obtain ⟨s1, hs1⟩ : ∃ s : Lo, s = if x.leaf = true then s0 else s0.begin n x.slots := ⟨_, rfl⟩
  obtain ⟨s2, hs2⟩ : ∃ s : Lo, s = x.entry.foldl Lo.moved s1 := ⟨_, rfl⟩
  obtain ⟨s3, hs3⟩ : ∃ s : Lo, s = Lo.blocks n x.leaf (p.heap % 4294967296) h32 0 fn.blocks x.blocks s2 := ⟨_, rfl⟩
  have v0 : s0.le L.length (M.length + 1) 0 := by
    rw [hs0]
    exact (show (⟨L, M, 0⟩ : Lo).le L.length M.length 0 from ⟨Nat.le_refl _, Nat.le_refl _, Nat.le_refl _⟩).mark _
  have v1 : s1.le (L.length + 10) (M.length + 2) 1 := by
    rw [hs1]
    split
    · exact v0.mono (by omega) (by omega) (by omega)
    · exact v0.begin _ _
  have hfin : funcS p n x h32 L M = s3 := by
    unfold funcS
    rw [if_pos ⟨hB, hmE⟩]
    unfold lowerS
    simp only [Int.toNat_natCast, hfn]
    rw [hs3, hs2, hs1, hs0]
  rw [hfin, hmE]
  have HFIN := ahid (show ∀ w', LowGo W w1 c S s3 w' → LGo W.heap.size w pa S s3.L s3.M w' from fun w' hg => by
    have := hg.lgo (w := w) HB1.out (by omega) HLO.out
    rw [hcpa] at this
    exact this)
  have HMK' : Hid (∀ w', Below w1.heap.size w1 w' → Calls Tryd.prog 10 #[.pointer (some ⟨pa, 0, none⟩), .string (nameB' (fNameL n))] w' fun e w2 => e = .returned (.int .i64 0) ∧ LowGo W w' c S s0 w2) := ahid fun w' hb' => (HMK.out w' hb').mono fun e w2 ⟨q1, q2⟩ => ⟨by rw [q1]; exact congrArg (fun b => Ending.returned (.int .i64 b)) hmE, by rw [hs0]; exact q2⟩
  have HBG : Hid (∀ w' S', LowAt W w' c S' s0 → Calls Tryd.prog 26 #[.pointer (some ⟨c.g, 0, none⟩)] w' fun e w2 => e = .returned (.tuple #[]) ∧ LowGo W w' c S' s1 w2) := ahid fun w' S' h' => by
    obtain ⟨q1, q2, q3⟩ := v0
    rw [hs1]
    cases hlf : x.leaf with
    | true =>
      have hmk' := HM.out
      rw [hlf] at hmk'
      rw [if_pos rfl]
      exact begin_leaf h' hmk'
    | false =>
      have hmk' := HM.out
      rw [hlf] at hmk'
      rw [if_neg (by simp)]
      exact begin_any h' hmk' hn63 (by omega) (by omega) (by omega) hs
  have HBX := ahid (show ∀ s w', LowGo W w1 c S s w' → w'.cell? ⟨w.heap.size, 2, none⟩ = some (.slice pf p.funcs.length cf) ∧ w'.cell? ⟨w.heap.size + 1, 2, none⟩ = some (.slice pe x.entry.length ce) ∧ w'.cell? ⟨w.heap.size + 1, 3, none⟩ = some (.slice pb x.blocks.length cb) from fun s w' hg => by
    obtain ⟨S', h', o', -⟩ := hg
    have z : ∀ b, w.heap.size ≤ b → b < w.heap.size + 2 → ¬ (S b ∨ b = c.g) := fun b g1 g2 g3 => by
      rcases g3 with g3 | g3
      · have := HLO.out _ g3; omega
      · omega
    exact ⟨box_keep (Below.refl _ _) o' (z _ (by omega) (by omega)) p2, box_keep (Below.refl _ _) o' (z _ (by omega) (by omega)) x2, box_keep (Below.refl _ _) o' (z _ (by omega) (by omega)) x3⟩)
  have HEQ := ahid (And.intro hs0 (And.intro hs1 (And.intro hs2 hs3)))
  clear HNO HMK hmE hB hs0 hs1 hs2 hs3 hfin p2 x2 x3
  generalize nameB' (fNameL n) = nm at HNM HMK'
  go_enter Tryd.func9, Tryd.ntmps9
  go_wp2_with fail
  rw [← hw1]
  clear hw1
  refine HCP.out.mono ?_
  rintro e w2 ⟨⟨q, rfl⟩, hb2⟩
  go_wp2_with fail
  refine ((hcg ▸ HAL.out w2 hb2 : _)).mono ?_
  rintro e w3 ⟨rfl, hb3⟩
  have hb4 := hb2.trans (hb3.mono hb2.size)
  go_wp2_with fail
  refine (HNM.out _ hb4).mono ?_
  rintro e w5 ⟨rfl, hb5⟩
  have hb6 := hb4.trans (hb5.mono hb4.size)
  go_wp2_with fail
  refine (HMK'.out _ hb6).mono ?_
  rintro e w7 ⟨rfl, hg⟩
  have HG7 := ahid (hg.behind hb6)
  clear hg hb6 hb5 hb4 hb3 hb2 HMK' HNM HAL HCP
  go_wp2_with fail
  obtain ⟨S7, h7, o7, r7⟩ := HG7.out
  refine ((hcg ▸ HBG.out w7 S7 h7 : _)).mono ?_
  rintro e w8 ⟨rfl, hg8⟩
  have HG8 := ahid (LowGo.then o7 r7 hg8)
  obtain ⟨p2, x2, x3⟩ := HBX.out _ _ HG8.out
  clear h7 o7 r7 hg8 HG7 HBG
  go_wp2_with fail
  obtain ⟨pe', ce', be, oe, hpe, hle, HX⟩ := HEN.out.lhids
  injection hpe with e1 _ e3
  subst e1 e3
  go_loopw [48] (fun i wr => ∃ k : Nat, k ≤ x.entry.length ∧ i = .int .i64 k ∧ LowGo W w1 c S ((x.entry.take k).foldl Lo.moved s1) wr) (fun i _ => x.entry.length - (intOf i).toNat)
  case atStart => exact ⟨0, Nat.zero_le _, rfl, HG8.out⟩
  case round =>
    obtain ⟨k, hk, rfl, hg⟩ := hrel
    have HG := ahid hg
    clear hg p2 x2 x3
    by_cases hlt : k < x.entry.length
    · obtain rfl := HX.out.1 (by omega)
      obtain ⟨Sr, hr, or, rr⟩ := HG.out
      have hx' := List.getElem?_eq_getElem hlt
      have ha := (HX.out.2 k x.entry[k] hx').keep hr.bel
      have hmv := HEA.out _ _ hx'
      have HTK := ahid (foldl_take Lo.moved x.entry s1 k hlt)
      obtain ⟨pp, cp, c5, hv⟩ := ha.val
      obtain ⟨c0, c1, c2, c3, c4, -, -⟩ := ha
      clear hx'
      generalize x.entry[k] = y at *
      obtain ⟨w9, hw9⟩ : ∃ w9, w9 = wr.alloc (.cells #[.int .u8 y.kind, .int .i64 y.at', .int .i64 y.d, .int .i64 y.a, .int .i64 y.b, .slice pp y.args.length cp] 41) := ⟨_, rfl⟩
      have hb9 : Below wr.heap.size wr w9 := by rw [hw9]; exact (Below.refl _ wr).alloc (Nat.le_refl _) _
      have HMV := ahid (moved_any (hr.keepb hb9) (hv.keep hb9) hs hmv (by
        have := (v1.entries (x.entry.take k)).1
        rw [List.length_take] at this
        omega))
      rw [hw9] at HMV
      have HOR := ahid or
      have HRR := ahid rr
      have HB9 := ahid hb9
      clear hr or rr hv hmv hb9 hcpa
      go_wp2_with fail
      refine ((hcg ▸ HMV.out : _)).mono ?_
      rintro e w10 ⟨rfl, hg⟩
      rw [← hw9] at hg
      have HG' := ahid (LowGo.then HOR.out HRR.out (hg.behind HB9.out))
      clear hg hw9 HMV
      go_wp2_with fail
      go_round
      case rel => exact ⟨k + 1, by omega, by go_num, by rw [HTK.out]; exact HG'.out⟩
      case measure => simp [intOf]; omega
    · have HG9 : Hid (LowGo W w1 c S s2 wr) := ahid (by
        have h := HG.out
        rw [List.take_of_length_le (by omega), ← HEQ.out.2.2.1] at h
        exact h)
      obtain ⟨p2, x2, x3⟩ := HBX.out _ _ HG9.out
      clear HG HG8 HX HEA
      go_wp2_with fail
      refine (instructions_any wr).mono ?_
      rintro e w11 ⟨rfl, hb11⟩
      obtain ⟨w12, hw12⟩ : ∃ w12, w12 = w11.alloc (.cells #[.func (.func 55) #[] #[], .func (.func 56) #[] #[], .func (.func 57) #[] #[], .func (.func 58) #[] #[], .func (.func 59) #[] #[], .func (.func 60) #[] #[], .func (.func 61) #[] #[], .func (.func 62) #[] #[], .func (.func 63) #[] #[], .func (.func 64) #[] #[], .func (.func 65) #[] #[]] 91) := ⟨_, rfl⟩
      have hb12 : Below wr.heap.size wr w12 := by rw [hw12]; exact hb11.alloc hb11.size _
      replace p2 := (hb12.cell (World.block_lt_of_cell? _ _ p2)).trans p2
      replace x3 := (hb12.cell (World.block_lt_of_cell? _ _ x3)).trans x3
      obtain ⟨ba, hba⟩ : ∃ ba, ba = w11.heap.size := ⟨_, rfl⟩
      have hzz : w12.heap.size = ba + 1 := by rw [hw12, hba]; simp [go_sem]
      have hfs : ∀ k u, [.func (.func 55) #[] #[], .func (.func 56) #[] #[], .func (.func 57) #[] #[], .func (.func 58) #[] #[], .func (.func 59) #[] #[], .func (.func 60) #[] #[], .func (.func 61) #[] #[], .func (.func 62) #[] #[], .func (.func 63) #[] #[], .func (.func 64) #[] #[], .func (.func 65) #[] #[]][k]? = some u → w12.cell? ⟨ba, k, none⟩ = some u := fun k u hu => by
        rw [hw12, hba]
        exact (VRow.fresh w11 _ [.func (.func 55) #[] #[], .func (.func 56) #[] #[], .func (.func 57) #[] #[], .func (.func 58) #[] #[], .func (.func 59) #[] #[], .func (.func 60) #[] #[], .func (.func 61) #[] #[], .func (.func 62) #[] #[], .func (.func 63) #[] #[], .func (.func 64) #[] #[], .func (.func 65) #[] #[]]).cell hu
      have hwr : wr.heap.size ≤ ba := by rw [hba]; exact hb11.size
      obtain ⟨S12, h9, o9, r9⟩ := HG9.out
      have h12 := h9.keepb hb12
      have o12 : Only (fun k => S k ∨ k = c.g) w1 w12 := o9.trans (Only.of_below hb12)
      have hS12 : ∀ k, S12 k → k < wr.heap.size := fun k hk => (h9.lst.lo k hk).2
      have hsz1 : w1.heap.size ≤ wr.heap.size := o9.size
      have HX2 := ahid (show ∀ s w', LowGo W w12 c S12 s w' → w'.cell? ⟨w.heap.size, 2, none⟩ = some (.slice pf p.funcs.length cf) ∧ ∀ k u, [.func (.func 55) #[] #[], .func (.func 56) #[] #[], .func (.func 57) #[] #[], .func (.func 58) #[] #[], .func (.func 59) #[] #[], .func (.func 60) #[] #[], .func (.func 61) #[] #[], .func (.func 62) #[] #[], .func (.func 63) #[] #[], .func (.func 64) #[] #[], .func (.func 65) #[] #[]][k]? = some u → w'.cell? ⟨ba, k, none⟩ = some u from fun s w' hg => by
        obtain ⟨S', h', o', -⟩ := hg
        have z1 : ¬ (S12 w.heap.size ∨ w.heap.size = c.g) := fun g3 => by
          rcases g3 with g3 | g3
          · rcases r9 _ g3 with g4 | g4
            · have := HLO.out _ g4; omega
            · omega
          · omega
        have z2 : ¬ (S12 ba ∨ ba = c.g) := fun g3 => by
          rcases g3 with g3 | g3
          · have := hS12 _ g3; omega
          · omega
        exact ⟨box_keep (Below.refl _ _) o' z1 p2, fun k u hu => box_keep (Below.refl _ _) o' z2 (hfs k u hu)⟩)
      have x3' := x3
      rw [hw12] at x3'
      have HG12 := ahid (show LowGo W w1 c S s2 w12 from ⟨S12, h12, o12, r9⟩)
      have H12 := ahid h12
      have HO12 := ahid o12
      have HR12 := ahid r9
      clear hfs hb12 p2 x3 h9 o9 r9 h12 o12 hS12 hsz1 hwr hb11 HG9 x2
      go_wp2_with fail
      rw [← hw12, ← hba]
      clear hw12 x3' hba hzz
      obtain ⟨pb', cb', bb, ob, hpb', hlb', HXB⟩ := HBL.out.lhids
      injection hpb' with e1 _ e3
      subst e1 e3
      have hbl0 : fn.blocks.length = x.blocks.length := hlen
      have HLN := ahid hlen
      clear hlen hbl0
      go_loopw [60] (fun i wr => ∃ k : Nat, k ≤ x.blocks.length ∧ i = .int .i64 k ∧ LowGo W w12 c S12 (Lo.blocks n x.leaf (p.heap % 4294967296) h32 0 (fn.blocks.take k) (x.blocks.take k) s2) wr) (fun i _ => x.blocks.length - (intOf i).toNat)
      case atStart => exact ⟨0, Nat.zero_le _, rfl, by simpa [Lo.blocks] using LowGo.same H12.out⟩
      case round =>
        obtain ⟨k, hk, rfl, hg⟩ := hrel
        have HG := ahid hg
        clear hg
        by_cases hlt : k < x.blocks.length
        · obtain rfl := HXB.out.1 (by omega)
          obtain ⟨Sr, hr, or, rr⟩ := HG.out
          have hkb : k < fn.blocks.length := by rw [HLN.out]; exact hlt
          have hx' := List.getElem?_eq_getElem hlt
          have hb' := List.getElem?_eq_getElem hkb
          obtain ⟨vv, cvW, hv⟩ := HXB.out.2 k x.blocks[k] hx'
          have cv0 := (hr.bel.cell (World.block_lt_of_cell? _ _ cvW)).trans cvW
          clear cvW
          have HBT := ahid (blocks_take n x.leaf (p.heap % 4294967296) h32 fn.blocks x.blocks 0 k s2 hkb hlt)
          have HCO := ahid (HBA.out k _ _ hb' hx')
          have HVL := ahid (show (Lo.blocks n x.leaf (p.heap % 4294967296) h32 0 (fn.blocks.take k) (x.blocks.take k) s2).le (L.length + 10 + 4 * x.entry.length + 10 * cellsN (x.blocks.take k)) (M.length + 2 + k + cellsN (x.blocks.take k)) (1 + cellsN (x.blocks.take k)) by
            have := v1.entries x.entry
            rw [← HEQ.out.2.2.1] at this
            exact blocks_le n x.leaf _ h32 fn.blocks x.blocks s2 this k (by omega) (by omega))
          have HCN := ahid (show cellsN (x.blocks.take k) + x.blocks[k].length ≤ cellsN x.blocks by
            rw [← cellsN_take x.blocks k hlt]; exact cellsN_le _ _)
          have HBK : Hid (∃ vb pbk cbk b1 o1 bo oo v2, vb = .slice pbk fn.blocks.length cbk ∧ (pf = some ⟨b1, o1, none⟩ ∧ n < p.funcs.length) ∧ (∀ w', Below W.heap.size W w' → w'.cell? ⟨b1, o1 + n * 4 + 3, none⟩ = some vb) ∧ pbk = some ⟨bo, oo, none⟩ ∧ (∀ w', Below W.heap.size W w' → w'.cell? ⟨bo, oo + k * 2 + 1, none⟩ = some v2) ∧ InsxIn W v2 (fn.blocks[k]).ins) := ahid (by
            obtain ⟨b1, o1, h1, -, h2, h3⟩ := HFN.out.in hfn
            obtain ⟨vb, h4, h5⟩ := h3.c3
            obtain ⟨pbk, cbk, rfl⟩ := h5.shape
            obtain ⟨bo, oo, h6, -, -, h7⟩ := h5.in hb'
            obtain ⟨v2, h8, h9⟩ := h7.c1
            exact ⟨_, pbk, cbk, b1, o1, bo, oo, v2, rfl, ⟨h1, h2⟩, fun w' hd => (hd.cell (World.block_lt_of_cell? _ _ h4)).trans h4, h6, fun w' hd => (hd.cell (World.block_lt_of_cell? _ _ h8)).trans h8, h9⟩)
          obtain ⟨pv, cv, rfl⟩ := hv.shape
          rw [Nat.mul_one] at cv0
          rw [Nat.zero_add] at HBT
          clear hx' hb'
          generalize fn.blocks[k] = bk at HBT HCO HBK
          generalize x.blocks[k] = l at *
          obtain ⟨w13, hw13⟩ : ∃ w13, w13 = wr.alloc (.cells #[.slice pv l.length cv] 43) := ⟨_, rfl⟩
          have hb13 : Below wr.heap.size wr w13 := by rw [hw13]; exact (Below.refl _ wr).alloc (Nat.le_refl _) _
          have e13 : w13.cell? ⟨wr.heap.size, 0, none⟩ = some (.slice pv l.length cv) := by rw [hw13]; simp [go_sem]
          obtain ⟨sk, hsk⟩ : ∃ sk, sk = Lo.blocks n x.leaf (p.heap % 4294967296) h32 0 (fn.blocks.take k) (x.blocks.take k) s2 := ⟨_, rfl⟩
          rw [← hsk] at HBT HVL HG
          rw [← hsk] at hr
          have hk63 : k < 9223372036854775808 := by omega
          have HNB := ahid (low_block (b := k) (hr.keepb hb13) HM.out hn63 hk63 (Below.refl _ _))
          have HMB := ahid (fun w' (hd : Below wr.heap.size wr w') => low_mark (hr.keepb hd) (nm := bNameL n k) (bname_len n k hn63 hk63) (by have := HVL.out.2.1; have := HCN.out; unfold maxLen; omega) (by have := HVL.out.1; have := HCN.out; omega))
          rw [hcpa] at HMB
          have HWR := ahid (show ¬ (Sr wr.heap.size ∨ wr.heap.size = c.g) from fun g3 => by
            rcases g3 with g3 | g3
            · have := (hr.lst.lo _ g3).2; omega
            · have := hr.mkr.lt; omega)
          have HOR := ahid or
          have HRR := ahid rr
          have HB13 := ahid hb13
          have HAV := ahid (show AcsIn W (.slice pv l.length cv) l from hv)
          clear hr or rr hv hb13 hsk
          rw [hw13] at HNB
          go_wp2_with fail
          refine ((hcg ▸ HNB.out : _)).mono ?_
          rintro e w14 ⟨rfl, hb14⟩
          rw [← hw13] at hb14
          have hb15 := HB13.out.trans (hb14.mono HB13.out.size)
          have e14 := (hb14.cell (World.block_lt_of_cell? _ _ e13)).trans e13
          go_wp2_with fail
          refine (HMB.out w14 hb15).mono ?_
          rintro e w15 ⟨rfl, hg15⟩
          have e15 := box_keep (Below.refl _ _) hg15.choose_spec.2.1 HWR.out e14
          have HG15 := ahid (LowGo.then HOR.out HRR.out (hg15.behind hb15))
          clear hb15 hb14 e14 e13 hw13 HMB HNB HWR hg15 HOR HRR HB13
          go_wp2_with fail
          obtain ⟨pv', cv', bl0, ol, hpv', hlv', HXL⟩ := HAV.out.lhids
          injection hpv' with e1 _ e3
          subst e1 e3
          obtain ⟨sm, hsm⟩ : ∃ sm, sm = sk.mark (bNameL n k) := ⟨_, rfl⟩
          rw [← hsm] at HG15
          have HVM := ahid (show sm.le (L.length + 10 + 4 * x.entry.length + 10 * cellsN (x.blocks.take k)) (M.length + 2 + k + cellsN (x.blocks.take k) + 1) (1 + cellsN (x.blocks.take k)) by rw [hsm]; exact HVL.out.mark _)
          have HBS : Hid (Lo.blocks n x.leaf (p.heap % 4294967296) h32 0 (fn.blocks.take (k + 1)) (x.blocks.take (k + 1)) s2 = l.foldl (fun s y => s.cell n x.leaf (p.heap % 4294967296) h32 bk.ins y) sm) := ahid (by rw [HBT.out, hsm]; rfl)
          clear hsm HBT HVL HG e15
          go_loopw [73] (fun i wr => ∃ j : Nat, j ≤ l.length ∧ i = .int .i64 j ∧ LowGo W w12 c S12 ((l.take j).foldl (fun s y => s.cell n x.leaf (p.heap % 4294967296) h32 bk.ins y) sm) wr) (fun i _ => l.length - (intOf i).toNat)
          case atStart => exact ⟨0, Nat.zero_le _, rfl, HG15.out⟩
          case round =>
            obtain ⟨j, hj, rfl, hg⟩ := hrel
            have HG := ahid hg
            clear hg
            by_cases hjl : j < l.length
            · obtain rfl := HXL.out.1 (by omega)
              obtain ⟨Sq, hr, or, rr⟩ := HG.out
              have hx' := List.getElem?_eq_getElem hjl
              have ha := (HXL.out.2 j l[j] hx').keep hr.bel
              have hcell := HCO.out _ _ hx'
              have HTK := ahid (foldl_take (fun (s : Lo) y => s.cell n x.leaf (p.heap % 4294967296) h32 bk.ins y) l sm j hjl)
              have HVJ := ahid (show ((l.take j).foldl (fun s y => s.cell n x.leaf (p.heap % 4294967296) h32 bk.ins y) sm).le (L.length + 10 + 4 * x.entry.length + 10 * cellsN x.blocks - 10) (M.length + 2 + x.blocks.length + cellsN x.blocks) (cellsN x.blocks + 1) by
                refine (HVM.out.cells n x.leaf (p.heap % 4294967296) h32 bk.ins (l.take j)).mono ?_ ?_ ?_ <;> (rw [List.length_take]; have := HCN.out; omega))
              obtain ⟨pp, cp, c5, hv⟩ := ha.val
              obtain ⟨c0, c1, c2, c3, c4, -, -⟩ := ha
              clear hx'
              generalize l[j] = y at *
              obtain ⟨sj, hsj⟩ : ∃ sj, sj = ((l.take j).foldl (fun s y => s.cell n x.leaf (p.heap % 4294967296) h32 bk.ins y) sm) := ⟨_, rfl⟩
              rw [← hsj] at HTK HVJ HG
              rw [← hsj] at hr
              clear hsj
              obtain ⟨w16, hw16⟩ : ∃ w16, w16 = wr.alloc (.cells #[.int .u8 y.kind, .int .i64 y.at', .int .i64 y.d, .int .i64 y.a, .int .i64 y.b, .slice pp y.args.length cp] 41) := ⟨_, rfl⟩
              have hb16 : Below wr.heap.size wr w16 := by rw [hw16]; exact (Below.refl _ wr).alloc (Nat.le_refl _) _
              have HOR := ahid or
              have HRR := ahid rr
              by_cases hk0 : y.kind = 0
              · have hmv : moveP x.slots y := by
                  unfold cellB at hcell
                  rw [if_pos hk0] at hcell
                  exact of_decide_eq_true hcell
                have HMV := ahid (moved_any (hr.keepb hb16) (hv.keep hb16) hs hmv (by have := HVJ.out.1; omega))
                rw [hw16] at HMV
                have HSC : Hid (sj.moved y = sj.cell n x.leaf (p.heap % 4294967296) h32 bk.ins y) := ahid (by unfold Lo.cell; rw [if_pos hk0])
                have HB16 := ahid hb16
                rw [hk0] at HMV c0 hw16
                clear hr or rr hv hmv hb16 hcell hcpa
                go_wp2_with fail
                refine ((hcg ▸ HMV.out : _)).mono ?_
                rintro e w17 ⟨rfl, hg⟩
                rw [← hw16] at hg
                have HG' := ahid (LowGo.then HOR.out HRR.out (hg.behind HB16.out))
                clear hg hw16 HMV
                go_wp2_with fail
                go_round
                case rel => exact ⟨j + 1, by omega, by go_num, by rw [HTK.out, ← HSC.out]; exact HG'.out⟩
                case measure => simp [intOf]; omega
              · have hk1 : y.kind = 1 ∧ ∃ z, insAtS bk.ins y.at' = some z ∧ doP p.funcs.length fn.blocks.length z y := by
                  unfold cellB at hcell
                  rw [if_neg hk0] at hcell
                  split at hcell
                  · rename_i h1
                    refine ⟨h1, ?_⟩
                    split at hcell
                    · rename_i z hz
                      exact ⟨z, hz, of_decide_eq_true hcell⟩
                    · cases hcell
                  · cases hcell
                obtain ⟨hk1, z, hz, hdo⟩ := hk1
                obtain ⟨kk, hkk, hzk⟩ : ∃ kk : Nat, y.at' = kk ∧ bk.ins[kk]? = some z := by
                  unfold insAtS at hz
                  split at hz
                  · exact ⟨y.at'.toNat, by omega, hz⟩
                  · cases hz
                obtain ⟨vb, pbk, cbk, b1, o1, bo, oo, v2, rfl, ⟨rfl, hnl⟩, hvb, rfl, hv2, hv3⟩ := HBK.out
                obtain ⟨pi, ci, rfl⟩ := hv3.shape
                obtain ⟨bi, oi, rfl, -, hkl, hza⟩ := hv3.in hzk
                have hzb := hza.bd
                replace hza := hza.keep hr.bel
                obtain ⟨i0, i1, i2, i3, i4, i5, ⟨vz, i6, hargs⟩, i7, i8, -⟩ := hza
                obtain ⟨pz, cz, rfl⟩ := hargs.shape
                have g2 := (HX2.out _ _ HG.out).1
                have gb := hvb wr hr.bel
                have gi := hv2 wr hr.bel
                have HSC : Hid (sj.does n x.leaf (p.heap % 4294967296) h32 z y = sj.cell n x.leaf (p.heap % 4294967296) h32 bk.ins y) := ahid (by
                  unfold Lo.cell
                  rw [if_neg hk0, hz])
                have y1 : w16.cell? ⟨wr.heap.size, 1, none⟩ = some (.int .i64 kk) := by rw [hw16, hkk]; simp [go_sem]
                have y0 : w16.cell? ⟨wr.heap.size, 0, none⟩ = some (.int .u8 1) := by rw [hw16, hk1]; simp [go_sem]
                have y2 : w16.cell? ⟨wr.heap.size, 2, none⟩ = some (.int .i64 y.d) := by rw [hw16]; simp [go_sem]
                have y3 : w16.cell? ⟨wr.heap.size, 3, none⟩ = some (.int .i64 y.a) := by rw [hw16]; simp [go_sem]
                have y4 : w16.cell? ⟨wr.heap.size, 4, none⟩ = some (.int .i64 y.b) := by rw [hw16]; simp [go_sem]
                have y5 : w16.cell? ⟨wr.heap.size, 5, none⟩ = some (.slice pp y.args.length cp) := by rw [hw16]; simp [go_sem]
                have t {q : Addr} {u : Value} (e : wr.cell? q = some u) : w16.cell? q = some u := (hb16.cell (World.block_lt_of_cell? _ _ e)).trans e
                have gz : w16.heap.size = wr.heap.size + 1 := by rw [hw16]; simp [go_sem]
                have HSS := ahid (show ∀ w', Below w16.heap.size w16 w' → w'.cell? ⟨w.heap.size, 2, none⟩ = some (.slice (some ⟨b1, o1, none⟩) p.funcs.length cf) ∧ w'.cell? ⟨b1, o1 + n * 4 + 3, none⟩ = some (.slice (some ⟨bo, oo, none⟩) fn.blocks.length cbk) ∧ w'.cell? ⟨bo, oo + k * 2 + 1, none⟩ = some (.slice (some ⟨bi, oi, none⟩) bk.ins.length ci) ∧ w'.cell? ⟨wr.heap.size, 1, none⟩ = some (.int .i64 kk) ∧ w'.cell? ⟨bi, oi + kk * 9, none⟩ = some (.int .u8 z.op) ∧ w'.cell? ⟨bi, oi + kk * 9 + 1, none⟩ = some (.int .i64 z.d) ∧ w'.cell? ⟨bi, oi + kk * 9 + 2, none⟩ = some (.int .i64 z.a) ∧ w'.cell? ⟨bi, oi + kk * 9 + 3, none⟩ = some (.int .i64 z.b) ∧ w'.cell? ⟨bi, oi + kk * 9 + 4, none⟩ = some (.int .u32 z.n) ∧ w'.cell? ⟨bi, oi + kk * 9 + 5, none⟩ = some (.int .i64 z.f) ∧ w'.cell? ⟨bi, oi + kk * 9 + 6, none⟩ = some (.slice pz z.args.length cz) ∧ w'.cell? ⟨bi, oi + kk * 9 + 7, none⟩ = some (.int .i64 z.l1) ∧ w'.cell? ⟨bi, oi + kk * 9 + 8, none⟩ = some (.int .i64 z.l2) from fun w' hd =>
                  have q {a : Addr} {u : Value} (e : w16.cell? a = some u) : w'.cell? a = some u := (hd.cell (World.block_lt_of_cell? _ _ e)).trans e
                  ⟨q (t g2), q (t gb), q (t gi), q y1, q (t i0), q (t i1), q (t i2), q (t i3), q (t i4), q (t i5), q (t i6), q (t i7), q (t i8)⟩)
                have HYS := ahid (show ∀ w', Below w16.heap.size w16 w' → w'.cell? ⟨wr.heap.size, 0, none⟩ = some (.int .u8 1) ∧ w'.cell? ⟨wr.heap.size, 1, none⟩ = some (.int .i64 kk) ∧ w'.cell? ⟨wr.heap.size, 2, none⟩ = some (.int .i64 y.d) ∧ w'.cell? ⟨wr.heap.size, 3, none⟩ = some (.int .i64 y.a) ∧ w'.cell? ⟨wr.heap.size, 4, none⟩ = some (.int .i64 y.b) ∧ w'.cell? ⟨wr.heap.size, 5, none⟩ = some (.slice pp y.args.length cp) from fun w' hd =>
                  have q {a : Addr} {u : Value} (e : w16.cell? a = some u) : w'.cell? a = some u := (hd.cell (World.block_lt_of_cell? _ _ e)).trans e
                  ⟨q y0, q y1, q y2, q y3, q y4, q y5⟩)
                have HR := ahid hr
                have HB16 := ahid hb16
                have HDO := ahid hdo
                have HZB := ahid hzb
                have n0 : (0 : Int) ≤ (n : Int) := by omega
                have n1 : (n : Int) < (p.funcs.length : Int) := by omega
                have n2 : (0 : Int) ≤ (k : Int) := by omega
                have n3 : (k : Int) < (fn.blocks.length : Int) := by have := HLN.out; omega
                have n4 : (0 : Int) ≤ (kk : Int) := by omega
                have n5 : (kk : Int) < (bk.ins.length : Int) := by omega
                rw [hk1, hkk] at hw16
                have hk1' := hk1
                rw [hk1] at c0
                rw [hkk] at c1
                clear hr or rr hv hb16 hcell hargs hzb hdo hz hzk hv3 hvb hv2 t y0 y1 y2 y3 y4 y5 i0 i1 i2 i3 i4 i5 i6 i7 i8 g2 gb gi hk0
                go_wp2_with fail
                rw [← hw16]
                clear hw16
                obtain ⟨g2, gb, gi, y1, i0, i1, i2, i3, i4, i5, i6, i7, i8⟩ := HSS.out w16 (Below.refl _ _)
                have hle16 : w16.heap.size ≤ w16.heap.size := Nat.le_refl _
                go_region_held3 (fun w' => w'.cell? ⟨w.heap.size, 2, none⟩ = some (.slice (some ⟨b1, o1, none⟩) p.funcs.length cf) ∧ w'.cell? ⟨b1, o1 + n * 4 + 3, none⟩ = some (.slice (some ⟨bo, oo, none⟩) fn.blocks.length cbk) ∧ w'.cell? ⟨bo, oo + k * 2 + 1, none⟩ = some (.slice (some ⟨bi, oi, none⟩) bk.ins.length ci) ∧ w'.cell? ⟨wr.heap.size, 1, none⟩ = some (.int .i64 kk) ∧ w'.cell? ⟨bi, oi + kk * 9, none⟩ = some (.int .u8 z.op) ∧ w'.cell? ⟨bi, oi + kk * 9 + 1, none⟩ = some (.int .i64 z.d) ∧ w'.cell? ⟨bi, oi + kk * 9 + 2, none⟩ = some (.int .i64 z.a) ∧ w'.cell? ⟨bi, oi + kk * 9 + 3, none⟩ = some (.int .i64 z.b) ∧ w'.cell? ⟨bi, oi + kk * 9 + 4, none⟩ = some (.int .u32 z.n) ∧ w'.cell? ⟨bi, oi + kk * 9 + 5, none⟩ = some (.int .i64 z.f) ∧ w'.cell? ⟨bi, oi + kk * 9 + 6, none⟩ = some (.slice pz z.args.length cz) ∧ w'.cell? ⟨bi, oi + kk * 9 + 7, none⟩ = some (.int .i64 z.l1) ∧ w'.cell? ⟨bi, oi + kk * 9 + 8, none⟩ = some (.int .i64 z.l2)) (first | (with_reducible exact HSS.out _ (Below.refl _ _)) | (refine HSS.out _ ?_; go_grown; done)) (fail)
                obtain ⟨w18, hw18⟩ : ∃ w18, w18 = (w16.alloc (.cells #[.int .u8 z.op, .int .i64 z.d, .int .i64 z.a, .int .i64 z.b, .int .u32 z.n, .int .i64 z.f, .slice pz z.args.length cz, .int .i64 z.l1, .int .i64 z.l2] 73)).drew := ⟨_, rfl⟩
                rw [← hw18]
                have hb18 : Below w16.heap.size w16 w18 := by rw [hw18]; exact ((Below.refl _ w16).alloc (Nat.le_refl _) _).drew
                have b0 : w18.cell? ⟨wr.heap.size + 1, 0, none⟩ = some (.int .u8 z.op) := by rw [hw18, ← gz]; exact (VRow.fresh w16 73 [.int .u8 z.op, .int .i64 z.d, .int .i64 z.a, .int .i64 z.b, .int .u32 z.n, .int .i64 z.f, .slice pz z.args.length cz, .int .i64 z.l1, .int .i64 z.l2]).cell (k := 0) rfl
                have b1 : w18.cell? ⟨wr.heap.size + 1, 1, none⟩ = some (.int .i64 z.d) := by rw [hw18, ← gz]; exact (VRow.fresh w16 73 [.int .u8 z.op, .int .i64 z.d, .int .i64 z.a, .int .i64 z.b, .int .u32 z.n, .int .i64 z.f, .slice pz z.args.length cz, .int .i64 z.l1, .int .i64 z.l2]).cell (k := 1) rfl
                have b2 : w18.cell? ⟨wr.heap.size + 1, 2, none⟩ = some (.int .i64 z.a) := by rw [hw18, ← gz]; exact (VRow.fresh w16 73 [.int .u8 z.op, .int .i64 z.d, .int .i64 z.a, .int .i64 z.b, .int .u32 z.n, .int .i64 z.f, .slice pz z.args.length cz, .int .i64 z.l1, .int .i64 z.l2]).cell (k := 2) rfl
                have b3 : w18.cell? ⟨wr.heap.size + 1, 3, none⟩ = some (.int .i64 z.b) := by rw [hw18, ← gz]; exact (VRow.fresh w16 73 [.int .u8 z.op, .int .i64 z.d, .int .i64 z.a, .int .i64 z.b, .int .u32 z.n, .int .i64 z.f, .slice pz z.args.length cz, .int .i64 z.l1, .int .i64 z.l2]).cell (k := 3) rfl
                have b4 : w18.cell? ⟨wr.heap.size + 1, 4, none⟩ = some (.int .u32 z.n) := by rw [hw18, ← gz]; exact (VRow.fresh w16 73 [.int .u8 z.op, .int .i64 z.d, .int .i64 z.a, .int .i64 z.b, .int .u32 z.n, .int .i64 z.f, .slice pz z.args.length cz, .int .i64 z.l1, .int .i64 z.l2]).cell (k := 4) rfl
                have b5 : w18.cell? ⟨wr.heap.size + 1, 5, none⟩ = some (.int .i64 z.f) := by rw [hw18, ← gz]; exact (VRow.fresh w16 73 [.int .u8 z.op, .int .i64 z.d, .int .i64 z.a, .int .i64 z.b, .int .u32 z.n, .int .i64 z.f, .slice pz z.args.length cz, .int .i64 z.l1, .int .i64 z.l2]).cell (k := 5) rfl
                have b6 : w18.cell? ⟨wr.heap.size + 1, 6, none⟩ = some (.slice pz z.args.length cz) := by rw [hw18, ← gz]; exact (VRow.fresh w16 73 [.int .u8 z.op, .int .i64 z.d, .int .i64 z.a, .int .i64 z.b, .int .u32 z.n, .int .i64 z.f, .slice pz z.args.length cz, .int .i64 z.l1, .int .i64 z.l2]).cell (k := 6) rfl
                have b7 : w18.cell? ⟨wr.heap.size + 1, 7, none⟩ = some (.int .i64 z.l1) := by rw [hw18, ← gz]; exact (VRow.fresh w16 73 [.int .u8 z.op, .int .i64 z.d, .int .i64 z.a, .int .i64 z.b, .int .u32 z.n, .int .i64 z.f, .slice pz z.args.length cz, .int .i64 z.l1, .int .i64 z.l2]).cell (k := 7) rfl
                have b8 : w18.cell? ⟨wr.heap.size + 1, 8, none⟩ = some (.int .i64 z.l2) := by rw [hw18, ← gz]; exact (VRow.fresh w16 73 [.int .u8 z.op, .int .i64 z.d, .int .i64 z.a, .int .i64 z.b, .int .u32 z.n, .int .i64 z.f, .slice pz z.args.length cz, .int .i64 z.l1, .int .i64 z.l2]).cell (k := 8) rfl
                obtain ⟨y0, y1, y2, y3, y4, y5⟩ := HYS.out w18 hb18
                have hop : z.op ≤ 10 := by
                  have h1 := HDO.out.1
                  unfold hasS at h1
                  by_cases hq : 0 ≤ z.op ∧ z.op ≤ 10
                  · exact hq.2
                  · rw [if_neg hq] at h1; omega
                have hop0 : 0 ≤ z.op := HZB.out.1.1
                have hop1 : z.op < 11 := by omega
                have tf := (hb18.cell (World.block_lt_of_cell? _ _ ((HB16.out.cell (World.block_lt_of_cell? _ _ ((HX2.out _ _ HG.out).2 _ _ (lenter_at z.op.toNat (by omega))))).trans ((HX2.out _ _ HG.out).2 _ _ (lenter_at z.op.toNat (by omega)))))).trans ((HB16.out.cell (World.block_lt_of_cell? _ _ ((HX2.out _ _ HG.out).2 _ _ (lenter_at z.op.toNat (by omega))))).trans ((HX2.out _ _ HG.out).2 _ _ (lenter_at z.op.toNat (by omega))))
                have HB18 := ahid (HB16.out.trans (hb18.mono HB16.out.size))
                clear hw18 hb18 g2 gb gi i0 i1 i2 i3 i4 i5 i6 i7 i8 n0 n1 n2 n3 n4 n5
                go_wp2_with fail
                go_still_tail 7, (by kernel_rfl)
                change wpList _ _ _ _ _ w18.drew
                have HB19 := ahid (HB18.out.drew)
                have HD := disp_low (HR.out.keepb HB19.out) HM.out hn63 h3 (by have := HVJ.out.2.2; omega) (by have := HVJ.out.2.1; omega) (by have := HVJ.out.1; have := hL; omega) HZB.out HDO.out pz pp cz cp
                unfold insV acV at HD
                rw [hk1', hkk] at HD
                replace HD := ahid HD
                clear b0 b1 b2 b3 b4 b5 b6 b7 b8 y0 y1 y2 y3 y4 y5 tf HB18 HSS HYS HDO HZB
                generalize w18.drew = w19 at *
                go_wp2_with fail
                rw [lenter_fn z.op.toNat (by omega) _ w19, Oper.upon_enter]
                refine ((hcg ▸ HD.out : _)).mono ?_
                rintro e w20 ⟨rfl, hg⟩
                have HG' := ahid (LowGo.then HOR.out HRR.out (hg.behind HB19.out))
                clear hg HD
                go_wp2_with fail
                go_round
                case rel => exact ⟨j + 1, by omega, by go_num, by rw [HTK.out, ← HSC.out]; exact HG'.out⟩
                case measure => simp [intOf]; omega
            · have HGE : Hid (LowGo W w12 c S12 (Lo.blocks n x.leaf (p.heap % 4294967296) h32 0 (fn.blocks.take (k + 1)) (x.blocks.take (k + 1)) s2) wr) := ahid (by
                have h := HG.out
                rw [List.take_of_length_le (by omega)] at h
                rw [HBS.out]
                exact h)
              go_wp2_with fail
              go_round
              case rel => exact ⟨k + 1, by omega, by go_num, HGE.out⟩
              case measure => simp [intOf]; omega
        · have HG9 : Hid (LowGo W w1 c S s3 wr) := ahid (by
            have h := HG.out
            rw [List.take_of_length_le (by rw [HLN.out]; omega), List.take_of_length_le (by omega), ← HEQ.out.2.2.2] at h
            exact LowGo.then HO12.out HR12.out h)
          go_wp2_with fail
          go_ret
          exact ⟨rfl, HFIN.out _ HG9.out⟩
end Go.Proofs.YtfbbodaapkfbdaaDoor
/- Walks of the package lower: Stub. -/
namespace Go.Proofs.YtfbbodaapkfbdaaDoor
open Go.RowKit
set_option linter.unusedVariables false
set_option linter.unusedSimpArgs false
/-- A list in the world w; since W only blocks that are not elder have changed. -/
structure LsAt (W w : World) (pa : Nat) (S : Nat → Prop) (L : List It) (M : List (List UInt8 × Int)) : Prop where
  lst : Lst W.heap.size w pa S L M
  tab : TabLo W.heap.size w
  pow : PowLo W.heap.size w
  bel : Below W.heap.size W w
def LsGo (W w : World) (pa : Nat) (S : Nat → Prop) (L : List It) (M : List (List UInt8 × Int)) (w' : World) : Prop := ∃ S', LsAt W w' pa S' L M ∧ Only S w w' ∧ ∀ k, S' k → S k ∨ w.heap.size ≤ k
section
variable {W w : World} {pa : Nat} {S : Nat → Prop} {L : List It} {M : List (List UInt8 × Int)}
theorem LsAt.keepb (h : LsAt W w pa S L M) {w' : World} (hb : Below w.heap.size w w') : LsAt W w' pa S L M :=
  ⟨h.lst.keepb hb, h.tab.keepb hb, h.pow.keepB (hb.mono h.bel.size), h.bel.trans (hb.mono h.bel.size)⟩
theorem LsAt.step (h : LsAt W w pa S L M) {L' : List It} {M' : List (List UInt8 × Int)} {w' : World} (hg : LGo W.heap.size w pa S L' M' w') : LsGo W w pa S L' M' w' := by
  obtain ⟨S', l', o', r'⟩ := hg
  have hb : Below W.heap.size w w' := o'.below h.bel.size (fun k hk hS => by have := (h.lst.lo k hS).1; omega)
  exact ⟨S', ⟨l', h.tab.keepO o' (fun k hk => (h.lst.lo k hk).1), h.pow.keepB hb, h.bel.trans hb⟩, o', r'⟩
theorem LsGo.same (h : LsAt W w pa S L M) : LsGo W w pa S L M w := ⟨S, h, Only.refl _ _, fun _ hk => .inl hk⟩
theorem LsGo.behind {w1 w4 : World} {L' : List It} {M' : List (List UInt8 × Int)} (hb : Below w.heap.size w w1) (hg : LsGo W w1 pa S L' M' w4) : LsGo W w pa S L' M' w4 := by
  obtain ⟨S', h', o', r'⟩ := hg
  exact ⟨S', h', (Only.of_below (S := S) hb).trans o', fun k hk => (r' k hk).imp id (fun h => Nat.le_trans hb.size h)⟩
theorem LsGo.after {w4 w5 : World} (hg : LsGo W w pa S L M w4) (hb : Below w4.heap.size w4 w5) : LsGo W w pa S L M w5 := by
  obtain ⟨S', h', o', r'⟩ := hg
  exact ⟨S', h'.keepb hb, o'.trans (Only.of_below hb), r'⟩
theorem LsGo.then {w1 w2 : World} {S1 : Nat → Prop} {L' : List It} {M' : List (List UInt8 × Int)} (o1 : Only S w w1) (r1 : ∀ k, S1 k → S k ∨ w.heap.size ≤ k) (hg : LsGo W w1 pa S1 L' M' w2) : LsGo W w pa S L' M' w2 := by
  obtain ⟨S2, h2, o2, r2⟩ := hg
  refine ⟨S2, h2, o1.fresh o2 (fun i hi hk => ?_), fun k hk => ?_⟩
  · rcases r1 i hk with h | h
    · exact h
    · omega
  · rcases r2 k hk with h | h
    · exact r1 k h
    · exact .inr (Nat.le_trans o1.size h)
theorem ls_func (h : LsAt W w pa S L M) {pv xv : Value} {p : Prg} {x : Afx} (hp : PrgIn W pv p) (hx : AfV W xv x) (hs : x.slots < 2000000) {f h32 : Int} (hff : I64 f) (h3 : 0 ≤ h32 ∧ h32 < 4294967296)
    (hL : L.length + 20 + 4 * x.entry.length + 10 * cellsN x.blocks < 4294967296) (hM : M.length + 5 + x.blocks.length + cellsN x.blocks < 100000000) (hm : cellsN x.blocks + 5 < 1000000) :
    Calls Tryd.prog 9 #[.pointer (some ⟨pa, 0, none⟩), pv, .int .i64 f, xv, .int .u32 h32] w fun e w' => e = .returned (.int .i64 (funcE p f x M)) ∧ LsGo W w pa S (funcS p f x h32 L M).L (funcS p f x h32 L M).M w' :=
  (func_any h.lst h.tab h.pow h.bel hp hx hs hff h3 hL hM hm).mono fun e w' ⟨he, hg⟩ => ⟨he, h.step hg⟩
theorem ls_mark (h : LsAt W w pa S L M) {nm : List UInt8} (hs : nm.length ≤ maxLen) (hM : M.length < maxLen) (hL : L.length < 4294967296) :
    Calls Tryd.prog 10 #[.pointer (some ⟨pa, 0, none⟩), .string (nameB' nm)] w fun e w' => e = .returned (.int .i64 (markE M (nameB' nm))) ∧ LsGo W w pa S L (markM M (nameB' nm) (L.length : Int)) w' :=
  (lmark_any h.lst h.bel.size (nm := nameB' nm) (by simpa [nameB', ByteArray.size] using hs) hM hL).mono fun e w' ⟨he, hg⟩ => ⟨he, h.step hg⟩
theorem ls_call (h : LsAt W w pa S L M) {nm : List UInt8} (hs : nm.length ≤ maxLen) (hL : L.length < 4294967296) :
    Calls Tryd.prog 36 #[.pointer (some ⟨pa, 0, none⟩), .string (nameB' nm)] w fun e w' => e = .returned (.int .i64 0) ∧ LsGo W w pa S (jumpL L 18 0 (nameB' nm)) M w' :=
  (lcall_any h.lst h.tab h.bel.size (nm := nameB' nm) (by simpa [nameB', ByteArray.size] using hs) hL).mono fun e w' ⟨he, hg⟩ => ⟨he, h.step hg⟩
theorem ls_put (h : LsAt W w pa S L M) {v : Value} {l : List Ix} (hl : InsIn w v l) (hL : L.length + l.length < 4294967296) :
    Calls Tryd.prog 37 #[.pointer (some ⟨pa, 0, none⟩), v] w fun e w' => e = .returned (.int .i64 (putE l)) ∧ LsGo W w pa S (putL L l) M w' :=
  (lput_any h.lst h.tab h.bel.size hl hL).mono fun e w' ⟨he, hg⟩ => ⟨he, h.step hg⟩
end
/-- The function that a thread begins with. -/
def stubF (p : Prg) (th : Int) : Option Nat := if 0 ≤ th then (match p.threads[th.toNat]? with | some t => if 0 ≤ t ∧ t < p.funcs.length then some t.toNat else none | none => none) else none
def stubI (th : Int) : Ix := if th = 0 then twoI 36 0 8 0 else numI 33 0 0 4
def stubE (p : Prg) (th : Int) (M : List (List UInt8 × Int)) : Int := match stubF p th with | some _ => markE M (nameB' (tNameL th.toNat)) | none => 2
def stubL (p : Prg) (th : Int) (L : List It) (M : List (List UInt8 × Int)) : List It := match stubF p th with | some f => if markE M (nameB' (tNameL th.toNat)) = 0 then putL (jumpL L 18 0 (nameB' (fNameL f))) [stubI th] else L | none => L
def stubM (p : Prg) (th : Int) (L : List It) (M : List (List UInt8 × Int)) : List (List UInt8 × Int) := match stubF p th with | some f => markM M (nameB' (tNameL th.toNat)) (L.length : Int) | none => M
theorem tname_len (f : Nat) (hf : f < 9223372036854775808) : (tNameL f).length ≤ maxLen := by
  have := decl_len f hf
  simp only [tNameL, decL, List.length_cons, maxLen]; omega
theorem stubI_may (th : Int) : putE [stubI th] = 0 := by
  unfold stubI
  split <;> decide
theorem stubI_bd (th : Int) : (stubI th).bd := by
  unfold stubI
  split <;> (unfold Ix.bd; simp only [twoI, numI]; omega)
set_option maxRecDepth 100000 in
set_option maxHeartbeats 8000000 in
theorem stub_far {w : World} {pa : Nat} (HCP : ∀ w', Below w.heap.size w w' → Calls Tryd.prog 23 #[.pointer (some ⟨pa, 0, none⟩)] w' fun e w2 => (∃ q, e = .returned (.pointer (some ⟨q, 0, none⟩))) ∧ Below w'.heap.size w' w2) {heap th : Int} {pt : Option Addr} {nt ct : Nat} {fv : Value} (hf : ∃ a b c, fv = .slice a b c) (hn : ¬ (0 ≤ th ∧ th < nt)) :
    Calls Tryd.prog 16 #[.pointer (some ⟨pa, 0, none⟩), .agg #[.int .i64 heap, .slice pt nt ct, fv], .int .i64 th] w fun e w' => e = .returned (.int .i64 2) ∧ Below w.heap.size w w' := by
  obtain ⟨pf, nf, cf, rfl⟩ := hf
  obtain ⟨w1, hw1⟩ : ∃ w1, w1 = w.alloc (.cells #[.int .i64 heap, .slice pt nt ct, .slice pf nf cf] 25) := ⟨_, rfl⟩
  have hb1 : Below w.heap.size w w1 := by rw [hw1]; exact (Below.refl _ w).alloc (Nat.le_refl _) _
  have p1 : w1.cell? ⟨w.heap.size, 1, none⟩ = some (.slice pt nt ct) := by rw [hw1]; simp [go_sem]
  have p2 : w1.cell? ⟨w.heap.size, 2, none⟩ = some (.slice pf nf cf) := by rw [hw1]; simp [go_sem]
  have HCC := ahid (HCP w1 hb1)
  have HQ := ahid hb1
  have HW := ahid (fun (w' : World) m => within_quiet th nt (decide_eq_false hn) w' m)
  clear hb1 hn HCP
  go_enter Tryd.func16, Tryd.ntmps16
  go_wp2_with fail
  rw [← hw1]
  clear hw1
  refine HCC.out.mono ?_
  rintro e w2 ⟨⟨q, rfl⟩, hb2⟩
  replace p1 := (hb2.cell (World.block_lt_of_cell? _ _ p1)).trans p1
  replace p2 := (hb2.cell (World.block_lt_of_cell? _ _ p2)).trans p2
  have HQ2 := ahid (HQ.out.trans (hb2.mono HQ.out.size))
  clear hb2
  go_wp2_with fail
  go_quiet ((go_at_call 34; exact HW.out _ _))
  go_wp2_with fail
  go_ret
  exact ⟨rfl, ldrewN HQ2.out _⟩
set_option maxRecDepth 100000 in
set_option maxHeartbeats 8000000 in
theorem stub_odd {w : World} {pa : Nat} (HCP : ∀ w', Below w.heap.size w w' → Calls Tryd.prog 23 #[.pointer (some ⟨pa, 0, none⟩)] w' fun e w2 => (∃ q, e = .returned (.pointer (some ⟨q, 0, none⟩))) ∧ Below w'.heap.size w' w2) {heap t : Int} {th bt ot : Nat} {nt ct nf cf : Nat} {pf : Option Addr} (hth : th < nt) (ht : w.cell? ⟨bt, ot + th, none⟩ = some (.int .i64 t)) (hn : ¬ (0 ≤ t ∧ t < nf)) :
    Calls Tryd.prog 16 #[.pointer (some ⟨pa, 0, none⟩), .agg #[.int .i64 heap, .slice (some ⟨bt, ot, none⟩) nt ct, .slice pf nf cf], .int .i64 th] w fun e w' => e = .returned (.int .i64 2) ∧ Below w.heap.size w w' := by
  obtain ⟨w1, hw1⟩ : ∃ w1, w1 = w.alloc (.cells #[.int .i64 heap, .slice (some ⟨bt, ot, none⟩) nt ct, .slice pf nf cf] 25) := ⟨_, rfl⟩
  have hb1 : Below w.heap.size w w1 := by rw [hw1]; exact (Below.refl _ w).alloc (Nat.le_refl _) _
  have p1 : w1.cell? ⟨w.heap.size, 1, none⟩ = some (.slice (some ⟨bt, ot, none⟩) nt ct) := by rw [hw1]; simp [go_sem]
  have p2 : w1.cell? ⟨w.heap.size, 2, none⟩ = some (.slice pf nf cf) := by rw [hw1]; simp [go_sem]
  replace ht := (hb1.cell (World.block_lt_of_cell? _ _ ht)).trans ht
  have HCC := ahid (HCP w1 hb1)
  have HQ := ahid hb1
  have HW := ahid (fun (w' : World) m => within_quiet th nt (decide_eq_true ⟨by omega, by omega⟩) w' m)
  have HW2 := ahid (fun (w' : World) m => within_quiet t nf (decide_eq_false hn) w' m)
  have n0 : (0 : Int) ≤ (th : Int) := by omega
  have n1 : (th : Int) < (nt : Int) := by omega
  clear hb1 hn HCP
  go_enter Tryd.func16, Tryd.ntmps16
  go_wp2_with fail
  rw [← hw1]
  clear hw1
  refine HCC.out.mono ?_
  rintro e w2 ⟨⟨q, rfl⟩, hb2⟩
  replace p1 := (hb2.cell (World.block_lt_of_cell? _ _ p1)).trans p1
  replace p2 := (hb2.cell (World.block_lt_of_cell? _ _ p2)).trans p2
  replace ht := (hb2.cell (World.block_lt_of_cell? _ _ ht)).trans ht
  have HQ2 := ahid (HQ.out.trans (hb2.mono HQ.out.size))
  clear hb2
  go_wp2_with fail
  go_quiet ((go_at_call 34; first | (with_reducible exact HW.out _ _) | (with_reducible exact HW2.out _ _)))
  go_wp2_with fail
  go_ret
  exact ⟨rfl, ldrewN HQ2.out _⟩
end Go.Proofs.YtfbbodaapkfbdaaDoor
/- Walks of the package lower: Stub, whole. -/
namespace Go.Proofs.YtfbbodaapkfbdaaDoor
open Go.RowKit
set_option linter.unusedVariables false
set_option linter.unusedSimpArgs false
set_option maxRecDepth 100000 in
set_option maxHeartbeats 8000000 in
theorem stub_zero {W w : World} {pa : Nat} {S : Nat → Prop} {L : List It} {M : List (List UInt8 × Int)} (h : LsAt W w pa S L M) {heap : Int} {n f bt ot : Nat} {nt ct nf cf : Nat} {pf : Option Addr} (hth : n < nt) (hn63 : n < 9223372036854775808) (hf63 : f < 9223372036854775808) (hz : n = 0) (hW : W.cell? ⟨bt, ot + n, none⟩ = some (.int .i64 f)) (hfn : f < nf) (hL : L.length + 5 < 4294967296) (hM : M.length + 2 < maxLen) :
    Calls Tryd.prog 16 #[.pointer (some ⟨pa, 0, none⟩), .agg #[.int .i64 heap, .slice (some ⟨bt, ot, none⟩) nt ct, .slice pf nf cf], .int .i64 n] w fun e w' => e = .returned (.int .i64 (markE M (nameB' (tNameL n)))) ∧ LsGo W w pa S (if markE M (nameB' (tNameL n)) = 0 then putL (jumpL L 18 0 (nameB' (fNameL f))) [twoI 36 0 8 0] else L) (markM M (nameB' (tNameL n)) (L.length : Int)) w' := by
  obtain ⟨w1, hw1⟩ : ∃ w1, w1 = w.alloc (.cells #[.int .i64 heap, .slice (some ⟨bt, ot, none⟩) nt ct, .slice pf nf cf] 25) := ⟨_, rfl⟩
  have hb1 : Below w.heap.size w w1 := by rw [hw1]; exact (Below.refl _ w).alloc (Nat.le_refl _) _
  have p1 : w1.cell? ⟨w.heap.size, 1, none⟩ = some (.slice (some ⟨bt, ot, none⟩) nt ct) := by rw [hw1]; simp [go_sem]
  have p2 : w1.cell? ⟨w.heap.size, 2, none⟩ = some (.slice pf nf cf) := by rw [hw1]; simp [go_sem]
  have h1 := h.keepb hb1
  have ht := (h1.bel.cell (World.block_lt_of_cell? _ _ hW)).trans hW
  have HNB := ahid (show ¬ S w.heap.size from fun hk => by have := (h.lst.lo _ hk).2; omega)
  have HCC := ahid (lcopy_any h1.lst (by omega))
  have HQ := ahid hb1
  have H1 := ahid h1
  have HWC := ahid hW
  have HW := ahid (fun (w' : World) m => within_quiet n nt (decide_eq_true ⟨by omega, by omega⟩) w' m)
  have HW2 := ahid (fun (w' : World) m => within_quiet f nf (decide_eq_true ⟨by omega, by omega⟩) w' m)
  have n0 : (0 : Int) ≤ (n : Int) := by omega
  have n1 : (n : Int) < (nt : Int) := by omega
  have HI := ahid (fun w' (hd : Below w1.heap.size w1 w') => itoa_any n hn63 w' (h1.keepb hd).pow.tab)
  have HMK := ahid (fun w' (hd : Below w1.heap.size w1 w') => ls_mark (h1.keepb hd) (nm := tNameL n) (tname_len n hn63) (by omega) (by omega))
  have hlen := decl_len n hn63
  have hl1 : ¬ (9223372036854775807 < 1 + (Lib.decDigits n).length) := by omega
  have e3 : (⟨#[116]⟩ : ByteArray) ++ ⟨(Lib.decDigits n).toArray⟩ = nameB' (tNameL n) := by
    apply ByteArray.ext
    apply Array.toList_inj.1
    simp [nameB', tNameL, decL]
  have HN := ahid (fun w' => both_any (op := 36) (rd := 0) (a := 8) (b := 0) (by omega) (by omega) (by omega) w')
  have HIB := ahid (show ∀ y ∈ [twoI 36 0 8 0], y.bd from fun y hy => by
    simp only [List.mem_cons, List.not_mem_nil, or_false] at hy
    subst hy; (unfold Ix.bd; simp only [numI, twoI]; omega))
  have HPE : Hid (putE [twoI 36 0 8 0] = 0) := ahid (by decide)
  have q0 : ((n : Int) == 0) = true := by rw [hz]; rfl
  clear hb1 h h1 hW
  generalize markM M (nameB' (tNameL n)) (L.length : Int) = M5 at HMK ⊢
  have HE9 : Hid (markE M (nameB' (tNameL n)) ≠ 0 → markE M (nameB' (tNameL n)) = 9) := ahid fun hq => by
    unfold markE at hq ⊢
    split
    · rfl
    · rename_i h; exact absurd (if_neg h) hq
  generalize markE M (nameB' (tNameL n)) = E at HMK HE9 ⊢
  generalize nameB' (tNameL n) = nm at HMK e3
  have HE3 := ahid e3
  clear e3 hz
  by_cases hE : E = 0
  · rw [if_pos hE]
    subst hE
    have HFN := ahid (fname_len f hf63)
    have hlM := hM
    go_enter Tryd.func16, Tryd.ntmps16
    go_wp2_with fail
    rw [← hw1]
    clear hw1
    refine HCC.out.mono ?_
    rintro e w2 ⟨⟨q, rfl⟩, hb2⟩
    replace p1 := (hb2.cell (World.block_lt_of_cell? _ _ p1)).trans p1
    replace p2 := (hb2.cell (World.block_lt_of_cell? _ _ p2)).trans p2
    replace ht := (hb2.cell (World.block_lt_of_cell? _ _ ht)).trans ht
    have HQ2 := ahid hb2
    clear hb2
    go_wp2_with fail
    go_quiet ((go_at_call 34; first | (with_reducible exact HW.out _ _) | (with_reducible exact HW2.out _ _)))
    have HQ3 := ahid (ldrewN HQ2.out nq)
    replace p1 : (w2.drewN nq).cell? ⟨w.heap.size, 1, none⟩ = some (.slice (some ⟨bt, ot, none⟩) nt ct) := p1
    replace p2 : (w2.drewN nq).cell? ⟨w.heap.size, 2, none⟩ = some (.slice pf nf cf) := p2
    clear ht HQ2
    generalize w2.drewN nq = w3 at *
    go_wp2_with fail
    refine (HI.out w3 HQ3.out).mono ?_
    rintro e w4 ⟨rfl, hb4⟩
    have hb5 := HQ3.out.trans (hb4.mono HQ3.out.size)
    replace p1 := (hb4.cell (World.block_lt_of_cell? _ _ p1)).trans p1
    replace p2 := (hb4.cell (World.block_lt_of_cell? _ _ p2)).trans p2
    have HB5 := ahid hb5
    clear hb4 hb5
    go_wp2_with fail
    all_goals try (rename_i hx; exact absurd hx hl1)
    rw [HE3.out]
    refine (HMK.out w4 HB5.out).mono ?_
    rintro e w5 ⟨rfl, S5, h5, o5, r5⟩
    replace p1 := (o5.cell (p := ⟨w.heap.size, 1, none⟩) (World.block_lt_of_cell? _ _ p1) HNB.out).trans p1
    replace p2 := (o5.cell (p := ⟨w.heap.size, 2, none⟩) (World.block_lt_of_cell? _ _ p2) HNB.out).trans p2
    have ht := (h5.bel.cell (World.block_lt_of_cell? _ _ HWC.out)).trans HWC.out
    have HNM := ahid (name_any f hf63 w5 h5.pow.tab)
    have HCA := ahid (fun w' (hd : Below w5.heap.size w5 w') => ls_call (h5.keepb hd) HFN.out (by omega))
    have HO5 := ahid o5
    have HR5 := ahid r5
    clear h5 o5 r5 HI HMK HCC HW HW2
    go_wp2_with fail
    refine HNM.out.mono ?_
    rintro e w6 ⟨rfl, hb6⟩
    have HB6 := ahid hb6
    clear hb6 ht p1 p2 HNM
    go_wp2_with fail
    refine (HCA.out w6 HB6.out).mono ?_
    rintro e w7 ⟨rfl, S7, h7, o7, r7⟩
    have hjl := jumpL_len L 18 0 (nameB' (fNameL f))
    have HPU := ahid (fun w' (hd : Below w7.heap.size w7 w') v (hv : InsIn w' v [twoI 36 0 8 0]) => ls_put (h7.keepb hd) hv (by simp only [List.length_cons, List.length_nil]; omega))
    have HO7 := ahid o7
    have HR7 := ahid r7
    clear h7 o7 r7 HCA hjl
    go_wp2_with fail
    refine (HN.out w7).mono ?_
    rintro e w8 ⟨rfl, hb8⟩
    have HB9 := ahid (hb8.alloc hb8.size (.cells #[.int .u8 (twoI 36 0 8 0).op, .int .u8 (twoI 36 0 8 0).rd, .int .u8 (twoI 36 0 8 0).rs1, .int .u8 (twoI 36 0 8 0).rs2, .bool (twoI 36 0 8 0).is, .int .i32 (twoI 36 0 8 0).imm] 50))
    have HIN := ahid (InsIn.one HIB.out w8)
    clear hb8
    go_wp2_with fail
    refine (HPU.out _ HB9.out _ HIN.out).mono ?_
    rintro e w10 ⟨rfl, hg⟩
    have HG := ahid (LsGo.behind HQ.out (LsGo.behind HB5.out (LsGo.then HO5.out HR5.out (LsGo.behind HB6.out (LsGo.then HO7.out HR7.out (LsGo.behind HB9.out hg))))))
    clear hg HPU
    rw [HPE.out]
    go_wp2_with fail
    go_ret
    exact ⟨rfl, HG.out⟩
  · rw [if_neg hE]
    have hE9 := HE9.out hE
    subst hE9
    go_enter Tryd.func16, Tryd.ntmps16
    go_wp2_with fail
    rw [← hw1]
    clear hw1
    refine HCC.out.mono ?_
    rintro e w2 ⟨⟨q, rfl⟩, hb2⟩
    replace p1 := (hb2.cell (World.block_lt_of_cell? _ _ p1)).trans p1
    replace p2 := (hb2.cell (World.block_lt_of_cell? _ _ p2)).trans p2
    replace ht := (hb2.cell (World.block_lt_of_cell? _ _ ht)).trans ht
    have HQ2 := ahid hb2
    clear hb2
    go_wp2_with fail
    go_quiet ((go_at_call 34; first | (with_reducible exact HW.out _ _) | (with_reducible exact HW2.out _ _)))
    have HQ3 := ahid (ldrewN HQ2.out nq)
    clear ht HQ2 p1 p2
    generalize w2.drewN nq = w3 at *
    go_wp2_with fail
    refine (HI.out w3 HQ3.out).mono ?_
    rintro e w4 ⟨rfl, hb4⟩
    have HB5 := ahid (HQ3.out.trans (hb4.mono HQ3.out.size))
    clear hb4
    go_wp2_with fail
    all_goals try (rename_i hx; exact absurd hx hl1)
    rw [HE3.out]
    refine (HMK.out w4 HB5.out).mono ?_
    rintro e w5 ⟨rfl, hg⟩
    have HG := ahid (LsGo.behind HQ.out (LsGo.behind HB5.out hg))
    clear hg HMK HI
    go_wp2_with fail
    go_ret
    exact ⟨rfl, HG.out⟩
set_option maxRecDepth 100000 in
set_option maxHeartbeats 8000000 in
theorem stub_more {W w : World} {pa : Nat} {S : Nat → Prop} {L : List It} {M : List (List UInt8 × Int)} (h : LsAt W w pa S L M) {heap : Int} {n f bt ot : Nat} (hn0 : 0 < n) {nt ct nf cf : Nat} {pf : Option Addr} (hth : n < nt) (hn63 : n < 9223372036854775808) (hf63 : f < 9223372036854775808) (hz : True) (hW : W.cell? ⟨bt, ot + n, none⟩ = some (.int .i64 f)) (hfn : f < nf) (hL : L.length + 5 < 4294967296) (hM : M.length + 2 < maxLen) :
    Calls Tryd.prog 16 #[.pointer (some ⟨pa, 0, none⟩), .agg #[.int .i64 heap, .slice (some ⟨bt, ot, none⟩) nt ct, .slice pf nf cf], .int .i64 n] w fun e w' => e = .returned (.int .i64 (markE M (nameB' (tNameL n)))) ∧ LsGo W w pa S (if markE M (nameB' (tNameL n)) = 0 then putL (jumpL L 18 0 (nameB' (fNameL f))) [numI 33 0 0 4] else L) (markM M (nameB' (tNameL n)) (L.length : Int)) w' := by
  obtain ⟨w1, hw1⟩ : ∃ w1, w1 = w.alloc (.cells #[.int .i64 heap, .slice (some ⟨bt, ot, none⟩) nt ct, .slice pf nf cf] 25) := ⟨_, rfl⟩
  have hb1 : Below w.heap.size w w1 := by rw [hw1]; exact (Below.refl _ w).alloc (Nat.le_refl _) _
  have p1 : w1.cell? ⟨w.heap.size, 1, none⟩ = some (.slice (some ⟨bt, ot, none⟩) nt ct) := by rw [hw1]; simp [go_sem]
  have p2 : w1.cell? ⟨w.heap.size, 2, none⟩ = some (.slice pf nf cf) := by rw [hw1]; simp [go_sem]
  have h1 := h.keepb hb1
  have ht := (h1.bel.cell (World.block_lt_of_cell? _ _ hW)).trans hW
  have HNB := ahid (show ¬ S w.heap.size from fun hk => by have := (h.lst.lo _ hk).2; omega)
  have HCC := ahid (lcopy_any h1.lst (by omega))
  have HQ := ahid hb1
  have H1 := ahid h1
  have HWC := ahid hW
  have HW := ahid (fun (w' : World) m => within_quiet n nt (decide_eq_true ⟨by omega, by omega⟩) w' m)
  have HW2 := ahid (fun (w' : World) m => within_quiet f nf (decide_eq_true ⟨by omega, by omega⟩) w' m)
  have n0 : (0 : Int) ≤ (n : Int) := by omega
  have n1 : (n : Int) < (nt : Int) := by omega
  have HI := ahid (fun w' (hd : Below w1.heap.size w1 w') => itoa_any n hn63 w' (h1.keepb hd).pow.tab)
  have HMK := ahid (fun w' (hd : Below w1.heap.size w1 w') => ls_mark (h1.keepb hd) (nm := tNameL n) (tname_len n hn63) (by omega) (by omega))
  have hlen := decl_len n hn63
  have hl1 : ¬ (9223372036854775807 < 1 + (Lib.decDigits n).length) := by omega
  have e3 : (⟨#[116]⟩ : ByteArray) ++ ⟨(Lib.decDigits n).toArray⟩ = nameB' (tNameL n) := by
    apply ByteArray.ext
    apply Array.toList_inj.1
    simp [nameB', tNameL, decL]
  have HN := ahid (fun w' => num_any (op := 33) (rd := 0) (rs := 0) (n := 4) (by omega) (by omega) (by omega) w')
  have HIB := ahid (show ∀ y ∈ [numI 33 0 0 4], y.bd from fun y hy => by
    simp only [List.mem_cons, List.not_mem_nil, or_false] at hy
    subst hy; (unfold Ix.bd; simp only [numI, twoI]; omega))
  have HPE : Hid (putE [numI 33 0 0 4] = 0) := ahid (by decide)
  have q0 : ((n : Int) == 0) = false := by simp; omega
  clear hb1 h h1 hW
  generalize markM M (nameB' (tNameL n)) (L.length : Int) = M5 at HMK ⊢
  have HE9 : Hid (markE M (nameB' (tNameL n)) ≠ 0 → markE M (nameB' (tNameL n)) = 9) := ahid fun hq => by
    unfold markE at hq ⊢
    split
    · rfl
    · rename_i h; exact absurd (if_neg h) hq
  generalize markE M (nameB' (tNameL n)) = E at HMK HE9 ⊢
  generalize nameB' (tNameL n) = nm at HMK e3
  have HE3 := ahid e3
  clear e3 hz
  by_cases hE : E = 0
  · rw [if_pos hE]
    subst hE
    have HFN := ahid (fname_len f hf63)
    have hlM := hM
    go_enter Tryd.func16, Tryd.ntmps16
    go_wp2_with fail
    rw [← hw1]
    clear hw1
    refine HCC.out.mono ?_
    rintro e w2 ⟨⟨q, rfl⟩, hb2⟩
    replace p1 := (hb2.cell (World.block_lt_of_cell? _ _ p1)).trans p1
    replace p2 := (hb2.cell (World.block_lt_of_cell? _ _ p2)).trans p2
    replace ht := (hb2.cell (World.block_lt_of_cell? _ _ ht)).trans ht
    have HQ2 := ahid hb2
    clear hb2
    go_wp2_with fail
    go_quiet ((go_at_call 34; first | (with_reducible exact HW.out _ _) | (with_reducible exact HW2.out _ _)))
    have HQ3 := ahid (ldrewN HQ2.out nq)
    replace p1 : (w2.drewN nq).cell? ⟨w.heap.size, 1, none⟩ = some (.slice (some ⟨bt, ot, none⟩) nt ct) := p1
    replace p2 : (w2.drewN nq).cell? ⟨w.heap.size, 2, none⟩ = some (.slice pf nf cf) := p2
    clear ht HQ2
    generalize w2.drewN nq = w3 at *
    go_wp2_with fail
    refine (HI.out w3 HQ3.out).mono ?_
    rintro e w4 ⟨rfl, hb4⟩
    have hb5 := HQ3.out.trans (hb4.mono HQ3.out.size)
    replace p1 := (hb4.cell (World.block_lt_of_cell? _ _ p1)).trans p1
    replace p2 := (hb4.cell (World.block_lt_of_cell? _ _ p2)).trans p2
    have HB5 := ahid hb5
    clear hb4 hb5
    go_wp2_with fail
    all_goals try (rename_i hx; exact absurd hx hl1)
    rw [HE3.out]
    refine (HMK.out w4 HB5.out).mono ?_
    rintro e w5 ⟨rfl, S5, h5, o5, r5⟩
    replace p1 := (o5.cell (p := ⟨w.heap.size, 1, none⟩) (World.block_lt_of_cell? _ _ p1) HNB.out).trans p1
    replace p2 := (o5.cell (p := ⟨w.heap.size, 2, none⟩) (World.block_lt_of_cell? _ _ p2) HNB.out).trans p2
    have ht := (h5.bel.cell (World.block_lt_of_cell? _ _ HWC.out)).trans HWC.out
    have HNM := ahid (name_any f hf63 w5 h5.pow.tab)
    have HCA := ahid (fun w' (hd : Below w5.heap.size w5 w') => ls_call (h5.keepb hd) HFN.out (by omega))
    have HO5 := ahid o5
    have HR5 := ahid r5
    clear h5 o5 r5 HI HMK HCC HW HW2
    go_wp2_with fail
    refine HNM.out.mono ?_
    rintro e w6 ⟨rfl, hb6⟩
    have HB6 := ahid hb6
    clear hb6 ht p1 p2 HNM
    go_wp2_with fail
    refine (HCA.out w6 HB6.out).mono ?_
    rintro e w7 ⟨rfl, S7, h7, o7, r7⟩
    have hjl := jumpL_len L 18 0 (nameB' (fNameL f))
    have HPU := ahid (fun w' (hd : Below w7.heap.size w7 w') v (hv : InsIn w' v [numI 33 0 0 4]) => ls_put (h7.keepb hd) hv (by simp only [List.length_cons, List.length_nil]; omega))
    have HO7 := ahid o7
    have HR7 := ahid r7
    clear h7 o7 r7 HCA hjl
    go_wp2_with fail
    refine (HN.out w7).mono ?_
    rintro e w8 ⟨rfl, hb8⟩
    have HB9 := ahid (hb8.alloc hb8.size (.cells #[.int .u8 (numI 33 0 0 4).op, .int .u8 (numI 33 0 0 4).rd, .int .u8 (numI 33 0 0 4).rs1, .int .u8 (numI 33 0 0 4).rs2, .bool (numI 33 0 0 4).is, .int .i32 (numI 33 0 0 4).imm] 50))
    have HIN := ahid (InsIn.one HIB.out w8)
    clear hb8
    go_wp2_with fail
    refine (HPU.out _ HB9.out _ HIN.out).mono ?_
    rintro e w10 ⟨rfl, hg⟩
    have HG := ahid (LsGo.behind HQ.out (LsGo.behind HB5.out (LsGo.then HO5.out HR5.out (LsGo.behind HB6.out (LsGo.then HO7.out HR7.out (LsGo.behind HB9.out hg))))))
    clear hg HPU
    rw [HPE.out]
    go_wp2_with fail
    go_ret
    exact ⟨rfl, HG.out⟩
  · rw [if_neg hE]
    have hE9 := HE9.out hE
    subst hE9
    go_enter Tryd.func16, Tryd.ntmps16
    go_wp2_with fail
    rw [← hw1]
    clear hw1
    refine HCC.out.mono ?_
    rintro e w2 ⟨⟨q, rfl⟩, hb2⟩
    replace p1 := (hb2.cell (World.block_lt_of_cell? _ _ p1)).trans p1
    replace p2 := (hb2.cell (World.block_lt_of_cell? _ _ p2)).trans p2
    replace ht := (hb2.cell (World.block_lt_of_cell? _ _ ht)).trans ht
    have HQ2 := ahid hb2
    clear hb2
    go_wp2_with fail
    go_quiet ((go_at_call 34; first | (with_reducible exact HW.out _ _) | (with_reducible exact HW2.out _ _)))
    have HQ3 := ahid (ldrewN HQ2.out nq)
    clear ht HQ2 p1 p2
    generalize w2.drewN nq = w3 at *
    go_wp2_with fail
    refine (HI.out w3 HQ3.out).mono ?_
    rintro e w4 ⟨rfl, hb4⟩
    have HB5 := ahid (HQ3.out.trans (hb4.mono HQ3.out.size))
    clear hb4
    go_wp2_with fail
    all_goals try (rename_i hx; exact absurd hx hl1)
    rw [HE3.out]
    refine (HMK.out w4 HB5.out).mono ?_
    rintro e w5 ⟨rfl, hg⟩
    have HG := ahid (LsGo.behind HQ.out (LsGo.behind HB5.out hg))
    clear hg HMK HI
    go_wp2_with fail
    go_ret
    exact ⟨rfl, HG.out⟩
/-- A thread's stub. -/
theorem stub_any {W w : World} {pa : Nat} {S : Nat → Prop} {L : List It} {M : List (List UInt8 × Int)} (h : LsAt W w pa S L M) {pv : Value} {p : Prg} (hp : PrgIn W pv p) {th : Int} (hth : I64 th) (hL : L.length + 5 < 4294967296) (hM : M.length + 2 < maxLen) :
    Calls Tryd.prog 16 #[.pointer (some ⟨pa, 0, none⟩), pv, .int .i64 th] w fun e w' => e = .returned (.int .i64 (stubE p th M)) ∧ LsGo W w pa S (stubL p th L M) (stubM p th L M) w' := by
  obtain ⟨⟨tv, fv, rfl, hthr, hfn⟩, hpb⟩ := hp
  obtain ⟨pt, ct, rfl⟩ := hthr.shape
  obtain ⟨pf, cf, rfl⟩ := hfn.shape
  have HCP : ∀ w', Below w.heap.size w w' → Calls Tryd.prog 23 #[.pointer (some ⟨pa, 0, none⟩)] w' fun e w2 => (∃ q, e = .returned (.pointer (some ⟨q, 0, none⟩))) ∧ Below w'.heap.size w' w2 := fun w' hd => lcopy_any (h.keepb hd).lst (by omega)
  by_cases h0 : 0 ≤ th ∧ th < p.threads.length
  rotate_left
  · have e : stubF p th = none := by
      unfold stubF
      by_cases h1 : 0 ≤ th
      · rw [if_pos h1, List.getElem?_eq_none (by omega)]
      · rw [if_neg h1]
    unfold stubE stubL stubM
    rw [e]
    refine (stub_far HCP ⟨pf, _, cf, rfl⟩ h0).mono fun e w' ⟨he, hb⟩ => ⟨he, (LsGo.same h).after hb⟩
  obtain ⟨n, rfl⟩ : ∃ n : Nat, th = n := ⟨th.toNat, by omega⟩
  have hn : n < p.threads.length := by omega
  have hk : p.threads[n]? = some p.threads[n] := List.getElem?_eq_getElem hn
  obtain ⟨bt, ot, rfl, -, -, ht, htb⟩ := hthr.in hk
  rw [Nat.mul_one] at ht
  have e0 : stubF p n = if 0 ≤ p.threads[n] ∧ p.threads[n] < p.funcs.length then some p.threads[n].toNat else none := by
    unfold stubF
    rw [if_pos h0.1]
    simp only [Int.toNat_natCast, hk]
  generalize p.threads[n] = t at *
  by_cases h2 : 0 ≤ t ∧ t < p.funcs.length
  rotate_left
  · unfold stubE stubL stubM
    rw [e0, if_neg h2]
    refine (stub_odd HCP hn ((h.bel.cell (World.block_lt_of_cell? _ _ ht)).trans ht) h2).mono fun e w' ⟨he, hb⟩ => ⟨he, (LsGo.same h).after hb⟩
  obtain ⟨f, rfl⟩ : ∃ f : Nat, t = f := ⟨t.toNat, by omega⟩
  have hn63 : n < 9223372036854775808 := by unfold I64 at hth; omega
  have hf63 : f < 9223372036854775808 := by unfold I64 at htb; omega
  unfold stubE stubL stubM
  rw [e0, if_pos h2]
  simp only [Int.toNat_natCast]
  unfold stubI
  by_cases hz : n = 0
  · have hz' : (n : Int) = 0 := by omega
    rw [if_pos hz']
    exact stub_zero h hn hn63 hf63 hz ht (by omega) hL hM
  · have hz' : ¬ (n : Int) = 0 := by omega
    rw [if_neg hz']
    exact stub_more h (by omega) hn hn63 hf63 trivial ht (by omega) hL hM
end Go.Proofs.YtfbbodaapkfbdaaDoor
/- The program and the function that the document fixes (muntinlaw26.head), and what is put for them; and lists that are none. -/
namespace Go.Proofs.YtfbbodaapkfbdaaDoor
open Go.RowKit
set_option linter.unusedVariables false
set_option linter.unusedSimpArgs false
set_option maxRecDepth 100000 in
set_option maxHeartbeats 4000000 in
theorem func_nil {w : World} {heap f h32 sl : Int} {leaf : Bool} {pt pf pe pb : Option Addr} {nt ct nf cf ne ce nb cb : Nat} :
    Calls Tryd.prog 9 #[.pointer none, .agg #[.int .i64 heap, .slice pt nt ct, .slice pf nf cf], .int .i64 f, .agg #[.bool leaf, .int .i64 sl, .slice pe ne ce, .slice pb nb cb], .int .u32 h32] w fun e w' => e = .returned (.int .i64 1) ∧ Below w.heap.size w w' := by
  obtain ⟨w1, hw1⟩ : ∃ w1, w1 = ((w.alloc (.cells #[.int .i64 heap, .slice pt nt ct, .slice pf nf cf] 25)).alloc (.cells #[.bool leaf, .int .i64 sl, .slice pe ne ce, .slice pb nb cb] 29)).alloc (.cells #[.pointer none, .int .i64 heap, .slice pt nt ct, .slice pf nf cf, .int .i64 f, .bool leaf, .int .i64 sl, .slice pe ne ce, .slice pb nb cb, .int .u32 h32, .int .i32 0] 88) := ⟨_, rfl⟩
  have HB := ahid (show Below w.heap.size w w1 by rw [hw1]; exact (((Below.refl _ w).alloc (Nat.le_refl _) _).alloc (by simp [go_sem]) _).alloc (by simp [go_sem]; omega) _)
  go_enter Tryd.func9, Tryd.ntmps9
  go_wp2_with fail
  rw [← hw1]
  clear hw1
  refine (acopy_none _ _ (anone_nil _)).mono ?_
  rintro e w2 ⟨rfl, rfl⟩
  go_wp2_with fail
  go_ret
  exact ⟨rfl, HB.out⟩
set_option maxRecDepth 100000 in
set_option maxHeartbeats 4000000 in
theorem stub_nil {w : World} {heap th : Int} {pt pf : Option Addr} {nt ct nf cf : Nat} :
    Calls Tryd.prog 16 #[.pointer none, .agg #[.int .i64 heap, .slice pt nt ct, .slice pf nf cf], .int .i64 th] w fun e w' => e = .returned (.int .i64 1) ∧ Below w.heap.size w w' := by
  obtain ⟨w1, hw1⟩ : ∃ w1, w1 = w.alloc (.cells #[.int .i64 heap, .slice pt nt ct, .slice pf nf cf] 25) := ⟨_, rfl⟩
  have HB := ahid (show Below w.heap.size w w1 by rw [hw1]; exact (Below.refl _ w).alloc (Nat.le_refl _) _)
  go_enter Tryd.func16, Tryd.ntmps16
  go_wp2_with fail
  rw [← hw1]
  clear hw1
  refine (acopy_none _ _ (anone_nil _)).mono ?_
  rintro e w2 ⟨rfl, rfl⟩
  go_wp2_with fail
  go_ret
  exact ⟨rfl, HB.out⟩
theorem LsAt.beside {W w w' : World} {pa pb : Nat} {S T S' : Nat → Prop} {L La : List It} {M Ma : List (List UInt8 × Int)} (h : LsAt W w pb T L M) (h9 : LsAt W w' pa S' La Ma) (o : Only S w w') (hd : ∀ k, T k → ¬ S k) : LsAt W w' pb T L M := ⟨h.lst.keep o hd, h9.tab, h9.pow, h9.bel⟩
theorem RowIn.void {α : Type} {At : World → Nat → Nat → α → Prop} {size bytes : Nat} {w : World} : RowIn At size bytes w (.slice none 0 0) ([] : List α) := ⟨by simp, none, 0, 0, 0, rfl, ⟨fun h => by simp at h, fun _ => rfl⟩, fun k x hx => by simp at hx⟩
theorem RowIn.lone {α : Type} {At : World → Nat → Nat → α → Prop} {size bytes : Nat} {w : World} {b o c : Nat} {x : α} (hb : bytes ≤ 1000) (h : At w b o x) : RowIn At size bytes w (.slice (some ⟨b, o, none⟩) 1 c) [x] := by
  refine ⟨by simp; omega, some ⟨b, o, none⟩, c, b, o, rfl, ⟨fun _ => rfl, fun h => by cases h⟩, fun k y hy => ?_⟩
  cases k with
  | zero => simp at hy; subst hy; simpa using h
  | succ k => simp at hy
theorem RowIn.pair {α : Type} {At : World → Nat → Nat → α → Prop} {size bytes : Nat} {w : World} {b o c : Nat} {x y : α} (hb : bytes ≤ 1000) (h : At w b o x) (h2 : At w b (o + size) y) : RowIn At size bytes w (.slice (some ⟨b, o, none⟩) 2 c) [x, y] := by
  refine ⟨by simp; omega, some ⟨b, o, none⟩, c, b, o, rfl, ⟨fun _ => rfl, fun h => by cases h⟩, fun k z hz => ?_⟩
  cases k with
  | zero => simp at hz; subst hz; simpa using h
  | succ k => cases k with
    | zero => simp at hz; subst hz; simpa using h2
    | succ k => simp at hz
def hProg : Prg := ⟨0, [0, 0], [⟨⟨#[97]⟩, 2, 3, [⟨⟨#[98]⟩, [⟨1, 2, 0, 1, 0, 0, [], 0, 0⟩, ⟨10, 0, 2, 0, 0, 0, [], 0, 0⟩]⟩]⟩]⟩
def hFunc : Afx := ⟨true, 0, [], [[⟨1, 0, 8, 8, 9, []⟩, ⟨1, 1, -1, 8, -1, []⟩]]⟩
theorem fn0 : fNameL 0 = [102, 48] := by unfold fNameL decL; rw [Lib.decDigits_one (by omega)]; rfl
theorem bn0 : bNameL 0 0 = [102, 48, 98, 48] := by unfold bNameL decL; rw [fn0, Lib.decDigits_one (by omega)]; rfl
theorem tn1 : tNameL 1 = [116, 49] := by unfold tNameL decL; rw [Lib.decDigits_one (by omega)]; rfl
theorem hlow0 : lowB hProg 0 hFunc = true := by decide
theorem hlow1 : lowB hProg 1 hFunc = false := by decide
def hMa : List (List UInt8 × Int) := [([102, 48], 0), ([102, 48, 98, 48], 0)]
def hLa : List It := [.put (twoI 1 8 8 9), .put (numI 19 0 15 4)]
def hMb : List (List UInt8 × Int) := [([102, 48], 0)]
def hMc : List (List UInt8 × Int) := [([102, 48], 0), ([116, 49], 0)]
def hLc : List It := [.far ⟨18, 0, 0, 0, true, 0⟩ (nameB' [102, 48]), .put (numI 33 0 0 4)]
theorem hfunc_e : funcE hProg 0 hFunc [] = 0 := by
  unfold funcE
  rw [if_pos hlow0]
  show markE [] (nameB' (fNameL 0)) = 0
  rw [fn0]; decide
theorem hfunc_s : funcS hProg 0 hFunc 2048 [] [] = ⟨hLa, hMa, 0⟩ := by
  have h0 : markE [] (nameB' (fNameL (0 : Int).toNat)) = 0 := by
    show markE [] (nameB' (fNameL 0)) = 0
    rw [fn0]; decide
  unfold funcS
  rw [if_pos ⟨hlow0, h0⟩]
  have e : lowerS hProg 0 hFunc 2048 [] [] = ((((⟨[], [], 0⟩ : Lo).mark (fNameL 0)).mark (bNameL 0 0)).put [twoI (1 + 0) 8 8 9]).put [numI 19 0 15 4] := rfl
  show lowerS hProg 0 hFunc 2048 [] [] = _
  rw [e, fn0, bn0]
  rfl
theorem hfunc1_e (M : List (List UInt8 × Int)) : funcE hProg 1 hFunc M = 2 := by unfold funcE; rw [hlow1]; rfl
theorem hfunc1_s (L : List It) (M : List (List UInt8 × Int)) : funcS hProg 1 hFunc 0 L M = ⟨L, M, 0⟩ := by unfold funcS; rw [hlow1]; rfl
theorem hfunc2_e : funcE hProg 0 hFunc hMa = 9 := by
  unfold funcE
  rw [if_pos hlow0]
  show markE hMa (nameB' (fNameL 0)) = 9
  rw [fn0]; decide
theorem hfunc2_s : funcS hProg 0 hFunc 0 hLa hMa = ⟨hLa, hMa, 0⟩ := by
  have h0 : ¬ (markE hMa (nameB' (fNameL (0 : Int).toNat)) = 0) := by
    show ¬ (markE hMa (nameB' (fNameL 0)) = 0)
    rw [fn0]; decide
  unfold funcS
  rw [if_neg (fun h => h0 h.2)]
theorem hmark_b : markE [] (nameB' [102, 48]) = 0 ∧ markM [] (nameB' [102, 48]) 0 = hMb := by decide
theorem hstub_e : stubE hProg 1 hMb = 0 := by
  show markE hMb (nameB' (tNameL 1)) = 0
  rw [tn1]; decide
theorem hstub_l : stubL hProg 1 [] hMb = hLc := by
  show (if markE hMb (nameB' (tNameL 1)) = 0 then putL (jumpL [] 18 0 (nameB' (fNameL 0))) [stubI 1] else []) = hLc
  rw [tn1, fn0]
  rfl
theorem hstub_m : stubM hProg 1 [] hMb = hMc := by
  show markM hMb (nameB' (tNameL 1)) (([] : List It).length : Int) = hMc
  rw [tn1]
  decide
theorem hstub2 (L : List It) (M : List (List UInt8 × Int)) : stubE hProg 2 M = 2 ∧ stubL hProg 2 L M = L ∧ stubM hProg 2 L M = M := ⟨rfl, rfl, rfl⟩
theorem hwords_a : wordsE hMa 0 hLa = 0 ∧ wordsL hMa 0 hLa = [wordS (twoI 1 8 8 9), wordS (numI 19 0 15 4)] := by decide
theorem hwords_c : wordsE hMc 0 hLc = 0 ∧ wordsL hMc 0 hLc = [wordS (numI 18 0 0 0), wordS (numI 33 0 0 4)] := by decide
theorem look_all0 {M : List (List UInt8 × Int)} (h : ∀ e ∈ M, e.2 = 0) (nm : List UInt8) (t : Int) (ht : look M nm = some t) : 0 ≤ t ∧ t < 4294967296 := by
  unfold look at ht
  rw [Option.map_eq_some_iff] at ht
  obtain ⟨e, he, rfl⟩ := ht
  have := h e (List.mem_of_find?_eq_some he)
  omega
theorem hma0 : ∀ e ∈ hMa, e.2 = 0 := by decide
theorem hmc0 : ∀ e ∈ hMc, e.2 = 0 := by decide
theorem hmay : encS (twoI 1 8 8 9) = wordS (twoI 1 8 8 9) ∧ encS (numI 19 0 15 4) = wordS (numI 19 0 15 4) ∧ encS (numI 18 0 0 0) = wordS (numI 18 0 0 0) ∧ encS (numI 33 0 0 4) = wordS (numI 33 0 0 4) := by decide
end Go.Proofs.YtfbbodaapkfbdaaDoor
/- The walk of muntinlaw26.head. -/
namespace Go.Proofs.YtfbbodaapkfbdaaDoor
open Go.RowKit
set_option linter.unusedVariables false
set_option linter.unusedSimpArgs false
theorem ls_words {W w : World} {pa : Nat} {S : Nat → Prop} {L : List It} {M : List (List UInt8 × Int)} (h : LsAt W w pa S L M) (hL : L.length < 4294967296) (hM : ∀ nm t, look M nm = some t → 0 ≤ t ∧ t < 4294967296) :
    Calls Tryd.prog 12 #[.pointer (some ⟨pa, 0, none⟩)] w fun e w' => ∃ v l, e = .returned (.tuple #[v, .int .i64 (wordsE M 0 L)]) ∧ l = (if wordsE M 0 L = 0 then wordsL M 0 L else []) ∧ Reads32 w' v l ∧ Below w.heap.size w w' ∧ ∀ k, v.ownBlock = some k → w.heap.size ≤ k ∧ k < w'.heap.size := by
  obtain ⟨sv, m, K, hA, hO, hK⟩ := h.lst.ex
  refine (awords_any w h.tab.tab pa m sv K L M hA hL hM).mono ?_
  rintro e w' ⟨v, l, rfl, hl, ho, hb⟩
  refine ⟨v, l, rfl, hl, Reads32.of_own ho, hb, fun k hk => ?_⟩
  rcases ho.2 with ⟨rfl, _⟩ | ⟨g, cap, cur, rfl, h2, h3, _⟩
  · simp [Value.ownBlock] at hk
  · simp [Value.ownBlock] at hk
    subst hk
    exact ⟨h2, (Array.getElem?_eq_some_iff.1 h3).1⟩
theorem new_ls (W w : World) (ht : TabLo W.heap.size w) (hp : PowLo W.heap.size w) (hb : Below W.heap.size W w) : Calls Tryd.prog 8 #[] w fun e w' => ∃ p S, e = .returned (.pointer (some ⟨p, 0, none⟩)) ∧ LsAt W w' p S [] [] ∧ (∀ k, S k → w.heap.size ≤ k) ∧ Below w.heap.size w w' := by
  refine (new_lst W w hb).mono ?_
  rintro e w' ⟨p, S, rfl, hl, hS, hB⟩
  exact ⟨p, S, rfl, ⟨hl, ht.keepb hB, hp.keepB (hB.mono hb.size), hb.trans (hB.mono hb.size)⟩, hS, hB⟩
set_option maxRecDepth 100000 in
theorem code_any (x : Ix) (hx : x.bd) (w : World) : Calls Tryd.prog 22 #[x.agg] w fun e w' => e = .returned (.int .u32 (encS x)) ∧ Below w.heap.size w w' := by
  obtain ⟨w1, hw1⟩ : ∃ w1, w1 = w.alloc (.cells #[.int .u8 x.op, .int .u8 x.rd, .int .u8 x.rs1, .int .u8 x.rs2, .bool x.is, .int .i32 x.imm] 50) := ⟨_, rfl⟩
  have HB := ahid (show Below w.heap.size w w1 by rw [hw1]; exact (Below.refl _ w).alloc (Nat.le_refl _) _)
  have HE := ahid (renc_any x hx w1)
  unfold Ix.agg at *
  generalize encS x = E at HE ⊢
  generalize encE x = E2 at HE
  go_enter Tryd.func22, Tryd.ntmps22
  go_wp2_with fail
  rw [← hw1]
  clear hw1
  refine HE.out.mono ?_
  rintro e w2 ⟨rfl, hb⟩
  have HB2 := ahid (HB.out.trans (hb.mono HB.out.size))
  clear hb
  go_wp2_with fail
  go_ret
  exact ⟨rfl, HB2.out⟩
/-- The world behind the known program and function. -/
structure KnownAt (w W : World) : Prop where
  bel : Below w.heap.size w W
  prg : PrgIn W (.agg #[.int .i64 0, .slice (some ⟨w.heap.size, 0, none⟩) 2 2, .slice (some ⟨w.heap.size + 1 + 1 + 1, 0, none⟩) 1 1]) hProg
  afx : AfV W (.agg #[.bool true, .int .i64 0, .slice none 0 0, .slice (some ⟨w.heap.size + 1 + 1 + 1 + 1 + 1 + 1, 0, none⟩) 1 1]) hFunc
  p0 : W.cell? ⟨w.heap.size + 1 + 1 + 1 + 1, 0, none⟩ = some (.int .i64 0)
  p1 : W.cell? ⟨w.heap.size + 1 + 1 + 1 + 1, 1, none⟩ = some (.slice (some ⟨w.heap.size, 0, none⟩) 2 2)
  p2 : W.cell? ⟨w.heap.size + 1 + 1 + 1 + 1, 2, none⟩ = some (.slice (some ⟨w.heap.size + 1 + 1 + 1, 0, none⟩) 1 1)
  x0 : W.cell? ⟨w.heap.size + 1 + 1 + 1 + 1 + 1 + 1 + 1, 0, none⟩ = some (.bool true)
  x1 : W.cell? ⟨w.heap.size + 1 + 1 + 1 + 1 + 1 + 1 + 1, 1, none⟩ = some (.int .i64 0)
  x2 : W.cell? ⟨w.heap.size + 1 + 1 + 1 + 1 + 1 + 1 + 1, 2, none⟩ = some (.slice none 0 0)
  x3 : W.cell? ⟨w.heap.size + 1 + 1 + 1 + 1 + 1 + 1 + 1, 3, none⟩ = some (.slice (some ⟨w.heap.size + 1 + 1 + 1 + 1 + 1 + 1, 0, none⟩) 1 1)
theorem known_at (w : World) : KnownAt w ((((((((w.alloc (.cells #[.int .i64 0, .int .i64 0] 3)).alloc (.cells #[.int .u8 1, .int .i64 2, .int .i64 0, .int .i64 1, .int .u32 0, .int .i64 0, .slice none 0 0, .int .i64 0, .int .i64 0, .int .u8 10, .int .i64 0, .int .i64 2, .int .i64 0, .int .u32 0, .int .i64 0, .slice none 0 0, .int .i64 0, .int .i64 0] 73)).alloc (.cells #[.string ⟨#[98]⟩, .slice (some ⟨w.heap.size + 1, 0, none⟩) 2 2] 76)).alloc (.cells #[.string ⟨#[97]⟩, .int .i64 2, .int .i64 3, .slice (some ⟨w.heap.size + 1 + 1, 0, none⟩) 1 1] 71)).alloc (.cells #[.int .i64 0, .slice (some ⟨w.heap.size, 0, none⟩) 2 2, .slice (some ⟨w.heap.size + 1 + 1 + 1, 0, none⟩) 1 1] 25)).alloc (.cells #[.int .u8 1, .int .i64 0, .int .i64 8, .int .i64 8, .int .i64 9, .slice none 0 0, .int .u8 1, .int .i64 1, .int .i64 (-1), .int .i64 8, .int .i64 (-1), .slice none 0 0] 41)).alloc (.cells #[.slice (some ⟨w.heap.size + 1 + 1 + 1 + 1 + 1, 0, none⟩) 2 2] 43)).alloc (.cells #[.bool true, .int .i64 0, .slice none 0 0, .slice (some ⟨w.heap.size + 1 + 1 + 1 + 1 + 1 + 1, 0, none⟩) 1 1] 29)) := by
  obtain ⟨u1, hu1⟩ : ∃ u, u = w.alloc (.cells #[.int .i64 0, .int .i64 0] 3) := ⟨_, rfl⟩
  have z1 : u1.heap.size = w.heap.size + 1 := by rw [hu1]; simp [go_sem]
  have b1 : Below w.heap.size w u1 := by rw [hu1]; exact ((Below.refl _ w).alloc (Nat.le_refl _) _)
  have v0 : VRow u1 (w.heap.size) 3 [.int .i64 0, .int .i64 0] := by rw [hu1]; exact VRow.fresh w 3 [.int .i64 0, .int .i64 0]
  obtain ⟨u2, hu2⟩ : ∃ u, u = u1.alloc (.cells #[.int .u8 1, .int .i64 2, .int .i64 0, .int .i64 1, .int .u32 0, .int .i64 0, .slice none 0 0, .int .i64 0, .int .i64 0, .int .u8 10, .int .i64 0, .int .i64 2, .int .i64 0, .int .u32 0, .int .i64 0, .slice none 0 0, .int .i64 0, .int .i64 0] 73) := ⟨_, rfl⟩
  have z2 : u2.heap.size = w.heap.size + 1 + 1 := by rw [hu2]; simp [go_sem, z1]
  have b2 : Below w.heap.size w u2 := by rw [hu2]; exact (b1.alloc (by omega) _)
  have v1 : VRow u2 (w.heap.size + 1) 73 [.int .u8 1, .int .i64 2, .int .i64 0, .int .i64 1, .int .u32 0, .int .i64 0, .slice none 0 0, .int .i64 0, .int .i64 0, .int .u8 10, .int .i64 0, .int .i64 2, .int .i64 0, .int .u32 0, .int .i64 0, .slice none 0 0, .int .i64 0, .int .i64 0] := by
    have h := VRow.fresh u1 73 [.int .u8 1, .int .i64 2, .int .i64 0, .int .i64 1, .int .u32 0, .int .i64 0, .slice none 0 0, .int .i64 0, .int .i64 0, .int .u8 10, .int .i64 0, .int .i64 2, .int .i64 0, .int .u32 0, .int .i64 0, .slice none 0 0, .int .i64 0, .int .i64 0]
    rw [z1] at h
    rw [hu2]; exact h
  replace v0 := v0.alloc (.cells #[.int .u8 1, .int .i64 2, .int .i64 0, .int .i64 1, .int .u32 0, .int .i64 0, .slice none 0 0, .int .i64 0, .int .i64 0, .int .u8 10, .int .i64 0, .int .i64 2, .int .i64 0, .int .u32 0, .int .i64 0, .slice none 0 0, .int .i64 0, .int .i64 0] 73)
  rw [← hu2] at v0
  obtain ⟨u3, hu3⟩ : ∃ u, u = u2.alloc (.cells #[.string ⟨#[98]⟩, .slice (some ⟨w.heap.size + 1, 0, none⟩) 2 2] 76) := ⟨_, rfl⟩
  have z3 : u3.heap.size = w.heap.size + 1 + 1 + 1 := by rw [hu3]; simp [go_sem, z2]
  have b3 : Below w.heap.size w u3 := by rw [hu3]; exact (b2.alloc (by omega) _)
  have v2 : VRow u3 (w.heap.size + 1 + 1) 76 [.string ⟨#[98]⟩, .slice (some ⟨w.heap.size + 1, 0, none⟩) 2 2] := by
    have h := VRow.fresh u2 76 [.string ⟨#[98]⟩, .slice (some ⟨w.heap.size + 1, 0, none⟩) 2 2]
    rw [z2] at h
    rw [hu3]; exact h
  replace v0 := v0.alloc (.cells #[.string ⟨#[98]⟩, .slice (some ⟨w.heap.size + 1, 0, none⟩) 2 2] 76)
  rw [← hu3] at v0
  replace v1 := v1.alloc (.cells #[.string ⟨#[98]⟩, .slice (some ⟨w.heap.size + 1, 0, none⟩) 2 2] 76)
  rw [← hu3] at v1
  obtain ⟨u4, hu4⟩ : ∃ u, u = u3.alloc (.cells #[.string ⟨#[97]⟩, .int .i64 2, .int .i64 3, .slice (some ⟨w.heap.size + 1 + 1, 0, none⟩) 1 1] 71) := ⟨_, rfl⟩
  have z4 : u4.heap.size = w.heap.size + 1 + 1 + 1 + 1 := by rw [hu4]; simp [go_sem, z3]
  have b4 : Below w.heap.size w u4 := by rw [hu4]; exact (b3.alloc (by omega) _)
  have v3 : VRow u4 (w.heap.size + 1 + 1 + 1) 71 [.string ⟨#[97]⟩, .int .i64 2, .int .i64 3, .slice (some ⟨w.heap.size + 1 + 1, 0, none⟩) 1 1] := by
    have h := VRow.fresh u3 71 [.string ⟨#[97]⟩, .int .i64 2, .int .i64 3, .slice (some ⟨w.heap.size + 1 + 1, 0, none⟩) 1 1]
    rw [z3] at h
    rw [hu4]; exact h
  replace v0 := v0.alloc (.cells #[.string ⟨#[97]⟩, .int .i64 2, .int .i64 3, .slice (some ⟨w.heap.size + 1 + 1, 0, none⟩) 1 1] 71)
  rw [← hu4] at v0
  replace v1 := v1.alloc (.cells #[.string ⟨#[97]⟩, .int .i64 2, .int .i64 3, .slice (some ⟨w.heap.size + 1 + 1, 0, none⟩) 1 1] 71)
  rw [← hu4] at v1
  replace v2 := v2.alloc (.cells #[.string ⟨#[97]⟩, .int .i64 2, .int .i64 3, .slice (some ⟨w.heap.size + 1 + 1, 0, none⟩) 1 1] 71)
  rw [← hu4] at v2
  obtain ⟨u5, hu5⟩ : ∃ u, u = u4.alloc (.cells #[.int .i64 0, .slice (some ⟨w.heap.size, 0, none⟩) 2 2, .slice (some ⟨w.heap.size + 1 + 1 + 1, 0, none⟩) 1 1] 25) := ⟨_, rfl⟩
  have z5 : u5.heap.size = w.heap.size + 1 + 1 + 1 + 1 + 1 := by rw [hu5]; simp [go_sem, z4]
  have b5 : Below w.heap.size w u5 := by rw [hu5]; exact (b4.alloc (by omega) _)
  have v4 : VRow u5 (w.heap.size + 1 + 1 + 1 + 1) 25 [.int .i64 0, .slice (some ⟨w.heap.size, 0, none⟩) 2 2, .slice (some ⟨w.heap.size + 1 + 1 + 1, 0, none⟩) 1 1] := by
    have h := VRow.fresh u4 25 [.int .i64 0, .slice (some ⟨w.heap.size, 0, none⟩) 2 2, .slice (some ⟨w.heap.size + 1 + 1 + 1, 0, none⟩) 1 1]
    rw [z4] at h
    rw [hu5]; exact h
  replace v0 := v0.alloc (.cells #[.int .i64 0, .slice (some ⟨w.heap.size, 0, none⟩) 2 2, .slice (some ⟨w.heap.size + 1 + 1 + 1, 0, none⟩) 1 1] 25)
  rw [← hu5] at v0
  replace v1 := v1.alloc (.cells #[.int .i64 0, .slice (some ⟨w.heap.size, 0, none⟩) 2 2, .slice (some ⟨w.heap.size + 1 + 1 + 1, 0, none⟩) 1 1] 25)
  rw [← hu5] at v1
  replace v2 := v2.alloc (.cells #[.int .i64 0, .slice (some ⟨w.heap.size, 0, none⟩) 2 2, .slice (some ⟨w.heap.size + 1 + 1 + 1, 0, none⟩) 1 1] 25)
  rw [← hu5] at v2
  replace v3 := v3.alloc (.cells #[.int .i64 0, .slice (some ⟨w.heap.size, 0, none⟩) 2 2, .slice (some ⟨w.heap.size + 1 + 1 + 1, 0, none⟩) 1 1] 25)
  rw [← hu5] at v3
  obtain ⟨u6, hu6⟩ : ∃ u, u = u5.alloc (.cells #[.int .u8 1, .int .i64 0, .int .i64 8, .int .i64 8, .int .i64 9, .slice none 0 0, .int .u8 1, .int .i64 1, .int .i64 (-1), .int .i64 8, .int .i64 (-1), .slice none 0 0] 41) := ⟨_, rfl⟩
  have z6 : u6.heap.size = w.heap.size + 1 + 1 + 1 + 1 + 1 + 1 := by rw [hu6]; simp [go_sem, z5]
  have b6 : Below w.heap.size w u6 := by rw [hu6]; exact (b5.alloc (by omega) _)
  have v5 : VRow u6 (w.heap.size + 1 + 1 + 1 + 1 + 1) 41 [.int .u8 1, .int .i64 0, .int .i64 8, .int .i64 8, .int .i64 9, .slice none 0 0, .int .u8 1, .int .i64 1, .int .i64 (-1), .int .i64 8, .int .i64 (-1), .slice none 0 0] := by
    have h := VRow.fresh u5 41 [.int .u8 1, .int .i64 0, .int .i64 8, .int .i64 8, .int .i64 9, .slice none 0 0, .int .u8 1, .int .i64 1, .int .i64 (-1), .int .i64 8, .int .i64 (-1), .slice none 0 0]
    rw [z5] at h
    rw [hu6]; exact h
  replace v0 := v0.alloc (.cells #[.int .u8 1, .int .i64 0, .int .i64 8, .int .i64 8, .int .i64 9, .slice none 0 0, .int .u8 1, .int .i64 1, .int .i64 (-1), .int .i64 8, .int .i64 (-1), .slice none 0 0] 41)
  rw [← hu6] at v0
  replace v1 := v1.alloc (.cells #[.int .u8 1, .int .i64 0, .int .i64 8, .int .i64 8, .int .i64 9, .slice none 0 0, .int .u8 1, .int .i64 1, .int .i64 (-1), .int .i64 8, .int .i64 (-1), .slice none 0 0] 41)
  rw [← hu6] at v1
  replace v2 := v2.alloc (.cells #[.int .u8 1, .int .i64 0, .int .i64 8, .int .i64 8, .int .i64 9, .slice none 0 0, .int .u8 1, .int .i64 1, .int .i64 (-1), .int .i64 8, .int .i64 (-1), .slice none 0 0] 41)
  rw [← hu6] at v2
  replace v3 := v3.alloc (.cells #[.int .u8 1, .int .i64 0, .int .i64 8, .int .i64 8, .int .i64 9, .slice none 0 0, .int .u8 1, .int .i64 1, .int .i64 (-1), .int .i64 8, .int .i64 (-1), .slice none 0 0] 41)
  rw [← hu6] at v3
  replace v4 := v4.alloc (.cells #[.int .u8 1, .int .i64 0, .int .i64 8, .int .i64 8, .int .i64 9, .slice none 0 0, .int .u8 1, .int .i64 1, .int .i64 (-1), .int .i64 8, .int .i64 (-1), .slice none 0 0] 41)
  rw [← hu6] at v4
  obtain ⟨u7, hu7⟩ : ∃ u, u = u6.alloc (.cells #[.slice (some ⟨w.heap.size + 1 + 1 + 1 + 1 + 1, 0, none⟩) 2 2] 43) := ⟨_, rfl⟩
  have z7 : u7.heap.size = w.heap.size + 1 + 1 + 1 + 1 + 1 + 1 + 1 := by rw [hu7]; simp [go_sem, z6]
  have b7 : Below w.heap.size w u7 := by rw [hu7]; exact (b6.alloc (by omega) _)
  have v6 : VRow u7 (w.heap.size + 1 + 1 + 1 + 1 + 1 + 1) 43 [.slice (some ⟨w.heap.size + 1 + 1 + 1 + 1 + 1, 0, none⟩) 2 2] := by
    have h := VRow.fresh u6 43 [.slice (some ⟨w.heap.size + 1 + 1 + 1 + 1 + 1, 0, none⟩) 2 2]
    rw [z6] at h
    rw [hu7]; exact h
  replace v0 := v0.alloc (.cells #[.slice (some ⟨w.heap.size + 1 + 1 + 1 + 1 + 1, 0, none⟩) 2 2] 43)
  rw [← hu7] at v0
  replace v1 := v1.alloc (.cells #[.slice (some ⟨w.heap.size + 1 + 1 + 1 + 1 + 1, 0, none⟩) 2 2] 43)
  rw [← hu7] at v1
  replace v2 := v2.alloc (.cells #[.slice (some ⟨w.heap.size + 1 + 1 + 1 + 1 + 1, 0, none⟩) 2 2] 43)
  rw [← hu7] at v2
  replace v3 := v3.alloc (.cells #[.slice (some ⟨w.heap.size + 1 + 1 + 1 + 1 + 1, 0, none⟩) 2 2] 43)
  rw [← hu7] at v3
  replace v4 := v4.alloc (.cells #[.slice (some ⟨w.heap.size + 1 + 1 + 1 + 1 + 1, 0, none⟩) 2 2] 43)
  rw [← hu7] at v4
  replace v5 := v5.alloc (.cells #[.slice (some ⟨w.heap.size + 1 + 1 + 1 + 1 + 1, 0, none⟩) 2 2] 43)
  rw [← hu7] at v5
  obtain ⟨u8, hu8⟩ : ∃ u, u = u7.alloc (.cells #[.bool true, .int .i64 0, .slice none 0 0, .slice (some ⟨w.heap.size + 1 + 1 + 1 + 1 + 1 + 1, 0, none⟩) 1 1] 29) := ⟨_, rfl⟩
  have z8 : u8.heap.size = w.heap.size + 1 + 1 + 1 + 1 + 1 + 1 + 1 + 1 := by rw [hu8]; simp [go_sem, z7]
  have b8 : Below w.heap.size w u8 := by rw [hu8]; exact (b7.alloc (by omega) _)
  have v7 : VRow u8 (w.heap.size + 1 + 1 + 1 + 1 + 1 + 1 + 1) 29 [.bool true, .int .i64 0, .slice none 0 0, .slice (some ⟨w.heap.size + 1 + 1 + 1 + 1 + 1 + 1, 0, none⟩) 1 1] := by
    have h := VRow.fresh u7 29 [.bool true, .int .i64 0, .slice none 0 0, .slice (some ⟨w.heap.size + 1 + 1 + 1 + 1 + 1 + 1, 0, none⟩) 1 1]
    rw [z7] at h
    rw [hu8]; exact h
  replace v0 := v0.alloc (.cells #[.bool true, .int .i64 0, .slice none 0 0, .slice (some ⟨w.heap.size + 1 + 1 + 1 + 1 + 1 + 1, 0, none⟩) 1 1] 29)
  rw [← hu8] at v0
  replace v1 := v1.alloc (.cells #[.bool true, .int .i64 0, .slice none 0 0, .slice (some ⟨w.heap.size + 1 + 1 + 1 + 1 + 1 + 1, 0, none⟩) 1 1] 29)
  rw [← hu8] at v1
  replace v2 := v2.alloc (.cells #[.bool true, .int .i64 0, .slice none 0 0, .slice (some ⟨w.heap.size + 1 + 1 + 1 + 1 + 1 + 1, 0, none⟩) 1 1] 29)
  rw [← hu8] at v2
  replace v3 := v3.alloc (.cells #[.bool true, .int .i64 0, .slice none 0 0, .slice (some ⟨w.heap.size + 1 + 1 + 1 + 1 + 1 + 1, 0, none⟩) 1 1] 29)
  rw [← hu8] at v3
  replace v4 := v4.alloc (.cells #[.bool true, .int .i64 0, .slice none 0 0, .slice (some ⟨w.heap.size + 1 + 1 + 1 + 1 + 1 + 1, 0, none⟩) 1 1] 29)
  rw [← hu8] at v4
  replace v5 := v5.alloc (.cells #[.bool true, .int .i64 0, .slice none 0 0, .slice (some ⟨w.heap.size + 1 + 1 + 1 + 1 + 1 + 1, 0, none⟩) 1 1] 29)
  rw [← hu8] at v5
  replace v6 := v6.alloc (.cells #[.bool true, .int .i64 0, .slice none 0 0, .slice (some ⟨w.heap.size + 1 + 1 + 1 + 1 + 1 + 1, 0, none⟩) 1 1] 29)
  rw [← hu8] at v6
  rw [← hu1, ← hu2, ← hu3, ← hu4, ← hu5, ← hu6, ← hu7, ← hu8]
  clear hu1 hu2 hu3 hu4 hu5 hu6 hu7 hu8
  have hb1 : Insx.bd ⟨1, 2, 0, 1, 0, 0, [], 0, 0⟩ := by unfold Insx.bd I64; simp
  have hb2 : Insx.bd ⟨10, 0, 2, 0, 0, 0, [], 0, 0⟩ := by unfold Insx.bd I64; simp
  have i1 : InsxAt u8 (w.heap.size + 1) 0 ⟨1, 2, 0, 1, 0, 0, [], 0, 0⟩ := ⟨v1.cell (k := 0) rfl, v1.cell (k := 1) rfl, v1.cell (k := 2) rfl, v1.cell (k := 3) rfl, v1.cell (k := 4) rfl, v1.cell (k := 5) rfl, ⟨_, v1.cell (k := 6) rfl, RowIn.void⟩, v1.cell (k := 7) rfl, v1.cell (k := 8) rfl, hb1⟩
  have i2 : InsxAt u8 (w.heap.size + 1) (0 + 9) ⟨10, 0, 2, 0, 0, 0, [], 0, 0⟩ := ⟨v1.cell (k := 9) rfl, v1.cell (k := 10) rfl, v1.cell (k := 11) rfl, v1.cell (k := 12) rfl, v1.cell (k := 13) rfl, v1.cell (k := 14) rfl, ⟨_, v1.cell (k := 15) rfl, RowIn.void⟩, v1.cell (k := 16) rfl, v1.cell (k := 17) rfl, hb2⟩
  have hins : InsxIn u8 (.slice (some ⟨w.heap.size + 1, 0, none⟩) 2 2) [⟨1, 2, 0, 1, 0, 0, [], 0, 0⟩, ⟨10, 0, 2, 0, 0, 0, [], 0, 0⟩] := RowIn.pair (by omega) i1 i2
  have hblk : BlksIn u8 (.slice (some ⟨w.heap.size + 1 + 1, 0, none⟩) 1 1) [⟨⟨#[98]⟩, [⟨1, 2, 0, 1, 0, 0, [], 0, 0⟩, ⟨10, 0, 2, 0, 0, 0, [], 0, 0⟩]⟩] := RowIn.lone (by omega) ⟨v2.cell (k := 0) rfl, ⟨_, v2.cell (k := 1) rfl, hins⟩, by decide⟩
  have hfns : FnsIn u8 (.slice (some ⟨w.heap.size + 1 + 1 + 1, 0, none⟩) 1 1) hProg.funcs := RowIn.lone (by omega) ⟨v3.cell (k := 0) rfl, v3.cell (k := 1) rfl, v3.cell (k := 2) rfl, ⟨_, v3.cell (k := 3) rfl, hblk⟩, by decide, by unfold I64; decide, by unfold I64; decide⟩
  have hthr : IntsIn u8 (.slice (some ⟨w.heap.size, 0, none⟩) 2 2) hProg.threads := RowIn.pair (by omega) ⟨v0.cell (k := 0) rfl, by unfold I64; decide⟩ ⟨v0.cell (k := 1) rfl, by unfold I64; decide⟩
  have a1 : AcAt u8 (w.heap.size + 1 + 1 + 1 + 1 + 1) 0 ⟨1, 0, 8, 8, 9, []⟩ := ⟨v5.cell (k := 0) rfl, v5.cell (k := 1) rfl, v5.cell (k := 2) rfl, v5.cell (k := 3) rfl, v5.cell (k := 4) rfl, ⟨_, v5.cell (k := 5) rfl, RowIn.void⟩, by unfold I64; simp⟩
  have a2 : AcAt u8 (w.heap.size + 1 + 1 + 1 + 1 + 1) (0 + 6) ⟨1, 1, -1, 8, -1, []⟩ := ⟨v5.cell (k := 6) rfl, v5.cell (k := 7) rfl, v5.cell (k := 8) rfl, v5.cell (k := 9) rfl, v5.cell (k := 10) rfl, ⟨_, v5.cell (k := 11) rfl, RowIn.void⟩, by unfold I64; simp⟩
  have habs : AbsIn u8 (.slice (some ⟨w.heap.size + 1 + 1 + 1 + 1 + 1 + 1, 0, none⟩) 1 1) hFunc.blocks := RowIn.lone (by omega) ⟨_, v6.cell (k := 0) rfl, RowIn.pair (by omega) a1 a2⟩
  exact ⟨b8, ⟨⟨_, _, rfl, hthr, hfns⟩, by unfold I64; decide⟩, ⟨none, 0, some ⟨w.heap.size + 1 + 1 + 1 + 1 + 1 + 1, 0, none⟩, 1, rfl, RowIn.void, habs⟩, v4.cell (k := 0) rfl, v4.cell (k := 1) rfl, v4.cell (k := 2) rfl, v7.cell (k := 0) rfl, v7.cell (k := 1) rfl, v7.cell (k := 2) rfl, v7.cell (k := 3) rfl⟩
set_option maxRecDepth 100000 in
set_option maxHeartbeats 8000000 in
theorem lhead_any (w : World) (ht : Tab w) (hpw : PowLo w.heap.size w) : Calls Tryd.prog 7 #[] w fun e w' => e = .returned (.bool true) ∧ Below w.heap.size w w' := by
  have HKN := known_at w
  obtain ⟨W, hW⟩ : ∃ W, W = ((((((((w.alloc (.cells #[.int .i64 0, .int .i64 0] 3)).alloc (.cells #[.int .u8 1, .int .i64 2, .int .i64 0, .int .i64 1, .int .u32 0, .int .i64 0, .slice none 0 0, .int .i64 0, .int .i64 0, .int .u8 10, .int .i64 0, .int .i64 2, .int .i64 0, .int .u32 0, .int .i64 0, .slice none 0 0, .int .i64 0, .int .i64 0] 73)).alloc (.cells #[.string ⟨#[98]⟩, .slice (some ⟨w.heap.size + 1, 0, none⟩) 2 2] 76)).alloc (.cells #[.string ⟨#[97]⟩, .int .i64 2, .int .i64 3, .slice (some ⟨w.heap.size + 1 + 1, 0, none⟩) 1 1] 71)).alloc (.cells #[.int .i64 0, .slice (some ⟨w.heap.size, 0, none⟩) 2 2, .slice (some ⟨w.heap.size + 1 + 1 + 1, 0, none⟩) 1 1] 25)).alloc (.cells #[.int .u8 1, .int .i64 0, .int .i64 8, .int .i64 8, .int .i64 9, .slice none 0 0, .int .u8 1, .int .i64 1, .int .i64 (-1), .int .i64 8, .int .i64 (-1), .slice none 0 0] 41)).alloc (.cells #[.slice (some ⟨w.heap.size + 1 + 1 + 1 + 1 + 1, 0, none⟩) 2 2] 43)).alloc (.cells #[.bool true, .int .i64 0, .slice none 0 0, .slice (some ⟨w.heap.size + 1 + 1 + 1 + 1 + 1 + 1, 0, none⟩) 1 1] 29)) := ⟨_, rfl⟩
  rw [← hW] at HKN
  have T := ahid (TabLo.start (ht.keep HKN.bel) (Below.refl _ _))
  have P := ahid (show PowLo W.heap.size W from ⟨(hpw.keepB HKN.bel).tab, Nat.lt_of_lt_of_le hpw.lo HKN.bel.size⟩)
  have HB := ahid HKN.bel
  have HP := ahid HKN.prg
  have HXF := ahid HKN.afx
  have HKC := ahid (show ∀ w', Below W.heap.size W w' → w'.cell? ⟨w.heap.size + 1 + 1 + 1 + 1, 0, none⟩ = some (.int .i64 0) ∧ w'.cell? ⟨w.heap.size + 1 + 1 + 1 + 1, 1, none⟩ = some (.slice (some ⟨w.heap.size, 0, none⟩) 2 2) ∧ w'.cell? ⟨w.heap.size + 1 + 1 + 1 + 1, 2, none⟩ = some (.slice (some ⟨w.heap.size + 1 + 1 + 1, 0, none⟩) 1 1) ∧ w'.cell? ⟨w.heap.size + 1 + 1 + 1 + 1 + 1 + 1 + 1, 0, none⟩ = some (.bool true) ∧ w'.cell? ⟨w.heap.size + 1 + 1 + 1 + 1 + 1 + 1 + 1, 1, none⟩ = some (.int .i64 0) ∧ w'.cell? ⟨w.heap.size + 1 + 1 + 1 + 1 + 1 + 1 + 1, 2, none⟩ = some (.slice none 0 0) ∧ w'.cell? ⟨w.heap.size + 1 + 1 + 1 + 1 + 1 + 1 + 1, 3, none⟩ = some (.slice (some ⟨w.heap.size + 1 + 1 + 1 + 1 + 1 + 1, 0, none⟩) 1 1) from fun w' hd =>
    have z {a : Addr} {u : Value} (e : W.cell? a = some u) : w'.cell? a = some u := (hd.cell (World.block_lt_of_cell? _ _ e)).trans e
    ⟨z HKN.p0, z HKN.p1, z HKN.p2, z HKN.x0, z HKN.x1, z HKN.x2, z HKN.x3⟩)
  have I0 : I64 0 := by unfold I64; omega
  have I1 : I64 1 := by unfold I64; omega
  have I2 : I64 2 := by unfold I64; omega
  have hI := ahid (And.intro I0 (And.intro I1 I2))
  clear HKN ht hpw I0 I1 I2
  go_enter Tryd.func7, Tryd.ntmps7
  go_wp2_with fail
  rw [← hW]
  clear hW
  refine (new_ls W W T.out P.out (Below.refl _ _)).mono ?_
  rintro e w1 ⟨pa, Sa, rfl, ha, hSa, hb⟩
  have A := ahid ha
  clear ha hSa hb T P
  go_wp2_with fail
  refine (new_ls W w1 A.out.tab A.out.pow A.out.bel).mono ?_
  rintro e w2 ⟨pb, Sb, rfl, hb', hSb, hb⟩
  have Dba := ahid (show ∀ k, Sb k → ¬ Sa k from fun k h1 h2 => by have := (A.out.lst.lo k h2).2; have := hSb k h1; omega)
  replace A := ahid (A.out.keepb hb)
  have Bl := ahid hb'
  clear hb' hSb hb
  obtain ⟨kp0, kp1, kp2, kx0, kx1, kx2, kx3⟩ := HKC.out w2 A.out.bel
  go_wp2_with fail
  have hF := ls_func A.out HP.out HXF.out (by decide) hI.out.1 (h32 := 2048) (by omega) (by decide) (by decide) (by decide)
  rw [hfunc_e, hfunc_s] at hF
  refine hF.mono ?_
  clear hF
  rintro e w3 ⟨rfl, S3, h3, o3, r3⟩
  have Dn := ahid (show ∀ k, Sb k → ¬ S3 k from fun k h1 h2 => by
    rcases r3 k h2 with h | h
    · exact Dba.out k h1 h
    · have := (Bl.out.lst.lo k h1).2; omega)
  replace Bl := ahid (Bl.out.beside h3 o3 Dba.out)
  replace A := ahid h3
  replace Dba := ahid Dn.out
  clear h3 o3 r3 Dn
  clear kp0 kp1 kp2 kx0 kx1 kx2 kx3
  go_wp2_with fail
  have hF := ls_words A.out (by decide) (look_all0 hma0)
  rw [show wordsE hMa 0 hLa = 0 from hwords_a.1] at hF
  refine hF.mono ?_
  clear hF
  rintro e w4 ⟨va, la, rfl, hla, hra, hb, hov⟩
  rw [if_pos rfl, show wordsL hMa 0 hLa = _ from hwords_a.2] at hla
  subst hla
  have KA := ahid hra
  obtain ⟨pva, nva, cva, rfl⟩ := KA.out.shape'
  have HVA := ahid (show ∀ k, (Value.slice pva nva cva).ownBlock = some k → ¬ Sb k from fun k h1 h2 => by have := (hov k h1).1; have := (Bl.out.lst.lo k h2).2; omega)
  have HVL := ahid (fun k h1 => (hov k h1).2)
  clear hra hov
  replace A := ahid (A.out.keepb hb)
  replace Bl := ahid (Bl.out.keepb hb)
  clear hb
  go_wp2_with fail
  have hF : Calls Tryd.prog 10 #[.pointer (some ⟨pb, 0, none⟩), .string ⟨#[102, 48]⟩] w4 fun e w' => e = .returned (.int .i64 (markE [] (nameB' [102, 48]))) ∧ LsGo W w4 pb Sb [] (markM [] (nameB' [102, 48]) (([] : List It).length : Int)) w' := ls_mark Bl.out (nm := [102, 48]) (by decide) (by decide) (by decide)
  rw [hmark_b.1] at hF
  refine hF.mono ?_
  clear hF
  rintro e w5 ⟨rfl, S5, h5, o5, r5⟩
  replace h5 : LsAt W w5 pb S5 [] hMb := h5
  have Dn := ahid (show ∀ k, S5 k → ¬ S3 k from fun k h2 h1 => by
    rcases r5 k h2 with h | h
    · exact Dba.out k h h1
    · have := (A.out.lst.lo k h1).2; omega)
  have Vn := ahid (show ∀ k, (Value.slice pva nva cva).ownBlock = some k → ¬ S5 k from fun k h1 h2 => by
    rcases r5 k h2 with h | h
    · exact HVA.out k h1 h
    · have := HVL.out k h1; omega)
  replace KA := ahid (KA.out.keepO o5 HVA.out)
  have VLn := ahid (show ∀ k, (Value.slice pva nva cva).ownBlock = some k → k < w5.heap.size from fun k h1 => Nat.lt_of_lt_of_le (HVL.out k h1) o5.size)
  replace HVL := ahid VLn.out
  replace HVA := ahid Vn.out
  replace A := ahid (A.out.beside h5 o5 (fun k h1 h2 => Dba.out k h2 h1))
  replace Bl := ahid h5
  replace Dba := ahid Dn.out
  clear h5 o5 r5 Dn Vn VLn
  obtain ⟨kp0, kp1, kp2, kx0, kx1, kx2, kx3⟩ := HKC.out w5 A.out.bel
  go_wp2_with fail
  have hF := stub_any Bl.out HP.out (th := 1) hI.out.2.1 (by decide) (by decide)
  rw [hstub_e, hstub_l, hstub_m] at hF
  refine hF.mono ?_
  clear hF
  rintro e w6 ⟨rfl, S6, h6, o6, r6⟩
  have Dn := ahid (show ∀ k, S6 k → ¬ S3 k from fun k h2 h1 => by
    rcases r6 k h2 with h | h
    · exact Dba.out k h h1
    · have := (A.out.lst.lo k h1).2; omega)
  have Vn := ahid (show ∀ k, (Value.slice pva nva cva).ownBlock = some k → ¬ S6 k from fun k h1 h2 => by
    rcases r6 k h2 with h | h
    · exact HVA.out k h1 h
    · have := HVL.out k h1; omega)
  replace KA := ahid (KA.out.keepO o6 HVA.out)
  have VLn := ahid (show ∀ k, (Value.slice pva nva cva).ownBlock = some k → k < w6.heap.size from fun k h1 => Nat.lt_of_lt_of_le (HVL.out k h1) o6.size)
  replace HVL := ahid VLn.out
  replace HVA := ahid Vn.out
  replace A := ahid (A.out.beside h6 o6 (fun k h1 h2 => Dba.out k h2 h1))
  replace Bl := ahid h6
  replace Dba := ahid Dn.out
  clear h6 o6 r6 Dn Vn VLn
  clear kp0 kp1 kp2 kx0 kx1 kx2 kx3
  go_wp2_with fail
  have hF := ls_words Bl.out (by decide) (look_all0 hmc0)
  rw [show wordsE hMc 0 hLc = 0 from hwords_c.1] at hF
  refine hF.mono ?_
  clear hF
  rintro e w7 ⟨vb, lb, rfl, hlb, hrb, hb, -⟩
  rw [if_pos rfl, show wordsL hMc 0 hLc = _ from hwords_c.2] at hlb
  subst hlb
  have KB := ahid hrb
  obtain ⟨pvb, nvb, cvb, rfl⟩ := KB.out.shape'
  clear hrb HVA HVL
  replace A := ahid (A.out.keepb hb)
  replace Bl := ahid (Bl.out.keepb hb)
  replace KA := ahid (KA.out.keepb hb)
  clear hb
  go_wp2_with fail
  have hF : Calls Tryd.prog 22 #[.agg #[.int .u8 1, .int .u8 8, .int .u8 8, .int .u8 9, .bool false, .int .i32 0]] w7 fun e w' => e = .returned (.int .u32 (wordS (twoI 1 8 8 9))) ∧ Below w7.heap.size w7 w' := by
    have h := code_any (twoI 1 8 8 9) (by unfold Ix.bd; simp only [numI, twoI]; omega) w7
    rw [hmay.1] at h
    exact h
  refine hF.mono ?_
  clear hF
  rintro e w8 ⟨rfl, hb⟩
  replace A := ahid (A.out.keepb hb)
  replace Bl := ahid (Bl.out.keepb hb)
  replace KA := ahid (KA.out.keepb hb)
  replace KB := ahid (KB.out.keepb hb)
  clear hb
  go_wp2_with fail
  have hF : Calls Tryd.prog 22 #[.agg #[.int .u8 19, .int .u8 0, .int .u8 15, .int .u8 0, .bool true, .int .i32 4]] w8 fun e w' => e = .returned (.int .u32 (wordS (numI 19 0 15 4))) ∧ Below w8.heap.size w8 w' := by
    have h := code_any (numI 19 0 15 4) (by unfold Ix.bd; simp only [numI, twoI]; omega) w8
    rw [hmay.2.1] at h
    exact h
  refine hF.mono ?_
  clear hF
  rintro e w9 ⟨rfl, hb⟩
  replace A := ahid (A.out.keepb hb)
  replace Bl := ahid (Bl.out.keepb hb)
  replace KA := ahid (KA.out.keepb hb)
  replace KB := ahid (KB.out.keepb hb)
  clear hb
  go_wp2_with fail
  obtain ⟨w10, hw10⟩ : ∃ u, u = w9.alloc (.cells #[.int .u32 (wordS (twoI 1 8 8 9)), .int .u32 (wordS (numI 19 0 15 4))] 30) := ⟨_, rfl⟩
  rw [← hw10]
  have KWA := ahid (show Reads32 w10 (.slice (some ⟨w9.heap.size, 0, none⟩) 2 2) [wordS (twoI 1 8 8 9), wordS (numI 19 0 15 4)] by rw [hw10]; exact Reads32.of_own (l := [wordS (twoI 1 8 8 9), wordS (numI 19 0 15 4)]) (own_new w9 0 #[.int .u32 (wordS (twoI 1 8 8 9)), .int .u32 (wordS (numI 19 0 15 4))] 30 2 1 rfl (by simp [maxLen]) (Nat.zero_le _)))
  have hb : Below w9.heap.size w9 w10 := by rw [hw10]; exact (Below.refl _ _).alloc (Nat.le_refl _) _
  clear hw10
  replace A := ahid (A.out.keepb hb)
  replace Bl := ahid (Bl.out.keepb hb)
  replace KA := ahid (KA.out.keepb hb)
  replace KB := ahid (KB.out.keepb hb)
  clear hb
  have hF : Calls Tryd.prog 22 #[.agg #[.int .u8 18, .int .u8 0, .int .u8 0, .int .u8 0, .bool true, .int .i32 0]] w10 fun e w' => e = .returned (.int .u32 (wordS (numI 18 0 0 0))) ∧ Below w10.heap.size w10 w' := by
    have h := code_any (numI 18 0 0 0) (by unfold Ix.bd; simp only [numI, twoI]; omega) w10
    rw [hmay.2.2.1] at h
    exact h
  refine hF.mono ?_
  clear hF
  rintro e w11 ⟨rfl, hb⟩
  replace A := ahid (A.out.keepb hb)
  replace Bl := ahid (Bl.out.keepb hb)
  replace KA := ahid (KA.out.keepb hb)
  replace KB := ahid (KB.out.keepb hb)
  replace KWA := ahid (KWA.out.keepb hb)
  clear hb
  go_wp2_with fail
  have hF : Calls Tryd.prog 22 #[.agg #[.int .u8 33, .int .u8 0, .int .u8 0, .int .u8 0, .bool true, .int .i32 4]] w11 fun e w' => e = .returned (.int .u32 (wordS (numI 33 0 0 4))) ∧ Below w11.heap.size w11 w' := by
    have h := code_any (numI 33 0 0 4) (by unfold Ix.bd; simp only [numI, twoI]; omega) w11
    rw [hmay.2.2.2] at h
    exact h
  refine hF.mono ?_
  clear hF
  rintro e w12 ⟨rfl, hb⟩
  replace A := ahid (A.out.keepb hb)
  replace Bl := ahid (Bl.out.keepb hb)
  replace KA := ahid (KA.out.keepb hb)
  replace KB := ahid (KB.out.keepb hb)
  replace KWA := ahid (KWA.out.keepb hb)
  clear hb
  go_wp2_with fail
  obtain ⟨w13, hw13⟩ : ∃ u, u = w12.alloc (.cells #[.int .u32 (wordS (numI 18 0 0 0)), .int .u32 (wordS (numI 33 0 0 4))] 30) := ⟨_, rfl⟩
  rw [← hw13]
  have KWB := ahid (show Reads32 w13 (.slice (some ⟨w12.heap.size, 0, none⟩) 2 2) [wordS (numI 18 0 0 0), wordS (numI 33 0 0 4)] by rw [hw13]; exact Reads32.of_own (l := [wordS (numI 18 0 0 0), wordS (numI 33 0 0 4)]) (own_new w12 0 #[.int .u32 (wordS (numI 18 0 0 0)), .int .u32 (wordS (numI 33 0 0 4))] 30 2 1 rfl (by simp [maxLen]) (Nat.zero_le _)))
  have hb : Below w12.heap.size w12 w13 := by rw [hw13]; exact (Below.refl _ _).alloc (Nat.le_refl _) _
  clear hw13
  replace A := ahid (A.out.keepb hb)
  replace Bl := ahid (Bl.out.keepb hb)
  replace KA := ahid (KA.out.keepb hb)
  replace KB := ahid (KB.out.keepb hb)
  replace KWA := ahid (KWA.out.keepb hb)
  clear hb
  generalize wordS (twoI 1 8 8 9) = q1 at *
  generalize wordS (numI 19 0 15 4) = q2 at *
  generalize wordS (numI 18 0 0 0) = q3 at *
  generalize wordS (numI 33 0 0 4) = q4 at *
  have hF := same_any w13 _ _ _ _ KA.out KWA.out
  rw [decide_eq_true rfl] at hF
  refine hF.mono ?_
  clear hF
  rintro e w14 ⟨rfl, hb⟩
  replace A := ahid (A.out.keepb hb)
  replace Bl := ahid (Bl.out.keepb hb)
  replace KB := ahid (KB.out.keepb hb)
  replace KWB := ahid (KWB.out.keepb hb)
  clear hb
  go_wp2_with fail
  have hF := same_any w14 _ _ _ _ KB.out KWB.out
  rw [decide_eq_true rfl] at hF
  refine hF.mono ?_
  clear hF
  rintro e w15 ⟨rfl, hb⟩
  replace A := ahid (A.out.keepb hb)
  clear hb
  clear KB KWB KA KWA Bl Dba
  go_wp2_with fail
  have hF := frame_shape (leaf := false) (sl := 1) (ne := 0) (nb := 0) (pe := none) (pb := none) (ce := 0) (cb := 0) (w := w15) (by omega)
  rw [show frameS 1 = 72 by decide] at hF
  refine hF.mono ?_
  clear hF
  rintro e w16 ⟨rfl, hb⟩
  replace A := ahid (A.out.keepb hb)
  clear hb
  obtain ⟨kp0, kp1, kp2, kx0, kx1, kx2, kx3⟩ := HKC.out w16 A.out.bel
  go_wp2_with fail
  refine func_nil.mono ?_
  rintro e w17 ⟨rfl, hb⟩
  clear kp0 kp1 kp2 kx0 kx1 kx2 kx3
  replace A := ahid (A.out.keepb hb)
  clear hb
  obtain ⟨kp0, kp1, kp2, kx0, kx1, kx2, kx3⟩ := HKC.out w17 A.out.bel
  go_wp2_with fail
  have hF := ls_func A.out HP.out HXF.out (by decide) hI.out.2.1 (h32 := 0) (by omega) (by decide) (by decide) (by decide)
  rw [hfunc1_e, hfunc1_s] at hF
  refine hF.mono ?_
  clear hF
  rintro e w18 ⟨rfl, S18, h18, o18, r18⟩
  replace A := ahid h18
  clear h18 o18 r18
  clear kp0 kp1 kp2 kx0 kx1 kx2 kx3
  obtain ⟨kp0, kp1, kp2, kx0, kx1, kx2, kx3⟩ := HKC.out w18 A.out.bel
  go_wp2_with fail
  have hF := ls_func A.out HP.out HXF.out (by decide) hI.out.1 (h32 := 0) (by omega) (by decide) (by decide) (by decide)
  rw [hfunc2_e, hfunc2_s] at hF
  refine hF.mono ?_
  clear hF
  rintro e w19 ⟨rfl, S19, h19, o19, r19⟩
  replace A := ahid h19
  clear h19 o19 r19
  clear kp0 kp1 kp2 kx0 kx1 kx2 kx3
  obtain ⟨kp0, kp1, kp2, kx0, kx1, kx2, kx3⟩ := HKC.out w19 A.out.bel
  go_wp2_with fail
  have hF := stub_any A.out HP.out (th := 2) hI.out.2.2 (by decide) (by decide)
  rw [(hstub2 hLa hMa).1, (hstub2 hLa hMa).2.1, (hstub2 hLa hMa).2.2] at hF
  refine hF.mono ?_
  clear hF
  rintro e w20 ⟨rfl, S20, h20, o20, r20⟩
  have HE := ahid (HB.out.trans (h20.bel.mono HB.out.size))
  clear h20 o20 r20
  clear kp0 kp1 kp2 kx0 kx1 kx2 kx3
  go_wp2_with fail
  go_ret
  exact ⟨rfl, HE.out⟩
end Go.Proofs.YtfbbodaapkfbdaaDoor
/- The walks of muntinref26.number and muntinlaw26.mark: a number in tens. -/
namespace Go.Proofs.YtfbbodaapkfbdaaDoor
open Go.RowKit
set_option linter.unusedVariables false
set_option linter.unusedSimpArgs false
theorem lconv1 (w : World) (b : UInt8) (n : Int) (hn : n = b.toNat) : (convert 94 9 (.slice (some ⟨w.heap.size, 0, none⟩) 1 1)).run Tryd.prog (w.alloc (.cells #[.int .u8 n] 5)) = .ok (.string ⟨#[b]⟩) (w.alloc (.cells #[.int .u8 n] 5)) := by
  subst hn
  refine run_convert_bytes_back (P := Tryd.prog) (w.alloc (.cells #[.int .u8 b.toNat] 5)) 94 9 5 ⟨w.heap.size, 0, none⟩ 1 [b] Tryd.underlying94 Tryd.underlying5 Tryd.underlying9 (fun j hj => ?_)
  obtain rfl : j = 0 := by simpa using hj
  have : (⟨w.heap.size, 0, none⟩ : Addr).add 0 = ⟨w.heap.size, 0, none⟩ := rfl
  rw [this]
  simp only [World.cell?, heap_alloc_new w _]
  simp
theorem dec_small {n : Nat} (h : n < 10) : Lib.decDigits n = [UInt8.ofNat (48 + n)] := Lib.decDigits_one h
theorem dec_great {n : Nat} (h : ¬ n < 10) : Lib.decDigits n = Lib.decDigits (n / 10) ++ Lib.decDigits (n % 10) := by
  rw [Lib.decDigits_one (i := n % 10) (by omega)]
  conv => lhs; rw [Lib.decDigits]
  rw [dif_neg h]
theorem ofnat_val {n : Nat} (h : n < 10) : 48 + (n : Int) = ((UInt8.ofNat (48 + n)).toNat : Int) := by
  have : (UInt8.ofNat (48 + n)).toNat = 48 + n := by
    simp only [UInt8.toNat_ofNat']
    omega
  rw [this]; omega
set_option maxRecDepth 100000 in
theorem number_small (n : Nat) (hn : n < 10) (w : World) : Calls Tryd.prog 40 #[.int .i64 n] w fun e w' => e = .returned (.string (nameB' (decL n))) ∧ Below w.heap.size w w' := by
  have hc := lconv1 w (UInt8.ofNat (48 + n)) (48 + n) (ofnat_val hn)
  have e : (⟨#[UInt8.ofNat (48 + n)]⟩ : ByteArray) = nameB' (decL n) := by unfold decL; rw [dec_small hn]; rfl
  rw [← e]
  have hw : IntKind.u8.wrap (48 + (n : Int)) = 48 + n := by rw [IntKind.wrap_u8]; omega
  clear e
  generalize UInt8.ofNat (48 + n) = u at hc ⊢
  go_enter Tryd.func40, Tryd.ntmps40
  go_wp2_with fail
  go_ret
  exact ⟨rfl, (Below.refl _ w).alloc (Nat.le_refl _) _⟩
set_option maxRecDepth 100000 in
theorem number_any (n : Nat) : ∀ (hn : n < 9223372036854775808) (w : World), Calls Tryd.prog 40 #[.int .i64 n] w fun e w' => e = .returned (.string (nameB' (decL n))) ∧ Below w.heap.size w w' := by
  induction n using Nat.strongRecOn with
  | ind n ih =>
    intro hn w
    by_cases h : n < 10
    · exact number_small n h w
    · have e : nameB' (decL (n / 10)) ++ nameB' (decL (n % 10)) = nameB' (decL n) := by
        rw [nameB_add]; unfold decL; rw [← dec_great h]
      rw [← e]
      obtain ⟨a, ha⟩ : ∃ a, a = n / 10 := ⟨_, rfl⟩
      obtain ⟨b, hb⟩ : ∃ b, b = n % 10 := ⟨_, rfl⟩
      rw [← ha, ← hb]
      have HA := ahid (ih a (by omega) (by omega) w)
      have HB := ahid (fun w' => number_small b (by omega) w')
      have l1 := decl_len a (by omega)
      have l2 := decl_len b (by omega)
      have hd : ¬ (9223372036854775807 < (nameB' (decL a)).size + (nameB' (decL b)).size) := by
        rw [nameB_size, nameB_size]; unfold decL; omega
      have q1 : (n : Int) / 10 = (a : Int) := by omega
      have q2 : (n : Int) % 10 = (b : Int) := by omega
      have h10 : (10 : Int) ≤ (n : Int) := by omega
      clear ih l1 l2 e ha hb
      generalize nameB' (decL a) = A at *
      generalize nameB' (decL b) = B at *
      go_enter Tryd.func40, Tryd.ntmps40
      go_wp2_with fail
      refine HA.out.mono ?_
      rintro e1 w1 ⟨rfl, b1⟩
      go_wp2_with fail
      refine (HB.out w1).mono ?_
      rintro e1 w2 ⟨rfl, b2⟩
      go_wp2_with fail
      all_goals go_ret
      exact ⟨rfl, b1.trans (b2.mono b1.size)⟩
set_option maxRecDepth 100000 in
theorem lmark_of (f : Nat) (hf : f < 9223372036854775808) (w : World) : Calls Tryd.prog 11 #[.int .i64 f] w fun e w' => e = .returned (.string (nameB' (fNameL f))) ∧ Below w.heap.size w w' := by
  have hlen := decl_len f hf
  have HF : Hid (∀ (k : Nat) (tl : List UInt8), k < 10 → Lib.decDigits k ++ tl = Lib.decDigits f → nameB' [102] ++ nameB' [UInt8.ofNat (48 + k)] ++ nameB' tl = nameB' (fNameL f)) := ahid fun k tl hk h => by
    rw [nameB_add, nameB_add]; unfold fNameL decL; rw [← h, dec_small hk]; rfl
  generalize nameB' (fNameL f) = R at HF ⊢
  go_enter Tryd.func11, Tryd.ntmps11
  go_wp2_with fail
  go_loopw [0, 3] (fun a s wr => ∃ (k : Nat) (tl : List UInt8), k ≤ f ∧ a = .int .i64 k ∧ s = .string (nameB' tl) ∧ Lib.decDigits k ++ tl = Lib.decDigits f ∧ Below w.heap.size w wr) (fun a _ _ => (intOf a).toNat)
  case atStart => exact ⟨f, [], Nat.le_refl _, rfl, rfl, by simp, Below.refl _ _⟩
  case round =>
    obtain ⟨k, tl, hk, rfl, rfl, ht, hb⟩ := hrel
    have HT := ahid ht
    have HBR := ahid hb
    have htl : tl.length ≤ 20 := by
      have := congrArg List.length ht
      rw [List.length_append] at this; omega
    have hsz : (nameB' tl).size ≤ 20 := by rw [nameB_size]; exact htl
    clear ht hb
    by_cases h : k < 10
    · have hc := lconv1 wr (UInt8.ofNat (48 + k)) (48 + k) (ofnat_val h)
      have hw : IntKind.u8.wrap (48 + (k : Int)) = 48 + k := by rw [IntKind.wrap_u8]; omega
      have hR := HF.out k tl h HT.out
      have hlt : ¬ (10 : Int) ≤ (k : Int) := by omega
      have hd : ¬ (9223372036854775807 < 2 + (nameB' tl).size) := by omega
      have hd2 : ¬ (9223372036854775807 < 1 + 1 + (nameB' tl).size) := by omega
      generalize UInt8.ofNat (48 + k) = u at hc hR
      generalize nameB' tl = T at *
      have HR := ahid hR
      clear hR
      go_wp2_with fail
      go_ret
      exact ⟨lret_val (congrArg Value.string HR.out), HBR.out.alloc HBR.out.size _⟩
    · obtain ⟨a, ha⟩ : ∃ a, a = k / 10 := ⟨_, rfl⟩
      obtain ⟨b, hb⟩ : ∃ b, b = k % 10 := ⟨_, rfl⟩
      have hm : b < 10 := by omega
      have hc := lconv1 wr (UInt8.ofNat (48 + b)) (48 + (b : Int)) (ofnat_val hm)
      have q1 : (k : Int) / 10 = (a : Int) := by omega
      have q2 : (k : Int) % 10 = (b : Int) := by omega
      have hw : IntKind.u8.wrap (48 + (b : Int)) = 48 + (b : Int) := by rw [IntKind.wrap_u8]; omega
      have h10 : (10 : Int) ≤ (k : Int) := by omega
      have HTL := ahid (show Lib.decDigits a ++ (UInt8.ofNat (48 + b) :: tl) = Lib.decDigits f by
        rw [← HT.out, dec_great h, ← ha, ← hb, dec_small hm]; simp)
      have HEQ := ahid (show (⟨#[UInt8.ofNat (48 + b)]⟩ : ByteArray) ++ nameB' tl = nameB' (UInt8.ofNat (48 + b) :: tl) from nameB_add [_] tl)
      have hd : ¬ (9223372036854775807 < 1 + (nameB' tl).size) := by omega
      have hak : a < k := by omega
      clear ha hb
      generalize UInt8.ofNat (48 + b) = u at hc HTL HEQ
      go_wp2_with fail
      go_round
      case rel => exact ⟨a, u :: tl, by omega, rfl, congrArg Value.string HEQ.out, HTL.out, HBR.out.alloc HBR.out.size _⟩
      case measure => simp [intOf]; omega
end Go.Proofs.YtfbbodaapkfbdaaDoor
/- The walk of muntinlaw26.great (which answer does not matter where both ways are true). -/
namespace Go.Proofs.YtfbbodaapkfbdaaDoor
open Go.RowKit
set_option linter.unusedVariables false
set_option linter.unusedSimpArgs false
set_option maxRecDepth 100000 in
set_option maxHeartbeats 4000000 in
theorem great_none {W w : World} (hb : Below W.heap.size W w) {pv : Value} {p : Prg} (hp : PrgIn W pv p) :
    Calls Tryd.prog 6 #[pv, .agg #[.bool false, .int .i64 0, .slice none 0 0, .slice none 0 0]] w fun e w' => (∃ b : Bool, e = .returned (.bool b)) ∧ Below w.heap.size w w' := by
  obtain ⟨⟨tv, fv, rfl, hth, hfn⟩, hpb⟩ := hp
  obtain ⟨pt, ct, rfl⟩ := hth.shape
  obtain ⟨pf, cf, bf, of, rfl, hl, HF⟩ := hfn.lhids
  obtain ⟨w1, hw1⟩ : ∃ w1, w1 = (w.alloc (.cells #[.int .i64 p.heap, .slice pt p.threads.length ct, .slice pf p.funcs.length cf] 25)).alloc (.cells #[.bool false, .int .i64 0, .slice none 0 0, .slice none 0 0] 29) := ⟨_, rfl⟩
  have hb1 : Below w.heap.size w w1 := by rw [hw1]; exact ((Below.refl _ w).alloc (Nat.le_refl _) _).alloc (by simp [go_sem]) _
  have p2 : w1.cell? ⟨w.heap.size, 2, none⟩ = some (.slice pf p.funcs.length cf) := by rw [hw1]; simp [go_sem]
  have x1 : w1.cell? ⟨w.heap.size + 1, 1, none⟩ = some (.int .i64 0) := by rw [hw1]; simp [go_sem]
  have x2 : w1.cell? ⟨w.heap.size + 1, 2, none⟩ = some (.slice none 0 0) := by rw [hw1]; simp [go_sem]
  have x3 : w1.cell? ⟨w.heap.size + 1, 3, none⟩ = some (.slice none 0 0) := by rw [hw1]; simp [go_sem]
  have HB := ahid hb1
  have HBW := ahid (hb.trans (hb1.mono hb.size))
  clear hb1 hb hth hfn hpb
  obtain ⟨nf, hnf⟩ : ∃ nf, nf = p.funcs.length := ⟨_, rfl⟩
  rw [← hnf] at p2 hl hw1 HF ⊢
  have HN := ahid hnf
  clear hnf
  go_enter Tryd.func6, Tryd.ntmps6
  go_wp2_with fail
  rw [← hw1]
  clear hw1
  go_loop [5, 6] (fun n i => ∃ (m : Int) (k : Nat), n = .int .i64 m ∧ i = .int .i64 k ∧ k ≤ nf) (fun _ i => nf - (intOf i).toNat)
  case atStart => exact ⟨_, 0, rfl, rfl, Nat.zero_le _⟩
  case round =>
    obtain ⟨m, k, rfl, rfl, hk⟩ := hrel
    by_cases hlt : k < nf
    · have hkl : k < p.funcs.length := by have := HN.out; omega
      obtain rfl := HF.out.1 (by omega)
      obtain ⟨v, h3, hv⟩ := ((HF.out.2 k p.funcs[k] (List.getElem?_eq_getElem hkl)).keep HBW.out).c3
      obtain ⟨pb, cb, rfl⟩ := hv.shape
      clear hv
      generalize (p.funcs[k]).blocks.length = nb at h3
      have hkl' : (k : Int) < (nf : Int) := by omega
      have hk0 : (0 : Int) ≤ (k : Int) := by omega
      go_wp2_with fail
      go_round
      case rel => exact ⟨_, k + 1, rfl, by go_num, by omega⟩
      case measure => simp [intOf]; omega
    · go_wp2_with fail
      refine wp_loop_rounds 1 ?_
      rw [rounds_succ]
      go_wp2_with fail
      all_goals go_ret
      all_goals first
        | exact ⟨⟨_, rfl⟩, HB.out⟩
        | exact ⟨.inr rfl, HB.out⟩
        | exact ⟨.inl rfl, HB.out⟩
end Go.Proofs.YtfbbodaapkfbdaaDoor
/- The walks of muntinref26.Stub: threads that there are not. -/
namespace Go.Proofs.YtfbbodaapkfbdaaDoor
open Go.RowKit
set_option linter.unusedVariables false
set_option linter.unusedSimpArgs false
theorem VRow.two {w : World} {g : Nat} {t : TypeId} {a b : Value} (h : VRow w g t [a, b]) (x y : Value) : VRow ((w.setCell ⟨g, 0, none⟩ x).setCell ⟨g, 1, none⟩ y) g t [x, y] := (h.set (k := 0) (by simp) x).set (k := 1) (by simp) y
theorem rnum_any {op rd rs n : Int} (h3 : -2147483648 ≤ n ∧ n < 2147483648) (w : World) :
    Calls Tryd.prog 43 #[.int .u8 op, .int .u8 rd, .int .u8 rs, .int .i64 n] w fun e w' => e = .returned (numI op rd rs n).agg ∧ Below w.heap.size w w' := by
  have w3 : wrap32 n = n := by unfold wrap32; omega
  go_enter Tryd.func43, Tryd.ntmps43
  go_wp2_with fail
  refine bodyPost_ret (v := (numI op rd rs n).agg) (by simp [results, Tryd.results43, go_sem, numI]; try rfl) rfl ?_
  exact ⟨rfl, (Below.refl _ w).alloc (Nat.le_refl _) _⟩
set_option maxRecDepth 100000 in
set_option maxHeartbeats 1000000 in
theorem rstub_neg {w : World} {pl pm pt pf : Option Addr} {nl cl nm cm nt ct nf cf : Nat} {heap th : Int} (hn : th < 0) :
    Calls Tryd.prog 17 #[.agg #[.slice pl nl cl, .slice pm nm cm], .agg #[.int .i64 heap, .slice pt nt ct, .slice pf nf cf], .int .i64 th] w fun e w' => e = .returned (.tuple #[.agg #[.slice pl nl cl, .slice pm nm cm], .int .i64 2]) ∧ Below w.heap.size w w' := by
  obtain ⟨w1, hw1⟩ : ∃ w1, w1 = ((w.alloc (.cells #[.slice pl nl cl, .slice pm nm cm] 60)).alloc (.cells #[.int .i64 heap, .slice pt nt ct, .slice pf nf cf] 25)).alloc (.cells #[.slice none 0 0, .slice none 0 0] 60) := ⟨_, rfl⟩
  have hb1 : Below w.heap.size w w1 := by rw [hw1]; exact (((Below.refl _ w).alloc (Nat.le_refl _) _).alloc (by simp [go_sem]) _).alloc (by simp [go_sem]; omega) _
  have a0 : w1.cell? ⟨w.heap.size, 0, none⟩ = some (.slice pl nl cl) := by rw [hw1]; simp [go_sem]
  have a1 : w1.cell? ⟨w.heap.size, 1, none⟩ = some (.slice pm nm cm) := by rw [hw1]; simp [go_sem]
  have p1 : w1.cell? ⟨w.heap.size + 1, 1, none⟩ = some (.slice pt nt ct) := by rw [hw1]; simp [go_sem]
  have p2 : w1.cell? ⟨w.heap.size + 1, 2, none⟩ = some (.slice pf nf cf) := by rw [hw1]; simp [go_sem]
  have vr : VRow w1 (w.heap.size + 1 + 1) 60 [.slice none 0 0, .slice none 0 0] := by
    rw [hw1]
    have h := VRow.fresh ((w.alloc (.cells #[.slice pl nl cl, .slice pm nm cm] 60)).alloc (.cells #[.int .i64 heap, .slice pt nt ct, .slice pf nf cf] 25)) 60 [.slice none 0 0, .slice none 0 0]
    have e : ((w.alloc (.cells #[.slice pl nl cl, .slice pm nm cm] 60)).alloc (.cells #[.int .i64 heap, .slice pt nt ct, .slice pf nf cf] 25)).heap.size = w.heap.size + 1 + 1 := by simp [go_sem]
    rw [e] at h
    exact h
  have r0 := vr.cell (k := 0) rfl
  have r1 := vr.cell (k := 1) rfl
  have z0 := vr.frozen 0
  have z1 := vr.frozen 1
  have HB := ahid hb1
  have HV := ahid vr
  clear hb1 vr
  have d1 : decide (th < 0) = true := decide_eq_true hn
  go_enter Tryd.func17, Tryd.ntmps17
  go_wp2_with fail
  rw [← hw1]
  clear hw1
  go_quiet (fail)
  go_wp2_with fail
  have HN := ahid ((show VRow (w1.drewN nq) (w.heap.size + 1 + 1) 60 [.slice none 0 0, .slice none 0 0] from HV.out).two (.slice pl nl cl) (.slice pm nm cm))
  have HE := ahid (show Below w.heap.size w (((w1.drewN nq).setCell ⟨w.heap.size + 1 + 1, 0, none⟩ (.slice pl nl cl)).setCell ⟨w.heap.size + 1 + 1, 1, none⟩ (.slice pm nm cm)) from ((ldrewN HB.out nq).setCell (p := ⟨w.heap.size + 1 + 1, 0, none⟩) (by show w.heap.size ≤ w.heap.size + 1 + 1; omega) _).setCell (p := ⟨w.heap.size + 1 + 1, 1, none⟩) (by show w.heap.size ≤ w.heap.size + 1 + 1; omega) _)
  clear a0 a1 p1 p2 r0 r1 z0 z1
  generalize ((w1.drewN nq).setCell ⟨w.heap.size + 1 + 1, 0, none⟩ (.slice pl nl cl)).setCell ⟨w.heap.size + 1 + 1, 1, none⟩ (.slice pm nm cm) = W9 at *
  have hr0 := HN.out.cell (k := 0) rfl
  have hr1 := HN.out.cell (k := 1) rfl
  refine bodyPost_ret (v := .tuple #[.agg #[.slice pl nl cl, .slice pm nm cm], .int .i64 2]) (by simp [results, Tryd.results17, go_sem, hr0, hr1]; try rfl) rfl ?_
  exact ⟨rfl, HE.out⟩
set_option maxRecDepth 100000 in
set_option maxHeartbeats 1000000 in
theorem rstub_far {w : World} {pl pm pt pf : Option Addr} {nl cl nm cm nt ct nf cf : Nat} {heap th : Int} (h0 : 0 ≤ th) (hn : (nt : Int) ≤ th) :
    Calls Tryd.prog 17 #[.agg #[.slice pl nl cl, .slice pm nm cm], .agg #[.int .i64 heap, .slice pt nt ct, .slice pf nf cf], .int .i64 th] w fun e w' => e = .returned (.tuple #[.agg #[.slice pl nl cl, .slice pm nm cm], .int .i64 2]) ∧ Below w.heap.size w w' := by
  obtain ⟨w1, hw1⟩ : ∃ w1, w1 = ((w.alloc (.cells #[.slice pl nl cl, .slice pm nm cm] 60)).alloc (.cells #[.int .i64 heap, .slice pt nt ct, .slice pf nf cf] 25)).alloc (.cells #[.slice none 0 0, .slice none 0 0] 60) := ⟨_, rfl⟩
  have hb1 : Below w.heap.size w w1 := by rw [hw1]; exact (((Below.refl _ w).alloc (Nat.le_refl _) _).alloc (by simp [go_sem]) _).alloc (by simp [go_sem]; omega) _
  have a0 : w1.cell? ⟨w.heap.size, 0, none⟩ = some (.slice pl nl cl) := by rw [hw1]; simp [go_sem]
  have a1 : w1.cell? ⟨w.heap.size, 1, none⟩ = some (.slice pm nm cm) := by rw [hw1]; simp [go_sem]
  have p1 : w1.cell? ⟨w.heap.size + 1, 1, none⟩ = some (.slice pt nt ct) := by rw [hw1]; simp [go_sem]
  have p2 : w1.cell? ⟨w.heap.size + 1, 2, none⟩ = some (.slice pf nf cf) := by rw [hw1]; simp [go_sem]
  have vr : VRow w1 (w.heap.size + 1 + 1) 60 [.slice none 0 0, .slice none 0 0] := by
    rw [hw1]
    have h := VRow.fresh ((w.alloc (.cells #[.slice pl nl cl, .slice pm nm cm] 60)).alloc (.cells #[.int .i64 heap, .slice pt nt ct, .slice pf nf cf] 25)) 60 [.slice none 0 0, .slice none 0 0]
    have e : ((w.alloc (.cells #[.slice pl nl cl, .slice pm nm cm] 60)).alloc (.cells #[.int .i64 heap, .slice pt nt ct, .slice pf nf cf] 25)).heap.size = w.heap.size + 1 + 1 := by simp [go_sem]
    rw [e] at h
    exact h
  have r0 := vr.cell (k := 0) rfl
  have r1 := vr.cell (k := 1) rfl
  have z0 := vr.frozen 0
  have z1 := vr.frozen 1
  have HB := ahid hb1
  have HV := ahid vr
  clear hb1 vr
  have d1 : decide (th < 0) = false := decide_eq_false (by omega)
  have d2 : decide ((nt : Int) ≤ th) = true := decide_eq_true hn
  go_enter Tryd.func17, Tryd.ntmps17
  go_wp2_with fail
  rw [← hw1]
  clear hw1
  go_quiet (fail)
  go_wp2_with fail
  have HN := ahid ((show VRow (w1.drewN nq) (w.heap.size + 1 + 1) 60 [.slice none 0 0, .slice none 0 0] from HV.out).two (.slice pl nl cl) (.slice pm nm cm))
  have HE := ahid (show Below w.heap.size w (((w1.drewN nq).setCell ⟨w.heap.size + 1 + 1, 0, none⟩ (.slice pl nl cl)).setCell ⟨w.heap.size + 1 + 1, 1, none⟩ (.slice pm nm cm)) from ((ldrewN HB.out nq).setCell (p := ⟨w.heap.size + 1 + 1, 0, none⟩) (by show w.heap.size ≤ w.heap.size + 1 + 1; omega) _).setCell (p := ⟨w.heap.size + 1 + 1, 1, none⟩) (by show w.heap.size ≤ w.heap.size + 1 + 1; omega) _)
  clear a0 a1 p1 p2 r0 r1 z0 z1
  generalize ((w1.drewN nq).setCell ⟨w.heap.size + 1 + 1, 0, none⟩ (.slice pl nl cl)).setCell ⟨w.heap.size + 1 + 1, 1, none⟩ (.slice pm nm cm) = W9 at *
  have hr0 := HN.out.cell (k := 0) rfl
  have hr1 := HN.out.cell (k := 1) rfl
  refine bodyPost_ret (v := .tuple #[.agg #[.slice pl nl cl, .slice pm nm cm], .int .i64 2]) (by simp [results, Tryd.results17, go_sem, hr0, hr1]; try rfl) rfl ?_
  exact ⟨rfl, HE.out⟩
set_option maxRecDepth 100000 in
set_option maxHeartbeats 1000000 in
theorem rstub_low {w : World} {pl pm pt pf : Option Addr} {nl cl nm cm nt ct nf cf : Nat} {heap th : Int} {bt ot : Nat} {n : Nat} {t : Int} (hth : th = n) (hnt : n < nt) (hpt : pt = some ⟨bt, ot, none⟩) (ht : w.cell? ⟨bt, ot + n, none⟩ = some (.int .i64 t)) (hn : t < 0) :
    Calls Tryd.prog 17 #[.agg #[.slice pl nl cl, .slice pm nm cm], .agg #[.int .i64 heap, .slice pt nt ct, .slice pf nf cf], .int .i64 th] w fun e w' => e = .returned (.tuple #[.agg #[.slice pl nl cl, .slice pm nm cm], .int .i64 2]) ∧ Below w.heap.size w w' := by
  obtain ⟨w1, hw1⟩ : ∃ w1, w1 = ((w.alloc (.cells #[.slice pl nl cl, .slice pm nm cm] 60)).alloc (.cells #[.int .i64 heap, .slice pt nt ct, .slice pf nf cf] 25)).alloc (.cells #[.slice none 0 0, .slice none 0 0] 60) := ⟨_, rfl⟩
  have hb1 : Below w.heap.size w w1 := by rw [hw1]; exact (((Below.refl _ w).alloc (Nat.le_refl _) _).alloc (by simp [go_sem]) _).alloc (by simp [go_sem]; omega) _
  have a0 : w1.cell? ⟨w.heap.size, 0, none⟩ = some (.slice pl nl cl) := by rw [hw1]; simp [go_sem]
  have a1 : w1.cell? ⟨w.heap.size, 1, none⟩ = some (.slice pm nm cm) := by rw [hw1]; simp [go_sem]
  have p1 : w1.cell? ⟨w.heap.size + 1, 1, none⟩ = some (.slice pt nt ct) := by rw [hw1]; simp [go_sem]
  have p2 : w1.cell? ⟨w.heap.size + 1, 2, none⟩ = some (.slice pf nf cf) := by rw [hw1]; simp [go_sem]
  have vr : VRow w1 (w.heap.size + 1 + 1) 60 [.slice none 0 0, .slice none 0 0] := by
    rw [hw1]
    have h := VRow.fresh ((w.alloc (.cells #[.slice pl nl cl, .slice pm nm cm] 60)).alloc (.cells #[.int .i64 heap, .slice pt nt ct, .slice pf nf cf] 25)) 60 [.slice none 0 0, .slice none 0 0]
    have e : ((w.alloc (.cells #[.slice pl nl cl, .slice pm nm cm] 60)).alloc (.cells #[.int .i64 heap, .slice pt nt ct, .slice pf nf cf] 25)).heap.size = w.heap.size + 1 + 1 := by simp [go_sem]
    rw [e] at h
    exact h
  have r0 := vr.cell (k := 0) rfl
  have r1 := vr.cell (k := 1) rfl
  have z0 := vr.frozen 0
  have z1 := vr.frozen 1
  subst hth hpt
  replace ht := (hb1.cell (World.block_lt_of_cell? _ _ ht)).trans ht
  have HB := ahid hb1
  have HV := ahid vr
  clear hb1 vr
  have d1 : decide ((n : Int) < 0) = false := decide_eq_false (by omega)
  have d2 : decide ((nt : Int) ≤ (n : Int)) = false := decide_eq_false (by omega)
  have n0 : (0 : Int) ≤ (n : Int) := by omega
  have n1 : (n : Int) < (nt : Int) := by omega
  have d3 : decide (t < 0) = true := decide_eq_true hn
  have d5 : ¬ (n : Int) < 0 := by omega
  have d6 : ¬ nt ≤ n := by omega
  have d7 : decide (nt ≤ n) = false := decide_eq_false d6
  go_enter Tryd.func17, Tryd.ntmps17
  go_wp2_with fail
  rw [← hw1]
  clear hw1
  go_quiet (fail)
  go_wp2_with fail
  have HN := ahid ((show VRow (w1.drewN nq) (w.heap.size + 1 + 1) 60 [.slice none 0 0, .slice none 0 0] from HV.out).two (.slice pl nl cl) (.slice pm nm cm))
  have HE := ahid (show Below w.heap.size w (((w1.drewN nq).setCell ⟨w.heap.size + 1 + 1, 0, none⟩ (.slice pl nl cl)).setCell ⟨w.heap.size + 1 + 1, 1, none⟩ (.slice pm nm cm)) from ((ldrewN HB.out nq).setCell (p := ⟨w.heap.size + 1 + 1, 0, none⟩) (by show w.heap.size ≤ w.heap.size + 1 + 1; omega) _).setCell (p := ⟨w.heap.size + 1 + 1, 1, none⟩) (by show w.heap.size ≤ w.heap.size + 1 + 1; omega) _)
  clear a0 a1 p1 p2 r0 r1 z0 z1
  generalize ((w1.drewN nq).setCell ⟨w.heap.size + 1 + 1, 0, none⟩ (.slice pl nl cl)).setCell ⟨w.heap.size + 1 + 1, 1, none⟩ (.slice pm nm cm) = W9 at *
  have hr0 := HN.out.cell (k := 0) rfl
  have hr1 := HN.out.cell (k := 1) rfl
  refine bodyPost_ret (v := .tuple #[.agg #[.slice pl nl cl, .slice pm nm cm], .int .i64 2]) (by simp [results, Tryd.results17, go_sem, hr0, hr1]; try rfl) rfl ?_
  exact ⟨rfl, HE.out⟩
set_option maxRecDepth 100000 in
set_option maxHeartbeats 1000000 in
theorem rstub_high {w : World} {pl pm pt pf : Option Addr} {nl cl nm cm nt ct nf cf : Nat} {heap th : Int} {bt ot : Nat} {n : Nat} {t : Int} (hth : th = n) (hnt : n < nt) (hpt : pt = some ⟨bt, ot, none⟩) (ht : w.cell? ⟨bt, ot + n, none⟩ = some (.int .i64 t)) (h0 : 0 ≤ t) (hn : (nf : Int) ≤ t) :
    Calls Tryd.prog 17 #[.agg #[.slice pl nl cl, .slice pm nm cm], .agg #[.int .i64 heap, .slice pt nt ct, .slice pf nf cf], .int .i64 th] w fun e w' => e = .returned (.tuple #[.agg #[.slice pl nl cl, .slice pm nm cm], .int .i64 2]) ∧ Below w.heap.size w w' := by
  obtain ⟨w1, hw1⟩ : ∃ w1, w1 = ((w.alloc (.cells #[.slice pl nl cl, .slice pm nm cm] 60)).alloc (.cells #[.int .i64 heap, .slice pt nt ct, .slice pf nf cf] 25)).alloc (.cells #[.slice none 0 0, .slice none 0 0] 60) := ⟨_, rfl⟩
  have hb1 : Below w.heap.size w w1 := by rw [hw1]; exact (((Below.refl _ w).alloc (Nat.le_refl _) _).alloc (by simp [go_sem]) _).alloc (by simp [go_sem]; omega) _
  have a0 : w1.cell? ⟨w.heap.size, 0, none⟩ = some (.slice pl nl cl) := by rw [hw1]; simp [go_sem]
  have a1 : w1.cell? ⟨w.heap.size, 1, none⟩ = some (.slice pm nm cm) := by rw [hw1]; simp [go_sem]
  have p1 : w1.cell? ⟨w.heap.size + 1, 1, none⟩ = some (.slice pt nt ct) := by rw [hw1]; simp [go_sem]
  have p2 : w1.cell? ⟨w.heap.size + 1, 2, none⟩ = some (.slice pf nf cf) := by rw [hw1]; simp [go_sem]
  have vr : VRow w1 (w.heap.size + 1 + 1) 60 [.slice none 0 0, .slice none 0 0] := by
    rw [hw1]
    have h := VRow.fresh ((w.alloc (.cells #[.slice pl nl cl, .slice pm nm cm] 60)).alloc (.cells #[.int .i64 heap, .slice pt nt ct, .slice pf nf cf] 25)) 60 [.slice none 0 0, .slice none 0 0]
    have e : ((w.alloc (.cells #[.slice pl nl cl, .slice pm nm cm] 60)).alloc (.cells #[.int .i64 heap, .slice pt nt ct, .slice pf nf cf] 25)).heap.size = w.heap.size + 1 + 1 := by simp [go_sem]
    rw [e] at h
    exact h
  have r0 := vr.cell (k := 0) rfl
  have r1 := vr.cell (k := 1) rfl
  have z0 := vr.frozen 0
  have z1 := vr.frozen 1
  subst hth hpt
  replace ht := (hb1.cell (World.block_lt_of_cell? _ _ ht)).trans ht
  have HB := ahid hb1
  have HV := ahid vr
  clear hb1 vr
  have d1 : decide ((n : Int) < 0) = false := decide_eq_false (by omega)
  have d2 : decide ((nt : Int) ≤ (n : Int)) = false := decide_eq_false (by omega)
  have n0 : (0 : Int) ≤ (n : Int) := by omega
  have n1 : (n : Int) < (nt : Int) := by omega
  have d3 : decide (t < 0) = false := decide_eq_false (by omega)
  have d4 : decide ((nf : Int) ≤ t) = true := decide_eq_true hn
  go_enter Tryd.func17, Tryd.ntmps17
  go_wp2_with fail
  rw [← hw1]
  clear hw1
  go_quiet (fail)
  go_wp2_with fail
  have HN := ahid ((show VRow (w1.drewN nq) (w.heap.size + 1 + 1) 60 [.slice none 0 0, .slice none 0 0] from HV.out).two (.slice pl nl cl) (.slice pm nm cm))
  have HE := ahid (show Below w.heap.size w (((w1.drewN nq).setCell ⟨w.heap.size + 1 + 1, 0, none⟩ (.slice pl nl cl)).setCell ⟨w.heap.size + 1 + 1, 1, none⟩ (.slice pm nm cm)) from ((ldrewN HB.out nq).setCell (p := ⟨w.heap.size + 1 + 1, 0, none⟩) (by show w.heap.size ≤ w.heap.size + 1 + 1; omega) _).setCell (p := ⟨w.heap.size + 1 + 1, 1, none⟩) (by show w.heap.size ≤ w.heap.size + 1 + 1; omega) _)
  clear a0 a1 p1 p2 r0 r1 z0 z1
  generalize ((w1.drewN nq).setCell ⟨w.heap.size + 1 + 1, 0, none⟩ (.slice pl nl cl)).setCell ⟨w.heap.size + 1 + 1, 1, none⟩ (.slice pm nm cm) = W9 at *
  have hr0 := HN.out.cell (k := 0) rfl
  have hr1 := HN.out.cell (k := 1) rfl
  refine bodyPost_ret (v := .tuple #[.agg #[.slice pl nl cl, .slice pm nm cm], .int .i64 2]) (by simp [results, Tryd.results17, go_sem, hr0, hr1]; try rfl) rfl ?_
  exact ⟨rfl, HE.out⟩
end Go.Proofs.YtfbbodaapkfbdaaDoor
/- The walk of muntinref26.Stub: the way that puts. -/
namespace Go.Proofs.YtfbbodaapkfbdaaDoor
open Go.RowKit
set_option linter.unusedVariables false
set_option linter.unusedSimpArgs false
set_option maxRecDepth 100000 in
set_option maxHeartbeats 2000000 in
theorem rstub_old {w : World} {pl pm pt pf : Option Addr} {nl cl nm cm nt ct nf cf : Nat} {heap : Int} {bt ot n f : Nat} {M : List (List UInt8 × Int)} (hnt : n < nt) (hn63 : n < 9223372036854775808) (hpt : pt = some ⟨bt, ot, none⟩) (ht : w.cell? ⟨bt, ot + n, none⟩ = some (.int .i64 f)) (hf : f < nf) (hmv : MarksAt w (.slice pm nm cm) M) (hML : M.length < 4294967296) (hE : markE M (nameB' (tNameL n)) = 9) :
    Calls Tryd.prog 17 #[.agg #[.slice pl nl cl, .slice pm nm cm], .agg #[.int .i64 heap, .slice pt nt ct, .slice pf nf cf], .int .i64 n] w fun e w' => e = .returned (.tuple #[.agg #[.slice pl nl cl, .slice pm nm cm], .int .i64 9]) ∧ Below w.heap.size w w' := by
  obtain ⟨w1, hw1⟩ : ∃ w1, w1 = ((w.alloc (.cells #[.slice pl nl cl, .slice pm nm cm] 60)).alloc (.cells #[.int .i64 heap, .slice pt nt ct, .slice pf nf cf] 25)).alloc (.cells #[.slice none 0 0, .slice none 0 0] 60) := ⟨_, rfl⟩
  have hb1 : Below w.heap.size w w1 := by rw [hw1]; exact (((Below.refl _ w).alloc (Nat.le_refl _) _).alloc (by simp [go_sem]) _).alloc (by simp [go_sem]; omega) _
  have a0 : w1.cell? ⟨w.heap.size, 0, none⟩ = some (.slice pl nl cl) := by rw [hw1]; simp [go_sem]
  have a1 : w1.cell? ⟨w.heap.size, 1, none⟩ = some (.slice pm nm cm) := by rw [hw1]; simp [go_sem]
  have p1 : w1.cell? ⟨w.heap.size + 1, 1, none⟩ = some (.slice pt nt ct) := by rw [hw1]; simp [go_sem]
  have p2 : w1.cell? ⟨w.heap.size + 1, 2, none⟩ = some (.slice pf nf cf) := by rw [hw1]; simp [go_sem]
  have vr : VRow w1 (w.heap.size + 1 + 1) 60 [.slice none 0 0, .slice none 0 0] := by
    rw [hw1]
    have h := VRow.fresh ((w.alloc (.cells #[.slice pl nl cl, .slice pm nm cm] 60)).alloc (.cells #[.int .i64 heap, .slice pt nt ct, .slice pf nf cf] 25)) 60 [.slice none 0 0, .slice none 0 0]
    have e : ((w.alloc (.cells #[.slice pl nl cl, .slice pm nm cm] 60)).alloc (.cells #[.int .i64 heap, .slice pt nt ct, .slice pf nf cf] 25)).heap.size = w.heap.size + 1 + 1 := by simp [go_sem]
    rw [e] at h
    exact h
  subst hpt
  replace ht := (hb1.cell (World.block_lt_of_cell? _ _ ht)).trans ht
  have HB := ahid hb1
  have HV := ahid vr
  have d1 : decide ((n : Int) < 0) = false := decide_eq_false (by omega)
  have d2 : decide ((nt : Int) ≤ (n : Int)) = false := decide_eq_false (by omega)
  have n0 : (0 : Int) ≤ (n : Int) := by omega
  have n1 : (n : Int) < (nt : Int) := by omega
  have d3 : decide ((f : Int) < 0) = false := decide_eq_false (by omega)
  have d4 : decide ((nf : Int) ≤ (f : Int)) = false := decide_eq_false (by omega)
  have d5 : ¬ (n : Int) < 0 := by omega
  have d6 : ¬ nt ≤ n := by omega
  have d7 : decide (nt ≤ n) = false := decide_eq_false d6
  have d8 : ¬ nf ≤ f := by omega
  have d9 : decide (nf ≤ f) = false := decide_eq_false d8
  have hlen := decl_len n hn63
  have hl1 : ¬ (9223372036854775807 < 1 + (nameB' (decL n)).size) := by rw [nameB_size]; unfold decL; omega
  have HN := ahid (fun w' => number_any n hn63 w')
  have HM := ahid (fun w' (hd : Below w1.heap.size w1 w') => rmark_any w' pl nl cl (.slice pm nm cm) M (show MarksAt w' (.slice pm nm cm) M from (RowC.keep hmv (hb1.trans (hd.mono hb1.size)))) (nameB' (tNameL n)) hML)
  have e3 : (⟨#[116]⟩ : ByteArray) ++ nameB' (decL n) = nameB' (tNameL n) := nameB_add [116] (decL n)
  have HE := ahid hE
  clear hb1 vr hmv hE
  generalize nameB' (tNameL n) = nmT at HM HE e3
  generalize nameB' (decL n) = nmD at *
  go_enter Tryd.func17, Tryd.ntmps17
  go_wp2_with fail
  rw [← hw1]
  clear hw1
  go_quiet (fail)
  have hbq := ldrewN (Below.refl w1.heap.size w1) nq
  have HV2 := ahid (show VRow (w1.drewN nq) (w.heap.size + 1 + 1) 60 [.slice none 0 0, .slice none 0 0] from HV.out)
  have HB2 := ahid (HB.out.trans (hbq.mono HB.out.size))
  have HM2 := ahid (fun w' (hd : Below (w1.drewN nq).heap.size (w1.drewN nq) w') => HM.out w' (hbq.trans (hd.mono hbq.size)))
  replace a0 : (w1.drewN nq).cell? ⟨w.heap.size, 0, none⟩ = some (.slice pl nl cl) := a0
  replace a1 : (w1.drewN nq).cell? ⟨w.heap.size, 1, none⟩ = some (.slice pm nm cm) := a1
  clear p1 p2 ht hbq HV HB HM
  generalize w1.drewN nq = w3 at *
  have HS := ahid (show ∀ w', Below w3.heap.size w3 w' → w'.cell? ⟨w.heap.size, 0, none⟩ = some (.slice pl nl cl) ∧ w'.cell? ⟨w.heap.size, 1, none⟩ = some (.slice pm nm cm) from fun w' hd => ⟨(hd.cell (World.block_lt_of_cell? _ _ a0)).trans a0, (hd.cell (World.block_lt_of_cell? _ _ a1)).trans a1⟩)
  go_wp2_with fail
  go_region_held3 (fun w' => w'.cell? ⟨w.heap.size, 0, none⟩ = some (.slice pl nl cl) ∧ w'.cell? ⟨w.heap.size, 1, none⟩ = some (.slice pm nm cm)) (first | (with_reducible exact ⟨a0, a1⟩) | (with_reducible exact HS.out _ hb5) | (with_reducible exact HS.out _ hb4) | (refine HS.out _ ?_; go_grown; done))
    (first | (go_at_call 40; (with_reducible refine (HN.out _).mono ?_); rintro e W4 ⟨rfl, hb40⟩; have hb4 : Below w3.heap.size w3 W4 := ((Below.refl w3.heap.size w3).drew).trans hb40; have hle4 : w3.heap.size ≤ W4.heap.size := hb4.size)
           | (go_at_call 40; (with_reducible refine (HN.out _).mono ?_); rintro e W4 ⟨rfl, hb40⟩; have hzz : VRow W4 w3.heap.size 60 [.slice none 0 0, .slice none 0 0] := (show VRow ((w3.alloc (.cells #[.slice none 0 0, .slice none 0 0] 60)).drew) w3.heap.size 60 [.slice none 0 0, .slice none 0 0] from VRow.fresh w3 60 [.slice none 0 0, .slice none 0 0]).below hb40; have hb4 : Below w3.heap.size w3 W4 := (((Below.refl w3.heap.size w3).alloc (Nat.le_refl _) _).drew).trans (hb40.mono (((Below.refl w3.heap.size w3).alloc (Nat.le_refl _) _).drew).size); have hle4 : w3.heap.size ≤ W4.heap.size := hb4.size)
           | (have _t := hzz; go_at_call 19; (with_reducible refine (HM2.out _ hb4).mono ?_); rintro e W5 ⟨mv', rfl, hm5, hb50, -⟩; obtain ⟨p5, n5, c5, rfl⟩ := hm5.shape; have hz := hzz.below hb50; have y0 := hz.cell (k := 0) rfl; have y1 := hz.cell (k := 1) rfl; have f0 := hz.frozen 0; have f1 := hz.frozen 1; have hb5 : Below w3.heap.size w3 W5 := hb4.trans (hb50.mono hle4); have hle5 : w3.heap.size ≤ W5.heap.size := hb5.size)
           | (go_at_call 19; (with_reducible refine (HM2.out _ hb4).mono ?_); rintro e W5 ⟨mv', rfl, hm5, hb50, -⟩; obtain ⟨p5, n5, c5, rfl⟩ := hm5.shape; have hb5 : Below w3.heap.size w3 W5 := hb4.trans (hb50.mono hle4); have hle5 : w3.heap.size ≤ W5.heap.size := hb5.size)
           | (go_at_call 19; (with_reducible refine (HM2.out _ (hb4.alloc hle4 _)).mono ?_); rintro e W5 ⟨mv', rfl, hm5, hb50, -⟩; obtain ⟨p5, n5, c5, rfl⟩ := hm5.shape; have hz := (VRow.fresh W4 60 [.slice none 0 0, .slice none 0 0]).below hb50; have y0 := hz.cell (k := 0) rfl; have y1 := hz.cell (k := 1) rfl; have f0 := hz.frozen 0; have f1 := hz.frozen 1; have hb5 : Below w3.heap.size w3 W5 := (hb4.alloc hle4 _).trans (hb50.mono (hb4.alloc hle4 _).size); have hle5 : w3.heap.size ≤ W5.heap.size := hb5.size))
  · have hq : VRow (W5.alloc (.cells #[.slice pl nl cl, .slice p5 n5 c5] 60)) W5.heap.size 60 [.slice pl nl cl, .slice p5 n5 c5] := VRow.fresh W5 60 [.slice pl nl cl, .slice p5 n5 c5]
    have hb6 : Below w3.heap.size w3 (W5.alloc (.cells #[.slice pl nl cl, .slice p5 n5 c5] 60)) := hb5.alloc hle5 _
    have HX := ahid (And.intro hq hb6)
    clear hq hb6
    generalize W5.alloc (.cells #[.slice pl nl cl, .slice p5 n5 c5] 60) = W6 at *
    obtain ⟨a0', a1'⟩ := HS.out _ HX.out.2
    have hv6 := HV2.out.below HX.out.2
    have r0 := hv6.cell (k := 0) rfl
    have r1 := hv6.cell (k := 1) rfl
    have z0 := hv6.frozen 0
    have z1 := hv6.frozen 1
    have HV6 := ahid hv6
    have HB6 := ahid (HB2.out.trans (HX.out.2.mono HB2.out.size))
    clear hv6 a0 a1 hm5
    rw [HE.out]
    go_wp2_with fail
    have HNN := ahid (HV6.out.two (.slice pl nl cl) (.slice pm nm cm))
    have HEE := ahid (show Below w.heap.size w ((W6.setCell ⟨w.heap.size + 1 + 1, 0, none⟩ (.slice pl nl cl)).setCell ⟨w.heap.size + 1 + 1, 1, none⟩ (.slice pm nm cm)) from (HB6.out.setCell (p := ⟨w.heap.size + 1 + 1, 0, none⟩) (by show w.heap.size ≤ w.heap.size + 1 + 1; omega) _).setCell (p := ⟨w.heap.size + 1 + 1, 1, none⟩) (by show w.heap.size ≤ w.heap.size + 1 + 1; omega) _)
    clear a0' a1' r0 r1 z0 z1
    generalize (W6.setCell ⟨w.heap.size + 1 + 1, 0, none⟩ (.slice pl nl cl)).setCell ⟨w.heap.size + 1 + 1, 1, none⟩ (.slice pm nm cm) = W9 at *
    have hr0 := HNN.out.cell (k := 0) rfl
    have hr1 := HNN.out.cell (k := 1) rfl
    refine bodyPost_ret (v := .tuple #[.agg #[.slice pl nl cl, .slice pm nm cm], .int .i64 9]) (by simp [results, Tryd.results17, go_sem, hr0, hr1]; try rfl) rfl ?_
    exact ⟨rfl, HEE.out⟩
  · have hq : VRow ((W5.setCell ⟨W4.heap.size, 0, none⟩ (.slice pl nl cl)).setCell ⟨W4.heap.size, 1, none⟩ (.slice p5 n5 c5)) W4.heap.size 60 [.slice pl nl cl, .slice p5 n5 c5] := hz.two _ _
    have hb6 : Below w3.heap.size w3 (((W5.setCell ⟨W4.heap.size, 0, none⟩ (.slice pl nl cl)).setCell ⟨W4.heap.size, 1, none⟩ (.slice p5 n5 c5))) := (hb5.setCell (p := ⟨W4.heap.size, 0, none⟩) hle4 _).setCell (p := ⟨W4.heap.size, 1, none⟩) hle4 _
    have HX := ahid (And.intro hq hb6)
    clear hq hb6
    generalize ((W5.setCell ⟨W4.heap.size, 0, none⟩ (.slice pl nl cl)).setCell ⟨W4.heap.size, 1, none⟩ (.slice p5 n5 c5)) = W6 at *
    obtain ⟨a0', a1'⟩ := HS.out _ HX.out.2
    have hv6 := HV2.out.below HX.out.2
    have r0 := hv6.cell (k := 0) rfl
    have r1 := hv6.cell (k := 1) rfl
    have z0 := hv6.frozen 0
    have z1 := hv6.frozen 1
    have HV6 := ahid hv6
    have HB6 := ahid (HB2.out.trans (HX.out.2.mono HB2.out.size))
    clear hv6 a0 a1 hm5
    rw [HE.out]
    go_wp2_with fail
    have HNN := ahid (HV6.out.two (.slice pl nl cl) (.slice pm nm cm))
    have HEE := ahid (show Below w.heap.size w ((W6.setCell ⟨w.heap.size + 1 + 1, 0, none⟩ (.slice pl nl cl)).setCell ⟨w.heap.size + 1 + 1, 1, none⟩ (.slice pm nm cm)) from (HB6.out.setCell (p := ⟨w.heap.size + 1 + 1, 0, none⟩) (by show w.heap.size ≤ w.heap.size + 1 + 1; omega) _).setCell (p := ⟨w.heap.size + 1 + 1, 1, none⟩) (by show w.heap.size ≤ w.heap.size + 1 + 1; omega) _)
    clear a0' a1' r0 r1 z0 z1
    generalize (W6.setCell ⟨w.heap.size + 1 + 1, 0, none⟩ (.slice pl nl cl)).setCell ⟨w.heap.size + 1 + 1, 1, none⟩ (.slice pm nm cm) = W9 at *
    have hr0 := HNN.out.cell (k := 0) rfl
    have hr1 := HNN.out.cell (k := 1) rfl
    refine bodyPost_ret (v := .tuple #[.agg #[.slice pl nl cl, .slice pm nm cm], .int .i64 9]) (by simp [results, Tryd.results17, go_sem, hr0, hr1]; try rfl) rfl ?_
    exact ⟨rfl, HEE.out⟩
  · have hq : VRow ((W5.setCell ⟨w3.heap.size, 0, none⟩ (.slice pl nl cl)).setCell ⟨w3.heap.size, 1, none⟩ (.slice p5 n5 c5)) w3.heap.size 60 [.slice pl nl cl, .slice p5 n5 c5] := hz.two _ _
    have hb6 : Below w3.heap.size w3 (((W5.setCell ⟨w3.heap.size, 0, none⟩ (.slice pl nl cl)).setCell ⟨w3.heap.size, 1, none⟩ (.slice p5 n5 c5))) := (hb5.setCell (p := ⟨w3.heap.size, 0, none⟩) (Nat.le_refl _) _).setCell (p := ⟨w3.heap.size, 1, none⟩) (Nat.le_refl _) _
    have HX := ahid (And.intro hq hb6)
    clear hq hb6
    generalize ((W5.setCell ⟨w3.heap.size, 0, none⟩ (.slice pl nl cl)).setCell ⟨w3.heap.size, 1, none⟩ (.slice p5 n5 c5)) = W6 at *
    obtain ⟨a0', a1'⟩ := HS.out _ HX.out.2
    have hv6 := HV2.out.below HX.out.2
    have r0 := hv6.cell (k := 0) rfl
    have r1 := hv6.cell (k := 1) rfl
    have z0 := hv6.frozen 0
    have z1 := hv6.frozen 1
    have HV6 := ahid hv6
    have HB6 := ahid (HB2.out.trans (HX.out.2.mono HB2.out.size))
    clear hv6 a0 a1 hm5
    rw [HE.out]
    go_wp2_with fail
    have HNN := ahid (HV6.out.two (.slice pl nl cl) (.slice pm nm cm))
    have HEE := ahid (show Below w.heap.size w ((W6.setCell ⟨w.heap.size + 1 + 1, 0, none⟩ (.slice pl nl cl)).setCell ⟨w.heap.size + 1 + 1, 1, none⟩ (.slice pm nm cm)) from (HB6.out.setCell (p := ⟨w.heap.size + 1 + 1, 0, none⟩) (by show w.heap.size ≤ w.heap.size + 1 + 1; omega) _).setCell (p := ⟨w.heap.size + 1 + 1, 1, none⟩) (by show w.heap.size ≤ w.heap.size + 1 + 1; omega) _)
    clear a0' a1' r0 r1 z0 z1
    generalize (W6.setCell ⟨w.heap.size + 1 + 1, 0, none⟩ (.slice pl nl cl)).setCell ⟨w.heap.size + 1 + 1, 1, none⟩ (.slice pm nm cm) = W9 at *
    have hr0 := HNN.out.cell (k := 0) rfl
    have hr1 := HNN.out.cell (k := 1) rfl
    refine bodyPost_ret (v := .tuple #[.agg #[.slice pl nl cl, .slice pm nm cm], .int .i64 9]) (by simp [results, Tryd.results17, go_sem, hr0, hr1]; try rfl) rfl ?_
    exact ⟨rfl, HEE.out⟩
end Go.Proofs.YtfbbodaapkfbdaaDoor
