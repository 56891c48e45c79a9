/- The walks of muntinlaw14.small, is, head. -/
import Derived.Test.YthahjnjkiljaaaaShapeRCheck
import Derived.Test.YthahjnjkiljaaaaShapeTell
import Derived.Test.YthahjnjkiljaaaaShapeGreat
namespace Go.Proofs.Ythahjnjkiljaaaa
open Go.RowKit Go.Deep
set_option linter.unusedVariables false
set_option linter.unusedSimpArgs false
theorem RowIn.one {α : Type} {At : World → Nat → Nat → α → Prop} {size bytes : Nat} {w : World} {g : Nat} {x : α} (hb : bytes ≤ 140737488352000) (h : At w g 0 x) : RowIn At size bytes w (.slice (some ⟨g, 0, none⟩) 1 1) [x] :=
  ⟨by simpa using hb, some ⟨g, 0, none⟩, 1, g, 0, rfl, ⟨fun _ => rfl, fun h => by cases h⟩, fun k y hy => by
    match k, hy with
    | 0, hy => simp at hy; subst hy; simpa using h⟩
theorem RowIn.two {α : Type} {At : World → Nat → Nat → α → Prop} {size bytes : Nat} {w : World} {g : Nat} {x y : α} (hb : 2 * bytes ≤ 140737488352000) (h : At w g 0 x) (k : At w g size y) : RowIn At size bytes w (.slice (some ⟨g, 0, none⟩) 2 2) [x, y] :=
  ⟨by simpa using hb, some ⟨g, 0, none⟩, 2, g, 0, rfl, ⟨fun _ => rfl, fun h => by cases h⟩, fun j z hz => by
    match j, hz with
    | 0, hz => simp at hz; subst hz; simpa using h
    | 1, hz => simp at hz; subst hz; simpa using k⟩
theorem ints_nil (w : World) : IntsIn w (.slice none 0 0) [] := ⟨by simp, none, 0, 0, 0, rfl, ⟨fun h => by simp at h, fun _ => rfl⟩, fun k x h => by simp at h⟩
/-- The program of the known answers. -/
def smallP (heap regs : Int) (l : List Insx) : Prg := ⟨heap, [0], [⟨⟨#[109]⟩, 0, regs, [⟨⟨#[97]⟩, l⟩]⟩]⟩
/-- A program, as a value. -/
def PrgV (w : World) (v : Value) (p : Prg) : Prop := ∃ pt ct pf cf, v = .agg #[.int .i64 p.heap, .slice pt p.threads.length ct, .slice pf p.funcs.length cf] ∧ IntsIn w (.slice pt p.threads.length ct) p.threads ∧ FnsIn w (.slice pf p.funcs.length cf) p.funcs
set_option maxHeartbeats 2000000 in
theorem small_any (heap regs : Int) (hr : I64 regs) (l : List Insx) (pi : Option Addr) (ci : Nat) (w : World) (hI : InsxIn w (.slice pi l.length ci) l) :
    Calls Try.prog 16 #[.int .i64 heap, .int .i64 regs, .slice pi l.length ci] w fun e w' => ∃ v, e = .returned v ∧ PrgV w' v (smallP heap regs l) ∧ Below w.heap.size w w' := by
  have HI := shid hI
  have HR := shid hr
  clear hI hr
  go_enter Try.func16, Try.ntmps16
  go_wp2_with fail
  have hp := (((PBox.new w heap (.slice (some ⟨w.heap.size + 1, 0, none⟩) 1 1) (.slice (some ⟨w.heap.size + 1 + 1 + 1, 0, none⟩) 1 1) 25).keep (al1 _ (.cells #[.int .i64 0] 3))).keep (al1 _ (.cells #[.string ⟨#[97]⟩, .slice pi l.length ci] 40))).keep (al1 _ (.cells #[.string ⟨#[109]⟩, .int .i64 0, .int .i64 regs, .slice (some ⟨w.heap.size + 1 + 1, 0, none⟩) 1 1] 37))
  have hb := (BBox.new ((w.alloc (.cells #[.int .i64 heap, .slice (some ⟨w.heap.size + 1, 0, none⟩) 1 1, .slice (some ⟨w.heap.size + 1 + 1 + 1, 0, none⟩) 1 1] 25)).alloc (.cells #[.int .i64 0] 3)) ⟨#[97]⟩ (.slice pi l.length ci) 40).keep (al1 _ (.cells #[.string ⟨#[109]⟩, .int .i64 0, .int .i64 regs, .slice (some ⟨w.heap.size + 1 + 1, 0, none⟩) 1 1] 37))
  have hf := FBox.new (((w.alloc (.cells #[.int .i64 heap, .slice (some ⟨w.heap.size + 1, 0, none⟩) 1 1, .slice (some ⟨w.heap.size + 1 + 1 + 1, 0, none⟩) 1 1] 25)).alloc (.cells #[.int .i64 0] 3)).alloc (.cells #[.string ⟨#[97]⟩, .slice pi l.length ci] 40)) ⟨#[109]⟩ 0 regs (.slice (some ⟨w.heap.size + 1 + 1, 0, none⟩) 1 1) 37
  have ht : ((((w.alloc (.cells #[.int .i64 heap, .slice (some ⟨w.heap.size + 1, 0, none⟩) 1 1, .slice (some ⟨w.heap.size + 1 + 1 + 1, 0, none⟩) 1 1] 25)).alloc (.cells #[.int .i64 0] 3)).alloc (.cells #[.string ⟨#[97]⟩, .slice pi l.length ci] 40)).alloc (.cells #[.string ⟨#[109]⟩, .int .i64 0, .int .i64 regs, .slice (some ⟨w.heap.size + 1 + 1, 0, none⟩) 1 1] 37)).cell? ⟨w.heap.size + 1, 0, none⟩ = some (.int .i64 0) := by
    have h1 := cell_of_obj (i := 0) (heap_alloc_new (w.alloc (.cells #[.int .i64 heap, .slice (some ⟨w.heap.size + 1, 0, none⟩) 1 1, .slice (some ⟨w.heap.size + 1 + 1 + 1, 0, none⟩) 1 1] 25)) (.cells #[.int .i64 0] 3))
    rw [World.size_alloc] at h1
    have h2 : ((w.alloc (.cells #[.int .i64 heap, .slice (some ⟨w.heap.size + 1, 0, none⟩) 1 1, .slice (some ⟨w.heap.size + 1 + 1 + 1, 0, none⟩) 1 1] 25)).alloc (.cells #[.int .i64 0] 3)).cell? ⟨w.heap.size + 1, 0, none⟩ = some (.int .i64 0) := h1
    have hl := World.block_lt_of_cell? _ _ h2
    exact ((al2 _ (.cells #[.string ⟨#[97]⟩, .slice pi l.length ci] 40) (.cells #[.string ⟨#[109]⟩, .int .i64 0, .int .i64 regs, .slice (some ⟨w.heap.size + 1 + 1, 0, none⟩) 1 1] 37)).cell (p := ⟨w.heap.size + 1, 0, none⟩) hl).trans h2
  have hw4 : Below w.heap.size w ((((w.alloc (.cells #[.int .i64 heap, .slice (some ⟨w.heap.size + 1, 0, none⟩) 1 1, .slice (some ⟨w.heap.size + 1 + 1 + 1, 0, none⟩) 1 1] 25)).alloc (.cells #[.int .i64 0] 3)).alloc (.cells #[.string ⟨#[97]⟩, .slice pi l.length ci] 40)).alloc (.cells #[.string ⟨#[109]⟩, .int .i64 0, .int .i64 regs, .slice (some ⟨w.heap.size + 1 + 1, 0, none⟩) 1 1] 37)) := sbt (al3 w _ _ _) (al1 _ _)
  simp only [World.size_alloc] at hb hf
  generalize (((w.alloc (.cells #[.int .i64 heap, .slice (some ⟨w.heap.size + 1, 0, none⟩) 1 1, .slice (some ⟨w.heap.size + 1 + 1 + 1, 0, none⟩) 1 1] 25)).alloc (.cells #[.int .i64 0] 3)).alloc (.cells #[.string ⟨#[97]⟩, .slice pi l.length ci] 40)).alloc (.cells #[.string ⟨#[109]⟩, .int .i64 0, .int .i64 regs, .slice (some ⟨w.heap.size + 1 + 1, 0, none⟩) 1 1] 37) = W9 at *
  obtain ⟨_, k0, k1, k2⟩ := hp
  obtain ⟨_, b0, b1⟩ := hb
  obtain ⟨_, f0, f1, f2, f3⟩ := hf
  have HI9 := InsxIn.keep HI.out hw4
  have HBL : BlksIn W9 (.slice (some ⟨w.heap.size + 1 + 1, 0, none⟩) 1 1) [⟨⟨#[97]⟩, l⟩] := RowIn.one (by omega) ⟨b0, ⟨_, by simpa using b1, HI9⟩, by simp [ByteArray.size]⟩
  have HFL : FnsIn W9 (.slice (some ⟨w.heap.size + 1 + 1 + 1, 0, none⟩) 1 1) [⟨⟨#[109]⟩, 0, regs, [⟨⟨#[97]⟩, l⟩]⟩] := RowIn.one (by omega) ⟨f0, by simpa using f1, by simpa using f2, ⟨_, by simpa using f3, HBL⟩, by simp [ByteArray.size], by show I64 0; unfold I64; omega, HR.out⟩
  have HTL : IntsIn W9 (.slice (some ⟨w.heap.size + 1, 0, none⟩) 1 1) [0] := RowIn.one (by omega) ⟨ht, by unfold I64; omega⟩
  exact bodyPost_ret (v := .agg #[.int .i64 heap, .slice (some ⟨w.heap.size + 1, 0, none⟩) 1 1, .slice (some ⟨w.heap.size + 1 + 1 + 1, 0, none⟩) 1 1]) (by simp [results, Try.results16, go_sem, k0, k1, k2]; try rfl) rfl ⟨_, rfl, ⟨_, _, _, _, rfl, HTL, HFL⟩, hw4⟩
theorem PrgV.keep {w w' : World} {v : Value} {p : Prg} (h : PrgV w v p) (hb : Below w.heap.size w w') : PrgV w' v p := by
  obtain ⟨pt, ct, pf, cf, rfl, h1, h2⟩ := h
  exact ⟨pt, ct, pf, cf, rfl, IntsIn.keep h1 hb, FnsIn.keep h2 hb⟩
set_option maxHeartbeats 2000000 in
theorem is_any (p : Prg) (line col l c e : Int) (hc : checkS p = (l, c, e)) (hr : (line = 9 ∧ l = 0 ∧ c = 0 ∧ e = 0) ∨ (line ≠ 9 ∧ l = line ∧ c = col ∧ e = 140)) (v : Value) (w : World) (hv : PrgV w v p) :
    Calls Try.prog 15 #[v, .int .i64 line, .int .i64 col] w fun e w' => e = .returned (.bool true) ∧ Below w.heap.size w w' := by
  have HC := shid hc
  obtain ⟨pt, ct, pf, cf, rfl, hT, hF⟩ := hv
  have HW0 := shid (al1 w (.cells #[.int .i64 p.heap, .slice pt p.threads.length ct, .slice pf p.funcs.length cf] 25))
  have HPB := shid (PBox.new w p.heap (.slice pt p.threads.length ct) (.slice pf p.funcs.length cf) 25)
  have HCK := shid (check_any p pt ct pf cf _ (IntsIn.keep hT HW0.out) (FnsIn.keep hF HW0.out))
  have HCV := shid (show checkV p = .tuple #[.agg #[.int .i64 l, .int .i64 c], .int .i64 e] by unfold checkV; rw [hc])
  obtain ⟨_, k0, k1, k2⟩ := HPB.out
  clear hc hT hF
  rcases hr with ⟨h9, hl, hcc, he⟩ | ⟨h9, hl, hcc, he⟩
  · have q9 : (line == 9) = true := by simpa using h9
    subst hl hcc he
    clear h9
    go_enter Try.func15, Try.ntmps15
    go_wp2_with fail
    refine HCK.out.mono ?_
    rintro e w1 ⟨rfl, hb1⟩
    rw [HCV.out]
    go_wp2_with fail
    go_ret
    exact ⟨rfl, sbt HW0.out (sbt hb1 (al1 _ _))⟩
  · have q9 : (line == 9) = false := by simpa using h9
    subst hl hcc he
    clear h9
    go_enter Try.func15, Try.ntmps15
    go_wp2_with fail
    refine HCK.out.mono ?_
    rintro e w1 ⟨rfl, hb1⟩
    rw [HCV.out]
    go_wp2_with fail
    go_ret
    exact ⟨by simp, sbt HW0.out (sbt hb1 (al1 _ _))⟩
def cX : Insx := ⟨0, 0, 0, 0, 1, 0, [], 0, 0⟩
def rX : Insx := ⟨10, 0, 0, 0, 0, 0, [], 0, 0⟩
theorem known1 : checkS (smallP 0 1 [cX, rX]) = (0, 0, 0) := by decide
theorem known2 : checkS (smallP 0 1 [rX]) = (0, 0, 140) := by decide
theorem known3 : checkS (smallP 0 2 [cX, rX]) = (0, -1, 140) := by decide
theorem known4 : checkS (smallP 0 1 [cX]) = (0, 0, 140) := by decide
theorem known5 : checkS (smallP (-1) 1 [cX, rX]) = (-1, -1, 140) := by decide
theorem insxAt_new {w : World} {g o : Nat} {x : Insx} (ha : x.args = []) (hb : x.bd) (h : ∀ j u, [Value.int .u8 x.op, .int .i64 x.d, .int .i64 x.a, .int .i64 x.b, .int .u32 x.n, .int .i64 x.f, .slice none 0 0, .int .i64 x.l1, .int .i64 x.l2][j]? = some u → w.cell? ⟨g, o + j, none⟩ = some u) : InsxAt w g o x :=
  ⟨h 0 _ rfl, h 1 _ rfl, h 2 _ rfl, h 3 _ rfl, h 4 _ rfl, h 5 _ rfl, ⟨_, h 6 _ rfl, by rw [ha]; exact ints_nil w⟩, h 7 _ rfl, h 8 _ rfl, hb⟩
theorem cX_bd : cX.bd := by unfold Insx.bd cX I64; simp
theorem rX_bd : rX.bd := by unfold Insx.bd rX I64; simp
theorem insx_two (w : World) : InsxIn (w.alloc (.cells #[.int .u8 0, .int .i64 0, .int .i64 0, .int .i64 0, .int .u32 1, .int .i64 0, .slice none 0 0, .int .i64 0, .int .i64 0, .int .u8 10, .int .i64 0, .int .i64 0, .int .i64 0, .int .u32 0, .int .i64 0, .slice none 0 0, .int .i64 0, .int .i64 0] 44)) (.slice (some ⟨w.heap.size, 0, none⟩) 2 2) [cX, rX] := by
  have k := fun i => cell_of_obj (i := i) (heap_alloc_new w (.cells #[.int .u8 0, .int .i64 0, .int .i64 0, .int .i64 0, .int .u32 1, .int .i64 0, .slice none 0 0, .int .i64 0, .int .i64 0, .int .u8 10, .int .i64 0, .int .i64 0, .int .i64 0, .int .u32 0, .int .i64 0, .slice none 0 0, .int .i64 0, .int .i64 0] 44))
  refine RowIn.two (by omega) (insxAt_new rfl cX_bd fun j u hj => ?_) (insxAt_new rfl rX_bd fun j u hj => ?_)
  · rw [k]; rcases j with _ | _ | _ | _ | _ | _ | _ | _ | _ | j <;> simp [cX] at hj ⊢ <;> assumption
  · rw [k]; rcases j with _ | _ | _ | _ | _ | _ | _ | _ | _ | j <;> simp [rX] at hj ⊢ <;> assumption
theorem insx_c (w : World) : InsxIn (w.alloc (.cells #[.int .u8 0, .int .i64 0, .int .i64 0, .int .i64 0, .int .u32 1, .int .i64 0, .slice none 0 0, .int .i64 0, .int .i64 0] 44)) (.slice (some ⟨w.heap.size, 0, none⟩) 1 1) [cX] := by
  have k := fun i => cell_of_obj (i := i) (heap_alloc_new w (.cells #[.int .u8 0, .int .i64 0, .int .i64 0, .int .i64 0, .int .u32 1, .int .i64 0, .slice none 0 0, .int .i64 0, .int .i64 0] 44))
  refine RowIn.one (by omega) (insxAt_new rfl cX_bd fun j u hj => ?_)
  rw [k]; rcases j with _ | _ | _ | _ | _ | _ | _ | _ | _ | j <;> simp [cX] at hj ⊢ <;> assumption
theorem insx_r (w : World) : InsxIn (w.alloc (.cells #[.int .u8 10, .int .i64 0, .int .i64 0, .int .i64 0, .int .u32 0, .int .i64 0, .slice none 0 0, .int .i64 0, .int .i64 0] 44)) (.slice (some ⟨w.heap.size, 0, none⟩) 1 1) [rX] := by
  have k := fun i => cell_of_obj (i := i) (heap_alloc_new w (.cells #[.int .u8 10, .int .i64 0, .int .i64 0, .int .i64 0, .int .u32 0, .int .i64 0, .slice none 0 0, .int .i64 0, .int .i64 0] 44))
  refine RowIn.one (by omega) (insxAt_new rfl rX_bd fun j u hj => ?_)
  rw [k]; rcases j with _ | _ | _ | _ | _ | _ | _ | _ | _ | j <;> simp [rX] at hj ⊢ <;> assumption
set_option maxRecDepth 100000 in
set_option maxHeartbeats 4000000 in
theorem law_head (w : World) : Calls Try.prog 8 #[] w fun e w' => e = .returned (.bool true) ∧ Below w.heap.size w w' := by
  have HC := shid (show IBox ((w.alloc (.cells #[.int .u8 0, .int .i64 0, .int .i64 0, .int .i64 0, .int .u32 1, .int .i64 0, .slice none 0 0, .int .i64 0, .int .i64 0] 44)).alloc (.cells #[.int .u8 10, .int .i64 0, .int .i64 0, .int .i64 0, .int .u32 0, .int .i64 0, .slice none 0 0, .int .i64 0, .int .i64 0] 44)) w.heap.size cX (.slice none 0 0) from (IBox.new w cX (.slice none 0 0) 44).keep (al1 _ (.cells #[.int .u8 10, .int .i64 0, .int .i64 0, .int .i64 0, .int .u32 0, .int .i64 0, .slice none 0 0, .int .i64 0, .int .i64 0] 44)))
  have HR := shid (show IBox ((w.alloc (.cells #[.int .u8 0, .int .i64 0, .int .i64 0, .int .i64 0, .int .u32 1, .int .i64 0, .slice none 0 0, .int .i64 0, .int .i64 0] 44)).alloc (.cells #[.int .u8 10, .int .i64 0, .int .i64 0, .int .i64 0, .int .u32 0, .int .i64 0, .slice none 0 0, .int .i64 0, .int .i64 0] 44)) (w.heap.size + 1) rX (.slice none 0 0) from by
    have h := IBox.new (w.alloc (.cells #[.int .u8 0, .int .i64 0, .int .i64 0, .int .i64 0, .int .u32 1, .int .i64 0, .slice none 0 0, .int .i64 0, .int .i64 0] 44)) rX (.slice none 0 0) 44
    rw [World.size_alloc] at h
    exact h)
  have HW := shid (al2 w (.cells #[.int .u8 0, .int .i64 0, .int .i64 0, .int .i64 0, .int .u32 1, .int .i64 0, .slice none 0 0, .int .i64 0, .int .i64 0] 44) (.cells #[.int .u8 10, .int .i64 0, .int .i64 0, .int .i64 0, .int .u32 0, .int .i64 0, .slice none 0 0, .int .i64 0, .int .i64 0] 44))
  go_enter Try.func8, Try.ntmps8
  go_wp2_with fail
  have hz : w.heap.size + 1 + 1 = ((w.alloc (.cells #[.int .u8 0, .int .i64 0, .int .i64 0, .int .i64 0, .int .u32 1, .int .i64 0, .slice none 0 0, .int .i64 0, .int .i64 0] 44)).alloc (.cells #[.int .u8 10, .int .i64 0, .int .i64 0, .int .i64 0, .int .u32 0, .int .i64 0, .slice none 0 0, .int .i64 0, .int .i64 0] 44)).heap.size := by simp
  rw [hz]
  clear hz
  generalize (w.alloc (.cells #[.int .u8 0, .int .i64 0, .int .i64 0, .int .i64 0, .int .u32 1, .int .i64 0, .slice none 0 0, .int .i64 0, .int .i64 0] 44)).alloc (.cells #[.int .u8 10, .int .i64 0, .int .i64 0, .int .i64 0, .int .u32 0, .int .i64 0, .slice none 0 0, .int .i64 0, .int .i64 0] 44) = w0 at *
  have hs0 := small_any (0) 1 (by unfold I64; omega) [cX, rX] _ 2 _ (insx_two (w0))
  simp only [List.length_cons, List.length_nil, Nat.zero_add, Nat.reduceAdd] at hs0
  have HS0 := shid hs0
  clear hs0
  with_reducible refine HS0.out.mono ?_
  rintro e w1 ⟨v0, rfl, hp0, hb0⟩
  have HP0 := shid hp0
  have HA0 := shid (sbt (al1 (w0) (.cells #[.int .u8 0, .int .i64 0, .int .i64 0, .int .i64 0, .int .u32 1, .int .i64 0, .slice none 0 0, .int .i64 0, .int .i64 0, .int .u8 10, .int .i64 0, .int .i64 0, .int .i64 0, .int .u32 0, .int .i64 0, .slice none 0 0, .int .i64 0, .int .i64 0] 44)) hb0)
  obtain ⟨pt0, ct0, pf0, cf0, rfl, _, _⟩ := hp0
  clear hb0
  go_wp2_with fail
  with_reducible refine (is_any (smallP (0) 1 [cX, rX]) (9) (9) _ _ _ known1 (by first | exact .inl ⟨rfl, rfl, rfl, rfl⟩ | exact .inr ⟨by omega, rfl, rfl, rfl⟩) _ _ HP0.out).mono ?_
  rintro e w2 ⟨rfl, hd0⟩
  have HD0 := shid (sbt HA0.out hd0)
  clear hd0
  have HC0 := shid (HC.out.keep HD0.out)
  have HR0 := shid (HR.out.keep HD0.out)
  have HW0 := shid (sbt HW.out HD0.out)
  clear HS0 HC HR HW HA0 HD0 HP0
  have HC := HC0
  have HR := HR0
  have HW := HW0
  clear HC0 HR0 HW0
  obtain ⟨_, c0, c1, c2, c3, c4, c5, c6, c7, c8⟩ := HC.out
  obtain ⟨_, r0, r1, r2, r3, r4, r5, r6, r7, r8⟩ := HR.out
  simp only [cX, rX] at c0 c1 c2 c3 c4 c5 c6 c7 c8 r0 r1 r2 r3 r4 r5 r6 r7 r8
  go_wp2_with fail
  clear c0 c1 c2 c3 c4 c5 c6 c7 c8 r0 r1 r2 r3 r4 r5 r6 r7 r8
  have hs1 := small_any (0) 1 (by unfold I64; omega) [rX] _ 1 _ (insx_r (w2))
  simp only [List.length_cons, List.length_nil, Nat.zero_add, Nat.reduceAdd] at hs1
  have HS1 := shid hs1
  clear hs1
  with_reducible refine HS1.out.mono ?_
  rintro e w3 ⟨v1, rfl, hp1, hb1⟩
  have HP1 := shid hp1
  have HA1 := shid (sbt (al1 (w2) (.cells #[.int .u8 10, .int .i64 0, .int .i64 0, .int .i64 0, .int .u32 0, .int .i64 0, .slice none 0 0, .int .i64 0, .int .i64 0] 44)) hb1)
  obtain ⟨pt1, ct1, pf1, cf1, rfl, _, _⟩ := hp1
  clear hb1
  go_wp2_with fail
  with_reducible refine (is_any (smallP (0) 1 [rX]) (0) (0) _ _ _ known2 (by first | exact .inl ⟨rfl, rfl, rfl, rfl⟩ | exact .inr ⟨by omega, rfl, rfl, rfl⟩) _ _ HP1.out).mono ?_
  rintro e w4 ⟨rfl, hd1⟩
  have HD1 := shid (sbt HA1.out hd1)
  clear hd1
  have HC1 := shid (HC.out.keep HD1.out)
  have HR1 := shid (HR.out.keep HD1.out)
  have HW1 := shid (sbt HW.out HD1.out)
  clear HS1 HC HR HW HA1 HD1 HP1
  have HC := HC1
  have HR := HR1
  have HW := HW1
  clear HC1 HR1 HW1
  obtain ⟨_, c0, c1, c2, c3, c4, c5, c6, c7, c8⟩ := HC.out
  obtain ⟨_, r0, r1, r2, r3, r4, r5, r6, r7, r8⟩ := HR.out
  simp only [cX, rX] at c0 c1 c2 c3 c4 c5 c6 c7 c8 r0 r1 r2 r3 r4 r5 r6 r7 r8
  go_wp2_with fail
  clear c0 c1 c2 c3 c4 c5 c6 c7 c8 r0 r1 r2 r3 r4 r5 r6 r7 r8
  have hs2 := small_any (0) 2 (by unfold I64; omega) [cX, rX] _ 2 _ (insx_two (w4))
  simp only [List.length_cons, List.length_nil, Nat.zero_add, Nat.reduceAdd] at hs2
  have HS2 := shid hs2
  clear hs2
  with_reducible refine HS2.out.mono ?_
  rintro e w5 ⟨v2, rfl, hp2, hb2⟩
  have HP2 := shid hp2
  have HA2 := shid (sbt (al1 (w4) (.cells #[.int .u8 0, .int .i64 0, .int .i64 0, .int .i64 0, .int .u32 1, .int .i64 0, .slice none 0 0, .int .i64 0, .int .i64 0, .int .u8 10, .int .i64 0, .int .i64 0, .int .i64 0, .int .u32 0, .int .i64 0, .slice none 0 0, .int .i64 0, .int .i64 0] 44)) hb2)
  obtain ⟨pt2, ct2, pf2, cf2, rfl, _, _⟩ := hp2
  clear hb2
  go_wp2_with fail
  with_reducible refine (is_any (smallP (0) 2 [cX, rX]) (0) (-1) _ _ _ known3 (by first | exact .inl ⟨rfl, rfl, rfl, rfl⟩ | exact .inr ⟨by omega, rfl, rfl, rfl⟩) _ _ HP2.out).mono ?_
  rintro e w6 ⟨rfl, hd2⟩
  have HD2 := shid (sbt HA2.out hd2)
  clear hd2
  have HC2 := shid (HC.out.keep HD2.out)
  have HR2 := shid (HR.out.keep HD2.out)
  have HW2 := shid (sbt HW.out HD2.out)
  clear HS2 HC HR HW HA2 HD2 HP2
  have HC := HC2
  have HR := HR2
  have HW := HW2
  clear HC2 HR2 HW2
  obtain ⟨_, c0, c1, c2, c3, c4, c5, c6, c7, c8⟩ := HC.out
  obtain ⟨_, r0, r1, r2, r3, r4, r5, r6, r7, r8⟩ := HR.out
  simp only [cX, rX] at c0 c1 c2 c3 c4 c5 c6 c7 c8 r0 r1 r2 r3 r4 r5 r6 r7 r8
  go_wp2_with fail
  clear c0 c1 c2 c3 c4 c5 c6 c7 c8 r0 r1 r2 r3 r4 r5 r6 r7 r8
  have hs3 := small_any (0) 1 (by unfold I64; omega) [cX] _ 1 _ (insx_c (w6))
  simp only [List.length_cons, List.length_nil, Nat.zero_add, Nat.reduceAdd] at hs3
  have HS3 := shid hs3
  clear hs3
  with_reducible refine HS3.out.mono ?_
  rintro e w7 ⟨v3, rfl, hp3, hb3⟩
  have HP3 := shid hp3
  have HA3 := shid (sbt (al1 (w6) (.cells #[.int .u8 0, .int .i64 0, .int .i64 0, .int .i64 0, .int .u32 1, .int .i64 0, .slice none 0 0, .int .i64 0, .int .i64 0] 44)) hb3)
  obtain ⟨pt3, ct3, pf3, cf3, rfl, _, _⟩ := hp3
  clear hb3
  go_wp2_with fail
  with_reducible refine (is_any (smallP (0) 1 [cX]) (0) (0) _ _ _ known4 (by first | exact .inl ⟨rfl, rfl, rfl, rfl⟩ | exact .inr ⟨by omega, rfl, rfl, rfl⟩) _ _ HP3.out).mono ?_
  rintro e w8 ⟨rfl, hd3⟩
  have HD3 := shid (sbt HA3.out hd3)
  clear hd3
  have HC3 := shid (HC.out.keep HD3.out)
  have HR3 := shid (HR.out.keep HD3.out)
  have HW3 := shid (sbt HW.out HD3.out)
  clear HS3 HC HR HW HA3 HD3 HP3
  have HC := HC3
  have HR := HR3
  have HW := HW3
  clear HC3 HR3 HW3
  obtain ⟨_, c0, c1, c2, c3, c4, c5, c6, c7, c8⟩ := HC.out
  obtain ⟨_, r0, r1, r2, r3, r4, r5, r6, r7, r8⟩ := HR.out
  simp only [cX, rX] at c0 c1 c2 c3 c4 c5 c6 c7 c8 r0 r1 r2 r3 r4 r5 r6 r7 r8
  go_wp2_with fail
  clear c0 c1 c2 c3 c4 c5 c6 c7 c8 r0 r1 r2 r3 r4 r5 r6 r7 r8
  have hs4 := small_any (-1) 1 (by unfold I64; omega) [cX, rX] _ 2 _ (insx_two (w8))
  simp only [List.length_cons, List.length_nil, Nat.zero_add, Nat.reduceAdd] at hs4
  have HS4 := shid hs4
  clear hs4
  with_reducible refine HS4.out.mono ?_
  rintro e w9 ⟨v4, rfl, hp4, hb4⟩
  have HP4 := shid hp4
  have HA4 := shid (sbt (al1 (w8) (.cells #[.int .u8 0, .int .i64 0, .int .i64 0, .int .i64 0, .int .u32 1, .int .i64 0, .slice none 0 0, .int .i64 0, .int .i64 0, .int .u8 10, .int .i64 0, .int .i64 0, .int .i64 0, .int .u32 0, .int .i64 0, .slice none 0 0, .int .i64 0, .int .i64 0] 44)) hb4)
  obtain ⟨pt4, ct4, pf4, cf4, rfl, _, _⟩ := hp4
  clear hb4
  go_wp2_with fail
  with_reducible refine (is_any (smallP (-1) 1 [cX, rX]) (-1) (-1) _ _ _ known5 (by first | exact .inl ⟨rfl, rfl, rfl, rfl⟩ | exact .inr ⟨by omega, rfl, rfl, rfl⟩) _ _ HP4.out).mono ?_
  rintro e w10 ⟨rfl, hd4⟩
  have HD4 := shid (sbt HA4.out hd4)
  clear hd4
  have HC4 := shid (HC.out.keep HD4.out)
  have HR4 := shid (HR.out.keep HD4.out)
  have HW4 := shid (sbt HW.out HD4.out)
  clear HS4 HC HR HW HA4 HD4 HP4
  have HC := HC4
  have HR := HR4
  have HW := HW4
  clear HC4 HR4 HW4
  obtain ⟨_, c0, c1, c2, c3, c4, c5, c6, c7, c8⟩ := HC.out
  obtain ⟨_, r0, r1, r2, r3, r4, r5, r6, r7, r8⟩ := HR.out
  simp only [cX, rX] at c0 c1 c2 c3 c4 c5 c6 c7 c8 r0 r1 r2 r3 r4 r5 r6 r7 r8
  go_wp2_with fail
  clear c0 c1 c2 c3 c4 c5 c6 c7 c8 r0 r1 r2 r3 r4 r5 r6 r7 r8
  refine (ends_any rX rX_bd none 0 0 _).mono ?_
  rintro e w11 ⟨rfl, hb11⟩
  have HW11 := shid (sbt HW.out hb11)
  have HC11 := shid (HC.out.keep hb11)
  have HE1 := shid (show endsB rX = true by decide)
  obtain ⟨_, c0, c1, c2, c3, c4, c5, c6, c7, c8⟩ := HC11.out
  simp only [cX] at c0 c1 c2 c3 c4 c5 c6 c7 c8
  rw [HE1.out]
  clear hb11
  go_wp2_with fail
  refine (ends_any cX cX_bd none 0 0 _).mono ?_
  rintro e w12 ⟨rfl, hb12⟩
  have HE2 := shid (show endsB cX = false by decide)
  rw [HE2.out]
  go_wp2_with fail
  go_ret
  exact ⟨rfl, sbt HW11.out hb12⟩
end Go.Proofs.Ythahjnjkiljaaaa
