/- Several texts in one: LowSpec, LowList. -/
import Derived.Test.YtfbbodaapkfbdaaDoorG23
import Derived.Test.YtfbbodaapkfbdaaDoorG01
import Derived.Lib.ItoaNum
/- Allocated functions as plain data, how they lie in the world, and what is put for them. No function of the program is walked here. -/
namespace Go.Proofs.YtfbbodaapkfbdaaDoor
open Go.RowKit
set_option linter.unusedVariables false
/-- A step of an allocated function. -/
structure Acx where
  kind : Int
  at' : Int
  d : Int
  a : Int
  b : Int
  args : List Int
structure Afx where
  leaf : Bool
  slots : Int
  entry : List Acx
  blocks : List (List Acx)
structure AcAt (w : World) (b o : Nat) (x : Acx) : Prop where
  c0 : w.cell? ⟨b, o, none⟩ = some (.int .u8 x.kind)
  c1 : w.cell? ⟨b, o + 1, none⟩ = some (.int .i64 x.at')
  c2 : w.cell? ⟨b, o + 2, none⟩ = some (.int .i64 x.d)
  c3 : w.cell? ⟨b, o + 3, none⟩ = some (.int .i64 x.a)
  c4 : w.cell? ⟨b, o + 4, none⟩ = some (.int .i64 x.b)
  c5 : ∃ v, w.cell? ⟨b, o + 5, none⟩ = some v ∧ IntsIn w v x.args
  bd : (0 ≤ x.kind ∧ x.kind < 256) ∧ I64 x.at' ∧ I64 x.d ∧ I64 x.a ∧ I64 x.b
theorem AcAt.keep {w w' : World} {b o : Nat} {x : Acx} (h : AcAt w b o x) (hb : Below w.heap.size w w') : AcAt w' b o x := by
  have hl := World.block_lt_of_cell? _ _ h.c0
  obtain ⟨v, h1, h2⟩ := h.c5
  exact ⟨(hb.cell (p := ⟨b, o, none⟩) hl).trans h.c0, (hb.cell (p := ⟨b, o + 1, none⟩) hl).trans h.c1, (hb.cell (p := ⟨b, o + 2, none⟩) hl).trans h.c2, (hb.cell (p := ⟨b, o + 3, none⟩) hl).trans h.c3, (hb.cell (p := ⟨b, o + 4, none⟩) hl).trans h.c4, ⟨v, (hb.cell (p := ⟨b, o + 5, none⟩) hl).trans h1, h2.keep fun _ _ _ _ hh => hh.keep hb⟩, h.bd⟩
abbrev AcsIn := RowIn AcAt 6 64
theorem AcsIn.keep {w w' : World} {v : Value} {l : List Acx} (h : AcsIn w v l) (hb : Below w.heap.size w w') : AcsIn w' v l := RowIn.keep h fun _ _ _ _ hh => hh.keep hb
def AbAt (w : World) (b o : Nat) (l : List Acx) : Prop := ∃ v, w.cell? ⟨b, o, none⟩ = some v ∧ AcsIn w v l
theorem AbAt.keep {w w' : World} {b o : Nat} {l : List Acx} (h : AbAt w b o l) (hb : Below w.heap.size w w') : AbAt w' b o l := by
  obtain ⟨v, h1, h2⟩ := h
  exact ⟨v, (hb.cell (p := ⟨b, o, none⟩) (World.block_lt_of_cell? _ _ h1)).trans h1, h2.keep hb⟩
abbrev AbsIn := RowIn AbAt 1 24
theorem AbsIn.keep {w w' : World} {v : Value} {l : List (List Acx)} (h : AbsIn w v l) (hb : Below w.heap.size w w') : AbsIn w' v l := RowIn.keep h fun _ _ _ _ hh => hh.keep hb
/-- An allocated function, as it is handed over. -/
def AfV (w : World) (v : Value) (x : Afx) : Prop := ∃ pe ce pb cb, v = .agg #[.bool x.leaf, .int .i64 x.slots, .slice pe x.entry.length ce, .slice pb x.blocks.length cb] ∧ AcsIn w (.slice pe x.entry.length ce) x.entry ∧ AbsIn w (.slice pb x.blocks.length cb) x.blocks
theorem AfV.keep {w w' : World} {v : Value} {x : Afx} (h : AfV w v x) (hb : Below w.heap.size w w') : AfV w' v x := by
  obtain ⟨pe, ce, pb, cb, h1, h2, h3⟩ := h
  exact ⟨pe, ce, pb, cb, h1, h2.keep hb, h3.keep hb⟩
/-- What an instruction has: 4 (D), 2 (A), 1 (B), together; -1: there is no such one. -/
def hasS (op : Int) : Int := if 0 ≤ op ∧ op ≤ 10 then [4, 7, 6, 6, 3, 4, 2, 0, 0, 2, 2].getD op.toNat 0 else -1
def regP (n : Int) (is : Prop) [Decidable is] : Prop := if is then 0 ≤ n ∧ n < 32 else n = -1
instance (n : Int) (is : Prop) [Decidable is] : Decidable (regP n is) := by unfold regP; infer_instance
/-- A move that may be. -/
def moveP (slots : Int) (c : Acx) : Prop := c.at' = -1 ∧ c.b = -1 ∧ c.args.length = 0 ∧ (0 ≤ c.a ∧ c.a < 32 + max slots 0) ∧ (0 ≤ c.d ∧ c.d < 32 + max slots 0) ∧ (c.a < 32 ∨ c.d < 32)
instance (s : Int) (c : Acx) : Decidable (moveP s c) := by unfold moveP; infer_instance
/-- A cell that is an instruction that may be. -/
def doP (nf nb : Nat) (i : Insx) (c : Acx) : Prop :=
  0 ≤ hasS i.op ∧ regP c.d (hasS i.op / 4 = 1) ∧ regP c.a (hasS i.op / 2 % 2 = 1) ∧ regP c.b (hasS i.op % 2 = 1) ∧ c.args.length = i.args.length ∧ (∀ r ∈ c.args, 0 ≤ r ∧ r < 32) ∧
    (i.op = 1 → i.n ≤ 13) ∧ (i.op = 5 → 0 ≤ i.f ∧ i.f < nf) ∧ (i.op = 8 ∨ i.op = 9 → 0 ≤ i.l1 ∧ i.l1 < nb) ∧ (i.op = 9 → 0 ≤ i.l2 ∧ i.l2 < nb)
instance (nf nb : Nat) (i : Insx) (c : Acx) : Decidable (doP nf nb i c) := by unfold doP; infer_instance
def insAtS (l : List Insx) (k : Int) : Option Insx := if 0 ≤ k then l[k.toNat]? else none
def cellP (nf nb : Nat) (slots : Int) (l : List Insx) (c : Acx) : Prop :=
  (c.kind = 0 ∧ moveP slots c) ∨ (c.kind = 1 ∧ ∃ i, insAtS l c.at' = some i ∧ doP nf nb i c)
def cellB (nf nb : Nat) (slots : Int) (l : List Insx) (c : Acx) : Bool :=
  if c.kind = 0 then decide (moveP slots c) else if c.kind = 1 then (match insAtS l c.at' with | some i => decide (doP nf nb i c) | none => false) else false
/-- A function that may be lowered. -/
def blocksB (nf nb : Nat) (slots : Int) : List Blk → List (List Acx) → Bool
  | b :: bs, l :: ls => l.all (cellB nf nb slots b.ins) && blocksB nf nb slots bs ls
  | [], [] => true
  | _, _ => false
def lowB (p : Prg) (f : Int) (x : Afx) : Bool :=
  decide (0 ≤ f) && match p.funcs[f.toNat]? with
  | some fn => x.entry.all (fun c => decide (c.kind = 0 ∧ moveP x.slots c)) && blocksB p.funcs.length fn.blocks.length x.slots fn.blocks x.blocks
  | none => false
def frameS (slots : Int) : Int := (64 + 4 * max slots 0) + (64 + 4 * max slots 0) % 8
/-- A number in tens. -/
def decL (n : Nat) : List UInt8 := Lib.decDigits n
def fNameL (f : Nat) : List UInt8 := 102 :: decL f
def bNameL (f b : Nat) : List UInt8 := fNameL f ++ 98 :: decL b
def cNameL (f k : Nat) : List UInt8 := fNameL f ++ 99 :: decL k
def tNameL (t : Nat) : List UInt8 := 116 :: decL t
def nameB' (l : List UInt8) : ByteArray := ⟨l.toArray⟩
/-- The list, its marks, how many marks of its own were needed. -/
structure Lo where
  L : List It
  M : List (List UInt8 × Int)
  many : Nat
def Lo.put (s : Lo) (l : List Ix) : Lo := { s with L := putL s.L l }
def Lo.mark (s : Lo) (nm : List UInt8) : Lo := { s with M := markM s.M (nameB' nm) (s.L.length : Int) }
def Lo.jump (s : Lo) (c : Int) (nm : List UInt8) : Lo := { s with L := jumpL s.L 17 c (nameB' nm) }
def Lo.call (s : Lo) (nm : List UInt8) : Lo := { s with L := jumpL s.L 18 0 (nameB' nm) }
def Lo.const (s : Lo) (rd n : Int) : Lo := s.put (partsS rd n)
def numI (op rd rs n : Int) : Ix := ⟨op, rd, rs, 0, true, n⟩
def twoI (op rd a b : Int) : Ix := ⟨op, rd, a, b, false, 0⟩
/-- A jump over a fault. -/
def Lo.fault (s : Lo) (f : Nat) (cond which : Int) : Lo :=
  (((({ s with many := s.many + 1 } : Lo).jump cond (cNameL f s.many)).put [numI 37 0 0 which]).mark (cNameL f s.many))
def Lo.begin (s : Lo) (f : Nat) (slots : Int) : Lo :=
  let n := frameS slots
  let s1 := if n ≤ 16383 then s.put [numI 2 5 14 n] else (s.const 6 n).put [twoI 2 5 14 6]
  let s2 := (s1.put [numI 22 6 0 136, twoI 16 0 5 6]).fault f 4 3
  if n ≤ 16384 then s2.put [numI 20 14 14 (-n)] else (s2.const 6 (4294967296 - n)).put [twoI 20 14 14 6]
def Lo.slot (s : Lo) (op r slot : Int) : Lo :=
  let at' := 64 + 4 * (slot - 32)
  if at' ≤ 16383 then s.put [numI op r 14 at'] else (s.const 5 at').put [twoI 1 5 14 5, numI op r 5 0]
def Lo.moved (s : Lo) (c : Acx) : Lo := if 32 ≤ c.a then s.slot 22 c.d c.a else if 32 ≤ c.d then s.slot 23 c.a c.d else s.put [numI 1 c.d c.a 0]
def Lo.word (s : Lo) (f : Nat) (heapSize heap : Int) (op at' r : Int) : Lo :=
  ((((((s.const 5 heapSize).put [twoI 16 0 at' 5]).fault f 5 2).put [numI 9 5 at' 2]).const 6 heap).put [twoI 1 5 5 6, numI op r 5 0])
def Lo.does (s : Lo) (f : Nat) (leaf : Bool) (hs heap : Int) (i : Insx) (c : Acx) : Lo :=
  if i.op = 0 then s.const c.d i.n
  else if i.op = 1 then s.put [twoI (1 + i.n) c.d c.a c.b]
  else if i.op = 2 then s.put [numI 1 c.d c.a 0]
  else if i.op = 3 then s.word f hs heap 22 c.a c.d
  else if i.op = 4 then s.word f hs heap 23 c.a c.b
  else if i.op = 5 then s.call (fNameL i.f.toNat)
  else if i.op = 6 then s.put [twoI 35 0 c.a 0]
  else if i.op = 7 then s.put [numI 33 0 0 3]
  else if i.op = 8 then s.jump 0 (bNameL f i.l1.toNat)
  else if i.op = 9 then ((s.put [numI 16 0 c.a 0]).jump 2 (bNameL f i.l1.toNat)).jump 0 (bNameL f i.l2.toNat)
  else (if leaf = true then s else s.put [⟨21, 0, 0, 0, false, 0⟩]).put [numI 19 0 15 4]
def Lo.cell (s : Lo) (f : Nat) (leaf : Bool) (hs heap : Int) (l : List Insx) (c : Acx) : Lo :=
  if c.kind = 0 then s.moved c else match insAtS l c.at' with | some i => s.does f leaf hs heap i c | none => s
def Lo.block (s : Lo) (f : Nat) (leaf : Bool) (hs heap : Int) (b : Nat) (l : List Insx) (cs : List Acx) : Lo := cs.foldl (fun s c => s.cell f leaf hs heap l c) (s.mark (bNameL f b))
def Lo.blocks (f : Nat) (leaf : Bool) (hs heap : Int) : Nat → List Blk → List (List Acx) → Lo → Lo
  | k, b :: bs, l :: ls, s => Lo.blocks f leaf hs heap (k + 1) bs ls (s.block f leaf hs heap k b.ins l)
  | _, _, _, s => s
/-- The list behind a function (its name is free). -/
def lowerS (p : Prg) (f : Nat) (x : Afx) (heap : Int) (L : List It) (M : List (List UInt8 × Int)) : Lo :=
  match p.funcs[f]? with
  | some fn =>
    let s0 : Lo := (⟨L, M, 0⟩ : Lo).mark (fNameL f)
    let s1 := if x.leaf = true then s0 else s0.begin f x.slots
    let s2 := x.entry.foldl Lo.moved s1
    Lo.blocks f x.leaf (p.heap % 4294967296) heap 0 fn.blocks x.blocks s2
  | none => ⟨L, M, 0⟩
end Go.Proofs.YtfbbodaapkfbdaaDoor
/- A list, and what each of its methods makes of it, with the blocks that may change. -/
namespace Go.Proofs.YtfbbodaapkfbdaaDoor
open Go.RowKit
set_option linter.unusedVariables false
set_option linter.unusedSimpArgs false
/-- The list goes on: of the old blocks only its own changed. -/
def LGo (w0 : Nat) (w : World) (p : Nat) (S : Nat → Prop) (L : List It) (M : List (List UInt8 × Int)) (w' : World) : Prop := ∃ S', Lst w0 w' p S' L M ∧ Only S w w' ∧ ∀ k, S' k → S k ∨ w.heap.size ≤ k
theorem LGo.same {w0 : Nat} {w : World} {p : Nat} {S : Nat → Prop} {L : List It} {M : List (List UInt8 × Int)} (h : Lst w0 w p S L M) : LGo w0 w p S L M w := ⟨S, h, Only.refl _ _, fun _ hk => .inl hk⟩
section
variable {w0 : Nat} {w : World} {p : Nat} {S : Nat → Prop} {L : List It} {M : List (List UInt8 × Int)}
theorem lput_any (h : Lst w0 w p S L M) (ht : TabLo w0 w) (hw : w0 ≤ w.heap.size) {v : Value} {l : List Ix} (hl : InsIn w v l) (hL : L.length + l.length < 4294967296) :
    Calls Tryd.prog 37 #[.pointer (some ⟨p, 0, none⟩), v] w fun e w' => e = .returned (.int .i64 (putE l)) ∧ LGo w0 w p S (putL L l) M w' := by
  obtain ⟨sv, m, K, hA, hO, hK⟩ := h.ex
  refine (aput_any w ht.tab p m sv K L M hA v l hl hL).mono fun e w' hh => ?_
  obtain ⟨he, hst⟩ := put_step hA hh
  exact ⟨he, h.to hw hO hK hst⟩
theorem ljump_any (h : Lst w0 w p S L M) (ht : TabLo w0 w) (hw : w0 ≤ w.heap.size) {c : Int} (hc0 : 0 ≤ c) (hc1 : c < 256) {nm : ByteArray} (hs : nm.size ≤ maxLen) (hL : L.length < 4294967296) :
    Calls Tryd.prog 79 #[.pointer (some ⟨p, 0, none⟩), .int .u8 c, .string nm] w fun e w' => e = .returned (.int .i64 (jumpE c)) ∧ LGo w0 w p S (jumpL L 17 c nm) M w' := by
  obtain ⟨sv, m, K, hA, hO, hK⟩ := h.ex
  refine (ajump_any w ht.tab p m sv K L M hA c hc0 hc1 nm hs hL).mono fun e w' hh => ?_
  obtain ⟨he, hst⟩ := far_step hA (jump_may hc0) hh
  exact ⟨he, h.to hw hO hK hst⟩
theorem lcall_any (h : Lst w0 w p S L M) (ht : TabLo w0 w) (hw : w0 ≤ w.heap.size) {nm : ByteArray} (hs : nm.size ≤ maxLen) (hL : L.length < 4294967296) :
    Calls Tryd.prog 36 #[.pointer (some ⟨p, 0, none⟩), .string nm] w fun e w' => e = .returned (.int .i64 0) ∧ LGo w0 w p S (jumpL L 18 0 nm) M w' := by
  obtain ⟨sv, m, K, hA, hO, hK⟩ := h.ex
  refine (acall_any w ht.tab p m sv K L M hA nm hs hL).mono fun e w' hh => ?_
  obtain ⟨he, hst⟩ := far_step hA (by decide) hh
  exact ⟨he, h.to hw hO hK hst⟩
theorem lconst_any (h : Lst w0 w p S L M) (ht : TabLo w0 w) (hw : w0 ≤ w.heap.size) {rd n : Int} (r0 : 0 ≤ rd) (r1 : rd < 256) (h0 : 0 ≤ n) (h1 : n < 4294967296) (hL : L.length + 2 < 4294967296) :
    Calls Tryd.prog 52 #[.pointer (some ⟨p, 0, none⟩), .int .u8 rd, .int .u32 n] w fun e w' => e = .returned (.int .i64 (putE (partsS rd n))) ∧ LGo w0 w p S (putL L (partsS rd n)) M w' := by
  obtain ⟨sv, m, K, hA, hO, hK⟩ := h.ex
  refine (aconst_any w ht.tab p m sv K L M hA rd n r0 r1 h0 h1 hL).mono fun e w' hh => ?_
  obtain ⟨he, hst⟩ := put_step hA hh
  exact ⟨he, h.to hw hO hK hst⟩
theorem lmark_any (h : Lst w0 w p S L M) (hw : w0 ≤ w.heap.size) {nm : ByteArray} (hs : nm.size ≤ maxLen) (hM : M.length < maxLen) (hL : L.length < 4294967296) :
    Calls Tryd.prog 10 #[.pointer (some ⟨p, 0, none⟩), .string nm] w fun e w' => e = .returned (.int .i64 (markE M nm)) ∧ LGo w0 w p S L (markM M nm (L.length : Int)) w' := by
  obtain ⟨sv, m, K, hA, hO, hK⟩ := h.ex
  refine (amark_step w p m sv K L M hA nm hs hM hL).mono fun e w' hh => ?_
  obtain ⟨he, hst⟩ := hh
  exact ⟨he, h.to hw hO hK hst⟩
end
end Go.Proofs.YtfbbodaapkfbdaaDoor
