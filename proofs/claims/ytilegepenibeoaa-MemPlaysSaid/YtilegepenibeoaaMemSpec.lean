/- A memory as a list of bytes, as it lies in the world; what stays when some blocks may change. No function of the program is walked here. -/
import Derived.WalkKit
import Derived.WalkSpells
import Derived.Deep.QuietTactic
import Derived.BigQuiet
namespace Go.Proofs.Ytilegepenibeoaa
open Go.RowKit
set_option linter.unusedVariables false

/-- Of the blocks that were there only those of S may have changed. -/
structure Only (S : Nat → Prop) (w w' : World) : Prop where
  os : w'.os = w.os
  tape : w'.tape = w.tape
  output : w'.output = w.output
  size : w.heap.size ≤ w'.heap.size
  block : ∀ k, k < w.heap.size → ¬ S k → w'.heap[k]? = w.heap[k]?
theorem Only.refl (S : Nat → Prop) (w : World) : Only S w w := ⟨rfl, rfl, rfl, Nat.le_refl _, fun _ _ _ => rfl⟩
theorem Only.trans {S : Nat → Prop} {a b c : World} (h : Only S a b) (k : Only S b c) : Only S a c :=
  ⟨k.os.trans h.os, k.tape.trans h.tape, k.output.trans h.output, Nat.le_trans h.size k.size, fun i hi hs => (k.block i (Nat.lt_of_lt_of_le hi h.size) hs).trans (h.block i hi hs)⟩
theorem Only.mono {S S' : Nat → Prop} {a b : World} (h : Only S a b) (hs : ∀ k, k < a.heap.size → S k → S' k) : Only S' a b :=
  ⟨h.os, h.tape, h.output, h.size, fun i hi hn => h.block i hi (fun hk => hn (hs i hi hk))⟩
theorem Only.of_below {S : Nat → Prop} {a b : World} (h : Below a.heap.size a b) : Only S a b := ⟨h.os, h.tape, h.output, h.size, fun i hi _ => h.block i hi⟩
theorem Only.below {S : Nat → Prop} {B : Nat} {a b : World} (h : Only S a b) (hB : B ≤ a.heap.size) (hs : ∀ k, k < B → ¬ S k) : Below B a b :=
  ⟨h.os, h.tape, h.output, h.size, fun i hi => h.block i (Nat.lt_of_lt_of_le hi hB) (hs i hi)⟩
theorem Only.cell {S : Nat → Prop} {a b : World} (h : Only S a b) {p : Addr} (hp : p.block < a.heap.size) (hs : ¬ S p.block) : b.cell? p = a.cell? p := World.cell?_of_block (h.block p.block hp hs)
theorem Only.setCell {S : Nat → Prop} {a b : World} (h : Only S a b) {p : Addr} (hp : S p.block) (u : Value) : Only S a (b.setCell p u) :=
  h.trans ⟨rfl, rfl, rfl, by simp [World.setCell], fun k _ hk => Below.heap_setCell _ _ _ _ (fun e => hk (e ▸ hp))⟩
theorem Only.alloc {S : Nat → Prop} {a b : World} (h : Only S a b) (o : Obj) : Only S a (b.alloc o) :=
  h.trans ⟨rfl, rfl, rfl, by simp, fun k hk _ => Below.heap_alloc _ _ _ hk⟩
theorem Only.drew {S : Nat → Prop} {a b : World} (h : Only S a b) : Only S a b.drew := h.trans ⟨rfl, rfl, rfl, Nat.le_refl _, fun _ _ _ => rfl⟩
theorem Only.drewN {S : Nat → Prop} {a b : World} (h : Only S a b) (n : Nat) : Only S a (b.drewN n) := h.trans ⟨rfl, rfl, rfl, Nat.le_refl _, fun _ _ _ => rfl⟩
theorem Only.grown {S : Nat → Prop} {a b c : World} {row : Option Nat} (h : Only S a b) (g : b.grownBy c row) (hr : ∀ k, row = some k → k < a.heap.size → S k) : Only S a c :=
  ⟨g.os.trans h.os, g.tape.trans h.tape, g.output.trans h.output, Nat.le_trans h.size g.size, fun k hk hs =>
    (g.block k (Nat.lt_of_lt_of_le hk h.size) (fun e => hs (hr k e.symm hk))).trans (h.block k hk hs)⟩
/-- What was laid since may change too. -/
theorem Only.fresh {S T : Nat → Prop} {a b c : World} (h : Only S a b) (k : Only T b c) (ht : ∀ i, i < a.heap.size → T i → S i) : Only S a c :=
  ⟨k.os.trans h.os, k.tape.trans h.tape, k.output.trans h.output, Nat.le_trans h.size k.size, fun i hi hs =>
    (k.block i (Nat.lt_of_lt_of_le hi h.size) (fun e => hs (ht i hi e))).trans (h.block i hi hs)⟩

theorem lt_of_block {w : World} {k : Nat} {o : Obj} (h : w.heap[k]? = some o) : k < w.heap.size := (Array.getElem?_eq_some_iff.1 h).1
theorem Only.obj {S : Nat → Prop} {a b : World} (h : Only S a b) {k : Nat} {o : Obj} (hk : a.heap[k]? = some o) (hs : ¬ S k) : b.heap[k]? = some o := (h.block k (lt_of_block hk) hs).trans hk

/-- A row of cells of a block, and a store into it. -/
theorem cell_of_obj {w : World} {g i : Nat} {c : Array Value} {t : TypeId} {fz : Nat × Nat} (h : w.heap[g]? = some (.cells c t fz)) : w.cell? ⟨g, i, none⟩ = c[i]? := by
  simp [World.cell?, h]
theorem free_of_obj {w : World} {g i : Nat} {c : Array Value} {t : TypeId} (h : w.heap[g]? = some (.cells c t (0, 0))) : w.frozen? ⟨g, i, none⟩ = false := by
  simp [World.frozen?, h]
theorem obj_setCell {w : World} {g i : Nat} {c : Array Value} {t : TypeId} {fz : Nat × Nat} (h : w.heap[g]? = some (.cells c t fz)) (v : Value) :
    (w.setCell ⟨g, i, none⟩ v).heap[g]? = some (.cells (c.setIfInBounds i v) t fz) := by
  simp [World.setCell, Array.getElem?_modify, h]
theorem obj_setCell_ne {w : World} {g k i : Nat} (hne : k ≠ g) (v : Value) : (w.setCell ⟨g, i, none⟩ v).heap[k]? = w.heap[k]? := Below.heap_setCell _ _ _ _ hne

/-- Bytes. -/
def Bytes (d : List Int) : Prop := ∀ x ∈ d, 0 ≤ x ∧ x < 256
def u8s (d : List Int) : List Value := d.map (.int .u8)
def u32s (l : List Int) : List Value := l.map (.int .u32)
def Words (l : List Int) : Prop := ∀ x ∈ l, 0 ≤ x ∧ x < 4294967296
/-- The memory at block m has the bytes d, which lie at block g. -/
structure MemAt (w : World) (m g : Nat) (d : List Int) : Prop where
  ptr : ∃ cap, w.heap[m]? = some (.cells #[.slice (some ⟨g, 0, none⟩) d.length cap, .bool true] 73 (0, 0)) ∧ d.length ≤ cap ∧ cap ≤ maxLen
  row : ∃ rest, w.heap[g]? = some (.cells ((u8s d ++ rest).toArray) 5 (0, 0))
  bytes : Bytes d
  ne : m ≠ g
  len : d.length ≤ 4194304
theorem MemAt.keep {S : Nat → Prop} {a b : World} {m g : Nat} {d : List Int} (h : MemAt a m g d) (o : Only S a b) (hm : ¬ S m) (hg : ¬ S g) : MemAt b m g d := by
  obtain ⟨⟨cap, h1, h2⟩, ⟨rest, h3⟩, h4, h5, h6⟩ := h
  exact ⟨⟨cap, o.obj h1 hm, h2⟩, ⟨rest, o.obj h3 hg⟩, h4, h5, h6⟩
theorem MemAt.lt {w : World} {m g : Nat} {d : List Int} (h : MemAt w m g d) : m < w.heap.size ∧ g < w.heap.size := by
  obtain ⟨⟨cap, h1, h2⟩, ⟨rest, h3⟩, _⟩ := h
  exact ⟨lt_of_block h1, lt_of_block h3⟩
theorem MemAt.byte {w : World} {m g : Nat} {d : List Int} (h : MemAt w m g d) {i : Nat} (hi : i < d.length) : w.cell? ⟨g, i, none⟩ = some (.int .u8 (d.getD i 0)) := by
  obtain ⟨_, ⟨rest, h3⟩, _⟩ := h
  rw [cell_of_obj h3]
  simp [u8s, List.getElem?_append, hi]
theorem MemAt.free {w : World} {m g : Nat} {d : List Int} (h : MemAt w m g d) (i : Nat) : w.frozen? ⟨g, i, none⟩ = false := by
  obtain ⟨_, ⟨rest, h3⟩, _⟩ := h
  exact free_of_obj h3
theorem Bytes.at {d : List Int} (h : Bytes d) (i : Nat) : 0 ≤ d.getD i 0 ∧ d.getD i 0 < 256 := by
  rw [List.getD_eq_getElem?_getD]
  cases hd : d[i]? with
  | none => simp
  | some x => exact h x (List.mem_of_getElem? hd)
theorem Bytes.set {d : List Int} (h : Bytes d) (i : Nat) {x : Int} (hx : 0 ≤ x ∧ x < 256) : Bytes (d.set i x) := by
  intro y hy
  rcases List.mem_or_eq_of_mem_set hy with h1 | h1
  · exact h y h1
  · exact h1 ▸ hx
theorem Bytes.zeros (n : Nat) : Bytes (List.replicate n 0) := by
  intro x hx; rw [List.eq_of_mem_replicate hx]; omega
/-- One byte stored. -/
theorem MemAt.set {w : World} {m g : Nat} {d : List Int} (h : MemAt w m g d) {i : Nat} (hi : i < d.length) {x : Int} (hx : 0 ≤ x ∧ x < 256) : MemAt (w.setCell ⟨g, i, none⟩ (.int .u8 x)) m g (d.set i x) := by
  obtain ⟨⟨cap, h1, h2⟩, ⟨rest, h3⟩, h4, h5, h6⟩ := h
  refine ⟨⟨cap, by rw [obj_setCell_ne h5, h1]; simp, by simpa using h2⟩, ⟨rest, ?_⟩, h4.set i hx, h5, by simpa using h6⟩
  rw [obj_setCell h3]
  simp [u8s, hi, List.map_set]

/-- What a load reads; what a store leaves; of one byte, or of four, the first one the highest. -/
def loadS (d : List Int) (a many : Nat) : Int :=
  if many = 4 then ((d.getD a 0 * 256 + d.getD (a + 1) 0) * 256 + d.getD (a + 2) 0) * 256 + d.getD (a + 3) 0 else d.getD a 0
def storeS (d : List Int) (a many : Nat) (x : Int) : List Int :=
  if many = 4 then (((d.set (a + 3) (x % 256)).set (a + 2) (x / 256 % 256)).set (a + 1) (x / 65536 % 256)).set a (x / 16777216 % 256) else d.set a (x % 256)
/-- The error of so many things of so many bytes at an address. -/
def spanE (n : Nat) (a : Int) (many bytes : Int) : Int :=
  if many < 0 ∨ (bytes ≠ 1 ∧ bytes ≠ 4) then 2 else if a % bytes ≠ 0 then 51 else if (n : Int) < a ∨ (((n : Int) - a) / bytes < many) then 50 else 0
def putS (d : List Int) (a : Nat) : List Int → List Int
  | [] => d
  | x :: l => putS (storeS d a 4 x) (a + 4) l
def wordsS (d : List Int) (a : Nat) (n : Nat) : List Int := (List.range n).map fun i => loadS d (a + 4 * i) 4
theorem storeS_len (d : List Int) (a many : Nat) (x : Int) : (storeS d a many x).length = d.length := by unfold storeS; split <;> simp
theorem putS_len (l : List Int) : ∀ (d : List Int) (a : Nat), (putS d a l).length = d.length := by
  induction l with
  | nil => intro d a; rfl
  | cons x l ih => intro d a; unfold putS; rw [ih, storeS_len]
theorem Bytes.store {d : List Int} (h : Bytes d) (a many : Nat) (x : Int) : Bytes (storeS d a many x) := by
  unfold storeS
  split
  · exact (((h.set _ (by omega)).set _ (by omega)).set _ (by omega)).set _ (by omega)
  · exact h.set _ (by omega)
theorem loadS_bd {d : List Int} (h : Bytes d) (a many : Nat) : 0 ≤ loadS d a many ∧ loadS d a many < 4294967296 ∧ (many ≠ 4 → loadS d a many < 256) := by
  have h0 := h.at a; have h1 := h.at (a + 1); have h2 := h.at (a + 2); have h3 := h.at (a + 3)
  unfold loadS; split <;> omega
end Go.Proofs.Ytilegepenibeoaa
