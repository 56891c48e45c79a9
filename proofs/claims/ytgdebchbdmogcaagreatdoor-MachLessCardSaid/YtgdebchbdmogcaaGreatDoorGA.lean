/- Several texts in one: Only, VRow, MemSpec, ARow. -/
import Derived.WalkKit
import Derived.Laws.AppendOwn
import Derived.Below
import Derived.Deep.QuietTactic
import Derived.BigQuiet
import Derived.WalkSpells
import Derived.Laws.Rows
/- What stays when some blocks may change; rows of cells. No function of the program is walked here. -/
namespace Go.Proofs.YtgdebchbdmogcaaGreatDoor
open Go.RowKit
set_option linter.unusedVariables false

/-- Of the blocks that were there only those of S may have changed. -/
structure Only (S : Nat → Prop) (w w' : World) : Prop where
  os : w'.os = w.os
  tape : w'.tape = w.tape
  output : w'.output = w.output
  size : w.heap.size ≤ w'.heap.size
  block : ∀ k, k < w.heap.size → ¬ S k → w'.heap[k]? = w.heap[k]?
theorem Only.refl (S : Nat → Prop) (w : World) : Only S w w := ⟨rfl, rfl, rfl, Nat.le_refl _, fun _ _ _ => rfl⟩
theorem Only.trans {S : Nat → Prop} {a b c : World} (h : Only S a b) (k : Only S b c) : Only S a c :=
  ⟨k.os.trans h.os, k.tape.trans h.tape, k.output.trans h.output, Nat.le_trans h.size k.size, fun i hi hs => (k.block i (Nat.lt_of_lt_of_le hi h.size) hs).trans (h.block i hi hs)⟩
theorem Only.mono {S S' : Nat → Prop} {a b : World} (h : Only S a b) (hs : ∀ k, k < a.heap.size → S k → S' k) : Only S' a b :=
  ⟨h.os, h.tape, h.output, h.size, fun i hi hn => h.block i hi (fun hk => hn (hs i hi hk))⟩
theorem Only.of_below {S : Nat → Prop} {a b : World} (h : Below a.heap.size a b) : Only S a b := ⟨h.os, h.tape, h.output, h.size, fun i hi _ => h.block i hi⟩
theorem Only.below {S : Nat → Prop} {B : Nat} {a b : World} (h : Only S a b) (hB : B ≤ a.heap.size) (hs : ∀ k, k < B → ¬ S k) : Below B a b :=
  ⟨h.os, h.tape, h.output, h.size, fun i hi => h.block i (Nat.lt_of_lt_of_le hi hB) (hs i hi)⟩
theorem Only.cell {S : Nat → Prop} {a b : World} (h : Only S a b) {p : Addr} (hp : p.block < a.heap.size) (hs : ¬ S p.block) : b.cell? p = a.cell? p := World.cell?_of_block (h.block p.block hp hs)
theorem Only.setCell {S : Nat → Prop} {a b : World} (h : Only S a b) {p : Addr} (hp : S p.block) (u : Value) : Only S a (b.setCell p u) :=
  h.trans ⟨rfl, rfl, rfl, by simp [World.setCell], fun k _ hk => Below.heap_setCell _ _ _ _ (fun e => hk (e ▸ hp))⟩
theorem Only.alloc {S : Nat → Prop} {a b : World} (h : Only S a b) (o : Obj) : Only S a (b.alloc o) :=
  h.trans ⟨rfl, rfl, rfl, by simp, fun k hk _ => Below.heap_alloc _ _ _ hk⟩
theorem Only.drew {S : Nat → Prop} {a b : World} (h : Only S a b) : Only S a b.drew := h.trans ⟨rfl, rfl, rfl, Nat.le_refl _, fun _ _ _ => rfl⟩
theorem Only.drewN {S : Nat → Prop} {a b : World} (h : Only S a b) (n : Nat) : Only S a (b.drewN n) := h.trans ⟨rfl, rfl, rfl, Nat.le_refl _, fun _ _ _ => rfl⟩
theorem Only.grown {S : Nat → Prop} {a b c : World} {row : Option Nat} (h : Only S a b) (g : b.grownBy c row) (hr : ∀ k, row = some k → k < a.heap.size → S k) : Only S a c :=
  ⟨g.os.trans h.os, g.tape.trans h.tape, g.output.trans h.output, Nat.le_trans h.size g.size, fun k hk hs =>
    (g.block k (Nat.lt_of_lt_of_le hk h.size) (fun e => hs (hr k e.symm hk))).trans (h.block k hk hs)⟩
/-- What was laid since may change too. -/
theorem Only.fresh {S T : Nat → Prop} {a b c : World} (h : Only S a b) (k : Only T b c) (ht : ∀ i, i < a.heap.size → T i → S i) : Only S a c :=
  ⟨k.os.trans h.os, k.tape.trans h.tape, k.output.trans h.output, Nat.le_trans h.size k.size, fun i hi hs =>
    (k.block i (Nat.lt_of_lt_of_le hi h.size) (fun e => hs (ht i hi e))).trans (h.block i hi hs)⟩

theorem lt_of_block {w : World} {k : Nat} {o : Obj} (h : w.heap[k]? = some o) : k < w.heap.size := (Array.getElem?_eq_some_iff.1 h).1
theorem Only.obj {S : Nat → Prop} {a b : World} (h : Only S a b) {k : Nat} {o : Obj} (hk : a.heap[k]? = some o) (hs : ¬ S k) : b.heap[k]? = some o := (h.block k (lt_of_block hk) hs).trans hk

/-- A row of cells of a block, and a store into it. -/
theorem cell_of_obj {w : World} {g i : Nat} {c : Array Value} {t : TypeId} {fz : Nat × Nat} (h : w.heap[g]? = some (.cells c t fz)) : w.cell? ⟨g, i, none⟩ = c[i]? := by
  simp [World.cell?, h]
theorem free_of_obj {w : World} {g i : Nat} {c : Array Value} {t : TypeId} (h : w.heap[g]? = some (.cells c t (0, 0))) : w.frozen? ⟨g, i, none⟩ = false := by
  simp [World.frozen?, h]
theorem obj_setCell {w : World} {g i : Nat} {c : Array Value} {t : TypeId} {fz : Nat × Nat} (h : w.heap[g]? = some (.cells c t fz)) (v : Value) :
    (w.setCell ⟨g, i, none⟩ v).heap[g]? = some (.cells (c.setIfInBounds i v) t fz) := by
  simp [World.setCell, Array.getElem?_modify, h]
theorem obj_setCell_ne {w : World} {g k i : Nat} (hne : k ≠ g) (v : Value) : (w.setCell ⟨g, i, none⟩ v).heap[k]? = w.heap[k]? := Below.heap_setCell _ _ _ _ hne

theorem _root_.Go.World.ownsRow.keepw {S : Nat → Prop} {a b : World} {e : TypeId} {size n : Nat} {v : Value} {xs : List Value} (h : a.ownsRow 0 e size v n xs) (o : Only S a b) (hs : ∀ k, v.ownBlock = some k → ¬ S k) : b.ownsRow 0 e size v n xs := by
  refine ⟨h.1, ?_⟩
  rcases h.2 with h | ⟨g, cap, cur, e1, e2, e3, e4⟩
  · exact .inl h
  · exact .inr ⟨g, cap, cur, e1, e2, o.obj e3 (hs g (by rw [e1]; rfl)), e4⟩
/-- What lies in a row of equally long things. -/
theorem flat_get {α : Type} (f : α → List Value) (s : Nat) (hs : ∀ x, (f x).length = s) : ∀ (l : List α) (k j : Nat) (x : α), l[k]? = some x → j < s → (l.flatMap f)[k * s + j]? = (f x)[j]? := by
  intro l
  induction l with
  | nil => intro k j x h; simp at h
  | cons y l ih =>
    intro k j x h hj
    rw [List.flatMap_cons]
    cases k with
    | zero =>
      simp only [List.getElem?_cons_zero, Option.some.injEq] at h
      subst h
      rw [Nat.zero_mul, Nat.zero_add, List.getElem?_append_left (by rw [hs]; exact hj)]
    | succ k =>
      rw [List.getElem?_cons_succ] at h
      rw [List.getElem?_append_right (by rw [hs, Nat.succ_mul]; omega), hs, show (k + 1) * s + j - s = k * s + j by rw [Nat.succ_mul]; omega]
      exact ih k j x h hj
theorem flat_len {α : Type} (f : α → List Value) (s : Nat) (hs : ∀ x, (f x).length = s) (l : List α) : (l.flatMap f).length = l.length * s := by
  induction l with
  | nil => simp
  | cons y l ih => rw [List.flatMap_cons, List.length_append, ih, hs, List.length_cons, Nat.succ_mul]; omega
theorem addr_add0 (g n : Nat) : (⟨g, 0, none⟩ : Addr).add n = ⟨g, n, none⟩ := by unfold Addr.add; split <;> simp [*]
/-- Cells of a block that was just laid. -/
theorem cells_new (w : World) (cs : Array Value) (t : TypeId) : ∀ (j : Nat) u, cs.toList[j]? = some u → (w.alloc (.cells cs t)).cell? ((⟨w.heap.size, 0, none⟩ : Addr).add j) = some u := fun j u hu => by
  rw [addr_add0]
  simp only [World.cell?, heap_alloc_new w _]
  simpa using hu
theorem own_new (w : World) (B : Nat) (cs : Array Value) (e : TypeId) (n size : Nat) (h : cs.size = n * size) (hn : n ≤ maxLen) (hB : B ≤ w.heap.size) : (w.alloc (.cells cs e)).ownsRow B e size (.slice (some ⟨w.heap.size, 0, none⟩) n n) n cs.toList :=
  ⟨by simp [h], .inr ⟨w.heap.size, n, cs, rfl, hB, heap_alloc_new w _, Nat.le_refl _, hn, h, by rw [← h, show cs.size = cs.toList.length from rfl, List.take_length]⟩⟩
/-- Words. -/
def u32s (l : List Int) : List Value := l.map (.int .u32)
def Words (l : List Int) : Prop := ∀ x ∈ l, 0 ≤ x ∧ x < 4294967296
/-- A slice of words, as it is read; it lies in no block of S. -/
def U32s (S : Nat → Prop) (w : World) (v : Value) (l : List Int) : Prop :=
  Words l ∧ ∃ p c, v = .slice p l.length c ∧ (0 < l.length → ∃ b o, p = some ⟨b, o, none⟩ ∧ ¬ S b ∧ b < w.heap.size ∧ ∀ k, k < l.length → w.cell? ⟨b, o + k, none⟩ = some (.int .u32 (l.getD k 0)))
theorem Words.at {l : List Int} (h : Words l) (i : Nat) : 0 ≤ l.getD i 0 ∧ l.getD i 0 < 4294967296 := by
  rw [List.getD_eq_getElem?_getD]
  cases hd : l[i]? with
  | none => simp
  | some x => exact h x (List.mem_of_getElem? hd)
theorem mhid {p : Prop} (h : p) : Hid p := h
theorem mret_val {a b : Value} (h : a = b) : Ending.returned a = .returned b := by rw [h]
theorem mret_i {k : IntKind} {a b : Int} (h : a = b) : Ending.returned (.int k a) = .returned (.int k b) := by rw [h]
theorem mret_ii {k j : IntKind} {a b c d : Int} (h : a = b) (g : c = d) : Ending.returned (.tuple #[.int k a, .int j c]) = .returned (.tuple #[.int k b, .int j d]) := by rw [h, g]
end Go.Proofs.YtgdebchbdmogcaaGreatDoor
/- Rows of cells that the call made. No function of the program is walked here. -/
namespace Go.Proofs.YtgdebchbdmogcaaGreatDoor
open Go.RowKit
set_option linter.unusedVariables false
set_option linter.unusedSimpArgs false
/-- Block g begins with the cells vs; none is frozen. -/
def VRow (w : World) (g : Nat) (t : TypeId) (vs : List Value) : Prop :=
  ∃ cur : Array Value, w.heap[g]? = some (.cells cur t (0, 0)) ∧ ∀ (k : Nat) x, vs[k]? = some x → cur[k]? = some x
namespace VRow
variable {w w' : World} {g : Nat} {t : TypeId} {vs : List Value}
theorem cell (h : VRow w g t vs) {k : Nat} {x : Value} (hx : vs[k]? = some x) : w.cell? ⟨g, k, none⟩ = some x := by
  obtain ⟨cur, hb, hc⟩ := h
  simp [World.cell?, hb, hc k x hx]
theorem frozen (h : VRow w g t vs) (k : Nat) : w.frozen? ⟨g, k, none⟩ = false := by
  obtain ⟨cur, hb, _⟩ := h
  simp [World.frozen?, hb]
theorem lt (h : VRow w g t vs) : g < w.heap.size := by
  obtain ⟨cur, hb, _⟩ := h
  exact (Array.getElem?_eq_some_iff.1 hb).1
theorem of_block (h : VRow w g t vs) (e : w'.heap[g]? = w.heap[g]?) : VRow w' g t vs := by
  obtain ⟨cur, hb, hc⟩ := h
  exact ⟨cur, e.trans hb, hc⟩
theorem keep {B : Nat} (h : VRow w g t vs) (hb : Below B w w') (hg : g < B) : VRow w' g t vs := h.of_block (hb.block g hg)
theorem below (h : VRow w g t vs) (hb : Below w.heap.size w w') : VRow w' g t vs := h.keep hb h.lt
theorem set (h : VRow w g t vs) {k : Nat} (hk : k < vs.length) (v : Value) : VRow (w.setCell ⟨g, k, none⟩ v) g t (vs.set k v) := by
  obtain ⟨cur, hb, hc⟩ := h
  have hk' : k < cur.size := by
    have := hc k _ (List.getElem?_eq_getElem hk)
    exact (Array.getElem?_eq_some_iff.1 this).1
  refine ⟨cur.setIfInBounds k v, ?_, fun j x hx => ?_⟩
  · simp [World.setCell, Array.getElem?_modify, hb]
  · rw [Array.getElem?_setIfInBounds]
    by_cases e : k = j
    · subst e
      rw [List.getElem?_set_self hk] at hx
      simp [hk', hx]
    · rw [if_neg e]
      rw [List.getElem?_set_ne e] at hx
      exact hc j x hx
theorem other (h : VRow w g t vs) {a : Addr} (ha : g ≠ a.block) (v : Value) : VRow (w.setCell a v) g t vs := h.of_block (Below.heap_setCell _ _ _ _ ha)
theorem alloc (h : VRow w g t vs) (o : Obj) : VRow (w.alloc o) g t vs := h.of_block (Below.heap_alloc _ _ _ h.lt)
theorem of_own {base n : Nat} {v : Value} {xs : List Value} (h : w.ownsRow base t 1 v n xs) (hv : v ≠ .slice none 0 0) : ∃ g c, v = .slice (some ⟨g, 0, none⟩) n c ∧ base ≤ g ∧ VRow w g t xs := by
  rcases h.2 with ⟨rfl, _⟩ | ⟨g, cap, cur, rfl, h2, h3, h4, h5, h6, h7⟩
  · exact absurd rfl hv
  · refine ⟨g, cap, rfl, h2, cur, h3, fun k x hx => ?_⟩
    rw [← h7] at hx
    rw [List.getElem?_take] at hx
    split at hx
    · rw [← Array.getElem?_toList]; exact hx
    · cases hx
end VRow
end Go.Proofs.YtgdebchbdmogcaaGreatDoor
/- A memory as a list of bytes, as it lies in the world; what stays when some blocks may change. No function of the program is walked here. -/
namespace Go.Proofs.YtgdebchbdmogcaaGreatDoor
open Go.RowKit
set_option linter.unusedVariables false

/-- Bytes. -/
def Bytes (d : List Int) : Prop := ∀ x ∈ d, 0 ≤ x ∧ x < 256
def u8s (d : List Int) : List Value := d.map (.int .u8)
/-- The memory at block m has the bytes d, which lie at block g. -/
structure MemAt (w : World) (m g : Nat) (d : List Int) : Prop where
  ptr : ∃ cap, w.heap[m]? = some (.cells #[.slice (some ⟨g, 0, none⟩) d.length cap, .bool true] 108 (0, 0)) ∧ d.length ≤ cap ∧ cap ≤ maxLen
  row : ∃ rest, w.heap[g]? = some (.cells ((u8s d ++ rest).toArray) 5 (0, 0))
  bytes : Bytes d
  ne : m ≠ g
  len : d.length ≤ 4194304
theorem MemAt.keep {S : Nat → Prop} {a b : World} {m g : Nat} {d : List Int} (h : MemAt a m g d) (o : Only S a b) (hm : ¬ S m) (hg : ¬ S g) : MemAt b m g d := by
  obtain ⟨⟨cap, h1, h2⟩, ⟨rest, h3⟩, h4, h5, h6⟩ := h
  exact ⟨⟨cap, o.obj h1 hm, h2⟩, ⟨rest, o.obj h3 hg⟩, h4, h5, h6⟩
theorem MemAt.lt {w : World} {m g : Nat} {d : List Int} (h : MemAt w m g d) : m < w.heap.size ∧ g < w.heap.size := by
  obtain ⟨⟨cap, h1, h2⟩, ⟨rest, h3⟩, _⟩ := h
  exact ⟨lt_of_block h1, lt_of_block h3⟩
theorem MemAt.byte {w : World} {m g : Nat} {d : List Int} (h : MemAt w m g d) {i : Nat} (hi : i < d.length) : w.cell? ⟨g, i, none⟩ = some (.int .u8 (d.getD i 0)) := by
  obtain ⟨_, ⟨rest, h3⟩, _⟩ := h
  rw [cell_of_obj h3]
  simp [u8s, List.getElem?_append, hi]
theorem MemAt.free {w : World} {m g : Nat} {d : List Int} (h : MemAt w m g d) (i : Nat) : w.frozen? ⟨g, i, none⟩ = false := by
  obtain ⟨_, ⟨rest, h3⟩, _⟩ := h
  exact free_of_obj h3
theorem Bytes.at {d : List Int} (h : Bytes d) (i : Nat) : 0 ≤ d.getD i 0 ∧ d.getD i 0 < 256 := by
  rw [List.getD_eq_getElem?_getD]
  cases hd : d[i]? with
  | none => simp
  | some x => exact h x (List.mem_of_getElem? hd)
theorem Bytes.set {d : List Int} (h : Bytes d) (i : Nat) {x : Int} (hx : 0 ≤ x ∧ x < 256) : Bytes (d.set i x) := by
  intro y hy
  rcases List.mem_or_eq_of_mem_set hy with h1 | h1
  · exact h y h1
  · exact h1 ▸ hx
theorem Bytes.zeros (n : Nat) : Bytes (List.replicate n 0) := by
  intro x hx; rw [List.eq_of_mem_replicate hx]; omega
/-- One byte stored. -/
theorem MemAt.set {w : World} {m g : Nat} {d : List Int} (h : MemAt w m g d) {i : Nat} (hi : i < d.length) {x : Int} (hx : 0 ≤ x ∧ x < 256) : MemAt (w.setCell ⟨g, i, none⟩ (.int .u8 x)) m g (d.set i x) := by
  obtain ⟨⟨cap, h1, h2⟩, ⟨rest, h3⟩, h4, h5, h6⟩ := h
  refine ⟨⟨cap, by rw [obj_setCell_ne h5, h1]; simp, by simpa using h2⟩, ⟨rest, ?_⟩, h4.set i hx, h5, by simpa using h6⟩
  rw [obj_setCell h3]
  simp [u8s, hi, List.map_set]

/-- What a load reads; what a store leaves; of one byte, or of four, the first one the highest. -/
def loadS (d : List Int) (a many : Nat) : Int :=
  if many = 4 then ((d.getD a 0 * 256 + d.getD (a + 1) 0) * 256 + d.getD (a + 2) 0) * 256 + d.getD (a + 3) 0 else d.getD a 0
def storeS (d : List Int) (a many : Nat) (x : Int) : List Int :=
  if many = 4 then (((d.set (a + 3) (x % 256)).set (a + 2) (x / 256 % 256)).set (a + 1) (x / 65536 % 256)).set a (x / 16777216 % 256) else d.set a (x % 256)
/-- The error of so many things of so many bytes at an address. -/
def spanE (n : Nat) (a : Int) (many bytes : Int) : Int :=
  if many < 0 ∨ (bytes ≠ 1 ∧ bytes ≠ 4) then 2 else if a % bytes ≠ 0 then 51 else if (n : Int) < a ∨ (((n : Int) - a) / bytes < many) then 50 else 0
def putS (d : List Int) (a : Nat) : List Int → List Int
  | [] => d
  | x :: l => putS (storeS d a 4 x) (a + 4) l
def wordsS (d : List Int) (a : Nat) (n : Nat) : List Int := (List.range n).map fun i => loadS d (a + 4 * i) 4
theorem storeS_len (d : List Int) (a many : Nat) (x : Int) : (storeS d a many x).length = d.length := by unfold storeS; split <;> simp
theorem putS_len (l : List Int) : ∀ (d : List Int) (a : Nat), (putS d a l).length = d.length := by
  induction l with
  | nil => intro d a; rfl
  | cons x l ih => intro d a; unfold putS; rw [ih, storeS_len]
theorem Bytes.store {d : List Int} (h : Bytes d) (a many : Nat) (x : Int) : Bytes (storeS d a many x) := by
  unfold storeS
  split
  · exact (((h.set _ (by omega)).set _ (by omega)).set _ (by omega)).set _ (by omega)
  · exact h.set _ (by omega)
theorem loadS_bd {d : List Int} (h : Bytes d) (a many : Nat) : 0 ≤ loadS d a many ∧ loadS d a many < 4294967296 ∧ (many ≠ 4 → loadS d a many < 256) := by
  have h0 := h.at a; have h1 := h.at (a + 1); have h2 := h.at (a + 2); have h3 := h.at (a + 3)
  unfold loadS; split <;> omega
end Go.Proofs.YtgdebchbdmogcaaGreatDoor
/- A block that is known whole. No function of the program is walked here. -/
namespace Go.Proofs.YtgdebchbdmogcaaGreatDoor
open Go.RowKit
set_option linter.unusedVariables false
/-- Block g has just the cells vs; none is frozen. -/
def ARow (w : World) (g : Nat) (t : TypeId) (vs : List Value) : Prop := w.heap[g]? = some (.cells vs.toArray t (0, 0))
namespace ARow
variable {w w' : World} {g : Nat} {t : TypeId} {vs : List Value}
theorem vrow (h : ARow w g t vs) : VRow w g t vs := ⟨_, h, fun k x hx => by simpa using hx⟩
theorem cell (h : ARow w g t vs) {k : Nat} {x : Value} (hx : vs[k]? = some x) : w.cell? ⟨g, k, none⟩ = some x := h.vrow.cell hx
theorem frozen (h : ARow w g t vs) (k : Nat) : w.frozen? ⟨g, k, none⟩ = false := h.vrow.frozen k
theorem lt (h : ARow w g t vs) : g < w.heap.size := h.vrow.lt
theorem of_block (h : ARow w g t vs) (e : w'.heap[g]? = w.heap[g]?) : ARow w' g t vs := e.trans h
theorem below (h : ARow w g t vs) (hb : Below w.heap.size w w') : ARow w' g t vs := h.of_block (hb.block g h.lt)
theorem set (h : ARow w g t vs) (k : Nat) (v : Value) : ARow (w.setCell ⟨g, k, none⟩ v) g t (vs.set k v) := by
  unfold ARow at *
  rw [obj_setCell h]
  simp
theorem other (h : ARow w g t vs) {a : Addr} (ha : g ≠ a.block) (v : Value) : ARow (w.setCell a v) g t vs := h.of_block (Below.heap_setCell _ _ _ _ ha)
theorem alloc (h : ARow w g t vs) (o : Obj) : ARow (w.alloc o) g t vs := h.of_block (Below.heap_alloc _ _ _ h.lt)
theorem fresh (w : World) (t : TypeId) (cs : Array Value) : ARow (w.alloc (.cells cs t)) w.heap.size t cs.toList := heap_alloc_new w _
theorem setRow (h : ARow w g t vs) (cs : Array Value) : ARow (w.setRow g cs) g t cs.toList := setRow_heap w g _ _ t _ h
theorem setRow_other (h : ARow w g t vs) {k : Nat} (hk : g ≠ k) (cs : Array Value) : ARow (w.setRow k cs) g t vs := h.of_block (Go.setRow_other w k g cs hk)
theorem of_own {base n : Nat} {v : Value} {xs : List Value} (h : w.ownsRow base t 1 v n xs) (hv : v ≠ .slice none 0 0) : True := trivial
end ARow
end Go.Proofs.YtgdebchbdmogcaaGreatDoor
