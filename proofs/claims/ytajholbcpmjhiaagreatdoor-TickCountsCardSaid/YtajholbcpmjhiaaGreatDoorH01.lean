/- Several texts in one: Only, MemSpec, MemWalks, MemLoad, WordSpec. -/
import Derived.WalkKit
import Derived.Laws.AppendOwn
import Derived.Below
import Derived.Deep.QuietTactic
import Derived.BigQuiet
import Derived.WalkSpells
import Derived.Test.YtajholbcpmjhiaaGreatDoorProg
import Derived.Handy
import Derived.WalkLawsBesides
set_option linter.unusedVariables false
/- What stays when some blocks may change; rows of cells. No function of the program is walked here. -/
namespace Go.Proofs.YtajholbcpmjhiaaGreatDoor
open Go.RowKit
structure Only (S : Nat → Prop) (w w' : World) : Prop where
  os : w'.os = w.os
  tape : w'.tape = w.tape
  output : w'.output = w.output
  size : w.heap.size ≤ w'.heap.size
  block : ∀ k, k < w.heap.size → ¬ S k → w'.heap[k]? = w.heap[k]?
theorem Only.refl (S : Nat → Prop) (w : World) : Only S w w := ⟨rfl, rfl, rfl, Nat.le_refl _, fun _ _ _ => rfl⟩
theorem Only.trans {S : Nat → Prop} {a b c : World} (h : Only S a b) (k : Only S b c) : Only S a c :=
  ⟨k.os.trans h.os, k.tape.trans h.tape, k.output.trans h.output, Nat.le_trans h.size k.size, fun i hi hs => (k.block i (Nat.lt_of_lt_of_le hi h.size) hs).trans (h.block i hi hs)⟩
theorem Only.mono {S S' : Nat → Prop} {a b : World} (h : Only S a b) (hs : ∀ k, k < a.heap.size → S k → S' k) : Only S' a b :=
  ⟨h.os, h.tape, h.output, h.size, fun i hi hn => h.block i hi (fun hk => hn (hs i hi hk))⟩
theorem Only.of_below {S : Nat → Prop} {a b : World} (h : Below a.heap.size a b) : Only S a b := ⟨h.os, h.tape, h.output, h.size, fun i hi _ => h.block i hi⟩
theorem Only.below {S : Nat → Prop} {B : Nat} {a b : World} (h : Only S a b) (hB : B ≤ a.heap.size) (hs : ∀ k, k < B → ¬ S k) : Below B a b :=
  ⟨h.os, h.tape, h.output, h.size, fun i hi => h.block i (Nat.lt_of_lt_of_le hi hB) (hs i hi)⟩
theorem Only.cell {S : Nat → Prop} {a b : World} (h : Only S a b) {p : Addr} (hp : p.block < a.heap.size) (hs : ¬ S p.block) : b.cell? p = a.cell? p := World.cell?_of_block (h.block p.block hp hs)
theorem Only.setCell {S : Nat → Prop} {a b : World} (h : Only S a b) {p : Addr} (hp : S p.block) (u : Value) : Only S a (b.setCell p u) :=
  h.trans ⟨rfl, rfl, rfl, by simp [World.setCell], fun k _ hk => Below.heap_setCell _ _ _ _ (fun e => hk (e ▸ hp))⟩
theorem Only.alloc {S : Nat → Prop} {a b : World} (h : Only S a b) (o : Obj) : Only S a (b.alloc o) :=
  h.trans ⟨rfl, rfl, rfl, by simp, fun k hk _ => Below.heap_alloc _ _ _ hk⟩
theorem Only.drew {S : Nat → Prop} {a b : World} (h : Only S a b) : Only S a b.drew := h.trans ⟨rfl, rfl, rfl, Nat.le_refl _, fun _ _ _ => rfl⟩
theorem Only.drewN {S : Nat → Prop} {a b : World} (h : Only S a b) (n : Nat) : Only S a (b.drewN n) := h.trans ⟨rfl, rfl, rfl, Nat.le_refl _, fun _ _ _ => rfl⟩
theorem Only.grown {S : Nat → Prop} {a b c : World} {row : Option Nat} (h : Only S a b) (g : b.grownBy c row) (hr : ∀ k, row = some k → k < a.heap.size → S k) : Only S a c :=
  ⟨g.os.trans h.os, g.tape.trans h.tape, g.output.trans h.output, Nat.le_trans h.size g.size, fun k hk hs =>
    (g.block k (Nat.lt_of_lt_of_le hk h.size) (fun e => hs (hr k e.symm hk))).trans (h.block k hk hs)⟩
theorem Only.fresh {S T : Nat → Prop} {a b c : World} (h : Only S a b) (k : Only T b c) (ht : ∀ i, i < a.heap.size → T i → S i) : Only S a c :=
  ⟨k.os.trans h.os, k.tape.trans h.tape, k.output.trans h.output, Nat.le_trans h.size k.size, fun i hi hs =>
    (k.block i (Nat.lt_of_lt_of_le hi h.size) (fun e => hs (ht i hi e))).trans (h.block i hi hs)⟩
theorem lt_of_block {w : World} {k : Nat} {o : Obj} (h : w.heap[k]? = some o) : k < w.heap.size := (Array.getElem?_eq_some_iff.1 h).1
theorem Only.obj {S : Nat → Prop} {a b : World} (h : Only S a b) {k : Nat} {o : Obj} (hk : a.heap[k]? = some o) (hs : ¬ S k) : b.heap[k]? = some o := (h.block k (lt_of_block hk) hs).trans hk
theorem cell_of_obj {w : World} {g i : Nat} {c : Array Value} {t : TypeId} {fz : Nat × Nat} (h : w.heap[g]? = some (.cells c t fz)) : w.cell? ⟨g, i, none⟩ = c[i]? := by
  simp [World.cell?, h]
theorem free_of_obj {w : World} {g i : Nat} {c : Array Value} {t : TypeId} (h : w.heap[g]? = some (.cells c t (0, 0))) : w.frozen? ⟨g, i, none⟩ = false := by
  simp [World.frozen?, h]
theorem obj_setCell {w : World} {g i : Nat} {c : Array Value} {t : TypeId} {fz : Nat × Nat} (h : w.heap[g]? = some (.cells c t fz)) (v : Value) :
    (w.setCell ⟨g, i, none⟩ v).heap[g]? = some (.cells (c.setIfInBounds i v) t fz) := by
  simp [World.setCell, Array.getElem?_modify, h]
theorem obj_setCell_ne {w : World} {g k i : Nat} (hne : k ≠ g) (v : Value) : (w.setCell ⟨g, i, none⟩ v).heap[k]? = w.heap[k]? := Below.heap_setCell _ _ _ _ hne
theorem _root_.Go.World.ownsRow.keepw {S : Nat → Prop} {a b : World} {e : TypeId} {size n : Nat} {v : Value} {xs : List Value} (h : a.ownsRow 0 e size v n xs) (o : Only S a b) (hs : ∀ k, v.ownBlock = some k → ¬ S k) : b.ownsRow 0 e size v n xs := by
  refine ⟨h.1, ?_⟩
  rcases h.2 with h | ⟨g, cap, cur, e1, e2, e3, e4⟩
  · exact .inl h
  · exact .inr ⟨g, cap, cur, e1, e2, o.obj e3 (hs g (by rw [e1]; rfl)), e4⟩
theorem flat_get {α : Type} (f : α → List Value) (s : Nat) (hs : ∀ x, (f x).length = s) : ∀ (l : List α) (k j : Nat) (x : α), l[k]? = some x → j < s → (l.flatMap f)[k * s + j]? = (f x)[j]? := by
  intro l
  induction l with
  | nil => intro k j x h; simp at h
  | cons y l ih =>
    intro k j x h hj
    rw [List.flatMap_cons]
    cases k with
    | zero =>
      simp only [List.getElem?_cons_zero, Option.some.injEq] at h
      subst h
      rw [Nat.zero_mul, Nat.zero_add, List.getElem?_append_left (by rw [hs]; exact hj)]
    | succ k =>
      rw [List.getElem?_cons_succ] at h
      rw [List.getElem?_append_right (by rw [hs, Nat.succ_mul]; omega), hs, show (k + 1) * s + j - s = k * s + j by rw [Nat.succ_mul]; omega]
      exact ih k j x h hj
theorem addr_add0 (g n : Nat) : (⟨g, 0, none⟩ : Addr).add n = ⟨g, n, none⟩ := by unfold Addr.add; split <;> simp [*]
theorem cells_new (w : World) (cs : Array Value) (t : TypeId) : ∀ (j : Nat) u, cs.toList[j]? = some u → (w.alloc (.cells cs t)).cell? ((⟨w.heap.size, 0, none⟩ : Addr).add j) = some u := fun j u hu => by
  rw [addr_add0]
  simp only [World.cell?, heap_alloc_new w _]
  simpa using hu
theorem own_new (w : World) (B : Nat) (cs : Array Value) (e : TypeId) (n size : Nat) (h : cs.size = n * size) (hn : n ≤ maxLen) (hB : B ≤ w.heap.size) : (w.alloc (.cells cs e)).ownsRow B e size (.slice (some ⟨w.heap.size, 0, none⟩) n n) n cs.toList :=
  ⟨by simp [h], .inr ⟨w.heap.size, n, cs, rfl, hB, heap_alloc_new w _, Nat.le_refl _, hn, h, by rw [← h, show cs.size = cs.toList.length from rfl, List.take_length]⟩⟩
def u32s (l : List Int) : List Value := l.map (.int .u32)
def Words (l : List Int) : Prop := ∀ x ∈ l, 0 ≤ x ∧ x < 4294967296
def U32s (S : Nat → Prop) (w : World) (v : Value) (l : List Int) : Prop :=
  Words l ∧ ∃ p c, v = .slice p l.length c ∧ (0 < l.length → ∃ b o, p = some ⟨b, o, none⟩ ∧ ¬ S b ∧ b < w.heap.size ∧ ∀ k, k < l.length → w.cell? ⟨b, o + k, none⟩ = some (.int .u32 (l.getD k 0)))
theorem Words.at {l : List Int} (h : Words l) (i : Nat) : 0 ≤ l.getD i 0 ∧ l.getD i 0 < 4294967296 := by
  rw [List.getD_eq_getElem?_getD]
  cases hd : l[i]? with
  | none => simp
  | some x => exact h x (List.mem_of_getElem? hd)
theorem mhid {p : Prop} (h : p) : Hid p := h
theorem mret_val {a b : Value} (h : a = b) : Ending.returned a = .returned b := by rw [h]
theorem mret_i {k : IntKind} {a b : Int} (h : a = b) : Ending.returned (.int k a) = .returned (.int k b) := by rw [h]
theorem mret_ii {k j : IntKind} {a b c d : Int} (h : a = b) (g : c = d) : Ending.returned (.tuple #[.int k a, .int j c]) = .returned (.tuple #[.int k b, .int j d]) := by rw [h, g]
end Go.Proofs.YtajholbcpmjhiaaGreatDoor
/- A memory as a list of bytes, as it lies in the world; what stays when some blocks may change. No function of the program is walked here. -/
namespace Go.Proofs.YtajholbcpmjhiaaGreatDoor
open Go.RowKit
def Bytes (d : List Int) : Prop := ∀ x ∈ d, 0 ≤ x ∧ x < 256
def u8s (d : List Int) : List Value := d.map (.int .u8)
structure MemAt (w : World) (m g : Nat) (d : List Int) : Prop where
  ptr : ∃ cap, w.heap[m]? = some (.cells #[.slice (some ⟨g, 0, none⟩) d.length cap, .bool true] 191 (0, 0)) ∧ d.length ≤ cap ∧ cap ≤ maxLen
  row : ∃ rest, w.heap[g]? = some (.cells ((u8s d ++ rest).toArray) 5 (0, 0))
  bytes : Bytes d
  ne : m ≠ g
  len : d.length ≤ 4194304
theorem MemAt.keep {S : Nat → Prop} {a b : World} {m g : Nat} {d : List Int} (h : MemAt a m g d) (o : Only S a b) (hm : ¬ S m) (hg : ¬ S g) : MemAt b m g d := by
  obtain ⟨⟨cap, h1, h2⟩, ⟨rest, h3⟩, h4, h5, h6⟩ := h
  exact ⟨⟨cap, o.obj h1 hm, h2⟩, ⟨rest, o.obj h3 hg⟩, h4, h5, h6⟩
theorem MemAt.lt {w : World} {m g : Nat} {d : List Int} (h : MemAt w m g d) : m < w.heap.size ∧ g < w.heap.size := by
  obtain ⟨⟨cap, h1, h2⟩, ⟨rest, h3⟩, _⟩ := h
  exact ⟨lt_of_block h1, lt_of_block h3⟩
theorem MemAt.byte {w : World} {m g : Nat} {d : List Int} (h : MemAt w m g d) {i : Nat} (hi : i < d.length) : w.cell? ⟨g, i, none⟩ = some (.int .u8 (d.getD i 0)) := by
  obtain ⟨_, ⟨rest, h3⟩, _⟩ := h
  rw [cell_of_obj h3]
  simp [u8s, List.getElem?_append, hi]
theorem MemAt.free {w : World} {m g : Nat} {d : List Int} (h : MemAt w m g d) (i : Nat) : w.frozen? ⟨g, i, none⟩ = false := by
  obtain ⟨_, ⟨rest, h3⟩, _⟩ := h
  exact free_of_obj h3
theorem Bytes.at {d : List Int} (h : Bytes d) (i : Nat) : 0 ≤ d.getD i 0 ∧ d.getD i 0 < 256 := by
  rw [List.getD_eq_getElem?_getD]
  cases hd : d[i]? with
  | none => simp
  | some x => exact h x (List.mem_of_getElem? hd)
theorem Bytes.set {d : List Int} (h : Bytes d) (i : Nat) {x : Int} (hx : 0 ≤ x ∧ x < 256) : Bytes (d.set i x) := by
  intro y hy
  rcases List.mem_or_eq_of_mem_set hy with h1 | h1
  · exact h y h1
  · exact h1 ▸ hx
theorem Bytes.zeros (n : Nat) : Bytes (List.replicate n 0) := by
  intro x hx; rw [List.eq_of_mem_replicate hx]; omega
theorem MemAt.set {w : World} {m g : Nat} {d : List Int} (h : MemAt w m g d) {i : Nat} (hi : i < d.length) {x : Int} (hx : 0 ≤ x ∧ x < 256) : MemAt (w.setCell ⟨g, i, none⟩ (.int .u8 x)) m g (d.set i x) := by
  obtain ⟨⟨cap, h1, h2⟩, ⟨rest, h3⟩, h4, h5, h6⟩ := h
  refine ⟨⟨cap, by rw [obj_setCell_ne h5, h1]; simp, by simpa using h2⟩, ⟨rest, ?_⟩, h4.set i hx, h5, by simpa using h6⟩
  rw [obj_setCell h3]
  simp [u8s, hi, List.map_set]
def loadS (d : List Int) (a many : Nat) : Int :=
  if many = 4 then ((d.getD a 0 * 256 + d.getD (a + 1) 0) * 256 + d.getD (a + 2) 0) * 256 + d.getD (a + 3) 0 else d.getD a 0
def storeS (d : List Int) (a many : Nat) (x : Int) : List Int :=
  if many = 4 then (((d.set (a + 3) (x % 256)).set (a + 2) (x / 256 % 256)).set (a + 1) (x / 65536 % 256)).set a (x / 16777216 % 256) else d.set a (x % 256)
def spanE (n : Nat) (a : Int) (many bytes : Int) : Int :=
  if many < 0 ∨ (bytes ≠ 1 ∧ bytes ≠ 4) then 2 else if a % bytes ≠ 0 then 51 else if (n : Int) < a ∨ (((n : Int) - a) / bytes < many) then 50 else 0
def putS (d : List Int) (a : Nat) : List Int → List Int
  | [] => d
  | x :: l => putS (storeS d a 4 x) (a + 4) l
def wordsS (d : List Int) (a : Nat) (n : Nat) : List Int := (List.range n).map fun i => loadS d (a + 4 * i) 4
theorem storeS_len (d : List Int) (a many : Nat) (x : Int) : (storeS d a many x).length = d.length := by unfold storeS; split <;> simp
theorem putS_len (l : List Int) : ∀ (d : List Int) (a : Nat), (putS d a l).length = d.length := by
  induction l with
  | nil => intro d a; rfl
  | cons x l ih => intro d a; unfold putS; rw [ih, storeS_len]
theorem Bytes.store {d : List Int} (h : Bytes d) (a many : Nat) (x : Int) : Bytes (storeS d a many x) := by
  unfold storeS
  split
  · exact (((h.set _ (by omega)).set _ (by omega)).set _ (by omega)).set _ (by omega)
  · exact h.set _ (by omega)
theorem loadS_bd {d : List Int} (h : Bytes d) (a many : Nat) : 0 ≤ loadS d a many ∧ loadS d a many < 4294967296 ∧ (many ≠ 4 → loadS d a many < 256) := by
  have h0 := h.at a; have h1 := h.at (a + 1); have h2 := h.at (a + 2); have h3 := h.at (a + 3)
  unfold loadS; split <;> omega
end Go.Proofs.YtajholbcpmjhiaaGreatDoor
/- The walks of the package mem. -/
namespace Go.Proofs.YtajholbcpmjhiaaGreatDoor
open Go.RowKit
theorem MemAt.cells {w : World} {m g : Nat} {d : List Int} (h : MemAt w m g d) : ∃ cap, w.cell? ⟨m, 0, none⟩ = some (.slice (some ⟨g, 0, none⟩) d.length cap) ∧ w.cell? ⟨m, 1, none⟩ = some (.bool true) ∧ d.length ≤ cap ∧ cap ≤ maxLen := by
  obtain ⟨⟨cap, h1, h2⟩, _⟩ := h
  exact ⟨cap, by rw [cell_of_obj h1]; rfl, by rw [cell_of_obj h1]; rfl, h2⟩
theorem none_made (w : World) (m : Nat) (h : w.cell? ⟨m, 1, none⟩ = some (.bool true)) : Calls Tryz.prog 128 #[.pointer (some ⟨m, 0, none⟩)] w fun e w' => e = .returned (.bool false) ∧ w = w' := by
  go_enter Tryz.func128, Tryz.ntmps128
  go_wp2
  go_ret
  exact ⟨rfl, rfl⟩
def SpanV (g a n : Nat) (v : Value) : Prop := ∃ b, v = .slice (some ⟨g, b, none⟩) n n ∧ (n = 0 ∨ b = a)
def SpanOk (g a n : Nat) (w : World) (e : Ending) (w' : World) : Prop := (∃ v, e = .returned (.tuple #[v, .int .i64 0]) ∧ SpanV g a n v) ∧ w = w'
theorem spanV_of {g a b n n' : Nat} (h1 : n' = n) (h2 : n = 0 ∨ b = a) : SpanV g a n (.slice (some ⟨g, b, none⟩) n' n') := by subst h1; exact ⟨b, rfl, h2⟩
set_option maxHeartbeats 400000 in
theorem span_ok1 (w : World) (m g : Nat) (d : List Int) (h : MemAt w m g d) (a : Int) (many : Int) (ha : 0 ≤ a) (ha2 : a < 4294967296) (hm : 0 ≤ many) (hr : a + 1 * many ≤ d.length) :
    Calls Tryz.prog 63 #[.pointer (some ⟨m, 0, none⟩), .int .u32 a, .int .i64 many, .int .i64 1] w (SpanOk g a.toNat (many).toNat w) := by
  obtain ⟨cap, c0, c1, hcap, hcap2⟩ := h.cells
  have hlen := h.len
  unfold maxLen at hcap2
  clear h
  have hn := none_made w m c1
  go_enter Tryz.func63, Tryz.ntmps63
  go_wp2_with fail
  refine hn.mono ?_
  rintro e w' ⟨rfl, rfl⟩
  go_wp2_with fail
  all_goals
    go_ret2
    refine ⟨⟨_, rfl, ?_⟩, rfl⟩
    exact spanV_of (by omega) (by omega)
set_option maxHeartbeats 400000 in
theorem span_ok4 (w : World) (m g : Nat) (d : List Int) (h : MemAt w m g d) (a : Int) (many : Int) (ha : 0 ≤ a) (ha2 : a < 4294967296) (hm : 0 ≤ many) (hr : a + 4 * many ≤ d.length) (hal : a % 4 = 0) :
    Calls Tryz.prog 63 #[.pointer (some ⟨m, 0, none⟩), .int .u32 a, .int .i64 many, .int .i64 4] w (SpanOk g a.toNat (4 * many).toNat w) := by
  obtain ⟨cap, c0, c1, hcap, hcap2⟩ := h.cells
  have hlen := h.len
  unfold maxLen at hcap2
  clear h
  have hn := none_made w m c1
  go_enter Tryz.func63, Tryz.ntmps63
  go_wp2_with fail
  refine hn.mono ?_
  rintro e w' ⟨rfl, rfl⟩
  go_wp2_with fail
  all_goals
    go_ret2
    refine ⟨⟨_, rfl, ?_⟩, rfl⟩
    exact spanV_of (by omega) (by omega)
set_option maxHeartbeats 400000 in
theorem span_neg (w : World) (m g : Nat) (d : List Int) (h : MemAt w m g d) (a : Int) (many : Int) (ha : 0 ≤ a) (ha2 : a < 4294967296) (bytes : Int) (hm : many < 0) :
    Calls Tryz.prog 63 #[.pointer (some ⟨m, 0, none⟩), .int .u32 a, .int .i64 many, .int .i64 bytes] w (fun e w' => e = .returned (.tuple #[.slice none 0 0, .int .i64 2]) ∧ w = w') := by
  obtain ⟨cap, c0, c1, hcap, hcap2⟩ := h.cells
  have hlen := h.len
  unfold maxLen at hcap2
  clear h
  have hn := none_made w m c1
  go_enter Tryz.func63, Tryz.ntmps63
  go_wp2_with fail
  refine hn.mono ?_
  rintro e w' ⟨rfl, rfl⟩
  go_wp2_with fail
  go_ret2
  exact ⟨rfl, rfl⟩
set_option maxHeartbeats 400000 in
theorem span_bad (w : World) (m g : Nat) (d : List Int) (h : MemAt w m g d) (a : Int) (many : Int) (ha : 0 ≤ a) (ha2 : a < 4294967296) (bytes : Int) (hm : 0 ≤ many) (hb : bytes ≠ 1 ∧ bytes ≠ 4) :
    Calls Tryz.prog 63 #[.pointer (some ⟨m, 0, none⟩), .int .u32 a, .int .i64 many, .int .i64 bytes] w (fun e w' => e = .returned (.tuple #[.slice none 0 0, .int .i64 2]) ∧ w = w') := by
  have h1 : (bytes == 1) = false := by simpa using hb.1
  have h2 : (bytes == 4) = false := by simpa using hb.2
  have h3 : (bytes != 1) = true := by simpa using hb.1
  have h4 : (bytes != 4) = true := by simpa using hb.2
  obtain ⟨cap, c0, c1, hcap, hcap2⟩ := h.cells
  have hlen := h.len
  unfold maxLen at hcap2
  clear h
  have hn := none_made w m c1
  go_enter Tryz.func63, Tryz.ntmps63
  go_wp2_with fail
  refine hn.mono ?_
  rintro e w' ⟨rfl, rfl⟩
  go_wp2_with fail
  go_ret2
  exact ⟨rfl, rfl⟩
set_option maxHeartbeats 400000 in
theorem span_align (w : World) (m g : Nat) (d : List Int) (h : MemAt w m g d) (a : Int) (many : Int) (ha : 0 ≤ a) (ha2 : a < 4294967296) (hm : 0 ≤ many) (hal : ¬ a % 4 = 0) :
    Calls Tryz.prog 63 #[.pointer (some ⟨m, 0, none⟩), .int .u32 a, .int .i64 many, .int .i64 4] w (fun e w' => e = .returned (.tuple #[.slice none 0 0, .int .i64 51]) ∧ w = w') := by
  obtain ⟨cap, c0, c1, hcap, hcap2⟩ := h.cells
  have hlen := h.len
  unfold maxLen at hcap2
  clear h
  have hn := none_made w m c1
  go_enter Tryz.func63, Tryz.ntmps63
  go_wp2_with fail
  refine hn.mono ?_
  rintro e w' ⟨rfl, rfl⟩
  go_wp2_with fail
  go_ret2
  exact ⟨rfl, rfl⟩
set_option maxHeartbeats 400000 in
theorem span_range1 (w : World) (m g : Nat) (d : List Int) (h : MemAt w m g d) (a : Int) (many : Int) (ha : 0 ≤ a) (ha2 : a < 4294967296) (hm : 0 ≤ many) (hm3 : many ≤ 9223372036854775807) (hr : (d.length : Int) < a + 1 * many) :
    Calls Tryz.prog 63 #[.pointer (some ⟨m, 0, none⟩), .int .u32 a, .int .i64 many, .int .i64 1] w (fun e w' => e = .returned (.tuple #[.slice none 0 0, .int .i64 50]) ∧ w = w') := by
  obtain ⟨cap, c0, c1, hcap, hcap2⟩ := h.cells
  have hlen := h.len
  unfold maxLen at hcap2
  clear h
  have hn := none_made w m c1
  by_cases hx : (d.length : Int) < a
  · have hx1 : decide ((d.length : Int) < a) = true := by simpa using hx
    go_enter Tryz.func63, Tryz.ntmps63
    go_wp2_with fail
    refine hn.mono ?_
    rintro e w' ⟨rfl, rfl⟩
    go_wp2_with fail
    go_ret2
    exact ⟨rfl, rfl⟩
  · have hx1 : decide ((d.length : Int) < a) = false := by simpa using hx
    have hx2 : ((d.length : Int) - a) / 1 < many := by omega
    go_enter Tryz.func63, Tryz.ntmps63
    go_wp2_with fail
    refine hn.mono ?_
    rintro e w' ⟨rfl, rfl⟩
    go_wp2_with fail
    go_ret2
    exact ⟨rfl, rfl⟩
set_option maxHeartbeats 400000 in
theorem span_range4 (w : World) (m g : Nat) (d : List Int) (h : MemAt w m g d) (a : Int) (many : Int) (ha : 0 ≤ a) (ha2 : a < 4294967296) (hm : 0 ≤ many) (hal : a % 4 = 0) (hm3 : many ≤ 9223372036854775807) (hr : (d.length : Int) < a + 4 * many) :
    Calls Tryz.prog 63 #[.pointer (some ⟨m, 0, none⟩), .int .u32 a, .int .i64 many, .int .i64 4] w (fun e w' => e = .returned (.tuple #[.slice none 0 0, .int .i64 50]) ∧ w = w') := by
  obtain ⟨cap, c0, c1, hcap, hcap2⟩ := h.cells
  have hlen := h.len
  unfold maxLen at hcap2
  clear h
  have hn := none_made w m c1
  by_cases hx : (d.length : Int) < a
  · have hx1 : decide ((d.length : Int) < a) = true := by simpa using hx
    go_enter Tryz.func63, Tryz.ntmps63
    go_wp2_with fail
    refine hn.mono ?_
    rintro e w' ⟨rfl, rfl⟩
    go_wp2_with fail
    go_ret2
    exact ⟨rfl, rfl⟩
  · have hx1 : decide ((d.length : Int) < a) = false := by simpa using hx
    have hx2 : ((d.length : Int) - a) / 4 < many := by omega
    go_enter Tryz.func63, Tryz.ntmps63
    go_wp2_with fail
    refine hn.mono ?_
    rintro e w' ⟨rfl, rfl⟩
    go_wp2_with fail
    go_ret2
    exact ⟨rfl, rfl⟩
end Go.Proofs.YtajholbcpmjhiaaGreatDoor
/- The walks of mem.word and mem.lay, and of loads and stores. -/
namespace Go.Proofs.YtajholbcpmjhiaaGreatDoor
open Go.RowKit
def beS (d : List Int) (a : Nat) : Nat → Int
  | 0 => 0
  | k + 1 => beS d a k * 256 + d.getD (a + k) 0
theorem beS_bd {d : List Int} (h : Bytes d) (a : Nat) : ∀ k, k ≤ 4 → 0 ≤ beS d a k ∧ beS d a k < 4294967296 ∧ (k ≤ 3 → beS d a k < 16777216) := by
  intro k hk
  have h0 := h.at a; have h1 := h.at (a + 1); have h2 := h.at (a + 2); have h3 := h.at (a + 3)
  have hc : k = 0 ∨ k = 1 ∨ k = 2 ∨ k = 3 ∨ k = 4 := by omega
  rcases hc with rfl | rfl | rfl | rfl | rfl <;> simp only [beS, Nat.add_zero] <;> omega
theorem beS_one (d : List Int) (a : Nat) : beS d a 1 = loadS d a 1 := by simp [beS, loadS]
theorem beS_four (d : List Int) (a : Nat) : beS d a 4 = loadS d a 4 := by simp [beS, loadS]
theorem or_byte (X x : Int) (h : 0 ≤ X) (h2 : X < 16777216) (k : 0 ≤ x) (k2 : x < 256) : bits .or .u32 (X * 256) x = X * 256 + x := by
  rw [u32_or _ _ (by omega) (by omega) k (by omega)]
  obtain ⟨A, rfl⟩ := Int.eq_ofNat_of_zero_le h
  obtain ⟨B, rfl⟩ := Int.eq_ofNat_of_zero_le k
  have e : ((A : Int) * 256).toNat = A * 256 := by omega
  rw [e, Int.toNat_natCast, nat_join 8 (A * 256) B (by omega) (by omega)]; omega
theorem word_none (p : Option Addr) (c : Nat) (w : World) : Calls Tryz.prog 65 #[.slice p 0 c] w fun e w' => e = .returned (.int .u32 0) ∧ w = w' := by
  go_enter Tryz.func65, Tryz.ntmps65
  go_wp2
  go_rounds 1
  go_ret
  exact ⟨rfl, rfl⟩
set_option maxHeartbeats 400000 in
theorem mword_any (w : World) (m g : Nat) (d : List Int) (h : MemAt w m g d) (a n c : Nat) (hn : n ≤ 4) (hr : a + n ≤ d.length) :
    Calls Tryz.prog 65 #[.slice (some ⟨g, a, none⟩) n c] w fun e w' => e = .returned (.int .u32 (beS d a n)) ∧ w = w' := by
  go_enter Tryz.func65, Tryz.ntmps65
  go_wp2
  go_loop [3, 4, 7] (fun x _ i => ∃ k : Nat, k ≤ n ∧ i = .int .i64 k ∧ x = .int .u32 (beS d a k)) (fun _ _ i => n - (intOf i).toNat)
  case atStart => exact ⟨0, Nat.zero_le _, rfl, rfl⟩
  case round =>
    obtain ⟨k, hk, rfl, rfl⟩ := hrel
    by_cases hlt : k < n
    · have hcell := h.byte (i := a + k) (by omega)
      have hb := beS_bd h.bytes a k (by omega)
      have hb3 := hb.2.2 (by omega)
      have hx := h.bytes.at (a + k)
      have ho := or_byte (beS d a k) _ hb.1 hb3 hx.1 hx.2
      rw [List.getD_eq_getElem?_getD] at hcell hx ho
      clear h
      go_wp2
      refine ⟨⟨k + 1, by omega, by go_num, ?_⟩, by simp [intOf] <;> omega⟩
      simp [beS]
    · obtain rfl : k = n := by omega
      clear h
      go_wp2
      go_ret
      exact ⟨rfl, rfl⟩
theorem lay_none (p : Option Addr) (c : Nat) (x : Int) (w : World) : Calls Tryz.prog 64 #[.slice p 0 c, .int .u32 x] w fun e w' => e = .returned (.tuple #[]) ∧ w = w' := by
  go_enter Tryz.func64, Tryz.ntmps64
  go_wp2
  go_rounds 1
  go_end0
  exact ⟨rfl, rfl⟩
set_option maxHeartbeats 400000 in
theorem lay_one (w : World) (m g : Nat) (d : List Int) (h : MemAt w m g d) (a c : Nat) (x : Int) (hx : 0 ≤ x) (hx2 : x < 4294967296) (hr : a + 1 ≤ d.length) :
    Calls Tryz.prog 64 #[.slice (some ⟨g, a, none⟩) 1 c, .int .u32 x] w fun e w' => e = .returned (.tuple #[]) ∧ w.setCell ⟨g, a, none⟩ (.int .u8 (x % 256)) = w' := by
  have hc := h.byte (i := a) (by omega)
  have hf := h.free a
  clear h
  go_enter Tryz.func64, Tryz.ntmps64
  go_wp2
  go_rounds 2
  go_end0
  exact ⟨rfl, rfl⟩
def laid4 (w : World) (g a : Nat) (x : Int) : World :=
  (((w.setCell ⟨g, a + 3, none⟩ (.int .u8 (x % 256))).setCell ⟨g, a + 2, none⟩ (.int .u8 (x / 256 % 256))).setCell ⟨g, a + 1, none⟩ (.int .u8 (x / 65536 % 256))).setCell ⟨g, a, none⟩ (.int .u8 (x / 16777216 % 256))
set_option maxHeartbeats 400000 in
theorem lay_four (w : World) (m g : Nat) (d : List Int) (h : MemAt w m g d) (a c : Nat) (x : Int) (hx : 0 ≤ x) (hx2 : x < 4294967296) (hr : a + 4 ≤ d.length) :
    Calls Tryz.prog 64 #[.slice (some ⟨g, a, none⟩) 4 c, .int .u32 x] w fun e w' => e = .returned (.tuple #[]) ∧ laid4 w g a x = w' := by
  have hc := h.byte (i := a) (by omega)
  have hc1 := h.byte (i := a + 1) (by omega)
  have hc2 := h.byte (i := a + 2) (by omega)
  have hc3 := h.byte (i := a + 3) (by omega)
  have hf := h.free a
  have hf1 := h.free (a + 1)
  have hf2 := h.free (a + 2)
  have hf3 := h.free (a + 3)
  clear h
  go_enter Tryz.func64, Tryz.ntmps64
  go_wp2
  go_rounds 5
  go_end0
  exact ⟨rfl, by unfold laid4; rw [show x / 16777216 % 256 = x / 16777216 by omega]⟩
theorem MemAt.laid4 {w : World} {m g : Nat} {d : List Int} (h : MemAt w m g d) {a : Nat} {x : Int} (hr : a + 4 ≤ d.length) : MemAt (laid4 w g a x) m g (storeS d a 4 x) := by
  have h1 := h.set (i := a + 3) (x := x % 256) (by omega) (by omega)
  have h2 := h1.set (i := a + 2) (x := x / 256 % 256) (by simp; omega) (by omega)
  have h3 := h2.set (i := a + 1) (x := x / 65536 % 256) (by simp; omega) (by omega)
  have h4 := h3.set (i := a) (x := x / 16777216 % 256) (by simp; omega) (by omega)
  exact h4
theorem laid4_only (w : World) (g a : Nat) (x : Int) : Only (· = g) w (laid4 w g a x) :=
  (((((Only.refl (· = g) w).setCell (p := ⟨g, a + 3, none⟩) rfl _).setCell (p := ⟨g, a + 2, none⟩) rfl _).setCell (p := ⟨g, a + 1, none⟩) rfl _).setCell (p := ⟨g, a, none⟩) rfl _)
def loadV (d : List Int) (a many : Int) : Int := if spanE d.length a 1 many = 0 then loadS d a.toNat many.toNat else 0
def storeV (d : List Int) (a many x : Int) : List Int := if spanE d.length a 1 many = 0 then storeS d a.toNat many.toNat x else d
theorem spanE_ok {n : Nat} {a many bytes : Int} (h : spanE n a many bytes = 0) (ha : 0 ≤ a) : 0 ≤ many ∧ (bytes = 1 ∨ bytes = 4) ∧ a % bytes = 0 ∧ a + bytes * many ≤ n := by
  unfold spanE at h
  by_cases h1 : many < 0 ∨ (bytes ≠ 1 ∧ bytes ≠ 4)
  · rw [if_pos h1] at h; omega
  · rw [if_neg h1] at h
    by_cases h2 : a % bytes ≠ 0
    · rw [if_pos h2] at h; omega
    · rw [if_neg h2] at h
      by_cases h3 : (n : Int) < a ∨ (((n : Int) - a) / bytes < many)
      · rw [if_pos h3] at h; omega
      · have hb : bytes = 1 ∨ bytes = 4 := by omega
        refine ⟨by omega, hb, by omega, ?_⟩
        rcases hb with rfl | rfl <;> omega
def SpanAny (g n : Nat) (a many bytes : Int) (w : World) (e : Ending) (w' : World) : Prop :=
  (spanE n a many bytes = 0 ∧ SpanOk g a.toNat (bytes * many).toNat w e w') ∨ (spanE n a many bytes ≠ 0 ∧ e = .returned (.tuple #[.slice none 0 0, .int .i64 (spanE n a many bytes)]) ∧ w = w')
theorem span_any (w : World) (m g : Nat) (d : List Int) (h : MemAt w m g d) (a : Int) (many bytes : Int) (ha : 0 ≤ a) (ha2 : a < 4294967296) (hm3 : many ≤ 9223372036854775807) :
    Calls Tryz.prog 63 #[.pointer (some ⟨m, 0, none⟩), .int .u32 a, .int .i64 many, .int .i64 bytes] w (SpanAny g d.length a many bytes w) := by
  by_cases h1 : many < 0
  · refine (span_neg w m g d h a many ha ha2 bytes h1).mono ?_
    rintro e w' ⟨he, hw⟩
    exact .inr (by rw [show spanE d.length a many bytes = 2 from if_pos (.inl h1)]; exact ⟨by omega, he, hw⟩)
  · by_cases h2 : bytes ≠ 1 ∧ bytes ≠ 4
    · refine (span_bad w m g d h a many ha ha2 bytes (by omega) h2).mono ?_
      rintro e w' ⟨he, hw⟩
      exact .inr (by rw [show spanE d.length a many bytes = 2 from if_pos (.inr h2)]; exact ⟨by omega, he, hw⟩)
    · have hb : bytes = 1 ∨ bytes = 4 := by omega
      have e0 : spanE d.length a many bytes = if a % bytes ≠ 0 then 51 else if (d.length : Int) < a ∨ (((d.length : Int) - a) / bytes < many) then 50 else 0 := if_neg (by omega)
      by_cases h3 : a % bytes ≠ 0
      · obtain rfl : bytes = 4 := by rcases hb with rfl | rfl <;> omega
        refine (span_align w m g d h a many ha ha2 (by omega) h3).mono ?_
        rintro e w' ⟨he, hw⟩
        exact .inr (by rw [e0, if_pos h3]; exact ⟨by omega, he, hw⟩)
      · rw [if_neg h3] at e0
        by_cases h4 : (d.length : Int) < a ∨ (((d.length : Int) - a) / bytes < many)
        · rw [if_pos h4] at e0
          rcases hb with rfl | rfl
          · refine (span_range1 w m g d h a many ha ha2 (by omega) hm3 (by omega)).mono ?_
            rintro e w' ⟨he, hw⟩
            exact .inr (by rw [e0]; exact ⟨by omega, he, hw⟩)
          · refine (span_range4 w m g d h a many ha ha2 (by omega) (by omega) hm3 (by omega)).mono ?_
            rintro e w' ⟨he, hw⟩
            exact .inr (by rw [e0]; exact ⟨by omega, he, hw⟩)
        · rw [if_neg h4] at e0
          rcases hb with rfl | rfl
          · refine (span_ok1 w m g d h a many ha ha2 (by omega) (by omega)).mono ?_
            rintro e w' hs
            rw [show many.toNat = (1 * many).toNat by omega] at hs
            exact .inl ⟨e0, hs⟩
          · refine (span_ok4 w m g d h a many ha ha2 (by omega) (by omega) (by omega)).mono ?_
            rintro e w' hs
            exact .inl ⟨e0, hs⟩
set_option maxHeartbeats 400000 in
theorem load_any (w : World) (m g : Nat) (d : List Int) (h : MemAt w m g d) (a : Int) (many : Int) (ha : 0 ≤ a) (ha2 : a < 4294967296) :
    Calls Tryz.prog 48 #[.pointer (some ⟨m, 0, none⟩), .int .u32 a, .int .i64 many] w fun e w' => e = .returned (.tuple #[.int .u32 (loadV d a many), .int .i64 (spanE d.length a 1 many)]) ∧ w = w' := by
  have hs := span_any w m g d h a 1 many ha ha2 (by omega)
  have HS := mhid hs
  have H := mhid h
  clear hs h
  go_enter Tryz.func48, Tryz.ntmps48
  go_wp2_with fail
  refine HS.out.mono ?_
  rintro e w' (⟨he, ⟨v, rfl, b, rfl, hb⟩, rfl⟩ | ⟨he, rfl, rfl⟩)
  · obtain ⟨_, h4, _, h5⟩ := spanE_ok he ha
    have hb2 : b = a.toNat := by omega
    subst hb2
    clear hb HS
    have HE := mhid he
    clear he
    rcases h4 with rfl | rfl
    all_goals
      go_wp2_with fail
      refine (mword_any _ m g d H.out a.toNat _ _ (by omega) (by omega)).mono ?_
      rintro e w' ⟨rfl, rfl⟩
      go_wp2_with fail
      go_ret2
      refine ⟨mret_ii ?_ HE.out.symm, rfl⟩
      rw [show loadV d a _ = loadS d a.toNat _ from if_pos HE.out]
      first | exact beS_one d a.toNat | exact beS_four d a.toNat
  · have e0 : loadV d a many = 0 := if_neg he
    have E0 := mhid e0
    clear e0 HS H
    go_wp2_with fail
    refine (word_none _ _ _).mono ?_
    rintro e w' ⟨rfl, rfl⟩
    go_wp2_with fail
    go_ret2
    exact ⟨mret_ii E0.out.symm rfl, rfl⟩
def Stores (m g : Nat) (d : List Int) (a many x : Int) (w : World) (e : Ending) (w' : World) : Prop :=
  e = .returned (.int .i64 (spanE d.length a 1 many)) ∧ MemAt w' m g (storeV d a many x) ∧ Only (· = g) w w' ∧ w'.heap.size = w.heap.size
set_option maxHeartbeats 400000 in
theorem store_any (w : World) (m g : Nat) (d : List Int) (h : MemAt w m g d) (a : Int) (many : Int) (ha : 0 ≤ a) (ha2 : a < 4294967296) (x : Int) (hx : 0 ≤ x) (hx2 : x < 4294967296) :
    Calls Tryz.prog 17 #[.pointer (some ⟨m, 0, none⟩), .int .u32 a, .int .i64 many, .int .u32 x] w (Stores m g d a many x w) := by
  have hs := span_any w m g d h a 1 many ha ha2 (by omega)
  have HS := mhid hs
  have H := mhid h
  clear hs h
  go_enter Tryz.func17, Tryz.ntmps17
  go_wp2_with fail
  refine HS.out.mono ?_
  rintro e w' (⟨he, ⟨v, rfl, b, rfl, hb⟩, rfl⟩ | ⟨he, rfl, rfl⟩)
  · obtain ⟨_, h4, _, h5⟩ := spanE_ok he ha
    have hb2 : b = a.toNat := by omega
    subst hb2
    clear hb HS
    have HE := mhid he
    clear he
    rcases h4 with rfl | rfl
    · go_wp2_with fail
      refine (lay_one _ m g d H.out a.toNat _ x hx hx2 (by omega)).mono ?_
      rintro e w' ⟨rfl, rfl⟩
      go_wp2_with fail
      go_ret
      refine ⟨mret_i HE.out.symm, ?_, (Only.refl (· = g) w).setCell (p := ⟨g, a.toNat, none⟩) rfl _, by simp⟩
      rw [show storeV d a 1 x = storeS d a.toNat (1 : Int).toNat x from if_pos HE.out]
      exact H.out.set (by omega) (by omega)
    · go_wp2_with fail
      refine (lay_four _ m g d H.out a.toNat _ x hx hx2 (by omega)).mono ?_
      rintro e w' ⟨rfl, rfl⟩
      go_wp2_with fail
      go_ret
      refine ⟨mret_i HE.out.symm, ?_, laid4_only _ _ _ _, by simp [laid4]⟩
      rw [show storeV d a 4 x = storeS d a.toNat (4 : Int).toNat x from if_pos HE.out]
      exact H.out.laid4 (by omega)
  · have e0 : storeV d a many x = d := if_neg he
    have E0 := mhid e0
    clear e0 HS
    go_wp2_with fail
    refine (lay_none _ _ _ _).mono ?_
    rintro e w' ⟨rfl, rfl⟩
    go_wp2_with fail
    go_ret
    exact ⟨mret_i rfl, by rw [E0.out]; exact H.out, Only.refl _ _, rfl⟩
/-! A memory that is none. -/
end Go.Proofs.YtajholbcpmjhiaaGreatDoor
/- Plain arithmetic of 32-bit words: what each operation of the ALU makes, as functions on integers. No program in sight. -/
namespace Go.Proofs.YtajholbcpmjhiaaGreatDoor
open Go.RowKit
def u32 (n : Int) : Int := n % 4294967296
def s32 (n : Int) : Int := (n + 2147483648) % 4294967296 - 2147483648
theorem s32_eq (n : Int) : wrap32 n = s32 n := by unfold wrap32 s32; rfl
theorem u32_bd (n : Int) : 0 ≤ u32 n ∧ u32 n < 4294967296 := by unfold u32; omega
theorem s32_u32 (n : Int) : s32 (u32 n) = s32 n := by unfold u32 s32; omega
def andS (a b : Int) : Int := ((a.toNat &&& b.toNat : Nat) : Int)
def orS (a b : Int) : Int := ((a.toNat ||| b.toNat : Nat) : Int)
def xorS (a b : Int) : Int := ((a.toNat ^^^ b.toNat : Nat) : Int)
theorem toNat_lt {a : Int} (h : a < 4294967296) : a.toNat < 2 ^ 32 := by omega
theorem andS_bd {a : Int} (b : Int) (h : a < 4294967296) : 0 ≤ andS a b ∧ andS a b < 4294967296 := by
  unfold andS; have := Nat.and_le_left (n := a.toNat) (m := b.toNat); omega
theorem orS_bd {a b : Int} (h : a < 4294967296) (h' : b < 4294967296) : 0 ≤ orS a b ∧ orS a b < 4294967296 := by
  unfold orS; have := Nat.or_lt_two_pow (toNat_lt h) (toNat_lt h'); omega
theorem xorS_bd {a b : Int} (h : a < 4294967296) (h' : b < 4294967296) : 0 ≤ xorS a b ∧ xorS a b < 4294967296 := by
  unfold xorS; have := Nat.xor_lt_two_pow (toNat_lt h) (toNat_lt h'); omega
theorem bits_and {a b : Int} (h : 0 ≤ a) (h' : a < 4294967296) (k : 0 ≤ b) (k' : b < 4294967296) : bits .and .u32 a b = andS a b := u32_and a b h h' k k'
theorem bits_or {a b : Int} (h : 0 ≤ a) (h' : a < 4294967296) (k : 0 ≤ b) (k' : b < 4294967296) : bits .or .u32 a b = orS a b := u32_or a b h h' k k'
theorem bits_xor {a b : Int} (h : 0 ≤ a) (h' : a < 4294967296) (k : 0 ≤ b) (k' : b < 4294967296) : bits .xor .u32 a b = xorS a b := u32_xor a b h h' k k'
def truthS (p : Bool) : Int := if p then 1 else 0
def shS (b : Int) : Nat := (b % 32).toNat
def shlS (a b : Int) : Int := u32 (a * 2 ^ shS b)
def shrS (a b : Int) : Int := a / 2 ^ shS b
def sarS (a b : Int) : Int := u32 (s32 a / 2 ^ shS b)
def doW (op : Nat) (a b : Int) : Int :=
  match op with
  | 0 => u32 (a + b) | 1 => u32 (a - b) | 2 => u32 (a * b)
  | 3 => if b = 0 then 0 else u32 ((s32 a).tdiv (s32 b)) | 4 => if b = 0 then 0 else u32 ((s32 a).tmod (s32 b))
  | 5 => andS a b | 6 => orS a b | 7 => xorS a b
  | 8 => shlS a b | 9 => shrS a b | 10 => sarS a b
  | 11 => truthS (decide (s32 a < s32 b)) | 12 => truthS (decide (a < b)) | 13 => truthS (decide (a = b))
  | _ => 0
def doB (op : Nat) (b : Int) : Bool :=
  match op with
  | 3 => !decide (b = 0) | 4 => !decide (b = 0)
  | n => decide (n < 14)
theorem truthS_bd (p : Bool) : 0 ≤ truthS p ∧ truthS p < 4294967296 := by unfold truthS; split <;> omega
theorem two_pow_pos (n : Nat) : (1 : Int) ≤ 2 ^ n := Int.pow_pos (by decide)
theorem shrS_bd {a : Int} (b : Int) (h : 0 ≤ a) (h' : a < 4294967296) : 0 ≤ shrS a b ∧ shrS a b < 4294967296 := by
  unfold shrS
  have hp := two_pow_pos (shS b)
  have := Int.ediv_nonneg h (by omega : (0 : Int) ≤ 2 ^ shS b)
  have := Int.ediv_le_self (b := (2 : Int) ^ shS b) h
  omega
theorem doW_bd (op : Nat) {a b : Int} (ha : 0 ≤ a) (ha' : a < 4294967296) (hb' : b < 4294967296) : 0 ≤ doW op a b ∧ doW op a b < 4294967296 := by
  unfold doW
  split
  · exact u32_bd _
  · exact u32_bd _
  · exact u32_bd _
  · split
    · omega
    · exact u32_bd _
  · split
    · omega
    · exact u32_bd _
  · exact andS_bd b ha'
  · exact orS_bd ha' hb'
  · exact xorS_bd ha' hb'
  · exact u32_bd _
  · exact shrS_bd b ha ha'
  · exact u32_bd _
  · exact truthS_bd _
  · exact truthS_bd _
  · exact truthS_bd _
  · omega
def flagsS (a b : Int) : Int :=
  8 * truthS (decide (s32 (a - b) < 0)) + 4 * truthS (decide (a = b)) + 2 * truthS (!decide (s32 a - s32 b = s32 (a - b))) + truthS (decide (a < b))
theorem flagsS_bd (a b : Int) : 0 ≤ flagsS a b ∧ flagsS a b < 16 := by
  unfold flagsS truthS; split <;> split <;> split <;> split <;> omega
def whasS (f n : Int) : Bool := decide (f / n % 2 = 1)
def holdsS (c : Nat) (f : Int) : Bool :=
  match c with
  | 0 => true | 1 => whasS f 4 | 2 => !whasS f 4
  | 3 => whasS f 8 != whasS f 2 | 4 => !(whasS f 8 != whasS f 2)
  | 5 => whasS f 1 | 6 => !whasS f 1
  | _ => false
/-! The bit-by-bit loop of the document, and its shift by ones. -/
end Go.Proofs.YtajholbcpmjhiaaGreatDoor
