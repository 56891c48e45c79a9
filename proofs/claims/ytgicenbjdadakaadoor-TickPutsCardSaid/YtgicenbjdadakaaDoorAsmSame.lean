/- The walks of muntinlaw07.same and great. -/
import Derived.Test.YtgicenbjdadakaaDoorAsmDoes
namespace Go.Proofs.YtgicenbjdadakaaDoor
open Go.RowKit Go.Maps
set_option linter.unusedVariables false
set_option linter.unusedSimpArgs false
theorem Reads32.keepb {a b : World} {v : Value} {l : List Int} (h : Reads32 a v l) (hb : Below a.heap.size a b) : Reads32 b v l := by
  obtain ⟨h1, p, c, rfl, h2⟩ := h
  refine ⟨h1, p, c, rfl, fun h0 => ?_⟩
  obtain ⟨g, o, rfl, h3⟩ := h2 h0
  exact ⟨g, o, rfl, fun k hk => (hb.cell (World.block_lt_of_cell? _ _ (h3 k hk))).trans (h3 k hk)⟩
theorem Reads32.shape' {w : World} {v : Value} {l : List Int} (h : Reads32 w v l) : ∃ p n c, v = .slice p n c := by obtain ⟨_, p, c, h, _⟩ := h; exact ⟨_, _, _, h⟩
theorem abt {a b c : World} (h : Below a.heap.size a b) (k : Below b.heap.size b c) : Below a.heap.size a c := h.trans (k.mono h.size)
/-- What is known of a list and the document's. -/
structure Sized (L : List It) (M : List (List UInt8 × Int)) : Prop where
  far : FarL L
  put : PutL L
  len : L.length < 4294967296
  mlen : M.length < 4294967296
  marks : ∀ nm t, look M nm = some t → 0 ≤ t ∧ t < 4294967296
/-- An act that lies at a place. -/
structure Act7At (w : World) (b o : Nat) (x : Actx) (xv : Value) : Prop where
  c0 : w.cell? ⟨b, o, none⟩ = some (.int .u8 x.what)
  c1 : w.cell? ⟨b, o + 1, none⟩ = some xv
  c2 : w.cell? ⟨b, o + 2, none⟩ = some (.string x.nm)
  c3 : w.cell? ⟨b, o + 3, none⟩ = some (.int .u8 x.cond)
  c4 : w.cell? ⟨b, o + 4, none⟩ = some (.int .u32 x.wd)
  b0 : 0 ≤ x.what ∧ x.what < 256
  b1 : 0 ≤ x.cond ∧ x.cond < 256
  b2 : 0 ≤ x.wd ∧ x.wd < 4294967296
  nm : x.nm.size ≤ maxLen
  ins : InsIn w xv x.l
theorem Act7At.keep {a b : World} {k o : Nat} {x : Actx} {xv : Value} (h : Act7At a k o x xv) (hb : Below a.heap.size a b) : Act7At b k o x xv := by
  have hl := World.block_lt_of_cell? _ _ h.c0
  exact ⟨(hb.cell (p := ⟨k, o, none⟩) hl).trans h.c0, (hb.cell (p := ⟨k, o + 1, none⟩) hl).trans h.c1, (hb.cell (p := ⟨k, o + 2, none⟩) hl).trans h.c2, (hb.cell (p := ⟨k, o + 3, none⟩) hl).trans h.c3, (hb.cell (p := ⟨k, o + 4, none⟩) hl).trans h.c4, h.b0, h.b1, h.b2, h.nm, h.ins.keepb hb⟩
/-- A slice of acts, as it came in. -/
def ActsIn (w : World) (v : Value) (l : List Actx) : Prop :=
  l.length ≤ 140737488355328 ∧ (∀ x ∈ l, x.l.length ≤ 140737488355328 ∧ x.nm.size ≤ 140737488355328) ∧ ∃ p c b o, v = .slice p l.length c ∧ (0 < l.length → p = some ⟨b, o, none⟩) ∧ ∀ k x, l[k]? = some x → ∃ xv, Act7At w b (o + k * 5) x xv
def agreatN (l : List Actx) : Nat := (l.map fun x => x.l.length + x.nm.size).sum
theorem agreatN_take (l : List Actx) (k : Nat) (x : Actx) (h : l[k]? = some x) : agreatN (l.take (k + 1)) = agreatN (l.take k) + (x.l.length + x.nm.size) := by
  rw [(take_get l k x h).1]; simp [agreatN]
theorem agreatN_le (l : List Actx) (h : ∀ x ∈ l, x.l.length ≤ 140737488355328 ∧ x.nm.size ≤ 140737488355328) : agreatN l ≤ l.length * 281474976710656 := by
  induction l with
  | nil => simp [agreatN]
  | cons x l ih =>
    have h1 := h x (by simp)
    have h2 := ih (fun y hy => h y (by simp [hy]))
    simp only [agreatN, List.map_cons, List.sum_cons, List.length_cons] at h2 ⊢
    omega
theorem agreatN_mem (l : List Actx) (x : Actx) (h : x ∈ l) : x.l.length + x.nm.size ≤ agreatN l := by
  induction l with
  | nil => simp at h
  | cons y l ih =>
    simp only [agreatN, List.map_cons, List.sum_cons] at ih ⊢
    rcases List.mem_cons.1 h with rfl | h
    · omega
    · have := ih h; omega
def greatB (l : List Actx) : Bool := decide (60 < l.length ∨ 1000 < agreatN l)
end Go.Proofs.YtgicenbjdadakaaDoor
