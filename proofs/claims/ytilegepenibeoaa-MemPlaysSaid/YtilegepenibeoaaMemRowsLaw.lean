/- The walk of muntinlaw05.MemWords: rows of words. -/
import Derived.Test.YtilegepenibeoaaMemAct
import Derived.Test.YtilegepenibeoaaMemApartLaw
namespace Go.Proofs.Ytilegepenibeoaa
open Go.RowKit
set_option linter.unusedVariables false
theorem load_put_before (l : List Int) : ∀ (d : List Int) (b a : Nat), a + 4 ≤ b → loadS (putS d b l) a 4 = loadS d a 4 := by
  induction l with
  | nil => intro d b a _; rfl
  | cons x l ih => intro d b a h; unfold putS; rw [ih _ _ _ (by omega), load_store_ne _ _ _ _ (by omega)]
theorem load_put (l : List Int) : ∀ (d : List Int) (a i : Nat), Words l → a + 4 * l.length ≤ d.length → i < l.length → loadS (putS d a l) (a + 4 * i) 4 = l.getD i 0 := by
  induction l with
  | nil => intro d a i _ _ hi; simp at hi
  | cons x l ih =>
    intro d a i hw hl hi
    simp at hl hi
    have hx := hw x (by simp)
    unfold putS
    cases i with
    | zero => rw [load_put_before _ _ _ _ (by omega)]; exact load_store _ _ _ (by omega) hx.1 hx.2
    | succ i => rw [show a + 4 * (i + 1) = a + 4 + 4 * i by omega, ih _ _ i (fun y hy => hw y (by simp [hy])) (by rw [storeS_len]; omega) (by omega)]; rfl
theorem words_put (l d : List Int) (a k : Nat) (hw : Words l) (hl : a + 4 * l.length ≤ d.length) (hk : k ≤ l.length) : wordsS (putS d a l) (a + 4 * k) (l.length - k) = l.drop k := by
  apply ext_getD (by rw [wordsS_len, List.length_drop])
  intro i hi
  rw [wordsS_len] at hi
  rw [wordsS_at _ _ _ _ hi, show a + 4 * k + 4 * i = a + 4 * (k + i) by omega, load_put l d a (k + i) hw hl (by omega)]
  simp [List.getD_eq_getElem?_getD]
theorem U32s.mono {S S' : Nat → Prop} {w : World} {v : Value} {l : List Int} (h : U32s S w v l) (hs : ∀ k, S' k → S k) : U32s S' w v l := by
  obtain ⟨h1, p, c, rfl, h2⟩ := h
  exact ⟨h1, p, c, rfl, fun h0 => by obtain ⟨b, o, rfl, h3, h4⟩ := h2 h0; exact ⟨b, o, rfl, fun q => h3 (hs _ q), h4⟩⟩
theorem U32s.keep {S T : Nat → Prop} {a b : World} {v : Value} {l : List Int} (h : U32s S a v l) (o : Only T a b) (hT : ∀ k, T k → k < a.heap.size → S k) : U32s S b v l := by
  obtain ⟨h1, p, c, rfl, h2⟩ := h
  refine ⟨h1, p, c, rfl, fun h0 => ?_⟩
  obtain ⟨k, e, rfl, h3, h4, h5⟩ := h2 h0
  exact ⟨k, e, rfl, h3, Nat.lt_of_lt_of_le h4 o.size, fun j hj => (o.cell (p := ⟨k, e + j, none⟩) h4 (fun q => h3 (hT _ q h4))).trans (h5 j hj)⟩
/-- A slice of words that came in, with its capacity. -/
theorem trod_row {H : Type} {enc : TypeId × Value → H} {w : World} {base : Nat} {spare : Nat → Bool} {held : Bool} {fuel : Nat} {x : DataW H × List MemPlace} {cs : List Value} (h : DataW.trod enc Try.prog w base spare held fuel 32 cs = some x) :
    ∃ p c l, cs = [.slice p l.length c] ∧ l.length ≤ maxLen ∧ l.length ≤ c ∧ U32s (fun k => w.heap.size ≤ k) w (.slice p l.length c) l := by
  obtain ⟨v, l, rfl, h1, h2⟩ := trod_u32s h
  obtain ⟨h3, p, c, rfl, h4⟩ := h2
  refine ⟨p, c, l, rfl, h1, ?_, h3, p, c, rfl, h4⟩
  rcases Go.ChangeShapes.open_ints Try.underlying32 Try.underlying31 cells_u32 h with ⟨hcs, _⟩ | ⟨a, len, cap, zs, hcs, _, hl, _⟩
  · simp at hcs; rw [hcs.2.1]; simp
  · simp at hcs; omega
end Go.Proofs.Ytilegepenibeoaa
