/- How arguments of the types []uint32 (with what holds of its capacity), [3]uint16 are read. -/
import Derived.Test.YtdefooailcbnlaaG28
namespace Go.Proofs.Ytdefooailcbnlaa
open Go.RowKit Go.ChangeShapes Go.WideShapes Go.ChangeAt
set_option linter.unusedVariables false
set_option linter.constructorNameAsVariable false
set_option maxRecDepth 100000
theorem trod_cap {H : Type} {enc : TypeId × Value → H} {P : Program} {w : World} {base : Nat} {spare : Nat → Bool} {held : Bool} {t e : TypeId} (ht : P.underlying t = some (.slice e)) {m : Nat} {a : Option Addr} {len cap : Nat} {x : DataW H × List MemPlace} (h : DataW.trod enc P w base spare held m t [.slice a len cap] = some x) : len ≤ cap := by
  cases m with
  | zero => simp [DataW.trod] at h
  | succ m =>
    cases a with
    | none =>
      simp only [DataW.trod, ht] at h
      split at h <;> simp_all
    | some a =>
      simp only [DataW.trod, ht] at h
      split at h
      · rename_i hc
        exact hc.2.1
      · cases h
theorem open_wordsc {H : Type} {enc : TypeId × Value → H} {W : World} {base b : Nat} {spare : Nat → Bool} {held : Bool} {r : Reach} {v : Value} {d : DataW H} {p : List MemPlace} (hv : Value.okWide Try.prog W r b 26 v) (h : DataW.Trod enc Try.prog W base spare held 26 v d p) (hw : (d.weights Try.prog 26).all (· ≤ reachBytes) = true) : ∃ l, WordsIn W v l ∧ ∀ a n c, v = .slice a n c → n ≤ c := by
  obtain ⟨l, hl⟩ := open_words hv h hw
  refine ⟨l, hl, fun a n c e => ?_⟩
  subst e
  obtain ⟨m, hm⟩ := h
  exact trod_cap Try.underlying26 hm
theorem cells_triple16 : Try.prog.cellsOf 28 = 3 := by kernel_rfl
theorem cells_u16c : Try.prog.cellsOf 27 = 1 := by kernel_rfl
theorem open_triple16 {H : Type} {enc : TypeId × Value → H} {W : World} {base b : Nat} {spare : Nat → Bool} {held : Bool} {r : Reach} {v : Value} {d : DataW H} {p : List MemPlace} (hv : Value.okWide Try.prog W r b 28 v) (h : DataW.Trod enc Try.prog W base spare held 28 v d p) :
    ∃ x y z, v = .agg #[.int .u16 x, .int .u16 y, .int .u16 z] ∧ (0 ≤ x ∧ x < 65536) ∧ (0 ≤ y ∧ y < 65536) ∧ (0 ≤ z ∧ z < 65536) := by
  simp only [Value.okWide, Try.underlying28] at hv
  obtain ⟨cs, rfl, hsz, _⟩ := hv
  rw [cells_triple16] at hsz
  obtain ⟨c0, c1, c2, rfl⟩ : ∃ a b c, cs = #[a, b, c] := by
    obtain ⟨l⟩ := cs
    match l, hsz with
    | [a, b, c], _ => exact ⟨a, b, c, rfl⟩
  obtain ⟨fuel, hf⟩ := h
  obtain ⟨xs, n, _, _, hl, hlen, hx⟩ := DataW.trod_array Try.underlying28 hf
  match xs, hlen with
  | [y0, y1, y2], _ =>
    have h0 := hx 0 (by omega)
    have h1 := hx 1 (by omega)
    have h2 := hx 2 (by omega)
    simp [cells_u16c, Value.cells] at h0 h1 h2
    obtain ⟨x, e0, _, w0⟩ := DataW.trod_int Try.underlying27 h0
    obtain ⟨y, e1, _, w1⟩ := DataW.trod_int Try.underlying27 h1
    obtain ⟨z, e2, _, w2⟩ := DataW.trod_int Try.underlying27 h2
    have b0 := bounds_u16 w0
    have b1 := bounds_u16 w1
    have b2 := bounds_u16 w2
    simp at e0 e1 e2
    exact ⟨x, y, z, by rw [e0, e1, e2], by omega, by omega, by omega⟩
end Go.Proofs.Ytdefooailcbnlaa
