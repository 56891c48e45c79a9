/- Several texts in one: InstOpen, NumsOpen. -/
import Derived.Test.YtkejnhleajfcjaaGreatDoorGA
import Derived.ProofKit
import Derived.OpenShut
import Derived.Deep.Slices
/- How an argument of type api.Inst is read; the table of what operations have. -/
namespace Go.Proofs.YtkejnhleajfcjaaGreatDoor
open Go.RowKit Go.ChangeShapes Go.WideShapes Go.ChangeAt
set_option linter.unusedVariables false
set_option maxRecDepth 100000 in
theorem tab_of {W : World} (h : ∀ i (hi : i < ([128, 7, 7, 7, 7, 7, 7, 7, 7, 7, 7, 7, 7, 7, 7, 25, 6, 25, 24, 7, 7, 7, 7, 7, 7, 7, 1, 6, 1, 6, 9, 10, 0, 8, 1, 2, 2, 8] : List Int).length), W.cell? ⟨0, i, none⟩ = some (.int .u8 (([128, 7, 7, 7, 7, 7, 7, 7, 7, 7, 7, 7, 7, 7, 7, 25, 6, 25, 24, 7, 7, 7, 7, 7, 7, 7, 1, 6, 1, 6, 9, 10, 0, 8, 1, 2, 2, 8] : List Int).getD i 0))) : Tab W := by
  intro i hi
  have hall : ∀ j : Fin 38, ([128, 7, 7, 7, 7, 7, 7, 7, 7, 7, 7, 7, 7, 7, 7, 25, 6, 25, 24, 7, 7, 7, 7, 7, 7, 7, 1, 6, 1, 6, 9, 10, 0, 8, 1, 2, 2, 8] : List Int).getD j.val 0 = hasK (kindS (j.val : Int)) := by decide
  have h1 := h i (by simpa using hi)
  rw [h1]
  exact congrArg (fun n => some (Value.int .u8 n)) (hall ⟨i, hi⟩)
theorem icells_u8 : Tryz.prog.cellsOf 5 = 1 := by kernel_rfl
theorem icells_bool : Tryz.prog.cellsOf 4 = 1 := by kernel_rfl
theorem icells_i32 : Tryz.prog.cellsOf 21 = 1 := by kernel_rfl
theorem icells_inst : Tryz.prog.cellsOf 108 = 6 := by kernel_rfl
theorem list6 {α : Type} {l : List α} (h : l.length = 6) : ∃ a b c d e f, l = [a, b, c, d, e, f] := by
  match l, h with
  | [a, b, c, d, e, f], _ => exact ⟨a, b, c, d, e, f, rfl⟩
set_option maxRecDepth 100000 in
theorem trod_inst {H : Type} {enc : TypeId × Value → H} {w : World} {base : Nat} {spare : Nat → Bool} {held : Bool} {fuel : Nat} {x : DataW H × List MemPlace} {cs : List Value} (h : DataW.trod enc Tryz.prog w base spare held fuel 108 cs = some x) :
    ∃ y : Ix, y.bd ∧ cs = [.int .u8 y.op, .int .u8 y.rd, .int .u8 y.rs1, .int .u8 y.rs2, .bool y.is, .int .i32 y.imm] := by
  obtain ⟨xs, n, _, rfl, hl, hlen, hf⟩ := DataW.trod_struct Tryz.underlying108 h
  rw [icells_inst] at hl
  obtain ⟨c0, c1, c2, c3, c4, c5, rfl⟩ := list6 hl
  obtain ⟨y0, y1, y2, y3, y4, y5, rfl⟩ := list6 hlen
  have h0 := hf 0 _ rfl
  have h1 := hf 1 _ rfl
  have h2 := hf 2 _ rfl
  have h3 := hf 3 _ rfl
  have h4 := hf 4 _ rfl
  have h5 := hf 5 _ rfl
  simp [icells_u8, icells_bool, icells_i32] at h0 h1 h2 h3 h4 h5
  obtain ⟨a0, e0, _, w0⟩ := DataW.trod_int Tryz.underlying5 h0
  obtain ⟨a1, e1, _, w1⟩ := DataW.trod_int Tryz.underlying5 h1
  obtain ⟨a2, e2, _, w2⟩ := DataW.trod_int Tryz.underlying5 h2
  obtain ⟨a3, e3, _, w3⟩ := DataW.trod_int Tryz.underlying5 h3
  obtain ⟨a4, e4, _⟩ := DataW.trod_bool Tryz.underlying4 h4
  obtain ⟨a5, e5, _, w5⟩ := DataW.trod_int Tryz.underlying21 h5
  simp at e0 e1 e2 e3 e4 e5
  have b0 := bounds_u8 w0
  have b1 := bounds_u8 w1
  have b2 := bounds_u8 w2
  have b3 := bounds_u8 w3
  have b5 := bounds_i32 w5
  exact ⟨⟨a0, a1, a2, a3, a4, a5⟩, ⟨by simp only; omega, by simp only; omega, by simp only; omega, by simp only; omega, by simp only; omega⟩, by rw [e0, e1, e2, e3, e4, e5]⟩
set_option maxRecDepth 100000 in
theorem open_inst {H : Type} {enc : TypeId × Value → H} {W : World} {base b : Nat} {spare : Nat → Bool} {held : Bool} {r : Reach} {v : Value} {d : DataW H} {p : List MemPlace} (hv : Value.okWide Tryz.prog W r b 108 v) (h : DataW.Trod enc Tryz.prog W base spare held 108 v d p) :
    ∃ x : Ix, x.bd ∧ v = x.agg := by
  obtain ⟨cs, rfl, hsz⟩ := okWide_struct Tryz.underlying108 hv
  obtain ⟨m, hm⟩ := h
  obtain ⟨y, hb, he⟩ := trod_inst (by simpa [Value.cells] using hm)
  refine ⟨y, hb, ?_⟩
  congr 1
  apply Array.toList_inj.1
  rw [he]
end Go.Proofs.YtkejnhleajfcjaaGreatDoor
/- How an argument of type []int is read. -/
namespace Go.Proofs.YtkejnhleajfcjaaGreatDoor
open Go.RowKit Go.ChangeShapes Go.WideShapes Go.ChangeAt
set_option linter.unusedVariables false
set_option linter.unusedSimpArgs false
theorem nmcells_each {w : World} {base : Nat} {a : Addr} {n : Nat} {cs : List Value} (h : w.cells? base a n = some cs) : cs.length = n ∧ ∀ j u, cs[j]? = some u → w.cell? (a.add j) = some u := by
  obtain ⟨_, h1, h2⟩ := World.cells?_some h
  refine ⟨h1, fun j u hu => ?_⟩
  have hj : j < n := by
    rcases Nat.lt_or_ge j n with h3 | h3
    · exact h3
    · rw [List.getElem?_eq_none (by omega)] at hu; cases hu
  have := h2 j hj
  rw [this]; exact hu
variable {H : Type} {enc : TypeId × Value → H} {w : World} {base : Nat} {spare : Nat → Bool} {held : Bool} {fuel : Nat} {x : DataW H × List MemPlace}
theorem nmlist_of {α : Type} (P : Nat → α → Prop) : ∀ n, (∀ i, i < n → ∃ y, P i y) → ∃ l : List α, l.length = n ∧ ∀ k y, l[k]? = some y → P k y := by
  intro n
  induction n with
  | zero => intro _; exact ⟨[], rfl, fun k y h => by simp at h⟩
  | succ n ih =>
    intro h
    obtain ⟨l, hl, hp⟩ := ih (fun i hi => h i (by omega))
    obtain ⟨y, hy⟩ := h n (by omega)
    refine ⟨l ++ [y], by simp [hl], fun k z hz => ?_⟩
    by_cases hk : k < l.length
    · rw [List.getElem?_append_left hk] at hz; exact hp k z hz
    · rw [List.getElem?_append_right (by omega)] at hz
      have : k - l.length = 0 := by
        rcases Nat.eq_zero_or_pos (k - l.length) with e | e
        · exact e
        · rw [List.getElem?_eq_none (by simp; omega)] at hz; cases hz
      rw [this] at hz
      cases hz
      obtain rfl : k = n := by omega
      exact hy
theorem nmaddr_add (b o n : Nat) : (⟨b, o, none⟩ : Addr).add n = ⟨b, o + n, none⟩ := by unfold Addr.add; split <;> simp [*]
def NumsIn (w : World) (v : Value) (l : List Int) : Prop :=
  l.length ≤ maxLen ∧ (∀ x ∈ l, -9223372036854775808 ≤ x ∧ x ≤ 9223372036854775807) ∧ ∃ p c b o, v = .slice p l.length c ∧ (0 < l.length → p = some ⟨b, o, none⟩) ∧ ∀ k x, l[k]? = some x → w.cell? ⟨b, o + k, none⟩ = some (.int .i64 x)
theorem NumsIn.keepb {w w' : World} {v : Value} {l : List Int} (h : NumsIn w v l) (hb : Below w.heap.size w w') : NumsIn w' v l := by
  obtain ⟨h1, h2, p, c, b, o, h3, h4, h5⟩ := h
  exact ⟨h1, h2, p, c, b, o, h3, h4, fun k x hx => (hb.cell (p := ⟨b, o + k, none⟩) (World.block_lt_of_cell? _ _ (h5 k x hx))).trans (h5 k x hx)⟩
theorem trod_nums {H : Type} {enc : TypeId × Value → H} {w : World} {base : Nat} {spare : Nat → Bool} {held : Bool} {fuel : Nat} {x : DataW H × List MemPlace} {cs : List Value} (h : DataW.trod enc Tryz.prog w base spare held fuel 66 cs = some x) : ∃ v l, cs = [v] ∧ NumsIn w v l := by
  rcases Go.Deep.open_slice Tryz.underlying66 h with ⟨rfl, _⟩ | ⟨a, len, cap, m, q, D, Pl, rfl, _, hl, hm, hmm, hx, hel⟩
  · exact ⟨_, [], rfl, by simp, fun x hx => by simp at hx, none, 0, 0, 0, rfl, fun h => by simp at h, fun k y h => by simp at h⟩
  · have hlm : len ≤ m := by rw [hmm]; split <;> omega
    have each : ∀ i, i < len → ∃ y : Int, (-9223372036854775808 ≤ y ∧ y ≤ 9223372036854775807) ∧ w.cell? (a.add i) = some (.int .i64 y) := by
      intro i hi
      obtain ⟨cs', h1, h2⟩ := hel i (by omega)
      obtain ⟨y, e, _, wf⟩ := DataW.trod_int Tryz.underlying3 h2
      subst e
      have hb := bounds_i64 wf
      rw [show Tryz.prog.cellsOf 3 = 1 from by kernel_rfl] at h1
      have := (nmcells_each h1).2 0 _ rfl
      refine ⟨y, by omega, ?_⟩
      rw [Nat.mul_one] at this
      have e2 : (a.add i).add 0 = a.add i := by simp [Addr.add]
      rw [e2] at this
      exact this
    obtain ⟨l, hll, hlp⟩ := nmlist_of _ len each
    subst hll
    refine ⟨_, l, rfl, by omega, fun x hx => ?_, some a, cap, ?_⟩
    · obtain ⟨k, hk⟩ := List.getElem?_of_mem hx
      exact (hlp k x hk).1
    by_cases h0 : 0 < l.length
    · obtain ⟨b, o, sp⟩ := a
      have hsp2 : sp = none := by
        have := World.cell?_spot (hlp 0 l[0] (List.getElem?_eq_getElem h0)).2
        simpa [Addr.add] using this
      subst hsp2
      refine ⟨b, o, rfl, fun _ => rfl, fun k y hy => ?_⟩
      have hc := (hlp k y hy).2
      rw [nmaddr_add] at hc
      exact hc
    · exact ⟨0, 0, rfl, fun h => absurd h h0, fun k y hy => by have h1 : l = [] := List.eq_nil_of_length_eq_zero (by omega); rw [h1] at hy; simp at hy⟩
set_option maxRecDepth 100000 in
theorem open_nums {H : Type} {enc : TypeId × Value → H} {W : World} {base b : Nat} {spare : Nat → Bool} {held : Bool} {r : Reach} {v : Value} {d : DataW H} {p : List MemPlace} (hv : Value.okWide Tryz.prog W r b 66 v) (h : DataW.Trod enc Tryz.prog W base spare held 66 v d p) :
    ∃ l, NumsIn W v l := by
  obtain ⟨a, len, cap, rfl⟩ := okWide_slice Tryz.underlying66 hv
  obtain ⟨m, hm⟩ := h
  obtain ⟨v, l, e, r⟩ := trod_nums (by simpa [Value.cells] using hm)
  simp only [List.cons.injEq, and_true] at e
  rw [e]
  exact ⟨l, r⟩
end Go.Proofs.YtkejnhleajfcjaaGreatDoor
