/- How arguments of the types api.Inst, []api.Inst, Act and []Act (muntinlaw07) are read. -/
import Derived.Test.YtfbbodaapkfbdaaDoorG23
import Derived.Test.YtfbbodaapkfbdaaDoorG35
import Derived.Deep.Slices
import Derived.ShutString
namespace Go.Proofs.YtfbbodaapkfbdaaDoor
open Go.RowKit Go.ChangeShapes Go.WideShapes Go.ChangeAt
set_option linter.unusedVariables false
set_option linter.unusedSimpArgs false
theorem list_of {α : Type} (P : Nat → α → Prop) : ∀ n, (∀ i, i < n → ∃ y, P i y) → ∃ l : List α, l.length = n ∧ ∀ k y, l[k]? = some y → P k y := by
  intro n
  induction n with
  | zero => intro _; exact ⟨[], rfl, fun k y h => by simp at h⟩
  | succ n ih =>
    intro h
    obtain ⟨l, hl, hp⟩ := ih (fun i hi => h i (by omega))
    obtain ⟨y, hy⟩ := h n (by omega)
    refine ⟨l ++ [y], by simp [hl], fun k z hz => ?_⟩
    by_cases hk : k < l.length
    · rw [List.getElem?_append_left hk] at hz; exact hp k z hz
    · rw [List.getElem?_append_right (by omega)] at hz
      have : k - l.length = 0 := by
        rcases Nat.eq_zero_or_pos (k - l.length) with e | e
        · exact e
        · rw [List.getElem?_eq_none (by simp; omega)] at hz; cases hz
      rw [this] at hz
      cases hz
      obtain rfl : k = n := by omega
      exact hy
theorem aaddr_add (b o n : Nat) : (⟨b, o, none⟩ : Addr).add n = ⟨b, o + n, none⟩ := by unfold Addr.add; split <;> simp [*]
theorem abytes_inst : Tryd.prog.bytesOf 50 = 12 := by kernel_rfl
theorem acells_string : Tryd.prog.cellsOf 9 = 1 := by kernel_rfl
theorem acells_u32 : Tryd.prog.cellsOf 30 = 1 := by kernel_rfl
theorem acells_rows : Tryd.prog.cellsOf 108 = 1 := by kernel_rfl
theorem weights_mem {H : Type} {P : Program} {e : TypeId} {f : Nat → Bool} : ∀ {l : List (DataW H)} {d : DataW H}, (DataW.weightsAll P e l).all f = true → d ∈ l → (d.weights P e).all f = true := by
  intro l
  induction l with
  | nil => intro d _ h; cases h
  | cons x r ih =>
    intro d h hm
    simp only [DataW.weightsAll, List.all_append, Bool.and_eq_true] at h
    rcases List.mem_cons.1 hm with rfl | hm
    · exact h.1
    · exact ih h.2 hm
theorem weights_head {H : Type} {P : Program} {t : TypeId} {ts : List TypeId} {d : DataW H} {r : List (DataW H)} {f : Nat → Bool} (h : (DataW.weightsEach P (t :: ts) (d :: r)).all f = true) : (d.weights P t).all f = true := by
  simp only [DataW.weightsEach, List.all_append, Bool.and_eq_true] at h
  exact h.1
theorem weights_next {H : Type} {P : Program} {t u : TypeId} {ts : List TypeId} {d e : DataW H} {r : List (DataW H)} {f : Nat → Bool} (h : (DataW.weightsEach P (t :: u :: ts) (d :: e :: r)).all f = true) : (e.weights P u).all f = true := by
  simp only [DataW.weightsEach, List.all_append, Bool.and_eq_true] at h
  exact h.2.1
theorem cells_each {w : World} {base : Nat} {a : Addr} {n : Nat} {cs : List Value} (h : w.cells? base a n = some cs) : cs.length = n ∧ ∀ j u, cs[j]? = some u → w.cell? (a.add j) = some u := by
  obtain ⟨_, h1, h2⟩ := World.cells?_some h
  refine ⟨h1, fun j u hu => ?_⟩
  have hj : j < n := by
    rcases Nat.lt_or_ge j n with h3 | h3
    · exact h3
    · rw [List.getElem?_eq_none (by omega)] at hu; cases hu
  have := h2 j hj
  rw [this]; exact hu
section
variable {H : Type} {enc : TypeId × Value → H} {w : World} {base : Nat} {spare : Nat → Bool} {held : Bool} {fuel : Nat} {x : DataW H × List MemPlace}
set_option maxRecDepth 100000 in
theorem trod_insrow {cs : List Value} (h : DataW.trod enc Tryd.prog w base spare held fuel 108 cs = some x) :
    ∃ p c l, cs = [.slice p l.length c] ∧ InsIn w (.slice p l.length c) l ∧ ((x.1.weights Tryd.prog 108).all (· ≤ reachBytes) = true → l.length ≤ 140737488355328) := by
  rcases Go.Deep.open_slice Tryd.underlying108 h with ⟨rfl, _⟩ | ⟨a, len, cap, m, q, D, Pl, rfl, _, hl, hm, hmm, hx, hel⟩
  · exact ⟨none, 0, [], rfl, ⟨by simp, none, 0, 0, 0, rfl, fun h => by simp at h, fun k y h => by simp at h⟩, fun _ => by simp⟩
  · have hlm : len ≤ m := by rw [hmm]; split <;> omega
    have each : ∀ i, i < len → ∃ y : Ix, y.bd ∧ ∀ j u, y.cells[j]? = some u → w.cell? ((a.add (i * 6)).add j) = some u := by
      intro i hi
      obtain ⟨cs', h1, h2⟩ := hel i (by omega)
      rw [icells_inst] at h1
      obtain ⟨y, hb, rfl⟩ := trod_inst h2
      exact ⟨y, hb, (cells_each h1).2⟩
    obtain ⟨l, hll, hlp⟩ := list_of (fun i (y : Ix) => y.bd ∧ ∀ j u, y.cells[j]? = some u → w.cell? ((a.add (i * 6)).add j) = some u) len each
    subst hll
    have hw : (x.1.weights Tryd.prog 108).all (· ≤ reachBytes) = true → l.length ≤ 140737488355328 := by
      intro hall
      rw [hx] at hall
      simp only [DataW.weights, Tryd.underlying108, List.all_cons, Bool.and_eq_true, decide_eq_true_eq, List.length_map, List.length_range] at hall
      have h1 := hall.1
      rw [abytes_inst] at h1
      unfold reachBytes at h1
      omega
    refine ⟨some a, cap, l, rfl, ⟨by omega, some a, cap, ?_⟩, hw⟩
    by_cases h0 : 0 < l.length
    · obtain ⟨b, o, sp⟩ := a
      have hsp2 : sp = none := by
        have := World.cell?_spot ((hlp 0 l[0] (List.getElem?_eq_getElem h0)).2 0 _ rfl)
        simpa [Addr.add] using this
      subst hsp2
      refine ⟨b, o, rfl, fun _ => rfl, fun k y hy => ?_⟩
      obtain ⟨hb, hc⟩ := hlp k y hy
      refine InsAt.of_cells hb fun j u hu => ?_
      have := hc j u hu
      rw [aaddr_add, aaddr_add] at this
      exact this
    · exact ⟨0, 0, rfl, fun h => absurd h h0, fun k y hy => by have h1 : l = [] := List.eq_nil_of_length_eq_zero (by omega); rw [h1] at hy; simp at hy⟩
theorem list5' {α : Type} {l : List α} (h : l.length = 5) : ∃ a b c d e, l = [a, b, c, d, e] := by
  match l, h with
  | [a, b, c, d, e], _ => exact ⟨a, b, c, d, e, rfl⟩
end
end Go.Proofs.YtfbbodaapkfbdaaDoor
