/- How arguments of the types api.Inst, []api.Inst, Act and []Act (muntinlaw07) are read. -/
import Derived.Test.YtimhpohlaagbpaaDoorAsmSame
import Derived.Test.YtimhpohlaagbpaaDoorInstOpen
import Derived.Deep.Slices
import Derived.ShutString
namespace Go.Proofs.YtimhpohlaagbpaaDoor
open Go.RowKit Go.ChangeShapes Go.WideShapes Go.ChangeAt
set_option linter.unusedVariables false
set_option linter.unusedSimpArgs false
theorem list_of {α : Type} (P : Nat → α → Prop) : ∀ n, (∀ i, i < n → ∃ y, P i y) → ∃ l : List α, l.length = n ∧ ∀ k y, l[k]? = some y → P k y := by
  intro n
  induction n with
  | zero => intro _; exact ⟨[], rfl, fun k y h => by simp at h⟩
  | succ n ih =>
    intro h
    obtain ⟨l, hl, hp⟩ := ih (fun i hi => h i (by omega))
    obtain ⟨y, hy⟩ := h n (by omega)
    refine ⟨l ++ [y], by simp [hl], fun k z hz => ?_⟩
    by_cases hk : k < l.length
    · rw [List.getElem?_append_left hk] at hz; exact hp k z hz
    · rw [List.getElem?_append_right (by omega)] at hz
      have : k - l.length = 0 := by
        rcases Nat.eq_zero_or_pos (k - l.length) with e | e
        · exact e
        · rw [List.getElem?_eq_none (by simp; omega)] at hz; cases hz
      rw [this] at hz
      cases hz
      obtain rfl : k = n := by omega
      exact hy
theorem aaddr_add (b o n : Nat) : (⟨b, o, none⟩ : Addr).add n = ⟨b, o + n, none⟩ := by unfold Addr.add; split <;> simp [*]
theorem abytes_inst : Tryd.prog.bytesOf 58 = 12 := by kernel_rfl
theorem acells_string : Tryd.prog.cellsOf 9 = 1 := by kernel_rfl
theorem acells_u32 : Tryd.prog.cellsOf 36 = 1 := by kernel_rfl
theorem acells_rows : Tryd.prog.cellsOf 23 = 1 := by kernel_rfl
theorem acells_act : Tryd.prog.cellsOf 38 = 5 := by kernel_rfl
theorem abytes_act : 1 ≤ Tryd.prog.bytesOf 38 := by decide +kernel
theorem weights_mem {H : Type} {P : Program} {e : TypeId} {f : Nat → Bool} : ∀ {l : List (DataW H)} {d : DataW H}, (DataW.weightsAll P e l).all f = true → d ∈ l → (d.weights P e).all f = true := by
  intro l
  induction l with
  | nil => intro d _ h; cases h
  | cons x r ih =>
    intro d h hm
    simp only [DataW.weightsAll, List.all_append, Bool.and_eq_true] at h
    rcases List.mem_cons.1 hm with rfl | hm
    · exact h.1
    · exact ih h.2 hm
theorem weights_head {H : Type} {P : Program} {t : TypeId} {ts : List TypeId} {d : DataW H} {r : List (DataW H)} {f : Nat → Bool} (h : (DataW.weightsEach P (t :: ts) (d :: r)).all f = true) : (d.weights P t).all f = true := by
  simp only [DataW.weightsEach, List.all_append, Bool.and_eq_true] at h
  exact h.1
theorem weights_next {H : Type} {P : Program} {t u : TypeId} {ts : List TypeId} {d e : DataW H} {r : List (DataW H)} {f : Nat → Bool} (h : (DataW.weightsEach P (t :: u :: ts) (d :: e :: r)).all f = true) : (e.weights P u).all f = true := by
  simp only [DataW.weightsEach, List.all_append, Bool.and_eq_true] at h
  exact h.2.1
theorem cells_each {w : World} {base : Nat} {a : Addr} {n : Nat} {cs : List Value} (h : w.cells? base a n = some cs) : cs.length = n ∧ ∀ j u, cs[j]? = some u → w.cell? (a.add j) = some u := by
  obtain ⟨_, h1, h2⟩ := World.cells?_some h
  refine ⟨h1, fun j u hu => ?_⟩
  have hj : j < n := by
    rcases Nat.lt_or_ge j n with h3 | h3
    · exact h3
    · rw [List.getElem?_eq_none (by omega)] at hu; cases hu
  have := h2 j hj
  rw [this]; exact hu
section
variable {H : Type} {enc : TypeId × Value → H} {w : World} {base : Nat} {spare : Nat → Bool} {held : Bool} {fuel : Nat} {x : DataW H × List MemPlace}
set_option maxRecDepth 100000 in
theorem trod_insrow {cs : List Value} (h : DataW.trod enc Tryd.prog w base spare held fuel 23 cs = some x) :
    ∃ p c l, cs = [.slice p l.length c] ∧ InsIn w (.slice p l.length c) l ∧ ((x.1.weights Tryd.prog 23).all (· ≤ reachBytes) = true → l.length ≤ 140737488355328) := by
  rcases Go.Deep.open_slice Tryd.underlying23 h with ⟨rfl, _⟩ | ⟨a, len, cap, m, q, D, Pl, rfl, _, hl, hm, hmm, hx, hel⟩
  · exact ⟨none, 0, [], rfl, ⟨by simp, none, 0, 0, 0, rfl, fun h => by simp at h, fun k y h => by simp at h⟩, fun _ => by simp⟩
  · have hlm : len ≤ m := by rw [hmm]; split <;> omega
    have each : ∀ i, i < len → ∃ y : Ix, y.bd ∧ ∀ j u, y.cells[j]? = some u → w.cell? ((a.add (i * 6)).add j) = some u := by
      intro i hi
      obtain ⟨cs', h1, h2⟩ := hel i (by omega)
      rw [icells_inst] at h1
      obtain ⟨y, hb, rfl⟩ := trod_inst h2
      exact ⟨y, hb, (cells_each h1).2⟩
    obtain ⟨l, hll, hlp⟩ := list_of (fun i (y : Ix) => y.bd ∧ ∀ j u, y.cells[j]? = some u → w.cell? ((a.add (i * 6)).add j) = some u) len each
    subst hll
    have hw : (x.1.weights Tryd.prog 23).all (· ≤ reachBytes) = true → l.length ≤ 140737488355328 := by
      intro hall
      rw [hx] at hall
      simp only [DataW.weights, Tryd.underlying23, List.all_cons, Bool.and_eq_true, decide_eq_true_eq, List.length_map, List.length_range] at hall
      have h1 := hall.1
      rw [abytes_inst] at h1
      unfold reachBytes at h1
      omega
    refine ⟨some a, cap, l, rfl, ⟨by omega, some a, cap, ?_⟩, hw⟩
    by_cases h0 : 0 < l.length
    · obtain ⟨b, o, sp⟩ := a
      have hsp2 : sp = none := by
        have := World.cell?_spot ((hlp 0 l[0] (List.getElem?_eq_getElem h0)).2 0 _ rfl)
        simpa [Addr.add] using this
      subst hsp2
      refine ⟨b, o, rfl, fun _ => rfl, fun k y hy => ?_⟩
      obtain ⟨hb, hc⟩ := hlp k y hy
      refine InsAt.of_cells hb fun j u hu => ?_
      have := hc j u hu
      rw [aaddr_add, aaddr_add] at this
      exact this
    · exact ⟨0, 0, rfl, fun h => absurd h h0, fun k y hy => by have h1 : l = [] := List.eq_nil_of_length_eq_zero (by omega); rw [h1] at hy; simp at hy⟩
theorem list5' {α : Type} {l : List α} (h : l.length = 5) : ∃ a b c d e, l = [a, b, c, d, e] := by
  match l, h with
  | [a, b, c, d, e], _ => exact ⟨a, b, c, d, e, rfl⟩
set_option maxRecDepth 100000 in
theorem trod_act7 {cs : List Value} (h : DataW.trod enc Tryd.prog w base spare held fuel 38 cs = some x) :
    ∃ (y : Actx) (p : Option Addr) (c : Nat), cs = [.int .u8 y.what, .slice p y.l.length c, .string y.nm, .int .u8 y.cond, .int .u32 y.wd] ∧ (0 ≤ y.what ∧ y.what < 256) ∧ (0 ≤ y.cond ∧ y.cond < 256) ∧ (0 ≤ y.wd ∧ y.wd < 4294967296) ∧ y.nm.size ≤ maxLen ∧ InsIn w (.slice p y.l.length c) y.l ∧
      ((x.1.weights Tryd.prog 38).all (· ≤ reachBytes) = true → y.l.length ≤ 140737488355328 ∧ y.nm.size ≤ 140737488355328) := by
  obtain ⟨xs, n, _, rfl, hl, hlen, hf⟩ := DataW.trod_struct Tryd.underlying38 h
  rw [acells_act] at hl
  obtain ⟨c0, c1, c2, c3, c4, rfl⟩ := list5' hl
  obtain ⟨y0, y1, y2, y3, y4, rfl⟩ := list5' hlen
  have h0 := hf 0 _ rfl
  have h1 := hf 1 _ rfl
  have h2 := hf 2 _ rfl
  have h3 := hf 3 _ rfl
  have h4 := hf 4 _ rfl
  simp [icells_u8, acells_rows, acells_string, acells_u32] at h0 h1 h2 h3 h4
  obtain ⟨a0, e0, _, w0⟩ := DataW.trod_int Tryd.underlying5 h0
  obtain ⟨p, c, l, e1, hi, hw⟩ := trod_insrow h1
  obtain ⟨s, e2, rfl, hs⟩ := DataW.trod_string Tryd.underlying9 h2
  obtain ⟨a3, e3, _, w3⟩ := DataW.trod_int Tryd.underlying5 h3
  obtain ⟨a4, e4, _, w4⟩ := DataW.trod_int Tryd.underlying36 h4
  simp at e0 e1 e2 e3 e4
  have b0 := bounds_u8 w0
  have b3 := bounds_u8 w3
  have b4 := bounds_u32 w4
  refine ⟨⟨a0, l, s, a3, a4⟩, p, c, by rw [e0, e1, e2, e3, e4], by simp only; omega, by simp only; omega, by simp only; omega, hs, hi, fun hall => ?_⟩
  simp only [List.map_cons, List.map_nil, DataW.weights, Tryd.underlying38] at hall
  have hall2 := hall
  simp [DataW.weightsEach, DataW.weights, List.all_append] at hall2
  obtain ⟨_, q1, q2, _⟩ := hall2
  refine ⟨hw (by simpa using q1), ?_⟩
  unfold reachBytes at q2
  have : s.size = s.data.toList.length := by simp
  simp only at *
  omega
set_option maxRecDepth 100000 in
theorem trod_acts7 {cs : List Value} (h : DataW.trod enc Tryd.prog w base spare held fuel 22 cs = some x) :
    ∃ p n c, cs = [.slice p n c] ∧ ((x.1.weights Tryd.prog 22).all (· ≤ reachBytes) = true → ∃ l, l.length = n ∧ ActsIn w (.slice p n c) l) := by
  rcases Go.Deep.open_slice Tryd.underlying22 h with ⟨rfl, _⟩ | ⟨a, len, cap, m, q, D, Pl, rfl, _, hl, hm, hmm, hx, hel⟩
  · exact ⟨none, 0, 0, rfl, fun _ => ⟨[], rfl, by simp, fun y h => by simp at h, none, 0, 0, 0, rfl, fun h => by simp at h, fun k y h => by simp at h⟩⟩
  · refine ⟨some a, len, cap, rfl, fun hall => ?_⟩
    have hlm : len ≤ m := by rw [hmm]; split <;> omega
    rw [hx] at hall
    simp only [DataW.weights, Tryd.underlying22, List.all_cons, List.all_append, Bool.and_eq_true, decide_eq_true_eq, List.length_map, List.length_range] at hall
    obtain ⟨hw0, hw1, _⟩ := hall
    have each : ∀ i, i < len → ∃ y : Actx, (y.l.length ≤ 140737488355328 ∧ y.nm.size ≤ 140737488355328) ∧ ∃ (p : Option Addr) (c : Nat), (0 ≤ y.what ∧ y.what < 256) ∧ (0 ≤ y.cond ∧ y.cond < 256) ∧ (0 ≤ y.wd ∧ y.wd < 4294967296) ∧ y.nm.size ≤ maxLen ∧ InsIn w (.slice p y.l.length c) y.l ∧
        ∀ j u, [Value.int .u8 y.what, .slice p y.l.length c, .string y.nm, .int .u8 y.cond, .int .u32 y.wd][j]? = some u → w.cell? ((a.add (i * 5)).add j) = some u := by
      intro i hi
      obtain ⟨cs', h1, h2⟩ := hel i (by omega)
      rw [acells_act] at h1
      obtain ⟨y, p, c, rfl, k1, k2, k3, k4, k5, k6⟩ := trod_act7 h2
      refine ⟨y, k6 ?_, p, c, k1, k2, k3, k4, k5, (cells_each h1).2⟩
      exact weights_mem hw1 (List.mem_map.2 ⟨i, List.mem_range.2 hi, rfl⟩)
    obtain ⟨l, hll, hlp⟩ := list_of _ len each
    subst hll
    refine ⟨l, rfl, ?_, fun y hy => ?_, ?_⟩
    · have := abytes_act
      unfold reachBytes at hw0
      have h3 : l.length * 1 ≤ (l.length + (m - l.length)) * Tryd.prog.bytesOf 38 := Nat.mul_le_mul (by omega) this
      omega
    · obtain ⟨i, hi, he⟩ := List.mem_iff_getElem.1 hy
      exact (hlp i y (by rw [List.getElem?_eq_getElem hi, he])).1
    · by_cases h0 : 0 < l.length
      · obtain ⟨b, o, sp⟩ := a
        have hsp2 : sp = none := by
          obtain ⟨_, p, c, _, _, _, _, _, hc⟩ := hlp 0 l[0] (List.getElem?_eq_getElem h0)
          have := World.cell?_spot (hc 0 _ rfl)
          simpa [Addr.add] using this
        subst hsp2
        refine ⟨some ⟨b, o, none⟩, cap, b, o, rfl, fun _ => rfl, fun k y hy => ?_⟩
        obtain ⟨_, p, c, k1, k2, k3, k4, k5, hc⟩ := hlp k y hy
        have e : ∀ j, ((⟨b, o, none⟩ : Addr).add (k * 5)).add j = ⟨b, o + k * 5 + j, none⟩ := by intro j; rw [aaddr_add, aaddr_add]
        have q0 := hc 0 _ rfl
        have q1 := hc 1 _ rfl
        have q2 := hc 2 _ rfl
        have q3 := hc 3 _ rfl
        have q4 := hc 4 _ rfl
        rw [e] at q0 q1 q2 q3 q4
        exact ⟨_, q0, q1, q2, q3, q4, k1, k2, k3, k4, k5⟩
      · exact ⟨some a, cap, 0, 0, rfl, fun h => absurd h h0, fun k y hy => by have h1 : l = [] := List.eq_nil_of_length_eq_zero (by omega); rw [h1] at hy; simp at hy⟩
end
end Go.Proofs.YtimhpohlaagbpaaDoor
