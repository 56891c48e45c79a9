/- How an argument of type api.Prog is read. -/
import Derived.Test.YtfbbodaapkfbdaaDoorG30
import Derived.ProofKit
import Derived.OpenShut
import Derived.Deep.Slices
import Derived.ShutString
import Derived.SizedLaws
namespace Go.Proofs.YtfbbodaapkfbdaaDoor
open Go.RowKit Go.ChangeShapes Go.WideShapes Go.ChangeAt
set_option linter.unusedVariables false
set_option linter.unusedSimpArgs false
theorem slist_of {α : Type} (P : Nat → α → Prop) : ∀ n, (∀ i, i < n → ∃ y, P i y) → ∃ l : List α, l.length = n ∧ ∀ k y, l[k]? = some y → P k y := by
  intro n
  induction n with
  | zero => intro _; exact ⟨[], rfl, fun k y h => by simp at h⟩
  | succ n ih =>
    intro h
    obtain ⟨l, hl, hp⟩ := ih (fun i hi => h i (by omega))
    obtain ⟨y, hy⟩ := h n (by omega)
    refine ⟨l ++ [y], by simp [hl], fun k z hz => ?_⟩
    by_cases hk : k < l.length
    · rw [List.getElem?_append_left hk] at hz; exact hp k z hz
    · rw [List.getElem?_append_right (by omega)] at hz
      have : k - l.length = 0 := by
        rcases Nat.eq_zero_or_pos (k - l.length) with e | e
        · exact e
        · rw [List.getElem?_eq_none (by simp; omega)] at hz; cases hz
      rw [this] at hz
      cases hz
      obtain rfl : k = n := by omega
      exact hy
theorem saddr_add (b o n : Nat) : (⟨b, o, none⟩ : Addr).add n = ⟨b, o + n, none⟩ := by unfold Addr.add; split <;> simp [*]
theorem sweights_mem {H : Type} {P : Program} {e : TypeId} {f : Nat → Bool} : ∀ {l : List (DataW H)} {d : DataW H}, (DataW.weightsAll P e l).all f = true → d ∈ l → (d.weights P e).all f = true := by
  intro l
  induction l with
  | nil => intro d _ h; cases h
  | cons x r ih =>
    intro d h hm
    simp only [DataW.weightsAll, List.all_append, Bool.and_eq_true] at h
    rcases List.mem_cons.1 hm with rfl | hm
    · exact h.1
    · exact ih h.2 hm
theorem sweights_each {H : Type} {P : Program} {f : Nat → Bool} {t : TypeId} {ts : List TypeId} {d : DataW H} {r : List (DataW H)} (h : (DataW.weightsEach P (t :: ts) (d :: r)).all f = true) : (d.weights P t).all f = true ∧ (DataW.weightsEach P ts r).all f = true := by
  simp only [DataW.weightsEach, List.all_append, Bool.and_eq_true] at h
  exact h
theorem scells_each {w : World} {base : Nat} {a : Addr} {n : Nat} {cs : List Value} (h : w.cells? base a n = some cs) : cs.length = n ∧ ∀ j u, cs[j]? = some u → w.cell? (a.add j) = some u := by
  obtain ⟨_, h1, h2⟩ := World.cells?_some h
  refine ⟨h1, fun j u hu => ?_⟩
  have hj : j < n := by
    rcases Nat.lt_or_ge j n with h3 | h3
    · exact h3
    · rw [List.getElem?_eq_none (by omega)] at hu; cases hu
  have := h2 j hj
  rw [this]; exact hu
section
variable {H : Type} {enc : TypeId × Value → H} {w : World} {base : Nat} {spare : Nat → Bool} {held : Bool}
/-- An element's opener. -/
def Opens (enc : TypeId × Value → H) (w : World) (base : Nat) (spare : Nat → Bool) (held : Bool) {α : Type} (At : World → Nat → Nat → α → Prop) (e : TypeId) : Prop :=
  ∀ (fuel : Nat) (cs : List Value) (x : DataW H × List MemPlace), DataW.trod enc Tryd.prog w base spare held fuel e cs = some x → (x.1.weights Tryd.prog e).all (· ≤ reachBytes) = true →
    ∃ y : α, ∀ b o, (∀ j u, cs[j]? = some u → w.cell? ⟨b, o + j, none⟩ = some u) → At w b o y
theorem trod_rows {α : Type} {At : World → Nat → Nat → α → Prop} {size bytes : Nat} {t e : TypeId} (ht : Tryd.prog.underlying t = some (.slice e)) (hc : Tryd.prog.cellsOf e = size) (hb : Tryd.prog.bytesOf e = bytes) (hs : 0 < size) (hel : Opens enc w base spare held At e)
    {fuel : Nat} {cs : List Value} {x : DataW H × List MemPlace} (h : DataW.trod enc Tryd.prog w base spare held fuel t cs = some x) (hw : (x.1.weights Tryd.prog t).all (· ≤ reachBytes) = true) : ∃ v l, cs = [v] ∧ RowIn At size bytes w v l ∧ l.length * bytes ≤ 140737488351232 := by
  rcases Go.Deep.open_slice ht h with ⟨rfl, _⟩ | ⟨a, len, cap, m, q, D, Pl, rfl, _, hl, hm, hmm, hx, he⟩
  · exact ⟨_, [], rfl, ⟨by simp, none, 0, 0, 0, rfl, ⟨fun h => by simp at h, fun _ => rfl⟩, fun k y h => by simp at h⟩, by simp⟩
  · have hlm : len ≤ m := by rw [hmm]; split <;> omega
    rw [hx] at hw
    simp only [DataW.weights, ht, List.all_cons, List.all_append, Bool.and_eq_true, decide_eq_true_eq, List.length_map, List.length_range] at hw
    obtain ⟨hw0, hw1, _⟩ := hw
    have each : ∀ i, i < len → ∃ y : α, ∃ cs' : List Value, cs'.length = size ∧ (∀ j u, cs'[j]? = some u → w.cell? ((a.add (i * size)).add j) = some u) ∧ ∀ b o, (∀ j u, cs'[j]? = some u → w.cell? ⟨b, o + j, none⟩ = some u) → At w b o y := by
      intro i hi
      obtain ⟨cs', h1, h2⟩ := he i (by omega)
      rw [hc] at h1
      obtain ⟨y, hy⟩ := hel _ _ _ h2 (sweights_mem hw1 (List.mem_map.2 ⟨i, List.mem_range.2 hi, rfl⟩))
      exact ⟨y, cs', (scells_each h1).1, (scells_each h1).2, hy⟩
    obtain ⟨l, hll, hlp⟩ := slist_of _ len each
    subst hll
    have htight : l.length * bytes ≤ 140737488351232 := by
      rw [hb] at hw0
      unfold reachBytes at hw0
      have h3 : l.length * bytes ≤ (l.length + (m - l.length)) * bytes := Nat.mul_le_mul_right _ (by omega)
      omega
    refine ⟨_, l, rfl, ⟨by omega, some a, cap, ?_⟩, htight⟩
    · by_cases h0 : 0 < l.length
      · obtain ⟨b, o, sp⟩ := a
        have hsp2 : sp = none := by
          obtain ⟨cs', hcl, hcc, _⟩ := hlp 0 l[0] (List.getElem?_eq_getElem h0)
          have := World.cell?_spot (hcc 0 _ (List.getElem?_eq_getElem (by omega)))
          simpa [Addr.add] using this
        subst hsp2
        refine ⟨b, o, rfl, ⟨fun _ => rfl, fun h => by cases h⟩, fun k y hy => ?_⟩
        obtain ⟨cs', hcl, hcc, hA⟩ := hlp k y hy
        refine hA b (o + k * size) fun j u hu => ?_
        have := hcc j u hu
        rw [saddr_add, saddr_add] at this
        exact this
      · exact ⟨0, 0, rfl, ⟨fun h => absurd h h0, fun h => by cases h⟩, fun k y hy => by have h1 : l = [] := List.eq_nil_of_length_eq_zero (by omega); rw [h1] at hy; simp at hy⟩
theorem sc_int : Tryd.prog.cellsOf 3 = 1 := by kernel_rfl
theorem sc_u8 : Tryd.prog.cellsOf 5 = 1 := by kernel_rfl
theorem sc_u32 : Tryd.prog.cellsOf 30 = 1 := by kernel_rfl
theorem sc_string : Tryd.prog.cellsOf 9 = 1 := by kernel_rfl
theorem sc_ints : Tryd.prog.cellsOf 22 = 1 := by kernel_rfl
theorem sc_insx : Tryd.prog.cellsOf 74 = 1 := by kernel_rfl
theorem sc_blks : Tryd.prog.cellsOf 69 = 1 := by kernel_rfl
theorem sc_fns : Tryd.prog.cellsOf 23 = 1 := by kernel_rfl
theorem sc_ins : Tryd.prog.cellsOf 73 = 9 := by kernel_rfl
theorem sc_blk : Tryd.prog.cellsOf 76 = 2 := by kernel_rfl
theorem sc_fn : Tryd.prog.cellsOf 71 = 4 := by kernel_rfl
theorem sc_prog : Tryd.prog.cellsOf 25 = 3 := by kernel_rfl
theorem sb_int : Tryd.prog.bytesOf 3 = 8 := by kernel_rfl
theorem sb_ins : Tryd.prog.bytesOf 73 = 88 := by kernel_rfl
theorem sb_blk : Tryd.prog.bytesOf 76 = 40 := by kernel_rfl
theorem sb_fn : Tryd.prog.bytesOf 71 = 56 := by kernel_rfl
theorem slist2 {α : Type} {l : List α} (h : l.length = 2) : ∃ a0 a1, l = [a0, a1] := by
  match l, h with
  | [a0, a1], _ => exact ⟨a0, a1, rfl⟩
theorem slist3 {α : Type} {l : List α} (h : l.length = 3) : ∃ a0 a1 a2, l = [a0, a1, a2] := by
  match l, h with
  | [a0, a1, a2], _ => exact ⟨a0, a1, a2, rfl⟩
theorem slist4 {α : Type} {l : List α} (h : l.length = 4) : ∃ a0 a1 a2 a3, l = [a0, a1, a2, a3] := by
  match l, h with
  | [a0, a1, a2, a3], _ => exact ⟨a0, a1, a2, a3, rfl⟩
theorem slist9 {α : Type} {l : List α} (h : l.length = 9) : ∃ a0 a1 a2 a3 a4 a5 a6 a7 a8, l = [a0, a1, a2, a3, a4, a5, a6, a7, a8] := by
  match l, h with
  | [a0, a1, a2, a3, a4, a5, a6, a7, a8], _ => exact ⟨a0, a1, a2, a3, a4, a5, a6, a7, a8, rfl⟩
theorem opens_int : Opens enc w base spare held IntAt 3 := by
  intro fuel cs x h _
  obtain ⟨a, e0, _, w0⟩ := DataW.trod_int Tryd.underlying3 h
  subst e0
  have b0 := bounds_i64 w0
  exact ⟨a, fun b o hc => ⟨hc 0 _ rfl, by unfold I64; omega⟩⟩
set_option maxRecDepth 100000 in
theorem opens_ins : Opens enc w base spare held InsxAt 73 := by
  intro fuel cs x h hw
  obtain ⟨xs, n, _, rfl, hl, hlen, hf⟩ := DataW.trod_struct Tryd.underlying73 h
  rw [sc_ins] at hl
  obtain ⟨c0, c1, c2, c3, c4, c5, c6, c7, c8, rfl⟩ := slist9 hl
  obtain ⟨y0, y1, y2, y3, y4, y5, y6, y7, y8, rfl⟩ := slist9 hlen
  simp only [List.map_cons, List.map_nil, DataW.weights, Tryd.underlying73] at hw
  have h0 := hf 0 _ rfl
  have h1 := hf 1 _ rfl
  have h2 := hf 2 _ rfl
  have h3 := hf 3 _ rfl
  have h4 := hf 4 _ rfl
  have h5 := hf 5 _ rfl
  have h6 := hf 6 _ rfl
  have h7 := hf 7 _ rfl
  have h8 := hf 8 _ rfl
  simp [sc_int, sc_ints, sc_u32, sc_u8] at h0 h1 h2 h3 h4 h5 h6 h7 h8
  obtain ⟨w0, v0⟩ := sweights_each hw
  obtain ⟨w1, v1⟩ := sweights_each v0
  obtain ⟨w2, v2⟩ := sweights_each v1
  obtain ⟨w3, v3⟩ := sweights_each v2
  obtain ⟨w4, v4⟩ := sweights_each v3
  obtain ⟨w5, v5⟩ := sweights_each v4
  obtain ⟨w6, v6⟩ := sweights_each v5
  obtain ⟨w7, v7⟩ := sweights_each v6
  obtain ⟨w8, v8⟩ := sweights_each v7
  obtain ⟨a0, e0, _, z0⟩ := DataW.trod_int Tryd.underlying5 h0
  have b0 := bounds_u8 z0
  obtain ⟨a1, e1, _, z1⟩ := DataW.trod_int Tryd.underlying3 h1
  have b1 := bounds_i64 z1
  obtain ⟨a2, e2, _, z2⟩ := DataW.trod_int Tryd.underlying3 h2
  have b2 := bounds_i64 z2
  obtain ⟨a3, e3, _, z3⟩ := DataW.trod_int Tryd.underlying3 h3
  have b3 := bounds_i64 z3
  obtain ⟨a4, e4, _, z4⟩ := DataW.trod_int Tryd.underlying30 h4
  have b4 := bounds_u32 z4
  obtain ⟨a5, e5, _, z5⟩ := DataW.trod_int Tryd.underlying3 h5
  have b5 := bounds_i64 z5
  obtain ⟨u6, a6, e6, z6, y6⟩ := trod_rows Tryd.underlying22 sc_int sb_int (by omega) opens_int h6 w6
  obtain ⟨a7, e7, _, z7⟩ := DataW.trod_int Tryd.underlying3 h7
  have b7 := bounds_i64 z7
  obtain ⟨a8, e8, _, z8⟩ := DataW.trod_int Tryd.underlying3 h8
  have b8 := bounds_i64 z8
  simp at e0 e1 e2 e3 e4 e5 e6 e7 e8
  subst e0 e1 e2 e3 e4 e5 e6 e7 e8
  have hargs : ∀ y ∈ a6, I64 y := by
    intro y hy
    obtain ⟨k, hk⟩ := List.getElem?_of_mem hy
    obtain ⟨_, p, c, b, o, _, _, h4⟩ := z6
    exact (h4 k y hk).2
  refine ⟨⟨a0, a1, a2, a3, a4, a5, a6, a7, a8⟩, fun b o hc => ⟨hc 0 _ rfl, hc 1 _ rfl, hc 2 _ rfl, hc 3 _ rfl, hc 4 _ rfl, hc 5 _ rfl, ⟨_, hc 6 _ rfl, z6⟩, hc 7 _ rfl, hc 8 _ rfl, ?_⟩⟩
  unfold Insx.bd I64
  simp only
  refine ⟨by omega, by omega, by omega, by omega, by omega, by omega, fun y hy => ?_, by omega, by omega⟩
  have := hargs y hy
  unfold I64 at this
  exact this
/-- Not more instructions than the form lets be. -/
def BlkAtT (w : World) (b o : Nat) (x : Blk) : Prop := BlkAt w b o x ∧ x.ins.length * 88 ≤ 140737488351232
def TightF (x : Fnx) : Prop := ∀ b ∈ x.blocks, b.ins.length * 88 ≤ 140737488351232
def FnAtT (w : World) (b o : Nat) (x : Fnx) : Prop := FnAt w b o x ∧ TightF x
theorem RowIn.imp {α : Type} {At At' : World → Nat → Nat → α → Prop} {size bytes : Nat} {w : World} {v : Value} {l : List α} (h : RowIn At size bytes w v l) (hi : ∀ b o x, At w b o x → At' w b o x) : RowIn At' size bytes w v l := by
  obtain ⟨h1, p, c, b, o, h2, h3, h4⟩ := h
  exact ⟨h1, p, c, b, o, h2, h3, fun k x hx => hi _ _ _ (h4 k x hx)⟩
theorem RowIn.all {α : Type} {At : World → Nat → Nat → α → Prop} {size bytes : Nat} {w : World} {v : Value} {l : List α} {P : α → Prop} (h : RowIn At size bytes w v l) (hi : ∀ b o x, At w b o x → P x) : ∀ x ∈ l, P x := by
  obtain ⟨h1, p, c, b, o, h2, h3, h4⟩ := h
  intro x hx
  obtain ⟨k, hk⟩ := List.getElem?_of_mem hx
  exact hi _ _ _ (h4 k x hk)
set_option maxRecDepth 100000 in
theorem opens_blk : Opens enc w base spare held BlkAtT 76 := by
  intro fuel cs x h hw
  obtain ⟨xs, n, _, rfl, hl, hlen, hf⟩ := DataW.trod_struct Tryd.underlying76 h
  rw [sc_blk] at hl
  obtain ⟨c0, c1, rfl⟩ := slist2 hl
  obtain ⟨y0, y1, rfl⟩ := slist2 hlen
  simp only [List.map_cons, List.map_nil, DataW.weights, Tryd.underlying76] at hw
  have h0 := hf 0 _ rfl
  have h1 := hf 1 _ rfl
  simp [sc_insx, sc_string] at h0 h1
  obtain ⟨w0, v0⟩ := sweights_each hw
  obtain ⟨w1, v1⟩ := sweights_each v0
  obtain ⟨a0, e0, g0, z0⟩ := DataW.trod_string Tryd.underlying9 h0
  subst g0
  obtain ⟨u1, a1, e1, z1, y1⟩ := trod_rows Tryd.underlying74 sc_ins sb_ins (by omega) opens_ins h1 w1
  simp at e0 e1
  subst e0 e1
  exact ⟨⟨a0, a1⟩, fun b o hc => ⟨⟨hc 0 _ rfl, ⟨_, hc 1 _ rfl, z1⟩, (by
    have h := w0
    simp [DataW.weights] at h
    unfold reachBytes at h
    have : a0.size = a0.data.toList.length := by simp
    simp only at *
    omega)⟩, y1⟩⟩
set_option maxRecDepth 100000 in
theorem opens_fn : Opens enc w base spare held FnAtT 71 := by
  intro fuel cs x h hw
  obtain ⟨xs, n, _, rfl, hl, hlen, hf⟩ := DataW.trod_struct Tryd.underlying71 h
  rw [sc_fn] at hl
  obtain ⟨c0, c1, c2, c3, rfl⟩ := slist4 hl
  obtain ⟨y0, y1, y2, y3, rfl⟩ := slist4 hlen
  simp only [List.map_cons, List.map_nil, DataW.weights, Tryd.underlying71] at hw
  have h0 := hf 0 _ rfl
  have h1 := hf 1 _ rfl
  have h2 := hf 2 _ rfl
  have h3 := hf 3 _ rfl
  simp [sc_blks, sc_int, sc_string] at h0 h1 h2 h3
  obtain ⟨w0, v0⟩ := sweights_each hw
  obtain ⟨w1, v1⟩ := sweights_each v0
  obtain ⟨w2, v2⟩ := sweights_each v1
  obtain ⟨w3, v3⟩ := sweights_each v2
  obtain ⟨a0, e0, g0, z0⟩ := DataW.trod_string Tryd.underlying9 h0
  subst g0
  obtain ⟨a1, e1, _, z1⟩ := DataW.trod_int Tryd.underlying3 h1
  have b1 := bounds_i64 z1
  obtain ⟨a2, e2, _, z2⟩ := DataW.trod_int Tryd.underlying3 h2
  have b2 := bounds_i64 z2
  obtain ⟨u3, a3, e3, z3, y3⟩ := trod_rows Tryd.underlying69 sc_blk sb_blk (by omega) opens_blk h3 w3
  simp at e0 e1 e2 e3
  subst e0 e1 e2 e3
  exact ⟨⟨a0, a1, a2, a3⟩, fun b o hc => ⟨⟨hc 0 _ rfl, hc 1 _ rfl, hc 2 _ rfl, ⟨_, hc 3 _ rfl, z3.imp fun _ _ _ h => h.1⟩, (by
    have h := w0
    simp [DataW.weights] at h
    unfold reachBytes at h
    have : a0.size = a0.data.toList.length := by simp
    simp only at *
    omega), by unfold I64; simp only; omega, by unfold I64; simp only; omega⟩, z3.all fun _ _ _ h => h.2⟩⟩
set_option maxRecDepth 100000 in
theorem trod_prog : ∀ (fuel : Nat) (cs : List Value) (x : DataW H × List MemPlace), DataW.trod enc Tryd.prog w base spare held fuel 25 cs = some x → (x.1.weights Tryd.prog 25).all (· ≤ reachBytes) = true →
    ∃ (p : Prg) (pt : Option Addr) (ct : Nat) (pf : Option Addr) (cf : Nat), cs = [.int .i64 p.heap, .slice pt p.threads.length ct, .slice pf p.funcs.length cf] ∧ I64 p.heap ∧ IntsIn w (.slice pt p.threads.length ct) p.threads ∧ FnsIn w (.slice pf p.funcs.length cf) p.funcs ∧ ∀ x ∈ p.funcs, TightF x := by
  intro fuel cs x h hw
  obtain ⟨xs, n, _, rfl, hl, hlen, hf⟩ := DataW.trod_struct Tryd.underlying25 h
  rw [sc_prog] at hl
  obtain ⟨c0, c1, c2, rfl⟩ := slist3 hl
  obtain ⟨y0, y1, y2, rfl⟩ := slist3 hlen
  simp only [List.map_cons, List.map_nil, DataW.weights, Tryd.underlying25] at hw
  have h0 := hf 0 _ rfl
  have h1 := hf 1 _ rfl
  have h2 := hf 2 _ rfl
  simp [sc_fns, sc_int, sc_ints] at h0 h1 h2
  obtain ⟨w0, v0⟩ := sweights_each hw
  obtain ⟨w1, v1⟩ := sweights_each v0
  obtain ⟨w2, v2⟩ := sweights_each v1
  obtain ⟨a0, e0, _, z0⟩ := DataW.trod_int Tryd.underlying3 h0
  have b0 := bounds_i64 z0
  obtain ⟨u1, a1, e1, z1, y1⟩ := trod_rows Tryd.underlying22 sc_int sb_int (by omega) opens_int h1 w1
  obtain ⟨u2, a2, e2, z2, y2⟩ := trod_rows Tryd.underlying23 sc_fn sb_fn (by omega) opens_fn h2 w2
  simp at e0 e1 e2
  subst e0 e1 e2
  obtain ⟨pt, ct, rfl⟩ := z1.shape
  obtain ⟨pf, cf, rfl⟩ := z2.shape
  exact ⟨⟨a0, a1, a2⟩, _, _, _, _, rfl, by unfold I64; simp only; omega, z1, z2.imp fun _ _ _ h => h.1, z2.all fun _ _ _ h => h.2⟩
end
set_option maxRecDepth 100000 in
def PrgV' (w : World) (v : Value) (p : Prg) : Prop := ∃ pt ct pf cf, v = .agg #[.int .i64 p.heap, .slice pt p.threads.length ct, .slice pf p.funcs.length cf] ∧ IntsIn w (.slice pt p.threads.length ct) p.threads ∧ FnsIn w (.slice pf p.funcs.length cf) p.funcs
set_option maxRecDepth 100000 in
theorem open_prog {H : Type} {enc : TypeId × Value → H} {W : World} {base b : Nat} {spare : Nat → Bool} {held : Bool} {r : Reach} {v : Value} {d : DataW H} {p : List MemPlace} (hv : Value.okWide Tryd.prog W r b 25 v) (h : DataW.Trod enc Tryd.prog W base spare held 25 v d p) (hw : (d.weights Tryd.prog 25).all (· ≤ reachBytes) = true) :
    ∃ q : Prg, (I64 q.heap ∧ ∀ x ∈ q.funcs, TightF x) ∧ PrgV' W v q := by
  obtain ⟨cs, rfl, hsz⟩ := okWide_struct Tryd.underlying25 hv
  obtain ⟨m, hm⟩ := h
  obtain ⟨q, pt, ct, pf, cf, he, hh, h1, h2, h3⟩ := trod_prog m cs.toList (d, p) (by simpa [Value.cells] using hm) hw
  refine ⟨q, ⟨hh, h3⟩, pt, ct, pf, cf, ?_, h1, h2⟩
  congr 1
  apply Array.toList_inj.1
  rw [he]
end Go.Proofs.YtfbbodaapkfbdaaDoor
