/- Several texts in one: ShapeSeek, ShapeCheck. -/
import Derived.Test.YtdefooailcbnlaaG15
import Derived.Test.YtdefooailcbnlaaG18
import Derived.Test.YtdefooailcbnlaaG09
/- Whether a program may be, as plain data. No function of the program is walked here. -/
namespace Go.Proofs.Ytdefooailcbnlaa
open Go.RowKit
set_option linter.unusedVariables false
set_option linter.unusedSimpArgs false
/-- The first one from i on, of n. -/
def seek (bad : Nat → Bool) : Nat → Nat → Option Nat
  | _, 0 => none
  | i, n + 1 => if bad i = true then some i else seek bad (i + 1) n
def seek2 (bad : Nat → Nat → Bool) (nb : Nat → Nat) : Nat → Nat → Option (Nat × Nat)
  | _, 0 => none
  | i, n + 1 =>
    match seek (bad i) 0 (nb i) with
    | some j => some (i, j)
    | none => seek2 bad nb (i + 1) n
theorem seek_some {bad : Nat → Bool} : ∀ (n i j : Nat), i ≤ j → j < i + n → (∀ k, i ≤ k → k < j → bad k = false) → bad j = true → seek bad i n = some j
  | 0, i, j, h1, h2, _, _ => by omega
  | n + 1, i, j, h1, h2, h3, h4 => by
    unfold seek
    rcases Nat.eq_or_lt_of_le h1 with rfl | h
    · rw [if_pos h4]
    · rw [if_neg (by rw [h3 i (Nat.le_refl _) h]; simp)]
      exact seek_some n (i + 1) j h (by omega) (fun k a b => h3 k (by omega) b) h4
theorem seek_none {bad : Nat → Bool} : ∀ (n i : Nat), (∀ k, i ≤ k → k < i + n → bad k = false) → seek bad i n = none
  | 0, i, _ => rfl
  | n + 1, i, h => by
    unfold seek
    rw [if_neg (by rw [h i (Nat.le_refl _) (by omega)]; simp)]
    exact seek_none n (i + 1) (fun k a b => h k (by omega) (by omega))
theorem seek_none_iff {bad : Nat → Bool} : ∀ (n i : Nat), seek bad i n = none → ∀ k, i ≤ k → k < i + n → bad k = false
  | 0, i, _, k, a, b => by omega
  | n + 1, i, h, k, a, b => by
    unfold seek at h
    split at h
    · cases h
    · rename_i hb
      rcases Nat.eq_or_lt_of_le a with rfl | a
      · simpa using hb
      · exact seek_none_iff n (i + 1) h k a (by omega)
theorem seek2_some {bad : Nat → Nat → Bool} {nb : Nat → Nat} : ∀ (n i j m : Nat), i ≤ j → j < i + n → (∀ k, i ≤ k → k < j → ∀ q, q < nb k → bad k q = false) → m < nb j → (∀ q, q < m → bad j q = false) → bad j m = true → seek2 bad nb i n = some (j, m)
  | 0, i, j, m, h1, h2, _, _, _, _ => by omega
  | n + 1, i, j, m, h1, h2, h3, h4, h5, h6 => by
    unfold seek2
    rcases Nat.eq_or_lt_of_le h1 with rfl | h
    · rw [seek_some (nb i) 0 m (Nat.zero_le _) (by omega) (fun k _ b => h5 k b) h6]
    · rw [seek_none (nb i) 0 (fun k _ b => h3 i (Nat.le_refl _) h k (by omega))]
      exact seek2_some n (i + 1) j m h (by omega) (fun k a b => h3 k (by omega) b) h4 h5 h6
theorem seek2_none {bad : Nat → Nat → Bool} {nb : Nat → Nat} : ∀ (n i : Nat), (∀ k, i ≤ k → k < i + n → ∀ q, q < nb k → bad k q = false) → seek2 bad nb i n = none
  | 0, i, _ => rfl
  | n + 1, i, h => by
    unfold seek2
    rw [seek_none (nb i) 0 (fun k _ b => h i (Nat.le_refl _) (by omega) k (by omega))]
    exact seek2_none n (i + 1) (fun k a b => h k (by omega) (by omega))
theorem seek2_none_iff {bad : Nat → Nat → Bool} {nb : Nat → Nat} : ∀ (n i : Nat), seek2 bad nb i n = none → ∀ k, i ≤ k → k < i + n → ∀ q, q < nb k → bad k q = false
  | 0, i, _, k, a, b => by omega
  | n + 1, i, h, k, a, b => by
    unfold seek2 at h
    split at h
    · cases h
    · rename_i hs
      rcases Nat.eq_or_lt_of_le a with rfl | a
      · intro q hq
        exact seek_none_iff (nb i) 0 hs q (Nat.zero_le _) (by omega)
      · exact seek2_none_iff n (i + 1) h k a (by omega)
def badHead (fs : List Fnx) (n : Nat) : Bool :=
  match fs[n]? with
  | some x => !headB fs n x
  | none => false
def nbOf (fs : List Fnx) (n : Nat) : Nat := (fs[n]?.map fun x => x.blocks.length).getD 0
def badBlock (fs : List Fnx) (n i : Nat) : Bool :=
  match fs[n]? with
  | some x => match x.blocks[i]? with
    | some b => !blockB fs x.blocks i b
    | none => false
  | none => false
def badMiss (fs : List Fnx) (n i : Nat) : Bool :=
  match fs[n]? with
  | some x => missB x.blocks x.args i
  | none => false
/-- Where a program goes wrong, and whether. -/
def checkS (p : Prg) : Int × Int × Int :=
  if topB p = false then (-1, -1, 140) else
  match seek (badHead p.funcs) 0 p.funcs.length with
  | some n => ((n : Int), -1, 140)
  | none =>
    match seek2 (badBlock p.funcs) (nbOf p.funcs) 0 p.funcs.length with
    | some (n, i) => ((n : Int), (i : Int), 140)
    | none =>
      match seek2 (badMiss p.funcs) (nbOf p.funcs) 0 p.funcs.length with
      | some (n, i) => ((n : Int), (i : Int), 140)
      | none => (0, 0, 0)
/-- All functions' heads may be. -/
def HeadsOk (fs : List Fnx) : Prop := ∀ (n : Nat) x, fs[n]? = some x → headB fs n x = true
def BlocksOk (fs : List Fnx) : Prop := ∀ (n : Nat) x, fs[n]? = some x → ∀ (i : Nat) b, x.blocks[i]? = some b → blockB fs x.blocks i b = true
theorem greatN_le : ∀ (l : List Int) (n : Int), n ≤ greatN l n ∧ ∀ r ∈ l, min r 4096 + 1 ≤ greatN l n
  | [], n => ⟨Int.le_refl _, by simp⟩
  | r :: l, n => by
    obtain ⟨h1, h2⟩ := greatN_le l (max n (min r 4096 + 1))
    refine ⟨Int.le_trans (by omega) h1, fun q hq => ?_⟩
    rcases List.mem_cons.1 hq with rfl | hq
    · exact Int.le_trans (by omega) h1
    · exact h2 q hq
theorem insGreat_le : ∀ (l : List Insx) (n : Int), n ≤ insGreat l n ∧ ∀ x ∈ l, ∀ r ∈ regsOf x, min r 4096 + 1 ≤ insGreat l n
  | [], n => ⟨Int.le_refl _, by simp⟩
  | x :: l, n => by
    obtain ⟨g1, g2⟩ := greatN_le (regsOf x) n
    obtain ⟨h1, h2⟩ := insGreat_le l (greatN (regsOf x) n)
    refine ⟨Int.le_trans g1 h1, fun q hq r hr => ?_⟩
    rcases List.mem_cons.1 hq with rfl | hq
    · exact Int.le_trans (g2 r hr) h1
    · exact h2 q hq r hr
theorem greatest_le' : ∀ (bs : List Blk) (n : Int), n ≤ bs.foldl (fun n b => insGreat b.ins n) n ∧ ∀ b ∈ bs, ∀ x ∈ b.ins, ∀ r ∈ regsOf x, min r 4096 + 1 ≤ bs.foldl (fun n b => insGreat b.ins n) n
  | [], n => ⟨Int.le_refl _, by simp⟩
  | b :: bs, n => by
    obtain ⟨g1, g2⟩ := insGreat_le b.ins n
    obtain ⟨h1, h2⟩ := greatest_le' bs (insGreat b.ins n)
    refine ⟨Int.le_trans g1 h1, fun q hq x hx r hr => ?_⟩
    rcases List.mem_cons.1 hq with rfl | hq
    · exact Int.le_trans (g2 x hx r hr) h1
    · exact h2 q hq x hx r hr
theorem insAt_mem {bs : List Blk} {i : Nat} {x : Insx} (h : x ∈ insAt bs i) : ∃ b, bs[i]? = some b ∧ x ∈ b.ins := by
  unfold insAt at h
  cases hb : bs[i]? with
  | none => rw [hb] at h; simp at h
  | some b => rw [hb] at h; exact ⟨b, rfl, h⟩
theorem block_ins {fs : List Fnx} {bs : List Blk} {i : Nat} {b : Blk} (hb : bs[i]? = some b) (h : blockB fs bs i b = true) : 0 < b.ins.length ∧ ∀ (j : Nat) x, b.ins[j]? = some x → (endsB x = decide (j + 1 = b.ins.length)) ∧ insF fs bs.length x.op x.d x.a x.b x.n x.f x.args x.l1 x.l2 := by
  unfold blockB at h
  simp only [Bool.and_eq_true, decide_eq_true_eq] at h
  refine ⟨h.1.2, fun j x hx => ?_⟩
  have hj : j < b.ins.length := (List.getElem?_eq_some_iff.1 hx).1
  have := List.all_eq_true.1 h.2 j (List.mem_range.2 hj)
  rw [okAt_some hx] at this
  simp only [Bool.and_eq_true, beq_iff_eq] at this
  exact ⟨this.1, by simpa [insX] using this.2⟩
theorem regs_pos {fs : List Fnx} {nb : Nat} {x : Insx} (h : insF fs nb x.op x.d x.a x.b x.n x.f x.args x.l1 x.l2) : (∀ r ∈ readsS x, 0 ≤ r) ∧ 0 ≤ x.d := by
  obtain ⟨_, _, h1, h2, h3, h4, _⟩ := h
  refine ⟨fun r hr => ?_, h1⟩
  unfold readsS at hr
  split at hr
  · simp at hr; rcases hr with rfl | rfl <;> assumption
  · split at hr
    · simp at hr; subst hr; assumption
    · split at hr
      · exact h4 r hr
      · simp at hr
theorem blksOk_of {fs : List Fnx} (hH : HeadsOk fs) (hB : BlocksOk fs) {n : Nat} {x : Fnx} (hx : fs[n]? = some x) : ∃ A R : Nat, x.args = A ∧ x.regs = R ∧ A ≤ R ∧ R ≤ 4096 ∧ BlksOk R x.blocks := by
  have h := hH n x hx
  unfold headB at h
  simp only [Bool.and_eq_true, decide_eq_true_eq] at h
  obtain ⟨_, h1, h2, h3, h4, h5⟩ := h
  have hb := hB n x hx
  have hg := greatest_le' x.blocks 0
  refine ⟨x.args.toNat, x.regs.toNat, by omega, by omega, by omega, by omega, h5, fun i hi => ?_, fun i y hy => ?_, fun i k hk => ?_⟩
  · have hbi := List.getElem?_eq_getElem hi
    have := (block_ins hbi (hb i _ hbi)).1
    unfold insAt; rw [hbi]; exact this
  · obtain ⟨b, hbi, hyb⟩ := insAt_mem hy
    obtain ⟨j, hj⟩ := List.getElem?_of_mem hyb
    have hF := ((block_ins hbi (hb i b hbi)).2 j y hj).2
    obtain ⟨p1, p2⟩ := regs_pos hF
    have hgr : ∀ r ∈ regsOf y, min r 4096 + 1 ≤ greatestS x.blocks := hg.2 b (List.mem_of_getElem? hbi) y hyb
    refine ⟨fun r hr => ⟨p1 r hr, ?_⟩, fun hw => ⟨p2, ?_⟩⟩
    · have := hgr r (by unfold regsOf; split <;> simp [hr])
      omega
    · have := hgr y.d (by unfold regsOf; rw [if_pos hw]; simp [writesD, hw])
      omega
  · unfold goesOf at hk
    cases hl : (insAt x.blocks i)[(insAt x.blocks i).length - 1]? with
    | none => rw [hl] at hk; simp at hk
    | some y =>
      rw [hl] at hk
      simp only [Option.map_some, Option.getD_some] at hk
      obtain ⟨b, hbi, hyb⟩ := insAt_mem (List.mem_of_getElem? hl)
      obtain ⟨j, hj⟩ := List.getElem?_of_mem hyb
      obtain ⟨_, _, _, _, _, _, _, _, hF⟩ := ((block_ins hbi (hb i b hbi)).2 j y hj).2
      unfold goesS at hk
      split at hk
      · simp at hk; subst hk
        have := hF (by omega); omega
      · split at hk
        · have := hF (by omega)
          simp at hk; rcases hk with rfl | rfl <;> omega
        · simp at hk
theorem wrB_take (l : List Insx) (r : Int) (j : Nat) : wrB (l.take j) r (l.take j).length = wrB l r j := by
  unfold wrB; rw [List.take_length]
theorem WritesOk.take {l : List Insx} (h : WritesOk l) (j : Nat) : WritesOk (l.take j) := fun x hx => h x (List.mem_of_mem_take hx)
/-- What is not surely there, by the program's sets, is what the document's paths lack. -/
theorem sure_miss {bs : List Blk} {A R : Nat} {S : Sets} (hbk : BlksOk R bs) (h : Final bs A R S) (i : Nat) (hi : i < bs.length) :
    missB bs A i = match S[i]? with | some (some l) => !fineL (insAt bs i) l (insAt bs i).length | _ => false := by
  have hF := hbk.flow
  have key : ∀ r : Nat, r < R → (lackF bs A i r = true ↔ ∃ l, S[i]? = some (some l) ∧ l[r]? = some false) := by
    intro r hr
    rw [← final_iff hF h r hr i, ← lacks_iff hF hbk.some i]
    unfold lackF
    rw [Int.toNat_natCast]
    cases (lacksL bs A r)[i]? with
    | none => simp
    | some x => simp
  split
  · rename_i l hl
    have hlen := (h.inv.sound i l hl).1
    rw [Bool.eq_iff_iff]
    unfold missB fineL
    rw [List.any_eq_true, Bool.not_eq_true', List.all_eq_false]
    constructor
    · rintro ⟨j, hj, hm⟩
      refine ⟨j, hj, ?_⟩
      unfold missAt at hm
      unfold fineAt
      cases hx : (insAt bs i)[j]? with
      | none => rw [hx] at hm; cases hm
      | some x =>
        rw [hx] at hm
        simp only [Bool.not_eq_true, List.all_eq_false]
        obtain ⟨r, hr, hm⟩ := List.any_eq_true.1 hm
        refine ⟨r, hr, ?_⟩
        obtain ⟨h0, h1⟩ := (hbk.names i x (List.mem_of_getElem? hx)).1 r hr
        obtain ⟨rn, rfl⟩ := Int.eq_ofNat_of_zero_le h0
        simp only [Bool.and_eq_true, Bool.not_eq_true'] at hm
        obtain ⟨l', e1, e2⟩ := (key rn (by omega)).1 hm.1
        rw [hl] at e1; cases e1
        have := (thru_get _ _ _ ((hF.wr i).take j)).2 ⟨e2, by rw [wrB_take]; exact hm.2⟩
        unfold hasR
        rw [Int.toNat_natCast, this]; simp
    · rintro ⟨j, hj, hm⟩
      refine ⟨j, hj, ?_⟩
      unfold fineAt at hm
      unfold missAt
      cases hx : (insAt bs i)[j]? with
      | none => rw [hx] at hm; simp at hm
      | some x =>
        rw [hx] at hm
        simp only [Bool.not_eq_true, List.all_eq_false] at hm
        obtain ⟨r, hr, hm⟩ := hm
        rw [List.any_eq_true]
        refine ⟨r, hr, ?_⟩
        obtain ⟨h0, h1⟩ := (hbk.names i x (List.mem_of_getElem? hx)).1 r hr
        obtain ⟨rn, rfl⟩ := Int.eq_ofNat_of_zero_le h0
        unfold hasR at hm
        rw [Int.toNat_natCast] at hm
        have hlt : rn < (thru ((insAt bs i).take j) l).length := by rw [thru_length, hlen]; omega
        rw [List.getElem?_eq_getElem hlt] at hm
        have hm' : (thru ((insAt bs i).take j) l)[rn]? = some false := by
          rw [List.getElem?_eq_getElem hlt]; simpa using hm
        obtain ⟨e1, e2⟩ := (thru_get _ _ _ ((hF.wr i).take j)).1 hm'
        rw [wrB_take] at e2
        simp only [Bool.and_eq_true, Bool.not_eq_true']
        exact ⟨(key rn (by omega)).2 ⟨l, hl, e1⟩, e2⟩
  · rename_i hn
    unfold missB
    rw [List.any_eq_false]
    intro j hj hm
    unfold missAt at hm
    cases hx : (insAt bs i)[j]? with
    | none => rw [hx] at hm; cases hm
    | some x =>
      rw [hx] at hm
      obtain ⟨r, hr, hm⟩ := List.any_eq_true.1 hm
      obtain ⟨h0, h1⟩ := (hbk.names i x (List.mem_of_getElem? hx)).1 r hr
      obtain ⟨rn, rfl⟩ := Int.eq_ofNat_of_zero_le h0
      simp only [Bool.and_eq_true, Bool.not_eq_true'] at hm
      obtain ⟨l', e1, e2⟩ := (key rn (by omega)).1 hm.1
      exact hn l' e1
end Go.Proofs.Ytdefooailcbnlaa
/- The walk of shape.Check. -/
namespace Go.Proofs.Ytdefooailcbnlaa
open Go.RowKit Go.Deep
set_option linter.unusedVariables false
set_option linter.unusedSimpArgs false
/-- A place's box. -/
structure QBox (w : World) (g : Nat) (a b : Value) : Prop where
  lt : g < w.heap.size
  c0 : w.cell? ⟨g, 0, none⟩ = some a
  c1 : w.cell? ⟨g, 1, none⟩ = some b
  f0 : w.frozen? ⟨g, 0, none⟩ = false
  f1 : w.frozen? ⟨g, 1, none⟩ = false
theorem QBox.new (w : World) (a b : Value) (t : TypeId) : QBox (w.alloc (.cells #[a, b] t)) w.heap.size a b := by
  have k := fun i => cell_of_obj (i := i) (heap_alloc_new w (.cells #[a, b] t))
  have f := fun i => free_of_obj (i := i) (heap_alloc_new w (.cells #[a, b] t))
  exact ⟨by simp, k 0, k 1, f 0, f 1⟩
theorem QBox.keep {w w' : World} {g : Nat} {a b : Value} (k : QBox w g a b) (hb : Below w.heap.size w w') : QBox w' g a b :=
  ⟨Nat.lt_of_lt_of_le k.lt hb.size, (hb.cell (p := ⟨g, 0, none⟩) k.lt).trans k.c0, (hb.cell (p := ⟨g, 1, none⟩) k.lt).trans k.c1, (hb.frozen (p := ⟨g, 0, none⟩) k.lt).trans k.f0, (hb.frozen (p := ⟨g, 1, none⟩) k.lt).trans k.f1⟩
theorem QBox.set {w : World} {g : Nat} {a b : Value} (h : QBox w g a b) (u v : Value) : QBox ((w.setCell ⟨g, 0, none⟩ u).setCell ⟨g, 1, none⟩ v) g u v := by
  obtain ⟨lt, c0, c1, f0, f1⟩ := h
  refine ⟨by simpa [World.setCell] using lt, ?_, ?_, ?_, ?_⟩
  · exact (World.cell?_setCell_other _ _ _ _ (by simp)).trans (World.cell?_setCell_same _ _ _ c0)
  · exact World.cell?_setCell_same _ _ _ (u := b) ((World.cell?_setCell_other _ _ _ _ (by simp)).trans c1)
  · simpa using f0
  · simpa using f1
theorem QBox.sets {w : World} {g B : Nat} {a b : Value} (h : QBox w g a b) (hB : B ≤ g) (u v : Value) : Below B w ((w.setCell ⟨g, 0, none⟩ u).setCell ⟨g, 1, none⟩ v) :=
  ((Below.refl _ _).setCell (p := ⟨g, 0, none⟩) hB u).setCell (p := ⟨g, 1, none⟩) hB v
def checkV (p : Prg) : Value := .tuple #[.agg #[.int .i64 (checkS p).1, .int .i64 (checkS p).2.1], .int .i64 (checkS p).2.2]
theorem checkS_top {p : Prg} (h : topB p = false) : checkS p = (-1, -1, 140) := by unfold checkS; rw [if_pos h]
theorem checkS_head {p : Prg} (h : topB p = true) {n : Nat} (hn : n < p.funcs.length) (h1 : ∀ m, m < n → badHead p.funcs m = false) (h2 : badHead p.funcs n = true) : checkS p = ((n : Int), -1, 140) := by
  unfold checkS
  rw [if_neg (by rw [h]; simp), seek_some p.funcs.length 0 n (Nat.zero_le _) (by omega) (fun k _ b => h1 k b) h2]
theorem checkS_block {p : Prg} (h : topB p = true) (hh : ∀ m, m < p.funcs.length → badHead p.funcs m = false) {n i : Nat} (hn : n < p.funcs.length) (hi : i < nbOf p.funcs n) (h1 : ∀ m, m < n → ∀ q, q < nbOf p.funcs m → badBlock p.funcs m q = false) (h2 : ∀ q, q < i → badBlock p.funcs n q = false) (h3 : badBlock p.funcs n i = true) : checkS p = ((n : Int), (i : Int), 140) := by
  unfold checkS
  rw [if_neg (by rw [h]; simp), seek_none p.funcs.length 0 (fun k _ b => hh k (by omega)), seek2_some p.funcs.length 0 n i (Nat.zero_le _) (by omega) (fun k _ b => h1 k b) hi h2 h3]
theorem checkS_miss {p : Prg} (h : topB p = true) (hh : ∀ m, m < p.funcs.length → badHead p.funcs m = false) (hb : ∀ m, m < p.funcs.length → ∀ q, q < nbOf p.funcs m → badBlock p.funcs m q = false) {n i : Nat} (hn : n < p.funcs.length) (hi : i < nbOf p.funcs n) (h1 : ∀ m, m < n → ∀ q, q < nbOf p.funcs m → badMiss p.funcs m q = false) (h2 : ∀ q, q < i → badMiss p.funcs n q = false) (h3 : badMiss p.funcs n i = true) : checkS p = ((n : Int), (i : Int), 140) := by
  unfold checkS
  rw [if_neg (by rw [h]; simp), seek_none p.funcs.length 0 (fun k _ b => hh k (by omega)), seek2_none p.funcs.length 0 (fun k _ b => hb k (by omega)), seek2_some p.funcs.length 0 n i (Nat.zero_le _) (by omega) (fun k _ b => h1 k b) hi h2 h3]
theorem checkS_ok {p : Prg} (h : topB p = true) (hh : ∀ m, m < p.funcs.length → badHead p.funcs m = false) (hb : ∀ m, m < p.funcs.length → ∀ q, q < nbOf p.funcs m → badBlock p.funcs m q = false) (hm : ∀ m, m < p.funcs.length → ∀ q, q < nbOf p.funcs m → badMiss p.funcs m q = false) : checkS p = (0, 0, 0) := by
  unfold checkS
  rw [if_neg (by rw [h]; simp), seek_none p.funcs.length 0 (fun k _ b => hh k (by omega)), seek2_none p.funcs.length 0 (fun k _ b => hb k (by omega)), seek2_none p.funcs.length 0 (fun k _ b => hm k (by omega))]
theorem nbOf_at {fs : List Fnx} {n : Nat} {x : Fnx} (h : fs[n]? = some x) : nbOf fs n = x.blocks.length := by simp [nbOf, h]
theorem badHead_at {fs : List Fnx} {n : Nat} {x : Fnx} (h : fs[n]? = some x) : badHead fs n = !headB fs n x := by simp [badHead, h]
theorem badBlock_at {fs : List Fnx} {n i : Nat} {x : Fnx} {b : Blk} (h : fs[n]? = some x) (hb : x.blocks[i]? = some b) : badBlock fs n i = !blockB fs x.blocks i b := by simp [badBlock, h, hb]
theorem badMiss_at {fs : List Fnx} {n i : Nat} {x : Fnx} (h : fs[n]? = some x) : badMiss fs n i = missB x.blocks x.args i := by simp [badMiss, h]
theorem lt_succ_all {k : Nat} {f : Nat → Bool} (h : ∀ m, m < k → f m = false) (hk : f k = false) : ∀ m, m < k + 1 → f m = false := fun m hm => by
  rcases Nat.lt_or_ge m k with h1 | h1
  · exact h m h1
  · rw [show m = k by omega]; exact hk
theorem lt_succ_all2 {k : Nat} {f : Nat → Nat → Bool} {nb : Nat → Nat} (h : ∀ m, m < k → ∀ q, q < nb m → f m q = false) (hk : ∀ q, q < nb k → f k q = false) : ∀ m, m < k + 1 → ∀ q, q < nb m → f m q = false := fun m hm => by
  rcases Nat.lt_or_ge m k with h1 | h1
  · exact h m h1
  · rw [show m = k by omega]; exact hk
theorem heads_of {fs : List Fnx} (h : ∀ m, m < fs.length → badHead fs m = false) : HeadsOk fs := fun n x hx => by
  have := h n (List.getElem?_eq_some_iff.1 hx).1
  rw [badHead_at hx] at this; simpa using this
theorem blocks_of {fs : List Fnx} (h : ∀ m, m < fs.length → ∀ q, q < nbOf fs m → badBlock fs m q = false) : BlocksOk fs := fun n x hx i b hb => by
  have := h n (List.getElem?_eq_some_iff.1 hx).1 i (by rw [nbOf_at hx]; exact (List.getElem?_eq_some_iff.1 hb).1)
  rw [badBlock_at hx hb] at this; simpa using this
set_option maxRecDepth 100000 in
set_option maxHeartbeats 16000000 in
theorem check_any (p : Prg) (pt : Option Addr) (ct : Nat) (pf : Option Addr) (cf : Nat) (w : World) (hT : IntsIn w (.slice pt p.threads.length ct) p.threads) (hF : FnsIn w (.slice pf p.funcs.length cf) p.funcs) :
    Calls Try.prog 25 #[.agg #[.int .i64 p.heap, .slice pt p.threads.length ct, .slice pf p.funcs.length cf]] w fun e w' => e = .returned (checkV p) ∧ Below w.heap.size w w' := by
  have hfl := hF.1
  have q22 : ∀ (w : World) (a : Option Addr) (n c n' c' : Nat), (binOp .eql 98 (.slice a n c) (.slice none n' c')).run Try.prog w = .ok (.bool a.isNone) w := fun w a n c n' c' => Lib.run_eql_slice_nil w _ _ a n c n' c' Try.underlying98
  obtain ⟨_, _, fb, fo, hfe, _, HFS⟩ := hF.hids
  cases hfe
  have HPF := shid HFS.out.1
  have HFN := shid hF
  have HTN := shid hT
  have HKF := shid (fun (W : World) (hb : Below w.heap.size w W) (k : Nat) (x : Fnx) (hk : p.funcs[k]? = some x) => (HFS.out.2 k x hk).keep hb)
  clear hF hT HFS
  by_cases hfn : 0 < p.funcs.length
  case neg =>
    have HTB : Hid (topB p = false) := shid (by unfold topB; rw [decide_eq_false (by omega)]; rfl)
    have HPB := shid ((PBox.new w p.heap (.slice pt p.threads.length ct) (.slice pf p.funcs.length cf) 25).keep (al1 _ (.cells #[.int .i64 0, .int .i64 0] 72)))
    have HQ0 := shid (QBox.new (w.alloc (.cells #[.int .i64 p.heap, .slice pt p.threads.length ct, .slice pf p.funcs.length cf] 25)) (.int .i64 0) (.int .i64 0) 72)
    have HW0 := shid (al2 w (.cells #[.int .i64 p.heap, .slice pt p.threads.length ct, .slice pf p.funcs.length cf] 25) (.cells #[.int .i64 0, .int .i64 0] 72))
    have HTP := shid (top_any p pt ct pf cf _ (IntsIn.keep HTN.out HW0.out) (FnsIn.keep HFN.out HW0.out))
    simp only [World.size_alloc] at HQ0
    rw [HTB.out] at HTP
    obtain ⟨_, k0, k1, k2⟩ := HPB.out
    go_enter Try.func25, Try.ntmps25
    go_wp2_with fail
    generalize (w.alloc (.cells #[.int .i64 p.heap, .slice pt p.threads.length ct, .slice pf p.funcs.length cf] 25)).alloc (.cells #[.int .i64 0, .int .i64 0] 72) = W0 at *
    clear k0 k1 k2 hfn
    refine HTP.out.mono ?_
    rintro e W1 ⟨rfl, hb1⟩
    have HQ1 := shid (HQ0.out.keep hb1)
    have HB1 := shid (sbt HW0.out hb1)
    clear hb1
    have HCS := shid (show checkS p = (-1, -1, 140) from checkS_top HTB.out)
    have HQS := shid (HQ1.out.set (.int .i64 (-1)) (.int .i64 (-1)))
    have HBE := shid ((HB1.out).trans (HQ1.out.sets (B := w.heap.size) (by omega) (.int .i64 (-1)) (.int .i64 (-1))))
    obtain ⟨_, y0, y1, y2, y3⟩ := HQ1.out
    go_wp2_with fail
    clear y0 y1 y2 y3
    generalize (W1.setCell ⟨w.heap.size + 1, 0, none⟩ (.int .i64 (-1))).setCell ⟨w.heap.size + 1, 1, none⟩ (.int .i64 (-1)) = W9 at *
    obtain ⟨_, s0, s1, _, _⟩ := HQS.out
    exact bodyPost_ret (v := .tuple #[.agg #[.int .i64 (-1), .int .i64 (-1)], .int .i64 140]) (by simp [results, Try.results25, go_sem, s0, s1]; try rfl) rfl ⟨by unfold checkV; rw [HCS.out], HBE.out⟩
  obtain rfl := HPF.out hfn
  have HPB := shid ((PBox.new w p.heap (.slice pt p.threads.length ct) (.slice (some ⟨fb, fo, none⟩) p.funcs.length cf) 25).keep (al1 _ (.cells #[.int .i64 0, .int .i64 0] 72)))
  have HQ0 := shid (QBox.new (w.alloc (.cells #[.int .i64 p.heap, .slice pt p.threads.length ct, .slice (some ⟨fb, fo, none⟩) p.funcs.length cf] 25)) (.int .i64 0) (.int .i64 0) 72)
  have HW0 := shid (al2 w (.cells #[.int .i64 p.heap, .slice pt p.threads.length ct, .slice (some ⟨fb, fo, none⟩) p.funcs.length cf] 25) (.cells #[.int .i64 0, .int .i64 0] 72))
  have HTP := shid (top_any p pt ct (some ⟨fb, fo, none⟩) cf _ (IntsIn.keep HTN.out HW0.out) (FnsIn.keep HFN.out HW0.out))
  simp only [World.size_alloc] at HQ0
  generalize hTB : topB p = tb at HTP
  have HTB := shid hTB
  clear hTB
  obtain ⟨_, k0, k1, k2⟩ := HPB.out
  go_enter Try.func25, Try.ntmps25
  go_wp2_with fail
  generalize (w.alloc (.cells #[.int .i64 p.heap, .slice pt p.threads.length ct, .slice (some ⟨fb, fo, none⟩) p.funcs.length cf] 25)).alloc (.cells #[.int .i64 0, .int .i64 0] 72) = W0 at *
  clear k0 k1 k2
  refine HTP.out.mono ?_
  rintro e W1 ⟨rfl, hb1⟩
  have HQ1 := shid (HQ0.out.keep hb1)
  have HPB1 := shid (HPB.out.keep hb1)
  have HB1 := shid (sbt HW0.out hb1)
  clear hb1 HTP HQ0 HPB HW0
  obtain ⟨_, k0, k1, k2⟩ := HPB1.out
  cases tb with
  | false =>
    have HCS := shid (show checkS p = (-1, -1, 140) from checkS_top HTB.out)
    have HQS := shid (HQ1.out.set (.int .i64 (-1)) (.int .i64 (-1)))
    have HBE := shid ((HB1.out).trans (HQ1.out.sets (B := w.heap.size) (by omega) (.int .i64 (-1)) (.int .i64 (-1))))
    obtain ⟨_, y0, y1, y2, y3⟩ := HQ1.out
    go_wp2_with fail
    clear y0 y1 y2 y3
    generalize (W1.setCell ⟨w.heap.size + 1, 0, none⟩ (.int .i64 (-1))).setCell ⟨w.heap.size + 1, 1, none⟩ (.int .i64 (-1)) = W9 at *
    obtain ⟨_, s0, s1, _, _⟩ := HQS.out
    exact bodyPost_ret (v := .tuple #[.agg #[.int .i64 (-1), .int .i64 (-1)], .int .i64 140]) (by simp [results, Try.results25, go_sem, s0, s1]; try rfl) rfl ⟨by unfold checkV; rw [HCS.out], HBE.out⟩
  | true =>
    go_wp2_with fail
    clear k0 k1 k2
    go_loopw [21] (fun i wr => ∃ k : Nat, k ≤ p.funcs.length ∧ i = .int .i64 k ∧ (∀ m, m < k → badHead p.funcs m = false) ∧ Below W1.heap.size W1 wr) (fun i _ => p.funcs.length - (intOf i).toNat)
    case atStart => exact ⟨0, Nat.zero_le _, rfl, fun m hm => by omega, Below.refl _ _⟩
    case round =>
      obtain ⟨k, hk, rfl, hf, hbw⟩ := hrel
      have HF := shid hf
      have HBW := shid hbw
      have HBB := shid (sbt HB1.out hbw)
      have HPB := shid (HPB1.out.keep hbw)
      have HQ := shid (HQ1.out.keep hbw)
      clear hf hbw
      obtain ⟨_, k0, k1, k2⟩ := HPB.out
      by_cases hlt : k < p.funcs.length
      · have h1 : (k : Int) < p.funcs.length := by omega
        have HX := shid (List.getElem?_eq_getElem hlt)
        generalize p.funcs[k] = x at HX
        have HHD := shid (head_any p.funcs p.heap pt p.threads.length ct (some ⟨fb, fo, none⟩) cf k x HX.out wr (FnsIn.keep HFN.out HBB.out))
        have HBH := shid (badHead_at HX.out)
        generalize headB p.funcs k x = hb at HHD HBH
        go_wp2_with fail
        refine HHD.out.mono ?_
        rintro e w2 ⟨rfl, hb2⟩
        have HB2 := shid (sbt HBW.out hb2)
        have HBB2 := shid (sbt HBB.out hb2)
        have HQ2 := shid (HQ.out.keep hb2)
        clear hb2 k0 k1 k2
        cases hb with
        | true =>
          have HN := shid (lt_succ_all HF.out (show badHead p.funcs k = false by rw [HBH.out]; rfl))
          go_wp2_with fail
          go_roundw
          case rel => exact ⟨k + 1, by omega, by go_num, HN.out, HB2.out⟩
          case measure => simp [intOf]; omega
        | false =>
          have HCS := shid (show checkS p = ((k : Int), -1, 140) from checkS_head HTB.out hlt HF.out (by rw [HBH.out]; rfl))
          have HQS := shid (HQ2.out.set (.int .i64 ((k : Int))) (.int .i64 (-1)))
          have HBE := shid ((HBB2.out).trans (HQ2.out.sets (B := w.heap.size) (by omega) (.int .i64 ((k : Int))) (.int .i64 (-1))))
          obtain ⟨_, y0, y1, y2, y3⟩ := HQ2.out
          go_wp2_with fail
          clear y0 y1 y2 y3
          generalize (w2.setCell ⟨w.heap.size + 1, 0, none⟩ (.int .i64 ((k : Int)))).setCell ⟨w.heap.size + 1, 1, none⟩ (.int .i64 (-1)) = W9 at *
          obtain ⟨_, s0, s1, _, _⟩ := HQS.out
          exact bodyPost_ret (v := .tuple #[.agg #[.int .i64 ((k : Int)), .int .i64 (-1)], .int .i64 140]) (by simp [results, Try.results25, go_sem, s0, s1]; try rfl) rfl ⟨by unfold checkV; rw [HCS.out], HBE.out⟩
      · obtain rfl : k = p.funcs.length := by omega
        have HHA := shid HF.out
        clear hlt hk HF
        go_wp2_with fail
        clear k0 k1 k2
        have HBB' := shid HBB.out
        obtain ⟨W2, hw2⟩ : ∃ W2, W2 = wr := ⟨wr, rfl⟩
        subst hw2
        clear HQ1 HPB1 HB1 HBW
        have HQ1 := HQ
        have HPB1 := HPB
        have HB1 := HBB
        clear HQ HPB HBB HBB'
        go_loopw [34] (fun i wr => ∃ k : Nat, k ≤ p.funcs.length ∧ i = .int .i64 k ∧ (∀ m, m < k → ∀ q, q < nbOf p.funcs m → badBlock p.funcs m q = false) ∧ Below W2.heap.size W2 wr) (fun i _ => p.funcs.length - (intOf i).toNat)
        case atStart => exact ⟨0, Nat.zero_le _, rfl, fun m hm => by omega, Below.refl _ _⟩
        case round =>
          obtain ⟨k, hk, rfl, hf, hbw⟩ := hrel
          have HF := shid hf
          have HBW := shid hbw
          have HBB := shid (sbt HB1.out hbw)
          clear hf hbw
          by_cases hlt : k < p.funcs.length
          · have h1 : (k : Int) < p.funcs.length := by omega
            have HX := shid (List.getElem?_eq_getElem hlt)
            generalize p.funcs[k] = x at HX
            obtain ⟨c0, c1, c2, ⟨bv, c3, hbv⟩, hnm, _, _⟩ := HKF.out wr HBB.out k x HX.out
            obtain ⟨pb, cb, rfl⟩ := hbv.shape
            have hbl := hbv.1
            have HBV := shid hbv
            have HNB := shid (nbOf_at HX.out)
            have HFB := shid (FBox.new wr x.name x.args x.regs (.slice pb x.blocks.length cb) 41)
            have HW3 := shid (al1 wr (.cells #[.string x.name, .int .i64 x.args, .int .i64 x.regs, .slice pb x.blocks.length cb] 41))
            have HB3 := shid (sbt HBW.out HW3.out)
            have HBB3 := shid (sbt HBB.out HW3.out)
            have HBV3 := shid (BlksIn.keep HBV.out HW3.out)
            clear hbv hnm
            go_wp2_with fail
            clear c0 c1 c2 c3
            generalize wr.alloc (.cells #[.string x.name, .int .i64 x.args, .int .i64 x.regs, .slice pb x.blocks.length cb] 41) = W3 at *
            generalize wr.heap.size = G3 at *
            clear HBW HW3 HBV
            go_loopw [42] (fun i wr => ∃ j : Nat, j ≤ x.blocks.length ∧ i = .int .i64 j ∧ (∀ q, q < j → badBlock p.funcs k q = false) ∧ Below W3.heap.size W3 wr) (fun i _ => x.blocks.length - (intOf i).toNat)
            case atStart => exact ⟨0, Nat.zero_le _, rfl, fun m hm => by omega, Below.refl _ _⟩
            case round =>
              obtain ⟨j, hj, rfl, hfj, hb4⟩ := hrel
              have HFJ := shid hfj
              have HB4 := shid hb4
              have HBB4 := shid (sbt HBB3.out hb4)
              have HBW4 := shid (sbt HB3.out hb4)
              clear hfj hb4
              have HPB := shid (HPB1.out.keep HBW4.out)
              have HFB4 := shid (HFB.out.keep HB4.out)
              have HQ := shid (HQ1.out.keep HBW4.out)
              obtain ⟨_, k0, k1, k2⟩ := HPB.out
              obtain ⟨_, f0, f1, f2, f3⟩ := HFB4.out
              by_cases hltj : j < x.blocks.length
              · have h2 : (j : Int) < x.blocks.length := by omega
                have HY := shid (List.getElem?_eq_getElem hltj)
                generalize x.blocks[j] = y at HY
                have HBL := shid (block_any p.funcs p.heap pt p.threads.length ct (some ⟨fb, fo, none⟩) cf x.name x.args x.regs x.blocks pb cb j y HY.out wr (FnsIn.keep HFN.out HBB4.out) (BlksIn.keep HBV3.out HB4.out))
                have HBH := shid (badBlock_at HX.out HY.out)
                generalize blockB p.funcs x.blocks j y = hb at HBL HBH
                go_wp2_with fail
                refine HBL.out.mono ?_
                rintro e w5 ⟨rfl, hb5⟩
                have HB5 := shid (sbt HB4.out hb5)
                have HBB5 := shid (sbt HBB4.out hb5)
                have HQ5 := shid (HQ.out.keep hb5)
                clear hb5 k0 k1 k2 f0 f1 f2 f3
                cases hb with
                | true =>
                  have HN := shid (lt_succ_all HFJ.out (show badBlock p.funcs k j = false by rw [HBH.out]; rfl))
                  go_wp2_with fail
                  go_roundw
                  case rel => exact ⟨j + 1, by omega, by go_num, HN.out, HB5.out⟩
                  case measure => simp [intOf]; omega
                | false =>
                  have HCS := shid (show checkS p = ((k : Int), (j : Int), 140) from checkS_block HTB.out HHA.out hlt (by rw [HNB.out]; exact hltj) HF.out HFJ.out (by rw [HBH.out]; rfl))
                  have HQS := shid (HQ5.out.set (.int .i64 ((k : Int))) (.int .i64 ((j : Int))))
                  have HBE := shid ((HBB5.out).trans (HQ5.out.sets (B := w.heap.size) (by omega) (.int .i64 ((k : Int))) (.int .i64 ((j : Int)))))
                  obtain ⟨_, y0, y1, y2, y3⟩ := HQ5.out
                  go_wp2_with fail
                  clear y0 y1 y2 y3
                  generalize (w5.setCell ⟨w.heap.size + 1, 0, none⟩ (.int .i64 ((k : Int)))).setCell ⟨w.heap.size + 1, 1, none⟩ (.int .i64 ((j : Int))) = W9 at *
                  obtain ⟨_, s0, s1, _, _⟩ := HQS.out
                  exact bodyPost_ret (v := .tuple #[.agg #[.int .i64 ((k : Int)), .int .i64 ((j : Int))], .int .i64 140]) (by simp [results, Try.results25, go_sem, s0, s1]; try rfl) rfl ⟨by unfold checkV; rw [HCS.out], HBE.out⟩
              · obtain rfl : j = x.blocks.length := by omega
                have HN := shid (lt_succ_all2 HF.out (show ∀ q, q < nbOf p.funcs k → badBlock p.funcs k q = false by rw [HNB.out]; exact HFJ.out))
                clear k0 k1 k2 f0 f1 f2 f3
                go_wp2_with fail
                go_roundw
                case rel => exact ⟨k + 1, by omega, by go_num, HN.out, HBW4.out⟩
                case measure => simp [intOf]; omega
          · obtain rfl : k = p.funcs.length := by omega
            have HBA := shid HF.out
            have HPB := shid (HPB1.out.keep HBW.out)
            have HQ := shid (HQ1.out.keep HBW.out)
            clear hlt hk HF
            obtain ⟨_, k0, k1, k2⟩ := HPB.out
            go_wp2_with fail
            clear k0 k1 k2
            obtain ⟨W4, hw4⟩ : ∃ W4, W4 = wr := ⟨wr, rfl⟩
            subst hw4
            clear HQ1 HPB1 HB1 HBW
            have HQ1 := HQ
            have HPB1 := HPB
            have HB1 := HBB
            clear HQ HPB HBB
            go_loopw [58] (fun i wr => ∃ k : Nat, k ≤ p.funcs.length ∧ i = .int .i64 k ∧ (∀ m, m < k → ∀ q, q < nbOf p.funcs m → badMiss p.funcs m q = false) ∧ Below W4.heap.size W4 wr) (fun i _ => p.funcs.length - (intOf i).toNat)
            case atStart => exact ⟨0, Nat.zero_le _, rfl, fun m hm => by omega, Below.refl _ _⟩
            case round =>
              obtain ⟨k, hk, rfl, hf, hbw⟩ := hrel
              have HF := shid hf
              have HBW := shid hbw
              have HBB := shid (sbt HB1.out hbw)
              clear hf hbw
              by_cases hlt : k < p.funcs.length
              · have h1 : (k : Int) < p.funcs.length := by omega
                have HX := shid (List.getElem?_eq_getElem hlt)
                generalize p.funcs[k] = x at HX
                obtain ⟨c0, c1, c2, ⟨bv, c3, hbv⟩, hnm, _, _⟩ := HKF.out wr HBB.out k x HX.out
                obtain ⟨pb, cb, rfl⟩ := hbv.shape
                have hbl := hbv.1
                have HBV := shid hbv
                have HNB := shid (nbOf_at HX.out)
                have HBM := shid (fun i => badMiss_at (i := i) HX.out)
                obtain ⟨A, R, hA, hR, hAR, hR4, hbk⟩ := blksOk_of (heads_of HHA.out) (blocks_of HBA.out) HX.out
                have HBK := shid hbk
                have HAA := shid hA
                have HFB := shid (FBox.new wr x.name x.args x.regs (.slice pb x.blocks.length cb) 41)
                have HW3 := shid (al1 wr (.cells #[.string x.name, .int .i64 x.args, .int .i64 x.regs, .slice pb x.blocks.length cb] 41))
                have HB3 := shid (sbt HBW.out HW3.out)
                have HBB3 := shid (sbt HBB.out HW3.out)
                have HBV3 := shid (BlksIn.keep HBV.out HW3.out)
                have hsu := fun W (hb : BlksIn W (.slice pb x.blocks.length cb) x.blocks) => sure_any x.name A R hAR hR4 x.blocks hbk pb cb W hb
                rw [← hA, ← hR] at hsu
                have HSU := shid hsu
                clear hbv hnm hA hR hbk hsu
                go_wp2_with fail
                clear c0 c1 c2 c3
                generalize wr.alloc (.cells #[.string x.name, .int .i64 x.args, .int .i64 x.regs, .slice pb x.blocks.length cb] 41) = W3 at *
                generalize wr.heap.size = G3 at *
                clear HBW HW3 HBV
                refine (HSU.out W3 HBV3.out).mono ?_
                rintro e W5 ⟨vs, S, gs, Bo, c5, rfl, hs5, hfin, hb5⟩
                have HS5 := shid hs5
                have HFI := shid hfin
                have HB5 := shid (sbt HB3.out hb5)
                have HBB5 := shid (sbt HBB3.out hb5)
                have HBV5 := shid (BlksIn.keep HBV3.out hb5)
                have HFB5 := shid (HFB.out.keep hb5)
                have HSL := shid (show S.length = x.blocks.length from hfin.inv.len)
                clear hs5 hfin hb5 HSU
                go_wp2_with fail
                go_loopw [66] (fun i wr => ∃ j : Nat, j ≤ x.blocks.length ∧ i = .int .i64 j ∧ (∀ q, q < j → badMiss p.funcs k q = false) ∧ Below W5.heap.size W5 wr) (fun i _ => x.blocks.length - (intOf i).toNat)
                case atStart => exact ⟨0, Nat.zero_le _, rfl, fun m hm => by omega, Below.refl _ _⟩
                case round =>
                  obtain ⟨j, hj, rfl, hfj, hb4⟩ := hrel
                  have HFJ := shid hfj
                  have HB4 := shid hb4
                  have HBB4 := shid (sbt HBB5.out hb4)
                  have HBW4 := shid (sbt HB5.out hb4)
                  have HS4 := shid (HS5.out.below hb4)
                  clear hfj hb4
                  have HFB4 := shid (HFB5.out.keep HB4.out)
                  have HQ := shid (HQ1.out.keep HBW4.out)
                  obtain ⟨_, f0, f1, f2, f3⟩ := HFB4.out
                  by_cases hltj : j < x.blocks.length
                  · have h2 : (j : Int) < x.blocks.length := by omega
                    have HY := shid (List.getElem?_eq_getElem hltj)
                    generalize x.blocks[j] = y at HY
                    have HIA := shid (show insAt x.blocks j = y.ins by unfold insAt; rw [HY.out]; rfl)
                    have HMI := shid (show badMiss p.funcs k j = match S[j]? with | some (some l) => !fineL y.ins l y.ins.length | _ => false by
                      have h : Final x.blocks (A : Int) R S := by rw [← HAA.out]; exact HFI.out
                      rw [HBM.out, HAA.out, sure_miss HBK.out h j hltj, HIA.out]
                      all_goals
                        cases S[j]? with
                        | none => rfl
                        | some o => cases o <;> rfl)
                    obtain ⟨so, hso⟩ : ∃ so, S[j]? = some so := ⟨_, List.getElem?_eq_getElem (by rw [HSL.out]; exact hltj)⟩
                    have HSO := shid hso
                    clear hso
                    cases so with
                    | none =>
                      have e0 := HS4.out.row.cell (HS4.out.nil j HSO.out)
                      have HN := shid (lt_succ_all HFJ.out (show badMiss p.funcs k j = false by rw [HMI.out, HSO.out]))
                      go_wp2_with fail
                      go_roundw
                      case rel => exact ⟨j + 1, by omega, by go_num, HN.out, HB4.out⟩
                      case measure => simp [intOf]; omega
                    | some l =>
                      obtain ⟨hlR, ⟨cq, hcq⟩, hrow, _⟩ := HS4.out.set j l HSO.out
                      have HLR := shid hlR
                      have HROW := shid hrow
                      have e0 := HS4.out.row.cell hcq
                      have hbi := BlksIn.keep HBV5.out HB4.out
                      obtain ⟨_, _, yb, yo, hye, _, HYS⟩ := hbi.hids
                      cases hye
                      obtain rfl := HYS.out.1 (by omega)
                      obtain ⟨c0, ⟨iv, c1, hiv⟩, hnm⟩ := HYS.out.2 j y HY.out
                      obtain ⟨pi, ci, rfl⟩ := hiv.shape
                      have HTH := shid (through_any y.name y.ins pi ci l (by rw [HLR.out]; exact hR4) (by rw [HLR.out, ← HIA.out]; exact HBK.out.names j) (.slice (some ⟨gs j, 0, none⟩) R cq) (gs j) wr hiv ⟨⟨cq, by rw [HLR.out]⟩, HROW.out⟩)
                      have HMJ := shid (show badMiss p.funcs k j = !fineL y.ins l y.ins.length by rw [HMI.out, HSO.out])
                      generalize fineL y.ins l y.ins.length = fl at HTH HMJ
                      clear hlR hcq hrow hbi hiv hnm HMI
                      go_wp2_with fail
                      refine HTH.out.mono ?_
                      rintro e w6 ⟨v6, g6, rfl, _, _, hb6⟩
                      have HB6 := shid (sbt HB4.out hb6)
                      have HBB6 := shid (sbt HBB4.out hb6)
                      have HQ6 := shid (HQ.out.keep hb6)
                      clear hb6 f0 f1 f2 f3 c0 c1 e0
                      cases fl with
                      | true =>
                        have HN := shid (lt_succ_all HFJ.out (show badMiss p.funcs k j = false by rw [HMJ.out]; rfl))
                        go_wp2_with fail
                        go_roundw
                        case rel => exact ⟨j + 1, by omega, by go_num, HN.out, HB6.out⟩
                        case measure => simp [intOf]; omega
                      | false =>
                        have HCS := shid (show checkS p = ((k : Int), (j : Int), 140) from checkS_miss HTB.out HHA.out HBA.out hlt (by rw [HNB.out]; exact hltj) HF.out HFJ.out (by rw [HMJ.out]; rfl))
                        have HQS := shid (HQ6.out.set (.int .i64 ((k : Int))) (.int .i64 ((j : Int))))
                        have HBE := shid ((HBB6.out).trans (HQ6.out.sets (B := w.heap.size) (by omega) (.int .i64 ((k : Int))) (.int .i64 ((j : Int)))))
                        obtain ⟨_, y0, y1, y2, y3⟩ := HQ6.out
                        go_wp2_with fail
                        clear y0 y1 y2 y3
                        generalize (w6.setCell ⟨w.heap.size + 1, 0, none⟩ (.int .i64 ((k : Int)))).setCell ⟨w.heap.size + 1, 1, none⟩ (.int .i64 ((j : Int))) = W9 at *
                        obtain ⟨_, s0, s1, _, _⟩ := HQS.out
                        exact bodyPost_ret (v := .tuple #[.agg #[.int .i64 ((k : Int)), .int .i64 ((j : Int))], .int .i64 140]) (by simp [results, Try.results25, go_sem, s0, s1]; try rfl) rfl ⟨by unfold checkV; rw [HCS.out], HBE.out⟩
                  · obtain rfl : j = x.blocks.length := by omega
                    have HN := shid (lt_succ_all2 HF.out (show ∀ q, q < nbOf p.funcs k → badMiss p.funcs k q = false by rw [HNB.out]; exact HFJ.out))
                    clear f0 f1 f2 f3
                    go_wp2_with fail
                    go_roundw
                    case rel => exact ⟨k + 1, by omega, by go_num, HN.out, HBW4.out⟩
                    case measure => simp [intOf]; omega
              · obtain rfl : k = p.funcs.length := by omega
                have HQ := shid (HQ1.out.keep HBW.out)
                have HCS := shid (show checkS p = (0, 0, 0) from checkS_ok HTB.out HHA.out HBA.out HF.out)
                have HQS := shid (HQ.out.set (.int .i64 (0)) (.int .i64 (0)))
                have HBE := shid ((HBB.out).trans (HQ.out.sets (B := w.heap.size) (by omega) (.int .i64 (0)) (.int .i64 (0))))
                obtain ⟨_, y0, y1, y2, y3⟩ := HQ.out
                go_wp2_with fail
                clear y0 y1 y2 y3
                generalize (wr.setCell ⟨w.heap.size + 1, 0, none⟩ (.int .i64 (0))).setCell ⟨w.heap.size + 1, 1, none⟩ (.int .i64 (0)) = W9 at *
                obtain ⟨_, s0, s1, _, _⟩ := HQS.out
                exact bodyPost_ret (v := .tuple #[.agg #[.int .i64 (0), .int .i64 (0)], .int .i64 0]) (by simp [results, Try.results25, go_sem, s0, s1]; try rfl) rfl ⟨by unfold checkV; rw [HCS.out], HBE.out⟩
end Go.Proofs.Ytdefooailcbnlaa
