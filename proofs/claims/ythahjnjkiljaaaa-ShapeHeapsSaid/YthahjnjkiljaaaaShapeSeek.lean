/- Whether a program may be, as plain data. No function of the program is walked here. -/
import Derived.Test.YthahjnjkiljaaaaShapeMissing
import Derived.Test.YthahjnjkiljaaaaShapeBlock
import Derived.Test.YthahjnjkiljaaaaShapeTop
namespace Go.Proofs.Ythahjnjkiljaaaa
open Go.RowKit
set_option linter.unusedVariables false
set_option linter.unusedSimpArgs false
/-- The first one from i on, of n. -/
def seek (bad : Nat → Bool) : Nat → Nat → Option Nat
  | _, 0 => none
  | i, n + 1 => if bad i = true then some i else seek bad (i + 1) n
def seek2 (bad : Nat → Nat → Bool) (nb : Nat → Nat) : Nat → Nat → Option (Nat × Nat)
  | _, 0 => none
  | i, n + 1 =>
    match seek (bad i) 0 (nb i) with
    | some j => some (i, j)
    | none => seek2 bad nb (i + 1) n
theorem seek_some {bad : Nat → Bool} : ∀ (n i j : Nat), i ≤ j → j < i + n → (∀ k, i ≤ k → k < j → bad k = false) → bad j = true → seek bad i n = some j
  | 0, i, j, h1, h2, _, _ => by omega
  | n + 1, i, j, h1, h2, h3, h4 => by
    unfold seek
    rcases Nat.eq_or_lt_of_le h1 with rfl | h
    · rw [if_pos h4]
    · rw [if_neg (by rw [h3 i (Nat.le_refl _) h]; simp)]
      exact seek_some n (i + 1) j h (by omega) (fun k a b => h3 k (by omega) b) h4
theorem seek_none {bad : Nat → Bool} : ∀ (n i : Nat), (∀ k, i ≤ k → k < i + n → bad k = false) → seek bad i n = none
  | 0, i, _ => rfl
  | n + 1, i, h => by
    unfold seek
    rw [if_neg (by rw [h i (Nat.le_refl _) (by omega)]; simp)]
    exact seek_none n (i + 1) (fun k a b => h k (by omega) (by omega))
theorem seek_none_iff {bad : Nat → Bool} : ∀ (n i : Nat), seek bad i n = none → ∀ k, i ≤ k → k < i + n → bad k = false
  | 0, i, _, k, a, b => by omega
  | n + 1, i, h, k, a, b => by
    unfold seek at h
    split at h
    · cases h
    · rename_i hb
      rcases Nat.eq_or_lt_of_le a with rfl | a
      · simpa using hb
      · exact seek_none_iff n (i + 1) h k a (by omega)
theorem seek2_some {bad : Nat → Nat → Bool} {nb : Nat → Nat} : ∀ (n i j m : Nat), i ≤ j → j < i + n → (∀ k, i ≤ k → k < j → ∀ q, q < nb k → bad k q = false) → m < nb j → (∀ q, q < m → bad j q = false) → bad j m = true → seek2 bad nb i n = some (j, m)
  | 0, i, j, m, h1, h2, _, _, _, _ => by omega
  | n + 1, i, j, m, h1, h2, h3, h4, h5, h6 => by
    unfold seek2
    rcases Nat.eq_or_lt_of_le h1 with rfl | h
    · rw [seek_some (nb i) 0 m (Nat.zero_le _) (by omega) (fun k _ b => h5 k b) h6]
    · rw [seek_none (nb i) 0 (fun k _ b => h3 i (Nat.le_refl _) h k (by omega))]
      exact seek2_some n (i + 1) j m h (by omega) (fun k a b => h3 k (by omega) b) h4 h5 h6
theorem seek2_none {bad : Nat → Nat → Bool} {nb : Nat → Nat} : ∀ (n i : Nat), (∀ k, i ≤ k → k < i + n → ∀ q, q < nb k → bad k q = false) → seek2 bad nb i n = none
  | 0, i, _ => rfl
  | n + 1, i, h => by
    unfold seek2
    rw [seek_none (nb i) 0 (fun k _ b => h i (Nat.le_refl _) (by omega) k (by omega))]
    exact seek2_none n (i + 1) (fun k a b => h k (by omega) (by omega))
theorem seek2_none_iff {bad : Nat → Nat → Bool} {nb : Nat → Nat} : ∀ (n i : Nat), seek2 bad nb i n = none → ∀ k, i ≤ k → k < i + n → ∀ q, q < nb k → bad k q = false
  | 0, i, _, k, a, b => by omega
  | n + 1, i, h, k, a, b => by
    unfold seek2 at h
    split at h
    · cases h
    · rename_i hs
      rcases Nat.eq_or_lt_of_le a with rfl | a
      · intro q hq
        exact seek_none_iff (nb i) 0 hs q (Nat.zero_le _) (by omega)
      · exact seek2_none_iff n (i + 1) h k a (by omega)
def badHead (fs : List Fnx) (n : Nat) : Bool :=
  match fs[n]? with
  | some x => !headB fs n x
  | none => false
def nbOf (fs : List Fnx) (n : Nat) : Nat := (fs[n]?.map fun x => x.blocks.length).getD 0
def badBlock (fs : List Fnx) (n i : Nat) : Bool :=
  match fs[n]? with
  | some x => match x.blocks[i]? with
    | some b => !blockB fs x.blocks i b
    | none => false
  | none => false
def badMiss (fs : List Fnx) (n i : Nat) : Bool :=
  match fs[n]? with
  | some x => missB x.blocks x.args i
  | none => false
/-- Where a program goes wrong, and whether. -/
def checkS (p : Prg) : Int × Int × Int :=
  if topB p = false then (-1, -1, 140) else
  match seek (badHead p.funcs) 0 p.funcs.length with
  | some n => ((n : Int), -1, 140)
  | none =>
    match seek2 (badBlock p.funcs) (nbOf p.funcs) 0 p.funcs.length with
    | some (n, i) => ((n : Int), (i : Int), 140)
    | none =>
      match seek2 (badMiss p.funcs) (nbOf p.funcs) 0 p.funcs.length with
      | some (n, i) => ((n : Int), (i : Int), 140)
      | none => (0, 0, 0)
/-- All functions' heads may be. -/
def HeadsOk (fs : List Fnx) : Prop := ∀ (n : Nat) x, fs[n]? = some x → headB fs n x = true
def BlocksOk (fs : List Fnx) : Prop := ∀ (n : Nat) x, fs[n]? = some x → ∀ (i : Nat) b, x.blocks[i]? = some b → blockB fs x.blocks i b = true
theorem greatN_le : ∀ (l : List Int) (n : Int), n ≤ greatN l n ∧ ∀ r ∈ l, min r 4096 + 1 ≤ greatN l n
  | [], n => ⟨Int.le_refl _, by simp⟩
  | r :: l, n => by
    obtain ⟨h1, h2⟩ := greatN_le l (max n (min r 4096 + 1))
    refine ⟨Int.le_trans (by omega) h1, fun q hq => ?_⟩
    rcases List.mem_cons.1 hq with rfl | hq
    · exact Int.le_trans (by omega) h1
    · exact h2 q hq
theorem insGreat_le : ∀ (l : List Insx) (n : Int), n ≤ insGreat l n ∧ ∀ x ∈ l, ∀ r ∈ regsOf x, min r 4096 + 1 ≤ insGreat l n
  | [], n => ⟨Int.le_refl _, by simp⟩
  | x :: l, n => by
    obtain ⟨g1, g2⟩ := greatN_le (regsOf x) n
    obtain ⟨h1, h2⟩ := insGreat_le l (greatN (regsOf x) n)
    refine ⟨Int.le_trans g1 h1, fun q hq r hr => ?_⟩
    rcases List.mem_cons.1 hq with rfl | hq
    · exact Int.le_trans (g2 r hr) h1
    · exact h2 q hq r hr
theorem greatest_le' : ∀ (bs : List Blk) (n : Int), n ≤ bs.foldl (fun n b => insGreat b.ins n) n ∧ ∀ b ∈ bs, ∀ x ∈ b.ins, ∀ r ∈ regsOf x, min r 4096 + 1 ≤ bs.foldl (fun n b => insGreat b.ins n) n
  | [], n => ⟨Int.le_refl _, by simp⟩
  | b :: bs, n => by
    obtain ⟨g1, g2⟩ := insGreat_le b.ins n
    obtain ⟨h1, h2⟩ := greatest_le' bs (insGreat b.ins n)
    refine ⟨Int.le_trans g1 h1, fun q hq x hx r hr => ?_⟩
    rcases List.mem_cons.1 hq with rfl | hq
    · exact Int.le_trans (g2 x hx r hr) h1
    · exact h2 q hq x hx r hr
theorem insAt_mem {bs : List Blk} {i : Nat} {x : Insx} (h : x ∈ insAt bs i) : ∃ b, bs[i]? = some b ∧ x ∈ b.ins := by
  unfold insAt at h
  cases hb : bs[i]? with
  | none => rw [hb] at h; simp at h
  | some b => rw [hb] at h; exact ⟨b, rfl, h⟩
theorem block_ins {fs : List Fnx} {bs : List Blk} {i : Nat} {b : Blk} (hb : bs[i]? = some b) (h : blockB fs bs i b = true) : 0 < b.ins.length ∧ ∀ (j : Nat) x, b.ins[j]? = some x → (endsB x = decide (j + 1 = b.ins.length)) ∧ insF fs bs.length x.op x.d x.a x.b x.n x.f x.args x.l1 x.l2 := by
  unfold blockB at h
  simp only [Bool.and_eq_true, decide_eq_true_eq] at h
  refine ⟨h.1.2, fun j x hx => ?_⟩
  have hj : j < b.ins.length := (List.getElem?_eq_some_iff.1 hx).1
  have := List.all_eq_true.1 h.2 j (List.mem_range.2 hj)
  rw [okAt_some hx] at this
  simp only [Bool.and_eq_true, beq_iff_eq] at this
  exact ⟨this.1, by simpa [insX] using this.2⟩
theorem regs_pos {fs : List Fnx} {nb : Nat} {x : Insx} (h : insF fs nb x.op x.d x.a x.b x.n x.f x.args x.l1 x.l2) : (∀ r ∈ readsS x, 0 ≤ r) ∧ 0 ≤ x.d := by
  obtain ⟨_, _, h1, h2, h3, h4, _⟩ := h
  refine ⟨fun r hr => ?_, h1⟩
  unfold readsS at hr
  split at hr
  · simp at hr; rcases hr with rfl | rfl <;> assumption
  · split at hr
    · simp at hr; subst hr; assumption
    · split at hr
      · exact h4 r hr
      · simp at hr
theorem blksOk_of {fs : List Fnx} (hH : HeadsOk fs) (hB : BlocksOk fs) {n : Nat} {x : Fnx} (hx : fs[n]? = some x) : ∃ A R : Nat, x.args = A ∧ x.regs = R ∧ A ≤ R ∧ R ≤ 4096 ∧ BlksOk R x.blocks := by
  have h := hH n x hx
  unfold headB at h
  simp only [Bool.and_eq_true, decide_eq_true_eq] at h
  obtain ⟨_, h1, h2, h3, h4, h5⟩ := h
  have hb := hB n x hx
  have hg := greatest_le' x.blocks 0
  refine ⟨x.args.toNat, x.regs.toNat, by omega, by omega, by omega, by omega, h5, fun i hi => ?_, fun i y hy => ?_, fun i k hk => ?_⟩
  · have hbi := List.getElem?_eq_getElem hi
    have := (block_ins hbi (hb i _ hbi)).1
    unfold insAt; rw [hbi]; exact this
  · obtain ⟨b, hbi, hyb⟩ := insAt_mem hy
    obtain ⟨j, hj⟩ := List.getElem?_of_mem hyb
    have hF := ((block_ins hbi (hb i b hbi)).2 j y hj).2
    obtain ⟨p1, p2⟩ := regs_pos hF
    have hgr : ∀ r ∈ regsOf y, min r 4096 + 1 ≤ greatestS x.blocks := hg.2 b (List.mem_of_getElem? hbi) y hyb
    refine ⟨fun r hr => ⟨p1 r hr, ?_⟩, fun hw => ⟨p2, ?_⟩⟩
    · have := hgr r (by unfold regsOf; split <;> simp [hr])
      omega
    · have := hgr y.d (by unfold regsOf; rw [if_pos hw]; simp [writesD, hw])
      omega
  · unfold goesOf at hk
    cases hl : (insAt x.blocks i)[(insAt x.blocks i).length - 1]? with
    | none => rw [hl] at hk; simp at hk
    | some y =>
      rw [hl] at hk
      simp only [Option.map_some, Option.getD_some] at hk
      obtain ⟨b, hbi, hyb⟩ := insAt_mem (List.mem_of_getElem? hl)
      obtain ⟨j, hj⟩ := List.getElem?_of_mem hyb
      obtain ⟨_, _, _, _, _, _, _, _, hF⟩ := ((block_ins hbi (hb i b hbi)).2 j y hj).2
      unfold goesS at hk
      split at hk
      · simp at hk; subst hk
        have := hF (by omega); omega
      · split at hk
        · have := hF (by omega)
          simp at hk; rcases hk with rfl | rfl <;> omega
        · simp at hk
theorem wrB_take (l : List Insx) (r : Int) (j : Nat) : wrB (l.take j) r (l.take j).length = wrB l r j := by
  unfold wrB; rw [List.take_length]
theorem WritesOk.take {l : List Insx} (h : WritesOk l) (j : Nat) : WritesOk (l.take j) := fun x hx => h x (List.mem_of_mem_take hx)
/-- What is not surely there, by the program's sets, is what the document's paths lack. -/
theorem sure_miss {bs : List Blk} {A R : Nat} {S : Sets} (hbk : BlksOk R bs) (h : Final bs A R S) (i : Nat) (hi : i < bs.length) :
    missB bs A i = match S[i]? with | some (some l) => !fineL (insAt bs i) l (insAt bs i).length | _ => false := by
  have hF := hbk.flow
  have key : ∀ r : Nat, r < R → (lackF bs A i r = true ↔ ∃ l, S[i]? = some (some l) ∧ l[r]? = some false) := by
    intro r hr
    rw [← final_iff hF h r hr i, ← lacks_iff hF hbk.some i]
    unfold lackF
    rw [Int.toNat_natCast]
    cases (lacksL bs A r)[i]? with
    | none => simp
    | some x => simp
  split
  · rename_i l hl
    have hlen := (h.inv.sound i l hl).1
    rw [Bool.eq_iff_iff]
    unfold missB fineL
    rw [List.any_eq_true, Bool.not_eq_true', List.all_eq_false]
    constructor
    · rintro ⟨j, hj, hm⟩
      refine ⟨j, hj, ?_⟩
      unfold missAt at hm
      unfold fineAt
      cases hx : (insAt bs i)[j]? with
      | none => rw [hx] at hm; cases hm
      | some x =>
        rw [hx] at hm
        simp only [Bool.not_eq_true, List.all_eq_false]
        obtain ⟨r, hr, hm⟩ := List.any_eq_true.1 hm
        refine ⟨r, hr, ?_⟩
        obtain ⟨h0, h1⟩ := (hbk.names i x (List.mem_of_getElem? hx)).1 r hr
        obtain ⟨rn, rfl⟩ := Int.eq_ofNat_of_zero_le h0
        simp only [Bool.and_eq_true, Bool.not_eq_true'] at hm
        obtain ⟨l', e1, e2⟩ := (key rn (by omega)).1 hm.1
        rw [hl] at e1; cases e1
        have := (thru_get _ _ _ ((hF.wr i).take j)).2 ⟨e2, by rw [wrB_take]; exact hm.2⟩
        unfold hasR
        rw [Int.toNat_natCast, this]; simp
    · rintro ⟨j, hj, hm⟩
      refine ⟨j, hj, ?_⟩
      unfold fineAt at hm
      unfold missAt
      cases hx : (insAt bs i)[j]? with
      | none => rw [hx] at hm; simp at hm
      | some x =>
        rw [hx] at hm
        simp only [Bool.not_eq_true, List.all_eq_false] at hm
        obtain ⟨r, hr, hm⟩ := hm
        rw [List.any_eq_true]
        refine ⟨r, hr, ?_⟩
        obtain ⟨h0, h1⟩ := (hbk.names i x (List.mem_of_getElem? hx)).1 r hr
        obtain ⟨rn, rfl⟩ := Int.eq_ofNat_of_zero_le h0
        unfold hasR at hm
        rw [Int.toNat_natCast] at hm
        have hlt : rn < (thru ((insAt bs i).take j) l).length := by rw [thru_length, hlen]; omega
        rw [List.getElem?_eq_getElem hlt] at hm
        have hm' : (thru ((insAt bs i).take j) l)[rn]? = some false := by
          rw [List.getElem?_eq_getElem hlt]; simpa using hm
        obtain ⟨e1, e2⟩ := (thru_get _ _ _ ((hF.wr i).take j)).1 hm'
        rw [wrB_take] at e2
        simp only [Bool.and_eq_true, Bool.not_eq_true']
        exact ⟨(key rn (by omega)).2 ⟨l, hl, e1⟩, e2⟩
  · rename_i hn
    unfold missB
    rw [List.any_eq_false]
    intro j hj hm
    unfold missAt at hm
    cases hx : (insAt bs i)[j]? with
    | none => rw [hx] at hm; cases hm
    | some x =>
      rw [hx] at hm
      obtain ⟨r, hr, hm⟩ := List.any_eq_true.1 hm
      obtain ⟨h0, h1⟩ := (hbk.names i x (List.mem_of_getElem? hx)).1 r hr
      obtain ⟨rn, rfl⟩ := Int.eq_ofNat_of_zero_le h0
      simp only [Bool.and_eq_true, Bool.not_eq_true'] at hm
      obtain ⟨l', e1, e2⟩ := (key rn (by omega)).1 hm.1
      exact hn l' e1
end Go.Proofs.Ythahjnjkiljaaaa
