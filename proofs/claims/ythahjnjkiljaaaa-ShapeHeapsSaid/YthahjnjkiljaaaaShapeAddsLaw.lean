/- One write more, at the beginning of a block. No function of the program is walked here. -/
import Derived.Test.YthahjnjkiljaaaaShapeMore
namespace Go.Proofs.Ythahjnjkiljaaaa
open Go.RowKit
set_option linter.unusedVariables false
set_option linter.unusedSimpArgs false
def cIns (d : Int) : Insx := ⟨0, d, 0, 0, 5, 0, [], 0, 0⟩
def addB (b : Blk) (d : Int) : Blk := ⟨b.name, cIns d :: b.ins⟩
def addF (x : Fnx) (k : Nat) (b : Blk) (d : Int) : Fnx := ⟨x.name, x.args, x.regs, x.blocks.set k (addB b d)⟩
section
variable {bs : List Blk} {k : Nat} {b : Blk} {d : Int}
theorem add_at (hb : bs[k]? = some b) (i : Nat) : insAt (bs.set k (addB b d)) i = if i = k then cIns d :: insAt bs k else insAt bs i := by
  have hk : k < bs.length := (List.getElem?_eq_some_iff.1 hb).1
  unfold insAt
  by_cases e : k = i
  · subst e
    rw [List.getElem?_set_self hk, if_pos rfl, hb]; rfl
  · rw [List.getElem?_set_ne e, if_neg (fun h => e h.symm)]
theorem add_goes (hb : bs[k]? = some b) (hl : 0 < b.ins.length) (i : Nat) : goesOf (bs.set k (addB b d)) i = goesOf bs i := by
  unfold goesOf
  rw [add_at hb]
  split
  · rename_i e
    subst e
    have hi : insAt bs i = b.ins := by unfold insAt; rw [hb]; rfl
    rw [hi]
    obtain ⟨m, hm⟩ : ∃ m, b.ins.length = m + 1 := ⟨b.ins.length - 1, by omega⟩
    simp [hm]
  · rfl
theorem add_lack (hb : bs[k]? = some b) (hl : 0 < b.ins.length) {A : Int} {r i : Nat} (h : Lack (bs.set k (addB b d)) A r i) : Lack bs A r i := by
  induction h with
  | start ha => exact .start ha
  | next i j _ hw hj ih =>
    rw [add_goes hb hl] at hj
    refine .next i j ih ?_ hj
    rw [add_at hb] at hw
    split at hw
    · rename_i e
      subst e
      rw [wrB_cons] at hw
      exact ((Bool.or_eq_false_iff).1 hw).2
    · exact hw
theorem add_great (hb : bs[k]? = some b) (M : Int) (h0 : 0 ≤ M) (hg : greatestS bs ≤ M) (hd : min d 4096 + 1 ≤ M) : greatestS bs ≤ greatestS (bs.set k (addB b d)) ∧ greatestS (bs.set k (addB b d)) ≤ M := by
  have ub : ∀ (l : List Int) (n : Int), n ≤ M → (∀ r ∈ l, min r 4096 + 1 ≤ M) → greatN l n ≤ M := by
    intro l
    induction l with
    | nil => intro n hn _; exact hn
    | cons r l ih => intro n hn h; exact ih _ (by show max n (min r 4096 + 1) ≤ M; have := h r (by simp); omega) (fun q hq => h q (by simp [hq]))
  have ub2 : ∀ (l : List Insx) (n : Int), n ≤ M → (∀ x ∈ l, ∀ r ∈ regsOf x, min r 4096 + 1 ≤ M) → insGreat l n ≤ M := by
    intro l
    induction l with
    | nil => intro n hn _; exact hn
    | cons x l ih => intro n hn h; exact ih _ (ub _ _ hn (h x (by simp))) (fun q hq => h q (by simp [hq]))
  have ub3 : ∀ (l : List Blk) (n : Int), n ≤ M → (∀ b ∈ l, ∀ x ∈ b.ins, ∀ r ∈ regsOf x, min r 4096 + 1 ≤ M) → l.foldl (fun n b => insGreat b.ins n) n ≤ M := by
    intro l
    induction l with
    | nil => intro n hn _; exact hn
    | cons x l ih => intro n hn h; exact ih _ (ub2 _ _ hn (h x (by simp))) (fun q hq => h q (by simp [hq]))
  have mono : ∀ (l : List Int) (n m : Int), n ≤ m → greatN l n ≤ greatN l m := by
    intro l
    induction l with
    | nil => intro n m h; exact h
    | cons r l ih => intro n m h; exact ih _ _ (by show max n (min r 4096 + 1) ≤ max m (min r 4096 + 1); omega)
  have mono2 : ∀ (l : List Insx) (n m : Int), n ≤ m → insGreat l n ≤ insGreat l m := by
    intro l
    induction l with
    | nil => intro n m h; exact h
    | cons x l ih => intro n m h; exact ih _ _ (mono _ _ _ h)
  have mono3 : ∀ (l : List Blk) (n m : Int), n ≤ m → l.foldl (fun n b => insGreat b.ins n) n ≤ l.foldl (fun n b => insGreat b.ins n) m := by
    intro l
    induction l with
    | nil => intro n m h; exact h
    | cons x l ih => intro n m h; exact ih _ _ (mono2 _ _ _ h)
  have setm : ∀ (l : List Blk) (j : Nat) (n : Int), l[j]? = some b → l.foldl (fun n b => insGreat b.ins n) n ≤ (l.set j (addB b d)).foldl (fun n b => insGreat b.ins n) n := by
    intro l
    induction l with
    | nil => intro j n h; simp at h
    | cons x l ih =>
      intro j n h
      cases j with
      | zero =>
        obtain rfl : x = b := by simpa using h
        simp only [List.set_cons_zero, List.foldl_cons]
        refine mono3 _ _ _ ?_
        show insGreat x.ins n ≤ insGreat x.ins (greatN (regsOf (cIns d)) n)
        exact mono2 _ _ _ (greatN_le _ _).1
      | succ j =>
        simp only [List.set_cons_succ, List.foldl_cons]
        exact ih j _ (by simpa using h)
  refine ⟨setm bs k 0 hb, ub3 _ _ h0 fun c hc x hx r hr => ?_⟩
  have hall := (greatest_le' bs 0).2
  rcases List.mem_or_eq_of_mem_set hc with h | h
  · exact Int.le_trans (hall c h x hx r hr) hg
  · subst h
    have hx' : x ∈ cIns d :: b.ins := hx
    rcases List.mem_cons.1 hx' with rfl | h
    · have e : regsOf (cIns d) = [d] := by simp [regsOf, writesB, writesD, readsS, cIns]
      rw [e] at hr
      simp at hr; subst hr
      exact hd
    · exact Int.le_trans (hall b (List.mem_of_getElem? hb) x h r hr) hg
theorem add_miss {A R : Nat} (hbk : BlksOk R bs) (hbk' : BlksOk R (bs.set k (addB b d))) (hb : bs[k]? = some b) (hl : 0 < b.ins.length) (hm : ∀ i, i < bs.length → missB bs A i = false) (i : Nat) (hi : i < bs.length) : missB (bs.set k (addB b d)) A i = false := by
  have hL : ∀ r : Nat, lackF (bs.set k (addB b d)) A i r = true → lackF bs A i r = true := by
    intro r h
    unfold lackF at h ⊢
    rw [Int.toNat_natCast] at h ⊢
    have h1 : (lacksL (bs.set k (addB b d)) A r)[i]? = some true := by
      cases hq : (lacksL (bs.set k (addB b d)) A r)[i]? with
      | none => rw [hq] at h; cases h
      | some x => rw [hq] at h; simp at h; rw [h]
    have h2 := add_lack hb hl ((lacks_iff hbk'.flow hbk'.some i).1 h1)
    rw [(lacks_iff hbk.flow hbk.some i).2 h2]; rfl
  have h0 := hm i hi
  unfold missB at h0 ⊢
  rw [List.any_eq_false] at h0 ⊢
  intro j hj hmj
  rw [add_at hb] at hj hmj
  split at hmj
  · rename_i e
    subst e
    rw [if_pos rfl] at hj
    unfold missAt at hmj
    cases j with
    | zero =>
      simp only [List.getElem?_cons_zero] at hmj
      have e : readsS (cIns d) = [] := by simp [readsS, cIns]
      rw [e] at hmj; simp at hmj
    | succ j =>
      simp only [List.getElem?_cons_succ] at hmj
      have hj' : j < (insAt bs i).length := by have := List.mem_range.1 hj; simp at this; omega
      refine h0 j (List.mem_range.2 hj') ?_
      unfold missAt
      cases hx : (insAt bs i)[j]? with
      | none => rw [hx] at hmj; cases hmj
      | some x =>
        rw [hx] at hmj
        simp only [List.any_eq_true, Bool.and_eq_true, Bool.not_eq_true'] at hmj ⊢
        obtain ⟨r, hr, h1, h2⟩ := hmj
        have hnn := ((hbk.names i x (List.mem_of_getElem? hx)).1 r hr).1
        obtain ⟨rn, rfl⟩ := Int.eq_ofNat_of_zero_le hnn
        refine ⟨rn, hr, hL rn h1, ?_⟩
        unfold wrB at h2 ⊢
        rw [List.take_succ_cons, List.any_cons] at h2
        exact ((Bool.or_eq_false_iff).1 h2).2
  · rename_i e
    rw [if_neg e] at hj
    refine h0 j hj ?_
    unfold missAt at hmj ⊢
    cases hx : (insAt bs i)[j]? with
    | none => rw [hx] at hmj; cases hmj
    | some x =>
      rw [hx] at hmj
      simp only [List.any_eq_true, Bool.and_eq_true, Bool.not_eq_true'] at hmj ⊢
      obtain ⟨r, hr, h1, h2⟩ := hmj
      have hnn := ((hbk.names i x (List.mem_of_getElem? hx)).1 r hr).1
      obtain ⟨rn, rfl⟩ := Int.eq_ofNat_of_zero_le hnn
      exact ⟨rn, hr, hL rn h1, h2⟩
end
theorem add_twice {nm nm' : Nat → ByteArray} (n : Nat) (hn : ∀ i, i ≤ n → nm' i = nm i) (h : twiceB nm n = false) : twiceB nm' n = false := by
  unfold twiceB at h ⊢
  rw [hn n (Nat.le_refl _)]
  rw [← h]
  congr 1
  rw [Bool.eq_iff_iff, List.any_eq_true, List.any_eq_true]
  constructor
  · rintro ⟨i, hi, e⟩
    exact ⟨i, hi, by rw [← hn i (by have := List.mem_range.1 hi; omega)]; exact e⟩
  · rintro ⟨i, hi, e⟩
    exact ⟨i, hi, by rw [hn i (by have := List.mem_range.1 hi; omega)]; exact e⟩
theorem adds_ok {p : Prg} (h : (checkS p).2.2 = 0) {n k : Nat} {x : Fnx} {b : Blk} {d : Int} (hx : p.funcs[n]? = some x) (hb : x.blocks[k]? = some b) (hd0 : 0 ≤ d) (hd : d < x.regs) : checkS ⟨p.heap, p.threads, p.funcs.set n (addF x k b d)⟩ = (0, 0, 0) := by
  obtain ⟨h1, h2, h3, h4⟩ := checkS_may h
  have hnl : n < p.funcs.length := (List.getElem?_eq_some_iff.1 hx).1
  have hkl : k < x.blocks.length := (List.getElem?_eq_some_iff.1 hb).1
  obtain ⟨A, R, hA, hR, hAR, hR4, hbk⟩ := blksOk_of h2 h3 hx
  have hbi := block_ins hb (h3 n x hx k b hb)
  have hargs : ∀ m, argsOf (p.funcs.set n (addF x k b d)) m = argsOf p.funcs m := by
    intro m
    unfold argsOf
    by_cases e : n = m
    · subst e; rw [List.getElem?_set_self hnl, hx]; rfl
    · rw [List.getElem?_set_ne e]
  have hins : ∀ nb op d' a b' n' f args l1 l2, insF (p.funcs.set n (addF x k b d)) nb op d' a b' n' f args l1 l2 = insF p.funcs nb op d' a b' n' f args l1 l2 := by
    intro nb op d' a b' n' f args l1 l2
    unfold insF
    rw [List.length_set, hargs]
  have hfn : ∀ m, fnNames (p.funcs.set n (addF x k b d)) m = fnNames p.funcs m := by
    intro m
    unfold fnNames
    by_cases e : n = m
    · subst e; rw [List.getElem?_set_self hnl, hx]; rfl
    · rw [List.getElem?_set_ne e]
  have hbn : ∀ m, blkNames (x.blocks.set k (addB b d)) m = blkNames x.blocks m := by
    intro m
    unfold blkNames
    by_cases e : k = m
    · subst e; rw [List.getElem?_set_self hkl, hb]; rfl
    · rw [List.getElem?_set_ne e]
  have hget : ∀ (m : Nat) y, (p.funcs.set n (addF x k b d))[m]? = some y → (m = n ∧ y = addF x k b d) ∨ (m ≠ n ∧ p.funcs[m]? = some y) := by
    intro m y hy
    by_cases e : n = m
    · subst e; rw [List.getElem?_set_self hnl] at hy; cases hy; exact .inl ⟨rfl, rfl⟩
    · rw [List.getElem?_set_ne e] at hy; exact .inr ⟨fun h => e h.symm, hy⟩
  have hH := h2 n x hx
  have hheads : HeadsOk (p.funcs.set n (addF x k b d)) := by
    intro m y hy
    rcases hget m y hy with ⟨rfl, rfl⟩ | ⟨_, hy'⟩
    · unfold headB at hH ⊢
      simp only [Bool.and_eq_true, Bool.not_eq_true', decide_eq_true_eq] at hH ⊢
      obtain ⟨k1, k2, k3, k4, k5, k6⟩ := hH
      refine ⟨add_twice m (fun i _ => hfn i) k1, k2, k3, ?_, k5, ?_⟩
      · have hgr := add_great (d := d) hb x.regs (by omega) (by omega) (by omega)
        show x.regs = max x.args (greatestS (x.blocks.set k (addB b d)))
        omega
      · show 0 < (x.blocks.set k (addB b d)).length
        simpa using k6
    · have hm := h2 m y hy'
      unfold headB at hm ⊢
      simp only [Bool.and_eq_true, Bool.not_eq_true', decide_eq_true_eq] at hm ⊢
      exact ⟨add_twice m (fun i _ => hfn i) hm.1, hm.2⟩
  have hblocks : BlocksOk (p.funcs.set n (addF x k b d)) := by
    intro m y hy i c hc
    rcases hget m y hy with ⟨rfl, rfl⟩ | ⟨_, hy'⟩
    · have hc' : (x.blocks.set k (addB b d))[i]? = some c := hc
      show blockB (p.funcs.set m (addF x k b d)) (x.blocks.set k (addB b d)) i c = true
      by_cases e : k = i
      · subst e
        rw [List.getElem?_set_self hkl] at hc'
        cases hc'
        have h := h3 m x hx k b hb
        unfold blockB at h ⊢
        simp only [Bool.and_eq_true, Bool.not_eq_true', decide_eq_true_eq] at h ⊢
        obtain ⟨⟨k1, k2⟩, k3⟩ := h
        refine ⟨⟨add_twice k (fun i _ => hbn i) k1, by show 0 < (cIns d :: b.ins).length; simp⟩, ?_⟩
        rw [List.all_eq_true]
        intro j hj
        show okAt (p.funcs.set m (addF x k b d)) (x.blocks.set k (addB b d)).length (cIns d :: b.ins) j = true
        cases j with
        | zero =>
          rw [okAt_some (y := cIns d) (by simp)]
          have e1 : endsB (cIns d) = false := by simp [endsB, cIns]
          rw [e1]
          have e2 : decide (0 + 1 = (cIns d :: b.ins).length) = false := decide_eq_false (by have := hbi.1; show ¬ (0 + 1 = b.ins.length + 1); omega)
          rw [e2]
          simp only [beq_self_eq_true, Bool.true_and]
          unfold insX
          refine decide_eq_true ?_
          rw [hins]
          unfold insF emptyF cIns
          simp only
          refine ⟨by omega, by simp, by omega, by omega, by omega, by simp, by omega, by omega, by omega⟩
        | succ j =>
          have hj' : j < b.ins.length := by have h9 : j + 1 < b.ins.length + 1 := List.mem_range.1 hj; omega
          have hx' := List.getElem?_eq_getElem hj'
          obtain ⟨f1, f2⟩ := hbi.2 j _ hx'
          rw [okAt_some (y := b.ins[j]) (by simp [hx'])]
          rw [f1]
          have e2 : decide (j + 1 + 1 = (cIns d :: b.ins).length) = decide (j + 1 = b.ins.length) := by simp
          rw [e2]
          simp only [beq_self_eq_true, Bool.true_and]
          unfold insX
          refine decide_eq_true ?_
          rw [hins, List.length_set]
          exact f2
      · rw [List.getElem?_set_ne e] at hc'
        have h := h3 m x hx i c hc'
        unfold blockB at h ⊢
        simp only [Bool.and_eq_true, Bool.not_eq_true', decide_eq_true_eq] at h ⊢
        refine ⟨⟨add_twice i (fun j _ => hbn j) h.1.1, h.1.2⟩, ?_⟩
        rw [← h.2]
        congr 1
        funext j
        unfold okAt insX
        simp only [hins, List.length_set]
    · have h := h3 m y hy' i c hc
      unfold blockB at h ⊢
      simp only [Bool.and_eq_true, Bool.not_eq_true', decide_eq_true_eq] at h ⊢
      refine ⟨h.1, ?_⟩
      rw [← h.2]
      congr 1
      funext j
      unfold okAt insX
      simp only [hins]
  refine checkS_of ?_ hheads hblocks (fun m y hy i hi => ?_)
  · rw [← h1]
    unfold topB
    simp only [List.length_set]
    congr 2
    refine congrArg (fun g => List.any p.threads g) (funext fun t => ?_)
    unfold badT
    rw [List.length_set, hargs]
  · rcases hget m y hy with ⟨rfl, rfl⟩ | ⟨_, hy'⟩
    · obtain ⟨A', R', hA', hR', _, _, hbk'⟩ := blksOk_of hheads hblocks hy
      have hR2 : R' = R := by
        have : x.regs = R' := hR'
        omega
      subst hR2
      have hi' : i < x.blocks.length := by
        have : i < (x.blocks.set k (addB b d)).length := hi
        simpa using this
      show missB (x.blocks.set k (addB b d)) x.args i = false
      rw [hA]
      exact add_miss hbk hbk' hb hbi.1 (fun j hj => by have := h4 m x hx j hj; rw [hA] at this; exact this) i hi'
    · exact h4 m y hy' i hi
end Go.Proofs.Ythahjnjkiljaaaa
