/- The registers that are surely there: plain laws on lists. No function of the program is walked here. -/
import Derived.Test.YthahjnjkiljaaaaShapeWrites
namespace Go.Proofs.Ythahjnjkiljaaaa
open Go.RowKit
set_option linter.unusedVariables false
set_option linter.unusedSimpArgs false
def insAt (bs : List Blk) (i : Nat) : List Insx := (bs[i]?.map Blk.ins).getD []
def goesOf (bs : List Blk) (i : Nat) : List Int := ((insAt bs i)[(insAt bs i).length - 1]?.map goesS).getD []
abbrev Sets := List (Option (List Bool))
def wr1 (s : List Bool) (x : Insx) : List Bool := if writesB x = true then s.set x.d.toNat true else s
def thru (l : List Insx) (s : List Bool) : List Bool := l.foldl wr1 s
def andL (l b : List Bool) : List Bool := List.zipWith (fun x y => x && y) l b
def lostL (l b : List Bool) : Bool := (List.zipWith (fun x y => x && !y) l b).any id
def meetS (S : Sets) (k : Nat) (b : List Bool) : Sets × Bool :=
  match S[k]? with
  | some (some l) => (S.set k (some (andL l b)), lostL l b)
  | _ => (S.set k (some b), true)
def edgeS (b : List Bool) (st : Sets × Bool) (k : Int) : Sets × Bool := ((meetS st.1 k.toNat b).1, (meetS st.1 k.toNat b).2 || st.2)
def stepS (bs : List Blk) (st : Sets × Bool) (i : Nat) : Sets × Bool :=
  match st.1[i]? with
  | some (some l) => (goesOf bs i).foldl (edgeS (thru (insAt bs i) l)) st
  | _ => st
def sweepS (bs : List Blk) (S : Sets) (n : Nat) : Sets × Bool := (List.range n).foldl (stepS bs) (S, false)
/-- A path goes to the beginning of a block that does not write a register. -/
inductive Lack (bs : List Blk) (args : Int) (r : Nat) : Nat → Prop where
  | start : args ≤ r → Lack bs args r 0
  | next (i : Nat) (k : Int) : Lack bs args r i → wrB (insAt bs i) r (insAt bs i).length = false → k ∈ goesOf bs i → Lack bs args r k.toNat
structure Inv (bs : List Blk) (args : Int) (R : Nat) (S : Sets) : Prop where
  len : S.length = bs.length
  sound : ∀ i l, S[i]? = some (some l) → l.length = R ∧ ∀ r, l[r]? = some false → Lack bs args r i
  head : ∃ l, S[0]? = some (some l) ∧ ∀ r : Nat, args ≤ r → r < R → l[r]? = some false
def EdgeOk (b : List Bool) (S : Sets) (k : Int) : Prop := ∃ m, S[k.toNat]? = some (some m) ∧ ∀ r : Nat, r < m.length → b[r]? = some false → m[r]? = some false
def Stable (bs : List Blk) (S : Sets) : Prop := ∀ i, i < bs.length → ∀ l, S[i]? = some (some l) → ∀ k ∈ goesOf bs i, EdgeOk (thru (insAt bs i) l) S k
def mu1 (R : Nat) : Option (List Bool) → Nat
  | none => R + 1
  | some l => l.count true
def mu (R : Nat) (S : Sets) : Nat := (S.map (mu1 R)).sum
/-- What the writes of instructions say: none is below 0. -/
def WritesOk (l : List Insx) : Prop := ∀ x ∈ l, writesB x = true → 0 ≤ x.d
theorem wr1_length (s : List Bool) (x : Insx) : (wr1 s x).length = s.length := by unfold wr1; split <;> simp
theorem thru_length : ∀ (l : List Insx) (s : List Bool), (thru l s).length = s.length
  | [], _ => rfl
  | x :: l, s => by
    have := thru_length l (wr1 s x)
    rw [wr1_length] at this
    exact this
theorem wrB_cons (x : Insx) (l : List Insx) (r : Int) : wrB (x :: l) r (x :: l).length = ((writesB x && decide (writesD x = r)) || wrB l r l.length) := by
  unfold wrB; simp
theorem thru_get : ∀ (l : List Insx) (s : List Bool) (r : Nat), WritesOk l → ((thru l s)[r]? = some false ↔ s[r]? = some false ∧ wrB l r l.length = false)
  | [], s, r, _ => by simp [thru, wrB]
  | x :: l, s, r, hw => by
    have ih := thru_get l (wr1 s x) r (fun y hy => hw y (by simp [hy]))
    rw [show thru (x :: l) s = thru l (wr1 s x) from rfl, ih, wrB_cons]
    unfold wr1
    by_cases hx : writesB x = true
    · have h0 := hw x (by simp) hx
      have hD : writesD x = x.d := if_pos hx
      rw [if_pos hx, hx, hD]
      by_cases e : x.d = r
      · subst_vars
        rw [e]
        simp only [Int.toNat_natCast, Bool.true_and, decide_true, Bool.true_or]
        constructor
        · rintro ⟨h1, _⟩
          rw [List.getElem?_set_self'] at h1
          cases hs : s[r]? <;> rw [hs] at h1 <;> simp at h1
        · rintro ⟨_, h⟩; cases h
      · rw [List.getElem?_set_ne (by omega), decide_eq_false e]; simp
    · rw [if_neg hx]; simp [hx]
theorem mu1_le (R : Nat) (l : List Bool) (h : l.length = R) : l.count true ≤ R := by
  rw [← h]; exact List.count_le_length
theorem andL_length (l b : List Bool) (h : l.length = b.length) : (andL l b).length = l.length := by simp [andL, h]
theorem andL_get {l b : List Bool} {r : Nat} (h : (andL l b)[r]? = some false) : l[r]? = some false ∨ b[r]? = some false := by
  unfold andL at h
  rw [List.getElem?_zipWith] at h
  cases hl : l[r]? <;> cases hb : b[r]? <;> rw [hl, hb] at h <;> simp at h
  rename_i x y
  cases x <;> cases y <;> simp_all
theorem andL_left : ∀ (l b : List Bool) (r : Nat), l.length = b.length → l[r]? = some false → (andL l b)[r]? = some false
  | l, b, r, hl, h => by
    have hr : r < l.length := (List.getElem?_eq_some_iff.1 h).1
    unfold andL
    rw [List.getElem?_zipWith, h, List.getElem?_eq_getElem (by omega)]
    simp
theorem andL_count : ∀ (l b : List Bool), l.length = b.length → (andL l b).count true ≤ l.count true ∧ (lostL l b = true → (andL l b).count true < l.count true) ∧ (lostL l b = false → andL l b = l ∧ ∀ r : Nat, b[r]? = some false → l[r]? = some false)
  | [], [], _ => by simp [andL, lostL]
  | x :: l, y :: b, h => by
    obtain ⟨h1, h2, h3⟩ := andL_count l b (by simpa using h)
    have e1 : andL (x :: l) (y :: b) = (x && y) :: andL l b := rfl
    have e2 : lostL (x :: l) (y :: b) = ((x && !y) || lostL l b) := by simp [lostL]
    rw [e1, e2]
    cases x <;> cases y <;> simp [List.count_cons]
    · refine ⟨h1, h2, fun h => ⟨(h3 h).1, fun r hr => ?_⟩⟩
      cases r with
      | zero => rfl
      | succ r => simpa using (h3 h).2 r (by simpa using hr)
    · refine ⟨h1, h2, fun h => ⟨(h3 h).1, fun r hr => ?_⟩⟩
      cases r with
      | zero => rfl
      | succ r => simpa using (h3 h).2 r (by simpa using hr)
    · omega
    · refine ⟨h1, h2, fun h => ⟨(h3 h).1, fun r hr => ?_⟩⟩
      cases r with
      | zero => simp at hr
      | succ r => simpa using (h3 h).2 r (by simpa using hr)
theorem mu_set : ∀ (S : Sets) (R k : Nat) (o n : Option (List Bool)), S[k]? = some o → mu R (S.set k n) + mu1 R o = mu R S + mu1 R n
  | s :: S, R, 0, o, n, h => by
    simp at h; subst h
    simp [mu]; omega
  | s :: S, R, k + 1, o, n, h => by
    have := mu_set S R k o n (by simpa using h)
    simp only [mu, List.set_cons_succ, List.map_cons, List.sum_cons] at this ⊢
    omega
theorem set_self {α : Type} {l : List α} {k : Nat} {x : α} (h : l[k]? = some x) : l.set k x = l := by
  obtain ⟨hk, hx⟩ := List.getElem?_eq_some_iff.1 h
  rw [← hx]; exact List.set_getElem_self hk
/-- One edge. -/
theorem meet_ok (bs : List Blk) (args : Int) (R : Nat) (S : Sets) (k : Int) (b : List Bool) (hI : Inv bs args R S) (hk : k.toNat < bs.length) (hbl : b.length = R) (hb : ∀ r : Nat, b[r]? = some false → Lack bs args r k.toNat) :
    Inv bs args R (meetS S k.toNat b).1 ∧ mu R (meetS S k.toNat b).1 ≤ mu R S ∧ ((meetS S k.toNat b).2 = true → mu R (meetS S k.toNat b).1 < mu R S) ∧ ((meetS S k.toNat b).2 = false → (meetS S k.toNat b).1 = S ∧ EdgeOk b S k) := by
  have hkS : k.toNat < S.length := by rw [hI.len]; exact hk
  obtain ⟨o, ho⟩ : ∃ o, S[k.toNat]? = some o := ⟨_, List.getElem?_eq_getElem hkS⟩
  unfold meetS
  rw [ho]
  cases o with
  | none =>
    dsimp only
    have hm := mu_set S R k.toNat none (some b) ho
    have hc := mu1_le R b hbl
    refine ⟨⟨by simpa using hI.len, ?_, ?_⟩, ?_, ?_, ?_⟩
    · intro i l hl
      by_cases e : k.toNat = i
      · subst e
        rw [List.getElem?_set_self hkS] at hl
        cases hl
        exact ⟨hbl, hb⟩
      · rw [List.getElem?_set_ne e] at hl
        exact hI.sound i l hl
    · obtain ⟨l, h1, h2⟩ := hI.head
      refine ⟨l, ?_, h2⟩
      rw [List.getElem?_set_ne (by intro e; rw [e, h1] at ho; cases ho)]
      exact h1
    · simp only [mu1] at hm ⊢; omega
    · intro _; simp only [mu1] at hm ⊢; omega
    · intro h; cases h
  | some l =>
    have hl := hI.sound _ _ ho
    have hm := mu_set S R k.toNat (some l) (some (andL l b)) ho
    obtain ⟨c1, c2, c3⟩ := andL_count l b (by rw [hl.1, hbl])
    simp only [mu1] at hm
    dsimp only
    refine ⟨⟨by simpa using hI.len, ?_, ?_⟩, ?_, ?_, ?_⟩
    · intro i m hm
      by_cases e : k.toNat = i
      · subst e
        rw [List.getElem?_set_self hkS] at hm
        cases hm
        refine ⟨by rw [andL_length _ _ (by rw [hl.1, hbl])]; exact hl.1, fun r hr => ?_⟩
        rcases andL_get hr with h | h
        · exact hl.2 r h
        · exact hb r h
      · rw [List.getElem?_set_ne e] at hm
        exact hI.sound i m hm
    · obtain ⟨l0, h1, h2⟩ := hI.head
      by_cases e : k.toNat = 0
      · rw [e] at ho ⊢
        rw [h1] at ho
        obtain rfl : l0 = l := by cases ho; rfl
        refine ⟨andL l0 b, List.getElem?_set_self (by omega), fun r hr hR => andL_left _ _ _ (by rw [hl.1, hbl]) (h2 r hr hR)⟩
      · exact ⟨l0, by rw [List.getElem?_set_ne e]; exact h1, h2⟩
    · omega
    · intro h; have := c2 h; omega
    · intro h
      obtain ⟨e1, e2⟩ := c3 h
      refine ⟨?_, l, ho, fun r _ hr => e2 r hr⟩
      rw [e1]
      exact set_self ho
theorem edge_ok (bs : List Blk) (args : Int) (R : Nat) (b : List Bool) (hbl : b.length = R) (st : Sets × Bool) (k : Int) (hI : Inv bs args R st.1) (hk : k.toNat < bs.length) (hb : ∀ r : Nat, b[r]? = some false → Lack bs args r k.toNat) :
    Inv bs args R (edgeS b st k).1 ∧ mu R (edgeS b st k).1 ≤ mu R st.1 ∧ ((edgeS b st k).2 = true → st.2 = true ∨ mu R (edgeS b st k).1 < mu R st.1) ∧ ((edgeS b st k).2 = false → st.2 = false ∧ (edgeS b st k).1 = st.1 ∧ EdgeOk b st.1 k) := by
  obtain ⟨h1, h2, h3, h4⟩ := meet_ok bs args R st.1 k b hI hk hbl hb
  unfold edgeS
  dsimp only
  refine ⟨h1, h2, fun h => ?_, fun h => ?_⟩
  · simp only [Bool.or_eq_true] at h
    rcases h with h | h
    · exact .inr (h3 h)
    · exact .inl h
  · obtain ⟨ha, hb⟩ := (Bool.or_eq_false_iff).1 h
    exact ⟨hb, h4 ha⟩
theorem edges_ok (bs : List Blk) (args : Int) (R : Nat) (b : List Bool) (hbl : b.length = R) : ∀ (ks : List Int) (st : Sets × Bool), Inv bs args R st.1 → (∀ k ∈ ks, k.toNat < bs.length ∧ ∀ r : Nat, b[r]? = some false → Lack bs args r k.toNat) →
    Inv bs args R (ks.foldl (edgeS b) st).1 ∧ mu R (ks.foldl (edgeS b) st).1 ≤ mu R st.1 ∧ ((ks.foldl (edgeS b) st).2 = true → st.2 = true ∨ mu R (ks.foldl (edgeS b) st).1 < mu R st.1) ∧ ((ks.foldl (edgeS b) st).2 = false → st.2 = false ∧ (ks.foldl (edgeS b) st).1 = st.1 ∧ ∀ k ∈ ks, EdgeOk b st.1 k)
  | [], st, hI, _ => ⟨hI, Nat.le_refl _, fun h => .inl h, fun h => ⟨h, rfl, by simp⟩⟩
  | k :: ks, st, hI, hk => by
    obtain ⟨h1, h2, h3, h4⟩ := edge_ok bs args R b hbl st k hI (hk k (by simp)).1 (hk k (by simp)).2
    obtain ⟨g1, g2, g3, g4⟩ := edges_ok bs args R b hbl ks (edgeS b st k) h1 (fun j hj => hk j (by simp [hj]))
    simp only [List.foldl_cons]
    refine ⟨g1, Nat.le_trans g2 h2, fun h => ?_, fun h => ?_⟩
    · rcases g3 h with h | h
      · rcases h3 h with h | h
        · exact .inl h
        · exact .inr (by omega)
      · exact .inr (by omega)
    · obtain ⟨e1, e2, e3⟩ := g4 h
      obtain ⟨f1, f2, f3⟩ := h4 e1
      refine ⟨f1, e2.trans f2, fun j hj => ?_⟩
      rcases List.mem_cons.1 hj with rfl | hj
      · exact f3
      · rw [← f2]; exact e3 j hj
/-- What blocks must be for this: where they go is there, and what they write. -/
structure Flow (bs : List Blk) : Prop where
  to : ∀ i, ∀ k ∈ goesOf bs i, k.toNat < bs.length
  wr : ∀ i, WritesOk (insAt bs i)
theorem step_ok (bs : List Blk) (args : Int) (R : Nat) (hF : Flow bs) (st : Sets × Bool) (i : Nat) (hI : Inv bs args R st.1) :
    Inv bs args R (stepS bs st i).1 ∧ mu R (stepS bs st i).1 ≤ mu R st.1 ∧ ((stepS bs st i).2 = true → st.2 = true ∨ mu R (stepS bs st i).1 < mu R st.1) ∧ ((stepS bs st i).2 = false → st.2 = false ∧ (stepS bs st i).1 = st.1 ∧ ∀ l, st.1[i]? = some (some l) → ∀ k ∈ goesOf bs i, EdgeOk (thru (insAt bs i) l) st.1 k) := by
  unfold stepS
  split
  · rename_i l hl
    obtain ⟨hlen, hs⟩ := hI.sound i l hl
    obtain ⟨h1, h2, h3, h4⟩ := edges_ok bs args R (thru (insAt bs i) l) (by rw [thru_length]; exact hlen) (goesOf bs i) st hI (fun k hk => ⟨hF.to i k hk, fun r hr => by
      obtain ⟨e1, e2⟩ := (thru_get _ _ _ (hF.wr i)).1 hr
      exact .next i k (hs r e1) e2 hk⟩)
    refine ⟨h1, h2, h3, fun h => ?_⟩
    obtain ⟨e1, e2, e3⟩ := h4 h
    refine ⟨e1, e2, fun l' hl' => ?_⟩
    rw [hl] at hl'
    cases hl'
    exact e3
  · rename_i hn
    refine ⟨hI, Nat.le_refl _, fun h => .inl h, fun h => ⟨h, rfl, fun l hl => absurd hl (hn l)⟩⟩
theorem sweep_ok (bs : List Blk) (args : Int) (R : Nat) (hF : Flow bs) (S : Sets) (hI : Inv bs args R S) : ∀ n,
    Inv bs args R (sweepS bs S n).1 ∧ mu R (sweepS bs S n).1 ≤ mu R S ∧ ((sweepS bs S n).2 = true → mu R (sweepS bs S n).1 < mu R S) ∧ ((sweepS bs S n).2 = false → (sweepS bs S n).1 = S ∧ ∀ i, i < n → ∀ l, S[i]? = some (some l) → ∀ k ∈ goesOf bs i, EdgeOk (thru (insAt bs i) l) S k)
  | 0 => ⟨hI, Nat.le_refl _, (fun h => by cases h), (fun _ => ⟨rfl, fun i hi => by omega⟩)⟩
  | n + 1 => by
    obtain ⟨h1, h2, h3, h4⟩ := sweep_ok bs args R hF S hI n
    have e : sweepS bs S (n + 1) = stepS bs (sweepS bs S n) n := by unfold sweepS; rw [List.range_succ, List.foldl_append]; rfl
    rw [e]
    obtain ⟨g1, g2, g3, g4⟩ := step_ok bs args R hF (sweepS bs S n) n h1
    refine ⟨g1, Nat.le_trans g2 h2, fun h => ?_, fun h => ?_⟩
    · rcases g3 h with h | h
      · have := h3 h; omega
      · omega
    · obtain ⟨e1, e2, e3⟩ := g4 h
      obtain ⟨f1, f2⟩ := h4 e1
      refine ⟨e2.trans f1, fun i hi l hl k hk => ?_⟩
      rcases Nat.lt_or_ge i n with hin | hin
      · exact f2 i hin l hl k hk
      · obtain rfl : i = n := by omega
        rw [f1] at e3
        exact e3 l hl k hk
/-- Where nothing is lost any more: what is not surely there is what a path lacks. -/
structure Final (bs : List Blk) (args : Int) (R : Nat) (S : Sets) : Prop where
  inv : Inv bs args R S
  stable : Stable bs S
theorem final_iff {bs : List Blk} {args : Int} {R : Nat} {S : Sets} (hF : Flow bs) (h : Final bs args R S) (r : Nat) (hr : r < R) (i : Nat) : Lack bs args r i ↔ ∃ l, S[i]? = some (some l) ∧ l[r]? = some false := by
  constructor
  · intro hl
    induction hl with
    | start ha =>
      obtain ⟨l, h1, h2⟩ := h.inv.head
      exact ⟨l, h1, h2 r ha hr⟩
    | next i k hl hw hk ih =>
      obtain ⟨l, h1, h2⟩ := ih
      have hi : i < bs.length := by
        have := (List.getElem?_eq_some_iff.1 h1).1
        rw [h.inv.len] at this; exact this
      obtain ⟨m, m1, m2⟩ := h.stable i hi l h1 k hk
      exact ⟨m, m1, m2 r (by rw [(h.inv.sound _ _ m1).1]; exact hr) ((thru_get _ _ _ (hF.wr i)).2 ⟨h2, hw⟩)⟩
  · rintro ⟨l, h1, h2⟩
    exact (h.inv.sound i l h1).2 r h2
/-! ### The document's way: so many passes over all blocks -/
def lstep (bs : List Blk) (r : Nat) (o : List Bool) (i : Nat) : List Bool :=
  if o[i]? = some true ∧ wrB (insAt bs i) r (insAt bs i).length = false then (goesOf bs i).foldl (fun o k => o.set k.toNat true) o else o
def lpass (bs : List Blk) (r : Nat) (o : List Bool) (n : Nat) : List Bool := (List.range n).foldl (lstep bs r) o
def lpasses (bs : List Blk) (r : Nat) (o : List Bool) : Nat → List Bool
  | 0 => o
  | n + 1 => lpass bs r (lpasses bs r o n) bs.length
def linit (bs : List Blk) (args : Int) (r : Nat) : List Bool := (List.replicate bs.length false).set 0 (decide (args ≤ r))
def lacksL (bs : List Blk) (args : Int) (r : Nat) : List Bool := lpasses bs r (linit bs args r) bs.length
def lsets (ks : List Int) (o : List Bool) : List Bool := ks.foldl (fun o k => o.set k.toNat true) o
theorem count_set (o : List Bool) (k : Nat) : o.count true ≤ (o.set k true).count true ∧ ((o.set k true).count true = o.count true → o.set k true = o) := by
  induction o generalizing k with
  | nil => simp
  | cons x o ih =>
    cases k with
    | zero => cases x <;> simp [List.count_cons]
    | succ k =>
      obtain ⟨h1, h2⟩ := ih k
      simp only [List.set_cons_succ, List.count_cons]
      refine ⟨by omega, fun h => ?_⟩
      rw [h2 (by omega)]
theorem lsets_ok : ∀ (ks : List Int) (o : List Bool), (lsets ks o).length = o.length ∧ o.count true ≤ (lsets ks o).count true ∧ ((lsets ks o).count true = o.count true → lsets ks o = o ∧ ∀ k ∈ ks, k.toNat < o.length → o[k.toNat]? = some true) ∧ (∀ j : Nat, (lsets ks o)[j]? = some true → o[j]? = some true ∨ ∃ k ∈ ks, k.toNat = j)
  | [], o => ⟨rfl, Nat.le_refl _, fun _ => ⟨rfl, by simp⟩, fun j h => .inl h⟩
  | k :: ks, o => by
    obtain ⟨h0, h1, h2, h3⟩ := lsets_ok ks (o.set k.toNat true)
    obtain ⟨c1, c2⟩ := count_set o k.toNat
    rw [show lsets (k :: ks) o = lsets ks (o.set k.toNat true) from rfl]
    refine ⟨by rw [h0]; simp, by omega, fun h => ?_, fun j hj => ?_⟩
    · have e := c2 (by omega)
      obtain ⟨g1, g2⟩ := h2 (by omega)
      rw [e] at g1 g2
      rw [e]
      refine ⟨g1, fun j hj hl => ?_⟩
      rcases List.mem_cons.1 hj with rfl | hj
      · rw [← e]; exact List.getElem?_set_self hl
      · exact g2 j hj hl
    · rcases h3 j hj with h | ⟨i, hi, rfl⟩
      · by_cases e : k.toNat = j
        · exact .inr ⟨k, by simp, e⟩
        · rw [List.getElem?_set_ne e] at h; exact .inl h
      · exact .inr ⟨i, by simp [hi], rfl⟩
def LEdge (bs : List Blk) (r : Nat) (o : List Bool) (i : Nat) : Prop := o[i]? = some true → wrB (insAt bs i) r (insAt bs i).length = false → ∀ k ∈ goesOf bs i, k.toNat < o.length → o[k.toNat]? = some true
theorem lstep_ok (bs : List Blk) (args : Int) (r : Nat) (o : List Bool) (i : Nat) (hs : ∀ j : Nat, o[j]? = some true → Lack bs args r j) :
    (lstep bs r o i).length = o.length ∧ o.count true ≤ (lstep bs r o i).count true ∧ ((lstep bs r o i).count true = o.count true → lstep bs r o i = o ∧ LEdge bs r o i) ∧ (∀ j : Nat, (lstep bs r o i)[j]? = some true → Lack bs args r j) := by
  unfold lstep
  split
  · rename_i h
    obtain ⟨h0, h1, h2, h3⟩ := lsets_ok (goesOf bs i) o
    refine ⟨h0, h1, fun e => ⟨(h2 e).1, fun _ _ => (h2 e).2⟩, fun j hj => ?_⟩
    rcases h3 j hj with g | ⟨k, hk, rfl⟩
    · exact hs j g
    · exact .next i k (hs i h.1) h.2 hk
  · rename_i h
    exact ⟨rfl, Nat.le_refl _, fun _ => ⟨rfl, fun a b => absurd ⟨a, b⟩ h⟩, hs⟩
theorem lpass_ok (bs : List Blk) (args : Int) (r : Nat) (o : List Bool) (hs : ∀ j : Nat, o[j]? = some true → Lack bs args r j) : ∀ n,
    (lpass bs r o n).length = o.length ∧ o.count true ≤ (lpass bs r o n).count true ∧ ((lpass bs r o n).count true = o.count true → lpass bs r o n = o ∧ ∀ i, i < n → LEdge bs r o i) ∧ (∀ j : Nat, (lpass bs r o n)[j]? = some true → Lack bs args r j)
  | 0 => ⟨rfl, Nat.le_refl _, (fun _ => ⟨rfl, fun i hi => by omega⟩), hs⟩
  | n + 1 => by
    obtain ⟨h0, h1, h2, h3⟩ := lpass_ok bs args r o hs n
    have e : lpass bs r o (n + 1) = lstep bs r (lpass bs r o n) n := by unfold lpass; rw [List.range_succ, List.foldl_append]; rfl
    rw [e]
    obtain ⟨g0, g1, g2, g3⟩ := lstep_ok bs args r (lpass bs r o n) n h3
    refine ⟨g0.trans h0, Nat.le_trans h1 g1, fun e => ?_, g3⟩
    obtain ⟨a1, a2⟩ := h2 (by omega)
    obtain ⟨b1, b2⟩ := g2 (by omega)
    rw [a1] at b1 b2
    rw [a1]
    refine ⟨b1, fun i hi => ?_⟩
    rcases Nat.lt_or_ge i n with h | h
    · exact a2 i h
    · obtain rfl : i = n := by omega
      exact b2
def LStable (bs : List Blk) (r : Nat) (o : List Bool) : Prop := ∀ i, i < bs.length → LEdge bs r o i
theorem lpass_stable {bs : List Blk} {r : Nat} {o : List Bool} : ∀ n, n ≤ bs.length → o.length = bs.length → Flow bs → LStable bs r o → lpass bs r o n = o
  | 0, _, _, _, _ => rfl
  | n + 1, hn, hl, hF, h => by
    have e : lpass bs r o (n + 1) = lstep bs r (lpass bs r o n) n := by unfold lpass; rw [List.range_succ, List.foldl_append]; rfl
    rw [e, lpass_stable n (by omega) hl hF h]
    unfold lstep
    split
    · rename_i hc
      have key : ∀ ks : List Int, (∀ k ∈ ks, o[k.toNat]? = some true) → ks.foldl (fun o k => o.set k.toNat true) o = o := by
        intro ks
        induction ks with
        | nil => intro _; rfl
        | cons k ks ih =>
          intro hk
          rw [List.foldl_cons, set_self (hk k (by simp))]
          exact ih fun j hj => hk j (by simp [hj])
      exact key _ fun k hk => h n (by omega) hc.1 hc.2 k hk (by rw [hl]; exact hF.to n k hk)
    · rfl
theorem lpasses_ok (bs : List Blk) (args : Int) (r : Nat) (hF : Flow bs) (o : List Bool) (hl : o.length = bs.length) (hs : ∀ j : Nat, o[j]? = some true → Lack bs args r j) : ∀ n,
    (lpasses bs r o n).length = o.length ∧ (LStable bs r (lpasses bs r o n) ∨ o.count true + n ≤ (lpasses bs r o n).count true) ∧ (∀ j : Nat, (lpasses bs r o n)[j]? = some true → Lack bs args r j)
  | 0 => ⟨rfl, .inr (Nat.le_refl _), hs⟩
  | n + 1 => by
    obtain ⟨h0, h1, h2⟩ := lpasses_ok bs args r hF o hl hs n
    rw [show lpasses bs r o (n + 1) = lpass bs r (lpasses bs r o n) bs.length from rfl]
    obtain ⟨g0, g1, g2, g3⟩ := lpass_ok bs args r (lpasses bs r o n) h2 bs.length
    refine ⟨g0.trans h0, ?_, g3⟩
    rcases h1 with h | h
    · rw [lpass_stable _ (Nat.le_refl _) (h0.trans hl) hF h]
      exact .inl h
    · by_cases e : (lpass bs r (lpasses bs r o n) bs.length).count true = (lpasses bs r o n).count true
      · obtain ⟨a, b⟩ := g2 e
        rw [a]; exact .inl b
      · exact .inr (by omega)
theorem lacks_iff {bs : List Blk} {args : Int} {r : Nat} (hF : Flow bs) (h0 : 0 < bs.length) (i : Nat) : (lacksL bs args r)[i]? = some true ↔ Lack bs args r i := by
  have hl : (linit bs args r).length = bs.length := by simp [linit]
  have hs : ∀ j : Nat, (linit bs args r)[j]? = some true → Lack bs args r j := by
    intro j hj
    unfold linit at hj
    by_cases e : 0 = j
    · subst e
      rw [List.getElem?_set_self (by simpa using h0)] at hj
      exact .start (by simpa using hj)
    · rw [List.getElem?_set_ne e, List.getElem?_replicate] at hj
      split at hj <;> simp at hj
  obtain ⟨g0, g1, g2⟩ := lpasses_ok bs args r hF _ hl hs bs.length
  constructor
  · exact g2 i
  · intro h
    have hst : args ≤ r → LStable bs r (lacksL bs args r) ∧ (lacksL bs args r)[0]? = some true := by
      intro ha
      have hc : 0 < (linit bs args r).count true := by
        rw [List.count_pos_iff]
        refine List.mem_of_getElem? (i := 0) ?_
        unfold linit
        rw [List.getElem?_set_self (by simpa using h0), decide_eq_true ha]
      have hle : (lpasses bs r (linit bs args r) bs.length).count true ≤ bs.length := by
        have := List.count_le_length (a := true) (l := lpasses bs r (linit bs args r) bs.length)
        rw [g0, hl] at this; exact this
      refine ⟨?_, ?_⟩
      · rcases g1 with h | h
        · exact h
        · omega
      · have key : ∀ n, (lpasses bs r (linit bs args r) n)[0]? = some true := by
          have mono1 : ∀ (ks : List Int) (o : List Bool), o[0]? = some true → (ks.foldl (fun o k => o.set k.toNat true) o)[0]? = some true := by
            intro ks
            induction ks with
            | nil => intro o h; exact h
            | cons k ks ih =>
              intro o h
              refine ih _ ?_
              show (o.set k.toNat true)[0]? = some true
              by_cases e : k.toNat = 0
              · rw [e]; exact List.getElem?_set_self (List.getElem?_eq_some_iff.1 h).1
              · rw [List.getElem?_set_ne e]; exact h
          have mono2 : ∀ (o : List Bool) (n : Nat), o[0]? = some true → (lpass bs r o n)[0]? = some true := by
            intro o n h
            induction n with
            | zero => exact h
            | succ n ih =>
              have e : lpass bs r o (n + 1) = lstep bs r (lpass bs r o n) n := by unfold lpass; rw [List.range_succ, List.foldl_append]; rfl
              rw [e]; unfold lstep
              split
              · exact mono1 _ _ ih
              · exact ih
          intro n
          induction n with
          | zero =>
            show (linit bs args r)[0]? = some true
            unfold linit
            rw [List.getElem?_set_self (by simpa using h0), decide_eq_true ha]
          | succ n ih => exact mono2 _ _ ih
        exact key _
    have ha : args ≤ r := by
      clear g0 g1 g2 hst
      induction h with
      | start ha => exact ha
      | next _ _ _ _ _ ih => exact ih
    obtain ⟨s1, s2⟩ := hst ha
    clear hst
    induction h with
    | start _ => exact s2
    | next i k hl' hw hk ih =>
      have hi := (List.getElem?_eq_some_iff.1 ih).1
      have hlen : (lacksL bs args r).length = bs.length := g0.trans hl
      rw [hlen] at hi
      exact s1 i hi ih hw k hk (by rw [hlen]; exact hF.to i k hk)
end Go.Proofs.Ythahjnjkiljaaaa
