/- AsmPlays: what its loop keeps. No function of the program is walked here. -/
import Derived.Test.YtimhpohlaagbpaaDoorAsmSame
namespace Go.Proofs.YtimhpohlaagbpaaDoor
open Go.RowKit Go.Maps
set_option linter.unusedVariables false
set_option linter.unusedSimpArgs false
theorem InsIn.bds {w : World} {v : Value} {l : List Ix} (h : InsIn w v l) : ∀ y ∈ l, y.bd := by
  obtain ⟨_, p, c, b, o, _, _, h4⟩ := h
  intro y hy
  obtain ⟨i, hi, he⟩ := List.mem_iff_getElem.1 hy
  exact (h4 i y (by rw [List.getElem?_eq_getElem hi, he])).bd
/-- What is known of a list behind k acts. -/
structure SizedK (L : List It) (M : List (List UInt8 × Int)) (k : Nat) : Prop where
  far : FarL L
  put : PutL L
  len : L.length ≤ k * 1002
  mlen : M.length ≤ k
  marks : ∀ nm t, look M nm = some t → 0 ≤ t ∧ t ≤ k * 1002
theorem SizedK.nil : SizedK [] [] 0 := ⟨fun _ _ h => by simp at h, fun _ h => by simp at h, by simp, by simp, fun nm t h => by cases h⟩
theorem SizedK.sized {L : List It} {M : List (List UInt8 × Int)} {k : Nat} (h : SizedK L M k) (hk : k ≤ 60) : Sized L M :=
  ⟨h.far, h.put, by have := h.len; omega, by have := h.mlen; omega, fun nm t ht => by have := h.marks nm t ht; omega⟩
theorem FarL.app {L L2 : List It} (h : FarL L) (h2 : FarL L2) : FarL (L ++ L2) := fun x nm hm => (List.mem_append.1 hm).elim (h x nm) (h2 x nm)
theorem PutL.app {L L2 : List It} (h : PutL L) (h2 : PutL L2) : PutL (L ++ L2) := fun x hm => (List.mem_append.1 hm).elim (h x) (h2 x)
theorem FarL.puts (l : List Ix) : FarL (l.map .put) := fun x nm hm => by
  obtain ⟨y, _, h⟩ := List.mem_map.1 hm; cases h
theorem PutL.puts {l : List Ix} (h : ∀ x ∈ l, x.bd) : PutL (l.map .put) := fun x hm => by
  obtain ⟨y, hy, e⟩ := List.mem_map.1 hm; cases e; exact h x hy
theorem putL_keep {L : List It} {l : List Ix} (hf : FarL L) (hp : PutL L) (h : ∀ x ∈ l, x.bd) : FarL (putL L l) ∧ PutL (putL L l) ∧ (putL L l).length ≤ L.length + l.length := by
  unfold putL; split
  · exact ⟨hf.app (.puts l), hp.app (.puts h), by simp⟩
  · exact ⟨hf, hp, by omega⟩
theorem jumpL_keep {L : List It} {op c : Int} {nm : ByteArray} (hf : FarL L) (hp : PutL L) (h : op = 17 ∧ 0 ≤ c ∨ op = 18 ∧ c = 0) : FarL (jumpL L op c nm) ∧ PutL (jumpL L op c nm) ∧ (jumpL L op c nm).length ≤ L.length + 1 := by
  unfold jumpL; split
  · refine ⟨hf.app fun x nm2 hm => ?_, hp.app fun x hm => ?_, by simp⟩
    · simp only [List.mem_cons, List.not_mem_nil, or_false, It.far.injEq] at hm
      obtain ⟨rfl, rfl⟩ := hm
      rcases h with ⟨rfl, h0⟩ | ⟨rfl, rfl⟩
      · exact .inl ⟨c, h0, ‹_›, rfl⟩
      · exact .inr rfl
    · simp at hm
  · exact ⟨hf, hp, by omega⟩
theorem SizedK.step {L : List It} {M : List (List UInt8 × Int)} {k : Nat} (h : SizedK L M k) {x : Actx} (hx : x.bd) (hl : ∀ y ∈ x.l, y.bd) : SizedK (x.L L) (x.M L M) (k + 1) := by
  obtain ⟨⟨a0, a1⟩, ⟨b0, b1⟩, ⟨d0, d1⟩, hnm, hll⟩ := hx
  have hL : FarL (x.L L) ∧ PutL (x.L L) ∧ (x.L L).length ≤ L.length + 1002 := by
    unfold Actx.L
    split
    · have := putL_keep h.far h.put hl; exact ⟨this.1, this.2.1, by omega⟩
    · split
      · exact ⟨h.far, h.put, by omega⟩
      · split
        · have := jumpL_keep (nm := x.nm) h.far h.put (.inl ⟨rfl, b0⟩); exact ⟨this.1, this.2.1, by omega⟩
        · split
          · have := jumpL_keep (nm := x.nm) h.far h.put (.inr ⟨rfl, rfl⟩); exact ⟨this.1, this.2.1, by omega⟩
          · have := putL_keep h.far h.put (parts_bd b0 b1 d0 d1); have h2 := parts_len x.cond x.wd; exact ⟨this.1, this.2.1, by omega⟩
  have hlen := h.len
  have hmlen := h.mlen
  refine ⟨hL.1, hL.2.1, by omega, ?_, ?_⟩
  · unfold Actx.M markM
    split
    · split
      · omega
      · simp; omega
    · omega
  · intro nm t ht
    unfold Actx.M markM at ht
    split at ht
    · split at ht
      · have := h.marks nm t ht; omega
      · rw [look_snoc] at ht
        cases hm : look M nm with
        | some n => rw [hm] at ht; cases ht; have := h.marks nm _ hm; omega
        | none =>
          rw [hm] at ht
          simp only at ht
          split at ht
          · cases ht; omega
          · cases ht
    · have := h.marks nm t ht; omega
/-- A list and the document's, of which the document's struct lies in box Q. -/
structure PairAt (w : World) (Q p : Nat) (L : List It) (M : List (List UInt8 × Int)) : Prop where
  ex : ∃ sv m K lv mv, AsmAt w p sv m K L M ∧ Box2 w Q lv mv ∧ ItemsAt w lv L ∧ MarksAt w mv M ∧ (∀ k, Own p sv m k → k ≠ Q) ∧ (∀ k, K k → k ≠ Q ∧ k < w.heap.size) ∧ (∀ k, lv.ownBlock = some k → k ≠ Q) ∧ (∀ k, mv.ownBlock = some k → k ≠ Q)
theorem RowC.lt {w : World} {size n : Nat} {v : Value} {cs : List Value} (h : RowC w v size n cs) : ∀ k, v.ownBlock = some k → k < w.heap.size := by
  intro k hk
  rcases h.2 with ⟨rfl, _⟩ | ⟨g, cap, rfl, _, _, hg, _⟩
  · cases hk
  · simp only [Value.ownBlock, Option.some.injEq] at hk; subst hk; exact hg
/-- The doing on a copy: what is known behind it. -/
structure Did (wr w1 W9 : World) (Q P p2 : Nat) (L' : List It) (M' : List (List UInt8 × Int)) (lv' mv' : Value) : Prop where
  ex : ∃ v' m2 K', AsmAt W9 p2 v' m2 K' L' M' ∧ (∀ k, Own p2 v' m2 k → k ≠ Q) ∧ (∀ k, K' k → k ≠ Q ∧ k < W9.heap.size)
  box : Box2 W9 P lv' mv'
  items : ItemsAt W9 lv' L'
  marks : MarksAt W9 mv' M'
  lq : ∀ k, lv'.ownBlock = some k → k ≠ Q
  mq : ∀ k, mv'.ownBlock = some k → k ≠ Q
  below : Below wr.heap.size wr W9
  pq : P ≠ Q
theorem Did.of {wr w1 W w2 W9 : World} {Q P p2 m2 : Nat} {v2 lv mv lv' mv' : Value} {K2 : Nat → Prop} {x : Actx} {L : List It} {M : List (List UInt8 × Int)} {b : Bool} (hQ : Q < wr.heap.size) (hb1 : Below wr.heap.size wr w1) (hbW : Below w1.heap.size w1 W) (hA : AsmAt W p2 v2 m2 K2 L M)
    (hO2 : ∀ k, Own p2 v2 m2 k → wr.heap.size ≤ k) (hO3 : ∀ k, Own p2 v2 m2 k → k < w1.heap.size) (hK2 : ∀ k, K2 k → k ≠ Q ∧ k < wr.heap.size) (hlq : ∀ k, lv.ownBlock = some k → k ≠ Q ∧ k < wr.heap.size) (hmq : ∀ k, mv.ownBlock = some k → k ≠ Q ∧ k < wr.heap.size)
    (hd : DoesOk W p2 v2 m2 K2 x L M lv mv L M (.returned (.tuple #[.agg #[lv', mv'], .bool b])) w2) (hP : w1.heap.size ≤ P) (hPW : P < W.heap.size ∨ w2.heap.size ≤ P) (h9 : Only (fun k => k = P) w2 W9) (hB : Box2 W9 P lv' mv') : Did wr w1 W9 Q P p2 (x.L L) (x.M L M) lv' mv' := by
  · skip
    obtain ⟨lvd, mvd, bd, v', K', he, _, g1, g2, g3, g4, g5, g6, g7, g8, g9⟩ := hd
    simp only [Ending.returned.injEq, Value.tuple.injEq, Array.mk.injEq, List.cons.injEq, Value.agg.injEq, Value.bool.injEq, and_true] at he
    obtain ⟨⟨rfl, rfl⟩, rfl⟩ := he
    have hs1 := hb1.size
    have hsW := hbW.size
    have hs2 := g2.size
    have hown : ∀ k, Own p2 v' m2 k → k < w2.heap.size := by
      have hbl := g1.blocks
      rintro k (rfl | h | rfl)
      · exact hbl.1
      · exact hbl.2.2 k h
      · exact hbl.2.1
    have hOP : ∀ k, Own p2 v' m2 k → k ≠ P ∧ k ≠ Q := by
      intro k hk
      have h1 := hown k hk
      rcases Nat.lt_or_ge k W.heap.size with h | h
      · have := hO2 k (g3 k h hk); have := hO3 k (g3 k h hk); omega
      · rcases hPW with h2 | h2 <;> omega
    have hKP : ∀ k, K' k ∧ k < w2.heap.size → k ≠ P ∧ k ≠ Q := by
      intro k hk
      rcases Nat.lt_or_ge k W.heap.size with h | h
      · have := hK2 k (g4 k h hk.1); omega
      · rcases hPW with h2 | h2 <;> omega
    have hlP : ∀ k, lv'.ownBlock = some k → k ≠ P ∧ k ≠ Q := by
      intro k hk
      have hl2 : k < w2.heap.size := RowC.lt (cs := (x.L L).flatMap It.cells) g5 k hk
      rcases g8 k hk with h | h
      · have := hlq k h; omega
      · rcases hPW with h2 | h2 <;> omega
    have hmP : ∀ k, mv'.ownBlock = some k → k ≠ P ∧ k ≠ Q := by
      intro k hk
      have hl2 : k < w2.heap.size := RowC.lt (cs := (x.M L M).flatMap markC) g6 k hk
      rcases g9 k hk with h | h
      · have := hmq k h; omega
      · rcases hPW with h2 | h2 <;> omega
    refine ⟨⟨v', m2, _, g1.trim.keep h9 (fun k hk e => (hOP k hk).1 e) (fun k hk e => (hKP k hk).1 e), fun k hk => (hOP k hk).2, fun k hk => ⟨(hKP k hk).2, Nat.lt_of_lt_of_le hk.2 h9.size⟩⟩, hB, ?_, ?_, fun k hk => (hlP k hk).2, fun k hk => (hmP k hk).2, ?_, by omega⟩
    · exact g5.keepO h9 (fun k hk e => (hlP k hk).1 e)
    · exact g6.keepO h9 (fun k hk e => (hmP k hk).1 e)
    · have o1 : Below wr.heap.size wr w2 := (hb1.trans (hbW.mono hs1)).trans (g2.below (by omega) (fun k hk ho => by have := hO2 k ho; omega))
      exact o1.trans (h9.below (by omega) (fun k hk e => by omega))
end Go.Proofs.YtimhpohlaagbpaaDoor
