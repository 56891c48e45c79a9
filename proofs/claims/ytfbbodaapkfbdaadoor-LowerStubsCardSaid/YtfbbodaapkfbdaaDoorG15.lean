/- Put of the package asm: what its loop keeps. No function of the program is walked here. -/
import Derived.Test.YtfbbodaapkfbdaaDoorG12
import Derived.Lib.SliceRun
namespace Go.Proofs.YtfbbodaapkfbdaaDoor
open Go.RowKit Go.Maps
set_option linter.unusedVariables false
set_option linter.unusedSimpArgs false
/-- An instruction that lies at a place. -/
structure InsAt (w : World) (b o : Nat) (x : Ix) : Prop where
  c0 : w.cell? ⟨b, o, none⟩ = some (.int .u8 x.op)
  c1 : w.cell? ⟨b, o + 1, none⟩ = some (.int .u8 x.rd)
  c2 : w.cell? ⟨b, o + 2, none⟩ = some (.int .u8 x.rs1)
  c3 : w.cell? ⟨b, o + 3, none⟩ = some (.int .u8 x.rs2)
  c4 : w.cell? ⟨b, o + 4, none⟩ = some (.bool x.is)
  c5 : w.cell? ⟨b, o + 5, none⟩ = some (.int .i32 x.imm)
  bd : x.bd
theorem InsAt.lt {w : World} {b o : Nat} {x : Ix} (h : InsAt w b o x) : b < w.heap.size := World.block_lt_of_cell? _ _ h.c0
theorem InsAt.keep {S : Nat → Prop} {w w' : World} {b o : Nat} {x : Ix} (h : InsAt w b o x) (hb : Only S w w') (hs : ¬ S b) : InsAt w' b o x :=
  have hl := h.lt
  ⟨(hb.cell (p := ⟨b, o, none⟩) hl hs).trans h.c0, (hb.cell (p := ⟨b, o + 1, none⟩) hl hs).trans h.c1, (hb.cell (p := ⟨b, o + 2, none⟩) hl hs).trans h.c2, (hb.cell (p := ⟨b, o + 3, none⟩) hl hs).trans h.c3, (hb.cell (p := ⟨b, o + 4, none⟩) hl hs).trans h.c4, (hb.cell (p := ⟨b, o + 5, none⟩) hl hs).trans h.c5, h.bd⟩
theorem InsAt.keepb {w w' : World} {b o : Nat} {x : Ix} (h : InsAt w b o x) (hb : Below w.heap.size w w') : InsAt w' b o x := h.keep (Only.of_below (S := fun _ => False) hb) id
/-- A slice of instructions, as it is read. -/
def InsIn (w : World) (v : Value) (l : List Ix) : Prop :=
  l.length ≤ maxLen ∧ ∃ p c b o, v = .slice p l.length c ∧ (0 < l.length → p = some ⟨b, o, none⟩) ∧ ∀ k x, l[k]? = some x → InsAt w b (o + k * 6) x
theorem InsIn.keepb {w w' : World} {v : Value} {l : List Ix} (h : InsIn w v l) (hb : Below w.heap.size w w') : InsIn w' v l := by
  obtain ⟨h1, p, c, b, o, h2, h3, h4⟩ := h
  exact ⟨h1, p, c, b, o, h2, h3, fun k x hx => (h4 k x hx).keepb hb⟩
/-- The loop of Put, when k instructions were made whole. -/
structure PutAt (w : World) (l : List Ix) (mv : Value) (k : Nat) (wr : World) : Prop where
  ex : ∃ (vs : List Value) (C : Nat → Prop), wr.ownsRow 0 96 1 mv k vs ∧ vs.length = k ∧ (∀ (i : Nat) (v : Value) (x : Ix), vs[i]? = some v → l[i]? = some x → CloAt wr C v (.put x)) ∧ (∀ i, C i → w.heap.size ≤ i ∧ i < wr.heap.size ∧ mv.ownBlock ≠ some i)
  fresh : ∀ i, mv.ownBlock = some i → w.heap.size ≤ i
  may : ∀ (i : Nat) (x : Ix), i < k → l[i]? = some x → mayP x
  below : Below w.heap.size w wr
theorem PutAt.start (w : World) (l : List Ix) : PutAt w l (.slice none 0 0) 0 w :=
  ⟨⟨[], fun _ => False, World.ownsRow_nil w 0 _ 1, rfl, fun i v x hv => by simp at hv, fun i h => h.elim⟩, fun i h => by simp [Value.ownBlock] at h, fun i x h => by omega, Below.refl _ _⟩
/-- One more. -/
theorem PutAt.more {w wr w2 w3 : World} {l : List Ix} {mv v' : Value} {k : Nat} {x : Ix} (h : PutAt w l mv k wr) (hx : l[k]? = some x) (hm : mayP x) (hb : Below wr.heap.size wr w2) (c : Nat) (hc1 : wr.heap.size ≤ c) (hc2 : c < w2.heap.size) (hc3 : w2.cell? ⟨c, 0, none⟩ = some (.int .u32 (encS x)))
    {vs : List Value} {C : Nat → Prop} (hown : wr.ownsRow 0 96 1 mv k vs) (hlen : vs.length = k) (hvs : ∀ (i : Nat) (v : Value) (x : Ix), vs[i]? = some v → l[i]? = some x → CloAt wr C v (.put x)) (hC : ∀ i, C i → w.heap.size ≤ i ∧ i < wr.heap.size ∧ mv.ownBlock ≠ some i)
    (h3 : w3.ownsRow 0 96 1 v' (k + 1) (vs ++ [.func (.func 71) #[] #[.pointer (some ⟨c, 0, none⟩)]])) (hg : w2.grownBy w3 mv.ownBlock) (hp : v'.ownBlock = mv.ownBlock ∨ ∀ i, v'.ownBlock = some i → w2.heap.size ≤ i) : PutAt w l v' (k + 1) w3 := by
  have hwr := h.below.size
  have o2 : Only (fun i => mv.ownBlock = some i) wr w3 := (Only.of_below hb).grown hg (fun i hi _ => hi.symm ▸ rfl)
  have o3 : Only (fun i => mv.ownBlock = some i) w2 w3 := (Only.refl _ _).grown hg (fun i hi _ => hi.symm ▸ rfl)
  have hne : mv.ownBlock ≠ some c := fun e => by have := (hown.lt c e).2; omega
  refine ⟨⟨_, fun i => C i ∨ i = c, h3, by simp [hlen], ?_, ?_⟩, ?_, ?_, ?_⟩
  · intro i v y hv hy
    by_cases hi : i < vs.length
    · rw [List.getElem?_append_left hi] at hv
      exact (hvs i v y hv hy).keep o2 (fun j hj e => (hC j hj).2.2 e) (fun j _ hj => .inl hj)
    · rw [List.getElem?_append_right (by omega)] at hv
      have hik : i - vs.length = 0 := by
        rcases Nat.eq_zero_or_pos (i - vs.length) with e | e
        · exact e
        · rw [List.getElem?_eq_none (by simp; omega)] at hv; cases hv
      rw [hik] at hv
      simp only [List.getElem?_cons_zero, Option.some.injEq] at hv
      obtain rfl : i = k := by omega
      rw [hx] at hy
      cases hy
      exact ⟨c, hv.symm, .inr rfl, (o3.cell (p := ⟨c, 0, none⟩) hc2 hne).trans hc3⟩
  · have hs3 := hg.size
    have hs2 := hb.size
    rintro i (hi | rfl)
    · obtain ⟨a1, a2, a3⟩ := hC i hi
      refine ⟨a1, by omega, ?_⟩
      rcases hp with e | e
      · rw [e]; exact a3
      · intro e2; have := e i e2; omega
    · refine ⟨by omega, by omega, ?_⟩
      rcases hp with e | e
      · rw [e]; exact hne
      · intro e2; have := e i e2; omega
  · intro i hi
    have hs2 := hb.size
    rcases hp with e | e
    · exact h.fresh i (e ▸ hi)
    · have := e i hi; omega
  · intro i y hi hy
    by_cases hik : i < k
    · exact h.may i y hik hy
    · obtain rfl : i = k := by omega
      rw [hx] at hy; cases hy; exact hm
  · exact o2.below (B := w.heap.size) hwr (fun i hi e => by have := h.fresh i e; omega) |> h.below.trans
/-- What Put leaves. -/
def PutOk (w : World) (p : Nat) (sv : Value) (m : Nat) (K : Nat → Prop) (L : List It) (M : List (List UInt8 × Int)) (l : List Ix) (e : Ending) (w' : World) : Prop :=
  if ∀ x ∈ l, mayP x then e = .returned (.int .i64 0) ∧ AddOk w p sv m K L M (l.map .put) w' else e = .returned (.int .i64 2) ∧ Below w.heap.size w w'
theorem AddOk.of_below {w w1 w' : World} {p m : Nat} {sv : Value} {K : Nat → Prop} {L L2 : List It} {M : List (List UInt8 × Int)} (hb : Below w.heap.size w w1) (h : AddOk w1 p sv m K L M L2 w') : AddOk w p sv m K L M L2 w' := by
  obtain ⟨v', K2, h1, h2, h3, h4⟩ := h
  exact ⟨v', K2, h1, (Only.of_below hb).fresh h2 (fun _ _ h => h), fun k hk => h3 k (Nat.lt_of_lt_of_le hk hb.size), fun k hk => h4 k (Nat.lt_of_lt_of_le hk hb.size)⟩
/-- The end of Put: all are made whole, and there is one at least. -/
theorem PutAt.fin {w wr w3 : World} {l : List Ix} {mv v' : Value} {p m : Nat} {sv : Value} {K : Nat → Prop} {L : List It} {M : List (List UInt8 × Int)} (hA : AsmAt w p sv m K L M) (h : PutAt w l mv l.length wr) {vs : List Value} {C : Nat → Prop}
    (hlen : vs.length = l.length) (hvs : ∀ (i : Nat) (v : Value) (x : Ix), vs[i]? = some v → l[i]? = some x → CloAt wr C v (.put x)) (hC : ∀ i, C i → w.heap.size ≤ i ∧ i < wr.heap.size ∧ mv.ownBlock ≠ some i)
    {us : List Value} (hul : us.length = L.length) (hus : ∀ (i : Nat) (v : Value) (it : It), us[i]? = some v → L[i]? = some it → CloAt wr (fun k => K k ∧ k < w.heap.size) v it)
    (hr : w3.ownsRow 0 96 1 v' (L.length + l.length) (us ++ vs)) (g : wr.grownBy w3 sv.ownBlock) (hpl : v'.ownBlock = sv.ownBlock ∨ ∀ k, v'.ownBlock = some k → wr.heap.size ≤ k) :
    AddOk w p sv m K L M (l.map .put) (w3.setCell ⟨p, 0, none⟩ v') := by
  have hbl := hA.blocks
  have hA2 := (hA.trim).keep (Only.of_below (S := fun _ => False) h.below) (fun _ _ h => h) (fun _ _ h => h)
  have hwr := h.below.size
  have hadd := hA2.add (L2 := l.map .put) (K2 := fun k => (K k ∧ k < w.heap.size) ∨ C k) (vs := us) (new := vs) g (by rw [List.length_map]; exact hr) hpl hul hus (by rw [List.length_map]; exact hlen)
    (fun i v it hv hi => by
      rw [List.getElem?_map] at hi
      cases hli : l[i]? with
      | none => rw [hli] at hi; cases hi
      | some x =>
        rw [hli] at hi
        cases hi
        exact (hvs i v x hv hli).keep (Only.refl (fun _ => False) wr) (fun _ _ h => h) (fun k _ hk => .inr hk))
    (fun k hk => by
      rcases hk with hk | hk
      · exact ⟨by omega, hA.apart k hk.1⟩
      · obtain ⟨a1, a2, a3⟩ := hC k hk
        exact ⟨a2, by omega, fun e => by have := hbl.2.2 k e; omega, by omega⟩)
    (fun k _ hk => .inl hk)
  refine ⟨v', _, hadd.1, ?_, ?_, ?_⟩
  · exact (Only.of_below h.below).fresh hadd.2 (fun _ _ h => h)
  · intro k hk ho
    rcases ho with h | h | h
    · exact .inl h
    · rcases hpl with e | e
      · exact .inr (.inl (e ▸ h))
      · have := e k h; omega
    · exact .inr (.inr h)
  · intro k hk ho
    rcases ho with h | h
    · exact h.1
    · have := (hC k h).1; omega
end Go.Proofs.YtfbbodaapkfbdaaDoor
