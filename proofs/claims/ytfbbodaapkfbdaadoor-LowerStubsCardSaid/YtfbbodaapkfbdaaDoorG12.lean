/- A list to which function values were added. No function of the program is walked here. -/
import Derived.Test.YtfbbodaapkfbdaaDoorG09
import Derived.OneCell
namespace Go.Proofs.YtfbbodaapkfbdaaDoor
open Go.RowKit Go.Maps
set_option linter.unusedVariables false
theorem aobj_setCell {w : World} {g i : Nat} {c : Array Value} {t : TypeId} {fz : Nat × Nat} (h : w.heap[g]? = some (.cells c t fz)) (v : Value) :
    (w.setCell ⟨g, i, none⟩ v).heap[g]? = some (.cells (c.setIfInBounds i v) t fz) := by
  simp [World.setCell, Array.getElem?_modify, h]
theorem AsmAt.add {w w' : World} {p m : Nat} {sv v' : Value} {K K2 : Nat → Prop} {L L2 : List It} {M : List (List UInt8 × Int)} {vs new : List Value} (h : AsmAt w p sv m K L M) (g : w.grownBy w' sv.ownBlock)
    (hr : w'.ownsRow 0 96 1 v' (L.length + L2.length) (vs ++ new)) (hpl : v'.ownBlock = sv.ownBlock ∨ ∀ k, v'.ownBlock = some k → w.heap.size ≤ k) (hlen : vs.length = L.length)
    (hvs : ∀ (i : Nat) (v : Value) (it : It), vs[i]? = some v → L[i]? = some it → CloAt w K v it) (hl2 : new.length = L2.length) (hnew : ∀ (i : Nat) (v : Value) (it : It), new[i]? = some v → L2[i]? = some it → CloAt w K2 v it)
    (hk2 : ∀ k, K2 k → k < w.heap.size ∧ k ≠ p ∧ sv.ownBlock ≠ some k ∧ k ≠ m) (hk : ∀ k, k < w.heap.size → K k → K2 k) :
    AsmAt (w'.setCell ⟨p, 0, none⟩ v') p v' m K2 (L ++ L2) M ∧ Only (Own p sv m) w (w'.setCell ⟨p, 0, none⟩ v') := by
  have on : Only (fun k => sv.ownBlock = some k) w w' := (Only.refl _ w).grown g (fun k hk _ => hk.symm ▸ rfl)
  have on2 : Only (Own p sv m) w (w'.setCell ⟨p, 0, none⟩ v') := (on.mono (fun k _ hk => .inr (.inl hk))).setCell (.inl rfl) _
  have on3 : Only (fun k => k = p ∨ sv.ownBlock = some k) w (w'.setCell ⟨p, 0, none⟩ v') := (on.mono (fun k _ hk => .inr hk)).setCell (.inl rfl) _
  refine ⟨?_, on2⟩
  obtain ⟨h1, _, ⟨D, ⟨es, cl, hb, F, hz, hD⟩, h6⟩, h7, h8⟩ := h
  have hp := lt_of_block h1
  have hm := lt_of_block hb
  have np : v'.ownBlock ≠ some p := by
    rcases hpl with e | e
    · rw [e]; exact h7.2.1
    · intro e2; have := e p e2; omega
  have nm : v'.ownBlock ≠ some m := by
    rcases hpl with e | e
    · rw [e]; exact h7.2.2
    · intro e2; have := e m e2; omega
  refine ⟨?_, ⟨vs ++ new, ?_, by rw [List.length_append, List.length_append, hlen, hl2], ?_⟩, ⟨D, ⟨es, cl, on3.obj hb ?_, F, hz, hD⟩, h6⟩, ⟨h7.1, np, nm⟩, ?_⟩
  · have := aobj_setCell (i := 0) (on.obj h1 h7.2.1) v'
    rw [this]; rfl
  · rw [List.length_append]
    exact ownsRow_setCell_other hr np v'
  · intro i v it hv hi
    by_cases hlt : i < vs.length
    · rw [List.getElem?_append_left hlt] at hv
      rw [List.getElem?_append_left (by omega)] at hi
      exact (hvs i v it hv hi).keep on3 (fun k hk => by
        have := h8 k hk
        rintro (e | e)
        · exact this.1 e
        · exact this.2.1 e) hk
    · rw [List.getElem?_append_right (by omega)] at hv
      rw [List.getElem?_append_right (by omega), ← hlen] at hi
      exact (hnew _ v it hv hi).keep on3 (fun k hk => by
        have := hk2 k hk
        rintro (e | e)
        · exact this.2.1 e
        · exact this.2.2.1 e) (fun _ _ h => h)
  · rintro (e | e)
    · exact h7.1 e.symm
    · exact h7.2.2 e
  · intro k hk
    obtain ⟨a1, a2, a3, a4⟩ := hk2 k hk
    refine ⟨a2, ?_, a4⟩
    rcases hpl with e | e
    · rw [e]; exact a3
    · intro e2; have := e k e2; omega
/-- What an addition leaves. -/
def AddOk (w : World) (p : Nat) (sv : Value) (m : Nat) (K : Nat → Prop) (L : List It) (M : List (List UInt8 × Int)) (L2 : List It) (w' : World) : Prop :=
  ∃ v' K2, AsmAt w' p v' m K2 (L ++ L2) M ∧ Only (Own p sv m) w w' ∧ (∀ k, k < w.heap.size → Own p v' m k → Own p sv m k) ∧ (∀ k, k < w.heap.size → K2 k → K k)
end Go.Proofs.YtfbbodaapkfbdaaDoor
