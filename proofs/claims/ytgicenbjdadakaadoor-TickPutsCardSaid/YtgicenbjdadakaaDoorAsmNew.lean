/- Walks of the package asm: New; what a function value makes. -/
import Derived.Test.YtgicenbjdadakaaDoorAsmMark
import Derived.Test.YtgicenbjdadakaaDoorInstEnc
namespace Go.Proofs.YtgicenbjdadakaaDoor
open Go.RowKit Go.Maps
set_option linter.unusedVariables false
set_option linter.unusedSimpArgs false
theorem anew_any (w : World) :
    Calls Tryd.prog 5 #[] w fun e w' => ∃ p m, e = .returned (.pointer (some ⟨p, 0, none⟩)) ∧ w.heap.size ≤ p ∧ w.heap.size ≤ m ∧ AsmAt w' p (.slice none 0 0) m (fun _ => False) [] [] ∧ Below w.heap.size w w' := by
  have hmm := @run_makeMap Tryd.prog
  go_enter Tryd.func5, Tryd.ntmps5
  go_wp2
  go_ret
  refine ⟨w.heap.size + 1, w.heap.size, rfl, by omega, by omega, ⟨?_, ⟨[], ⟨rfl, .inl ⟨rfl, rfl⟩⟩, rfl, fun i v it hv => by simp at hv⟩, ⟨.map [], ?_, MarkD.nil⟩, ⟨by omega, by simp [Value.ownBlock], by simp [Value.ownBlock]⟩, fun k hk => hk.elim⟩, ?_⟩
  · have h := (MapKept.heap_alloc (w.alloc (.map #[] 0)) (.cells #[.slice none 0 0, .map (some w.heap.size)] 46)).1
    rw [show (w.alloc (.map #[] 0)).heap.size = w.heap.size + 1 by simp] at h
    exact h
  · exact (World.ownsMap_made w _ _ _).alloc _
  · exact ((Below.refl _ _).alloc (Nat.le_refl _) _).alloc (by simp) _
/-- What was put: its word. -/
theorem aput1_any (w : World) (K : Nat → Prop) (v : Value) (x : Ix) (h : CloAt w K v (.put x)) (at' : Int) (mv : Value) (c : Nat) (hv : v = .func (.func 30) #[] #[.pointer (some ⟨c, 0, none⟩)]) (hc : w.cell? ⟨c, 0, none⟩ = some (.int .u32 (encS x))) :
    Calls Tryd.prog 30 #[.int .i64 at', mv, .pointer (some ⟨c, 0, none⟩)] w fun e w' => e = .returned (.tuple #[.int .u32 (encS x), .int .i64 0]) ∧ w = w' := by
  clear h hv
  generalize encS x = n at *
  go_enter Tryd.func30, Tryd.ntmps30
  go_wp2
  go_ret2
  exact ⟨rfl, rfl⟩
end Go.Proofs.YtgicenbjdadakaaDoor
