/- A machine of a law's own: Load, Choose, Words in the form of MachUse. No new function of the program is walked here. -/
import Derived.Test.YtacfdddghdnboaaGreatDoorGT
namespace Go.Proofs.YtacfdddghdnboaaGreatDoor
open Go.RowKit
set_option linter.unusedVariables false
set_option linter.unusedSimpArgs false
section
variable (w0 w : World) (G : MG) (M : Nat) (m : Mx) (h : MIs w0 w G M m)
include h
theorem mw_load (v : Value) (l : List Int) (hl : l.length ≤ maxLen) (hv : U32s (· = G.gB) w v l) :
    Calls Tryz.prog 32 #[.pointer (some ⟨M, 0, none⟩), v] w fun e w' => e = .returned (.int .i64 (spanE m.mem.length 0 l.length 4)) ∧ MTo w0 w w' G M { m with mem := putV m.mem 0 l } := by
  refine (mload_any w G M m h.at' v l hl hv).mono fun e w' he => ⟨he.1, h.to he.2.1 (he.2.2.mono fun k _ hk => ?_)⟩
  have e : k = G.gB := hk
  rw [e, h.at'.rg]; simp
theorem mw_choose (v : Value) (l : List Int) (hr : Reads32 w v l) (hl : l.length * 4 ≤ 140737488355328) (hw : Words l) (hnil : ∀ c n, v = .slice none n c → c = 0) :
    Calls Tryz.prog 33 #[.pointer (some ⟨M, 0, none⟩), v] w fun e w' => e = .returned (.int .i64 0) ∧ MTo w0 w w' G M { m with ch := l } := by
  refine (mchoose_any w G M m h.at' v l hr hl hw hnil).mono fun e w' he => ⟨he.1, ?_⟩
  obtain ⟨h1, ⟨G', h2, h3, h4⟩, h5⟩ := he
  have ho : Only (fun k => G.R k ≠ .none) w w' := h5.mono (fun k _ hk => by
    have e : k = M := hk
    rw [e, h.at'.rM]; simp)
  refine ⟨G', ⟨h2, fun k hk => ?_, h.bel.trans (ho.below h.bel.size (fun k hk2 hC => absurd (h.lo k hC) (by omega)))⟩, ho, fun k hk e => (h3 k hk).trans e⟩
  rcases h4 k hk with h6 | h6
  · exact h.lo k h6
  · have := h.bel.size; omega
theorem mw_words (n : Int) (hn : n ≤ 9223372036854775807) :
    Calls Tryz.prog 29 #[.pointer (some ⟨G.mB, 0, none⟩), .int .u32 0, .int .i64 n] w fun e w' => ∃ v l, e = .returned (.tuple #[v, .int .i64 (spanE m.mem.length 0 n 4)]) ∧ l = (if spanE m.mem.length 0 n 4 = 0 then wordsS m.mem 0 n.toNat else []) ∧ MRow w' G v l ∧ Below w.heap.size w w' := by
  refine (words_any w G.mB G.gB m.mem h.at'.mem 0 (by omega) (by omega) n hn).mono fun e w' he => ?_
  obtain ⟨v, l, h1, h2, h3, h4⟩ := he
  exact ⟨v, l, h1, h2, MRow.of_own h h3, h4⟩
end
end Go.Proofs.YtacfdddghdnboaaGreatDoor
