/- Several texts in one: MachLoad, MachLevels. -/
import Derived.Test.YtgdebchbdmogcaaGreatDoorGT
import Derived.Test.YtgdebchbdmogcaaGreatDoorGU
/- A machine of a law's own: Load, Choose, Words in the form of MachUse. No new function of the program is walked here. -/
namespace Go.Proofs.YtgdebchbdmogcaaGreatDoor
open Go.RowKit
set_option linter.unusedVariables false
set_option linter.unusedSimpArgs false
section
variable (w0 w : World) (G : MG) (M : Nat) (m : Mx) (h : MIs w0 w G M m)
include h
theorem mw_load (v : Value) (l : List Int) (hl : l.length ≤ maxLen) (hv : U32s (· = G.gB) w v l) :
    Calls Tryz.prog 27 #[.pointer (some ⟨M, 0, none⟩), v] w fun e w' => e = .returned (.int .i64 (spanE m.mem.length 0 l.length 4)) ∧ MTo w0 w w' G M { m with mem := putV m.mem 0 l } := by
  refine (mload_any w G M m h.at' v l hl hv).mono fun e w' he => ⟨he.1, h.to he.2.1 (he.2.2.mono fun k _ hk => ?_)⟩
  have e : k = G.gB := hk
  rw [e, h.at'.rg]; simp
theorem mw_choose (v : Value) (l : List Int) (hr : Reads32 w v l) (hl : l.length * 4 ≤ 140737488355328) (hw : Words l) (hnil : ∀ c n, v = .slice none n c → c = 0) :
    Calls Tryz.prog 33 #[.pointer (some ⟨M, 0, none⟩), v] w fun e w' => e = .returned (.int .i64 0) ∧ MTo w0 w w' G M { m with ch := l } := by
  refine (mchoose_any w G M m h.at' v l hr hl hw hnil).mono fun e w' he => ⟨he.1, ?_⟩
  obtain ⟨h1, ⟨G', h2, h3, h4⟩, h5⟩ := he
  have ho : Only (fun k => G.R k ≠ .none) w w' := h5.mono (fun k _ hk => by
    have e : k = M := hk
    rw [e, h.at'.rM]; simp)
  refine ⟨G', ⟨h2, fun k hk => ?_, h.bel.trans (ho.below h.bel.size (fun k hk2 hC => absurd (h.lo k hC) (by omega)))⟩, ho, fun k hk e => (h3 k hk).trans e⟩
  rcases h4 k hk with h6 | h6
  · exact h.lo k h6
  · have := h.bel.size; omega
theorem mw_words (n : Int) (hn : n ≤ 9223372036854775807) :
    Calls Tryz.prog 15 #[.pointer (some ⟨G.mB, 0, none⟩), .int .u32 0, .int .i64 n] w fun e w' => ∃ v l, e = .returned (.tuple #[v, .int .i64 (spanE m.mem.length 0 n 4)]) ∧ l = (if spanE m.mem.length 0 n 4 = 0 then wordsS m.mem 0 n.toNat else []) ∧ MRow w' G v l ∧ Below w.heap.size w w' := by
  refine (words_any w G.mB G.gB m.mem h.at'.mem 0 (by omega) (by omega) n hn).mono fun e w' he => ?_
  obtain ⟨v, l, h1, h2, h3, h4⟩ := he
  exact ⟨v, l, h1, h2, MRow.of_own h h3, h4⟩
end
end Go.Proofs.YtgdebchbdmogcaaGreatDoor
/- How an argument of type []uint8 is read. -/
namespace Go.Proofs.YtgdebchbdmogcaaGreatDoor
open Go.RowKit Go.ChangeShapes Go.WideShapes Go.ChangeAt
set_option linter.unusedVariables false
set_option linter.unusedSimpArgs false
def LevelsIn (w : World) (v : Value) (l : List Int) : Prop :=
  l.length ≤ maxLen ∧ (∀ x ∈ l, 0 ≤ x ∧ x < 256) ∧ ∃ p c b o, v = .slice p l.length c ∧ (0 < l.length → p = some ⟨b, o, none⟩) ∧ ∀ k x, l[k]? = some x → w.cell? ⟨b, o + k, none⟩ = some (.int .u8 x)
theorem LevelsIn.keepb {w w' : World} {v : Value} {l : List Int} (h : LevelsIn w v l) (hb : Below w.heap.size w w') : LevelsIn w' v l := by
  obtain ⟨h1, h2, p, c, b, o, h3, h4, h5⟩ := h
  exact ⟨h1, h2, p, c, b, o, h3, h4, fun k x hx => (hb.cell (p := ⟨b, o + k, none⟩) (World.block_lt_of_cell? _ _ (h5 k x hx))).trans (h5 k x hx)⟩
theorem trod_levels {H : Type} {enc : TypeId × Value → H} {w : World} {base : Nat} {spare : Nat → Bool} {held : Bool} {fuel : Nat} {x : DataW H × List MemPlace} {cs : List Value} (h : DataW.trod enc Tryz.prog w base spare held fuel 29 cs = some x) : ∃ v l, cs = [v] ∧ LevelsIn w v l := by
  rcases Go.Deep.open_slice Tryz.underlying29 h with ⟨rfl, _⟩ | ⟨a, len, cap, m, q, D, Pl, rfl, _, hl, hm, hmm, hx, hel⟩
  · exact ⟨_, [], rfl, by simp, fun x hx => by simp at hx, none, 0, 0, 0, rfl, fun h => by simp at h, fun k y h => by simp at h⟩
  · have hlm : len ≤ m := by rw [hmm]; split <;> omega
    have each : ∀ i, i < len → ∃ y : Int, (0 ≤ y ∧ y < 256) ∧ w.cell? (a.add i) = some (.int .u8 y) := by
      intro i hi
      obtain ⟨cs', h1, h2⟩ := hel i (by omega)
      obtain ⟨y, e, _, wf⟩ := DataW.trod_int Tryz.underlying5 h2
      subst e
      have hb := bounds_u8 wf
      rw [show Tryz.prog.cellsOf 5 = 1 from by kernel_rfl] at h1
      have := (mcells_each h1).2 0 _ rfl
      refine ⟨y, by omega, ?_⟩
      rw [Nat.mul_one] at this
      have e2 : (a.add i).add 0 = a.add i := by simp [Addr.add]
      rw [e2] at this
      exact this
    obtain ⟨l, hll, hlp⟩ := mlist_of _ len each
    subst hll
    refine ⟨_, l, rfl, by omega, fun x hx => ?_, some a, cap, ?_⟩
    · obtain ⟨k, hk⟩ := List.getElem?_of_mem hx
      exact (hlp k x hk).1
    by_cases h0 : 0 < l.length
    · obtain ⟨b, o, sp⟩ := a
      have hsp2 : sp = none := by
        have := World.cell?_spot (hlp 0 l[0] (List.getElem?_eq_getElem h0)).2
        simpa [Addr.add] using this
      subst hsp2
      refine ⟨b, o, rfl, fun _ => rfl, fun k y hy => ?_⟩
      have hc := (hlp k y hy).2
      rw [maddr_add] at hc
      exact hc
    · exact ⟨0, 0, rfl, fun h => absurd h h0, fun k y hy => by have h1 : l = [] := List.eq_nil_of_length_eq_zero (by omega); rw [h1] at hy; simp at hy⟩
set_option maxRecDepth 100000 in
theorem open_levels {H : Type} {enc : TypeId × Value → H} {W : World} {base b : Nat} {spare : Nat → Bool} {held : Bool} {r : Reach} {v : Value} {d : DataW H} {p : List MemPlace} (hv : Value.okWide Tryz.prog W r b 29 v) (h : DataW.Trod enc Tryz.prog W base spare held 29 v d p) :
    ∃ l, LevelsIn W v l := by
  obtain ⟨a, len, cap, rfl⟩ := okWide_slice Tryz.underlying29 hv
  obtain ⟨m, hm⟩ := h
  obtain ⟨v, l, e, r⟩ := trod_levels (by simpa [Value.cells] using hm)
  simp only [List.cons.injEq, and_true] at e
  rw [e]
  exact ⟨l, r⟩
end Go.Proofs.YtgdebchbdmogcaaGreatDoor
