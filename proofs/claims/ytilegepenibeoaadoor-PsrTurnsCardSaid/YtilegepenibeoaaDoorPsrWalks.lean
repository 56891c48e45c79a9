/- Walks of the package psr: below, windows, may. -/
import Derived.Test.YtilegepenibeoaaDoorProg
import Derived.Test.YtilegepenibeoaaDoorPsrSpec
import Derived.WalkSpells
import Derived.WalkLawsBesides
import Derived.RegionTactic
import Derived.Outline
import Derived.Deep.QuietTactic
import Derived.BigQuiet
import Derived.Handy
namespace Go.Proofs.YtilegepenibeoaaDoor
open Go.RowKit
set_option linter.unusedVariables false
set_option linter.unusedSimpArgs false
theorem phid {p : Prop} (h : p) : Hid p := h
theorem pretb {a b : Bool} (h : a = b) : Ending.returned (.bool a) = .returned (.bool b) := by rw [h]
theorem pret {k : IntKind} {a b : Int} (h : a = b) : Ending.returned (.int k a) = .returned (.int k b) := by rw [h]
theorem pret2 {k l : IntKind} {a b c d : Int} (h : a = b) (g : c = d) : Ending.returned (.tuple #[.int k a, .int l c]) = .returned (.tuple #[.int k b, .int l d]) := by rw [h, g]
theorem pbt {a b c : World} (h : Below a.heap.size a b) (k : Below b.heap.size b c) : Below a.heap.size a c := h.trans (k.mono h.size)
theorem pbal (w : World) (o : Obj) : Below w.heap.size w (w.alloc o) := (Below.refl _ _).alloc (Nat.le_refl _) _
theorem pdrew {n : Nat} {a b : World} (h : Below n a b) (k : Nat) : Below n a (b.drewN k) := h.trans ⟨rfl, rfl, rfl, Nat.le_refl _, fun _ _ => rfl⟩
set_option maxRecDepth 100000 in
set_option maxHeartbeats 1000000 in
theorem below_any (l : List Int) (m g : Nat) (hm : m ≤ 4) (hl : l.length = 2 * m) (w : World) (hc : ∀ k, k < l.length → w.cell? ⟨g, k, none⟩ = some (.int .i64 (l.getD k 0))) :
    Calls Tryd.prog 63 #[.slice (some ⟨g, 0, none⟩) l.length l.length] w fun e w' => e = .returned (.bool (belowB l m)) ∧ Below w.heap.size w w' := by
  rw [hl] at hc ⊢
  have HC := phid hc
  clear hc hl
  go_enter Tryd.func63, Tryd.ntmps63
  go_wp2_with fail
  go_loopw [3] (fun i wr => ∃ k : Nat, k ≤ m ∧ i = .int .i64 (2 * (k : Int)) ∧ belowB l k = true ∧ Below w.heap.size w wr) (fun i _ => 2 * m - (intOf i).toNat)
  case atStart => exact ⟨0, Nat.zero_le _, rfl, rfl, Below.refl _ _⟩
  case round =>
    obtain ⟨k, hk, rfl, hbk, hB⟩ := hrel
    by_cases hlt : k < m
    · have c0 := (hB.cell (p := ⟨g, 2 * k, none⟩) (World.block_lt_of_cell? _ _ (HC.out (2 * k) (by omega)))).trans (HC.out (2 * k) (by omega))
      have c1 := (hB.cell (p := ⟨g, 2 * k + 1, none⟩) (World.block_lt_of_cell? _ _ (HC.out (2 * k + 1) (by omega)))).trans (HC.out (2 * k + 1) (by omega))
      generalize ha : l.getD (2 * k) 0 = a at c0
      generalize hb : l.getD (2 * k + 1) 0 = b at c1
      have HA := phid (And.intro ha hb)
      have HK := phid hbk
      have HB := phid hB
      clear ha hb hbk hB
      have f1 : IntKind.i64.wrap (2 * (k : Int) + 1) = 2 * (k : Int) + 1 := IntWalk.i64_in _ (by omega)
      have f2 : (0 : Int) ≤ 2 * (k : Int) + 1 := by omega
      have f3 : (2 * (k : Int) + 1).toNat = 2 * k + 1 := by omega
      have f4 : (2 * (k : Int)).toNat = 2 * k := by omega
      have f5 : (0 : Int) ≤ 2 * (k : Int) := by omega
      have f6 : 2 * (k : Int) + 1 < 2 * (m : Int) := by omega
      have f7 : 2 * (k : Int) < 2 * (m : Int) := by omega
      by_cases h1 : a < 0
      · have e1 : decide (a < 0) = true := by simpa using h1
        go_wp2_with fail
        go_quiet (fail)
        go_wp2_with fail
        go_ret
        exact ⟨pretb (below_stop hlt a b HA.out.1 HA.out.2 (by omega)).symm, pdrew HB.out _⟩
      · have e1 : decide (a < 0) = false := by simpa using h1
        by_cases h2 : b ≤ a
        · have e2 : decide (b ≤ a) = true := by simpa using h2
          go_wp2_with fail
          go_quiet (fail)
          go_wp2_with fail
          go_ret
          exact ⟨pretb (below_stop hlt a b HA.out.1 HA.out.2 (by omega)).symm, pdrew HB.out _⟩
        · have e2 : decide (b ≤ a) = false := by simpa using h2
          have HS := phid ((below_step HK.out a b HA.out.1 HA.out.2).trans (decide_eq_true (by omega)))
          have f8 : IntKind.i64.wrap (2 * (k : Int) + 2) = 2 * (k : Int) + 2 := IntWalk.i64_in _ (by omega)
          go_wp2_with fail
          go_quiet (fail)
          go_wp2_with fail
          go_roundw
          case rel => exact ⟨k + 1, by omega, by go_num, HS.out, pdrew HB.out _⟩
          case measure => simp [intOf] <;> omega
    · obtain rfl : k = m := by omega
      go_wp2_with fail
      go_ret
      exact ⟨pretb hbk.symm, hB⟩
theorem windows_any (nw : Int) (w : World) : Calls Tryd.prog 57 #[.int .i64 nw] w fun e w' => e = .returned (.bool (decide (winP nw))) ∧ w = w' := by
  by_cases h1 : 2 ≤ nw
  · by_cases h2 : nw ≤ 32
    · have e1 : decide (2 ≤ nw) = true := by simpa using h1
      have e2 : decide (nw ≤ 32) = true := by simpa using h2
      have E := phid (show decide (winP nw) = true from decide_eq_true ⟨h1, h2⟩)
      clear h1 h2
      go_enter Tryd.func57, Tryd.ntmps57
      go_wp2
      go_ret
      exact ⟨pretb E.out.symm, rfl⟩
    · have e1 : decide (2 ≤ nw) = true := by simpa using h1
      have e2 : decide (nw ≤ 32) = false := by simpa using h2
      have E := phid (show decide (winP nw) = false from decide_eq_false (fun h => h2 h.2))
      clear h1 h2
      go_enter Tryd.func57, Tryd.ntmps57
      go_wp2
      go_ret
      exact ⟨pretb E.out.symm, rfl⟩
  · have e1 : decide (2 ≤ nw) = false := by simpa using h1
    have E := phid (show decide (winP nw) = false from decide_eq_false (fun h => h1 h.1))
    clear h1
    go_enter Tryd.func57, Tryd.ntmps57
    go_wp2
    go_ret
    exact ⟨pretb E.out.symm, rfl⟩
theorem below8_eq (p : Px) (hb : p.bd) (nw : Int) : belowB [p.cwp, nw, p.pil, 16, p.bank, 17, p.flags, 16] 4 = decide (pmayP p nw) := by
  obtain ⟨⟨a, _⟩, ⟨b, _⟩, ⟨c, _⟩, ⟨d, _⟩⟩ := hb
  unfold belowB
  rw [Bool.eq_iff_iff, decide_eq_true_iff]
  unfold pmayP
  simp [show List.range 4 = [0, 1, 2, 3] from rfl]
  omega
theorem below2_eq (w nw : Int) : belowB [w, nw] 1 = decide (0 ≤ w ∧ w < nw) := by
  unfold belowB
  simp [show List.range 1 = [0] from rfl]
set_option maxRecDepth 100000 in
set_option maxHeartbeats 1000000 in
theorem pmay_any (p : Px) (hb : p.bd) (nw : Int) (w : World) : Calls Tryd.prog 58 #[p.agg, .int .i64 nw] w fun e w' => e = .returned (.bool (decide (pmayP p nw))) ∧ Below w.heap.size w w' := by
  have E := phid (below8_eq p hb nw)
  obtain ⟨cwp, pil, bank, flags⟩ := p
  obtain ⟨b0, b1, b2, b3⟩ := hb
  simp only at b0 b1 b2 b3
  go_enter Tryd.func58, Tryd.ntmps58
  go_wp2_with fail
  refine (below_any [cwp, nw, pil, 16, bank, 17, flags, 16] 4 _ (by omega) rfl _ ?_).mono ?_
  · intro k hk
    have : k = 0 ∨ k = 1 ∨ k = 2 ∨ k = 3 ∨ k = 4 ∨ k = 5 ∨ k = 6 ∨ k = 7 := by simp at hk; omega
    rcases this with rfl | rfl | rfl | rfl | rfl | rfl | rfl | rfl <;> simp [go_sem]
  rw [E.out]
  rintro e w' ⟨rfl, hB⟩
  have HB := phid hB
  clear hB
  go_wp2_with fail
  go_ret
  exact ⟨rfl, pbt (pbt (pbal _ _) (pbal _ _)) HB.out⟩
end Go.Proofs.YtilegepenibeoaaDoor
