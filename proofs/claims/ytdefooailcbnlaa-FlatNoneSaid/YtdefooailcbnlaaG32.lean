/- slices.Clone at functions, blocks, instructions. -/
import Derived.Test.YtdefooailcbnlaaG29
import Derived.Test.YtdefooailcbnlaaG31
namespace Go.Proofs.Ytdefooailcbnlaa
open Go.RowKit
set_option linter.unusedVariables false
set_option linter.unusedSimpArgs false
set_option maxRecDepth 100000 in
set_option maxHeartbeats 2000000 in
theorem fclone_any (w : World) (b o c : Nat) (l : List Fnx) (hl : l.length * 56 ≤ 140737488352000) (h : ∀ (k : Nat) x, l[k]? = some x → FnAt w b (o + k * 4) x) :
    Calls Try.prog 39 #[.slice (some ⟨b, o, none⟩) l.length c] w fun e w' => ∃ g c', e = .returned (.slice (some ⟨g, 0, none⟩) l.length c') ∧ w.heap.size ≤ g ∧ VRow w' g 41 (rowCells w b o (l.length * 4)) ∧ Below w.heap.size w w' := by
  obtain ⟨i1, z1, hi, hz, hsz, hby, hzc⟩ := info3_parts infofn3
  obtain ⟨hn1, hn2⟩ := rowCells_news flat_fn h
  have q22 : ∀ (w : World) (a : Option Addr) (n c n' c' : Nat), (binOp .eql 23 (.slice a n c) (.slice none n' c')).run Try.prog w = .ok (.bool a.isNone) w := fun w a n c n' c' => Lib.run_eql_slice_nil w _ _ a n c n' c' Try.underlying23
  have HN := fhid (And.intro hn1 hn2)
  have hln := rowCells_length w b o (l.length * 4)
  generalize rowCells w b o (l.length * 4) = news at *
  clear hn1 hn2 h
  go_enter Try.func39, Try.ntmps39
  go_wp2_with (at_builtin; refine wpList_append_own _ rfl _ _ 23 rfl w.heap.size 41 i1 z1 4 56 Try.underlying23 hi hz hsz hby hzc (by decide) (.slice (some ⟨w.heap.size, 0, none⟩) 0 0) _ _ rfl (World.ownsRow_made w #[] 0 (Nat.le_refl _) (Nat.zero_le _) (by simp)) ⟨b, o, none⟩ l.length c news rfl hln (fun j u hj => by
      have e : (⟨b, o, none⟩ : Addr).add j = ⟨b, o + j, none⟩ := by unfold Addr.add; split <;> simp [*]
      rw [e, World.cell?_alloc_lt]
      · exact HN.out.1 j u hj
      · exact World.block_lt_of_cell? _ _ (HN.out.1 j u hj)) HN.out.2 (by unfold maxLen; omega) (by omega) (by simp) ?_; intro v' w1 hown hgrow hnil; rw [Nat.zero_add, List.nil_append] at hown)
  have HNN := fhid (show v' ≠ .slice none 0 0 from fun h => by have := (hnil.1 h).1; cases this)
  clear hnil
  go_wp2
  go_ret
  obtain ⟨g, cap, rfl, hg, _, hv⟩ := VRow.of_own' hown HNN.out
  exact ⟨g, cap, rfl, hg, hv, ((Below.refl _ w).alloc (Nat.le_refl _) _).grown hgrow (by simp) (by intro k hk; simp [Value.ownBlock] at hk; omega)⟩
set_option maxRecDepth 100000 in
set_option maxHeartbeats 2000000 in
theorem bclone_any (w : World) (b o c : Nat) (l : List Blk) (hl : l.length * 40 ≤ 140737488352000) (h : ∀ (k : Nat) x, l[k]? = some x → BlkAt w b (o + k * 2) x) :
    Calls Try.prog 40 #[.slice (some ⟨b, o, none⟩) l.length c] w fun e w' => ∃ g c', e = .returned (.slice (some ⟨g, 0, none⟩) l.length c') ∧ w.heap.size ≤ g ∧ VRow w' g 46 (rowCells w b o (l.length * 2)) ∧ Below w.heap.size w w' := by
  obtain ⟨i1, z1, hi, hz, hsz, hby, hzc⟩ := info3_parts infoblk3
  obtain ⟨hn1, hn2⟩ := rowCells_news flat_blk h
  have q22 : ∀ (w : World) (a : Option Addr) (n c n' c' : Nat), (binOp .eql 39 (.slice a n c) (.slice none n' c')).run Try.prog w = .ok (.bool a.isNone) w := fun w a n c n' c' => Lib.run_eql_slice_nil w _ _ a n c n' c' Try.underlying39
  have HN := fhid (And.intro hn1 hn2)
  have hln := rowCells_length w b o (l.length * 2)
  generalize rowCells w b o (l.length * 2) = news at *
  clear hn1 hn2 h
  go_enter Try.func40, Try.ntmps40
  go_wp2_with (at_builtin; refine wpList_append_own _ rfl _ _ 39 rfl w.heap.size 46 i1 z1 2 40 Try.underlying39 hi hz hsz hby hzc (by decide) (.slice (some ⟨w.heap.size, 0, none⟩) 0 0) _ _ rfl (World.ownsRow_made w #[] 0 (Nat.le_refl _) (Nat.zero_le _) (by simp)) ⟨b, o, none⟩ l.length c news rfl hln (fun j u hj => by
      have e : (⟨b, o, none⟩ : Addr).add j = ⟨b, o + j, none⟩ := by unfold Addr.add; split <;> simp [*]
      rw [e, World.cell?_alloc_lt]
      · exact HN.out.1 j u hj
      · exact World.block_lt_of_cell? _ _ (HN.out.1 j u hj)) HN.out.2 (by unfold maxLen; omega) (by omega) (by simp) ?_; intro v' w1 hown hgrow hnil; rw [Nat.zero_add, List.nil_append] at hown)
  have HNN := fhid (show v' ≠ .slice none 0 0 from fun h => by have := (hnil.1 h).1; cases this)
  clear hnil
  go_wp2
  go_ret
  obtain ⟨g, cap, rfl, hg, _, hv⟩ := VRow.of_own' hown HNN.out
  exact ⟨g, cap, rfl, hg, hv, ((Below.refl _ w).alloc (Nat.le_refl _) _).grown hgrow (by simp) (by intro k hk; simp [Value.ownBlock] at hk; omega)⟩
set_option maxRecDepth 100000 in
set_option maxHeartbeats 2000000 in
theorem nclone_any (w : World) (b o c : Nat) (l : List Insx) (hl : l.length * 88 ≤ 140737488352000) (h : ∀ (k : Nat) x, l[k]? = some x → InsxAt w b (o + k * 9) x) :
    Calls Try.prog 41 #[.slice (some ⟨b, o, none⟩) l.length c] w fun e w' => ∃ g c', e = .returned (.slice (some ⟨g, 0, none⟩) l.length c') ∧ w.heap.size ≤ g ∧ VRow w' g 44 (rowCells w b o (l.length * 9)) ∧ Below w.heap.size w w' := by
  obtain ⟨i1, z1, hi, hz, hsz, hby, hzc⟩ := info3_parts infoins3
  obtain ⟨hn1, hn2⟩ := rowCells_news flat_ins h
  have q22 : ∀ (w : World) (a : Option Addr) (n c n' c' : Nat), (binOp .eql 42 (.slice a n c) (.slice none n' c')).run Try.prog w = .ok (.bool a.isNone) w := fun w a n c n' c' => Lib.run_eql_slice_nil w _ _ a n c n' c' Try.underlying42
  have HN := fhid (And.intro hn1 hn2)
  have hln := rowCells_length w b o (l.length * 9)
  generalize rowCells w b o (l.length * 9) = news at *
  clear hn1 hn2 h
  go_enter Try.func41, Try.ntmps41
  go_wp2_with (at_builtin; refine wpList_append_own _ rfl _ _ 42 rfl w.heap.size 44 i1 z1 9 88 Try.underlying42 hi hz hsz hby hzc (by decide) (.slice (some ⟨w.heap.size, 0, none⟩) 0 0) _ _ rfl (World.ownsRow_made w #[] 0 (Nat.le_refl _) (Nat.zero_le _) (by simp)) ⟨b, o, none⟩ l.length c news rfl hln (fun j u hj => by
      have e : (⟨b, o, none⟩ : Addr).add j = ⟨b, o + j, none⟩ := by unfold Addr.add; split <;> simp [*]
      rw [e, World.cell?_alloc_lt]
      · exact HN.out.1 j u hj
      · exact World.block_lt_of_cell? _ _ (HN.out.1 j u hj)) HN.out.2 (by unfold maxLen; omega) (by omega) (by simp) ?_; intro v' w1 hown hgrow hnil; rw [Nat.zero_add, List.nil_append] at hown)
  have HNN := fhid (show v' ≠ .slice none 0 0 from fun h => by have := (hnil.1 h).1; cases this)
  clear hnil
  go_wp2
  go_ret
  obtain ⟨g, cap, rfl, hg, _, hv⟩ := VRow.of_own' hown HNN.out
  exact ⟨g, cap, rfl, hg, hv, ((Below.refl _ w).alloc (Nat.le_refl _) _).grown hgrow (by simp) (by intro k hk; simp [Value.ownBlock] at hk; omega)⟩
end Go.Proofs.Ytdefooailcbnlaa
