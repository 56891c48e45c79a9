/- Several texts in one: BootWords, BootNew, BootRef, BootHead, BootNone. -/
import Derived.Test.YtkejnhleajfcjaaGreatDoorGP
import Derived.Test.YtkejnhleajfcjaaGreatDoorGD
/- Walks of the package boot: Words, Start; slices.Clone at words. -/
namespace Go.Proofs.YtkejnhleajfcjaaGreatDoor
open Go.RowKit
set_option linter.unusedVariables false
set_option linter.unusedSimpArgs false
attribute [local irreducible] bootW bootN Bs.boot
theorem bclone_any (w : World) {base : Nat} {v : Value} {l : List Int} (h : w.ownsRow base 23 1 v l.length (u32s l)) (h0 : 0 < l.length) (hl : l.length ≤ 1048576) : Calls Tryz.prog 85 #[v] w fun e w' => ∃ v', e = .returned v' ∧ w'.ownsRow w.heap.size 23 1 v' l.length (u32s l) ∧ Below w.heap.size w w' := by
  obtain ⟨i0, hi, hz0, hz1, hz2⟩ := info_parts infou32
  obtain ⟨g, c, rfl, -, -⟩ := h.form h0
  have q22 : ∀ (w : World) (a : Option Addr) (n c n' c' : Nat), (binOp .eql 30 (.slice a n c) (.slice none n' c')).run Tryz.prog w = .ok (.bool a.isNone) w := fun w a n c n' c' => Lib.run_eql_slice_nil w _ _ a n c n' c' Tryz.underlying30
  have HCl := ahid (h.cells rfl)
  clear h
  go_enter Tryz.func85, Tryz.ntmps85
  go_wp2_with (at_builtin; refine wpList_append_own _ rfl _ _ 30 rfl w.heap.size 23 i0 _ 1 4 Tryz.underlying30 hi hz0 hz1 hz2 rfl (by decide) (.slice (some ⟨w.heap.size, 0, none⟩) 0 0) _ _ rfl (World.ownsRow_made w #[] 0 (Nat.le_refl _) (Nat.zero_le _) (by simp)) ⟨g, 0, none⟩ l.length c (u32s l) rfl (by simp [u32s]) (fun j u hj => by rw [World.cell?_alloc_lt]; exact HCl.out j u hj; exact World.block_lt_of_cell? _ _ (HCl.out j u hj)) (fun u hu => by simp only [u32s, List.mem_map] at hu; obtain ⟨x, _, rfl⟩ := hu; rfl) (by unfold maxLen; omega) (by omega) (by simp) ?_; intro v' w1 hown hgrow hnil; rw [Nat.zero_add, List.nil_append] at hown)
  go_wp2
  go_ret
  exact ⟨v', rfl, hown, ((Below.refl _ w).alloc (Nat.le_refl _) _).grown hgrow (by simp) (by intro k hk; simp [Value.ownBlock] at hk; omega)⟩
def kitL (nw : Nat) : List Int := List.replicate 64 0 ++ bootW nw
theorem kit_len (nw : Nat) : (kitL nw).length = 64 + (bootW nw).length := by unfold kitL; rw [List.length_append, List.length_replicate]
theorem OfOk.cell {w w' : World} {kb : Nat} {f f' : Nat → Option Value} {n n' : Int} {nw : Nat} (h : OfOk w w' kb f f' n n' nw) (hk : nw < 33) :
    ∃ v, w'.cell? ⟨kb, 5 * nw + 3, none⟩ = some v ∧ w'.cell? ⟨kb, 5 * nw + 4, none⟩ = some (.int .u32 (256 + 4 * bootN nw)) ∧ w'.ownsRow (kb + 1) 23 1 v (kitL nw).length (u32s (kitL nw)) := by
  obtain ⟨v, hv⟩ := h.now
  obtain ⟨cs, hr, hsz, h5, -, -⟩ := h.kit.row
  have h5 := h5 nw hk
  rw [hv] at h5
  have ho := h.kit.own nw v hk hv
  rw [kit_len]
  exact ⟨v, row_cell hr h5.2.2.1, row_cell hr h5.2.2.2, ho⟩
set_option maxRecDepth 100000 in
theorem kwords_any {w0 : Nat} {w : World} {kb : Nat} {f : Nat → Option Value} {n : Int} (h : KitAt w kb f n) (ht : TabLo w0 w) (hkb : w0 ≤ kb) (hn : n < 900) {nw : Nat} (h2 : 2 ≤ nw) (h32 : nw ≤ 32) :
    Calls Tryz.prog 32 #[.pointer (some ⟨kb, 0, none⟩), .int .i64 (nw : Int)] w fun e w' => ∃ u f' n' w1, e = .returned (.tuple #[u, .int .i64 0]) ∧ OfOk w w1 kb f f' n n' nw ∧ Below w1.heap.size w1 w' ∧ w'.ownsRow w1.heap.size 23 1 u (kitL nw).length (u32s (kitL nw)) := by
  have HO := ahid (of_any h ht hkb hn h2 h32)
  have HL := ahid (show 0 < (kitL nw).length ∧ (kitL nw).length ≤ 1048576 from by rw [kit_len]; have := (boot_is h2 h32).l; omega)
  clear h ht
  go_enter Tryz.func32, Tryz.ntmps32
  go_wp2_with fail
  refine HO.out.mono ?_
  rintro e w1 ⟨rfl, f', n', hok⟩
  obtain ⟨v, c3, c4, hown⟩ := hok.cell (by omega)
  have HK := ahid hok
  have HC := ahid (bclone_any w1 hown HL.out.1 HL.out.2)
  clear hok c4 hown
  go_wp2_with fail
  refine HC.out.mono ?_
  rintro e w2 ⟨u, rfl, hu, hb⟩
  have HU := ahid (And.intro hu hb)
  clear hu hb
  go_wp2_with fail
  go_ret2
  exact ⟨_, f', n', w1, rfl, HK.out, HU.out.2, HU.out.1⟩
theorem kstart_any {w0 : Nat} {w : World} {kb : Nat} {f : Nat → Option Value} {n : Int} (h : KitAt w kb f n) (ht : TabLo w0 w) (hkb : w0 ≤ kb) (hn : n < 900) {nw : Nat} (h2 : 2 ≤ nw) (h32 : nw ≤ 32) :
    Calls Tryz.prog 35 #[.pointer (some ⟨kb, 0, none⟩), .int .i64 (nw : Int)] w fun e w' => e = .returned (.tuple #[.int .u32 (256 + 4 * bootN nw), .int .i64 0]) ∧ ∃ f' n', OfOk w w' kb f f' n n' nw := by
  have HO := ahid (of_any h ht hkb hn h2 h32)
  clear h ht
  go_enter Tryz.func35, Tryz.ntmps35
  go_wp2_with fail
  refine HO.out.mono ?_
  rintro e w1 ⟨rfl, f', n', hok⟩
  obtain ⟨v, c3, c4, hown⟩ := hok.cell (by omega)
  have HK := ahid hok
  clear hok c3 hown
  go_wp2_with fail
  go_ret2
  exact ⟨rfl, f', n', HK.out⟩
/-- An error of of: no words, no start. -/
theorem kwords_no {w : World} {a : Value} {nw e0 : Int} (he : e0 = 1 ∨ e0 = 2) (ho : Calls Tryz.prog 111 #[a, .int .i64 nw] w fun e w' => e = .returned (.tuple #[.pointer none, .int .i64 e0]) ∧ Below w.heap.size w w') :
    Calls Tryz.prog 32 #[a, .int .i64 nw] w fun e w' => e = .returned (.tuple #[.slice none 0 0, .int .i64 e0]) ∧ Below w.heap.size w w' := by
  have HO := ahid ho
  clear ho
  rcases he with rfl | rfl
  all_goals
    go_enter Tryz.func32, Tryz.ntmps32
    go_wp2_with fail
    refine HO.out.mono ?_
    rintro e w1 ⟨rfl, hb⟩
    have HB := ahid hb
    clear hb
    go_wp2_with fail
    go_ret2
    exact ⟨rfl, HB.out⟩
theorem kstart_no {w : World} {a : Value} {nw e0 : Int} (he : e0 = 1 ∨ e0 = 2) (ho : Calls Tryz.prog 111 #[a, .int .i64 nw] w fun e w' => e = .returned (.tuple #[.pointer none, .int .i64 e0]) ∧ Below w.heap.size w w') :
    Calls Tryz.prog 35 #[a, .int .i64 nw] w fun e w' => e = .returned (.tuple #[.int .u32 0, .int .i64 e0]) ∧ Below w.heap.size w w' := by
  have HO := ahid ho
  clear ho
  rcases he with rfl | rfl
  all_goals
    go_enter Tryz.func35, Tryz.ntmps35
    go_wp2_with fail
    refine HO.out.mono ?_
    rintro e w1 ⟨rfl, hb⟩
    have HB := ahid hb
    clear hb
    go_wp2_with fail
    go_ret2
    exact ⟨rfl, HB.out⟩
end Go.Proofs.YtkejnhleajfcjaaGreatDoor
/- Walk of the package boot: New. -/
namespace Go.Proofs.YtkejnhleajfcjaaGreatDoor
open Go.RowKit
set_option linter.unusedVariables false
set_option linter.unusedSimpArgs false
noncomputable def newCells : Array Value := Tryz.zeroCells95.setIfInBounds 166 (.bool true)
theorem new_run0 : Run5 newCells 0 none := ⟨by kernel_rfl, by kernel_rfl, by kernel_rfl, by kernel_rfl⟩
theorem new_run1 : Run5 newCells 1 none := ⟨by kernel_rfl, by kernel_rfl, by kernel_rfl, by kernel_rfl⟩
theorem new_run2 : Run5 newCells 2 none := ⟨by kernel_rfl, by kernel_rfl, by kernel_rfl, by kernel_rfl⟩
theorem new_run3 : Run5 newCells 3 none := ⟨by kernel_rfl, by kernel_rfl, by kernel_rfl, by kernel_rfl⟩
theorem new_run4 : Run5 newCells 4 none := ⟨by kernel_rfl, by kernel_rfl, by kernel_rfl, by kernel_rfl⟩
theorem new_run5 : Run5 newCells 5 none := ⟨by kernel_rfl, by kernel_rfl, by kernel_rfl, by kernel_rfl⟩
theorem new_run6 : Run5 newCells 6 none := ⟨by kernel_rfl, by kernel_rfl, by kernel_rfl, by kernel_rfl⟩
theorem new_run7 : Run5 newCells 7 none := ⟨by kernel_rfl, by kernel_rfl, by kernel_rfl, by kernel_rfl⟩
theorem new_run8 : Run5 newCells 8 none := ⟨by kernel_rfl, by kernel_rfl, by kernel_rfl, by kernel_rfl⟩
theorem new_run9 : Run5 newCells 9 none := ⟨by kernel_rfl, by kernel_rfl, by kernel_rfl, by kernel_rfl⟩
theorem new_run10 : Run5 newCells 10 none := ⟨by kernel_rfl, by kernel_rfl, by kernel_rfl, by kernel_rfl⟩
theorem new_run11 : Run5 newCells 11 none := ⟨by kernel_rfl, by kernel_rfl, by kernel_rfl, by kernel_rfl⟩
theorem new_run12 : Run5 newCells 12 none := ⟨by kernel_rfl, by kernel_rfl, by kernel_rfl, by kernel_rfl⟩
theorem new_run13 : Run5 newCells 13 none := ⟨by kernel_rfl, by kernel_rfl, by kernel_rfl, by kernel_rfl⟩
theorem new_run14 : Run5 newCells 14 none := ⟨by kernel_rfl, by kernel_rfl, by kernel_rfl, by kernel_rfl⟩
theorem new_run15 : Run5 newCells 15 none := ⟨by kernel_rfl, by kernel_rfl, by kernel_rfl, by kernel_rfl⟩
theorem new_run16 : Run5 newCells 16 none := ⟨by kernel_rfl, by kernel_rfl, by kernel_rfl, by kernel_rfl⟩
theorem new_run17 : Run5 newCells 17 none := ⟨by kernel_rfl, by kernel_rfl, by kernel_rfl, by kernel_rfl⟩
theorem new_run18 : Run5 newCells 18 none := ⟨by kernel_rfl, by kernel_rfl, by kernel_rfl, by kernel_rfl⟩
theorem new_run19 : Run5 newCells 19 none := ⟨by kernel_rfl, by kernel_rfl, by kernel_rfl, by kernel_rfl⟩
theorem new_run20 : Run5 newCells 20 none := ⟨by kernel_rfl, by kernel_rfl, by kernel_rfl, by kernel_rfl⟩
theorem new_run21 : Run5 newCells 21 none := ⟨by kernel_rfl, by kernel_rfl, by kernel_rfl, by kernel_rfl⟩
theorem new_run22 : Run5 newCells 22 none := ⟨by kernel_rfl, by kernel_rfl, by kernel_rfl, by kernel_rfl⟩
theorem new_run23 : Run5 newCells 23 none := ⟨by kernel_rfl, by kernel_rfl, by kernel_rfl, by kernel_rfl⟩
theorem new_run24 : Run5 newCells 24 none := ⟨by kernel_rfl, by kernel_rfl, by kernel_rfl, by kernel_rfl⟩
theorem new_run25 : Run5 newCells 25 none := ⟨by kernel_rfl, by kernel_rfl, by kernel_rfl, by kernel_rfl⟩
theorem new_run26 : Run5 newCells 26 none := ⟨by kernel_rfl, by kernel_rfl, by kernel_rfl, by kernel_rfl⟩
theorem new_run27 : Run5 newCells 27 none := ⟨by kernel_rfl, by kernel_rfl, by kernel_rfl, by kernel_rfl⟩
theorem new_run28 : Run5 newCells 28 none := ⟨by kernel_rfl, by kernel_rfl, by kernel_rfl, by kernel_rfl⟩
theorem new_run29 : Run5 newCells 29 none := ⟨by kernel_rfl, by kernel_rfl, by kernel_rfl, by kernel_rfl⟩
theorem new_run30 : Run5 newCells 30 none := ⟨by kernel_rfl, by kernel_rfl, by kernel_rfl, by kernel_rfl⟩
theorem new_run31 : Run5 newCells 31 none := ⟨by kernel_rfl, by kernel_rfl, by kernel_rfl, by kernel_rfl⟩
theorem new_run32 : Run5 newCells 32 none := ⟨by kernel_rfl, by kernel_rfl, by kernel_rfl, by kernel_rfl⟩
theorem new_run : ∀ k : Nat, k < 33 → Run5 newCells k none
  | 0, _ => new_run0
  | 1, _ => new_run1
  | 2, _ => new_run2
  | 3, _ => new_run3
  | 4, _ => new_run4
  | 5, _ => new_run5
  | 6, _ => new_run6
  | 7, _ => new_run7
  | 8, _ => new_run8
  | 9, _ => new_run9
  | 10, _ => new_run10
  | 11, _ => new_run11
  | 12, _ => new_run12
  | 13, _ => new_run13
  | 14, _ => new_run14
  | 15, _ => new_run15
  | 16, _ => new_run16
  | 17, _ => new_run17
  | 18, _ => new_run18
  | 19, _ => new_run19
  | 20, _ => new_run20
  | 21, _ => new_run21
  | 22, _ => new_run22
  | 23, _ => new_run23
  | 24, _ => new_run24
  | 25, _ => new_run25
  | 26, _ => new_run26
  | 27, _ => new_run27
  | 28, _ => new_run28
  | 29, _ => new_run29
  | 30, _ => new_run30
  | 31, _ => new_run31
  | 32, _ => new_run32
  | n + 33, h => absurd h (by omega)
theorem new_rest : newCells.size = 167 ∧ newCells[165]? = some (.int .i32 0) ∧ newCells[166]? = some (.bool true) := ⟨by kernel_rfl, by kernel_rfl, by kernel_rfl⟩
set_option maxRecDepth 100000 in
theorem bnew_any (w : World) : Calls Tryz.prog 31 #[] w fun e w' => e = .returned (.pointer (some ⟨w.heap.size, 0, none⟩)) ∧ KitAt w' w.heap.size (fun _ => none) 0 ∧ Below w.heap.size w w' := by
  go_enter Tryz.func31, Tryz.ntmps31
  go_wp2_with fail
  go_ret
  refine ⟨rfl, ⟨⟨_, (by show (w.heap.push _)[w.heap.size]? = _; simp only [Array.getElem?_push_size]; rfl), ?_, ?_, ?_, ?_⟩, ?_, ?_⟩, (Below.refl _ w).alloc (Nat.le_refl _) _⟩
  · exact new_rest.1
  · exact new_run
  · exact new_rest.2.1
  · exact new_rest.2.2
  · intro k v _ hv
    cases hv
  · omega
end Go.Proofs.YtkejnhleajfcjaaGreatDoor
/- Walks of muntinref11 and muntinlaw11: Types, has. -/
namespace Go.Proofs.YtkejnhleajfcjaaGreatDoor
open Go.RowKit
set_option linter.unusedVariables false
set_option linter.unusedSimpArgs false
def typP (k : Int) : Prop := (1 ≤ k ∧ k ≤ 4) ∨ (17 ≤ k ∧ k ≤ 31)
instance (k : Int) : Decidable (typP k) := by unfold typP; infer_instance
theorem rtypes_any (k : Int) (w : World) : Calls Tryz.prog 38 #[.int .i64 k] w fun e w' => e = .returned (.bool (decide (typP k))) ∧ w = w' := by
  by_cases h1 : 1 ≤ k <;> by_cases h2 : k ≤ 4 <;> by_cases h3 : 17 ≤ k <;> by_cases h4 : k ≤ 31 <;> first | (exfalso; omega) | skip
  all_goals
    first
      | rw [decide_eq_true (show typP k from by unfold typP; omega)]
      | rw [decide_eq_false (show ¬ typP k from by unfold typP; omega)]
    go_enter Tryz.func38, Tryz.ntmps38
    go_wp2_with fail
    go_ret
    exact ⟨rfl, rfl⟩
end Go.Proofs.YtkejnhleajfcjaaGreatDoor
/- Walk of muntinlaw11: head. -/
namespace Go.Proofs.YtkejnhleajfcjaaGreatDoor
open Go.RowKit
set_option linter.unusedVariables false
set_option linter.unusedSimpArgs false
theorem kit2 : 192 < (kitL 2).length ∧ (kitL 2).length ≤ 450 ∧ (kitL 2)[0]? = some 0 ∧ (kitL 2)[64]? = some 2147483648 ∧ (kitL 2)[68]? = some 1140850812 := of_decide_eq_true (by kernel_rfl)
attribute [local irreducible] bootW bootN Bs.boot kitL
theorem KitAt.many {w : World} {kb : Nat} {f : Nat → Option Value} {n : Int} (h : KitAt w kb f n) : w.cell? ⟨kb, 165, none⟩ = some (.int .i32 n) := by
  obtain ⟨cs, hr, hsz, h5, h165, h166⟩ := h.row
  exact row_cell hr h165
/-- A kit under way: its table, its block. -/
structure KAt (B : Nat) (w : World) (kb : Nat) (f : Nat → Option Value) (n : Int) : Prop where
  kit : KitAt w kb f n
  tab : TabLo B w
  lo : B ≤ kb
theorem KAt.keepb {B : Nat} {w w' : World} {kb : Nat} {f : Nat → Option Value} {n : Int} (h : KAt B w kb f n) (hb : Below w.heap.size w w') : KAt B w' kb f n := ⟨kit_below h.kit hb, h.tab.keepb hb, h.lo⟩
theorem KAt.step {B : Nat} {w w' : World} {kb : Nat} {f f' : Nat → Option Value} {n n' : Int} {nw : Nat} (h : KAt B w kb f n) (ok : OfOk w w' kb f f' n n' nw) : KAt B w' kb f' n' := ⟨ok.kit, h.tab.keepO ok.only (fun k hk => by rw [hk]; exact h.lo), h.lo⟩
set_option maxRecDepth 100000 in
set_option maxHeartbeats 1000000 in
theorem bhead_any (w : World) (ht : Tab w) : Calls Tryz.prog 13 #[] w fun e w' => e = .returned (.bool true) ∧ Below w.heap.size w w' := by
  have HT := ahid ht
  clear ht
  go_enter Tryz.func13, Tryz.ntmps13
  go_wp2_with fail
  refine (bnew_any w).mono ?_
  rintro e w1 ⟨rfl, hk1, hb1⟩
  have K1 := ahid (show KAt w.heap.size w1 w.heap.size (fun _ => none) 0 from ⟨hk1, TabLo.start HT.out hb1, Nat.le_refl _⟩)
  have B1 := ahid hb1
  clear hk1 hb1
  go_wp2_with fail
  refine (kwords_any K1.out.kit K1.out.tab K1.out.lo (by omega) (nw := 2) (by omega) (by omega)).mono ?_
  rintro e w3 ⟨u1, f1, n1, w2, rfl, ok1, hb3, hu1⟩
  have hn1 : n1 = 1 := by have := ok1.cnt; simpa using this
  subst hn1
  have K3 := ahid ((K1.out.step ok1).keepb hb3)
  have hs1 : f1 2 ≠ none := by obtain ⟨v, hv⟩ := ok1.now; rw [hv]; simp
  have hs3 : f1 3 = none := ok1.els 3 (by omega)
  have O3 := ahid (ok1.only.trans (Only.of_below (S := fun k => k = w.heap.size) hb3))
  have hlt2 : w.heap.size < w2.heap.size := Nat.lt_of_lt_of_le (World.block_lt_of_cell? _ _ K1.out.kit.many) ok1.only.size
  have U1 := ahid hu1
  clear ok1 hb3 hu1
  go_wp2_with fail
  refine (kwords_any K3.out.kit K3.out.tab K3.out.lo (by omega) (nw := 2) (by omega) (by omega)).mono ?_
  rintro e w5 ⟨u2, f2, n2, w4, rfl, ok2, hb5, hu2⟩
  have hn2 : n2 = 1 := by have := ok2.cnt; rw [if_neg hs1] at this; simpa using this
  subst hn2
  have K5 := ahid ((K3.out.step ok2).keepb hb5)
  have hs4 : f2 3 = none := (ok2.els 3 (by omega)).trans hs3
  have O5 := ahid (O3.out.trans (ok2.only.trans (Only.of_below (S := fun k => k = w.heap.size) hb5)))
  have U1 := ahid (own_only U1.out hlt2 (ok2.only.trans (Only.of_below (S := fun k => k = w.heap.size) hb5)))
  have hlt4 : w.heap.size < w4.heap.size := Nat.lt_of_lt_of_le (World.block_lt_of_cell? _ _ K3.out.kit.many) ok2.only.size
  have U2 := ahid hu2
  clear ok2 hb5 hu2
  go_wp2_with fail
  refine (kstart_any K5.out.kit K5.out.tab K5.out.lo (by omega) (nw := 3) (by omega) (by omega)).mono ?_
  rintro e w6 ⟨rfl, f3, n3, ok3⟩
  have hn3 : n3 = 2 := by have := ok3.cnt; rw [if_pos hs4] at this; simpa using this
  subst hn3
  have K6 := ahid (K5.out.step ok3)
  have O6 := ahid (O5.out.trans ok3.only)
  have U1 := ahid (own_only U1.out hlt2 ok3.only)
  have U2 := ahid (own_only U2.out hlt4 ok3.only)
  clear ok3
  go_wp2_with fail
  refine (kwords_no (.inr rfl) (of_bad K6.out.kit (nw := 1) (by omega))).mono ?_
  rintro e w7 ⟨rfl, hb7⟩
  have K7 := ahid (K6.out.keepb hb7)
  have O7 := ahid (O6.out.trans (Only.of_below (S := fun k => k = w.heap.size) hb7))
  have U1 := ahid (own_only U1.out hlt2 (Only.of_below hb7))
  have U2 := ahid (own_only U2.out hlt4 (Only.of_below hb7))
  clear hb7
  go_wp2_with fail
  refine (kstart_no (.inr rfl) (of_bad K7.out.kit (nw := 33) (by omega))).mono ?_
  rintro e w8 ⟨rfl, hb8⟩
  have K8 := ahid (K7.out.keepb hb8)
  have O8 := ahid (O7.out.trans (Only.of_below (S := fun k => k = w.heap.size) hb8))
  have U1 := ahid (own_only U1.out hlt2 (Only.of_below hb8))
  have U2 := ahid (own_only U2.out hlt4 (Only.of_below hb8))
  clear hb8
  go_wp2_with fail
  refine (same_any w8 u1 u2 (kitL 2) (kitL 2) (Reads32.of_own U1.out) (Reads32.of_own U2.out)).mono ?_
  rintro e w9 ⟨rfl, hb9⟩
  rw [decide_eq_true (rfl : kitL 2 = kitL 2)]
  have K9 := ahid (K8.out.keepb hb9)
  have O9 := ahid (O8.out.trans (Only.of_below (S := fun k => k = w.heap.size) hb9))
  have U1 := ahid (own_only U1.out hlt2 (Only.of_below hb9))
  clear hb9
  have hk2 := kit2
  obtain ⟨g, cap, rfl, -, -⟩ := U1.out.form (show 0 < (kitL 2).length by omega)
  have hcell : ∀ j : Nat, ∀ x : Int, (kitL 2)[j]? = some x → w9.cell? ⟨g, j, none⟩ = some (.int .u32 x) := fun j x hx => by
    have hj := (List.getElem?_eq_some_iff.1 hx).1
    rw [U1.out.cellAt j (by omega)]
    simp only [u32s, List.getElem?_map, hx]
    rfl
  have q0 := hcell 0 0 hk2.2.2.1
  have q1 := hcell 64 2147483648 hk2.2.2.2.1
  have q2 := hcell 68 1140850812 hk2.2.2.2.2
  have HMD := ahid (made_any K9.out.kit.many (by omega) (by omega))
  have hbd : (192 : Int) < ((kitL 2).length : Int) ∧ ((kitL 2).length : Int) ≤ 450 ∧ (0 : Int) < ((kitL 2).length : Int) ∧ (64 : Int) < ((kitL 2).length : Int) ∧ (68 : Int) < ((kitL 2).length : Int) := by omega
  have hbn : 192 < (kitL 2).length ∧ (kitL 2).length ≤ 450 ∧ 0 < (kitL 2).length ∧ 64 < (kitL 2).length ∧ 68 < (kitL 2).length := by omega
  obtain ⟨g1, g2, g3, g4, g5⟩ := hbd
  obtain ⟨m1, m2, m3, m4, m5⟩ := hbn
  have HBX := ahid (show Below w.heap.size w w9 from B1.out.trans (O9.out.below B1.out.size (fun k hk hlt => by omega)))
  clear hk2 hcell U1 U2 O3 O5 O6 O7 O8 O9
  generalize (kitL 2).length = L at *
  go_wp2_with fail
  refine HMD.out.mono ?_
  rintro e w' ⟨rfl, rfl⟩
  go_wp2_with fail
  go_ret
  exact ⟨rfl, HBX.out⟩
end Go.Proofs.YtkejnhleajfcjaaGreatDoor
/- Walk of the statement BootNone. -/
namespace Go.Proofs.YtkejnhleajfcjaaGreatDoor
open Go.RowKit
set_option linter.unusedVariables false
set_option linter.unusedSimpArgs false
theorem zero_rest : Tryz.zeroCells95[165]? = some (.int .i32 0) ∧ Tryz.zeroCells95[166]? = some (.bool false) := ⟨by kernel_rfl, by kernel_rfl⟩
set_option maxRecDepth 100000 in
set_option maxHeartbeats 1000000 in
theorem bnone_any (nw : Int) (w : World) (ht : Tab w) : Calls Tryz.prog 6 #[.int .i64 nw] w fun e w' => e = .returned (.bool true) ∧ Below w.heap.size w w' := by
  have HT := ahid ht
  clear ht
  obtain ⟨w2, hw2⟩ : ∃ x, x = (w.alloc (.cells Tryz.zeroCells95 95)).alloc (.cells #[.pointer none, .pointer (some ⟨w.heap.size, 0, none⟩)] 67) := ⟨_, rfl⟩
  have hb2 : Below w.heap.size w w2 := by rw [hw2]; exact ((Below.refl _ w).alloc (Nat.le_refl _) _).alloc (by simp [go_sem]) _
  have hz : w2.heap[w.heap.size]? = some (.cells Tryz.zeroCells95 95 (0, 0)) := by
    rw [hw2]
    show ((w.heap.push _).push _)[w.heap.size]? = _
    rw [Array.getElem?_push_lt (by simp)]
    simp
  have c0 : w2.cell? ⟨w.heap.size + 1, 0, none⟩ = some (.pointer none) := by rw [hw2]; simp [go_sem]
  have c1 : w2.cell? ⟨w.heap.size + 1, 1, none⟩ = some (.pointer (some ⟨w.heap.size, 0, none⟩)) := by rw [hw2]; simp [go_sem]
  have z5 := row_cell hz zero_rest.1
  have z6 := row_cell hz zero_rest.2
  have HB := ahid hb2
  have HC := ahid (And.intro c0 (And.intro c1 (And.intro z5 z6)))
  clear hb2 hz c0 c1 z5 z6
  go_enter Tryz.func6, Tryz.ntmps6
  go_wp2_with fail
  rw [← hw2]
  clear hw2
  go_loopw [5] (fun i wr => ∃ k : Nat, k ≤ 2 ∧ i = .int .i64 k ∧ Hid (Below w2.heap.size w2 wr)) (fun i _ => 2 - (intOf i).toNat)
  case atStart => exact ⟨0, by omega, rfl, ahid (Below.refl _ _)⟩
  case round =>
    obtain ⟨k, hk, rfl, hg⟩ := hrel
    have HG := ahid hg.out
    clear hg
    have get : ∀ (p : Addr) (v : Value) (wx : World), Below w2.heap.size w2 wx → w2.cell? p = some v → wx.cell? p = some v := fun p v wx hb hc => (hb.cell (World.block_lt_of_cell? _ _ hc)).trans hc
    have GET := ahid get
    clear get
    by_cases hlt : k < 2
    · have e1 : IntKind.i64.wrap ((k : Int) + 1) = ((k + 1 : Nat) : Int) := by rw [IntWalk.i64_in _ (by omega)]; omega
      have h15 : (k : Int) < 2 := by omega
      by_cases h0 : k = 0
      · subst h0
        have d0 := GET.out _ _ wr HG.out HC.out.1
        go_wp2_with fail
        refine (kwords_no (.inl rfl) (of_nil nw wr)).mono ?_
        rintro e wa ⟨rfl, hba⟩
        go_wp2_with fail
        refine (kstart_no (.inl rfl) (of_nil nw wa)).mono ?_
        rintro e wb ⟨rfl, hbb⟩
        have HN := ahid (HG.out.trans ((hba.trans (hbb.mono hba.size)).mono HG.out.size))
        clear hba hbb
        go_wp2_with fail
        refine (made_nil wb).mono ?_
        rintro e wc ⟨rfl, rfl⟩
        go_wp2_with fail
        exact ⟨⟨1, by omega, rfl, ahid HN.out⟩, by simp [intOf]⟩
      · obtain rfl : k = 1 := by omega
        have d0 := GET.out _ _ wr HG.out HC.out.2.1
        go_wp2_with fail
        refine (kwords_no (.inl rfl) (of_zero (GET.out _ _ wr HG.out HC.out.2.2.2) nw)).mono ?_
        rintro e wa ⟨rfl, hba⟩
        have HA := ahid (HG.out.trans (hba.mono HG.out.size))
        go_wp2_with fail
        refine (kstart_no (.inl rfl) (of_zero (GET.out _ _ wa HA.out HC.out.2.2.2) nw)).mono ?_
        rintro e wb ⟨rfl, hbb⟩
        have HN := ahid (HA.out.trans (hbb.mono HA.out.size))
        clear hba hbb
        go_wp2_with fail
        refine (made_any (GET.out _ _ wb HN.out HC.out.2.2.1) (by omega) (by omega)).mono ?_
        rintro e wc ⟨rfl, rfl⟩
        go_wp2_with fail
        exact ⟨⟨2, by omega, rfl, ahid HN.out⟩, by simp [intOf]⟩
    · obtain rfl : k = 2 := by omega
      go_wp2_with fail
      refine (bhead_any wr (HT.out.keep (HB.out.trans (HG.out.mono HB.out.size)))).mono ?_
      rintro e w9 ⟨rfl, hb9⟩
      have HN := ahid ((HB.out.trans (HG.out.mono HB.out.size)).trans (hb9.mono (HB.out.trans (HG.out.mono HB.out.size)).size))
      clear hb9
      go_wp2_with fail
      go_ret
      exact ⟨rfl, HN.out⟩
theorem walk_BootNone (nw : Int) (w : World) (ht : Tab w) : Calls Tryz.prog 6 #[.int .i64 nw] w fun e w' => e = .returned (.bool true) ∧ Below w.heap.size w w' := bnone_any nw w ht
end Go.Proofs.YtkejnhleajfcjaaGreatDoor
