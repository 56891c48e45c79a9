/- Several texts in one: BootOf, BootKit, BootKitNew, BootKitLaw, BootCalls. -/
import Derived.Test.YtkejnhleajfcjaaGreatDoorGO
/- Walks of the package boot: of's closure. -/
namespace Go.Proofs.YtkejnhleajfcjaaGreatDoor
open Go.RowKit
set_option linter.unusedVariables false
set_option linter.unusedSimpArgs false
/-- The closure has run: a runtime is made, one more is counted. -/
def OfGo (w : World) (kb nw : Nat) (n : Int) (w' : World) : Prop :=
  ∃ w2, BootGo w kb (5 * nw) nw w2 ∧ w' = w2.setCell ⟨kb, 165, none⟩ (.int .i32 (n + 1))
theorem other_cell {w : World} {kb j : Nat} {v x : Value} {p : Addr} (hp : p.block ≠ kb) (hc : w.cell? p = some x) : (w.setCell ⟨kb, j, none⟩ v).cell? p = some x :=
  (World.cell?_setCell_other _ ⟨kb, j, none⟩ p _ (fun h => hp (by rw [← h]))).trans hc
theorem BootGo.other {w w2 : World} {kb o nw : Nat} (h : BootGo w kb o nw w2) {p : Addr} {x : Value} (hp : p.block ≠ kb) (hc : w.cell? p = some x) : w2.cell? p = some x := by
  obtain ⟨v, w3, hb, ho, rfl⟩ := h
  exact other_cell hp (other_cell hp ((hb.cell (World.block_lt_of_cell? _ _ hc)).trans hc))
/-- The kit's row behind it. -/
theorem BootGo.row {w w2 : World} {kb o nw : Nat} (h : BootGo w kb o nw w2) {cs : Array Value} {T : TypeId} (hr : w.heap[kb]? = some (.cells cs T (0, 0))) : ∃ v, w2.heap[kb]? = some (.cells ((cs.set! (o + 3) v).set! (o + 4) (.int .u32 (256 + 4 * bootN nw))) T (0, 0)) := by
  obtain ⟨v, w3, hb, ho, rfl⟩ := h
  have hr3 : w3.heap[kb]? = some (.cells cs T (0, 0)) := (hb.block _ (Array.getElem?_eq_some_iff.1 hr).1).trans hr
  exact ⟨v, row_set (row_set hr3 v) _⟩
set_option maxRecDepth 100000 in
theorem of1_any (w : World) (ht : Tab w) (kb nw : Nat) (h2 : 2 ≤ nw) (h32 : nw ≤ 32) {cs : Array Value} {T : TypeId} (hrow : w.heap[kb]? = some (.cells cs T (0, 0))) {u3 u4 : Value} (h3 : cs[5 * nw + 3]? = some u3) (h4 : cs[5 * nw + 4]? = some u4)
    {n : Int} (hn : cs[165]? = some (.int .i32 n)) (hn0 : 0 ≤ n) (hn1 : n < 1000) {b1 b2 b3 : Nat} (n1 : b1 ≠ kb) (n2 : b2 ≠ kb) (n3 : b3 ≠ kb)
    (c1 : w.cell? ⟨b1, 0, none⟩ = some (.pointer (some ⟨kb, 5 * nw, none⟩))) (c2 : w.cell? ⟨b2, 0, none⟩ = some (.int .i64 (nw : Int))) (c3 : w.cell? ⟨b3, 0, none⟩ = some (.pointer (some ⟨kb, 0, none⟩))) :
    Calls Tryz.prog 207 #[.pointer (some ⟨b1, 0, none⟩), .pointer (some ⟨b2, 0, none⟩), .pointer (some ⟨b3, 0, none⟩)] w fun e w' => e = .returned (.tuple #[]) ∧ OfGo w kb nw n w' := by
  have HM := ahid (bmake_any w ht kb (5 * nw) nw h2 h32 hrow h3 h4)
  have HA := ahid (fun (w2 : World) (hg : BootGo w kb (5 * nw) nw w2) => show Calls Tryz.prog 209 #[.pointer (some ⟨kb, 165, none⟩), .int .i32 1] w2 fun e w' => e = .returned (.int .i32 (n + 1)) ∧ w' = w2.setCell ⟨kb, 165, none⟩ (.int .i32 (n + 1)) from by
    obtain ⟨v, hr⟩ := hg.row hrow
    refine iadd_any ⟨kb, 165, none⟩ n w2 (row_cell hr (j := 165) ?_) (row_frozen hr 165) hn0 hn1
    simp only [Array.set!_eq_setIfInBounds]
    rw [Array.getElem?_setIfInBounds_ne (by omega), Array.getElem?_setIfInBounds_ne (by omega)]
    exact hn)
  have HC3 := ahid (fun (w2 : World) (hg : BootGo w kb (5 * nw) nw w2) => hg.other (p := ⟨b3, 0, none⟩) n3 c3)
  clear ht hrow h3 h4 hn c3
  go_enter Tryz.func207, Tryz.ntmps207
  go_wp2_with fail
  refine HM.out.mono ?_
  rintro e w2 ⟨rfl, hg⟩
  have c3 := HC3.out w2 hg
  have HG := ahid hg
  clear hg c1 c2
  go_wp2_with fail
  refine (HA.out w2 HG.out).mono ?_
  rintro e w3 ⟨rfl, hw3⟩
  have HW := ahid hw3
  clear hw3
  go_wp2_with fail
  go_end0
  exact ⟨rfl, w2, HG.out, HW.out⟩
end Go.Proofs.YtkejnhleajfcjaaGreatDoor
/- Walks of the package boot: a kit, of. -/
namespace Go.Proofs.YtkejnhleajfcjaaGreatDoor
open Go.RowKit
set_option linter.unusedVariables false
set_option linter.unusedSimpArgs false
/-- A runtime's five cells: not made, or made with such words. -/
def Run5 (cs : Array Value) (k : Nat) : Option Value → Prop
  | none => cs[5 * k]? = some (.int .u32 0) ∧ cs[5 * k + 1]? = some (.int .i32 0) ∧ cs[5 * k + 3]? = some (.slice none 0 0) ∧ cs[5 * k + 4]? = some (.int .u32 0)
  | some v => cs[5 * k]? = some (.int .u32 1) ∧ cs[5 * k + 1]? = some (.int .i32 0) ∧ cs[5 * k + 3]? = some v ∧ cs[5 * k + 4]? = some (.int .u32 (256 + 4 * bootN k))
/-- A kit at a block: of each number of windows the words' slice, if it is made; how many are. -/
structure KitAt (w : World) (kb : Nat) (f : Nat → Option Value) (n : Int) : Prop where
  row : ∃ cs, w.heap[kb]? = some (.cells cs 95 (0, 0)) ∧ cs.size = 167 ∧ (∀ k, k < 33 → Run5 cs k (f k)) ∧ cs[165]? = some (.int .i32 n) ∧ cs[166]? = some (.bool true)
  own : ∀ k v, k < 33 → f k = some v → w.ownsRow (kb + 1) 23 1 v (64 + (bootW k).length) (u32s (List.replicate 64 0 ++ bootW k))
  cnt : 0 ≤ n ∧ n < 1000
set_option maxRecDepth 100000 in
set_option maxHeartbeats 1000000 in
theorem of_again {w : World} {kb : Nat} {f : Nat → Option Value} {n : Int} (h : KitAt w kb f n) {nw : Nat} (h2 : 2 ≤ nw) (h32 : nw ≤ 32) {v : Value} (hf : f nw = some v) :
    Calls Tryz.prog 111 #[.pointer (some ⟨kb, 0, none⟩), .int .i64 (nw : Int)] w fun e w' => e = .returned (.tuple #[.pointer (some ⟨kb, 5 * nw, none⟩), .int .i64 0]) ∧ Below w.heap.size w w' := by
  obtain ⟨cs, hr, hsz, h5, h165, h166⟩ := h.row
  have H5 := ahid (h5 nw (by omega))
  rw [hf] at H5
  have HO := ahid (okE_yes h2 h32)
  have hmf : ∀ (fn : Fn) (first cap : Array Value) (w : World), (Instr.makeFunc fn first cap).run Tryz.prog w = .ok (.func fn first cap) w := fun _ _ _ _ => rfl
  obtain ⟨w0, hw0⟩ : ∃ x, x = (w.alloc (.cells #[.pointer (some ⟨kb, 0, none⟩)] 67)).alloc (.cells #[.int .i64 (nw : Int)] 3) := ⟨_, rfl⟩
  have hb0 : Below w.heap.size w w0 := by rw [hw0]; exact ((Below.refl _ w).alloc (Nat.le_refl _) _).alloc (by simp [go_sem]) _
  have c0 : w0.cell? ⟨w.heap.size, 0, none⟩ = some (.pointer (some ⟨kb, 0, none⟩)) := by rw [hw0]; simp [go_sem]
  have c1 : w0.cell? ⟨w.heap.size + 1, 0, none⟩ = some (.int .i64 (nw : Int)) := by rw [hw0]; simp [go_sem]
  have hr0 : w0.heap[kb]? = some (.cells cs 95 (0, 0)) := (hb0.block _ (Array.getElem?_eq_some_iff.1 hr).1).trans hr
  have k166 : ((w.alloc (.cells #[.pointer (some ⟨kb, 0, none⟩)] 67)).alloc (.cells #[.int .i64 (nw : Int)] 3)).cell? ⟨kb, 166, none⟩ = some (.bool true) := by rw [← hw0]; exact row_cell hr0 h166
  have hnw : (0 : Int) ≤ nw ∧ (nw : Int) < 33 := by omega
  go_enter Tryz.func111, Tryz.ntmps111
  go_wp2_with fail
  rw [← hw0]
  clear hw0 k166
  refine (wim_any 0 nw w0).mono ?_
  rintro e w2 ⟨rfl, hb2⟩
  rw [HO.out]
  have c0 := (hb2.cell (p := ⟨w.heap.size, 0, none⟩) (World.block_lt_of_cell? _ _ c0)).trans c0
  have c1 := (hb2.cell (p := ⟨w.heap.size + 1, 0, none⟩) (World.block_lt_of_cell? _ _ c1)).trans c1
  have hr2 := (hb2.block _ (Array.getElem?_eq_some_iff.1 hr0).1).trans hr0
  have HR2 := ahid hr2
  have HB2 := ahid (hb0.trans (hb2.mono hb0.size))
  clear hb0 hb2 hr0 hr2 hr
  go_wp2_with fail
  have hl1 := World.block_lt_of_cell? _ _ c1
  go_region_held3 (fun w' => w'.cell? ⟨w.heap.size, 0, none⟩ = some (.pointer (some ⟨kb, 0, none⟩)) ∧ w'.cell? ⟨w.heap.size + 1, 0, none⟩ = some (.int .i64 (nw : Int))) (first | exact ⟨c0, c1⟩ | (go_keep; done) | exact ⟨World.cell?_drew _ _ ▸ c0, World.cell?_drew _ _ ▸ c1⟩) (fail)
  rw [Nat.mul_comm nw 5]
  obtain ⟨w3, hw3⟩ : ∃ x, x = (w2.alloc (.cells #[.pointer (some ⟨kb, 5 * nw, none⟩)] 192)).drew := ⟨_, rfl⟩
  have hb3 : Below w2.heap.size w2 w3 := by rw [hw3]; exact ((Below.refl _ w2).alloc (Nat.le_refl _) _).drew
  have c8 : w3.cell? ⟨w2.heap.size, 0, none⟩ = some (.pointer (some ⟨kb, 5 * nw, none⟩)) := by rw [hw3]; simp [go_sem]
  have hr3 : w3.heap[kb]? = some (.cells cs 95 (0, 0)) := (hb3.block _ (Array.getElem?_eq_some_iff.1 HR2.out).1).trans HR2.out
  have HD := ahid (fun fv => odo_done ⟨kb, 5 * nw, none⟩ fv w3 (row_cell hr3 H5.out.1))
  have HB3 := ahid (HB2.out.trans (hb3.mono HB2.out.size))
  rw [← hw3]
  clear hw3 hb3 hr3 c0 c1
  go_wp2_with fail
  refine (HD.out _).mono ?_
  rintro e w4 ⟨rfl, rfl⟩
  go_wp2_with fail
  go_ret2
  exact ⟨rfl, HB3.out⟩
end Go.Proofs.YtkejnhleajfcjaaGreatDoor
/- Walks of the package boot: of, a runtime not yet made. -/
namespace Go.Proofs.YtkejnhleajfcjaaGreatDoor
open Go.RowKit
set_option linter.unusedVariables false
set_option linter.unusedSimpArgs false
/-- The kit's cells behind the first call. -/
def six (cs : Array Value) (o : Nat) (n : Int) (v st : Value) : Array Value :=
  (((((cs.set! (o + 1) (.int .i32 1)).set! (o + 3) v).set! (o + 4) st).set! 165 (.int .i32 (n + 1))).set! o (.int .u32 1)).set! (o + 1) (.int .i32 0)
theorem six_size {cs : Array Value} {o : Nat} {n : Int} {v st : Value} : (six cs o n v st).size = cs.size := by simp [six]
theorem six_get {cs : Array Value} {o : Nat} {n : Int} {v st : Value} (hs : cs.size = 167) (ho : o + 4 < 165) (j : Nat) :
    (six cs o n v st)[j]? = if j = o + 1 then some (.int .i32 0) else if j = o then some (.int .u32 1) else if j = 165 then some (.int .i32 (n + 1)) else if j = o + 4 then some st else if j = o + 3 then some v else cs[j]? := by
  unfold six
  simp only [Array.set!_eq_setIfInBounds, Array.getElem?_setIfInBounds, Array.size_setIfInBounds, hs]
  by_cases h1 : j = o + 1
  · subst h1; simp; omega
  · rw [if_neg (by omega), if_neg h1]
    by_cases h2 : j = o
    · subst h2; simp; omega
    · rw [if_neg (by omega), if_neg h2]
      by_cases h3 : j = 165
      · subst h3; simp
      · rw [if_neg (by omega), if_neg h3]
        by_cases h4 : j = o + 4
        · subst h4; simp; omega
        · rw [if_neg (by omega), if_neg h4]
          by_cases h5 : j = o + 3
          · subst h5; simp; omega
          · rw [if_neg (by omega), if_neg h5, if_neg (by omega)]
theorem BootGo.only {w w2 : World} {kb o nw : Nat} (h : BootGo w kb o nw w2) : Only (fun k => k = kb) w w2 := by
  obtain ⟨v, w3, hb, ho, rfl⟩ := h
  exact ((Only.of_below (S := fun k => k = kb) hb).setCell (p := ⟨kb, o + 3, none⟩) rfl _).setCell (p := ⟨kb, o + 4, none⟩) rfl _
theorem own_only {w w' : World} {base kb : Nat} {e : TypeId} {size n : Nat} {v : Value} {xs : List Value} (h : w.ownsRow base e size v n xs) (hk : kb < base) (o : Only (fun k => k = kb) w w') : w'.ownsRow base e size v n xs := by
  refine ⟨h.1, h.2.imp id ?_⟩
  rintro ⟨g, cap, cur, h1, h2, h3, h4⟩
  exact ⟨g, cap, cur, h1, h2, (o.block g (Array.getElem?_eq_some_iff.1 h3).1 (by omega)).trans h3, h4⟩
set_option maxRecDepth 100000 in
set_option maxHeartbeats 1000000 in
theorem of_first {w0 : Nat} {w : World} {kb : Nat} {f : Nat → Option Value} {n : Int} (h : KitAt w kb f n) (ht : TabLo w0 w) (hkb : w0 ≤ kb) (hn : n < 900) {nw : Nat} (h2 : 2 ≤ nw) (h32 : nw ≤ 32) (hf : f nw = none) :
    Calls Tryz.prog 111 #[.pointer (some ⟨kb, 0, none⟩), .int .i64 (nw : Int)] w fun e w' => e = .returned (.tuple #[.pointer (some ⟨kb, 5 * nw, none⟩), .int .i64 0]) ∧
      ∃ w3 w4, Below w.heap.size w w3 ∧ OfGo (w3.setCell ⟨kb, 5 * nw + 1, none⟩ (.int .i32 1)) kb nw n w4 ∧ w' = (w4.drew.setCell ⟨kb, 5 * nw, none⟩ (.int .u32 1)).setCell ⟨kb, 5 * nw + 1, none⟩ (.int .i32 0) := by
  obtain ⟨cs, hr, hsz, h5, h165, h166⟩ := h.row
  have H5 := ahid (h5 nw (by omega))
  rw [hf] at H5
  have HN := ahid (And.intro h165 (And.intro h.cnt.1 hn))
  have HT := ahid ht
  have hlt : kb < w.heap.size := (Array.getElem?_eq_some_iff.1 hr).1
  have HO := ahid (okE_yes h2 h32)
  have hmf : ∀ (fn : Fn) (first cap : Array Value) (w : World), (Instr.makeFunc fn first cap).run Tryz.prog w = .ok (.func fn first cap) w := fun _ _ _ _ => rfl
  obtain ⟨w1, hw0⟩ : ∃ x, x = (w.alloc (.cells #[.pointer (some ⟨kb, 0, none⟩)] 67)).alloc (.cells #[.int .i64 (nw : Int)] 3) := ⟨_, rfl⟩
  have hb0 : Below w.heap.size w w1 := by rw [hw0]; exact ((Below.refl _ w).alloc (Nat.le_refl _) _).alloc (by simp [go_sem]) _
  have c0 : w1.cell? ⟨w.heap.size, 0, none⟩ = some (.pointer (some ⟨kb, 0, none⟩)) := by rw [hw0]; simp [go_sem]
  have c1 : w1.cell? ⟨w.heap.size + 1, 0, none⟩ = some (.int .i64 (nw : Int)) := by rw [hw0]; simp [go_sem]
  have hr0 : w1.heap[kb]? = some (.cells cs 95 (0, 0)) := (hb0.block _ hlt).trans hr
  have k166 : ((w.alloc (.cells #[.pointer (some ⟨kb, 0, none⟩)] 67)).alloc (.cells #[.int .i64 (nw : Int)] 3)).cell? ⟨kb, 166, none⟩ = some (.bool true) := by rw [← hw0]; exact row_cell hr0 h166
  have hnw : (0 : Int) ≤ nw ∧ (nw : Int) < 33 := by omega
  clear ht h165 h166
  go_enter Tryz.func111, Tryz.ntmps111
  go_wp2_with fail
  rw [← hw0]
  clear hw0 k166
  refine (wim_any 0 nw w1).mono ?_
  rintro e w2 ⟨rfl, hb2⟩
  rw [HO.out]
  have c0 := (hb2.cell (p := ⟨w.heap.size, 0, none⟩) (World.block_lt_of_cell? _ _ c0)).trans c0
  have c1 := (hb2.cell (p := ⟨w.heap.size + 1, 0, none⟩) (World.block_lt_of_cell? _ _ c1)).trans c1
  have hr2 := (hb2.block _ (Array.getElem?_eq_some_iff.1 hr0).1).trans hr0
  have HR2 := ahid hr2
  have HB2 := ahid (hb0.trans (hb2.mono hb0.size))
  clear hb0 hb2 hr0 hr2 hr
  go_wp2_with fail
  have hl1 := World.block_lt_of_cell? _ _ c1
  go_region_held3 (fun w' => w'.cell? ⟨w.heap.size, 0, none⟩ = some (.pointer (some ⟨kb, 0, none⟩)) ∧ w'.cell? ⟨w.heap.size + 1, 0, none⟩ = some (.int .i64 (nw : Int))) (first | exact ⟨c0, c1⟩ | (go_keep; done) | exact ⟨World.cell?_drew _ _ ▸ c0, World.cell?_drew _ _ ▸ c1⟩) (fail)
  rw [Nat.mul_comm nw 5]
  obtain ⟨w3, hw3⟩ : ∃ x, x = (w2.alloc (.cells #[.pointer (some ⟨kb, 5 * nw, none⟩)] 192)).drew := ⟨_, rfl⟩
  have hb3 : Below w2.heap.size w2 w3 := by rw [hw3]; exact ((Below.refl _ w2).alloc (Nat.le_refl _) _).drew
  have c8 : w3.cell? ⟨w2.heap.size, 0, none⟩ = some (.pointer (some ⟨kb, 5 * nw, none⟩)) := by rw [hw3]; simp [go_sem]
  have hr3 : w3.heap[kb]? = some (.cells cs 95 (0, 0)) := (hb3.block _ (Array.getElem?_eq_some_iff.1 HR2.out).1).trans HR2.out
  have d0 : w3.cell? ⟨w.heap.size, 0, none⟩ = some (.pointer (some ⟨kb, 0, none⟩)) := by
    rw [hw3]; exact (Lib.cell?_alloc_some _ ‹w2.cell? ⟨w.heap.size, 0, none⟩ = _›)
  have d1 : w3.cell? ⟨w.heap.size + 1, 0, none⟩ = some (.int .i64 (nw : Int)) := by
    rw [hw3]; exact (Lib.cell?_alloc_some _ ‹w2.cell? ⟨w.heap.size + 1, 0, none⟩ = _›)
  have HB3 := ahid (HB2.out.trans (hb3.mono HB2.out.size))
  have hne2 : w2.heap.size ≠ kb := by have := HB2.out.size; omega
  have HF := ahid (of1_any (w3.setCell ⟨kb, 5 * nw + 1, none⟩ (.int .i32 1)) (((HT.out.keepb HB3.out).keepO ((Only.refl (fun k => k = kb) w3).setCell (p := ⟨kb, 5 * nw + 1, none⟩) rfl _) (fun k hk => by rw [hk]; exact hkb)).tab) kb nw h2 h32 (row_set hr3 _)
    (u3 := .slice none 0 0) (u4 := .int .u32 0) (by simp only [Array.set!_eq_setIfInBounds]; rw [Array.getElem?_setIfInBounds_ne (by omega)]; exact H5.out.2.2.1) (by simp only [Array.set!_eq_setIfInBounds]; rw [Array.getElem?_setIfInBounds_ne (by omega)]; exact H5.out.2.2.2)
    (n := n) (by simp only [Array.set!_eq_setIfInBounds]; rw [Array.getElem?_setIfInBounds_ne (by omega)]; exact HN.out.1) HN.out.2.1 (by have := HN.out.2.2; omega) (b1 := w2.heap.size) (b2 := w.heap.size + 1) (b3 := w.heap.size) hne2 (by omega) (by omega)
    (other_cell hne2 c8) (other_cell (p := ⟨w.heap.size + 1, 0, none⟩) (by show w.heap.size + 1 ≠ kb; omega) d1) (other_cell (p := ⟨w.heap.size, 0, none⟩) (by show w.heap.size ≠ kb; omega) d0))
  have HQ := ahid (show ∀ w', OfGo (w3.setCell ⟨kb, 5 * nw + 1, none⟩ (.int .i32 1)) kb nw n w' → Held w' kb (5 * nw) from by
    rintro w' ⟨wm, hg, rfl⟩
    obtain ⟨v, hrm⟩ := hg.row (row_set hr3 _)
    have hrr := row_set (j := 165) hrm (.int .i32 (n + 1))
    refine ⟨row_cell hrr (j := 5 * nw) ?_, row_frozen hrr _, row_cell hrr (j := 5 * nw + 1) ?_, row_frozen hrr _⟩
    · simp only [Array.set!_eq_setIfInBounds]
      rw [Array.getElem?_setIfInBounds_ne (by omega), Array.getElem?_setIfInBounds_ne (by omega), Array.getElem?_setIfInBounds_ne (by omega), Array.getElem?_setIfInBounds_ne (by omega)]
      exact H5.out.1
    · simp only [Array.set!_eq_setIfInBounds]
      rw [Array.getElem?_setIfInBounds_ne (by omega), Array.getElem?_setIfInBounds_ne (by omega), Array.getElem?_setIfInBounds_ne (by omega), Array.getElem?_setIfInBounds_self_of_lt (by omega)])
  have HD := ahid (odo_first kb (5 * nw) _ w3 (row_cell hr3 H5.out.1) (row_cell hr3 H5.out.2.1) (row_frozen hr3 _) (row_frozen hr3 _) HF.out HQ.out)
  have HC8 := ahid (And.intro c8 hne2)
  rw [← hw3]
  clear hw3 hb3 hr3 d0 d1 HF HQ
  go_wp2_with fail
  refine HD.out.mono ?_
  rintro e w5 ⟨rfl, w4, hq, hw5⟩
  have c9 : w5.cell? ⟨w2.heap.size, 0, none⟩ = some (.pointer (some ⟨kb, 5 * nw, none⟩)) := by
    obtain ⟨wm, hg, rfl⟩ := hq
    rw [hw5]
    refine other_cell HC8.out.2 (other_cell HC8.out.2 ?_)
    rw [World.cell?_drew]
    exact other_cell HC8.out.2 (hg.other HC8.out.2 (other_cell HC8.out.2 HC8.out.1))
  have HW := ahid (And.intro hq hw5)
  clear hq hw5 c8
  go_wp2_with fail
  go_ret2
  exact ⟨rfl, w3, w4, HB3.out, HW.out⟩
end Go.Proofs.YtkejnhleajfcjaaGreatDoor
/- A kit behind of. No new function of the program is walked here. -/
namespace Go.Proofs.YtkejnhleajfcjaaGreatDoor
open Go.RowKit
set_option linter.unusedVariables false
set_option linter.unusedSimpArgs false
theorem of_first_kit {w w' w3 w4 : World} {kb : Nat} {f : Nat → Option Value} {n : Int} (h : KitAt w kb f n) (hn : n < 900) {nw : Nat} (h2 : 2 ≤ nw) (h32 : nw ≤ 32)
    (hb : Below w.heap.size w w3) (hg : OfGo (w3.setCell ⟨kb, 5 * nw + 1, none⟩ (.int .i32 1)) kb nw n w4) (hw : w' = (w4.drew.setCell ⟨kb, 5 * nw, none⟩ (.int .u32 1)).setCell ⟨kb, 5 * nw + 1, none⟩ (.int .i32 0)) :
    ∃ v, KitAt w' kb (fun k => if k = nw then some v else f k) (n + 1) ∧ Only (fun k => k = kb) w w' := by
  obtain ⟨cs, hr, hsz, h5, h165, h166⟩ := h.row
  obtain ⟨wm, ⟨v, wr, hbr, hown, rfl⟩, rfl⟩ := hg
  subst hw
  have hlt : kb < w.heap.size := (Array.getElem?_eq_some_iff.1 hr).1
  have hr3 : w3.heap[kb]? = some (.cells cs 95 (0, 0)) := (hb.block _ hlt).trans hr
  have hra := row_set (j := 5 * nw + 1) hr3 (.int .i32 1)
  have hrb := (hbr.block _ (Array.getElem?_eq_some_iff.1 hra).1).trans hra
  have hrc := row_set (j := 5 * nw) (row_set (j := 165) (row_set (j := 5 * nw + 4) (row_set (j := 5 * nw + 3) hrb v) (.int .u32 (256 + 4 * bootN nw))) (.int .i32 (n + 1))) (.int .u32 1)
  have hrd := row_set (j := 5 * nw + 1) hrc (.int .i32 0)
  have hget := fun j => six_get (n := n) (v := v) (st := .int .u32 (256 + 4 * bootN nw)) hsz (show 5 * nw + 4 < 165 by omega) j
  have o1 : Only (fun k => k = kb) w w3 := Only.of_below hb
  have o2 : Only (fun k => k = kb) w3 (w3.setCell ⟨kb, 5 * nw + 1, none⟩ (.int .i32 1)) := (Only.refl (fun k => k = kb) w3).setCell (p := ⟨kb, 5 * nw + 1, none⟩) rfl _
  have o3 : Only (fun k => k = kb) (w3.setCell ⟨kb, 5 * nw + 1, none⟩ (.int .i32 1)) wr := Only.of_below hbr
  have hz3 : kb < (w3.setCell ⟨kb, 5 * nw + 1, none⟩ (.int .i32 1)).heap.size := (Array.getElem?_eq_some_iff.1 hra).1
  have o4 : Only (fun k => k = kb) wr ((((((wr.setCell ⟨kb, 5 * nw + 3, none⟩ v).setCell ⟨kb, 5 * nw + 4, none⟩ (.int .u32 (256 + 4 * bootN nw))).setCell ⟨kb, 165, none⟩ (.int .i32 (n + 1))).drew.setCell ⟨kb, 5 * nw, none⟩ (.int .u32 1)).setCell ⟨kb, 5 * nw + 1, none⟩ (.int .i32 0))) :=
    (((((((Only.refl (fun k => k = kb) wr).setCell (p := ⟨kb, 5 * nw + 3, none⟩) rfl _).setCell (p := ⟨kb, 5 * nw + 4, none⟩) rfl _).setCell (p := ⟨kb, 165, none⟩) rfl _).trans (Only.of_below ((Below.refl _ _).drew))).setCell (p := ⟨kb, 5 * nw, none⟩) rfl _).setCell (p := ⟨kb, 5 * nw + 1, none⟩) rfl _)
  have oall := ((o1.trans o2).trans o3).trans o4
  refine ⟨v, ⟨⟨_, hrd, ?_, ?_, ?_, ?_⟩, ?_, ?_⟩, oall⟩
  · exact six_size.trans hsz
  · intro k hk
    by_cases hkn : k = nw
    · subst hkn
      rw [if_pos rfl]
      refine ⟨(hget _).trans ?_, (hget _).trans ?_, (hget _).trans ?_, (hget _).trans ?_⟩
      · rw [if_neg (by omega), if_pos rfl]
      · rw [if_pos rfl]
      · rw [if_neg (by omega), if_neg (by omega), if_neg (by omega), if_neg (by omega), if_pos rfl]
      · rw [if_neg (by omega), if_neg (by omega), if_neg (by omega), if_pos rfl]
    · rw [if_neg hkn]
      have hof : ∀ j, j < 5 → (six cs (5 * nw) n v (.int .u32 (256 + 4 * bootN nw)))[5 * k + j]? = cs[5 * k + j]? := fun j hj => (hget _).trans (by
        rw [if_neg (by omega), if_neg (by omega), if_neg (by omega), if_neg (by omega), if_neg (by omega)])
      have hk5 := h5 k hk
      cases hfk : f k with
      | none =>
        rw [hfk] at hk5
        exact ⟨(hof 0 (by omega)).trans hk5.1, (hof 1 (by omega)).trans hk5.2.1, (hof 3 (by omega)).trans hk5.2.2.1, (hof 4 (by omega)).trans hk5.2.2.2⟩
      | some u =>
        rw [hfk] at hk5
        exact ⟨(hof 0 (by omega)).trans hk5.1, (hof 1 (by omega)).trans hk5.2.1, (hof 3 (by omega)).trans hk5.2.2.1, (hof 4 (by omega)).trans hk5.2.2.2⟩
  · exact (hget 165).trans (by rw [if_neg (by omega), if_neg (by omega), if_pos rfl])
  · exact (hget 166).trans (by rw [if_neg (by omega), if_neg (by omega), if_neg (by omega), if_neg (by omega), if_neg (by omega)]; exact h166)
  · intro k u hk hu
    by_cases hkn : k = nw
    · subst hkn
      rw [if_pos rfl] at hu
      obtain rfl := Option.some.inj hu
      exact own_only (own_mono hown (by omega)) (by omega) o4
    · rw [if_neg hkn] at hu
      exact own_only (h.own k u hk hu) (by omega) oall
  · have := h.cnt
    omega
end Go.Proofs.YtkejnhleajfcjaaGreatDoor
/- Walks of the package boot: of, whatever is asked; New, Made, Start. -/
namespace Go.Proofs.YtkejnhleajfcjaaGreatDoor
open Go.RowKit
set_option linter.unusedVariables false
set_option linter.unusedSimpArgs false
/-- What of leaves of a kit. -/
structure OfOk (w w' : World) (kb : Nat) (f f' : Nat → Option Value) (n n' : Int) (nw : Nat) : Prop where
  kit : KitAt w' kb f' n'
  now : ∃ v, f' nw = some v
  els : ∀ k, k ≠ nw → f' k = f k
  cnt : n' = n + (if f nw = none then 1 else 0)
  only : Only (fun k => k = kb) w w'
theorem kit_below {w w' : World} {kb : Nat} {f : Nat → Option Value} {n : Int} (h : KitAt w kb f n) (hb : Below w.heap.size w w') : KitAt w' kb f n := by
  obtain ⟨cs, hr, hsz, h5, h165, h166⟩ := h.row
  refine ⟨⟨cs, (hb.block _ (Array.getElem?_eq_some_iff.1 hr).1).trans hr, hsz, h5, h165, h166⟩, fun k v hk hv => ?_, h.cnt⟩
  obtain ⟨a, b⟩ := h.own k v hk hv
  refine ⟨a, b.imp id ?_⟩
  rintro ⟨g, cap, cur, h1, h2, h3, h4⟩
  exact ⟨g, cap, cur, h1, h2, (hb.block g (Array.getElem?_eq_some_iff.1 h3).1).trans h3, h4⟩
theorem of_any {w0 : Nat} {w : World} {kb : Nat} {f : Nat → Option Value} {n : Int} (h : KitAt w kb f n) (ht : TabLo w0 w) (hkb : w0 ≤ kb) (hn : n < 900) {nw : Nat} (h2 : 2 ≤ nw) (h32 : nw ≤ 32) :
    Calls Tryz.prog 111 #[.pointer (some ⟨kb, 0, none⟩), .int .i64 (nw : Int)] w fun e w' => e = .returned (.tuple #[.pointer (some ⟨kb, 5 * nw, none⟩), .int .i64 0]) ∧ ∃ f' n', OfOk w w' kb f f' n n' nw := by
  cases hf : f nw with
  | none =>
    refine (of_first h ht hkb hn h2 h32 hf).mono ?_
    rintro e w' ⟨rfl, w3, w4, hb, hg, hw⟩
    obtain ⟨v, hk, ho⟩ := of_first_kit h hn h2 h32 hb hg hw
    exact ⟨rfl, _, _, hk, ⟨v, if_pos rfl⟩, fun k hk => if_neg hk, by rw [if_pos hf], ho⟩
  | some v =>
    refine (of_again h h2 h32 hf).mono ?_
    rintro e w' ⟨rfl, hb⟩
    exact ⟨rfl, f, n, kit_below h hb, ⟨v, hf⟩, fun _ _ => rfl, by rw [if_neg (by rw [hf]; simp)]; omega, Only.of_below hb⟩
theorem okE_no (nw : Int) (h : ¬ (2 ≤ nw ∧ nw ≤ 32)) : okE 0 nw = 2 := by
  unfold okE
  rw [if_neg]
  intro hh
  simp [okW, winP] at hh
  omega
set_option maxRecDepth 100000 in
theorem of_bad {w : World} {kb : Nat} {f : Nat → Option Value} {n : Int} (h : KitAt w kb f n) {nw : Int} (hw : ¬ (2 ≤ nw ∧ nw ≤ 32)) :
    Calls Tryz.prog 111 #[.pointer (some ⟨kb, 0, none⟩), .int .i64 nw] w fun e w' => e = .returned (.tuple #[.pointer none, .int .i64 2]) ∧ Below w.heap.size w w' := by
  obtain ⟨cs, hr, hsz, h5, h165, h166⟩ := h.row
  have HO := ahid (okE_no nw hw)
  obtain ⟨w1, hw0⟩ : ∃ x, x = (w.alloc (.cells #[.pointer (some ⟨kb, 0, none⟩)] 67)).alloc (.cells #[.int .i64 nw] 3) := ⟨_, rfl⟩
  have hb0 : Below w.heap.size w w1 := by rw [hw0]; exact ((Below.refl _ w).alloc (Nat.le_refl _) _).alloc (by simp [go_sem]) _
  have c1 : w1.cell? ⟨w.heap.size + 1, 0, none⟩ = some (.int .i64 nw) := by rw [hw0]; simp [go_sem]
  have hr0 : w1.heap[kb]? = some (.cells cs 95 (0, 0)) := (hb0.block _ (Array.getElem?_eq_some_iff.1 hr).1).trans hr
  have k166 : ((w.alloc (.cells #[.pointer (some ⟨kb, 0, none⟩)] 67)).alloc (.cells #[.int .i64 nw] 3)).cell? ⟨kb, 166, none⟩ = some (.bool true) := by rw [← hw0]; exact row_cell hr0 h166
  have HB := ahid hb0
  clear hw hr hb0 hr0 h5
  go_enter Tryz.func111, Tryz.ntmps111
  go_wp2_with fail
  rw [← hw0]
  clear hw0 k166
  refine (wim_any 0 nw w1).mono ?_
  rintro e w2 ⟨rfl, hb2⟩
  rw [HO.out]
  have HB2 := ahid (HB.out.trans (hb2.mono HB.out.size))
  clear hb2 c1
  go_wp2_with fail
  go_ret2
  exact ⟨rfl, HB2.out⟩
/-- No kit. -/
theorem of_nil (nw : Int) (w : World) :
    Calls Tryz.prog 111 #[.pointer none, .int .i64 nw] w fun e w' => e = .returned (.tuple #[.pointer none, .int .i64 1]) ∧ Below w.heap.size w w' := by
  have hb0 : Below w.heap.size w ((w.alloc (.cells #[.pointer none] 67)).alloc (.cells #[.int .i64 nw] 3)) := ((Below.refl _ w).alloc (Nat.le_refl _) _).alloc (by simp [go_sem]) _
  have HB := ahid hb0
  clear hb0
  go_enter Tryz.func111, Tryz.ntmps111
  go_wp2_with fail
  go_ret2
  exact ⟨rfl, HB.out⟩
/-- A kit that was not made by New. -/
theorem of_zero {w : World} {kb : Nat} (hc : w.cell? ⟨kb, 166, none⟩ = some (.bool false)) (nw : Int) :
    Calls Tryz.prog 111 #[.pointer (some ⟨kb, 0, none⟩), .int .i64 nw] w fun e w' => e = .returned (.tuple #[.pointer none, .int .i64 1]) ∧ Below w.heap.size w w' := by
  have hb0 : Below w.heap.size w ((w.alloc (.cells #[.pointer (some ⟨kb, 0, none⟩)] 67)).alloc (.cells #[.int .i64 nw] 3)) := ((Below.refl _ w).alloc (Nat.le_refl _) _).alloc (by simp [go_sem]) _
  have k166 : ((w.alloc (.cells #[.pointer (some ⟨kb, 0, none⟩)] 67)).alloc (.cells #[.int .i64 nw] 3)).cell? ⟨kb, 166, none⟩ = some (.bool false) := (hb0.cell (p := ⟨kb, 166, none⟩) (World.block_lt_of_cell? _ _ hc)).trans hc
  have HB := ahid hb0
  clear hb0 hc
  go_enter Tryz.func111, Tryz.ntmps111
  go_wp2_with fail
  go_ret2
  exact ⟨rfl, HB.out⟩
theorem made_nil (w : World) : Calls Tryz.prog 34 #[.pointer none] w fun e w' => e = .returned (.int .i64 0) ∧ w = w' := by
  go_enter Tryz.func34, Tryz.ntmps34
  go_wp2_with fail
  go_ret
  exact ⟨rfl, rfl⟩
theorem made_any {w : World} {kb : Nat} {n : Int} (hc : w.cell? ⟨kb, 165, none⟩ = some (.int .i32 n)) (h0 : 0 ≤ n) (h1 : n < 1000) :
    Calls Tryz.prog 34 #[.pointer (some ⟨kb, 0, none⟩)] w fun e w' => e = .returned (.int .i64 n) ∧ w' = w := by
  have e1 : IntKind.i64.wrap n = n := IntWalk.i64_in _ (by omega)
  have HI := ahid (iload_any ⟨kb, 165, none⟩ n w hc)
  clear hc
  go_enter Tryz.func34, Tryz.ntmps34
  go_wp2_with fail
  refine HI.out.mono ?_
  rintro e w' ⟨rfl, rfl⟩
  go_wp2_with fail
  go_ret
  exact ⟨rfl, rfl⟩
end Go.Proofs.YtkejnhleajfcjaaGreatDoor
