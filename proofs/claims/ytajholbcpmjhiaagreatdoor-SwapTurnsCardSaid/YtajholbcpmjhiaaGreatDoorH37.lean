/- Several texts in one: Ref3Place. -/
import Derived.Test.YtajholbcpmjhiaaGreatDoorH26
set_option linter.unusedVariables false
set_option linter.unusedSimpArgs false
/- The walks of the document's file (muntinref03). -/
namespace Go.Proofs.YtajholbcpmjhiaaGreatDoor
open Go.RowKit Go.Maps
def sdC (s : Sd) : List Value := [.int .i64 s.k, .int .i64 s.o, .int .i64 s.a, .int .u32 s.w]
def LogIn (w : World) (v : Value) (L : List Sd) : Prop :=
  (v = .slice none 0 0 ∧ L = []) ∨ ∃ g cap, v = .slice (some ⟨g, 0, none⟩) L.length cap ∧ g < w.heap.size ∧ ∀ j u, (L.flatMap sdC)[j]? = some u → w.cell? ⟨g, j, none⟩ = some u
theorem LogIn.keep {w w' : World} {v : Value} {L : List Sd} (h : LogIn w v L) (hb : Below w.heap.size w w') : LogIn w' v L := by
  rcases h with h | ⟨g, cap, h1, h2, h3⟩
  · exact .inl h
  · exact .inr ⟨g, cap, h1, Nat.lt_of_lt_of_le h2 hb.size, fun j u hu => (hb.cell (p := ⟨g, j, none⟩) h2).trans (h3 j u hu)⟩
theorem LogIn.shape {w : World} {v : Value} {L : List Sd} (h : LogIn w v L) : ∃ p c, v = .slice p L.length c := by
  rcases h with ⟨h, rfl⟩ | ⟨g, cap, h, _⟩
  · exact ⟨_, _, h⟩
  · exact ⟨_, _, h⟩
abbrev plAgg (f : Fx) (w b r : Int) : Value := .agg #[.int .i64 (if regOk f w b r then plK r else 0), .int .i64 (if regOk f w b r then plO f.nw w b r else 0), .int .i64 (if regOk f w b r then plA r else 0)]
theorem pl_no {f : Fx} {w b r : Int} (h : ¬ regOk f w b r) : Ending.returned (.tuple #[.agg #[.int .i64 0, .int .i64 0, .int .i64 0], .int .i64 2]) = .returned (.tuple #[plAgg f w b r, .int .i64 (regE f w b r)]) := by
  unfold plAgg regE; rw [if_neg h, if_neg h, if_neg h, if_neg h]
theorem pl_yes {f : Fx} {w b r k o a : Int} (h : regOk f w b r) (h2 : plK r = k ∧ plO f.nw w b r = o ∧ plA r = a) : Ending.returned (.tuple #[.agg #[.int .i64 k, .int .i64 o, .int .i64 a], .int .i64 0]) = .returned (.tuple #[plAgg f w b r, .int .i64 (regE f w b r)]) := by
  unfold plAgg regE; rw [if_pos h, if_pos h, if_pos h, if_pos h, h2.1, h2.2.1, h2.2.2]
set_option maxRecDepth 100000 in
set_option maxHeartbeats 4000000 in
theorem rf_place (W : World) (f : Fx) (hok : f.ok) (lv : Value) (hlv : ∃ p n c, lv = .slice p n c) (w b r : Int) :
    Calls Tryz.prog 129 #[.agg #[.int .i64 f.nw, lv], .int .i64 w, .int .i64 b, .int .i64 r] W fun e w' => e = .returned (.tuple #[plAgg f w b r, .int .i64 (regE f w b r)]) ∧ Below W.heap.size W w' := by
  obtain ⟨p, n, c, rfl⟩ := hlv
  have h2 := hok.nw2
  have h32 := hok.nw32
  clear hok
  have hbw : Below W.heap.size W ((W.alloc (.cells #[.int .i64 f.nw, .slice p n c] 55)).alloc (.cells #[.int .i64 0, .int .i64 0, .int .i64 0] 193)) := ((Below.refl _ _).alloc (Nat.le_refl _) _).alloc (by simp) _
  have hB := (ARow.fresh W 55 #[.int .i64 f.nw, .slice p n c]).alloc (.cells #[.int .i64 0, .int .i64 0, .int .i64 0] 193)
  have hR := ARow.fresh (W.alloc (.cells #[.int .i64 f.nw, .slice p n c] 55)) 193 #[.int .i64 0, .int .i64 0, .int .i64 0]
  rw [World.size_alloc] at hR
  have HBW := mhid hbw
  have HR := mhid hR
  have b0 := hB.cell (k := 0) rfl
  have r0 := hR.cell (k := 0) rfl
  have r1 := hR.cell (k := 1) rfl
  have r2 := hR.cell (k := 2) rfl
  have rf0 := hR.frozen 0
  have rf1 := hR.frozen 1
  have rf2 := hR.frozen 2
  have HI := mhid (show ∀ w b r : Int, regOk f w b r ↔ (0 ≤ w ∧ w < f.nw) ∧ (0 ≤ b ∧ b < 17) ∧ 0 ≤ r ∧ r < 32 from fun _ _ _ => Iff.rfl)
  clear hbw hB hR
  have hfin : ∀ (k o a : Int) (W1 W9 : World) (e : Ending), Hid (ARow W1 (W.heap.size + 1) 193 [.int .i64 0, .int .i64 0, .int .i64 0]) → True := fun _ _ _ _ _ _ _ => trivial
  clear hfin
  by_cases x0 : w < 0
  · have HN := mhid (show ¬ regOk f w b r from by rw [HI.out]; omega)
    go_enter Tryz.func129, Tryz.ntmps129
    go_wp2_with fail
    have hR := ARow.fresh (W.alloc (.cells #[.int .i64 f.nw, .slice p n c] 55)) 193 #[.int .i64 (0), .int .i64 (0), .int .i64 (0)]
    rw [World.size_alloc] at hR
    have s0 := hR.cell (k := 0) rfl
    have s1 := hR.cell (k := 1) rfl
    have s2 := hR.cell (k := 2) rfl
    have hb9 : Below W.heap.size W ((W.alloc (.cells #[.int .i64 f.nw, .slice p n c] 55)).alloc (.cells #[.int .i64 (0), .int .i64 (0), .int .i64 (0)] 193)) := ((Below.refl _ _).alloc (Nat.le_refl _) _).alloc (by simp) _
    clear hR r0 r1 r2 rf0 rf1 rf2 b0
    generalize ((W.alloc (.cells #[.int .i64 f.nw, .slice p n c] 55)).alloc (.cells #[.int .i64 (0), .int .i64 (0), .int .i64 (0)] 193)) = W9 at *
    refine bodyPost_ret (by simp [results, Tryz.results129, go_sem, s0, s1, s2]; try rfl) rfl ?_
    exact ⟨pl_no HN.out, hb9⟩
  · skip
    by_cases x1 : w ≥ f.nw
    · have HN := mhid (show ¬ regOk f w b r from by rw [HI.out]; omega)
      go_enter Tryz.func129, Tryz.ntmps129
      go_wp2_with fail
      have hR := ARow.fresh (W.alloc (.cells #[.int .i64 f.nw, .slice p n c] 55)) 193 #[.int .i64 (0), .int .i64 (0), .int .i64 (0)]
      rw [World.size_alloc] at hR
      have s0 := hR.cell (k := 0) rfl
      have s1 := hR.cell (k := 1) rfl
      have s2 := hR.cell (k := 2) rfl
      have hb9 : Below W.heap.size W ((W.alloc (.cells #[.int .i64 f.nw, .slice p n c] 55)).alloc (.cells #[.int .i64 (0), .int .i64 (0), .int .i64 (0)] 193)) := ((Below.refl _ _).alloc (Nat.le_refl _) _).alloc (by simp) _
      clear hR r0 r1 r2 rf0 rf1 rf2 b0
      generalize ((W.alloc (.cells #[.int .i64 f.nw, .slice p n c] 55)).alloc (.cells #[.int .i64 (0), .int .i64 (0), .int .i64 (0)] 193)) = W9 at *
      refine bodyPost_ret (by simp [results, Tryz.results129, go_sem, s0, s1, s2]; try rfl) rfl ?_
      exact ⟨pl_no HN.out, hb9⟩
    · skip
      by_cases x2 : b < 0
      · have HN := mhid (show ¬ regOk f w b r from by rw [HI.out]; omega)
        go_enter Tryz.func129, Tryz.ntmps129
        go_wp2_with fail
        have hR := ARow.fresh (W.alloc (.cells #[.int .i64 f.nw, .slice p n c] 55)) 193 #[.int .i64 (0), .int .i64 (0), .int .i64 (0)]
        rw [World.size_alloc] at hR
        have s0 := hR.cell (k := 0) rfl
        have s1 := hR.cell (k := 1) rfl
        have s2 := hR.cell (k := 2) rfl
        have hb9 : Below W.heap.size W ((W.alloc (.cells #[.int .i64 f.nw, .slice p n c] 55)).alloc (.cells #[.int .i64 (0), .int .i64 (0), .int .i64 (0)] 193)) := ((Below.refl _ _).alloc (Nat.le_refl _) _).alloc (by simp) _
        clear hR r0 r1 r2 rf0 rf1 rf2 b0
        generalize ((W.alloc (.cells #[.int .i64 f.nw, .slice p n c] 55)).alloc (.cells #[.int .i64 (0), .int .i64 (0), .int .i64 (0)] 193)) = W9 at *
        refine bodyPost_ret (by simp [results, Tryz.results129, go_sem, s0, s1, s2]; try rfl) rfl ?_
        exact ⟨pl_no HN.out, hb9⟩
      · skip
        by_cases x3 : b > 16
        · have HN := mhid (show ¬ regOk f w b r from by rw [HI.out]; omega)
          go_enter Tryz.func129, Tryz.ntmps129
          go_wp2_with fail
          have hR := ARow.fresh (W.alloc (.cells #[.int .i64 f.nw, .slice p n c] 55)) 193 #[.int .i64 (0), .int .i64 (0), .int .i64 (0)]
          rw [World.size_alloc] at hR
          have s0 := hR.cell (k := 0) rfl
          have s1 := hR.cell (k := 1) rfl
          have s2 := hR.cell (k := 2) rfl
          have hb9 : Below W.heap.size W ((W.alloc (.cells #[.int .i64 f.nw, .slice p n c] 55)).alloc (.cells #[.int .i64 (0), .int .i64 (0), .int .i64 (0)] 193)) := ((Below.refl _ _).alloc (Nat.le_refl _) _).alloc (by simp) _
          clear hR r0 r1 r2 rf0 rf1 rf2 b0
          generalize ((W.alloc (.cells #[.int .i64 f.nw, .slice p n c] 55)).alloc (.cells #[.int .i64 (0), .int .i64 (0), .int .i64 (0)] 193)) = W9 at *
          refine bodyPost_ret (by simp [results, Tryz.results129, go_sem, s0, s1, s2]; try rfl) rfl ?_
          exact ⟨pl_no HN.out, hb9⟩
        · skip
          by_cases x4 : r < 0
          · have HN := mhid (show ¬ regOk f w b r from by rw [HI.out]; omega)
            go_enter Tryz.func129, Tryz.ntmps129
            go_wp2_with fail
            have hR := ARow.fresh (W.alloc (.cells #[.int .i64 f.nw, .slice p n c] 55)) 193 #[.int .i64 (0), .int .i64 (0), .int .i64 (0)]
            rw [World.size_alloc] at hR
            have s0 := hR.cell (k := 0) rfl
            have s1 := hR.cell (k := 1) rfl
            have s2 := hR.cell (k := 2) rfl
            have hb9 : Below W.heap.size W ((W.alloc (.cells #[.int .i64 f.nw, .slice p n c] 55)).alloc (.cells #[.int .i64 (0), .int .i64 (0), .int .i64 (0)] 193)) := ((Below.refl _ _).alloc (Nat.le_refl _) _).alloc (by simp) _
            clear hR r0 r1 r2 rf0 rf1 rf2 b0
            generalize ((W.alloc (.cells #[.int .i64 f.nw, .slice p n c] 55)).alloc (.cells #[.int .i64 (0), .int .i64 (0), .int .i64 (0)] 193)) = W9 at *
            refine bodyPost_ret (by simp [results, Tryz.results129, go_sem, s0, s1, s2]; try rfl) rfl ?_
            exact ⟨pl_no HN.out, hb9⟩
          · skip
            by_cases x5 : r > 31
            · have HN := mhid (show ¬ regOk f w b r from by rw [HI.out]; omega)
              go_enter Tryz.func129, Tryz.ntmps129
              go_wp2_with fail
              have hR := ARow.fresh (W.alloc (.cells #[.int .i64 f.nw, .slice p n c] 55)) 193 #[.int .i64 (0), .int .i64 (0), .int .i64 (0)]
              rw [World.size_alloc] at hR
              have s0 := hR.cell (k := 0) rfl
              have s1 := hR.cell (k := 1) rfl
              have s2 := hR.cell (k := 2) rfl
              have hb9 : Below W.heap.size W ((W.alloc (.cells #[.int .i64 f.nw, .slice p n c] 55)).alloc (.cells #[.int .i64 (0), .int .i64 (0), .int .i64 (0)] 193)) := ((Below.refl _ _).alloc (Nat.le_refl _) _).alloc (by simp) _
              clear hR r0 r1 r2 rf0 rf1 rf2 b0
              generalize ((W.alloc (.cells #[.int .i64 f.nw, .slice p n c] 55)).alloc (.cells #[.int .i64 (0), .int .i64 (0), .int .i64 (0)] 193)) = W9 at *
              refine bodyPost_ret (by simp [results, Tryz.results129, go_sem, s0, s1, s2]; try rfl) rfl ?_
              exact ⟨pl_no HN.out, hb9⟩
            · skip
              have HY := mhid (show regOk f w b r from by rw [HI.out]; omega)
              by_cases y0 : r < 8
              · have HP := mhid (pl_g y0 f.nw w b)
                go_enter Tryz.func129, Tryz.ntmps129
                go_wp2_with fail
                have hR := ARow.fresh (W.alloc (.cells #[.int .i64 f.nw, .slice p n c] 55)) 193 #[.int .i64 (0), .int .i64 (b), .int .i64 (r)]
                rw [World.size_alloc] at hR
                have s0 := hR.cell (k := 0) rfl
                have s1 := hR.cell (k := 1) rfl
                have s2 := hR.cell (k := 2) rfl
                have hb9 : Below W.heap.size W ((W.alloc (.cells #[.int .i64 f.nw, .slice p n c] 55)).alloc (.cells #[.int .i64 (0), .int .i64 (b), .int .i64 (r)] 193)) := ((Below.refl _ _).alloc (Nat.le_refl _) _).alloc (by simp) _
                clear hR r0 r1 r2 rf0 rf1 rf2 b0
                generalize ((W.alloc (.cells #[.int .i64 f.nw, .slice p n c] 55)).alloc (.cells #[.int .i64 (0), .int .i64 (b), .int .i64 (r)] 193)) = W9 at *
                refine bodyPost_ret (by simp [results, Tryz.results129, go_sem, s0, s1, s2]; try rfl) rfl ?_
                exact ⟨pl_yes HY.out HP.out, hb9⟩
              · by_cases y1 : r < 16
                · have HP := mhid (pl_o (show 8 ≤ r by omega) y1 f.nw w b)
                  have q1 : ((f.nw : Int) == 0) = false := by rw [beq_eq_false_iff_ne]; omega
                  have q2 : (w + (f.nw : Int) - 1).tmod (f.nw : Int) = (w + (f.nw : Int) - 1) % (f.nw : Int) := IntWalk.rem_in _ _ (by omega)
                  have q3 := Int.emod_lt_of_pos (w + (f.nw : Int) - 1) (show 0 < (f.nw : Int) by omega)
                  have q4 := Int.emod_nonneg (w + (f.nw : Int) - 1) (show (f.nw : Int) ≠ 0 by omega)
                  have q5 : ¬ ((f.nw : Int) = 0) := by omega
                  go_enter Tryz.func129, Tryz.ntmps129
                  go_wp2_with fail
                  have hR := ARow.fresh (W.alloc (.cells #[.int .i64 f.nw, .slice p n c] 55)) 193 #[.int .i64 (2), .int .i64 ((w + (f.nw : Int) - 1) % (f.nw : Int)), .int .i64 (r - 8)]
                  rw [World.size_alloc] at hR
                  have s0 := hR.cell (k := 0) rfl
                  have s1 := hR.cell (k := 1) rfl
                  have s2 := hR.cell (k := 2) rfl
                  have hb9 : Below W.heap.size W ((W.alloc (.cells #[.int .i64 f.nw, .slice p n c] 55)).alloc (.cells #[.int .i64 (2), .int .i64 ((w + (f.nw : Int) - 1) % (f.nw : Int)), .int .i64 (r - 8)] 193)) := ((Below.refl _ _).alloc (Nat.le_refl _) _).alloc (by simp) _
                  clear hR r0 r1 r2 rf0 rf1 rf2 b0
                  generalize ((W.alloc (.cells #[.int .i64 f.nw, .slice p n c] 55)).alloc (.cells #[.int .i64 (2), .int .i64 ((w + (f.nw : Int) - 1) % (f.nw : Int)), .int .i64 (r - 8)] 193)) = W9 at *
                  refine bodyPost_ret (by simp [results, Tryz.results129, go_sem, s0, s1, s2]; try rfl) rfl ?_
                  exact ⟨pl_yes HY.out HP.out, hb9⟩
                · by_cases y2 : r < 24
                  · have HP := mhid (pl_l (show 16 ≤ r by omega) y2 f.nw w b)
                    go_enter Tryz.func129, Tryz.ntmps129
                    go_wp2_with fail
                    have hR := ARow.fresh (W.alloc (.cells #[.int .i64 f.nw, .slice p n c] 55)) 193 #[.int .i64 (1), .int .i64 (w), .int .i64 (r - 16)]
                    rw [World.size_alloc] at hR
                    have s0 := hR.cell (k := 0) rfl
                    have s1 := hR.cell (k := 1) rfl
                    have s2 := hR.cell (k := 2) rfl
                    have hb9 : Below W.heap.size W ((W.alloc (.cells #[.int .i64 f.nw, .slice p n c] 55)).alloc (.cells #[.int .i64 (1), .int .i64 (w), .int .i64 (r - 16)] 193)) := ((Below.refl _ _).alloc (Nat.le_refl _) _).alloc (by simp) _
                    clear hR r0 r1 r2 rf0 rf1 rf2 b0
                    generalize ((W.alloc (.cells #[.int .i64 f.nw, .slice p n c] 55)).alloc (.cells #[.int .i64 (1), .int .i64 (w), .int .i64 (r - 16)] 193)) = W9 at *
                    refine bodyPost_ret (by simp [results, Tryz.results129, go_sem, s0, s1, s2]; try rfl) rfl ?_
                    exact ⟨pl_yes HY.out HP.out, hb9⟩
                  · have HP := mhid (pl_i (show 24 ≤ r by omega) f.nw w b)
                    go_enter Tryz.func129, Tryz.ntmps129
                    go_wp2_with fail
                    have hR := ARow.fresh (W.alloc (.cells #[.int .i64 f.nw, .slice p n c] 55)) 193 #[.int .i64 (2), .int .i64 (w), .int .i64 (r - 24)]
                    rw [World.size_alloc] at hR
                    have s0 := hR.cell (k := 0) rfl
                    have s1 := hR.cell (k := 1) rfl
                    have s2 := hR.cell (k := 2) rfl
                    have hb9 : Below W.heap.size W ((W.alloc (.cells #[.int .i64 f.nw, .slice p n c] 55)).alloc (.cells #[.int .i64 (2), .int .i64 (w), .int .i64 (r - 24)] 193)) := ((Below.refl _ _).alloc (Nat.le_refl _) _).alloc (by simp) _
                    clear hR r0 r1 r2 rf0 rf1 rf2 b0
                    generalize ((W.alloc (.cells #[.int .i64 f.nw, .slice p n c] 55)).alloc (.cells #[.int .i64 (2), .int .i64 (w), .int .i64 (r - 24)] 193)) = W9 at *
                    refine bodyPost_ret (by simp [results, Tryz.results129, go_sem, s0, s1, s2]; try rfl) rfl ?_
                    exact ⟨pl_yes HY.out HP.out, hb9⟩
end Go.Proofs.YtajholbcpmjhiaaGreatDoor
