/- Several texts in one: Ref10E, Ref10A, Ref10Y. -/
import Derived.Test.YtajholbcpmjhiaaGreatDoorH43
set_option linter.unusedVariables false
set_option linter.unusedSimpArgs false
/- The walk of the document's End (muntinref10). -/
namespace Go.Proofs.YtajholbcpmjhiaaGreatDoor
open Go.RowKit Go.Maps
def end10 (q : W8) (cur : Nat) : W8 := lay10 q (64 + 16 * (cur : Int) + 12) 0
theorem five_of {w : World} {b : Nat} {v0 v1 v2 v3 v4 : Value} (h : ARow w b 58 [v0, v1, v2, v3, v4]) : w.cell? ⟨b, 0, none⟩ = some v0 ∧ w.cell? ⟨b, 1, none⟩ = some v1 ∧ w.cell? ⟨b, 2, none⟩ = some v2 ∧ w.cell? ⟨b, 3, none⟩ = some v3 ∧ w.cell? ⟨b, 4, none⟩ = some v4 :=
  ⟨h.cell (k := 0) rfl, h.cell (k := 1) rfl, h.cell (k := 2) rfl, h.cell (k := 3) rfl, h.cell (k := 4) rfl⟩
set_option maxRecDepth 100000 in
set_option maxHeartbeats 4000000 in
theorem r10_end (W : World) (n : Nat) (v : Value) (q : W8) (hq : WAt W n v q) (cur : Nat) (hc4 : cur < 4) (hcur : word10 q 128 = (cur : Int)) :
    Calls Tryz.prog 40 #[v] W fun e w' => ∃ v', e = .returned v' ∧ WAt w' n v' (end10 q cur) ∧ Below W.heap.size W w' ∧ ∀ k, own8 v' k → own8 v k ∨ W.heap.size ≤ k := by
  have hq0 := hq
  obtain ⟨lv, L, g, cap, rfl, hin, hL⟩ := hq
  obtain ⟨p, c, rfl⟩ := hin.log.shape
  obtain ⟨W1, hW1⟩ : ∃ x, x = W.alloc (.cells (q.cells (.slice p L.length c) g cap).toArray 58) := ⟨_, rfl⟩
  have hbw : Below W.heap.size W W1 := by rw [hW1]; exact (Below.refl _ _).alloc (Nat.le_refl _) _
  have hB : ARow W1 W.heap.size 58 (q.cells (.slice p L.length c) g cap) := by rw [hW1]; exact ARow.fresh W _ _
  have hsz1 : W1.heap.size = W.heap.size + 1 := by rw [hW1]; simp
  obtain ⟨W2, hW2⟩ : ∃ x, x = W1.alloc (.cells #[.int .i64 0, .slice none 0 0, .slice none 0 0, .int .i64 0, .int .i64 0] 58) := ⟨_, rfl⟩
  have hb2 : Below W1.heap.size W1 W2 := by rw [hW2]; exact (Below.refl _ _).alloc (Nat.le_refl _) _
  have hR : ARow W2 (W.heap.size + 1) 58 [.int .i64 0, .slice none 0 0, .slice none 0 0, .int .i64 0, .int .i64 0] := by rw [hW2, ← hsz1]; exact ARow.fresh W1 _ _
  have hbw2 := hbw.trans (hb2.mono hbw.size)
  have HB2 := mhid (hB.below hb2)
  have HR2 := mhid hR
  have HBW2 := mhid hbw2
  have HQ2 := mhid (hq0.keep hbw2)
  have HOL := mhid (fun k (hk : own8 (q.agg (.slice p L.length c) g cap) k) => hq0.own_lt hk)
  have HW := mhid (And.intro hW1 hW2)
  unfold W8.agg W8.cells at *
  have hfive := five_of HB2.out
  rw [hW2, hW1] at hfive
  obtain ⟨b0, b1, b2, b3, b4⟩ := hfive
  clear hbw hB hin hb2 hR hbw2 hq0 hW1 hW2
  go_enter Tryz.func40, Tryz.ntmps40
  go_upto_region 1 with (fail)
  rw [← HW.out.1, ← HW.out.2]
  rw [← HW.out.1, ← HW.out.2] at b0 b1 b2 b3 b4
  clear hsz1
  have HFV := mhid (And.intro b0 (And.intro b1 (And.intro b2 (And.intro b3 b4))))
  have HWD := mhid (fun (w' : World) (hb : Below W2.heap.size W2 w') => r10_word w' n _ q (HQ2.out.keep hb) 128 ⟨by decide, by decide⟩)
  rw [hcur] at HWD
  have HBL := mhid (fun (w' : World) => r10_block w' cur (by omega))
  have HLY := mhid (fun (w' : World) (hb : Below W2.heap.size W2 w') => r10_lay w' n _ q (HQ2.out.keep hb) (64 + 16 * (cur : Int) + 12) 0 ⟨by omega, by omega⟩ ⟨by decide, by decide⟩)
  have e12 : IntKind.u32.wrap (64 + 16 * (cur : Int) + 12) = 64 + 16 * (cur : Int) + 12 := IntWalk.u32_in _ (by omega)
  have HKS := mhid (show ∀ w', Below W2.heap.size W2 w' → w'.cell? ⟨W.heap.size, 0, none⟩ = some (.int .i64 q.f.nw) ∧ w'.cell? ⟨W.heap.size, 1, none⟩ = some (.slice p L.length c) ∧ w'.cell? ⟨W.heap.size, 2, none⟩ = some (.slice (some ⟨g, 0, none⟩) q.mem.length cap) ∧ w'.cell? ⟨W.heap.size, 3, none⟩ = some (.int .i64 q.cwp) ∧ w'.cell? ⟨W.heap.size, 4, none⟩ = some (.int .i64 q.inv) from fun w' hb => by
    have h := HB2.out.below hb
    exact ⟨h.cell (k := 0) rfl, h.cell (k := 1) rfl, h.cell (k := 2) rfl, h.cell (k := 3) rfl, h.cell (k := 4) rfl⟩)
  have HKO := mhid (show ∀ w1 w', Below W2.heap.size W2 w1 → Only (fun k => k = W.heap.size + 1) w1 w' → w'.cell? ⟨W.heap.size, 0, none⟩ = some (.int .i64 q.f.nw) ∧ w'.cell? ⟨W.heap.size, 1, none⟩ = some (.slice p L.length c) ∧ w'.cell? ⟨W.heap.size, 2, none⟩ = some (.slice (some ⟨g, 0, none⟩) q.mem.length cap) ∧ w'.cell? ⟨W.heap.size, 3, none⟩ = some (.int .i64 q.cwp) ∧ w'.cell? ⟨W.heap.size, 4, none⟩ = some (.int .i64 q.inv) from fun w1 w' hb ho => by
    have h0 := HB2.out.below hb
    have h := h0.of_block (ho.block _ h0.lt (fun (hh : W.heap.size = W.heap.size + 1) => by omega))
    exact ⟨h.cell (k := 0) rfl, h.cell (k := 1) rfl, h.cell (k := 2) rfl, h.cell (k := 3) rfl, h.cell (k := 4) rfl⟩)
  have HRK := mhid (show ∀ w', Below W2.heap.size W2 w' → (w'.cell? ⟨W.heap.size + 1, 0, none⟩ = some (.int .i64 0) ∧ w'.cell? ⟨W.heap.size + 1, 1, none⟩ = some (.slice none 0 0) ∧ w'.cell? ⟨W.heap.size + 1, 2, none⟩ = some (.slice none 0 0) ∧ w'.cell? ⟨W.heap.size + 1, 3, none⟩ = some (.int .i64 0) ∧ w'.cell? ⟨W.heap.size + 1, 4, none⟩ = some (.int .i64 0)) ∧ (w'.frozen? ⟨W.heap.size + 1, 0, none⟩ = false ∧ w'.frozen? ⟨W.heap.size + 1, 1, none⟩ = false ∧ w'.frozen? ⟨W.heap.size + 1, 2, none⟩ = false ∧ w'.frozen? ⟨W.heap.size + 1, 3, none⟩ = false ∧ w'.frozen? ⟨W.heap.size + 1, 4, none⟩ = false) from fun w' hb => by
    have h := HR2.out.below hb
    exact ⟨five_of h, h.frozen 0, h.frozen 1, h.frozen 2, h.frozen 3, h.frozen 4⟩)
  have hbW : Below W2.heap.size W2 W2.drew := (Below.refl _ _).drew
  clear HFV
  go_region_held3 (fun w' => w'.cell? ⟨W.heap.size, 0, none⟩ = some (.int .i64 q.f.nw) ∧ w'.cell? ⟨W.heap.size, 1, none⟩ = some (.slice p L.length c) ∧ w'.cell? ⟨W.heap.size, 2, none⟩ = some (.slice (some ⟨g, 0, none⟩) q.mem.length cap) ∧ w'.cell? ⟨W.heap.size, 3, none⟩ = some (.int .i64 q.cwp) ∧ w'.cell? ⟨W.heap.size, 4, none⟩ = some (.int .i64 q.inv))
    (first | (with_reducible exact HKS.out _ hbW) | (exact HKO.out _ _ hbW (cp5_only _ _ _ _ _ _ _ rfl)) | (refine HKS.out _ ?_; go_grown; done))
    (first
      | (go_at_call 99; (with_reducible refine (HWD.out _ hbW).mono ?_); rintro e wx ⟨rfl, hb⟩; have hbW := hbW.trans (hb.mono hbW.size); clear hb)
      | (go_at_call 98; (with_reducible refine (HBL.out _).mono ?_); rintro e wy ⟨rfl, rfl⟩)
      | (go_at_call 97; (with_reducible refine (HLY.out _ hbW).mono ?_); rintro e wz ⟨v2, rfl, hq2, hb, ho2⟩; have HQ3 := mhid hq2; have HO3 := mhid (show ∀ k, _ → _ ∨ W2.heap.size ≤ k from fun k hk => (ho2 k hk).imp id (fun h => Nat.le_trans hbW.size h)); have hbW := hbW.trans (hb.mono hbW.size); obtain ⟨lv2, L2, g2, cap2, rfl, hin2, hL2⟩ := hq2; obtain ⟨p2, c2, rfl⟩ := hin2.log.shape; obtain ⟨⟨r0, r1, r2, r3, r4⟩, rf0, rf1, rf2, rf3, rf4⟩ := HRK.out _ hbW; unfold W8.agg; clear hb hin2 hL2 ho2))
  have hr9 := cp5_row (HR2.out.below hbW) (.int .i64 (end10 q cur).f.nw) (.slice p2 L2.length c2) (.slice (some ⟨g2, 0, none⟩) (end10 q cur).mem.length cap2) (.int .i64 (end10 q cur).cwp) (.int .i64 (end10 q cur).inv)
  have ho9 : Only (fun k => k = W.heap.size + 1) wz (cp5 wz (W.heap.size + 1) (.int .i64 (end10 q cur).f.nw) (.slice p2 L2.length c2) (.slice (some ⟨g2, 0, none⟩) (end10 q cur).mem.length cap2) (.int .i64 (end10 q cur).cwp) (.int .i64 (end10 q cur).inv)) := cp5_only _ _ _ _ _ _ _ rfl
  change Exit.then _ _ _ _ (cp5 wz (W.heap.size + 1) (.int .i64 (end10 q cur).f.nw) (.slice p2 L2.length c2) (.slice (some ⟨g2, 0, none⟩) (end10 q cur).mem.length cap2) (.int .i64 (end10 q cur).cwp) (.int .i64 (end10 q cur).inv))
  generalize cp5 wz (W.heap.size + 1) (.int .i64 (end10 q cur).f.nw) (.slice p2 L2.length c2) (.slice (some ⟨g2, 0, none⟩) (end10 q cur).mem.length cap2) (.int .i64 (end10 q cur).cwp) (.int .i64 (end10 q cur).inv) = W9 at *
  clear r0 r1 r2 r3 r4 rf0 rf1 rf2 rf3 rf4 b0 b1 b2 b3 b4
  have s0 := hr9.cell (k := 0) rfl
  have s1 := hr9.cell (k := 1) rfl
  have s2 := hr9.cell (k := 2) rfl
  have s3 := hr9.cell (k := 3) rfl
  have s4 := hr9.cell (k := 4) rfl
  go_wp2_with fail
  refine bodyPost_ret (by simp [results, Tryz.results40, go_sem, s0, s1, s2, s3, s4]; try rfl) rfl ?_
  have hsz2 : W.heap.size + 1 < W2.heap.size := HR2.out.lt
  have hwz := hbW.size
  have hown : ∀ k, own8 ((end10 q cur).agg (.slice p2 L2.length c2) g2 cap2) k → own8 (.agg #[.int .i64 q.f.nw, .slice p L.length c, .slice (some ⟨g, 0, none⟩) q.mem.length cap, .int .i64 q.cwp, .int .i64 q.inv]) k ∨ W2.heap.size ≤ k := fun k hk => (HO3.out k hk).imp id (fun h => by
    have := h; omega)
  refine ⟨(end10 q cur).agg (.slice p2 L2.length c2) g2 cap2, rfl, HQ3.out.only ho9 (fun k hk e => ?_), HBW2.out.trans ((hbW.mono HBW2.out.size).trans (ho9.below (by omega) (fun k hk e => by omega))), fun k hk => (hown k hk).imp id (fun h => by omega)⟩
  rcases hown k hk with h | h
  · have := HOL.out k h; omega
  · omega
end Go.Proofs.YtajholbcpmjhiaaGreatDoor
/- The walk of the document's Alive (muntinref10). -/
namespace Go.Proofs.YtajholbcpmjhiaaGreatDoor
open Go.RowKit Go.Maps
theorem owns_below10 {w w' : World} {B size n : Nat} {e : TypeId} {v : Value} {xs : List Value} (h : w.ownsRow B e size v n xs) (hb : Below w.heap.size w w') : w'.ownsRow B e size v n xs := by
  refine ⟨h.1, ?_⟩
  rcases h.2 with h | ⟨g, cap, cur, h1, h2, h3, h4⟩
  · exact .inl h
  · exact .inr ⟨g, cap, cur, h1, h2, (hb.block g (lt_of_block h3)).trans h3, h4⟩
def live10 (q : W8) : Nat → List Int
  | 0 => []
  | t + 1 => live10 q t ++ (if word10 q (64 + 16 * (t : Int) + 12) = 1 then [(t : Int)] else [])
theorem live10_len (q : W8) : ∀ t, (live10 q t).length ≤ t
  | 0 => Nat.le_refl _
  | t + 1 => by unfold live10; rw [List.length_append]; have := live10_len q t; split <;> simp <;> omega
set_option maxRecDepth 100000 in
set_option maxHeartbeats 4000000 in
theorem r10_alive (W : World) (n : Nat) (v : Value) (q : W8) (hq : WAt W n v q) (T : Nat) (hT4 : T ≤ 4) (hT : word10 q 132 = (T : Int)) :
    Calls Tryz.prog 103 #[v] W fun e w' => ∃ v', e = .returned v' ∧ Reads32 w' v' (live10 q T) ∧ Below W.heap.size W w' := by
  have hq0 := hq
  obtain ⟨lv, L, g, cap, rfl, hin, hL⟩ := hq
  obtain ⟨p, c, rfl⟩ := hin.log.shape
  obtain ⟨W1, hW1⟩ : ∃ x, x = W.alloc (.cells (q.cells (.slice p L.length c) g cap).toArray 58) := ⟨_, rfl⟩
  have hbw : Below W.heap.size W W1 := by rw [hW1]; exact (Below.refl _ _).alloc (Nat.le_refl _) _
  have hB : ARow W1 W.heap.size 58 (q.cells (.slice p L.length c) g cap) := by rw [hW1]; exact ARow.fresh W _ _
  have HB2 := mhid hB
  have HBW2 := mhid hbw
  have HQ2 := mhid (hq0.keep hbw)
  have HW := mhid hW1
  unfold W8.agg W8.cells at *
  have HWT := mhid (fun (w' : World) (hb : Below W1.heap.size W1 w') => r10_word w' n _ q (HQ2.out.keep hb) 132 ⟨by decide, by decide⟩)
  rw [hT] at HWT
  have HWD := mhid (fun (w' : World) (a : Int) (ha : 0 ≤ a ∧ a < 4294967296) (hb : Below W1.heap.size W1 w') => r10_word w' n _ q (HQ2.out.keep hb) a ha)
  have HKS := mhid (show ∀ w', Below W1.heap.size W1 w' → w'.cell? ⟨W.heap.size, 0, none⟩ = some (.int .i64 q.f.nw) ∧ w'.cell? ⟨W.heap.size, 1, none⟩ = some (.slice p L.length c) ∧ w'.cell? ⟨W.heap.size, 2, none⟩ = some (.slice (some ⟨g, 0, none⟩) q.mem.length cap) ∧ w'.cell? ⟨W.heap.size, 3, none⟩ = some (.int .i64 q.cwp) ∧ w'.cell? ⟨W.heap.size, 4, none⟩ = some (.int .i64 q.inv) from fun w' hb => by
    have h := HB2.out.below hb
    exact ⟨h.cell (k := 0) rfl, h.cell (k := 1) rfl, h.cell (k := 2) rfl, h.cell (k := 3) rfl, h.cell (k := 4) rfl⟩)
  clear hbw hB hin hq0 hW1
  obtain ⟨i0, hi, hz0, hz1, hz2⟩ := info_parts info32
  go_enter Tryz.func103, Tryz.ntmps103
  go_wp2_with fail
  rw [← HW.out]
  clear HW
  go_loopw [3, 4] (fun v i wr => ∃ k : Nat, k ≤ T ∧ i = .int .u32 k ∧ Hid (wr.ownsRow W1.heap.size 24 1 v (live10 q k).length (u32s (live10 q k))) ∧ Hid (Below W1.heap.size W1 wr)) (fun _ i _ => T - (intOf i).toNat)
  case atStart => exact ⟨0, Nat.zero_le _, rfl, mhid (World.ownsRow_nil _ _ _ _), mhid (Below.refl _ _)⟩
  case round =>
    obtain ⟨k, hk, rfl, HO, HBL⟩ := hrel
    obtain ⟨b0, b1, b2, b3, b4⟩ := HKS.out wr HBL.out
    have hwt := HWT.out wr HBL.out
    have HWT1 := mhid hwt
    clear hwt
    by_cases hlt : k < T
    · have hkT : (k : Int) < (T : Int) := by omega
      go_wp2_with fail
      refine HWT1.out.mono ?_
      rintro e w2 ⟨rfl, hb2⟩
      have HBL2 := mhid (HBL.out.trans (hb2.mono HBL.out.size))
      have HO2 := mhid (owns_below10 HO.out hb2)
      clear hb2 b0 b1 b2 b3 b4 HWT1
      obtain ⟨b0, b1, b2, b3, b4⟩ := HKS.out w2 HBL2.out
      have e12 : IntKind.u32.wrap (64 + 16 * (k : Int) + 12) = 64 + 16 * (k : Int) + 12 := IntWalk.u32_in _ (by omega)
      have e1 : IntKind.u32.wrap ((k : Int) + 1) = ((k + 1 : Nat) : Int) := by rw [IntWalk.u32_in _ (by omega)]; omega
      have HBK := mhid (fun (w' : World) => r10_block w' k (by omega))
      have HW1 := mhid (fun (w' : World) (hb : Below w2.heap.size w2 w') => HWD.out w' (64 + 16 * (k : Int) + 12) ⟨by omega, by omega⟩ (HBL2.out.trans (hb.mono HBL2.out.size)))
      have HKS2 := mhid (fun (w' : World) (hb : Below w2.heap.size w2 w') => HKS.out w' (HBL2.out.trans (hb.mono HBL2.out.size)))
      have hls : live10 q (k + 1) = live10 q k ++ (if word10 q (64 + 16 * (k : Int) + 12) = 1 then [(k : Int)] else []) := rfl
      have HLS := mhid hls
      clear hls
      obtain ⟨x, hx⟩ : ∃ x, x = word10 q (64 + 16 * (k : Int) + 12) := ⟨_, rfl⟩
      rw [← hx] at HLS HW1
      clear hx
      have hbW : Below w2.heap.size w2 w2.drew := (Below.refl _ _).drew
      by_cases hx1 : x = 1
      · have hd : (x == 1) = true := by rw [beq_iff_eq]; exact hx1
        rw [if_pos hx1] at HLS
        clear hx1
        go_upto_region 5 with (fail)
        go_region_held3 (fun w' => w'.cell? ⟨W.heap.size, 0, none⟩ = some (.int .i64 q.f.nw) ∧ w'.cell? ⟨W.heap.size, 1, none⟩ = some (.slice p L.length c) ∧ w'.cell? ⟨W.heap.size, 2, none⟩ = some (.slice (some ⟨g, 0, none⟩) q.mem.length cap) ∧ w'.cell? ⟨W.heap.size, 3, none⟩ = some (.int .i64 q.cwp) ∧ w'.cell? ⟨W.heap.size, 4, none⟩ = some (.int .i64 q.inv))
          (first | (with_reducible exact HKS2.out _ hbW) | (refine HKS2.out _ ?_; go_grown; done))
          (first
            | (go_at_call 99; (with_reducible refine (HW1.out _ hbW).mono ?_); rintro e wx ⟨rfl, hb⟩; have hbW := hbW.trans (hb.mono hbW.size); clear hb)
            | (go_at_call 98; (with_reducible refine (HBK.out _).mono ?_); rintro e wy ⟨rfl, rfl⟩))
        all_goals
          have HBL3 := mhid (HBL2.out.trans (hbW.mono HBL2.out.size))
          have hown := owns_below10 HO2.out hbW
          have q2 : (live10 q k).length + 1 ≤ maxLen := by have := live10_len q k; unfold maxLen; omega
          have q3 : ((live10 q k).length + 1) * 4 ≤ 140737488355328 := by have := live10_len q k; omega
          have q4 := HBL3.out.size
          clear hbW b0 b1 b2 b3 b4
          go_wp2_with (at_builtin; refine wpList_append_own _ rfl _ _ 22 rfl W1.heap.size 24 i0 (.int .u32 0) 1 4 Tryz.underlying22 hi hz0 hz1 hz2 rfl (by decide) _ (live10 q k).length (u32s (live10 q k)) rfl (hown.alloc _) ⟨_, 0, none⟩ 1 1 [.int .u32 k] rfl rfl (cell_one_new _ _ _) (by simp [Value.oneCell']) q2 q3 (by simp; omega) ?_; intro v' w1 hown1 hgrow1 hnil)
          have hb1 : Below W1.heap.size W1 w1 := (HBL3.out.alloc q4 _).grown hgrow1 (by simp; omega) (fun r e => ((hown.alloc (.cells #[.int .u32 k] 24)).lt r e).1)
          go_roundw
          case rel => exact ⟨k + 1, by omega, by go_num, mhid (by rw [HLS.out]; simpa [u32s] using hown1), mhid hb1⟩
          case measure => simp [intOf] <;> omega
      · have hd : (x == 1) = false := by rw [beq_eq_false_iff_ne]; exact hx1
        rw [if_neg hx1, List.append_nil] at HLS
        go_upto_region 5 with (fail)
        go_region_held3 (fun w' => w'.cell? ⟨W.heap.size, 0, none⟩ = some (.int .i64 q.f.nw) ∧ w'.cell? ⟨W.heap.size, 1, none⟩ = some (.slice p L.length c) ∧ w'.cell? ⟨W.heap.size, 2, none⟩ = some (.slice (some ⟨g, 0, none⟩) q.mem.length cap) ∧ w'.cell? ⟨W.heap.size, 3, none⟩ = some (.int .i64 q.cwp) ∧ w'.cell? ⟨W.heap.size, 4, none⟩ = some (.int .i64 q.inv))
          (first | (with_reducible exact HKS2.out _ hbW) | (refine HKS2.out _ ?_; go_grown; done))
          (first
            | (go_at_call 99; (with_reducible refine (HW1.out _ hbW).mono ?_); rintro e wx ⟨rfl, hb⟩; have hbW := hbW.trans (hb.mono hbW.size); clear hb)
            | (go_at_call 98; (with_reducible refine (HBK.out _).mono ?_); rintro e wy ⟨rfl, rfl⟩))
        all_goals
          have HBL3 := mhid (HBL2.out.trans (hbW.mono HBL2.out.size))
          have HO3 := mhid (owns_below10 HO2.out hbW)
          clear hbW b0 b1 b2 b3 b4
          go_wp2_with fail
          exact ⟨⟨k + 1, by omega, by go_num, by rw [HLS.out]; exact HO3, HBL3⟩, by simp [intOf] <;> omega⟩
    · obtain rfl : k = T := by omega
      go_wp2_with fail
      refine HWT1.out.mono ?_
      rintro e w2 ⟨rfl, hb2⟩
      have HBL2 := mhid (HBL.out.trans (hb2.mono HBL.out.size))
      have HO2 := mhid (owns_below10 HO.out hb2)
      clear hb2 b0 b1 b2 b3 b4 HWT1
      go_wp2_with fail
      first
        | go_ret2
        | go_ret
      exact ⟨_, rfl, Reads32.of_own HO2.out, HBW2.out.trans (HBL2.out.mono HBW2.out.size)⟩
end Go.Proofs.YtajholbcpmjhiaaGreatDoor
/- The walk of the document's Yield (muntinref10). -/
namespace Go.Proofs.YtajholbcpmjhiaaGreatDoor
open Go.RowKit Go.Maps
theorem cell_of_obj10 {w : World} {b i : Nat} {xs : Array Value} {t : TypeId} {fz : Nat × Nat} (h : w.heap[b]? = some (.cells xs t fz)) : w.cell? ⟨b, i, none⟩ = xs[i]? := by simp [World.cell?, h]
theorem own_i64s {w : World} {B : Nat} {p : Option Addr} {n c : Nat} {l : List Int} (h : w.ownsRow B 3 1 (.slice p n c) n (i64s l)) (hn : n = l.length) :
    ∃ g, B ≤ g ∧ (0 < l.length → p = some ⟨g, 0, none⟩) ∧ ∀ (k : Nat) (x : Int), l[k]? = some x → w.cell? ⟨g, k, none⟩ = some (.int .i64 x) := by
  subst hn
  rcases h.2 with ⟨h1, h0⟩ | ⟨g, cap, cur, h1, h2, h3, h4, h5, h6, h7⟩
  · have : l = [] := List.eq_nil_of_length_eq_zero h0
    subst this
    exact ⟨B, Nat.le_refl _, fun h => by simp at h, fun k x hx => by simp at hx⟩
  · cases h1
    refine ⟨g, h2, fun _ => rfl, fun k x hx => ?_⟩
    have hk : k < l.length := by
      rcases Nat.lt_or_ge k l.length with h | h
      · exact h
      · rw [List.getElem?_eq_none h] at hx; cases hx
    rw [cell_of_obj10 h3]
    have e : (cur.toList.take (l.length * 1))[k]? = (i64s l)[k]? := by rw [h7]
    rw [List.getElem?_take_of_lt (by omega)] at e
    rw [← Array.getElem?_toList, e]
    simp [i64s, hx]
theorem own_shape10 {w : World} {B : Nat} {v : Value} {l : List Int} (h : w.ownsRow B 3 1 v l.length (i64s l)) : ∃ p c, v = .slice p l.length c := by
  rcases h.2 with ⟨h1, h0⟩ | ⟨g, cap, cur, h1, _⟩
  · exact ⟨none, 0, by rw [h1, h0]⟩
  · exact ⟨_, _, h1⟩
def zeros5 : List Value := [.int .i64 0, .slice none 0 0, .slice none 0 0, .int .i64 0, .int .i64 0]
structure YW (W wr : World) (n : Nat) (v0 : Value) (q : W8) : Prop where
  bel : Below W.heap.size W wr
  ex : ∃ (p : Option Addr) (m c g cap : Nat), ARow wr W.heap.size 58 (q.cells (.slice p m c) g cap) ∧ WAt wr n (q.agg (.slice p m c) g cap) q ∧ ∀ k, own8 (q.agg (.slice p m c) g cap) k → (own8 v0 k ∨ W.heap.size ≤ k) ∧ k ≠ W.heap.size ∧ k ≠ W.heap.size + 1
  res : ARow wr (W.heap.size + 1) 58 zeros5
theorem YW.keep {W wr w' : World} {n : Nat} {v0 : Value} {q : W8} (h : YW W wr n v0 q) (hb : Below wr.heap.size wr w') : YW W w' n v0 q := by
  obtain ⟨a, ⟨p, m, c, g, cap, b1, b2, b3⟩, d⟩ := h
  exact ⟨a.trans (hb.mono a.size), ⟨p, m, c, g, cap, b1.below hb, b2.keep hb, b3⟩, d.below hb⟩
theorem YW.put {W wr w' : World} {n n' : Nat} {v0 : Value} {q q' : W8} (h : YW W wr n v0 q) (hb : Below wr.heap.size wr w') {p : Option Addr} {m c g cap : Nat} (hq : WAt w' n' (q'.agg (.slice p m c) g cap) q')
    (ho : ∀ k, own8 (q'.agg (.slice p m c) g cap) k → ((own8 v0 k ∨ W.heap.size ≤ k) ∧ k ≠ W.heap.size ∧ k ≠ W.heap.size + 1) ∨ wr.heap.size ≤ k) :
    YW W (cp5 w' W.heap.size (.int .i64 q'.f.nw) (.slice p m c) (.slice (some ⟨g, 0, none⟩) q'.mem.length cap) (.int .i64 q'.cwp) (.int .i64 q'.inv)) n' v0 q' := by
  obtain ⟨a, ⟨p0, m0, c0, g0, cap0, b1, b2, b3⟩, d⟩ := h
  have hs := d.lt
  have hs0 := b1.lt
  have hbs := hb.size
  have ho9 : Only (fun k => k = W.heap.size) w' (cp5 w' W.heap.size (.int .i64 q'.f.nw) (.slice p m c) (.slice (some ⟨g, 0, none⟩) q'.mem.length cap) (.int .i64 q'.cwp) (.int .i64 q'.inv)) := cp5_only _ _ _ _ _ _ _ rfl
  have hr9 := cp5_row (b1.below hb) (.int .i64 q'.f.nw) (.slice p m c) (.slice (some ⟨g, 0, none⟩) q'.mem.length cap) (.int .i64 q'.cwp) (.int .i64 q'.inv)
  have ho2 : ∀ k, own8 (q'.agg (.slice p m c) g cap) k → (own8 v0 k ∨ W.heap.size ≤ k) ∧ k ≠ W.heap.size ∧ k ≠ W.heap.size + 1 := fun k hk => by
    rcases ho k hk with h | h
    · exact h
    · exact ⟨.inr (by omega), by omega, by omega⟩
  exact ⟨a.trans ((hb.mono a.size).trans (ho9.below (Nat.le_trans a.size hbs) (fun k hk e => by omega))), ⟨p, m, c, g, cap, hr9, hq.only ho9 (fun k hk e => (ho2 k hk).2.1 e), ho2⟩, (d.below hb).of_block (ho9.block _ (by omega) (fun (e : W.heap.size + 1 = W.heap.size) => by omega))⟩
structure YN (W wr w' : World) (n blk : Nat) (v0 : Value) (q2 : W8) (p : Option Addr) (m c g cap : Nat) : Prop where
  row : ARow w' blk 58 (q2.cells (.slice p m c) g cap)
  bel : Below wr.heap.size wr w'
  is : WAt w' n (q2.agg (.slice p m c) g cap) q2
  own : ∀ k, own8 (q2.agg (.slice p m c) g cap) k → ((own8 v0 k ∨ W.heap.size ≤ k) ∧ k ≠ W.heap.size ∧ k ≠ W.heap.size + 1) ∨ wr.heap.size ≤ k
theorem YW.start {W : World} {n : Nat} {q : W8} {p : Option Addr} {m c g cap : Nat} (hq : WAt W n (q.agg (.slice p m c) g cap) q) : YW W ((W.alloc (.cells (q.cells (.slice p m c) g cap).toArray 58)).alloc (.cells zeros5.toArray 58)) n (q.agg (.slice p m c) g cap) q := by
  have hb1 : Below W.heap.size W (W.alloc (.cells (q.cells (.slice p m c) g cap).toArray 58)) := (Below.refl _ _).alloc (Nat.le_refl _) _
  have hs1 : (W.alloc (.cells (q.cells (.slice p m c) g cap).toArray 58)).heap.size = W.heap.size + 1 := by simp
  have hb2 : Below W.heap.size W ((W.alloc (.cells (q.cells (.slice p m c) g cap).toArray 58)).alloc (.cells zeros5.toArray 58)) := hb1.alloc (by rw [hs1]; omega) _
  refine ⟨hb2, ⟨p, m, c, g, cap, (ARow.fresh W _ _).alloc _, hq.keep hb2, fun k hk => ⟨.inl hk, ?_, ?_⟩⟩, ?_⟩
  · have := hq.own_lt hk; omega
  · have := hq.own_lt hk; omega
  · have := ARow.fresh (W.alloc (.cells (q.cells (.slice p m c) g cap).toArray 58)) 58 zeros5.toArray
    rw [hs1] at this
    exact this
def flush10 (q : W8) : Nat → W8
  | 0 => q
  | k + 1 => store8 (flush10 q k) ((q.cwp + (k : Int)) % q.f.nw)
theorem flush10_f (q : W8) : ∀ k, (flush10 q k).f = q.f ∧ (flush10 q k).cwp = q.cwp ∧ (flush10 q k).inv = q.inv
  | 0 => ⟨rfl, rfl, rfl⟩
  | k + 1 => flush10_f q k
def yield10 (q : W8) (n cur : Nat) (pc : Int) : W8 := lay10 (lay10 (flush10 q n) (64 + 16 * (cur : Int)) pc) (64 + 16 * (cur : Int) + 4) (frame8 q q.cwp)
theorem frame_flush (q : W8) (k : Nat) (wi : Int) : frame8 (flush10 q k) wi = frame8 q wi := by unfold frame8; rw [(flush10_f q k).1]
set_option maxRecDepth 100000 in
set_option maxHeartbeats 8000000 in
theorem r10_yield (W : World) (n : Nat) (v : Value) (q : W8) (hq : WAt W n v q) (hn : n < 1000000) (hc : 0 ≤ q.cwp ∧ q.cwp < q.f.nw) (hi : 0 ≤ q.inv ∧ q.inv < q.f.nw) (pc : Int) (hpc : 0 ≤ pc ∧ pc < 4294967296) (N : Nat) (hN : N = ((q.inv - q.cwp) % (q.f.nw : Int)).toNat)
    (hcan : ∀ k, k < N → can8 (flush10 q k) ((q.cwp + (k : Int)) % q.f.nw) = true) (cur : Nat) (hc4 : cur < 4) (hcur : word10 (flush10 q N) 128 = (cur : Int)) :
    Calls Tryz.prog 41 #[v, .int .u32 pc] W (Gives8 W n v (yield10 q N cur pc) true) := by
  have hq0 := hq
  have hnw2 := hq.choose_spec.choose_spec.choose_spec.choose_spec.2.1.ok.nw2
  have hnw32 := hq.choose_spec.choose_spec.choose_spec.choose_spec.2.1.ok.nw32
  obtain ⟨lv, L, g, cap, rfl, hin, hL⟩ := hq
  obtain ⟨p, c, rfl⟩ := hin.log.shape
  have HY := mhid (YW.start hq0)
  obtain ⟨W1, hW1⟩ : ∃ x, x = W.alloc (.cells (q.cells (.slice p L.length c) g cap).toArray 58) := ⟨_, rfl⟩
  obtain ⟨W2, hW2⟩ : ∃ x, x = W1.alloc (.cells zeros5.toArray 58) := ⟨_, rfl⟩
  rw [← hW1, ← hW2] at HY
  have hB : ARow W2 W.heap.size 58 (q.cells (.slice p L.length c) g cap) := by rw [hW2, hW1]; exact (ARow.fresh W _ _).alloc _
  have HW := mhid (And.intro hW1 hW2)
  have b0 := hB.cell (k := 0) rfl
  have b3 := hB.cell (k := 3) rfl
  have b4 := hB.cell (k := 4) rfl
  have HB := mhid hB
  rw [hW2, hW1] at b0 b3 b4
  unfold W8.cells zeros5 at HW b0 b3 b4
  have HN := mhid hN
  clear hin hq0 hW1 hW2 hB hN
  go_enter Tryz.func41, Tryz.ntmps41
  unfold W8.agg
  go_wp2_with fail
  rw [← HW.out.1, ← HW.out.2]
  rw [← HW.out.1, ← HW.out.2] at b0 b3 b4
  clear HW
  refine (rwim_any q.inv q.f.nw W2).mono ?_
  rintro e w' ⟨rfl, rfl⟩
  have hokw : okW q.inv (q.f.nw : Int) := ⟨⟨by omega, by omega⟩, hi.1, hi.2⟩
  obtain ⟨iv, hiv⟩ := Int.eq_ofNat_of_zero_le hi.1
  have hwv : wimV q.inv (q.f.nw : Int) = 2 ^ iv := by unfold wimV; rw [if_pos hokw, hiv, Int.toNat_natCast]
  have hin2 := inv_powV (nw := q.f.nw) (k := iv) hnw2 hnw32 (by omega)
  have hine := inv_pow (nw := q.f.nw) (k := iv) hnw2 hnw32 (by omega)
  have hwlt := wim_lt (k := iv) (nw := q.f.nw) hnw32 (by omega)
  have hres : resV q.cwp (2 ^ iv) q.f.nw = resK q.cwp q.f.nw N := by
    unfold resV resL
    rw [if_pos ⟨(⟨⟨by omega, by omega⟩, hc.1, hc.2⟩ : okW q.cwp (q.f.nw : Int)), hine⟩, hin2, HN.out, hiv]
  rw [hwv]
  have HRS := mhid (rresident_any q.cwp (2 ^ iv) q.f.nw (Int.pow_nonneg (by decide)) hwlt W2)
  rw [hres] at HRS
  clear hokw hwv hin2 hine hwlt hres
  go_wp2_with fail
  refine HRS.out.mono ?_
  rintro e W3 ⟨rv, rfl, hrow, hb3⟩
  have hN32 : N < 32 := by
    rw [HN.out]
    have h1 := Int.emod_nonneg (q.inv - q.cwp) (show (q.f.nw : Int) ≠ 0 by omega)
    have h2 := Int.emod_lt_of_pos (q.inv - q.cwp) (show (0 : Int) < q.f.nw by omega)
    omega
  rw [resK_len] at hrow
  have hrow2 : W3.ownsRow W2.heap.size 3 1 rv (resK q.cwp q.f.nw N).length (i64s (resK q.cwp q.f.nw N)) := by rw [resK_len]; exact hrow
  obtain ⟨pr, cr, rfl⟩ := own_shape10 hrow2
  rw [resK_len] at hrow2 ⊢
  obtain ⟨gr, hgr, hpr, hcell⟩ := own_i64s hrow2 (resK_len _ _ _).symm
  rw [resK_len] at hpr
  have HCE := mhid (show ∀ k, k < N → W3.cell? ⟨gr, k, none⟩ = some (.int .i64 ((q.cwp + (k : Int)) % q.f.nw)) from fun k hk => hcell k _ (by unfold resK; rw [List.getElem?_map, List.getElem?_range hk]; rfl))
  have hsz2 : W.heap.size + 1 < W2.heap.size := HY.out.res.lt
  have HGR := mhid (show gr ≠ W.heap.size by omega)
  have HY3 := mhid (HY.out.keep hb3)
  have HPR := mhid hpr
  clear hrow hrow2 hgr hcell hb3 HRS HY HB b0 b3 b4 hsz2 hpr hiv
  go_wp2_with fail
  go_loopw [5, 10] (fun t5 i wr => t5 = .bool false ∧ ∃ k : Nat, k ≤ N ∧ i = .int .i64 k ∧ Hid (YW W wr n (q.agg (.slice p L.length c) g cap) (flush10 q k)) ∧ Hid (Only (fun k => k = W.heap.size) W3 wr)) (fun _ i _ => N - (intOf i).toNat)
  case atStart => exact ⟨rfl, 0, Nat.zero_le _, rfl, HY3, mhid (Only.refl _ _)⟩
  case round =>
    clear HY3
    obtain ⟨rfl, k, hk, rfl, HY, HO⟩ := hrel
    have e3 : IntKind.i64.wrap ((k : Int) + 1) = ((k + 1 : Nat) : Int) := by rw [IntWalk.i64_in _ (by omega)]; omega
    by_cases hlt : k < N
    · have hkN : (k : Int) < (N : Int) := by omega
      obtain rfl : pr = some ⟨gr, 0, none⟩ := HPR.out (by omega)
      have hcb := World.block_lt_of_cell? _ _ (HCE.out k hlt)
      have hce := (HO.out.cell (p := ⟨gr, k, none⟩) hcb HGR.out).trans (HCE.out k hlt)
      obtain ⟨p1, m1, c1, g1, cap1, hb1, hq1, ho1⟩ := HY.out.ex
      have HB1 := mhid hb1
      have HQ1 := mhid hq1
      have HO1 := mhid ho1
      obtain ⟨f1, f2, f3⟩ := flush10_f q k
      have hwi : 0 ≤ (q.cwp + (k : Int)) % q.f.nw ∧ (q.cwp + (k : Int)) % q.f.nw < (flush10 q k).f.nw := by
        rw [f1]; exact ⟨Int.emod_nonneg _ (by omega), Int.emod_lt_of_pos _ (by omega)⟩
      have HST := mhid (fun (w' : World) (hb : Below wr.heap.size wr w') => r8_stored w' n _ (flush10 q k) (HQ1.out.keep hb) hn ((q.cwp + (k : Int)) % q.f.nw) hwi)
      rw [hcan k hlt] at HST
      have hfs : store8 (flush10 q k) ((q.cwp + (k : Int)) % q.f.nw) = flush10 q (k + 1) := rfl
      rw [hfs] at HST
      obtain ⟨q2, hq2e⟩ : ∃ x, x = flush10 q (k + 1) := ⟨_, rfl⟩
      rw [← hq2e] at HST
      have HQE := mhid hq2e
      clear hb1 hq1 ho1 hfs f1 f2 f3 hq2e
      generalize flush10 q k = q1 at *
      generalize hwie : (q.cwp + (k : Int)) % q.f.nw = wi at *
      have HWI := mhid hwie
      clear hwie
      unfold W8.agg at HST
      unfold W8.cells at HB1
      have HKS := mhid (show ∀ w', Below wr.heap.size wr w' → (w'.cell? ⟨W.heap.size, 0, none⟩ = some (.int .i64 q1.f.nw) ∧ w'.cell? ⟨W.heap.size, 1, none⟩ = some (.slice p1 m1 c1) ∧ w'.cell? ⟨W.heap.size, 2, none⟩ = some (.slice (some ⟨g1, 0, none⟩) q1.mem.length cap1) ∧ w'.cell? ⟨W.heap.size, 3, none⟩ = some (.int .i64 q1.cwp) ∧ w'.cell? ⟨W.heap.size, 4, none⟩ = some (.int .i64 q1.inv)) ∧ w'.cell? ⟨gr, k, none⟩ = some (.int .i64 wi) from fun w' hb => ⟨five_of (HB1.out.below hb), (hb.cell (World.block_lt_of_cell? _ _ hce)).trans hce⟩)
      have hbW : Below wr.heap.size wr wr.drew := (Below.refl _ _).drew
      have hle0 : wr.heap.size ≤ wr.heap.size := Nat.le_refl _
      obtain ⟨⟨b0, b1, b2, b3, b4⟩, hcc⟩ := HKS.out wr (Below.refl _ _)
      go_upto_region 6 with (fail)
      go_cut [11, 12] from 33 to 51 (fun t11 t12 w' => ∃ (blk : Nat) (p2 : Option Addr) (m2 c2 g2 cap2 : Nat), t11 = .pointer (some ⟨blk, 0, none⟩) ∧ t12 = .bool true ∧ Hid (YN W wr w' n blk (q.agg (.slice p L.length c) g cap) q2 p2 m2 c2 g2 cap2))
      case first =>
        go_region_held3 (fun w' => (w'.cell? ⟨W.heap.size, 0, none⟩ = some (.int .i64 q1.f.nw) ∧ w'.cell? ⟨W.heap.size, 1, none⟩ = some (.slice p1 m1 c1) ∧ w'.cell? ⟨W.heap.size, 2, none⟩ = some (.slice (some ⟨g1, 0, none⟩) q1.mem.length cap1) ∧ w'.cell? ⟨W.heap.size, 3, none⟩ = some (.int .i64 q1.cwp) ∧ w'.cell? ⟨W.heap.size, 4, none⟩ = some (.int .i64 q1.inv)) ∧ w'.cell? ⟨gr, k, none⟩ = some (.int .i64 wi))
          (first | (refine HKS.out _ ?_; go_grown; done))
          (first | (go_at_call 72; (with_reducible refine (HST.out _ (by go_grown)).mono ?_); rintro e wx ⟨v2, rfl, hq2, hb, ho2⟩; have hbx : Below wr.heap.size wr wx := Below.trans (by go_grown) (hb.mono (by go_grown)); have hle1 : wr.heap.size ≤ wx.heap.size := hbx.size; (try (have hz : ARow wx wr.heap.size 58 [.int .i64 0, .slice none 0 0, .slice none 0 0, .int .i64 0, .int .i64 0] := (ARow.fresh wr.drew 58 #[.int .i64 0, .slice none 0 0, .slice none 0 0, .int .i64 0, .int .i64 0]).below hb; obtain ⟨z0, z1, z2, z3, z4⟩ := five_of hz; have zf0 := hz.frozen 0; have zf1 := hz.frozen 1; have zf2 := hz.frozen 2; have zf3 := hz.frozen 3; have zf4 := hz.frozen 4)); have HQ3 := mhid hq2; have HO3 := mhid ho2; obtain ⟨lv2, L2, g2, cap2, rfl, hin2, hL2⟩ := hq2; obtain ⟨p2, c2, rfl⟩ := hin2.log.shape; unfold W8.agg; clear hin2 hL2 ho2))
        all_goals go_wp2_with fail
        all_goals go_meet
        · have hbx2 := hbx
          refine ⟨wx.heap.size, _, _, _, _, _, rfl, rfl, mhid ⟨ARow.fresh wx _ _, hbx.alloc hbx.size _, HQ3.out.keep ((Below.refl _ _).alloc (Nat.le_refl _) _), fun k hk => ?_⟩⟩
          rcases HO3.out k hk with h | h
          · exact .inl (HO1.out k h)
          · exact .inr h
        · have ho9 : Only (fun k => k = wr.heap.size) wx (cp5 wx wr.heap.size (.int .i64 q2.f.nw) (.slice p2 L2.length c2) (.slice (some ⟨g2, 0, none⟩) q2.mem.length cap2) (.int .i64 q2.cwp) (.int .i64 q2.inv)) := cp5_only _ _ _ _ _ _ _ rfl
          have hown : ∀ k, own8 (q2.agg (.slice p2 L2.length c2) g2 cap2) k → (own8 (.agg #[.int .i64 q1.f.nw, .slice p1 m1 c1, .slice (some ⟨g1, 0, none⟩) q1.mem.length cap1, .int .i64 q1.cwp, .int .i64 q1.inv]) k ∧ k < wr.heap.size) ∨ wr.heap.size + 1 ≤ k := fun k hk => by
            rcases HO3.out k hk with h | h
            · exact .inl ⟨h, HQ1.out.own_lt h⟩
            · refine .inr ?_
              have := h
              simpa using this
          refine ⟨wr.heap.size, p2, L2.length, c2, g2, cap2, rfl, rfl, mhid ⟨cp5_row hz (.int .i64 q2.f.nw) (.slice p2 L2.length c2) (.slice (some ⟨g2, 0, none⟩) q2.mem.length cap2) (.int .i64 q2.cwp) (.int .i64 q2.inv), hbx.trans (ho9.below hbx.size (fun k hk e => by omega)), HQ3.out.only ho9 (fun k hk e => ?_), fun k hk => ?_⟩⟩
          · rcases hown k hk with h | h <;> omega
          · rcases hown k hk with h | h
            · exact .inl (HO1.out k h.1)
            · exact .inr (by omega)
      case rest =>
        obtain ⟨blk, p2, m2, c2, g2, cap2, rfl, rfl, HYN⟩ := hcut
        obtain ⟨w5, rfl⟩ : ∃ W, W = wc := ⟨_, rfl⟩
        have HB5 := mhid (HB1.out.below HYN.out.bel)
        have HR5 := mhid HYN.out.row
        unfold W8.cells at HR5
        obtain ⟨y0, y1, y2, y3, y4⟩ := five_of HR5.out
        obtain ⟨b0, b1, b2, b3, b4⟩ := five_of HB5.out
        have f0 := HB5.out.frozen 0
        have f1 := HB5.out.frozen 1
        have f2 := HB5.out.frozen 2
        have f3 := HB5.out.frozen 3
        have f4 := HB5.out.frozen 4
        have HY2 := mhid (HY.out.put HYN.out.bel HYN.out.is HYN.out.own)
        have HO2 := mhid ((HO.out.trans (Only.of_below (S := fun k => k = W.heap.size) HYN.out.bel |>.mono (fun _ _ h => h))).trans (cp5_only (S := fun k => k = W.heap.size) w5 W.heap.size (.int .i64 q2.f.nw) (.slice p2 m2 c2) (.slice (some ⟨g2, 0, none⟩) q2.mem.length cap2) (.int .i64 q2.cwp) (.int .i64 q2.inv) rfl))
        clear HKS HST hbW hle0 hcc HB1 HQ1 HO1 HY HO HYN HR5 HB5
        go_wp2_with fail
        go_roundw
        case rel => exact ⟨rfl, k + 1, by omega, by go_num, mhid (by rw [← HQE.out]; exact HY2.out), HO2⟩
        case measure => simp [intOf] <;> omega
    · obtain rfl : k = N := by omega
      clear e3 HO HCE HGR HPR
      obtain ⟨p1, m1, c1, g1, cap1, hb1, hq1, ho1⟩ := HY.out.ex
      have HB1 := mhid hb1
      have HQ1 := mhid hq1
      have HO1 := mhid ho1
      have hfr : frame8 (flush10 q k) q.cwp = frame8 q q.cwp := frame_flush _ _ _
      have hcw : (flush10 q k).cwp = q.cwp := (flush10_f q k).2.1
      have HFW := mhid (And.intro hfr hcw)
      have hye : yield10 q k cur pc = lay10 (lay10 (flush10 q k) (64 + 16 * (cur : Int)) pc) (64 + 16 * (cur : Int) + 4) (frame8 q q.cwp) := rfl
      have HYE := mhid hye
      generalize yield10 q k cur pc = qy at *
      clear hb1 hq1 ho1 hfr hcw hye hcan
      generalize flush10 q k = q1 at *
      unfold W8.cells at HB1
      obtain ⟨b0, b1, b2, b3, b4⟩ := five_of HB1.out
      have HWD := mhid (r10_word wr n _ q1 HQ1.out 128 ⟨by decide, by decide⟩)
      rw [hcur] at HWD
      unfold W8.agg at HWD
      have HCU := mhid hcur
      clear hcur
      go_wp2_with fail
      refine HWD.out.mono ?_
      rintro e w6 ⟨rfl, hb6⟩
      have HY6 := mhid (HY.out.keep hb6)
      have HB6 := mhid (HB1.out.below hb6)
      have HQ6 := mhid (HQ1.out.keep hb6)
      clear hb6 HWD HB1 HQ1 HY b0 b1 b2 b3 b4
      obtain ⟨b0, b1, b2, b3, b4⟩ := five_of HB6.out
      have HBK := mhid (fun (w' : World) => r10_block w' cur (by omega))
      have HLY := mhid (fun (w' : World) (hb : Below w6.heap.size w6 w') => r10_lay w' n _ q1 (HQ6.out.keep hb) (64 + 16 * (cur : Int)) pc ⟨by omega, by omega⟩ hpc)
      unfold W8.agg at HLY
      obtain ⟨q3, hq3⟩ : ∃ x, x = lay10 q1 (64 + 16 * (cur : Int)) pc := ⟨_, rfl⟩
      rw [← hq3] at HLY HYE
      have HQ3F := mhid (show q3.f = q1.f ∧ q3.cwp = q1.cwp from by rw [hq3]; exact ⟨rfl, rfl⟩)
      clear hq3
      have hbW : Below w6.heap.size w6 w6.drew := (Below.refl _ _).drew
      go_upto_region 11 with (fail)
      go_region_law (first
        | (go_simp; go_at_call 98; (with_reducible refine (HBK.out _).mono ?_); rintro e wy ⟨rfl, rfl⟩)
        | (go_simp; go_at_call 97; (with_reducible refine (HLY.out _ hbW).mono ?_); rintro e wz ⟨v2, rfl, hq2, hb, ho2⟩; have HQ3 := mhid hq2; have HO3 := mhid (show ∀ k, _ → _ ∨ w6.heap.size ≤ k from fun k hk => (ho2 k hk).imp id (fun h => Nat.le_trans hbW.size h)); have hbW := hbW.trans (hb.mono hbW.size); obtain ⟨lv2, L2, g2, cap2, rfl, hin2, hL2⟩ := hq2; obtain ⟨p2, c2, rfl⟩ := hin2.log.shape; obtain ⟨r0, r1, r2, r3, r4⟩ := five_of (HB6.out.below hbW); have rf0 := (HB6.out.below hbW).frozen 0; have rf1 := (HB6.out.below hbW).frozen 1; have rf2 := (HB6.out.below hbW).frozen 2; have rf3 := (HB6.out.below hbW).frozen 3; have rf4 := (HB6.out.below hbW).frozen 4; unfold W8.agg; clear hb hin2 hL2 ho2))
      all_goals
        have hput := HY6.out.put hbW HQ3.out (fun k hk => (HO3.out k hk).imp (fun h => HO1.out k h) id)
        clear r0 r1 r2 r3 r4 rf0 rf1 rf2 rf3 rf4 b0 b1 b2 b3 b4
        change Exit.then _ _ _ _ (cp5 wz W.heap.size (.int .i64 q3.f.nw) (.slice p2 L2.length c2) (.slice (some ⟨g2, 0, none⟩) q3.mem.length cap2) (.int .i64 q3.cwp) (.int .i64 q3.inv))
        generalize cp5 wz W.heap.size (.int .i64 q3.f.nw) (.slice p2 L2.length c2) (.slice (some ⟨g2, 0, none⟩) q3.mem.length cap2) (.int .i64 q3.cwp) (.int .i64 q3.inv) = W7 at *
        have HY7 := mhid hput
        obtain ⟨p7, m7, c7, g7, cap7, hb7, hq7, ho7⟩ := hput.ex
        have HB7 := mhid hb7
        have HQ7 := mhid hq7
        have HO7 := mhid ho7
        clear hput hb7 hq7 ho7 HQ3 HO3 HY6 HB6 HQ6 HLY hbW
        unfold W8.cells at HB7
        obtain ⟨b0, b1, b2, b3, b4⟩ := five_of HB7.out
        have hfe : frame8 q3 q3.cwp = frame8 q q.cwp := by
          unfold frame8
          rw [HQ3F.out.1, HQ3F.out.2, HFW.out.2]
          exact HFW.out.1
        have hxb : 0 ≤ frame8 q q.cwp ∧ frame8 q q.cwp < 4294967296 := by
          rw [← hfe]
          exact HQ7.out.choose_spec.choose_spec.choose_spec.choose_spec.2.1.ok.gV _ _ _
        have HFR := mhid (fun (w' : World) (hb : Below W7.heap.size W7 w') => r8_frame w' n _ q3 (HQ7.out.keep hb) hn q3.cwp)
        rw [hfe] at HFR
        have HLY := mhid (fun (w' : World) (hb : Below W7.heap.size W7 w') => r10_lay w' n _ q3 (HQ7.out.keep hb) (64 + 16 * (cur : Int) + 4) (frame8 q q.cwp) ⟨by omega, by omega⟩ hxb)
        rw [← HYE.out] at HLY
        unfold W8.agg at HFR HLY
        have e4 : IntKind.u32.wrap (64 + 16 * (cur : Int) + 4) = 64 + 16 * (cur : Int) + 4 := IntWalk.u32_in _ (by omega)
        clear hfe hxb
        generalize frame8 q q.cwp = fr at *
        have HKS := mhid (show ∀ w', Below W7.heap.size W7 w' → w'.cell? ⟨W.heap.size, 0, none⟩ = some (.int .i64 q3.f.nw) ∧ w'.cell? ⟨W.heap.size, 1, none⟩ = some (.slice p7 m7 c7) ∧ w'.cell? ⟨W.heap.size, 2, none⟩ = some (.slice (some ⟨g7, 0, none⟩) q3.mem.length cap7) ∧ w'.cell? ⟨W.heap.size, 3, none⟩ = some (.int .i64 q3.cwp) ∧ w'.cell? ⟨W.heap.size, 4, none⟩ = some (.int .i64 q3.inv) from fun w' hb => five_of (HB7.out.below hb))
        have HKO := mhid (show ∀ w1 w', Below W7.heap.size W7 w1 → Only (fun k => k = W.heap.size + 1) w1 w' → w'.cell? ⟨W.heap.size, 0, none⟩ = some (.int .i64 q3.f.nw) ∧ w'.cell? ⟨W.heap.size, 1, none⟩ = some (.slice p7 m7 c7) ∧ w'.cell? ⟨W.heap.size, 2, none⟩ = some (.slice (some ⟨g7, 0, none⟩) q3.mem.length cap7) ∧ w'.cell? ⟨W.heap.size, 3, none⟩ = some (.int .i64 q3.cwp) ∧ w'.cell? ⟨W.heap.size, 4, none⟩ = some (.int .i64 q3.inv) from fun w1 w' hb ho => by
          have h0 := HB7.out.below hb
          exact five_of (h0.of_block (ho.block _ h0.lt (fun (hh : W.heap.size = W.heap.size + 1) => by omega))))
        have HRK := mhid (show ∀ w', Below W7.heap.size W7 w' → (w'.cell? ⟨W.heap.size + 1, 0, none⟩ = some (.int .i64 0) ∧ w'.cell? ⟨W.heap.size + 1, 1, none⟩ = some (.slice none 0 0) ∧ w'.cell? ⟨W.heap.size + 1, 2, none⟩ = some (.slice none 0 0) ∧ w'.cell? ⟨W.heap.size + 1, 3, none⟩ = some (.int .i64 0) ∧ w'.cell? ⟨W.heap.size + 1, 4, none⟩ = some (.int .i64 0)) ∧ (w'.frozen? ⟨W.heap.size + 1, 0, none⟩ = false ∧ w'.frozen? ⟨W.heap.size + 1, 1, none⟩ = false ∧ w'.frozen? ⟨W.heap.size + 1, 2, none⟩ = false ∧ w'.frozen? ⟨W.heap.size + 1, 3, none⟩ = false ∧ w'.frozen? ⟨W.heap.size + 1, 4, none⟩ = false) from fun w' hb => by
          have h := HY7.out.res.below hb
          exact ⟨five_of h, h.frozen 0, h.frozen 1, h.frozen 2, h.frozen 3, h.frozen 4⟩)
        have hbW : Below W7.heap.size W7 W7.drew := (Below.refl _ _).drew
        go_upto_region 12 with (fail)
        go_region_held3 (fun w' => w'.cell? ⟨W.heap.size, 0, none⟩ = some (.int .i64 q3.f.nw) ∧ w'.cell? ⟨W.heap.size, 1, none⟩ = some (.slice p7 m7 c7) ∧ w'.cell? ⟨W.heap.size, 2, none⟩ = some (.slice (some ⟨g7, 0, none⟩) q3.mem.length cap7) ∧ w'.cell? ⟨W.heap.size, 3, none⟩ = some (.int .i64 q3.cwp) ∧ w'.cell? ⟨W.heap.size, 4, none⟩ = some (.int .i64 q3.inv))
          (first | (with_reducible exact HKS.out _ hbW) | (exact HKO.out _ _ hbW (cp5_only _ _ _ _ _ _ _ rfl)) | (refine HKS.out _ ?_; go_grown; done))
          (first
            | (go_at_call 98; (with_reducible refine (HBK.out _).mono ?_); rintro e wy ⟨rfl, rfl⟩)
            | (go_at_call 102; (with_reducible refine (HFR.out _ hbW).mono ?_); rintro e wx ⟨rfl, hb⟩; have hbW := hbW.trans (hb.mono hbW.size); clear hb)
            | (go_at_call 97; (with_reducible refine (HLY.out _ hbW).mono ?_); rintro e w8 ⟨v2, rfl, hq2, hb, ho2⟩; have HQ8 := mhid hq2; have HO8 := mhid (show ∀ k, _ → _ ∨ W7.heap.size ≤ k from fun k hk => (ho2 k hk).imp id (fun h => Nat.le_trans hbW.size h)); have hbW := hbW.trans (hb.mono hbW.size); obtain ⟨lv8, L8, g8, cap8, rfl, hin8, hL8⟩ := hq2; obtain ⟨p8, c8, rfl⟩ := hin8.log.shape; obtain ⟨⟨r0, r1, r2, r3, r4⟩, rf0, rf1, rf2, rf3, rf4⟩ := HRK.out _ hbW; unfold W8.agg; clear hb hin8 hL8 ho2))
        all_goals
          have hr9 := cp5_row (HY7.out.res.below hbW) (.int .i64 qy.f.nw) (.slice p8 L8.length c8) (.slice (some ⟨g8, 0, none⟩) qy.mem.length cap8) (.int .i64 qy.cwp) (.int .i64 qy.inv)
          have ho9 : Only (fun k => k = W.heap.size + 1) w8 (cp5 w8 (W.heap.size + 1) (.int .i64 qy.f.nw) (.slice p8 L8.length c8) (.slice (some ⟨g8, 0, none⟩) qy.mem.length cap8) (.int .i64 qy.cwp) (.int .i64 qy.inv)) := cp5_only _ _ _ _ _ _ _ rfl
          change Exit.then _ _ _ _ (cp5 w8 (W.heap.size + 1) (.int .i64 qy.f.nw) (.slice p8 L8.length c8) (.slice (some ⟨g8, 0, none⟩) qy.mem.length cap8) (.int .i64 qy.cwp) (.int .i64 qy.inv))
          generalize cp5 w8 (W.heap.size + 1) (.int .i64 qy.f.nw) (.slice p8 L8.length c8) (.slice (some ⟨g8, 0, none⟩) qy.mem.length cap8) (.int .i64 qy.cwp) (.int .i64 qy.inv) = W9 at *
          clear r0 r1 r2 r3 r4 rf0 rf1 rf2 rf3 rf4 b0 b1 b2 b3 b4
          have s0 := hr9.cell (k := 0) rfl
          have s1 := hr9.cell (k := 1) rfl
          have s2 := hr9.cell (k := 2) rfl
          have s3 := hr9.cell (k := 3) rfl
          have s4 := hr9.cell (k := 4) rfl
          go_wp2_with fail
          refine bodyPost_ret (by simp [results, Tryz.results41, go_sem, s0, s1, s2, s3, s4]; try rfl) rfl ?_
          have hsz7 : W.heap.size + 1 < W7.heap.size := HY7.out.res.lt
          have hown : ∀ k, own8 (qy.agg (.slice p8 L8.length c8) g8 cap8) k → ((own8 (q.agg (.slice p L.length c) g cap) k ∨ W.heap.size ≤ k) ∧ k ≠ W.heap.size + 1) ∨ W7.heap.size ≤ k := fun k hk => (HO8.out k hk).imp (fun h => ⟨(HO7.out k h).1, (HO7.out k h).2.2⟩) id
          refine ⟨qy.agg (.slice p8 L8.length c8) g8 cap8, rfl, HQ8.out.only ho9 (fun k hk e => ?_), HY7.out.bel.trans ((hbW.mono HY7.out.bel.size).trans (ho9.below (Nat.le_trans HY7.out.bel.size hbW.size) (fun k hk e => by omega))), fun k hk => ?_⟩
          · rcases hown k hk with h | h
            · exact h.2 e
            · omega
          · rcases hown k hk with h | h
            · exact h.1
            · exact .inr (by omega)
end Go.Proofs.YtajholbcpmjhiaaGreatDoor
