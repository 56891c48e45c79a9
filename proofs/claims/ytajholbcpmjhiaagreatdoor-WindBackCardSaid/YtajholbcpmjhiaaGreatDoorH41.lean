/- Several texts in one: Ref8S, Ref8E. -/
import Derived.Test.YtajholbcpmjhiaaGreatDoorH01
import Derived.Test.YtajholbcpmjhiaaGreatDoorH02
import Derived.Test.YtajholbcpmjhiaaGreatDoorH03
import Derived.Test.YtajholbcpmjhiaaGreatDoorH04
import Derived.Test.YtajholbcpmjhiaaGreatDoorH05
import Derived.Test.YtajholbcpmjhiaaGreatDoorH06
import Derived.Test.YtajholbcpmjhiaaGreatDoorH07
import Derived.Test.YtajholbcpmjhiaaGreatDoorH08
import Derived.Test.YtajholbcpmjhiaaGreatDoorH09
import Derived.Test.YtajholbcpmjhiaaGreatDoorH10
import Derived.Test.YtajholbcpmjhiaaGreatDoorH11
import Derived.Test.YtajholbcpmjhiaaGreatDoorH12
import Derived.Test.YtajholbcpmjhiaaGreatDoorH15
import Derived.Test.YtajholbcpmjhiaaGreatDoorH30
import Derived.Test.YtajholbcpmjhiaaGreatDoorH31
import Derived.Test.YtajholbcpmjhiaaGreatDoorH33
import Derived.Test.YtajholbcpmjhiaaGreatDoorH36
import Derived.Test.YtajholbcpmjhiaaGreatDoorH37
import Derived.Test.YtajholbcpmjhiaaGreatDoorH38
import Derived.Test.YtajholbcpmjhiaaGreatDoorH39
import Derived.Test.YtajholbcpmjhiaaGreatDoorH40
import Derived.WalkKit
import Derived.Laws.AppendOwn
import Derived.Below
import Derived.Deep.QuietTactic
import Derived.BigQuiet
import Derived.WalkSpells
import Derived.Test.YtajholbcpmjhiaaGreatDoorProg
import Derived.Handy
import Derived.WalkLawsBesides
import Derived.RegionTactic
import Derived.Outline
import Derived.Lib.BitFns
import Derived.Laws.Rows
import Derived.Laws.AppendOwnNone
import Derived.Deep.RegionHeld3
import Derived.Deep.AppendLies
import Derived.IntWalk
import Derived.Laws.CopyOwn
import Derived.Great.Ranges
import Derived.StillTailTactics
import Derived.BigRegion
import Derived.ChangeAlike
import Derived.Maps.OwnSet
import Derived.Maps.Views
import Derived.WalkArith
import Derived.OneCell
import Derived.ArgAppend
import Derived.Lib.SliceRun
import Derived.Deep.RegionLaw
import Derived.ProofKit
import Derived.OpenShut
import Derived.Maps.AppendAt
import Derived.Laws.EntriesVeiled
import Derived.Deep.Cut
/- The walks of the document's windows (muntinref08): Save, Restore. -/
namespace Go.Proofs.YtajholbcpmjhiaaGreatDoor
open Go.RowKit Go.Maps
set_option linter.unusedVariables false
set_option linter.unusedSimpArgs false
def save8 (q : W8) : W8 := { store8 q (stepV (stepV q.cwp ((q.f.nw : Int) - 1) q.f.nw) ((q.f.nw : Int) - 1) q.f.nw) with inv := stepV (stepV q.cwp ((q.f.nw : Int) - 1) q.f.nw) ((q.f.nw : Int) - 1) q.f.nw, cwp := stepV q.cwp ((q.f.nw : Int) - 1) q.f.nw }
def rest8 (q : W8) : W8 := { load8 q (stepV q.cwp 1 q.f.nw) with inv := stepV (stepV q.cwp 1 q.f.nw) 1 q.f.nw, cwp := stepV q.cwp 1 q.f.nw }
set_option maxRecDepth 100000 in
set_option maxHeartbeats 4000000 in
theorem r8_save (W : World) (n : Nat) (v : Value) (q : W8) (hq : WAt W n v q) (hn : n < 1000000) (hc : 0 ≤ q.cwp ∧ q.cwp < q.f.nw) :
    Calls Tryz.prog 24 #[v] W (Gives8 W n v (save8 q) (can8 q (save8 q).inv)) := by
  have hnw2 := hq.choose_spec.choose_spec.choose_spec.choose_spec.2.1.ok.nw2
  have hnw32 := hq.choose_spec.choose_spec.choose_spec.choose_spec.2.1.ok.nw32
  obtain ⟨lv, L, g, cap, rfl, hin, hL⟩ := hq
  obtain ⟨p, c, rfl⟩ := hin.log.shape
  obtain ⟨to, hto⟩ : ∃ to, to = stepV q.cwp ((q.f.nw : Int) - 1) q.f.nw := ⟨_, rfl⟩
  obtain ⟨last, hlast⟩ : ∃ last, last = stepV to ((q.f.nw : Int) - 1) q.f.nw := ⟨_, rfl⟩
  have hlb : 0 ≤ last ∧ last < (q.f.nw : Int) := by rw [hlast]; exact stepV_bd (by omega)
  have hsv : save8 q = { store8 q last with inv := last, cwp := to } := by unfold save8; rw [← hto, ← hlast]
  rw [hsv]
  have HA1 := mhid (rahead_any q.cwp q.f.nw)
  have HA2 := mhid (rahead_any to q.f.nw)
  rw [← hto] at HA1
  rw [← hlast] at HA2
  clear hto hlast hsv
  obtain ⟨W1, hW1⟩ : ∃ x, x = W.alloc (.cells (q.cells (.slice p L.length c) g cap).toArray 58) := ⟨_, rfl⟩
  have hbw : Below W.heap.size W W1 := by rw [hW1]; exact (Below.refl _ _).alloc (Nat.le_refl _) _
  have hB : ARow W1 W.heap.size 58 (q.cells (.slice p L.length c) g cap) := by rw [hW1]; exact ARow.fresh W _ _
  have hsz1 : W1.heap.size = W.heap.size + 1 := by rw [hW1]; simp
  unfold W8.cells at hW1 hB
  obtain ⟨W2, hW2⟩ : ∃ x, x = W1.alloc (.cells #[.int .i64 0, .slice none 0 0, .slice none 0 0, .int .i64 0, .int .i64 0] 58) := ⟨_, rfl⟩
  have hb2 : Below W1.heap.size W1 W2 := by rw [hW2]; exact (Below.refl _ _).alloc (Nat.le_refl _) _
  have hR : ARow W2 (W.heap.size + 1) 58 [.int .i64 0, .slice none 0 0, .slice none 0 0, .int .i64 0, .int .i64 0] := by rw [hW2, ← hsz1]; exact ARow.fresh W1 _ _
  have HB := mhid (hB.below hb2)
  have HR := mhid hR
  have HIN := mhid ((hin.keep hbw).keep hb2)
  have HBW := mhid (hbw.trans (hb2.mono hbw.size))
  have HSZ := mhid (show W.heap.size + 2 ≤ W2.heap.size from hR.lt)
  have HOL := mhid (fun k (hk : own8 (q.agg (.slice p L.length c) g cap) k) => (show WAt W n (q.agg (.slice p L.length c) g cap) q from ⟨_, L, g, cap, rfl, hin, hL⟩).own_lt hk)
  have HST := mhid (r8_stored W2 n (q.agg (.slice p L.length c) g cap) q ⟨_, L, g, cap, rfl, HIN.out, hL⟩ hn last hlb)
  unfold W8.agg at HST
  have b0 := HB.out.cell (k := 0) rfl
  have b1 := HB.out.cell (k := 1) rfl
  have b2 := HB.out.cell (k := 2) rfl
  have b3 := HB.out.cell (k := 3) rfl
  have b4 := HB.out.cell (k := 4) rfl
  clear hbw hB hin hb2 hR
  go_enter Tryz.func24, Tryz.ntmps24
  unfold W8.agg
  refine wp_seq ?_
  go_wp2_with fail
  rw [← hW1, ← hW2]
  clear hW1 hW2
  refine (HA1.out W2).mono ?_
  rintro e w3 ⟨rfl, rfl⟩
  go_wp2_with fail
  refine (HA2.out W2).mono ?_
  rintro e w3 ⟨rfl, rfl⟩
  go_wp2_with fail
  refine HST.out.mono ?_
  rintro e w4 ⟨v4, rfl, hwa, hb4, how⟩
  have hsame : (store8 q last).f.nw = q.f.nw ∧ (store8 q last).cwp = q.cwp ∧ (store8 q last).inv = q.inv := ⟨rfl, rfl, rfl⟩
  obtain ⟨lv4, L4, g4, cap4, rfl, hin4, hL4⟩ := hwa
  have HB := mhid (HB.out.below hb4)
  have HR := mhid (HR.out.below hb4)
  have HBW := mhid (HBW.out.trans (hb4.mono HBW.out.size))
  have HI4 := mhid hin4
  have HOW := mhid (show ∀ k, lv4.ownBlock = some k ∨ k = g4 → k < W.heap.size ∨ W.heap.size + 2 ≤ k from fun k hk => by
    rcases how k ((own8_agg _ _ _ _ _).2 hk) with h | h
    · exact .inl (HOL.out k h)
    · exact .inr (Nat.le_trans HSZ.out h))
  have HOV := mhid (show ∀ k, lv4.ownBlock = some k ∨ k = g4 → own8 (.agg #[.int .i64 q.f.nw, .slice p L.length c, .slice (some ⟨g, 0, none⟩) q.mem.length cap, .int .i64 q.cwp, .int .i64 q.inv]) k ∨ W.heap.size ≤ k from fun k hk => by
    rcases how k ((own8_agg _ _ _ _ _).2 hk) with h | h
    · exact .inl h
    · exact .inr (by have := HSZ.out; omega))
  unfold W8.agg
  rw [hsame.1, hsame.2.1, hsame.2.2]
  obtain ⟨p4, c4, rfl⟩ := hin4.log.shape
  obtain ⟨N4, hN4⟩ : ∃ N4, N4 = (store8 q last).mem.length := ⟨_, rfl⟩
  rw [← hN4]
  have HN4 := mhid hN4
  clear hN4
  clear hin4 hb4 how hsame b0 b1 b2 b3 b4 HST
  have b0 := HB.out.cell (k := 0) rfl
  have bf0 := HB.out.frozen 0
  have r0 := HR.out.cell (k := 0) rfl
  have rf0 := HR.out.frozen 0
  have b1 := HB.out.cell (k := 1) rfl
  have bf1 := HB.out.frozen 1
  have r1 := HR.out.cell (k := 1) rfl
  have rf1 := HR.out.frozen 1
  have b2 := HB.out.cell (k := 2) rfl
  have bf2 := HB.out.frozen 2
  have r2 := HR.out.cell (k := 2) rfl
  have rf2 := HR.out.frozen 2
  have b3 := HB.out.cell (k := 3) rfl
  have bf3 := HB.out.frozen 3
  have r3 := HR.out.cell (k := 3) rfl
  have rf3 := HR.out.frozen 3
  have b4 := HB.out.cell (k := 4) rfl
  have bf4 := HB.out.frozen 4
  have r4 := HR.out.cell (k := 4) rfl
  have rf4 := HR.out.frozen 4
  go_upto_region 4 with (fail)
  have hB5 := cp5_row HB.out (.int .i64 q.f.nw) (.slice p4 L4.length c4) (.slice (some ⟨g4, 0, none⟩) N4 cap4) (.int .i64 q.cwp) (.int .i64 q.inv)
  have hR5 := HR.out.of_block ((cp5_only (S := fun k => k = W.heap.size) w4 W.heap.size (.int .i64 q.f.nw) (.slice p4 L4.length c4) (.slice (some ⟨g4, 0, none⟩) N4 cap4) (.int .i64 q.cwp) (.int .i64 q.inv) rfl).block _ HR.out.lt (by omega))
  have ho5 : Only (fun k => k = W.heap.size ∨ k = W.heap.size + 1) w4 (cp5 w4 W.heap.size (.int .i64 q.f.nw) (.slice p4 L4.length c4) (.slice (some ⟨g4, 0, none⟩) N4 cap4) (.int .i64 q.cwp) (.int .i64 q.inv)) := cp5_only _ _ _ _ _ _ _ (.inl rfl)
  change Code.wp _ _ _ _ (cp5 w4 W.heap.size (.int .i64 q.f.nw) (.slice p4 L4.length c4) (.slice (some ⟨g4, 0, none⟩) N4 cap4) (.int .i64 q.cwp) (.int .i64 q.inv))
  have HB := mhid hB5
  have HR := mhid hR5
  have HO := mhid ho5
  clear b0 b1 b2 b3 b4 bf0 bf1 bf2 bf3 bf4 r0 r1 r2 r3 r4 rf0 rf1 rf2 rf3 rf4 hB5 hR5 ho5
  generalize (cp5 w4 W.heap.size (.int .i64 q.f.nw) (.slice p4 L4.length c4) (.slice (some ⟨g4, 0, none⟩) N4 cap4) (.int .i64 q.cwp) (.int .i64 q.inv)) = w5 at *
  have b0 := HB.out.cell (k := 0) rfl
  have bf0 := HB.out.frozen 0
  have b1 := HB.out.cell (k := 1) rfl
  have bf1 := HB.out.frozen 1
  have b2 := HB.out.cell (k := 2) rfl
  have bf2 := HB.out.frozen 2
  have b3 := HB.out.cell (k := 3) rfl
  have bf3 := HB.out.frozen 3
  have b4 := HB.out.cell (k := 4) rfl
  have bf4 := HB.out.frozen 4
  have r0 := HR.out.cell (k := 0) rfl
  have rf0 := HR.out.frozen 0
  have r1 := HR.out.cell (k := 1) rfl
  have rf1 := HR.out.frozen 1
  have r2 := HR.out.cell (k := 2) rfl
  have rf2 := HR.out.frozen 2
  have r3 := HR.out.cell (k := 3) rfl
  have rf3 := HR.out.frozen 3
  have r4 := HR.out.cell (k := 4) rfl
  have rf4 := HR.out.frozen 4
  go_wp2_with fail
  have hR9 := cp5_row ((HR.out.other (a := ⟨W.heap.size, 4, none⟩) (by simp) (.int .i64 last)).other (a := ⟨W.heap.size, 3, none⟩) (by simp) (.int .i64 to)) (.int .i64 q.f.nw) (.slice p4 L4.length c4) (.slice (some ⟨g4, 0, none⟩) N4 cap4) (.int .i64 to) (.int .i64 last)
  have ho9 : Only (fun k => k = W.heap.size ∨ k = W.heap.size + 1) w5 (cp5 ((w5.setCell ⟨W.heap.size, 4, none⟩ (.int .i64 last)).setCell ⟨W.heap.size, 3, none⟩ (.int .i64 to)) (W.heap.size + 1) (.int .i64 q.f.nw) (.slice p4 L4.length c4) (.slice (some ⟨g4, 0, none⟩) N4 cap4) (.int .i64 to) (.int .i64 last)) :=
    (((Only.refl (fun k => k = W.heap.size ∨ k = W.heap.size + 1) w5).setCell (p := ⟨W.heap.size, 4, none⟩) (.inl rfl) _).setCell (p := ⟨W.heap.size, 3, none⟩) (.inl rfl) _).trans (cp5_only _ _ _ _ _ _ _ (.inr rfl))
  have ho9 := HO.out.trans ho9
  change bodyPost _ _ _ _ _ (cp5 ((w5.setCell ⟨W.heap.size, 4, none⟩ (.int .i64 last)).setCell ⟨W.heap.size, 3, none⟩ (.int .i64 to)) (W.heap.size + 1) (.int .i64 q.f.nw) (.slice p4 L4.length c4) (.slice (some ⟨g4, 0, none⟩) N4 cap4) (.int .i64 to) (.int .i64 last))
  clear b0 b1 b2 b3 b4 bf0 bf1 bf2 bf3 bf4 r0 r1 r2 r3 r4 rf0 rf1 rf2 rf3 rf4
  generalize (cp5 ((w5.setCell ⟨W.heap.size, 4, none⟩ (.int .i64 last)).setCell ⟨W.heap.size, 3, none⟩ (.int .i64 to)) (W.heap.size + 1) (.int .i64 q.f.nw) (.slice p4 L4.length c4) (.slice (some ⟨g4, 0, none⟩) N4 cap4) (.int .i64 to) (.int .i64 last)) = W9 at *
  have s0 := hR9.cell (k := 0) rfl
  have s1 := hR9.cell (k := 1) rfl
  have s2 := hR9.cell (k := 2) rfl
  have s3 := hR9.cell (k := 3) rfl
  have s4 := hR9.cell (k := 4) rfl
  refine bodyPost_ret (by simp [results, Tryz.results24, go_sem, s0, s1, s2, s3, s4]; try rfl) rfl ?_
  refine ⟨_, ?_, ⟨.slice p4 L4.length c4, L4, g4, cap4, rfl, ⟨?_, HI4.out.says, ?_, HI4.out.ok⟩, hL4⟩, ?_, ?_⟩
  · rw [HN4.out]; rfl
  · exact HI4.out.log.only ho9 (fun k hk hS => by have := HOW.out k (.inl hk); omega)
  · exact HI4.out.mem.keep ho9 (by have := HOW.out g4 (.inr rfl); omega)
  · exact HBW.out.trans (ho9.below HBW.out.size (fun k hk hS => by omega))
  · intro k hk
    exact HOV.out k ((own8_agg _ _ _ _ _).1 hk)
set_option maxRecDepth 100000 in
set_option maxHeartbeats 4000000 in
theorem r8_restore (W : World) (n : Nat) (v : Value) (q : W8) (hq : WAt W n v q) (hn : n < 1000000) (hc : 0 ≤ q.cwp ∧ q.cwp < q.f.nw) (hcan : can8 q (rest8 q).cwp = true) :
    Calls Tryz.prog 25 #[v] W (Gives8 W (n + 16) v (rest8 q) true) := by
  have hnw2 := hq.choose_spec.choose_spec.choose_spec.choose_spec.2.1.ok.nw2
  have hnw32 := hq.choose_spec.choose_spec.choose_spec.choose_spec.2.1.ok.nw32
  obtain ⟨lv, L, g, cap, rfl, hin, hL⟩ := hq
  obtain ⟨p, c, rfl⟩ := hin.log.shape
  obtain ⟨to, hto⟩ : ∃ to, to = stepV q.cwp 1 q.f.nw := ⟨_, rfl⟩
  obtain ⟨last, hlast⟩ : ∃ last, last = stepV to 1 q.f.nw := ⟨_, rfl⟩
  have hlb : 0 ≤ to ∧ to < (q.f.nw : Int) := by rw [hto]; exact stepV_bd (by omega)
  have hsv : rest8 q = { load8 q to with inv := last, cwp := to } := by unfold rest8; rw [← hto, ← hlast]
  rw [hsv] at hcan ⊢
  have hcan : spanE q.mem.length (frame8 q to) 16 4 = 0 := of_decide_eq_true hcan
  have HA1 := mhid (rnext_any q.cwp q.f.nw 1 (fun _ => by omega))
  have HA2 := mhid (rnext_any to q.f.nw 1 (fun _ => by omega))
  rw [← hto] at HA1
  rw [← hlast] at HA2
  clear hto hlast hsv
  obtain ⟨W1, hW1⟩ : ∃ x, x = W.alloc (.cells (q.cells (.slice p L.length c) g cap).toArray 58) := ⟨_, rfl⟩
  have hbw : Below W.heap.size W W1 := by rw [hW1]; exact (Below.refl _ _).alloc (Nat.le_refl _) _
  have hB : ARow W1 W.heap.size 58 (q.cells (.slice p L.length c) g cap) := by rw [hW1]; exact ARow.fresh W _ _
  have hsz1 : W1.heap.size = W.heap.size + 1 := by rw [hW1]; simp
  unfold W8.cells at hW1 hB
  obtain ⟨W2, hW2⟩ : ∃ x, x = W1.alloc (.cells #[.int .i64 0, .slice none 0 0, .slice none 0 0, .int .i64 0, .int .i64 0] 58) := ⟨_, rfl⟩
  have hb2 : Below W1.heap.size W1 W2 := by rw [hW2]; exact (Below.refl _ _).alloc (Nat.le_refl _) _
  have hR : ARow W2 (W.heap.size + 1) 58 [.int .i64 0, .slice none 0 0, .slice none 0 0, .int .i64 0, .int .i64 0] := by rw [hW2, ← hsz1]; exact ARow.fresh W1 _ _
  have HB := mhid (hB.below hb2)
  have HR := mhid hR
  have HIN := mhid ((hin.keep hbw).keep hb2)
  have HBW := mhid (hbw.trans (hb2.mono hbw.size))
  have HSZ := mhid (show W.heap.size + 2 ≤ W2.heap.size from hR.lt)
  have HOL := mhid (fun k (hk : own8 (q.agg (.slice p L.length c) g cap) k) => (show WAt W n (q.agg (.slice p L.length c) g cap) q from ⟨_, L, g, cap, rfl, hin, hL⟩).own_lt hk)
  have HST := mhid (r8_loaded W2 n (q.agg (.slice p L.length c) g cap) q ⟨_, L, g, cap, rfl, HIN.out, hL⟩ hn to hlb hcan)
  unfold W8.agg at HST
  have b0 := HB.out.cell (k := 0) rfl
  have b1 := HB.out.cell (k := 1) rfl
  have b2 := HB.out.cell (k := 2) rfl
  have b3 := HB.out.cell (k := 3) rfl
  have b4 := HB.out.cell (k := 4) rfl
  clear hbw hB hin hb2 hR
  go_enter Tryz.func25, Tryz.ntmps25
  unfold W8.agg
  refine wp_seq ?_
  go_wp2_with fail
  rw [← hW1, ← hW2]
  clear hW1 hW2
  refine (HA1.out W2).mono ?_
  rintro e w3 ⟨rfl, rfl⟩
  go_wp2_with fail
  refine (HA2.out W2).mono ?_
  rintro e w3 ⟨rfl, rfl⟩
  go_wp2_with fail
  refine HST.out.mono ?_
  rintro e w4 ⟨v4, rfl, hwa, hb4, how⟩
  have hsame : (load8 q to).f.nw = q.f.nw ∧ (load8 q to).cwp = q.cwp ∧ (load8 q to).inv = q.inv := ⟨setsF_nw _ _ _ _, rfl, rfl⟩
  obtain ⟨lv4, L4, g4, cap4, rfl, hin4, hL4⟩ := hwa
  have HB := mhid (HB.out.below hb4)
  have HR := mhid (HR.out.below hb4)
  have HBW := mhid (HBW.out.trans (hb4.mono HBW.out.size))
  have HI4 := mhid hin4
  have HOW := mhid (show ∀ k, lv4.ownBlock = some k ∨ k = g4 → k < W.heap.size ∨ W.heap.size + 2 ≤ k from fun k hk => by
    rcases how k ((own8_agg _ _ _ _ _).2 hk) with h | h
    · exact .inl (HOL.out k h)
    · exact .inr (Nat.le_trans HSZ.out h))
  have HOV := mhid (show ∀ k, lv4.ownBlock = some k ∨ k = g4 → own8 (.agg #[.int .i64 q.f.nw, .slice p L.length c, .slice (some ⟨g, 0, none⟩) q.mem.length cap, .int .i64 q.cwp, .int .i64 q.inv]) k ∨ W.heap.size ≤ k from fun k hk => by
    rcases how k ((own8_agg _ _ _ _ _).2 hk) with h | h
    · exact .inl h
    · exact .inr (by have := HSZ.out; omega))
  have HNW := mhid hsame.1
  unfold W8.agg
  rw [hsame.1, hsame.2.1, hsame.2.2]
  obtain ⟨p4, c4, rfl⟩ := hin4.log.shape
  obtain ⟨N4, hN4⟩ : ∃ N4, N4 = (load8 q to).mem.length := ⟨_, rfl⟩
  rw [← hN4]
  have HN4 := mhid hN4
  clear hN4
  clear hin4 hb4 how hsame b0 b1 b2 b3 b4 HST
  have b0 := HB.out.cell (k := 0) rfl
  have bf0 := HB.out.frozen 0
  have r0 := HR.out.cell (k := 0) rfl
  have rf0 := HR.out.frozen 0
  have b1 := HB.out.cell (k := 1) rfl
  have bf1 := HB.out.frozen 1
  have r1 := HR.out.cell (k := 1) rfl
  have rf1 := HR.out.frozen 1
  have b2 := HB.out.cell (k := 2) rfl
  have bf2 := HB.out.frozen 2
  have r2 := HR.out.cell (k := 2) rfl
  have rf2 := HR.out.frozen 2
  have b3 := HB.out.cell (k := 3) rfl
  have bf3 := HB.out.frozen 3
  have r3 := HR.out.cell (k := 3) rfl
  have rf3 := HR.out.frozen 3
  have b4 := HB.out.cell (k := 4) rfl
  have bf4 := HB.out.frozen 4
  have r4 := HR.out.cell (k := 4) rfl
  have rf4 := HR.out.frozen 4
  go_upto_region 4 with (fail)
  have hB5 := cp5_row HB.out (.int .i64 q.f.nw) (.slice p4 L4.length c4) (.slice (some ⟨g4, 0, none⟩) N4 cap4) (.int .i64 q.cwp) (.int .i64 q.inv)
  have hR5 := HR.out.of_block ((cp5_only (S := fun k => k = W.heap.size) w4 W.heap.size (.int .i64 q.f.nw) (.slice p4 L4.length c4) (.slice (some ⟨g4, 0, none⟩) N4 cap4) (.int .i64 q.cwp) (.int .i64 q.inv) rfl).block _ HR.out.lt (by omega))
  have ho5 : Only (fun k => k = W.heap.size ∨ k = W.heap.size + 1) w4 (cp5 w4 W.heap.size (.int .i64 q.f.nw) (.slice p4 L4.length c4) (.slice (some ⟨g4, 0, none⟩) N4 cap4) (.int .i64 q.cwp) (.int .i64 q.inv)) := cp5_only _ _ _ _ _ _ _ (.inl rfl)
  change Code.wp _ _ _ _ (cp5 w4 W.heap.size (.int .i64 q.f.nw) (.slice p4 L4.length c4) (.slice (some ⟨g4, 0, none⟩) N4 cap4) (.int .i64 q.cwp) (.int .i64 q.inv))
  have HB := mhid hB5
  have HR := mhid hR5
  have HO := mhid ho5
  clear b0 b1 b2 b3 b4 bf0 bf1 bf2 bf3 bf4 r0 r1 r2 r3 r4 rf0 rf1 rf2 rf3 rf4 hB5 hR5 ho5
  generalize (cp5 w4 W.heap.size (.int .i64 q.f.nw) (.slice p4 L4.length c4) (.slice (some ⟨g4, 0, none⟩) N4 cap4) (.int .i64 q.cwp) (.int .i64 q.inv)) = w5 at *
  have b0 := HB.out.cell (k := 0) rfl
  have bf0 := HB.out.frozen 0
  have b1 := HB.out.cell (k := 1) rfl
  have bf1 := HB.out.frozen 1
  have b2 := HB.out.cell (k := 2) rfl
  have bf2 := HB.out.frozen 2
  have b3 := HB.out.cell (k := 3) rfl
  have bf3 := HB.out.frozen 3
  have b4 := HB.out.cell (k := 4) rfl
  have bf4 := HB.out.frozen 4
  have r0 := HR.out.cell (k := 0) rfl
  have rf0 := HR.out.frozen 0
  have r1 := HR.out.cell (k := 1) rfl
  have rf1 := HR.out.frozen 1
  have r2 := HR.out.cell (k := 2) rfl
  have rf2 := HR.out.frozen 2
  have r3 := HR.out.cell (k := 3) rfl
  have rf3 := HR.out.frozen 3
  have r4 := HR.out.cell (k := 4) rfl
  have rf4 := HR.out.frozen 4
  go_wp2_with fail
  have hR9 := cp5_row ((HR.out.other (a := ⟨W.heap.size, 4, none⟩) (by simp) (.int .i64 last)).other (a := ⟨W.heap.size, 3, none⟩) (by simp) (.int .i64 to)) (.int .i64 q.f.nw) (.slice p4 L4.length c4) (.slice (some ⟨g4, 0, none⟩) N4 cap4) (.int .i64 to) (.int .i64 last)
  have ho9 : Only (fun k => k = W.heap.size ∨ k = W.heap.size + 1) w5 (cp5 ((w5.setCell ⟨W.heap.size, 4, none⟩ (.int .i64 last)).setCell ⟨W.heap.size, 3, none⟩ (.int .i64 to)) (W.heap.size + 1) (.int .i64 q.f.nw) (.slice p4 L4.length c4) (.slice (some ⟨g4, 0, none⟩) N4 cap4) (.int .i64 to) (.int .i64 last)) :=
    (((Only.refl (fun k => k = W.heap.size ∨ k = W.heap.size + 1) w5).setCell (p := ⟨W.heap.size, 4, none⟩) (.inl rfl) _).setCell (p := ⟨W.heap.size, 3, none⟩) (.inl rfl) _).trans (cp5_only _ _ _ _ _ _ _ (.inr rfl))
  have ho9 := HO.out.trans ho9
  change bodyPost _ _ _ _ _ (cp5 ((w5.setCell ⟨W.heap.size, 4, none⟩ (.int .i64 last)).setCell ⟨W.heap.size, 3, none⟩ (.int .i64 to)) (W.heap.size + 1) (.int .i64 q.f.nw) (.slice p4 L4.length c4) (.slice (some ⟨g4, 0, none⟩) N4 cap4) (.int .i64 to) (.int .i64 last))
  clear b0 b1 b2 b3 b4 bf0 bf1 bf2 bf3 bf4 r0 r1 r2 r3 r4 rf0 rf1 rf2 rf3 rf4
  generalize (cp5 ((w5.setCell ⟨W.heap.size, 4, none⟩ (.int .i64 last)).setCell ⟨W.heap.size, 3, none⟩ (.int .i64 to)) (W.heap.size + 1) (.int .i64 q.f.nw) (.slice p4 L4.length c4) (.slice (some ⟨g4, 0, none⟩) N4 cap4) (.int .i64 to) (.int .i64 last)) = W9 at *
  have s0 := hR9.cell (k := 0) rfl
  have s1 := hR9.cell (k := 1) rfl
  have s2 := hR9.cell (k := 2) rfl
  have s3 := hR9.cell (k := 3) rfl
  have s4 := hR9.cell (k := 4) rfl
  refine bodyPost_ret (by simp [results, Tryz.results25, go_sem, s0, s1, s2, s3, s4]; try rfl) rfl ?_
  refine ⟨_, ?_, ⟨.slice p4 L4.length c4, L4, g4, cap4, rfl, ⟨?_, HI4.out.says, ?_, HI4.out.ok⟩, hL4⟩, ?_, ?_⟩
  · rw [HN4.out]; unfold W8.agg; simp only; rw [HNW.out]
  · exact HI4.out.log.only ho9 (fun k hk hS => by have := HOW.out k (.inl hk); omega)
  · exact HI4.out.mem.keep ho9 (by have := HOW.out g4 (.inr rfl); omega)
  · exact HBW.out.trans (ho9.below HBW.out.size (fun k hk hS => by omega))
  · intro k hk
    exact HOV.out k ((own8_agg _ _ _ _ _).1 hk)
end Go.Proofs.YtajholbcpmjhiaaGreatDoor
/- The walk of the document's windows (muntinref08): Same, where it is so. -/
namespace Go.Proofs.YtajholbcpmjhiaaGreatDoor
open Go.RowKit Go.Maps
set_option linter.unusedVariables false
set_option linter.unusedSimpArgs false
/-- Two worlds that the document calls the same. -/
structure Alike8 (a b : W8) : Prop where
  nw : a.f.nw = b.f.nw
  cwp : a.cwp = b.cwp
  inv : a.inv = b.inv
  mem : a.mem = b.mem
  win : ∀ w : Nat, w < a.f.nw → winV a.f w = winV b.f w
  glo : ∀ k r : Nat, k < 16 → r < 8 → getV a.f 0 k r = getV b.f 0 k r
set_option maxRecDepth 100000 in
set_option maxHeartbeats 4000000 in
theorem r8_same (W : World) (n m : Nat) (u v : Value) (a b : W8) (ha : WAt W n u a) (hb : WAt W m v b) (hn : n < 1000000) (hm : m < 1000000) (hs : Alike8 a b) :
    Calls Tryz.prog 26 #[u, v] W fun e w' => e = .returned (.bool true) ∧ Below W.heap.size W w' := by
  obtain ⟨la, La, ga, ca, rfl, ina, hLa⟩ := ha
  obtain ⟨lb, Lb, gb, cb, rfl, inb, hLb⟩ := hb
  obtain ⟨pa, xa, rfl⟩ := ina.log.shape
  obtain ⟨pb, xb, rfl⟩ := inb.log.shape
  have hnw2 := ina.ok.nw2
  have hnw32 := ina.ok.nw32
  obtain ⟨W1, hW1⟩ : ∃ x, x = W.alloc (.cells (a.cells (.slice pa La.length xa) ga ca).toArray 58) := ⟨_, rfl⟩
  have hb1 : Below W.heap.size W W1 := by rw [hW1]; exact (Below.refl _ _).alloc (Nat.le_refl _) _
  have hA : ARow W1 W.heap.size 58 (a.cells (.slice pa La.length xa) ga ca) := by rw [hW1]; exact ARow.fresh W _ _
  have hsz1 : W1.heap.size = W.heap.size + 1 := by rw [hW1]; simp
  obtain ⟨W2, hW2⟩ : ∃ x, x = W1.alloc (.cells (b.cells (.slice pb Lb.length xb) gb cb).toArray 58) := ⟨_, rfl⟩
  have hb2 : Below W1.heap.size W1 W2 := by rw [hW2]; exact (Below.refl _ _).alloc (Nat.le_refl _) _
  have hB : ARow W2 (W.heap.size + 1) 58 (b.cells (.slice pb Lb.length xb) gb cb) := by rw [hW2, ← hsz1]; exact ARow.fresh W1 _ _
  have HA := mhid (hA.below hb2)
  have HB := mhid hB
  have HIA := mhid ((ina.keep hb1).keep hb2)
  have HIB := mhid ((inb.keep hb1).keep hb2)
  have HBW := mhid (hb1.trans (hb2.mono hb1.size))
  have hml : a.mem.length ≤ 4194304 := ina.mem.len
  have HS := mhid hs
  have hnwe : ((a.f.nw : Int) != (b.f.nw : Int)) = false := by simp [hs.nw]
  have hcwe : (a.cwp != b.cwp) = false := by simp [hs.cwp]
  have hine : (a.inv != b.inv) = false := by simp [hs.inv]
  have hmle : ((a.mem.length : Int) != (b.mem.length : Int)) = false := by simp [hs.mem]
  clear hb1 hA hb2 hB ina inb hs
  unfold W8.cells at hW1 hW2 HA HB
  have a0 := HA.out.cell (k := 0) rfl
  have a1 := HA.out.cell (k := 1) rfl
  have a2 := HA.out.cell (k := 2) rfl
  have a3 := HA.out.cell (k := 3) rfl
  have a4 := HA.out.cell (k := 4) rfl
  have b0 := HB.out.cell (k := 0) rfl
  have b1 := HB.out.cell (k := 1) rfl
  have b2 := HB.out.cell (k := 2) rfl
  have b3 := HB.out.cell (k := 3) rfl
  have b4 := HB.out.cell (k := 4) rfl
  rw [hW2, hW1] at a0 a1 a2 a3 a4 b0 b1 b2 b3 b4
  go_enter Tryz.func26, Tryz.ntmps26
  unfold W8.agg
  go_wp2_with fail
  rw [← hW1, ← hW2] at a0 a1 a2 a3 a4 b0 b1 b2 b3 b4
  rw [← hW1, ← hW2]
  clear hW1 hW2
  have HC := mhid (show (W2.cell? ⟨W.heap.size, 0, none⟩ = some (.int .i64 a.f.nw) ∧ W2.cell? ⟨W.heap.size, 1, none⟩ = some (.slice pa La.length xa)) ∧ W2.cell? ⟨W.heap.size + 1, 0, none⟩ = some (.int .i64 b.f.nw) ∧ W2.cell? ⟨W.heap.size + 1, 1, none⟩ = some (.slice pb Lb.length xb) from ⟨⟨a0, a1⟩, b0, b1⟩)
  clear hnwe hcwe hine hmle a0 a1 a3 a4 b0 b1 b3 b4
  go_loopw [5] (fun i wr => ∃ k : Nat, k ≤ a.mem.length ∧ i = .int .i64 (k : Int) ∧ ∃ n, wr = W2.drewN n) (fun i _ => a.mem.length - (intOf i).toNat)
  case atStart => exact ⟨0, Nat.zero_le _, rfl, 0, rfl⟩
  case round =>
    obtain ⟨k, hk, rfl, dn, rfl⟩ := hrel
    by_cases hlt : k < a.mem.length
    · have h1 : (k : Int) < (a.mem.length : Int) := by omega
      have hlb : k < b.mem.length := by rw [← HS.out.mem]; exact hlt
      have h2 : (k : Int) < (b.mem.length : Int) := by omega
      have c0 := HIA.out.mem.byte hlt
      have c1 := HIB.out.mem.byte hlb
      rw [← HS.out.mem] at c1
      generalize a.mem.getD k 0 = x at *
      go_wp2_with fail
      go_quiet (fail)
      go_wp2_with fail
      exact ⟨⟨k + 1, by omega, by go_num, _, rfl⟩, by simp [intOf] <;> omega⟩
    · obtain rfl : k = a.mem.length := by omega
      go_wp2_with fail
      go_loopw [6] (fun i wr => ∃ k : Nat, k ≤ a.f.nw ∧ i = .int .i64 (k : Int) ∧ Hid (Below W2.heap.size W2 wr)) (fun i _ => a.f.nw - (intOf i).toNat)
      case atStart => exact ⟨0, Nat.zero_le _, rfl, mhid ⟨rfl, rfl, rfl, Nat.le_refl _, fun _ _ => rfl⟩⟩
      case round =>
        obtain ⟨k, hk, rfl, BE⟩ := hrel
        have a0 := (BE.out.cell (World.block_lt_of_cell? _ _ HC.out.1.1)).trans HC.out.1.1
        have a1 := (BE.out.cell (World.block_lt_of_cell? _ _ HC.out.1.2)).trans HC.out.1.2
        have b0 := (BE.out.cell (World.block_lt_of_cell? _ _ HC.out.2.1)).trans HC.out.2.1
        have b1 := (BE.out.cell (World.block_lt_of_cell? _ _ HC.out.2.2)).trans HC.out.2.2
        by_cases hlt : k < a.f.nw
        · have h1 : (k : Int) < (a.f.nw : Int) := by omega
          have hw1 := rf_window wr a.f HIA.out.ok (.slice pa La.length xa) La (HIA.out.log.keep BE.out) (by omega) HIA.out.says k
          have HW1 := mhid hw1
          have hre1 : regE a.f k 0 0 = 0 := if_pos ⟨⟨by omega, by omega⟩, by omega, by omega, by omega⟩
          have hre2 : regE b.f k 0 0 = 0 := if_pos ⟨⟨by omega, by rw [← HS.out.nw]; omega⟩, by omega, by omega, by omega⟩
          have HRE := mhid (And.intro hre1 hre2)
          clear hw1 hre1 hre2
          go_wp2_with fail
          refine HW1.out.mono ?_
          rintro e w3 ⟨v1, rfl, hr1, hb3⟩
          have BE3 := mhid (BE.out.trans (hb3.mono BE.out.size))
          have hw2 := rf_window w3 b.f HIB.out.ok (.slice pb Lb.length xb) Lb (HIB.out.log.keep BE3.out) (by omega) HIB.out.says k
          have HW2 := mhid hw2
          have HR1 := mhid (Reads32.of_own hr1)
          have b0 := (BE3.out.cell (World.block_lt_of_cell? _ _ HC.out.2.1)).trans HC.out.2.1
          have b1 := (BE3.out.cell (World.block_lt_of_cell? _ _ HC.out.2.2)).trans HC.out.2.2
          clear hw2 hr1 hb3 BE HW1
          go_wp2_with fail
          refine HW2.out.mono ?_
          rintro e w4 ⟨v2, rfl, hr2, hb4⟩
          have BE4 := mhid (BE3.out.trans (hb4.mono BE3.out.size))
          have hsm := same_any w4 v1 v2 _ _ (HR1.out.keepb hb4) (Reads32.of_own hr2)
          rw [decide_eq_true (HS.out.win k hlt)] at hsm
          have HSM := mhid hsm
          clear hsm hr2 hb4 BE3 HW2 HR1
          go_wp2_with fail
          refine HSM.out.mono ?_
          rintro e w5 ⟨rfl, hb5⟩
          have BE5 := mhid (BE4.out.trans (hb5.mono BE4.out.size))
          clear hb5 BE4 HSM
          go_wp2_with fail
          exact ⟨⟨k + 1, by omega, by go_num, BE5⟩, by simp [intOf] <;> omega⟩
        · obtain rfl : k = a.f.nw := by omega
          go_wp2_with fail
          have hszr := BE.out.size
          have HGA := mhid (fun (w' : World) (h : Below W2.heap.size W2 w') (k r : Nat) => rf_get w' a.f HIA.out.ok (.slice pa La.length xa) La (HIA.out.log.keep h) (by omega) HIA.out.says 0 k r)
          have HGB := mhid (fun (w' : World) (h : Below W2.heap.size W2 w') (k r : Nat) => rf_get w' b.f HIB.out.ok (.slice pb Lb.length xb) Lb (HIB.out.log.keep h) (by omega) HIB.out.says 0 k r)
          go_loopw [11] (fun i wx => ∃ k : Nat, k ≤ 16 ∧ i = .int .i64 (k : Int) ∧ Hid (Below W2.heap.size W2 wx)) (fun i _ => 16 - (intOf i).toNat)
          case atStart => exact ⟨0, Nat.zero_le _, rfl, BE⟩
          case round =>
            clear BE a0 a1 b0 b1 hszr
            obtain ⟨k, hk, rfl, BE⟩ := hrel
            by_cases hlt : k < 16
            · have h1 : (k : Int) < 16 := by omega
              go_wp2_with fail
              go_loopw [12] (fun i wx => ∃ r : Nat, r ≤ 8 ∧ i = .int .i64 (r : Int) ∧ Hid (Below W2.heap.size W2 wx)) (fun i _ => 8 - (intOf i).toNat)
              case atStart => exact ⟨0, Nat.zero_le _, rfl, BE⟩
              case round =>
                clear BE
                obtain ⟨r, hr, rfl, BE⟩ := hrel
                by_cases hlr : r < 8
                · have h2 : (r : Int) < 8 := by omega
                  have a0 := (BE.out.cell (World.block_lt_of_cell? _ _ HC.out.1.1)).trans HC.out.1.1
                  have a1 := (BE.out.cell (World.block_lt_of_cell? _ _ HC.out.1.2)).trans HC.out.1.2
                  go_wp2_with fail
                  refine (HGA.out _ BE.out k r).mono ?_
                  rintro e w3 ⟨rfl, hb3⟩
                  have BE3 := mhid (BE.out.trans (hb3.mono BE.out.size))
                  clear hb3 BE
                  have b0 := (BE3.out.cell (World.block_lt_of_cell? _ _ HC.out.2.1)).trans HC.out.2.1
                  have b1 := (BE3.out.cell (World.block_lt_of_cell? _ _ HC.out.2.2)).trans HC.out.2.2
                  go_wp2_with fail
                  refine (HGB.out _ BE3.out k r).mono ?_
                  rintro e w4 ⟨rfl, hb4⟩
                  have BE4 := mhid (BE3.out.trans (hb4.mono BE3.out.size))
                  clear hb4 BE3 b0 b1
                  rw [← HS.out.glo k r hlt hlr]
                  generalize getV a.f 0 (k : Int) (r : Int) = x at *
                  go_wp2_with fail
                  exact ⟨⟨r + 1, by omega, by go_num, BE4⟩, by simp [intOf] <;> omega⟩
                · obtain rfl : r = 8 := by omega
                  go_wp2_with fail
                  exact ⟨⟨k + 1, by omega, by go_num, BE⟩, by simp [intOf] <;> omega⟩
            · obtain rfl : k = 16 := by omega
              go_wp2_with fail
              go_ret
              exact ⟨rfl, HBW.out.trans (BE.out.mono HBW.out.size)⟩
end Go.Proofs.YtajholbcpmjhiaaGreatDoor
