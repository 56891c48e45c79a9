/- Several texts in one: Ref8L, Ref8E, WindAlike, SwapGo, SwapNo, SwapHead. -/
import Derived.Test.YtajholbcpmjhiaaGreatDoorH40
import Derived.Test.YtajholbcpmjhiaaGreatDoorH36
import Derived.Deep.WholeRow
set_option linter.unusedVariables false
set_option linter.unusedSimpArgs false
/- The walk of the document's windows (muntinref08): Loaded. -/
namespace Go.Proofs.YtajholbcpmjhiaaGreatDoor
open Go.RowKit Go.Maps
theorem r32_cell' {w : World} {v : Value} {l : List Int} (h : Reads32 w v l) (h0 : 0 < l.length) : ∃ b o c, v = .slice (some ⟨b, o, none⟩) l.length c ∧ ∀ k, k < l.length → w.cell? ⟨b, o + k, none⟩ = some (.int .u32 (l.getD k 0)) := by
  obtain ⟨b, o, p, c, h1, _, h3, h4⟩ := h.shape
  exact ⟨b, o, c, by rw [h1, h3 h0], h4⟩
theorem wordsS_words' {d : List Int} (h : Bytes d) (a n : Nat) : Words (wordsS d a n) := wordsS_words h a n
set_option maxRecDepth 100000 in
set_option maxHeartbeats 4000000 in
theorem r8_loaded (W : World) (n : Nat) (v : Value) (q : W8) (hq : WAt W n v q) (hn : n < 1000000) (wi : Int) (hwi : 0 ≤ wi ∧ wi < q.f.nw) (hcan : spanE q.mem.length (frame8 q wi) 16 4 = 0) :
    Calls Tryz.prog 74 #[v, .int .i64 wi] W (Gives8 W (n + 16) v (load8 q wi) true) := by
  obtain ⟨lv, L, g, cap, rfl, hin, hL⟩ := hq
  obtain ⟨p, c, rfl⟩ := hin.log.shape
  obtain ⟨W1, hW1⟩ : ∃ x, x = W.alloc (.cells (q.cells (.slice p L.length c) g cap).toArray 58) := ⟨_, rfl⟩
  have hbw : Below W.heap.size W W1 := by rw [hW1]; exact (Below.refl _ _).alloc (Nat.le_refl _) _
  have hB : ARow W1 W.heap.size 58 (q.cells (.slice p L.length c) g cap) := by rw [hW1]; exact ARow.fresh W _ _
  have hsz1 : W1.heap.size = W.heap.size + 1 := by rw [hW1]; simp
  have HIN := mhid (hin.keep hbw)
  have HB := mhid hB
  have HBW := mhid hbw
  have HG0 := mhid hin.mem.lt.2
  have HLO := mhid (fun k (hk : (Value.slice p L.length c).ownBlock = some k) => hin.log.own_lt hk)
  have HCN := mhid hcan
  clear hbw hB hin hcan
  unfold W8.cells at hW1 HB
  unfold W8.agg
  obtain ⟨W2, hW2⟩ : ∃ x, x = W1.alloc (.cells #[.int .i64 0, .slice none 0 0, .slice none 0 0, .int .i64 0, .int .i64 0] 58) := ⟨_, rfl⟩
  have hb2 : Below W1.heap.size W1 W2 := by rw [hW2]; exact (Below.refl _ _).alloc (Nat.le_refl _) _
  have hR : ARow W2 (W.heap.size + 1) 58 [.int .i64 0, .slice none 0 0, .slice none 0 0, .int .i64 0, .int .i64 0] := by rw [hW2, ← hsz1]; exact ARow.fresh W1 _ _
  have HB := mhid (HB.out.below hb2)
  have HR := mhid hR
  have HIN := mhid (HIN.out.keep hb2)
  have HBW := mhid (HBW.out.trans (hb2.mono HBW.out.size))
  have HSZ := mhid (show W.heap.size + 2 ≤ W2.heap.size from hR.lt)
  have hfb := HIN.out.ok.gV wi 0 14
  have HFR := mhid (fun (w' : World) (h : Below W2.heap.size W2 w') => r8_frame w' n (q.agg (.slice p L.length c) g cap) q ⟨_, L, g, cap, rfl, HIN.out.keep h, hL⟩ hn wi)
  unfold W8.agg at HFR
  have HWO := mhid (fun (w' : World) (h : Below W2.heap.size W2 w') => mrwords_any w' 0 g cap q.mem (refat_below HIN.out.mem h) (frame8 q wi) hfb.1 hfb.2 16 (by omega))
  have HKS := mhid (show ∀ w', Below W2.heap.size W2 w' → w'.cell? ⟨W.heap.size, 0, none⟩ = some (.int .i64 q.f.nw) ∧ w'.cell? ⟨W.heap.size, 1, none⟩ = some (.slice p L.length c) ∧ w'.cell? ⟨W.heap.size, 2, none⟩ = some (.slice (some ⟨g, 0, none⟩) q.mem.length cap) ∧ w'.cell? ⟨W.heap.size, 3, none⟩ = some (.int .i64 q.cwp) ∧ w'.cell? ⟨W.heap.size, 4, none⟩ = some (.int .i64 q.inv) from fun w' hb => by
    have h := HB.out.below hb
    exact ⟨h.cell (k := 0) rfl, h.cell (k := 1) rfl, h.cell (k := 2) rfl, h.cell (k := 3) rfl, h.cell (k := 4) rfl⟩)
  obtain ⟨b0, b1, b2, b3, b4⟩ := HKS.out W2 (Below.refl _ _)
  have hbl0 := Below.refl W2.heap.size W2
  have hle0 : W2.heap.size ≤ W2.heap.size := Nat.le_refl _
  go_enter Tryz.func74, Tryz.ntmps74
  refine wp_seq ?_
  go_wp2_with fail
  rw [← hW1, ← hW2]
  clear hW1 hW2 hR hb2
  go_region_held3 (fun w' => w'.cell? ⟨W.heap.size, 0, none⟩ = some (.int .i64 q.f.nw) ∧ w'.cell? ⟨W.heap.size, 1, none⟩ = some (.slice p L.length c) ∧ w'.cell? ⟨W.heap.size, 2, none⟩ = some (.slice (some ⟨g, 0, none⟩) q.mem.length cap) ∧ w'.cell? ⟨W.heap.size, 3, none⟩ = some (.int .i64 q.cwp) ∧ w'.cell? ⟨W.heap.size, 4, none⟩ = some (.int .i64 q.inv)) (first | (with_reducible exact ⟨b0, b1, b2, b3, b4⟩) | (refine HKS.out _ ?_; go_grown; done))
    (first
      | (go_at_call 102; refine (HFR.out _ (by go_grown)).mono ?_; rintro e wx ⟨rfl, hbx⟩; have hbx : Below W2.heap.size W2 wx := (Below.trans (by go_grown) (hbx.mono (by go_grown))))
      | (go_at_call 32; refine (HWO.out _ (by go_grown)).mono ?_; rintro e wy ⟨lv2, l, rfl, hl, hrow, hby⟩; have hby : Below W2.heap.size W2 wy := Below.trans hbx (hby.mono hbx.size)))
  rw [HCN.out] at hl ⊢
  rw [if_pos rfl, show (16 : Int).toNat = 16 from rfl] at hl
  subst hl
  have hll : (wordsS q.mem (frame8 q wi).toNat 16).length = 16 := wordsS_len _ _ _
  have HRD := mhid (Reads32.of_own hrow)
  have HLL := mhid hll
  have HWW := mhid (wordsS_words' HIN.out.mem.bytes (frame8 q wi).toNat 16)
  obtain ⟨bl, ol, cl, rfl, -⟩ := r32_cell' HRD.out (by omega)
  have HB := mhid (HB.out.below hby)
  have HR := mhid (HR.out.below hby)
  have HIN := mhid (HIN.out.keep hby)
  have HBW := mhid (HBW.out.trans (hby.mono HBW.out.size))
  have HSZ := mhid (Nat.le_trans HSZ.out hby.size)
  have HSZ0 := mhid HSZ.out
  have HPU := mhid (rf_put wy q.f HIN.out.ok (.slice p L.length c) L HIN.out.log (by omega) HIN.out.says wi _ _ HRD.out HWW.out hwi HLL.out)
  clear hby hbx hrow b0 b1 b2 b3 b4 hll HKS HFR HWO hbl0 hle0
  have b0 := HB.out.cell (k := 0) rfl
  have b1 := HB.out.cell (k := 1) rfl
  have b2 := HB.out.cell (k := 2) rfl
  have b3 := HB.out.cell (k := 3) rfl
  have b4 := HB.out.cell (k := 4) rfl
  have bf0 := HB.out.frozen 0
  have bf1 := HB.out.frozen 1
  go_wp2_with fail
  refine HPU.out.mono ?_
  rintro e w5 ⟨lv5, L5, rfl, hq5, hlog5, hlen5, hb5, hown5⟩
  obtain ⟨p5, c5, rfl⟩ := hq5.shape
  have HB := mhid (HB.out.below hb5)
  have HR := mhid (HR.out.below hb5)
  have HME := mhid (refat_below HIN.out.mem hb5)
  have HBW := mhid (HBW.out.trans (hb5.mono HBW.out.size))
  have HSZ := mhid (Nat.le_trans HSZ.out hb5.size)
  have H5 := mhid (And.intro hq5 hlog5)
  have HO6 := mhid (show ∀ k, (Value.slice p5 L5.length c5).ownBlock = some k → (Value.slice p L.length c).ownBlock = some k ∨ W.heap.size + 2 ≤ k from fun k hk => (hown5 k hk).imp id (fun h => Nat.le_trans HSZ0.out h))
  have HO5 := mhid (show ∀ k, (Value.slice p5 L5.length c5).ownBlock = some k → k < W.heap.size ∨ W.heap.size + 2 ≤ k from fun k hk => (hown5 k hk).imp (fun h => HLO.out k h) (fun h => Nat.le_trans HSZ0.out h))
  clear hq5 hlog5 hb5 b0 b1 b2 b3 b4 bf0 bf1 HPU
  have b0 := HB.out.cell (k := 0) rfl
  have b1 := HB.out.cell (k := 1) rfl
  have b2 := HB.out.cell (k := 2) rfl
  have b3 := HB.out.cell (k := 3) rfl
  have b4 := HB.out.cell (k := 4) rfl
  have bf0 := HB.out.frozen 0
  have bf1 := HB.out.frozen 1
  have r0 := HR.out.cell (k := 0) rfl
  have rf0 := HR.out.frozen 0
  have r1 := HR.out.cell (k := 1) rfl
  have rf1 := HR.out.frozen 1
  have r2 := HR.out.cell (k := 2) rfl
  have rf2 := HR.out.frozen 2
  have r3 := HR.out.cell (k := 3) rfl
  have rf3 := HR.out.frozen 3
  have r4 := HR.out.cell (k := 4) rfl
  have rf4 := HR.out.frozen 4
  go_wp2_with fail
  have hR9 := cp5_row ((HR.out.other (a := ⟨W.heap.size, 0, none⟩) (by simp) (.int .i64 q.f.nw)).other (a := ⟨W.heap.size, 1, none⟩) (by simp) (.slice p5 L5.length c5)) (.int .i64 q.f.nw) (.slice p5 L5.length c5) (.slice (some ⟨g, 0, none⟩) q.mem.length cap) (.int .i64 q.cwp) (.int .i64 q.inv)
  have ho9 : Only (fun k => k = W.heap.size ∨ k = W.heap.size + 1) w5 (cp5 ((w5.setCell ⟨W.heap.size, 0, none⟩ (.int .i64 q.f.nw)).setCell ⟨W.heap.size, 1, none⟩ (.slice p5 L5.length c5)) (W.heap.size + 1) (.int .i64 q.f.nw) (.slice p5 L5.length c5) (.slice (some ⟨g, 0, none⟩) q.mem.length cap) (.int .i64 q.cwp) (.int .i64 q.inv)) :=
    (((Only.refl (fun k => k = W.heap.size ∨ k = W.heap.size + 1) w5).setCell (p := ⟨W.heap.size, 0, none⟩) (.inl rfl) _).setCell (p := ⟨W.heap.size, 1, none⟩) (.inl rfl) _).trans (cp5_only _ _ _ _ _ _ _ (.inr rfl))
  change bodyPost _ _ _ _ _ (cp5 ((w5.setCell ⟨W.heap.size, 0, none⟩ (.int .i64 q.f.nw)).setCell ⟨W.heap.size, 1, none⟩ (.slice p5 L5.length c5)) (W.heap.size + 1) (.int .i64 q.f.nw) (.slice p5 L5.length c5) (.slice (some ⟨g, 0, none⟩) q.mem.length cap) (.int .i64 q.cwp) (.int .i64 q.inv))
  clear b0 b1 b2 b3 b4 bf0 bf1 r0 r1 r2 r3 r4 rf0 rf1 rf2 rf3 rf4
  generalize (cp5 ((w5.setCell ⟨W.heap.size, 0, none⟩ (.int .i64 q.f.nw)).setCell ⟨W.heap.size, 1, none⟩ (.slice p5 L5.length c5)) (W.heap.size + 1) (.int .i64 q.f.nw) (.slice p5 L5.length c5) (.slice (some ⟨g, 0, none⟩) q.mem.length cap) (.int .i64 q.cwp) (.int .i64 q.inv)) = W9 at *
  have s0 := hR9.cell (k := 0) rfl
  have s1 := hR9.cell (k := 1) rfl
  have s2 := hR9.cell (k := 2) rfl
  have s3 := hR9.cell (k := 3) rfl
  have s4 := hR9.cell (k := 4) rfl
  refine bodyPost_ret (by simp [results, Tryz.results74, go_sem, s0, s1, s2, s3, s4]; try rfl) rfl ?_
  refine ⟨_, ?_, ⟨.slice p5 L5.length c5, L5, g, cap, rfl, ⟨?_, ?_, ?_, ?_⟩, by omega⟩, ?_, ?_⟩
  · rw [show (load8 q wi).agg (.slice p5 L5.length c5) g cap = .agg #[.int .i64 q.f.nw, .slice p5 L5.length c5, .slice (some ⟨g, 0, none⟩) q.mem.length cap, .int .i64 q.cwp, .int .i64 q.inv] from by unfold W8.agg load8; simp only [setsF_nw]]
  · exact H5.out.1.only ho9 (fun k hk hS => by have := HO5.out k hk; omega)
  · exact H5.out.2
  · exact HME.out.keep ho9 (by have := HG0.out; omega)
  · exact setsF_ok HIN.out.ok wi HWW.out 16
  · exact HBW.out.trans (ho9.below HBW.out.size (fun k hk hS => by omega))
  · intro k hk
    rcases (own8_agg _ _ _ _ _).1 hk with h | rfl
    · rcases HO6.out k h with h | h
      · exact .inl ((own8_agg q _ _ _ _).2 (.inl h))
      · exact .inr (by omega)
    · exact .inl ((own8_agg q _ _ _ _).2 (.inr rfl))
end Go.Proofs.YtajholbcpmjhiaaGreatDoor
/- The walk of the document's windows (muntinref08): Same, where it is so. -/
namespace Go.Proofs.YtajholbcpmjhiaaGreatDoor
open Go.RowKit Go.Maps
structure Alike8 (a b : W8) : Prop where
  nw : a.f.nw = b.f.nw
  cwp : a.cwp = b.cwp
  inv : a.inv = b.inv
  mem : a.mem = b.mem
  win : ∀ w : Nat, w < a.f.nw → winV a.f w = winV b.f w
  glo : ∀ k r : Nat, k < 16 → r < 8 → getV a.f 0 k r = getV b.f 0 k r
set_option maxRecDepth 100000 in
set_option maxHeartbeats 4000000 in
theorem r8_same (W : World) (n m : Nat) (u v : Value) (a b : W8) (ha : WAt W n u a) (hb : WAt W m v b) (hn : n < 1000000) (hm : m < 1000000) (hs : Alike8 a b) :
    Calls Tryz.prog 26 #[u, v] W fun e w' => e = .returned (.bool true) ∧ Below W.heap.size W w' := by
  obtain ⟨la, La, ga, ca, rfl, ina, hLa⟩ := ha
  obtain ⟨lb, Lb, gb, cb, rfl, inb, hLb⟩ := hb
  obtain ⟨pa, xa, rfl⟩ := ina.log.shape
  obtain ⟨pb, xb, rfl⟩ := inb.log.shape
  have hnw2 := ina.ok.nw2
  have hnw32 := ina.ok.nw32
  obtain ⟨W1, hW1⟩ : ∃ x, x = W.alloc (.cells (a.cells (.slice pa La.length xa) ga ca).toArray 58) := ⟨_, rfl⟩
  have hb1 : Below W.heap.size W W1 := by rw [hW1]; exact (Below.refl _ _).alloc (Nat.le_refl _) _
  have hA : ARow W1 W.heap.size 58 (a.cells (.slice pa La.length xa) ga ca) := by rw [hW1]; exact ARow.fresh W _ _
  have hsz1 : W1.heap.size = W.heap.size + 1 := by rw [hW1]; simp
  obtain ⟨W2, hW2⟩ : ∃ x, x = W1.alloc (.cells (b.cells (.slice pb Lb.length xb) gb cb).toArray 58) := ⟨_, rfl⟩
  have hb2 : Below W1.heap.size W1 W2 := by rw [hW2]; exact (Below.refl _ _).alloc (Nat.le_refl _) _
  have hB : ARow W2 (W.heap.size + 1) 58 (b.cells (.slice pb Lb.length xb) gb cb) := by rw [hW2, ← hsz1]; exact ARow.fresh W1 _ _
  have HA := mhid (hA.below hb2)
  have HB := mhid hB
  have HIA := mhid ((ina.keep hb1).keep hb2)
  have HIB := mhid ((inb.keep hb1).keep hb2)
  have HBW := mhid (hb1.trans (hb2.mono hb1.size))
  have hml : a.mem.length ≤ 4194304 := ina.mem.len
  have HS := mhid hs
  have hnwe : ((a.f.nw : Int) != (b.f.nw : Int)) = false := by simp [hs.nw]
  have hcwe : (a.cwp != b.cwp) = false := by simp [hs.cwp]
  have hine : (a.inv != b.inv) = false := by simp [hs.inv]
  have hmle : ((a.mem.length : Int) != (b.mem.length : Int)) = false := by simp [hs.mem]
  clear hb1 hA hb2 hB ina inb hs
  unfold W8.cells at hW1 hW2 HA HB
  have a0 := HA.out.cell (k := 0) rfl
  have a1 := HA.out.cell (k := 1) rfl
  have a2 := HA.out.cell (k := 2) rfl
  have a3 := HA.out.cell (k := 3) rfl
  have a4 := HA.out.cell (k := 4) rfl
  have b0 := HB.out.cell (k := 0) rfl
  have b1 := HB.out.cell (k := 1) rfl
  have b2 := HB.out.cell (k := 2) rfl
  have b3 := HB.out.cell (k := 3) rfl
  have b4 := HB.out.cell (k := 4) rfl
  rw [hW2, hW1] at a0 a1 a2 a3 a4 b0 b1 b2 b3 b4
  go_enter Tryz.func26, Tryz.ntmps26
  unfold W8.agg
  go_wp2_with fail
  rw [← hW1, ← hW2] at a0 a1 a2 a3 a4 b0 b1 b2 b3 b4
  rw [← hW1, ← hW2]
  clear hW1 hW2
  have HC := mhid (show (W2.cell? ⟨W.heap.size, 0, none⟩ = some (.int .i64 a.f.nw) ∧ W2.cell? ⟨W.heap.size, 1, none⟩ = some (.slice pa La.length xa)) ∧ W2.cell? ⟨W.heap.size + 1, 0, none⟩ = some (.int .i64 b.f.nw) ∧ W2.cell? ⟨W.heap.size + 1, 1, none⟩ = some (.slice pb Lb.length xb) from ⟨⟨a0, a1⟩, b0, b1⟩)
  clear hnwe hcwe hine hmle a0 a1 a3 a4 b0 b1 b3 b4
  go_loopw [5] (fun i wr => ∃ k : Nat, k ≤ a.mem.length ∧ i = .int .i64 (k : Int) ∧ ∃ n, wr = W2.drewN n) (fun i _ => a.mem.length - (intOf i).toNat)
  case atStart => exact ⟨0, Nat.zero_le _, rfl, 0, rfl⟩
  case round =>
    obtain ⟨k, hk, rfl, dn, rfl⟩ := hrel
    by_cases hlt : k < a.mem.length
    · have h1 : (k : Int) < (a.mem.length : Int) := by omega
      have hlb : k < b.mem.length := by rw [← HS.out.mem]; exact hlt
      have h2 : (k : Int) < (b.mem.length : Int) := by omega
      have c0 := HIA.out.mem.byte hlt
      have c1 := HIB.out.mem.byte hlb
      rw [← HS.out.mem] at c1
      generalize a.mem.getD k 0 = x at *
      go_wp2_with fail
      go_quiet (fail)
      go_wp2_with fail
      exact ⟨⟨k + 1, by omega, by go_num, _, rfl⟩, by simp [intOf] <;> omega⟩
    · obtain rfl : k = a.mem.length := by omega
      go_wp2_with fail
      go_loopw [6] (fun i wr => ∃ k : Nat, k ≤ a.f.nw ∧ i = .int .i64 (k : Int) ∧ Hid (Below W2.heap.size W2 wr)) (fun i _ => a.f.nw - (intOf i).toNat)
      case atStart => exact ⟨0, Nat.zero_le _, rfl, mhid ⟨rfl, rfl, rfl, Nat.le_refl _, fun _ _ => rfl⟩⟩
      case round =>
        obtain ⟨k, hk, rfl, BE⟩ := hrel
        have a0 := (BE.out.cell (World.block_lt_of_cell? _ _ HC.out.1.1)).trans HC.out.1.1
        have a1 := (BE.out.cell (World.block_lt_of_cell? _ _ HC.out.1.2)).trans HC.out.1.2
        have b0 := (BE.out.cell (World.block_lt_of_cell? _ _ HC.out.2.1)).trans HC.out.2.1
        have b1 := (BE.out.cell (World.block_lt_of_cell? _ _ HC.out.2.2)).trans HC.out.2.2
        by_cases hlt : k < a.f.nw
        · have h1 : (k : Int) < (a.f.nw : Int) := by omega
          have hw1 := rf_window wr a.f HIA.out.ok (.slice pa La.length xa) La (HIA.out.log.keep BE.out) (by omega) HIA.out.says k
          have HW1 := mhid hw1
          have hre1 : regE a.f k 0 0 = 0 := if_pos ⟨⟨by omega, by omega⟩, by omega, by omega, by omega⟩
          have hre2 : regE b.f k 0 0 = 0 := if_pos ⟨⟨by omega, by rw [← HS.out.nw]; omega⟩, by omega, by omega, by omega⟩
          have HRE := mhid (And.intro hre1 hre2)
          clear hw1 hre1 hre2
          go_wp2_with fail
          refine HW1.out.mono ?_
          rintro e w3 ⟨v1, rfl, hr1, hb3⟩
          have BE3 := mhid (BE.out.trans (hb3.mono BE.out.size))
          have hw2 := rf_window w3 b.f HIB.out.ok (.slice pb Lb.length xb) Lb (HIB.out.log.keep BE3.out) (by omega) HIB.out.says k
          have HW2 := mhid hw2
          have HR1 := mhid (Reads32.of_own hr1)
          have b0 := (BE3.out.cell (World.block_lt_of_cell? _ _ HC.out.2.1)).trans HC.out.2.1
          have b1 := (BE3.out.cell (World.block_lt_of_cell? _ _ HC.out.2.2)).trans HC.out.2.2
          clear hw2 hr1 hb3 BE HW1
          go_wp2_with fail
          refine HW2.out.mono ?_
          rintro e w4 ⟨v2, rfl, hr2, hb4⟩
          have BE4 := mhid (BE3.out.trans (hb4.mono BE3.out.size))
          have hsm := same_any w4 v1 v2 _ _ (HR1.out.keepb hb4) (Reads32.of_own hr2)
          rw [decide_eq_true (HS.out.win k hlt)] at hsm
          have HSM := mhid hsm
          clear hsm hr2 hb4 BE3 HW2 HR1
          go_wp2_with fail
          refine HSM.out.mono ?_
          rintro e w5 ⟨rfl, hb5⟩
          have BE5 := mhid (BE4.out.trans (hb5.mono BE4.out.size))
          clear hb5 BE4 HSM
          go_wp2_with fail
          exact ⟨⟨k + 1, by omega, by go_num, BE5⟩, by simp [intOf] <;> omega⟩
        · obtain rfl : k = a.f.nw := by omega
          go_wp2_with fail
          have hszr := BE.out.size
          have HGA := mhid (fun (w' : World) (h : Below W2.heap.size W2 w') (k r : Nat) => rf_get w' a.f HIA.out.ok (.slice pa La.length xa) La (HIA.out.log.keep h) (by omega) HIA.out.says 0 k r)
          have HGB := mhid (fun (w' : World) (h : Below W2.heap.size W2 w') (k r : Nat) => rf_get w' b.f HIB.out.ok (.slice pb Lb.length xb) Lb (HIB.out.log.keep h) (by omega) HIB.out.says 0 k r)
          go_loopw [11] (fun i wx => ∃ k : Nat, k ≤ 16 ∧ i = .int .i64 (k : Int) ∧ Hid (Below W2.heap.size W2 wx)) (fun i _ => 16 - (intOf i).toNat)
          case atStart => exact ⟨0, Nat.zero_le _, rfl, BE⟩
          case round =>
            clear BE a0 a1 b0 b1 hszr
            obtain ⟨k, hk, rfl, BE⟩ := hrel
            by_cases hlt : k < 16
            · have h1 : (k : Int) < 16 := by omega
              go_wp2_with fail
              go_loopw [12] (fun i wx => ∃ r : Nat, r ≤ 8 ∧ i = .int .i64 (r : Int) ∧ Hid (Below W2.heap.size W2 wx)) (fun i _ => 8 - (intOf i).toNat)
              case atStart => exact ⟨0, Nat.zero_le _, rfl, BE⟩
              case round =>
                clear BE
                obtain ⟨r, hr, rfl, BE⟩ := hrel
                by_cases hlr : r < 8
                · have h2 : (r : Int) < 8 := by omega
                  have a0 := (BE.out.cell (World.block_lt_of_cell? _ _ HC.out.1.1)).trans HC.out.1.1
                  have a1 := (BE.out.cell (World.block_lt_of_cell? _ _ HC.out.1.2)).trans HC.out.1.2
                  go_wp2_with fail
                  refine (HGA.out _ BE.out k r).mono ?_
                  rintro e w3 ⟨rfl, hb3⟩
                  have BE3 := mhid (BE.out.trans (hb3.mono BE.out.size))
                  clear hb3 BE
                  have b0 := (BE3.out.cell (World.block_lt_of_cell? _ _ HC.out.2.1)).trans HC.out.2.1
                  have b1 := (BE3.out.cell (World.block_lt_of_cell? _ _ HC.out.2.2)).trans HC.out.2.2
                  go_wp2_with fail
                  refine (HGB.out _ BE3.out k r).mono ?_
                  rintro e w4 ⟨rfl, hb4⟩
                  have BE4 := mhid (BE3.out.trans (hb4.mono BE3.out.size))
                  clear hb4 BE3 b0 b1
                  rw [← HS.out.glo k r hlt hlr]
                  generalize getV a.f 0 (k : Int) (r : Int) = x at *
                  go_wp2_with fail
                  exact ⟨⟨r + 1, by omega, by go_num, BE4⟩, by simp [intOf] <;> omega⟩
                · obtain rfl : r = 8 := by omega
                  go_wp2_with fail
                  exact ⟨⟨k + 1, by omega, by go_num, BE⟩, by simp [intOf] <;> omega⟩
            · obtain rfl : k = 16 := by omega
              go_wp2_with fail
              go_ret
              exact ⟨rfl, HBW.out.trans (BE.out.mono HBW.out.size)⟩
end Go.Proofs.YtajholbcpmjhiaaGreatDoor
/- Plain law: a turn that trapped is what the document says. No program in sight. -/
namespace Go.Proofs.YtajholbcpmjhiaaGreatDoor
open Go.RowKit
theorem take_getD {a b : List Int} {n : Nat} (h : a.take n = b.take n) {i : Nat} (hi : i < n) : a.getD i 0 = b.getD i 0 := by
  rw [List.getD_eq_getElem?_getD, List.getD_eq_getElem?_getD, ← List.getElem?_take_of_lt hi, ← List.getElem?_take_of_lt hi (l := b), h]
theorem glob_like {f g : Fx} (hf : f.ok) (hg : g.ok) (h : f.glo.take 128 = g.glo.take 128) {k r : Nat} (hk : k < 16) (hr : r < 8) : getV f 0 k r = getV g 0 k r := by
  rw [getV_glob hf (by omega) hr, getV_glob hg (by omega) hr, take_getD h (by omega)]
end Go.Proofs.YtajholbcpmjhiaaGreatDoor
/- The machine that made gives runs through its turn. -/
namespace Go.Proofs.YtajholbcpmjhiaaGreatDoor
open Go.RowKit
def alN (x : CaseS) (t : Nat) : Nat := if x.alive t then 1 else 0
theorem alN_I (x : CaseS) (t : Nat) : aliveI x t = (alN x t : Int) := by unfold aliveI alN; split <;> rfl
def nS (x : CaseS) : Nat := ((x.inv - x.cwp) % x.nw).toNat
theorem MadeS.trap {x : CaseS} {m : Mx} (h : MadeS x m) (hm : mayS x) (hx : 0 ≤ x.choice ∧ x.choice < 4294967296) (hok : m.ok) :
    AtTrap m x.cwp.toNat x.inv.toNat (nS x) x.pil x.flags x.runs.toNat x.threads.toNat x.choice.toNat (alN x) x.en := by
  obtain ⟨⟨n2, n32⟩, ⟨c0, c1⟩, ⟨i0, i1⟩, hne, ⟨t1, t4⟩, ⟨r0, r1⟩, -⟩ := hm
  have e := h.nw
  have hw : winP x.nw := ⟨n2, n32⟩
  have hs := fun k => res_step (x := x.cwp) (fin := x.inv) (nw := x.nw) hw ⟨i0, i1⟩ ⟨c0, c1⟩ k
  have hnn : ((nS x : Nat) : Int) = (x.inv - x.cwp) % x.nw := by unfold nS; exact Int.toNat_of_nonneg (Int.emod_nonneg _ (by omega))
  have hlt : (x.inv - x.cwp) % x.nw < x.nw := Int.emod_lt_of_pos _ (by omega)
  have hcw : ((x.cwp.toNat : Nat) : Int) = x.cwp := Int.toNat_of_nonneg c0
  have hiv : ((x.inv.toNat : Nat) : Int) = x.inv := Int.toNat_of_nonneg i0
  have cast : ∀ j : Nat, (((x.cwp.toNat + j) % m.f.nw : Nat) : Int) = (x.cwp + (j : Int)) % x.nw := fun j => by
    rw [Int.natCast_emod, e, Int.natCast_add, hcw]
  have hend : (x.cwp + ((nS x : Nat) : Int)) % x.nw = x.inv := (hs 0).2.1
  refine { ok := hok, kind := h.kind, pc := h.pc, p := by rw [h.p, hcw], cwL := by omega, invL := by omega, wim := h.wim, n0 := ?_, nn := by omega, ne := ?_, no := fun j h1 h2 hh => ?_, len := h.mem.len, hs := h.mem.hs, v3 := h.mem.v3, v4 := h.mem.v4, at' := h.mem.at', fr := fun w hw2 => ?_, curL := by rw [h.mem.curL, Int.toNat_of_nonneg r0], cur4 := by omega, T4 := by omega, th := by rw [h.mem.th, Int.toNat_of_nonneg (by omega)], av := fun t ht => ?_, one := fun t => by unfold alN; split <;> omega, cb := by omega, ch := ?_ }
  · rcases Nat.eq_zero_or_pos (nS x) with h0 | h0
    · rw [h0] at hend
      have : (x.cwp + ((0 : Nat) : Int)) % x.nw = x.cwp := by rw [show x.cwp + ((0 : Nat) : Int) = x.cwp by omega]; exact Int.emod_eq_of_lt c0 c1
      exact absurd (hend.symm.trans this) hne
    · exact h0
  · have := cast (nS x)
    rw [hend] at this; omega
  · have h3 := (hs j).1 (by show j < nS x; exact h2)
    have := cast j
    rw [hh] at this
    exact h3 (by rw [← this]; exact hiv)
  · obtain ⟨A, q1, q2⟩ := h.sp w hw2 hw2
    rw [getV_out hok.f.nw2 hw2] at q1
    exact ⟨A, q1, q2⟩
  · have := (h.mem.tcb t (by omega)).2.2.2
    rw [this, alN_I]
  · rw [h.ch]; show x.choice = _; rw [Int.toNat_of_nonneg hx.1]
def pcS (x : CaseS) (t : Nat) : Nat := if x.en = false ∧ t = x.runs.toNat then 1540 else 1700 + 4 * t
def spS (x : CaseS) (m : Mx) (t : Nat) : Nat := if x.en = false ∧ t = x.runs.toNat then frW m.f.win m.f.nw x.cwp.toNat else (frmX (x.stacks t)).toNat
def liveS (x : CaseS) : Nat := cntL (alE (alN x) x.runs.toNat x.en) x.threads.toNat 0
def nextT (x : CaseS) : Nat := seekL (alE (alN x) x.runs.toNat x.en) x.threads.toNat 0 (x.choice.toNat % liveS x)
theorem swap_go {x : CaseS} {m : Mx} (h : MadeS x m) (hm : mayS x) (hx : 0 ≤ x.choice ∧ x.choice < 4294967296) (hst : ∀ t, 0 ≤ x.stacks t ∧ x.stacks t < 65536) (hok : m.ok) (hl : 0 < liveS x) :
    ∃ k m', 1 ≤ k ∧ k ≤ 26 * nS x + 125 ∧ Rest (pcS x (nextT x) : Nat) k m m' ∧ AfterS m m' (pcS x (nextT x) : Nat) ((x.cwp.toNat + 1) % m.f.nw) ∧ (2048 ≤ spS x m (nextT x) ∧ spS x m (nextT x) % 4 = 0 ∧ spS x m (nextT x) + 64 ≤ 8192) ∧ nextT x < x.threads.toNat ∧
      m'.f.win = setW (m.f.win.set (16 * ((x.cwp.toNat + m.f.nw - 1) % m.f.nw) + 14) (spS x m (nextT x))) x.cwp.toNat (wordsS (nextS (halfS m x.cwp.toNat (nS x) x.runs.toNat x.en) (nextT x)) (spS x m (nextT x)) 16) ∧ m'.mem = nextS (halfS m x.cwp.toNat (nS x) x.runs.toNat x.en) (nextT x) := by
  have ha := h.trap hm hx hok
  obtain ⟨hl8, htcb⟩ := half_tcb ha
  have htl := seek_lt (alE (alN x) x.runs.toNat x.en) x.threads.toNat 0 _ (Nat.mod_lt x.choice.toNat hl) htcb.one
  have htT : nextT x < x.threads.toNat := by have := htl.1; unfold nextT liveS; omega
  have hT4 := ha.T4
  have hc4 := ha.cur4
  have hlen := ha.len
  have hnw2 := hok.f.nw2
  have hfr : ∀ k, 2048 ≤ frW m.f.win m.f.nw ((x.cwp.toNat + k) % m.f.nw) := fun k => (ha.fr.at (Nat.mod_lt _ (by omega))).2.1
  obtain ⟨f1, f2, f3, f4⟩ := ha.fr.at ha.cwL
  have ht4 : nextT x < 4 := by omega
  obtain ⟨w1, w2, w3, w4⟩ := h.mem.tcb (nextT x) ht4
  have hfb := hst (nextT x)
  have hfx : 2048 ≤ (frmX (x.stacks (nextT x))).toNat ∧ (frmX (x.stacks (nextT x))).toNat % 4 = 0 ∧ (frmX (x.stacks (nextT x))).toNat + 64 ≤ 8192 ∧ (((frmX (x.stacks (nextT x))).toNat : Nat) : Int) = frmX (x.stacks (nextT x)) := by unfold frmX; omega
  have hsb : 2048 ≤ spS x m (nextT x) ∧ spS x m (nextT x) % 4 = 0 ∧ spS x m (nextT x) + 64 ≤ 8192 := by
    unfold spS; split
    · exact ⟨f2, f3, f4⟩
    · exact ⟨hfx.1, hfx.2.1, hfx.2.2.1⟩
  have hpcl : loadS (halfS m x.cwp.toNat (nS x) x.runs.toNat x.en) (16 * nextT x + 64) 4 = (pcS x (nextT x) : Nat) ∧ loadS (halfS m x.cwp.toNat (nS x) x.runs.toNat x.en) (16 * nextT x + 68) 4 = (spS x m (nextT x) : Nat) := by
    unfold halfS pcS spS keepS
    cases x.en
    · simp only [Bool.false_eq_true, if_false, true_and]
      by_cases e : nextT x = x.runs.toNat
      · rw [if_pos e, if_pos e, e]
        refine ⟨?_, ?_⟩
        · rw [load_far _ (by omega), load_own (by decide) (by rw [flushS_len]; omega)]; rfl
        · rw [load_own ⟨by omega, by omega⟩ (by rw [storeS_len, flushS_len]; omega)]
      · rw [if_neg e, if_neg e]
        refine ⟨?_, ?_⟩
        · rw [load_far _ (by omega), load_far _ (by omega), load_flush (by omega) hfr, w1]; omega
        · rw [load_far _ (by omega), load_far _ (by omega), load_flush (by omega) hfr, w2, hfx.2.2.2]
    · simp only [if_true, Bool.true_eq_false, false_and, if_false]
      refine ⟨?_, ?_⟩
      · rw [load_far _ (by omega), w1]; omega
      · rw [load_far _ (by omega), w2, hfx.2.2.2]
  have hne : ((pcS x (nextT x) : Nat) : Int) ≠ 1536 := by unfold pcS; split <;> omega
  obtain ⟨k, m', g1, g2, g3, g4, g5⟩ := swap_turn ha hl rfl (sp := spS x m (nextT x)) (pc := (pcS x (nextT x) : Nat)) hpcl.2 hsb hpcl.1 hne
  refine ⟨k, m', ?_, g1, ⟨g2, g3.kind, g3.pc, by rw [g3.p, h.p]⟩, g3, hsb, htT, g4, g5⟩
  cases k with
  | zero =>
    obtain rfl : m = m' := g2
    exact absurd (g3.pc.symm.trans h.pc) hne
  | succ k => omega
end Go.Proofs.YtajholbcpmjhiaaGreatDoor
/- swap.All where there is no list, or too many windows. -/
namespace Go.Proofs.YtajholbcpmjhiaaGreatDoor
open Go.RowKit Go.Maps
set_option maxRecDepth 100000 in
set_option maxHeartbeats 4000000 in
theorem swall_nil (w : World) (n : Int) : Calls Tryz.prog 30 #[.pointer none, .int .i64 n] w fun e w' => e = .returned (.int .i64 1) ∧ w = w' := by
  go_enter Tryz.func30, Tryz.ntmps30
  go_wp2_with fail
  refine (acopy_none w _ (anone_nil w)).mono ?_
  rintro e w' ⟨rfl, rfl⟩
  go_wp2_with fail
  go_ret
  exact ⟨rfl, rfl⟩
set_option maxRecDepth 100000 in
set_option maxHeartbeats 4000000 in
theorem swall_bad {W w : World} {pa : Nat} {S : Nat → Prop} {s : Bs} (h : BsAt W w pa S s) (hL : s.L.length < 4294967296) (n : Int) (hn : okE 0 n = 2) :
    Calls Tryz.prog 30 #[.pointer (some ⟨pa, 0, none⟩), .int .i64 n] w fun e w' => e = .returned (.int .i64 2) ∧ Below w.heap.size w w' := by
  have HC := ahid (bs_copy h hL)
  have HK := ahid hn
  clear h hn
  go_enter Tryz.func30, Tryz.ntmps30
  go_wp2_with fail
  refine HC.out.mono ?_
  rintro e w1 ⟨⟨q, rfl⟩, hb1⟩
  go_wp2_with fail
  refine (wim_any 0 n w1).mono ?_
  rintro e w2 ⟨rfl, hb2⟩
  rw [HK.out]
  have HB := ahid (hb1.trans (hb2.mono hb1.size))
  clear hb1 hb2
  go_wp2_with fail
  go_ret
  exact ⟨rfl, HB.out⟩
end Go.Proofs.YtajholbcpmjhiaaGreatDoor
/- The walk of muntinlaw10.head. -/
namespace Go.Proofs.YtajholbcpmjhiaaGreatDoor
open Go.RowKit
def headSt (t : Nat) : Int := if t = 1 then 1000 else 0
def headC (en : Bool) (c : Int) : CaseS := ⟨3, 1, 0, [], [0, 100, 200], 2, 0, fun t => decide (t < 2), headSt, c, 0, 0, 0, en⟩
theorem headC_may (en : Bool) (c : Int) : mayS (headC en c) := by unfold mayS headC; simp
theorem headSt_bd (t : Nat) : 0 ≤ headSt t ∧ headSt t < 65536 := by unfold headSt; split <;> omega
theorem head_live : liveS (headC false 5) = 2 ∧ nextT (headC false 5) = 1 ∧ liveS (headC true 0) = 1 ∧ nextT (headC true 0) = 1 := by decide
theorem head_pc : pcS (headC false 5) 1 = 1704 ∧ pcS (headC true 0) 1 = 1704 := by decide
theorem head_n (en : Bool) (c : Int) : nS (headC en c) = 2 := by unfold nS headC; rfl
theorem head_sp (m : Mx) : spS (headC false 5) m 1 = 6048 := by unfold spS; rw [if_neg (by decide)]; rfl
theorem next_own {d : List Int} {t : Nat} (ht : t < 4) (hl : 2048 ≤ d.length) : loadS (nextS d t) 128 4 = (t : Int) := by
  unfold nextS
  rw [load_far _ (by omega), load_own (by omega) (by omega)]
theorem next_low {d : List Int} {t a : Nat} (ha : a + 4 ≤ 128) : loadS (nextS d t) a 4 = loadS d a 4 := by
  unfold nextS
  rw [load_far _ (by omega), load_far _ (by omega)]
theorem headM_facts {m m' : Mx} (hok : m.ok) (h : MadeS (headC false 5) m) (hm : m'.mem = nextS (halfS m 1 2 0 false) 1) (hw : m'.f.win = setW (m.f.win.set (16 * ((1 + m.f.nw - 1) % m.f.nw) + 14) (6048 : Nat)) 1 (wordsS (nextS (halfS m 1 2 0 false) 1) 6048 16)) (hn : m'.f.nw = m.f.nw) :
    loadV m'.mem 128 4 = 1 ∧ loadV m'.mem 64 4 = 1540 ∧ getV m'.f 1 0 14 = frmX 1000 := by
  have hnw : m.f.nw = 3 := by have := h.nw; have h3 : (headC false 5).nw = 3 := rfl; omega
  have hwl := hok.f.wl
  have ha := h.trap (headC_may _ _) ⟨by decide, by decide⟩ hok
  obtain ⟨hl8, -⟩ := half_tcb ha
  have hl8' : (halfS m 1 2 0 false).length = 8192 := hl8
  have hl2 : m'.mem.length = 8192 := by rw [hm, nextS_len]; exact hl8'
  refine ⟨?_, ?_, ?_⟩
  · rw [show (128 : Int) = ((128 : Nat) : Int) from rfl, loadV_in (by decide) (by omega), hm, next_own (by decide) (by omega)]; rfl
  · rw [show (64 : Int) = ((64 : Nat) : Int) from rfl, loadV_in (by decide) (by omega), hm, next_low (by decide)]
    unfold halfS keepS
    simp only [Bool.false_eq_true, if_false]
    rw [load_far _ (by omega), load_own (by decide) (by rw [flushS_len, h.mem.len]; decide)]
  · have e := getV_out (f := m'.f) (w := 1) (by omega) (by omega)
    rw [show ((1 : Nat) : Int) = 1 from rfl] at e
    rw [e, hn, hw, hnw, setW_out (by rw [List.length_set, hwl, hnw, wordsS_len]; decide) (.inl (by decide)), List.getD_eq_getElem?_getD, List.getElem?_set_self (by rw [hwl, hnw]; decide)]
    rfl
theorem headO_facts {m m' : Mx} (hok : m.ok) (h : MadeS (headC true 0) m) (hm : m'.mem = nextS (halfS m 1 2 0 true) 1) : loadV m'.mem 76 4 = 0 := by
  have hl8' : (halfS m 1 2 0 true).length = 8192 := by unfold halfS; simp only [if_true]; rw [storeS_len]; exact h.mem.len
  have hl2 : m'.mem.length = 8192 := by rw [hm, nextS_len]; exact hl8'
  rw [show (76 : Int) = ((76 : Nat) : Int) from rfl, loadV_in (by decide) (by omega), hm, next_low (by decide)]
  unfold halfS
  simp only [if_true]
  rw [load_own (by decide) (by rw [h.mem.len]; decide)]
def litC (b : Nat) (c : Int) (en : Bool) : List Value := [.int .i64 3, .int .i64 1, .int .i64 0, .slice none 0 0, .slice (some ⟨b, 0, none⟩) 3 3, .int .i64 2, .int .i64 0, .bool true, .bool true, .bool false, .bool false, .int .u16 0, .int .u16 1000, .int .u16 0, .int .u16 0, .int .u32 c, .int .u8 0, .int .u8 0, .int .u32 0, .bool en]
theorem headC_agg (b : Nat) (c : Int) (en : Bool) : (headC en c).agg (.slice none 0 0) (.slice (some ⟨b, 0, none⟩) 3 3) = .agg (litC b c en).toArray := by
  unfold CaseS.agg headC litC headSt
  simp
theorem headC_in {w : World} {b : Nat} (hr : ARow w b 73 [.int .u16 0, .int .u16 100, .int .u16 200]) (en : Bool) (c : Int) (hc : 0 ≤ c ∧ c < 4294967296) : CaseSIn w (headC en c) (.slice none 0 0) (.slice (some ⟨b, 0, none⟩) 3 3) := by
  refine ⟨⟨⟨fun x hx => by simp [headC] at hx, none, 0, rfl, fun h => by simp [headC] at h⟩, by show 0 ≤ maxLen; exact Nat.zero_le _, fun p n c e => by cases e; exact ⟨by decide, fun _ => rfl⟩⟩, ⟨by show 3 ≤ maxLen; unfold maxLen; omega, fun x hx => ?_, some ⟨b, 0, none⟩, 3, b, 0, rfl, fun _ => rfl, fun k x hx => ?_⟩, by unfold headC; simp, headSt_bd, by unfold headC; simp, by unfold headC; simp, by unfold headC; simp, hc⟩
  · have hx2 : x ∈ ([0, 100, 200] : List Int) := hx
    simp at hx2
    omega
  · rw [Nat.zero_add]
    match k, hx with
    | 0, hx => cases hx; exact hr.cell (k := 0) rfl
    | 1, hx => cases hx; exact hr.cell (k := 1) rfl
    | 2, hx => cases hx; exact hr.cell (k := 2) rfl
theorem MIs.base {w00 w0 w w' : World} {G : MG} {M : Nat} {m : Mx} {S : Nat → Prop} (h : MIs w0 w G M m) (o : Only S w w') (hS : ∀ k, S k → G.R k = .none) (hb : Below w00.heap.size w00 w') (hz : w00.heap.size ≤ w0.heap.size) : MIs w00 w' G M m :=
  ⟨h.at'.keep o (fun k hk e => hk (hS k e)), fun k hk => Nat.le_trans hz (h.lo k hk), hb⟩
theorem outL_madeS {x : CaseS} {m : Mx} (h : MadeS x m) : outL m = 0 := by unfold outL; rw [h.out]; rfl
set_option maxRecDepth 100000 in
set_option maxHeartbeats 8000000 in
theorem shead_any (w : World) (ht : Tab w) (hbr : Bru w) :
    Calls Tryz.prog 33 #[] w fun e w' => e = .returned (.bool true) ∧ Below w.heap.size w w' := by
  have HT := mhid ht
  have HR := mhid hbr
  clear ht hbr
  obtain ⟨W0, hW0⟩ : ∃ W0, W0 = w.alloc (.cells #[.int .u16 0, .int .u16 100, .int .u16 200] 73) := ⟨_, rfl⟩
  obtain ⟨W1, hW1⟩ : ∃ W1, W1 = W0.alloc (.cells (litC w.heap.size 5 false).toArray 76) := ⟨_, rfl⟩
  have s0 : W0.heap.size = w.heap.size + 1 := by rw [hW0]; simp
  have hb0 : Below w.heap.size w W0 := by rw [hW0]; exact (Below.refl _ _).alloc (Nat.le_refl _) _
  have hb1 : Below w.heap.size w W1 := by rw [hW1]; exact hb0.alloc (by omega) _
  have hrow : ARow W1 w.heap.size 73 [.int .u16 0, .int .u16 100, .int .u16 200] := by rw [hW1, hW0]; exact (ARow.fresh w _ _).alloc _
  have hbox : ARow W1 (w.heap.size + 1) 76 (litC w.heap.size 5 false) := by rw [hW1, ← s0]; exact ARow.fresh W0 _ _
  have HB1 := mhid hb1
  have HROW := mhid hrow
  have HBOX := mhid hbox
  have HW := mhid (And.intro hW0 hW1)
  unfold litC at HW HBOX
  clear hb0 hb1 hrow hbox
  have HSZ := mhid (show (Tryz.prog.info? 76).map (·.size) = some (litC w.heap.size 5 false).toArray.size from by kernel_rfl)
  have HONE := mhid (show (litC w.heap.size 5 false).toArray.all (·.oneCell') = true from by simp [litC, Value.oneCell'])
  unfold litC at HSZ HONE
  have HZ := mhid (show ∀ z, ((w.alloc (.cells #[.int .u16 0, .int .u16 100, .int .u16 200] 73)).alloc z).heap[w.heap.size + 1]? = some z from fun z => by
    have h := heap_alloc_new (w.alloc (.cells #[.int .u16 0, .int .u16 100, .int .u16 200] 73)) z
    rw [World.size_alloc] at h
    exact h)
  have HQ := mhid (show ∀ z, ((w.alloc (.cells #[.int .u16 0, .int .u16 100, .int .u16 200] 73)).alloc (.cells z 76)).setRow (w.heap.size + 1) (litC w.heap.size 5 false).toArray = W1 from fun z => by
    have h := World.setRow_alloc_new W0 z (litC w.heap.size 5 false).toArray 76
    rw [← hW0, ← s0, h, hW1])
  unfold litC at HQ
  clear hW0 hW1 s0
  go_enter Tryz.func33, Tryz.ntmps33
  have HM1 := mhid (smade_any W1 (HT.out.keep HB1.out) (HR.out.keep HB1.out) (headC false 5) _ _ (headC_in HROW.out false 5 ⟨by decide, by decide⟩) (headC_may _ _))
  rw [headC_agg] at HM1
  unfold litC at HM1
  go_wp2_with (first | (refine wpList_store_row rfl 76 (.tmp 1) (.tmp 15) rfl (w.heap.size + 1) _ rfl rfl 76 _ (HZ.out _) HSZ.out rfl HONE.out ?_) | (refine wpList_load_row rfl 76 (.tmp 1) rfl (w.heap.size + 1) rfl 76 _ (0, 0) _ (setRow_heap _ _ _ _ _ _ (HZ.out _)) Tryz.underlying76 rfl HSZ.out ?_))
  rw [HQ.out]
  clear HZ HQ HW
  refine HM1.out.mono ?_
  rintro e W2 ⟨M, G, m, rfl, hM, hMade⟩
  have hoff : ∀ k, k = w.heap.size + 1 → G.R k = .none := fun k hk => by
    by_cases e : G.R k = .none
    · exact e
    · exact absurd (hM.lo k e) (by have := HBOX.out.lt; omega)
  have HOFF := mhid hoff
  have HBOX2 := mhid (HBOX.out.below hM.bel)
  have HROW2 := mhid (HROW.out.below hM.bel)
  have HB2 := mhid (HB1.out.trans (hM.bel.mono HB1.out.size))
  have HM2 := mhid hM
  have HMADE := mhid hMade
  have HLT := mhid HBOX.out.lt
  have c15 := HBOX2.out.cell (k := 15) rfl
  have c19 := HBOX2.out.cell (k := 19) rfl
  have f15 := HBOX2.out.frozen 15
  have f19 := HBOX2.out.frozen 19
  obtain ⟨W3, hW3⟩ : ∃ W3, W3 = (W2.setCell ⟨w.heap.size + 1, 19, none⟩ (.bool true)).setCell ⟨w.heap.size + 1, 15, none⟩ (.int .u32 0) := ⟨_, rfl⟩
  have hbox3 : ARow ((W2.setCell ⟨w.heap.size + 1, 19, none⟩ (.bool true)).setCell ⟨w.heap.size + 1, 15, none⟩ (.int .u32 0)) (w.heap.size + 1) 76 (litC w.heap.size 0 true) := ((HBOX2.out.set 19 (.bool true)).set 15 (.int .u32 0)).to rfl
  have ho3 : Only (fun k => k = w.heap.size + 1) W2 W3 := by rw [hW3]; exact ((Only.refl (fun k => k = w.heap.size + 1) W2).setCell (p := ⟨w.heap.size + 1, 19, none⟩) rfl _).setCell (p := ⟨w.heap.size + 1, 15, none⟩) rfl _
  have hb3 : Below w.heap.size w W3 := HB2.out.trans (ho3.below HB2.out.size fun k hk e => by omega)
  have HBOX3 := mhid hbox3
  have HSZ2 := mhid (show (Tryz.prog.info? 76).map (·.size) = some (litC w.heap.size 0 true).toArray.size from by kernel_rfl)
  unfold litC at HBOX3 HSZ2
  have HB3 := mhid hb3
  have HM3 := mhid (hM.base (w00 := w) ho3 HOFF.out hb3 (by have := HB1.out.size; omega))
  have HROW3 := mhid (show ARow W3 w.heap.size 73 [.int .u16 0, .int .u16 100, .int .u16 200] from HROW2.out.of_block (ho3.block w.heap.size HROW2.out.lt (by omega)))
  have HM1' := mhid (smade_any W3 (HT.out.keep hb3) (HR.out.keep hb3) (headC true 0) _ _ (headC_in HROW3.out true 0 ⟨by decide, by decide⟩) (headC_may _ _))
  rw [headC_agg] at HM1'
  unfold litC at HM1'
  have HW3 := mhid hW3
  clear hoff hM hMade hbox3 ho3 hb3 hW3 HSZ HONE HBOX HROW HROW2 HM1 HB1 HB2 HM2
  go_wp2_with (refine wpList_load_row rfl 76 (.tmp 1) rfl (w.heap.size + 1) rfl 76 _ (0, 0) _ HBOX3.out Tryz.underlying76 rfl HSZ2.out ?_)
  rw [← HW3.out]
  clear c15 c19 f15 f19 HW3 HBOX3 HSZ2 HBOX2
  refine HM1'.out.mono ?_
  rintro e w4 ⟨O, G2, o, rfl, hO, hMadeO⟩
  have HS4 := mhid (show MIs w w4 G M m ∧ MIs w w4 G2 O o ∧ Apart G G2 from ⟨HM3.out.keepb hO.bel, ⟨hO.at', fun k hk => Nat.le_trans HB3.out.size (hO.lo k hk), HB3.out.trans (hO.bel.mono HB3.out.size)⟩, Apart.fresh HM3.out.at' hO.lo⟩)
  have HMADEO := mhid hMadeO
  clear hO hMadeO HM1' HM3
  obtain ⟨k1, m', h1, hk1, hRest, hAf, -, -, hwin, hmem⟩ := swap_go HMADE.out (headC_may _ _) ⟨by decide, by decide⟩ headSt_bd HS4.out.1.at'.ok (by rw [head_live.1]; decide)
  rw [head_live.2.1] at hRest hAf hwin hmem
  rw [head_pc.1] at hRest hAf
  rw [head_n] at hk1 hwin hmem
  rw [head_sp] at hwin
  obtain ⟨k2, o', h2, hk2, hRestO, hAfO, -, -, -, hmemO⟩ := swap_go HMADEO.out (headC_may _ _) ⟨by decide, by decide⟩ headSt_bd HS4.out.2.1.at'.ok (by rw [head_live.2.2.1]; decide)
  rw [head_live.2.2.2] at hRestO hmemO
  rw [head_pc.2] at hRestO
  rw [head_n] at hk2 hmemO
  have HF1 := mhid (headM_facts HS4.out.1.at'.ok HMADE.out hmem hwin hAf.nw)
  have HF2 := mhid (headO_facts HS4.out.2.1.at'.ok HMADEO.out hmemO)
  have HLM := mhid (show m'.mem.length = 8192 from by rw [hmem, nextS_len]; exact (half_tcb (HMADE.out.trap (headC_may _ _) ⟨by decide, by decide⟩ HS4.out.1.at'.ok)).1)
  have HWI := mhid (show m'.wim = 4 from by
    have := hAf.wim
    have hnw : m.f.nw = 3 := by have := HMADE.out.nw; have h3 : (headC false 5).nw = 3 := rfl; omega
    rw [hnw] at this; exact this)
  have HR1 := mhid (And.intro h1 (And.intro (show k1 ≤ 260 by omega) hRest))
  have HR2 := mhid (And.intro h2 (And.intro (show k2 ≤ 260 by omega) hRestO))
  clear h1 hk1 hRest hAf hwin hmem h2 hk2 hRestO hAfO hmemO
  go_wp2_with fail
  refine (sruns_any w w4 HT.out HR.out G M m m' HS4.out.1 1704 260 k1 (by decide) (by decide) HR1.out.2.1 HR1.out.1 (by rw [outL_madeS HMADE.out]; decide) HR1.out.2.2).mono ?_
  rintro e w5 ⟨rfl, G5, hM5, hkk⟩
  have HS5 := mhid (And.intro hM5 (HS4.out.2.1.other HS4.out.1 HS4.out.2.2 hkk))
  clear hM5 hkk HS4
  go_wp2_with fail
  refine (sruns_any w w5 HT.out HR.out G2 O o o' HS5.out.2.1 1704 260 k2 (by decide) (by decide) HR2.out.2.1 HR2.out.1 (by rw [outL_madeS HMADEO.out]; decide) HR2.out.2.2).mono ?_
  rintro e w6 ⟨rfl, G6, hO6, hkk⟩
  have HS6 := mhid (And.intro (HS5.out.1.other HS5.out.2.1 HS5.out.2.2.symm hkk) hO6)
  clear hO6 hkk HS5
  go_wp2_with fail
  refine (mmem_any w6 G5 M m' HS6.out.1.1.at').mono ?_
  rintro e w' ⟨rfl, rfl⟩
  go_wp2_with fail
  refine (load_any w6 G5.mB G5.gB m'.mem HS6.out.1.1.at'.mem 128 4 (by decide) (by decide)).mono ?_
  rintro e w' ⟨rfl, rfl⟩
  rw [HF1.out.1]
  go_wp2_with fail
  refine (mmem_any w6 G5 M m' HS6.out.1.1.at').mono ?_
  rintro e w' ⟨rfl, rfl⟩
  go_wp2_with fail
  refine (load_any w6 G5.mB G5.gB m'.mem HS6.out.1.1.at'.mem 64 4 (by decide) (by decide)).mono ?_
  rintro e w' ⟨rfl, rfl⟩
  rw [HF1.out.2.1]
  go_wp2_with fail
  refine (mmem_any w6 G6 O o' HS6.out.2.at').mono ?_
  rintro e w' ⟨rfl, rfl⟩
  go_wp2_with fail
  refine (load_any w6 G6.mB G6.gB o'.mem HS6.out.2.at'.mem 76 4 (by decide) (by decide)).mono ?_
  rintro e w' ⟨rfl, rfl⟩
  rw [HF2.out]
  go_wp2_with fail
  refine (mfile_any w6 G5 M m' HS6.out.1.1.at').mono ?_
  rintro e w' ⟨rfl, rfl⟩
  go_wp2_with fail
  refine (fget_any w6 G5.F G5.Wb G5.wc m'.f HS6.out.1.1.at'.file 1 0 14).mono ?_
  rintro e w7 ⟨rfl, n7, hn7⟩
  subst hn7
  rw [HF1.out.2.2]
  have HM7 := mhid (HS6.out.1.1.drewN n7)
  clear HS6
  go_wp2_with fail
  refine (sframe_any 1000 (by decide) (w6.drewN n7)).mono ?_
  rintro e w' ⟨rfl, rfl⟩
  go_wp2_with fail
  refine (mwim_any (w6.drewN n7) G5 M m' HM7.out.at').mono ?_
  rintro e w' ⟨rfl, rfl⟩
  rw [HWI.out]
  have HB7 := mhid HM7.out.bel
  generalize w6.drewN n7 = w7 at *
  go_wp2_with fail
  refine (swall_nil w7 3).mono ?_
  rintro e w' ⟨rfl, rfl⟩
  go_wp2_with fail
  refine (new_lst w7 w7 (Below.refl _ _)).mono ?_
  rintro e w9 ⟨pa, S0, rfl, hl, hS0, hb9⟩
  have H0 := mhid (show BsAt w7 w9 pa S0 asm0 from ⟨hl, TabLo.start (HT.out.keep HB7.out) hb9, hb9⟩)
  have HB9 := mhid (HB7.out.trans (hb9.mono HB7.out.size))
  clear hl hS0 hb9
  go_wp2_with fail
  refine (swall_bad H0.out (by decide) 33 (by decide)).mono ?_
  rintro e w10 ⟨rfl, hb10⟩
  have HB10 := mhid (HB9.out.trans (hb10.mono HB9.out.size))
  clear hb10
  go_wp2_with fail
  first
    | go_ret2
    | go_ret
  exact ⟨rfl, HB10.out⟩
end Go.Proofs.YtajholbcpmjhiaaGreatDoor
