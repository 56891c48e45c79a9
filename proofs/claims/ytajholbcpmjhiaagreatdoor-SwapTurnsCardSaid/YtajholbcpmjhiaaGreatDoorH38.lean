/- Several texts in one: Ref3Set. -/
import Derived.Test.YtajholbcpmjhiaaGreatDoorH37
set_option linter.unusedVariables false
set_option linter.unusedSimpArgs false
/- The walks of the document's file (muntinref03): New, Set. -/
namespace Go.Proofs.YtajholbcpmjhiaaGreatDoor
open Go.RowKit Go.Maps
structure R2 (w : World) (b : Nat) (lv mv : Value) : Prop where
  c0 : w.cell? ⟨b, 0, none⟩ = some lv
  c1 : w.cell? ⟨b, 1, none⟩ = some mv
  f0 : w.frozen? ⟨b, 0, none⟩ = false
  f1 : w.frozen? ⟨b, 1, none⟩ = false
theorem R2.lt {w : World} {b : Nat} {lv mv : Value} (h : R2 w b lv mv) : b < w.heap.size := World.block_lt_of_cell? _ _ h.c0
theorem R2.new (w : World) (lv mv : Value) (t : TypeId) : R2 (w.alloc (.cells #[lv, mv] t)) w.heap.size lv mv := by
  have h := heap_alloc_new w (.cells #[lv, mv] t)
  exact ⟨by simp only [World.cell?, h]; rfl, by simp only [World.cell?, h]; rfl, by simp only [World.frozen?, h]; rfl, by simp only [World.frozen?, h]; rfl⟩
theorem R2.keepB {w w' : World} {B b : Nat} {lv mv : Value} (h : R2 w b lv mv) (hb : Below B w w') (hl : b < B) : R2 w' b lv mv :=
  ⟨(hb.cell (p := ⟨b, 0, none⟩) hl).trans h.c0, (hb.cell (p := ⟨b, 1, none⟩) hl).trans h.c1, (hb.frozen (p := ⟨b, 0, none⟩) hl).trans h.f0, (hb.frozen (p := ⟨b, 1, none⟩) hl).trans h.f1⟩
theorem R2.al {w : World} {b : Nat} {lv mv : Value} (h : R2 w b lv mv) (o : Obj) : R2 (w.alloc o) b lv mv := h.keepB ((Below.refl _ _).alloc (Nat.le_refl _) _) h.lt
theorem R2.set {w : World} {b : Nat} {x y : Value} (h : R2 w b x y) (u v : Value) : R2 ((w.setCell ⟨b, 0, none⟩ u).setCell ⟨b, 1, none⟩ v) b u v := by
  obtain ⟨c0, c1, f0, f1⟩ := h
  refine ⟨?_, ?_, ?_, ?_⟩
  · exact (World.cell?_setCell_other _ _ _ _ (by simp)).trans (World.cell?_setCell_same _ _ _ c0)
  · exact World.cell?_setCell_same _ _ _ (u := y) ((World.cell?_setCell_other _ _ _ _ (by simp)).trans c1)
  · simpa using f0
  · simpa using f1
structure R3 (w : World) (b : Nat) (x y z : Value) : Prop where
  c0 : w.cell? ⟨b, 0, none⟩ = some x
  c1 : w.cell? ⟨b, 1, none⟩ = some y
  c2 : w.cell? ⟨b, 2, none⟩ = some z
theorem R3.new (w : World) (x y z : Value) (t : TypeId) : R3 (w.alloc (.cells #[x, y, z] t)) w.heap.size x y z := by
  have h := heap_alloc_new w (.cells #[x, y, z] t)
  exact ⟨by simp only [World.cell?, h]; rfl, by simp only [World.cell?, h]; rfl, by simp only [World.cell?, h]; rfl⟩
theorem R3.keepB {w w' : World} {B b : Nat} {x y z : Value} (h : R3 w b x y z) (hb : Below B w w') (hl : b < B) : R3 w' b x y z :=
  ⟨(hb.cell (p := ⟨b, 0, none⟩) hl).trans h.c0, (hb.cell (p := ⟨b, 1, none⟩) hl).trans h.c1, (hb.cell (p := ⟨b, 2, none⟩) hl).trans h.c2⟩
theorem infosd : (Tryz.prog.info? 197).map (fun i => (i.zero, i.size, i.bytes)) = some (some (.agg #[.int .i64 0, .int .i64 0, .int .i64 0, .int .u32 0]), 4, 32) := by kernel_rfl
theorem sds_one (L : List Sd) : ∀ u ∈ L.flatMap sdC, u.oneCell' = true := by
  intro u hu
  obtain ⟨e, _, h⟩ := List.mem_flatMap.1 hu
  simp [sdC] at h
  rcases h with rfl | rfl | rfl | rfl <;> simp [Value.oneCell']
theorem sds_len (L : List Sd) : (L.flatMap sdC).length = L.length * 4 := by
  induction L with
  | nil => rfl
  | cons s L ih => rw [List.flatMap_cons, List.length_append, ih]; simp [sdC]; omega
def RfSets (W : World) (lv : Value) (f : Fx) (L : List Sd) (w b r x : Int) (e : Ending) (w' : World) : Prop :=
  ∃ lv' L', e = .returned (.tuple #[.agg #[.int .i64 f.nw, lv'], .int .i64 (regE f w b r)]) ∧ LogIn w' lv' L' ∧ LogOf L' (setV f w b r x) ∧ L'.length ≤ L.length + 1 ∧ Below W.heap.size W w' ∧ ∀ k, lv'.ownBlock = some k → lv.ownBlock = some k ∨ W.heap.size ≤ k
theorem log_fin {w2 : World} {B b n : Nat} {e : TypeId} {v : Value} {cs : List Value} {L : List Sd} (ho : w2.ownsRow B e 4 v n cs) (hn : n = L.length) (hL : 0 < n) (hcs : cs = L.flatMap sdC) (hb : b < B) (x y : Value) : LogIn ((w2.setCell ⟨b, 0, none⟩ x).setCell ⟨b, 1, none⟩ y) v L := by
  subst hn; subst hcs
  rcases ho.2 with ⟨_, h0⟩ | ⟨g, cap, cur, h1, h2, h3, h4, h5, h6, h7⟩
  · omega
  · subst h1
    refine .inr ⟨g, cap, rfl, by simpa using lt_of_block h3, fun j u hu => ?_⟩
    rw [World.cell?_setCell_far _ _ _ _ (by simp; omega), World.cell?_setCell_far _ _ _ _ (by simp; omega), cell_of_obj h3]
    rw [← h7] at hu
    have hj : j < L.length * 4 := by
      have := (List.getElem?_eq_some_iff.1 hu).1
      rw [List.length_take] at this; omega
    rw [List.getElem?_take_of_lt hj] at hu
    simpa using hu
set_option maxRecDepth 100000 in
set_option maxHeartbeats 4000000 in
theorem rf_set_no (w : World) (f : Fx) (hok : f.ok) (lv : Value) (L : List Sd) (hq : LogIn w lv L) (hlog : LogOf L f) (wi b r x : Int) (hr : ¬ regOk f wi b r) :
    Calls Tryz.prog 69 #[.agg #[.int .i64 f.nw, lv], .int .i64 wi, .int .i64 b, .int .i64 r, .int .u32 x] w (RfSets w lv f L wi b r x) := by
  have HQ := mhid hq
  obtain ⟨p, c, rfl⟩ := hq.shape
  clear hq
  have hbw : Below w.heap.size w ((w.alloc (.cells #[.int .i64 f.nw, .slice p L.length c] 55)).alloc (.cells #[.int .i64 0, .slice none 0 0] 55)) := ((Below.refl _ _).alloc (Nat.le_refl _) _).alloc (by simp) _
  have HB0 := mhid ((R2.new w (.int .i64 f.nw) (.slice p L.length c) 55).al (.cells #[.int .i64 0, .slice none 0 0] 55))
  have HR0 := mhid (show R2 ((w.alloc (.cells #[.int .i64 f.nw, .slice p L.length c] 55)).alloc (.cells #[.int .i64 0, .slice none 0 0] 55)) (w.heap.size + 1) (.int .i64 0) (.slice none 0 0) from by
    have := R2.new (w.alloc (.cells #[.int .i64 f.nw, .slice p L.length c] 55)) (.int .i64 0) (.slice none 0 0) 55
    rw [World.size_alloc] at this; exact this)
  have HP := mhid (rf_place ((w.alloc (.cells #[.int .i64 f.nw, .slice p L.length c] 55)).alloc (.cells #[.int .i64 0, .slice none 0 0] 55)) f hok (.slice p L.length c) ⟨_, _, _, rfl⟩ wi b r)
  have HSZ := mhid (show ((w.alloc (.cells #[.int .i64 f.nw, .slice p L.length c] 55)).alloc (.cells #[.int .i64 0, .slice none 0 0] 55)).heap.size = w.heap.size + 2 by simp)
  have HBW := mhid hbw
  have HLG := mhid hlog
  have hre : regE f wi b r = 2 := if_neg hr
  have b0 := HB0.out.c0
  have b1 := HB0.out.c1
  clear hbw hok hlog
  go_enter Tryz.func69, Tryz.ntmps69
  go_wp2_with fail
  generalize ((w.alloc (.cells #[.int .i64 f.nw, .slice p L.length c] 55)).alloc (.cells #[.int .i64 0, .slice none 0 0] 55)) = W1 at *
  refine HP.out.mono ?_
  rintro e W2 ⟨rfl, hb⟩
  rw [hre]
  unfold plAgg
  rw [if_neg hr, if_neg hr, if_neg hr]
  have HE := mhid (show regE f wi b r = 2 ∧ setV f wi b r x = f from ⟨hre, if_neg hr⟩)
  clear HP hre hr b0 b1
  have HB0 := mhid (HB0.out.keepB hb HB0.out.lt)
  have HR0 := mhid (HR0.out.keepB hb HR0.out.lt)
  have HBW := mhid (HBW.out.trans (hb.mono HBW.out.size))
  have hle2 : w.heap.size + 2 ≤ W2.heap.size := by have := hb.size; have := HSZ.out; omega
  clear hb HSZ
  have HB0 := mhid (HB0.out.al (.cells #[.int .i64 0, .int .i64 0, .int .i64 0] 193))
  have HR0 := mhid (HR0.out.al (.cells #[.int .i64 0, .int .i64 0, .int .i64 0] 193))
  have HBW := mhid (HBW.out.alloc (by omega) (.cells #[.int .i64 0, .int .i64 0, .int .i64 0] 193))
  obtain ⟨b0, b1, bf0, bf1⟩ := HB0.out
  obtain ⟨r0, r1, rf0, rf1⟩ := HR0.out
  go_wp2_with fail
  generalize W2.alloc (.cells #[.int .i64 0, .int .i64 0, .int .i64 0] 193) = W at *
  have hS := (R2.mk r0 r1 rf0 rf1).set (.int .i64 f.nw) (.slice p L.length c)
  have hbel : Below w.heap.size w ((W.setCell ⟨w.heap.size + 1, 0, none⟩ (.int .i64 f.nw)).setCell ⟨w.heap.size + 1, 1, none⟩ (.slice p L.length c)) := (HBW.out.setCell (by simp) _).setCell (by simp) _
  clear r0 r1 rf0 rf1 b0 b1 bf0 bf1 HR0 HB0
  generalize (W.setCell ⟨w.heap.size + 1, 0, none⟩ (.int .i64 f.nw)).setCell ⟨w.heap.size + 1, 1, none⟩ (.slice p L.length c) = W9 at *
  obtain ⟨s0, s1, _, _⟩ := hS
  refine bodyPost_ret (by simp [results, Tryz.results69, go_sem, s0, s1]; try rfl) rfl ?_
  exact ⟨_, _, by rw [HE.out.1], HQ.out.keep hbel, by rw [HE.out.2]; exact HLG.out, by omega, hbel, fun k e => .inl e⟩
set_option maxRecDepth 100000 in
set_option maxHeartbeats 4000000 in
theorem rf_set_nil (w : World) (f : Fx) (hok : f.ok)  (hL : ([] : List Sd).length < 1048576) (hlog : LogOf ([] : List Sd) f) (wi b r x : Int) (hr : regOk f wi b r) :
    Calls Tryz.prog 69 #[.agg #[.int .i64 f.nw, (.slice none 0 0)], .int .i64 wi, .int .i64 b, .int .i64 r, .int .u32 x] w (RfSets w (.slice none 0 0) f ([] : List Sd) wi b r x) := by
  skip
  skip
  obtain ⟨i0, hi, hz0, hz1, hz2⟩ := info_parts infosd
  have HII := mhid (And.intro hi (And.intro hz0 (And.intro hz1 hz2)))
  clear hi hz0 hz1 hz2
  have hbw : Below w.heap.size w ((w.alloc (.cells #[.int .i64 f.nw, (.slice none 0 0)] 55)).alloc (.cells #[.int .i64 0, .slice none 0 0] 55)) := ((Below.refl _ _).alloc (Nat.le_refl _) _).alloc (by simp) _
  have HB0 := mhid ((R2.new w (.int .i64 f.nw) (.slice none 0 0) 55).al (.cells #[.int .i64 0, .slice none 0 0] 55))
  have HR0 := mhid (show R2 ((w.alloc (.cells #[.int .i64 f.nw, (.slice none 0 0)] 55)).alloc (.cells #[.int .i64 0, .slice none 0 0] 55)) (w.heap.size + 1) (.int .i64 0) (.slice none 0 0) from by
    have := R2.new (w.alloc (.cells #[.int .i64 f.nw, (.slice none 0 0)] 55)) (.int .i64 0) (.slice none 0 0) 55
    rw [World.size_alloc] at this; exact this)
  have HP := mhid (rf_place ((w.alloc (.cells #[.int .i64 f.nw, (.slice none 0 0)] 55)).alloc (.cells #[.int .i64 0, .slice none 0 0] 55)) f hok (.slice none 0 0) ⟨_, _, _, rfl⟩ wi b r)
  have HSZ := mhid (show ((w.alloc (.cells #[.int .i64 f.nw, (.slice none 0 0)] 55)).alloc (.cells #[.int .i64 0, .slice none 0 0] 55)).heap.size = w.heap.size + 2 by simp)
  have HBW := mhid hbw
  have HOK := mhid (And.intro hok hr)
  have HLG := mhid hlog
  have hre : regE f wi b r = 0 := if_pos hr
  have b0 := HB0.out.c0
  have b1 := HB0.out.c1
  clear hbw hok hlog
  go_enter Tryz.func69, Tryz.ntmps69
  go_wp2_with fail
  generalize ((w.alloc (.cells #[.int .i64 f.nw, (.slice none 0 0)] 55)).alloc (.cells #[.int .i64 0, .slice none 0 0] 55)) = W1 at *
  refine HP.out.mono ?_
  rintro e W2 ⟨rfl, hb⟩
  rw [hre]
  unfold plAgg
  rw [if_pos hr, if_pos hr, if_pos hr]
  have HLS := mhid (HLG.out.set HOK.out.1 hr x)
  clear HP hre hr b0 b1
  generalize plK r = K at *
  generalize plO (f.nw : Int) wi b r = O at *
  generalize plA r = A at *
  have HB0 := mhid (HB0.out.keepB hb HB0.out.lt)
  have HR0 := mhid (HR0.out.keepB hb HR0.out.lt)
  have HBW := mhid (HBW.out.trans (hb.mono HBW.out.size))
  have hle2 : w.heap.size + 2 ≤ W2.heap.size := by have := hb.size; have := HSZ.out; omega
  clear hb HSZ
  obtain ⟨C, hC⟩ : ∃ C, C = W2.heap.size := ⟨_, rfl⟩
  have HB0 := mhid (HB0.out.al (.cells #[.int .i64 K, .int .i64 O, .int .i64 A] 193))
  have HR0 := mhid (HR0.out.al (.cells #[.int .i64 K, .int .i64 O, .int .i64 A] 193))
  have HC0 := mhid (show R3 (W2.alloc (.cells #[.int .i64 K, .int .i64 O, .int .i64 A] 193)) C (.int .i64 K) (.int .i64 O) (.int .i64 A) from by rw [hC]; exact R3.new _ _ _ _ _)
  have HBW := mhid (HBW.out.alloc (by omega) (.cells #[.int .i64 K, .int .i64 O, .int .i64 A] 193))
  have HLE := mhid (show C + 1 ≤ (W2.alloc (.cells #[.int .i64 K, .int .i64 O, .int .i64 A] 193)).heap.size from by rw [hC, World.size_alloc]; omega)
  have hCw : w.heap.size + 2 ≤ C := by omega
  go_wp2_with fail
  rw [← hC]
  clear hC hle2
  generalize W2.alloc (.cells #[.int .i64 K, .int .i64 O, .int .i64 A] 193) = W at *
  obtain ⟨b0, b1, bf0, bf1⟩ := HB0.out
  obtain ⟨r0, r1, rf0, rf1⟩ := HR0.out
  obtain ⟨k0, k1, k2⟩ := HC0.out
  have HKS := mhid (show ∀ w', Below (C + 1) W w' → w'.cell? ⟨w.heap.size, 0, none⟩ = some (.int .i64 f.nw) ∧ w'.cell? ⟨w.heap.size, 1, none⟩ = some (.slice none 0 0) ∧ w'.cell? ⟨C, 0, none⟩ = some (.int .i64 K) ∧ w'.cell? ⟨C, 1, none⟩ = some (.int .i64 O) ∧ w'.cell? ⟨C, 2, none⟩ = some (.int .i64 A) from fun w' hb => by
    have h1 := HB0.out.keepB hb (by omega)
    have h2 := HC0.out.keepB hb (by omega)
    exact ⟨h1.c0, h1.c1, h2.c0, h2.c1, h2.c2⟩)
  have HKS2 := mhid (show ∀ w' u v, Below (C + 1) W w' → (fun w' => w'.cell? ⟨w.heap.size, 0, none⟩ = some (.int .i64 f.nw) ∧ w'.cell? ⟨w.heap.size, 1, none⟩ = some (.slice none 0 0) ∧ w'.cell? ⟨C, 0, none⟩ = some (.int .i64 K) ∧ w'.cell? ⟨C, 1, none⟩ = some (.int .i64 O) ∧ w'.cell? ⟨C, 2, none⟩ = some (.int .i64 A)) ((w'.setCell ⟨w.heap.size + 1, 0, none⟩ u).setCell ⟨w.heap.size + 1, 1, none⟩ v) from fun w' u v hb => by
    have h1 := HKS.out w' hb
    have k : ∀ (b i : Nat) (x : Value), b ≠ w.heap.size + 1 → w'.cell? ⟨b, i, none⟩ = some x → ((w'.setCell ⟨w.heap.size + 1, 0, none⟩ u).setCell ⟨w.heap.size + 1, 1, none⟩ v).cell? ⟨b, i, none⟩ = some x := fun b i x hne h => ((World.cell?_setCell_far _ _ _ _ (fun e => hne e.symm)).trans (World.cell?_setCell_far _ _ _ _ (fun e => hne e.symm))).trans h
    exact ⟨k _ _ _ (by omega) h1.1, k _ _ _ (by omega) h1.2.1, k _ _ _ (by omega) h1.2.2.1, k _ _ _ (by omega) h1.2.2.2.1, k _ _ _ (by omega) h1.2.2.2.2⟩)
  have hi := HII.out.1
  have hbl0 := Below.refl (C + 1) W
  have hle : C + 1 ≤ W.heap.size := HLE.out
  have HW1 : Hid ((W.alloc (.cells #[] 197)).ownsRow (C + 1) 197 4 (.slice (some ⟨W.heap.size, 0, none⟩) 0 0) 0 []) := mhid (World.ownsRow_made W #[] 0 hle (Nat.zero_le _) rfl)
  have HW2 : Hid (((W.alloc (.cells #[.int .i64 K, .int .i64 O, .int .i64 A, .int .u32 x] 197)).alloc (.cells #[] 197)).ownsRow (C + 1) 197 4 (.slice (some ⟨W.heap.size + 1, 0, none⟩) 0 0) 0 []) := by
    have h := World.ownsRow_made (base := C + 1) (size := 4) (e := 197) (W.alloc (.cells #[.int .i64 K, .int .i64 O, .int .i64 A, .int .u32 x] 197)) #[] 0 (by simp; omega) (Nat.zero_le _) rfl
    rw [show (W.alloc (.cells #[.int .i64 K, .int .i64 O, .int .i64 A, .int .u32 x] 197)).heap.size = W.heap.size + 1 by simp] at h
    exact mhid h
  have HN1 : Hid (∀ (j : Nat) u, [.int .i64 K, .int .i64 O, .int .i64 A, .int .u32 x][j]? = some u → ((W.alloc (.cells #[] 197)).alloc (.cells #[.int .i64 K, .int .i64 O, .int .i64 A, .int .u32 x] 197)).drew.cell? ((⟨W.heap.size + 1, 0, none⟩ : Addr).add j) = some u) := by
    have h := cells_new (W.alloc (.cells #[] 197)) #[.int .i64 K, .int .i64 O, .int .i64 A, .int .u32 x] 197
    rw [show (W.alloc (.cells #[] 197)).heap.size = W.heap.size + 1 by simp] at h
    exact mhid h
  have HN2 : Hid (∀ (j : Nat) u, [.int .i64 K, .int .i64 O, .int .i64 A, .int .u32 x][j]? = some u → ((W.alloc (.cells #[.int .i64 K, .int .i64 O, .int .i64 A, .int .u32 x] 197)).alloc (.cells #[] 197)).drew.cell? ((⟨W.heap.size, 0, none⟩ : Addr).add j) = some u) := mhid fun j u hu => Lib.cell?_alloc_some _ (cells_new W #[.int .i64 K, .int .i64 O, .int .i64 A, .int .u32 x] 197 j u hu)
  go_region_held3 (fun w' => w'.cell? ⟨w.heap.size, 0, none⟩ = some (.int .i64 f.nw) ∧ w'.cell? ⟨w.heap.size, 1, none⟩ = some (.slice none 0 0) ∧ w'.cell? ⟨C, 0, none⟩ = some (.int .i64 K) ∧ w'.cell? ⟨C, 1, none⟩ = some (.int .i64 O) ∧ w'.cell? ⟨C, 2, none⟩ = some (.int .i64 A)) (first | (refine HKS.out _ ?_; go_grown; done) | (refine HKS2.out _ _ _ ?_; go_grown; done))
    (first
      | (refine step_append_none _ (by rfl) (.tmp 28) (.tmp 30) 53 (by rfl) (C + 1) 197 i0 4 Tryz.underlying53 hi (.slice (some ⟨W.heap.size, 0, none⟩) 0 0) 0 [] (by rfl) HW1.out.drew (by rfl) ?_)
      | (refine step_append_none _ (by rfl) (.tmp 28) (.tmp 30) 53 (by rfl) (C + 1) 197 i0 4 Tryz.underlying53 hi (.slice (some ⟨W.heap.size, 0, none⟩) 0 0) 0 [] (by rfl) ((HW1.out.alloc _).drew) (by rfl) ?_)
      | (refine step_append_none _ (by rfl) (.tmp 28) (.tmp 30) 53 (by rfl) (C + 1) 197 i0 4 Tryz.underlying53 hi (.slice (some ⟨W.heap.size + 1, 0, none⟩) 0 0) 0 [] (by rfl) HW2.out.drew (by rfl) ?_)
      | (refine step_append_some _ (by rfl) (.tmp 31) (.tmp 35) 53 (by rfl) (C + 1) 197 i0 _ 4 32 Tryz.underlying53 hi HII.out.2.1 HII.out.2.2.1 HII.out.2.2.2 rfl (by decide) W.heap.size (0) 0 ([]) (by rfl) ((HW1.out.alloc _).drew) ⟨W.heap.size + 1, 0, none⟩ (1) 1 ([.int .i64 K, .int .i64 O, .int .i64 A, .int .u32 x]) (by rfl) (by rfl) HN1.out (by simp [Value.oneCell']) (by unfold maxLen; omega) (by omega) (by first | exact hle | (simp; omega) | (have := hbA.size; simp; omega)) ?_; intro g2 cap2 w2 hown2 hg2; have hb2 : Below (C + 1) W w2 := Below.grown (by go_grown) hg2 (by first | exact hle | (simp; omega) | (have := hbA.size; simp; omega)) (by intro k hk; cases hk; first | exact hle | omega | exact (hownA.lt _ rfl).1); obtain ⟨r0, r1, rf0, rf1⟩ := HR0.out.keepB hb2 (by omega))
      | (refine step_append_some _ (by rfl) (.tmp 31) (.tmp 35) 53 (by rfl) (C + 1) 197 i0 _ 4 32 Tryz.underlying53 hi HII.out.2.1 HII.out.2.2.1 HII.out.2.2.2 rfl (by decide) (W.heap.size + 1) (0) 0 ([]) (by rfl) HW2.out.drew ⟨W.heap.size, 0, none⟩ (1) 1 ([.int .i64 K, .int .i64 O, .int .i64 A, .int .u32 x]) (by rfl) (by rfl) HN2.out (by simp [Value.oneCell']) (by unfold maxLen; omega) (by omega) (by first | exact hle | (simp; omega) | (have := hbA.size; simp; omega)) ?_; intro g2 cap2 w2 hown2 hg2; have hb2 : Below (C + 1) W w2 := Below.grown (by go_grown) hg2 (by first | exact hle | (simp; omega) | (have := hbA.size; simp; omega)) (by intro k hk; cases hk; first | exact hle | omega | exact (hownA.lt _ rfl).1); obtain ⟨r0, r1, rf0, rf1⟩ := HR0.out.keepB hb2 (by omega)))
  all_goals
    go_wp2_with fail
    have hS := (R2.mk r0 r1 rf0 rf1).set (.int .i64 f.nw) (.slice (some ⟨g2, 0, none⟩) 1 cap2)
    have hbel : Below w.heap.size w ((w2.setCell ⟨w.heap.size + 1, 0, none⟩ (.int .i64 f.nw)).setCell ⟨w.heap.size + 1, 1, none⟩ (.slice (some ⟨g2, 0, none⟩) 1 cap2)) := ((HBW.out.trans (hb2.mono (by omega))).setCell (by simp) _).setCell (by simp) _
    have hit : LogIn ((w2.setCell ⟨w.heap.size + 1, 0, none⟩ (.int .i64 f.nw)).setCell ⟨w.heap.size + 1, 1, none⟩ (.slice (some ⟨g2, 0, none⟩) 1 cap2)) (.slice (some ⟨g2, 0, none⟩) 1 cap2) (([] : List Sd) ++ [⟨K, O, A, x⟩]) := log_fin hown2 (by simp) (by omega) (by simp [sdC]) (by omega) _ _
    have hfrom : ∀ k, ((.slice (some ⟨g2, 0, none⟩) 1 cap2) : Value).ownBlock = some k → ((.slice none 0 0) : Value).ownBlock = some k ∨ w.heap.size ≤ k := fun kk hkk => .inr (by have := (hown2.lt kk hkk).1; omega)
    clear r0 r1 rf0 rf1 hown2 hg2 hb2 HKS HKS2 HW1 HW2 HN1 HN2 HR0 HB0
    generalize (w2.setCell ⟨w.heap.size + 1, 0, none⟩ (.int .i64 f.nw)).setCell ⟨w.heap.size + 1, 1, none⟩ (.slice (some ⟨g2, 0, none⟩) 1 cap2) = W9 at *
    obtain ⟨s0, s1, _, _⟩ := hS
    refine bodyPost_ret (by simp [results, Tryz.results69, go_sem, s0, s1]; try rfl) rfl ?_
    exact ⟨_, _, by rw [show regE f wi b r = 0 from if_pos HOK.out.2], hit, HLS.out, by simp, hbel, hfrom⟩
set_option maxRecDepth 100000 in
set_option maxHeartbeats 4000000 in
theorem rf_set_some (w : World) (f : Fx) (hok : f.ok) (g cap : Nat) (L : List Sd) (hq : LogIn w (.slice (some ⟨g, 0, none⟩) L.length cap) L) (hg : g < w.heap.size) (hcells : ∀ (j : Nat) u, (L.flatMap sdC)[j]? = some u → w.cell? ⟨g, j, none⟩ = some u) (hL : L.length < 1048576) (hlog : LogOf L f) (wi b r x : Int) (hr : regOk f wi b r) :
    Calls Tryz.prog 69 #[.agg #[.int .i64 f.nw, (.slice (some ⟨g, 0, none⟩) L.length cap)], .int .i64 wi, .int .i64 b, .int .i64 r, .int .u32 x] w (RfSets w (.slice (some ⟨g, 0, none⟩) L.length cap) f L wi b r x) := by
  have HG := mhid (And.intro hg hcells)
  clear hg hcells hq
  obtain ⟨i0, hi, hz0, hz1, hz2⟩ := info_parts infosd
  have HII := mhid (And.intro hi (And.intro hz0 (And.intro hz1 hz2)))
  clear hi hz0 hz1 hz2
  have hbw : Below w.heap.size w ((w.alloc (.cells #[.int .i64 f.nw, (.slice (some ⟨g, 0, none⟩) L.length cap)] 55)).alloc (.cells #[.int .i64 0, .slice none 0 0] 55)) := ((Below.refl _ _).alloc (Nat.le_refl _) _).alloc (by simp) _
  have HB0 := mhid ((R2.new w (.int .i64 f.nw) (.slice (some ⟨g, 0, none⟩) L.length cap) 55).al (.cells #[.int .i64 0, .slice none 0 0] 55))
  have HR0 := mhid (show R2 ((w.alloc (.cells #[.int .i64 f.nw, (.slice (some ⟨g, 0, none⟩) L.length cap)] 55)).alloc (.cells #[.int .i64 0, .slice none 0 0] 55)) (w.heap.size + 1) (.int .i64 0) (.slice none 0 0) from by
    have := R2.new (w.alloc (.cells #[.int .i64 f.nw, (.slice (some ⟨g, 0, none⟩) L.length cap)] 55)) (.int .i64 0) (.slice none 0 0) 55
    rw [World.size_alloc] at this; exact this)
  have HP := mhid (rf_place ((w.alloc (.cells #[.int .i64 f.nw, (.slice (some ⟨g, 0, none⟩) L.length cap)] 55)).alloc (.cells #[.int .i64 0, .slice none 0 0] 55)) f hok (.slice (some ⟨g, 0, none⟩) L.length cap) ⟨_, _, _, rfl⟩ wi b r)
  have HSZ := mhid (show ((w.alloc (.cells #[.int .i64 f.nw, (.slice (some ⟨g, 0, none⟩) L.length cap)] 55)).alloc (.cells #[.int .i64 0, .slice none 0 0] 55)).heap.size = w.heap.size + 2 by simp)
  have HBW := mhid hbw
  have HOK := mhid (And.intro hok hr)
  have HLG := mhid hlog
  have hre : regE f wi b r = 0 := if_pos hr
  have b0 := HB0.out.c0
  have b1 := HB0.out.c1
  clear hbw hok hlog
  go_enter Tryz.func69, Tryz.ntmps69
  go_wp2_with fail
  generalize ((w.alloc (.cells #[.int .i64 f.nw, (.slice (some ⟨g, 0, none⟩) L.length cap)] 55)).alloc (.cells #[.int .i64 0, .slice none 0 0] 55)) = W1 at *
  refine HP.out.mono ?_
  rintro e W2 ⟨rfl, hb⟩
  rw [hre]
  unfold plAgg
  rw [if_pos hr, if_pos hr, if_pos hr]
  have HLS := mhid (HLG.out.set HOK.out.1 hr x)
  clear HP hre hr b0 b1
  generalize plK r = K at *
  generalize plO (f.nw : Int) wi b r = O at *
  generalize plA r = A at *
  have HB0 := mhid (HB0.out.keepB hb HB0.out.lt)
  have HR0 := mhid (HR0.out.keepB hb HR0.out.lt)
  have HBW := mhid (HBW.out.trans (hb.mono HBW.out.size))
  have hle2 : w.heap.size + 2 ≤ W2.heap.size := by have := hb.size; have := HSZ.out; omega
  clear hb HSZ
  obtain ⟨C, hC⟩ : ∃ C, C = W2.heap.size := ⟨_, rfl⟩
  have HB0 := mhid (HB0.out.al (.cells #[.int .i64 K, .int .i64 O, .int .i64 A] 193))
  have HR0 := mhid (HR0.out.al (.cells #[.int .i64 K, .int .i64 O, .int .i64 A] 193))
  have HC0 := mhid (show R3 (W2.alloc (.cells #[.int .i64 K, .int .i64 O, .int .i64 A] 193)) C (.int .i64 K) (.int .i64 O) (.int .i64 A) from by rw [hC]; exact R3.new _ _ _ _ _)
  have HBW := mhid (HBW.out.alloc (by omega) (.cells #[.int .i64 K, .int .i64 O, .int .i64 A] 193))
  have HLE := mhid (show C + 1 ≤ (W2.alloc (.cells #[.int .i64 K, .int .i64 O, .int .i64 A] 193)).heap.size from by rw [hC, World.size_alloc]; omega)
  have hCw : w.heap.size + 2 ≤ C := by omega
  go_wp2_with fail
  rw [← hC]
  clear hC hle2
  generalize W2.alloc (.cells #[.int .i64 K, .int .i64 O, .int .i64 A] 193) = W at *
  obtain ⟨b0, b1, bf0, bf1⟩ := HB0.out
  obtain ⟨r0, r1, rf0, rf1⟩ := HR0.out
  obtain ⟨k0, k1, k2⟩ := HC0.out
  have HKS := mhid (show ∀ w', Below (C + 1) W w' → w'.cell? ⟨w.heap.size, 0, none⟩ = some (.int .i64 f.nw) ∧ w'.cell? ⟨w.heap.size, 1, none⟩ = some (.slice (some ⟨g, 0, none⟩) L.length cap) ∧ w'.cell? ⟨C, 0, none⟩ = some (.int .i64 K) ∧ w'.cell? ⟨C, 1, none⟩ = some (.int .i64 O) ∧ w'.cell? ⟨C, 2, none⟩ = some (.int .i64 A) from fun w' hb => by
    have h1 := HB0.out.keepB hb (by omega)
    have h2 := HC0.out.keepB hb (by omega)
    exact ⟨h1.c0, h1.c1, h2.c0, h2.c1, h2.c2⟩)
  have HKS2 := mhid (show ∀ w' u v, Below (C + 1) W w' → (fun w' => w'.cell? ⟨w.heap.size, 0, none⟩ = some (.int .i64 f.nw) ∧ w'.cell? ⟨w.heap.size, 1, none⟩ = some (.slice (some ⟨g, 0, none⟩) L.length cap) ∧ w'.cell? ⟨C, 0, none⟩ = some (.int .i64 K) ∧ w'.cell? ⟨C, 1, none⟩ = some (.int .i64 O) ∧ w'.cell? ⟨C, 2, none⟩ = some (.int .i64 A)) ((w'.setCell ⟨w.heap.size + 1, 0, none⟩ u).setCell ⟨w.heap.size + 1, 1, none⟩ v) from fun w' u v hb => by
    have h1 := HKS.out w' hb
    have k : ∀ (b i : Nat) (x : Value), b ≠ w.heap.size + 1 → w'.cell? ⟨b, i, none⟩ = some x → ((w'.setCell ⟨w.heap.size + 1, 0, none⟩ u).setCell ⟨w.heap.size + 1, 1, none⟩ v).cell? ⟨b, i, none⟩ = some x := fun b i x hne h => ((World.cell?_setCell_far _ _ _ _ (fun e => hne e.symm)).trans (World.cell?_setCell_far _ _ _ _ (fun e => hne e.symm))).trans h
    exact ⟨k _ _ _ (by omega) h1.1, k _ _ _ (by omega) h1.2.1, k _ _ _ (by omega) h1.2.2.1, k _ _ _ (by omega) h1.2.2.2.1, k _ _ _ (by omega) h1.2.2.2.2⟩)
  have HSRC := mhid (fun (j : Nat) (u : Value) (hu : (L.flatMap sdC)[j]? = some u) => show W.cell? ((⟨g, 0, none⟩ : Addr).add j) = some u by rw [addr_add0]; exact (HBW.out.cell (p := ⟨g, j, none⟩) HG.out.1).trans (HG.out.2 j u hu))
  have hi := HII.out.1
  have hbl0 := Below.refl (C + 1) W
  have hle : C + 1 ≤ W.heap.size := HLE.out
  have HW1 : Hid ((W.alloc (.cells #[] 197)).ownsRow (C + 1) 197 4 (.slice (some ⟨W.heap.size, 0, none⟩) 0 0) 0 []) := mhid (World.ownsRow_made W #[] 0 hle (Nat.zero_le _) rfl)
  have HW2 : Hid (((W.alloc (.cells #[.int .i64 K, .int .i64 O, .int .i64 A, .int .u32 x] 197)).alloc (.cells #[] 197)).ownsRow (C + 1) 197 4 (.slice (some ⟨W.heap.size + 1, 0, none⟩) 0 0) 0 []) := by
    have h := World.ownsRow_made (base := C + 1) (size := 4) (e := 197) (W.alloc (.cells #[.int .i64 K, .int .i64 O, .int .i64 A, .int .u32 x] 197)) #[] 0 (by simp; omega) (Nat.zero_le _) rfl
    rw [show (W.alloc (.cells #[.int .i64 K, .int .i64 O, .int .i64 A, .int .u32 x] 197)).heap.size = W.heap.size + 1 by simp] at h
    exact mhid h
  have HN1 : Hid (∀ (j : Nat) u, [.int .i64 K, .int .i64 O, .int .i64 A, .int .u32 x][j]? = some u → ((W.alloc (.cells #[] 197)).alloc (.cells #[.int .i64 K, .int .i64 O, .int .i64 A, .int .u32 x] 197)).drew.cell? ((⟨W.heap.size + 1, 0, none⟩ : Addr).add j) = some u) := by
    have h := cells_new (W.alloc (.cells #[] 197)) #[.int .i64 K, .int .i64 O, .int .i64 A, .int .u32 x] 197
    rw [show (W.alloc (.cells #[] 197)).heap.size = W.heap.size + 1 by simp] at h
    exact mhid h
  have HN2 : Hid (∀ (j : Nat) u, [.int .i64 K, .int .i64 O, .int .i64 A, .int .u32 x][j]? = some u → ((W.alloc (.cells #[.int .i64 K, .int .i64 O, .int .i64 A, .int .u32 x] 197)).alloc (.cells #[] 197)).drew.cell? ((⟨W.heap.size, 0, none⟩ : Addr).add j) = some u) := mhid fun j u hu => Lib.cell?_alloc_some _ (cells_new W #[.int .i64 K, .int .i64 O, .int .i64 A, .int .u32 x] 197 j u hu)
  go_region_held3 (fun w' => w'.cell? ⟨w.heap.size, 0, none⟩ = some (.int .i64 f.nw) ∧ w'.cell? ⟨w.heap.size, 1, none⟩ = some (.slice (some ⟨g, 0, none⟩) L.length cap) ∧ w'.cell? ⟨C, 0, none⟩ = some (.int .i64 K) ∧ w'.cell? ⟨C, 1, none⟩ = some (.int .i64 O) ∧ w'.cell? ⟨C, 2, none⟩ = some (.int .i64 A)) (first | (refine HKS.out _ ?_; go_grown; done) | (refine HKS2.out _ _ _ ?_; go_grown; done))
    (first
      | (refine step_append_some _ (by rfl) (.tmp 28) (.tmp 30) 53 (by rfl) (C + 1) 197 i0 _ 4 32 Tryz.underlying53 hi HII.out.2.1 HII.out.2.2.1 HII.out.2.2.2 rfl (by decide) W.heap.size (0) 0 ([]) (by rfl) HW1.out.drew ⟨g, 0, none⟩ (L.length) cap (L.flatMap sdC) (by rfl) (sds_len L) (fun j u hu => Lib.cell?_alloc_some _ (HSRC.out j u hu)) (sds_one L) (by unfold maxLen; omega) (by omega) (by first | exact hle | (simp; omega) | (have := hbA.size; simp; omega)) ?_; intro gA capA wA hownA hgA; rw [Nat.zero_add, List.nil_append] at hownA; have hbA : Below (C + 1) W wA := Below.grown (by go_grown) hgA (by first | exact hle | (simp; omega)) (by intro k hk; cases hk; first | exact hle | omega); have hleA : C + 1 ≤ wA.heap.size := Nat.le_trans hle hbA.size)
      | (refine step_append_some _ (by rfl) (.tmp 28) (.tmp 30) 53 (by rfl) (C + 1) 197 i0 _ 4 32 Tryz.underlying53 hi HII.out.2.1 HII.out.2.2.1 HII.out.2.2.2 rfl (by decide) W.heap.size (0) 0 ([]) (by rfl) ((HW1.out.alloc _).drew) ⟨g, 0, none⟩ (L.length) cap (L.flatMap sdC) (by rfl) (sds_len L) (fun j u hu => Lib.cell?_alloc_some _ (Lib.cell?_alloc_some _ (HSRC.out j u hu))) (sds_one L) (by unfold maxLen; omega) (by omega) (by first | exact hle | (simp; omega) | (have := hbA.size; simp; omega)) ?_; intro gA capA wA hownA hgA; rw [Nat.zero_add, List.nil_append] at hownA; have hbA : Below (C + 1) W wA := Below.grown (by go_grown) hgA (by first | exact hle | (simp; omega)) (by intro k hk; cases hk; first | exact hle | omega); have hleA : C + 1 ≤ wA.heap.size := Nat.le_trans hle hbA.size; have hXB : ∀ (j : Nat) u, [.int .i64 K, .int .i64 O, .int .i64 A, .int .u32 x][j]? = some u → wA.cell? ((⟨W.heap.size + 1, 0, none⟩ : Addr).add j) = some u := (fun j u hu => (hgA.cell_far _ (by rw [addr_add0]; simp <;> omega) (by rw [addr_add0]; simp)).trans (HN1.out j u hu)))
      | (refine step_append_some _ (by rfl) (.tmp 28) (.tmp 30) 53 (by rfl) (C + 1) 197 i0 _ 4 32 Tryz.underlying53 hi HII.out.2.1 HII.out.2.2.1 HII.out.2.2.2 rfl (by decide) (W.heap.size + 1) (0) 0 ([]) (by rfl) HW2.out.drew ⟨g, 0, none⟩ (L.length) cap (L.flatMap sdC) (by rfl) (sds_len L) (fun j u hu => Lib.cell?_alloc_some _ (Lib.cell?_alloc_some _ (HSRC.out j u hu))) (sds_one L) (by unfold maxLen; omega) (by omega) (by first | exact hle | (simp; omega) | (have := hbA.size; simp; omega)) ?_; intro gA capA wA hownA hgA; rw [Nat.zero_add, List.nil_append] at hownA; have hbA : Below (C + 1) W wA := Below.grown (by go_grown) hgA (by first | exact hle | (simp; omega)) (by intro k hk; cases hk; first | exact hle | omega); have hleA : C + 1 ≤ wA.heap.size := Nat.le_trans hle hbA.size; have hXC : ∀ (j : Nat) u, [.int .i64 K, .int .i64 O, .int .i64 A, .int .u32 x][j]? = some u → wA.cell? ((⟨W.heap.size, 0, none⟩ : Addr).add j) = some u := (fun j u hu => (hgA.cell_far _ (by rw [addr_add0]; simp <;> omega) (by rw [addr_add0]; simp)).trans (HN2.out j u hu)))
      | (have _t := hXB; refine step_append_some _ (by rfl) (.tmp 31) (.tmp 35) 53 (by rfl) (C + 1) 197 i0 _ 4 32 Tryz.underlying53 hi HII.out.2.1 HII.out.2.2.1 HII.out.2.2.2 rfl (by decide) gA (L.length) capA (_) (by first | rfl | exact (congrArg (fun k => Value.slice (some ⟨gA, 0, none⟩) k capA) (Nat.zero_add _))) hownA ⟨W.heap.size + 1, 0, none⟩ (1) 1 ([.int .i64 K, .int .i64 O, .int .i64 A, .int .u32 x]) (by rfl) (by rfl) hXB (by simp [Value.oneCell']) (by unfold maxLen; omega) (by omega) (by first | exact hle | (simp; omega) | (have := hbA.size; simp; omega)) ?_; intro g2 cap2 w2 hown2 hg2; have hb2 : Below (C + 1) W w2 := Below.grown (by go_grown) hg2 (by first | exact hle | (simp; omega) | (have := hbA.size; simp; omega)) (by intro k hk; cases hk; first | exact hle | omega | exact (hownA.lt _ rfl).1); obtain ⟨r0, r1, rf0, rf1⟩ := HR0.out.keepB hb2 (by omega))
      | (have _t := hXC; refine step_append_some _ (by rfl) (.tmp 31) (.tmp 35) 53 (by rfl) (C + 1) 197 i0 _ 4 32 Tryz.underlying53 hi HII.out.2.1 HII.out.2.2.1 HII.out.2.2.2 rfl (by decide) gA (L.length) capA (_) (by first | rfl | exact (congrArg (fun k => Value.slice (some ⟨gA, 0, none⟩) k capA) (Nat.zero_add _))) hownA ⟨W.heap.size, 0, none⟩ (1) 1 ([.int .i64 K, .int .i64 O, .int .i64 A, .int .u32 x]) (by rfl) (by rfl) hXC (by simp [Value.oneCell']) (by unfold maxLen; omega) (by omega) (by first | exact hle | (simp; omega) | (have := hbA.size; simp; omega)) ?_; intro g2 cap2 w2 hown2 hg2; have hb2 : Below (C + 1) W w2 := Below.grown (by go_grown) hg2 (by first | exact hle | (simp; omega) | (have := hbA.size; simp; omega)) (by intro k hk; cases hk; first | exact hle | omega | exact (hownA.lt _ rfl).1); obtain ⟨r0, r1, rf0, rf1⟩ := HR0.out.keepB hb2 (by omega))
      | (refine step_append_some _ (by rfl) (.tmp 31) (.tmp 35) 53 (by rfl) (C + 1) 197 i0 _ 4 32 Tryz.underlying53 hi HII.out.2.1 HII.out.2.2.1 HII.out.2.2.2 rfl (by decide) gA (L.length) capA (_) (by first | rfl | exact (congrArg (fun k => Value.slice (some ⟨gA, 0, none⟩) k capA) (Nat.zero_add _))) (hownA.alloc _) ⟨wA.heap.size, 0, none⟩ (1) 1 ([.int .i64 K, .int .i64 O, .int .i64 A, .int .u32 x]) (by rfl) (by rfl) (cells_new wA _ _) (by simp [Value.oneCell']) (by unfold maxLen; omega) (by omega) (by first | exact hle | (simp; omega) | (have := hbA.size; simp; omega)) ?_; intro g2 cap2 w2 hown2 hg2; have hb2 : Below (C + 1) W w2 := Below.grown (by go_grown) hg2 (by first | exact hle | (simp; omega) | (have := hbA.size; simp; omega)) (by intro k hk; cases hk; first | exact hle | omega | exact (hownA.lt _ rfl).1); obtain ⟨r0, r1, rf0, rf1⟩ := HR0.out.keepB hb2 (by omega)))
  all_goals
    go_wp2_with fail
    have hS := (R2.mk r0 r1 rf0 rf1).set (.int .i64 f.nw) (.slice (some ⟨g2, 0, none⟩) (L.length + 1) cap2)
    have hbel : Below w.heap.size w ((w2.setCell ⟨w.heap.size + 1, 0, none⟩ (.int .i64 f.nw)).setCell ⟨w.heap.size + 1, 1, none⟩ (.slice (some ⟨g2, 0, none⟩) (L.length + 1) cap2)) := ((HBW.out.trans (hb2.mono (by omega))).setCell (by simp) _).setCell (by simp) _
    have hit : LogIn ((w2.setCell ⟨w.heap.size + 1, 0, none⟩ (.int .i64 f.nw)).setCell ⟨w.heap.size + 1, 1, none⟩ (.slice (some ⟨g2, 0, none⟩) (L.length + 1) cap2)) (.slice (some ⟨g2, 0, none⟩) (L.length + 1) cap2) (L ++ [⟨K, O, A, x⟩]) := log_fin hown2 (by simp) (by omega) (by rw [List.flatMap_append]; simp [sdC]) (by omega) _ _
    have hfrom : ∀ k, ((.slice (some ⟨g2, 0, none⟩) (L.length + 1) cap2) : Value).ownBlock = some k → ((.slice (some ⟨g, 0, none⟩) L.length cap) : Value).ownBlock = some k ∨ w.heap.size ≤ k := fun kk hkk => .inr (by have := (hown2.lt kk hkk).1; omega)
    clear r0 r1 rf0 rf1 hown2 hg2 hb2 HKS HKS2 HW1 HW2 HN1 HN2 HR0 HB0
    generalize (w2.setCell ⟨w.heap.size + 1, 0, none⟩ (.int .i64 f.nw)).setCell ⟨w.heap.size + 1, 1, none⟩ (.slice (some ⟨g2, 0, none⟩) (L.length + 1) cap2) = W9 at *
    obtain ⟨s0, s1, _, _⟩ := hS
    refine bodyPost_ret (by simp [results, Tryz.results69, go_sem, s0, s1]; try rfl) rfl ?_
    exact ⟨_, _, by rw [show regE f wi b r = 0 from if_pos HOK.out.2], hit, HLS.out, by simp, hbel, hfrom⟩
theorem rf_set (w : World) (f : Fx) (hok : f.ok) (lv : Value) (L : List Sd) (hq : LogIn w lv L) (hL : L.length < 1048576) (hlog : LogOf L f) (wi b r x : Int) :
    Calls Tryz.prog 69 #[.agg #[.int .i64 f.nw, lv], .int .i64 wi, .int .i64 b, .int .i64 r, .int .u32 x] w (RfSets w lv f L wi b r x) := by
  by_cases hr : regOk f wi b r
  · rcases hq with ⟨rfl, rfl⟩ | ⟨g, cap, rfl, hg, hc⟩
    · exact rf_set_nil w f hok hL hlog wi b r x hr
    · exact rf_set_some w f hok g cap L (.inr ⟨g, cap, rfl, hg, hc⟩) hg hc hL hlog wi b r x hr
  · exact rf_set_no w f hok lv L hq hlog wi b r x hr
end Go.Proofs.YtajholbcpmjhiaaGreatDoor
