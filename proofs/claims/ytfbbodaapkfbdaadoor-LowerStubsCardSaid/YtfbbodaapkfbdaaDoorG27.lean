/- Several texts in one: LowCount, LowFault, LowMk, LowWord, LowBegin, LowOps, LowAny. -/
import Derived.Test.YtfbbodaapkfbdaaDoorG26
import Derived.Laws.LoneSync
/- Walks of the package lower: the counter. -/
namespace Go.Proofs.YtfbbodaapkfbdaaDoor
open Go.RowKit
set_option linter.unusedVariables false
set_option linter.unusedSimpArgs false
theorem run_add (w : World) {a : Addr} {n : Nat} (hn : n < 1000000000) (hc : w.cell? a = some (.int .i32 n)) (hz : w.frozen? a = false) :
    (callFunc 87 #[.pointer (some a), .int .i32 1]).run Tryd.prog w = .ok (.value (.int .i32 (n + 1 : Nat))) (w.setCell a (.int .i32 (n + 1 : Nat))) := by
  have hw : wrap32 ((n : Int) + 1) = ((n + 1 : Nat) : Int) := by unfold wrap32; omega
  exact run_call_add Tryd.func87 (by kernel_rfl) (by kernel_rfl) (by kernel_rfl) .i32 (by kernel_rfl) hc hz (by rw [← hw]; simp [go_sem, wrap32, IntKind.wrap_i32])
set_option maxRecDepth 100000 in
theorem count_any {g : Nat} {n : Nat} {w : World} (hn : n < 1000000000) (hc : w.cell? ⟨g, 10, none⟩ = some (.int .i32 n)) (hz : w.frozen? ⟨g, 10, none⟩ = false) :
    Calls Tryd.prog 78 #[.pointer (some ⟨g, 10, none⟩), .int .i32 1] w fun e w' => e = .returned (.int .i32 (n + 1 : Nat)) ∧ w' = w.setCell ⟨g, 10, none⟩ (.int .i32 (n + 1 : Nat)) := by
  have hd := run_add w hn hc hz
  go_enter Tryd.func78, Tryd.ntmps78
  go_wp2_with fail
  all_goals go_ret
  exact ⟨rfl, rfl⟩
end Go.Proofs.YtfbbodaapkfbdaaDoor
/- Walks of the package lower: fault. -/
namespace Go.Proofs.YtfbbodaapkfbdaaDoor
open Go.RowKit
set_option linter.unusedVariables false
set_option linter.unusedSimpArgs false
section
variable {W w : World} {c : Mc} {S : Nat → Prop} {s : Lo}
theorem LowAt.cell (h : LowAt W w c S s) {k : Nat} {v : Value} (hv : (c.cells s.many)[k]? = some v) : w.cell? ⟨c.g, k, none⟩ = some v := h.mkr.cell hv
theorem low_count (h : LowAt W w c S s) (hl : c.cs.length = 9) (hm : s.many < 1000000) :
    Calls Tryd.prog 78 #[.pointer (some ⟨c.g, 10, none⟩), .int .i32 1] w fun e w' => e = .returned (.int .i32 (s.many + 1 : Nat)) ∧ LowGo W w c S { s with many := s.many + 1 } w' := by
  refine (count_any (n := s.many) (by omega) (h.cell (k := 10) ?_) (h.mkr.frozen 10)).mono ?_
  · unfold Mc.cells
    rw [List.getElem?_cons_succ, List.getElem?_append_right (by omega), hl]
    rfl
  · rintro e w' ⟨rfl, rfl⟩
    exact ⟨rfl, h.count hl _⟩
theorem LowGo.after {w4 w5 : World} (hg : LowGo W w c S s w4) (hb : Below w4.heap.size w4 w5) : LowGo W w c S s w5 := by
  obtain ⟨S', h', o', r'⟩ := hg
  exact ⟨S', h'.keepb hb, o'.trans (Only.of_below hb), r'⟩
end
set_option maxRecDepth 100000 in
set_option maxHeartbeats 2000000 in
theorem fault_any {W w : World} {c : Mc} {S : Nat → Prop} {s : Lo} (h : LowAt W w c S s) (hl : c.cs.length = 9) {f : Nat} (hf : f < 9223372036854775808) (hcf : c.cs[3]? = some (.int .i64 f)) {q k : Int} (hq : 0 ≤ q ∧ q < 256) (hk : 0 ≤ k ∧ k < 256) (hm : s.many < 1000000) (hM : s.M.length < 100000000) (hL : s.L.length + 2 < 4294967296) :
    Calls Tryd.prog 53 #[.pointer (some ⟨c.g, 0, none⟩), .int .u8 q, .int .i64 k] w fun e w' => e = .returned (.tuple #[]) ∧ LowGo W w c S (s.fault f q k) w' := by
  have hc4 : ∀ n, (c.cells n)[4]? = some (.int .i64 f) := fun n => by
    unfold Mc.cells
    rw [List.getElem?_cons_succ, List.getElem?_append_left (by omega)]
    exact hcf
  have q4 := h.cell (hc4 _)
  have HNm := ahid (fun w' (hb : Below w.heap.size w w') => name_any f hf w' (h.keepb hb).pow.tab)
  have HA := ahid (fun w' (hb : Below w.heap.size w w') => low_count (h.keepb hb) hl hm)
  have HK := ahid (show ∀ w', Below w.heap.size w w' → w'.cell? ⟨c.g, 4, none⟩ = some (.int .i64 f) from fun w' hb => (hb.cell (p := ⟨c.g, 4, none⟩) (World.block_lt_of_cell? _ _ q4)).trans q4)
  have HZ := ahid (show ∀ w1 w4, LowGo W w1 c S { s with many := s.many + 1 } w4 → w4.cell? ⟨c.g, 4, none⟩ = some (.int .i64 f) from fun w1 w4 hg => hg.choose_spec.1.cell (hc4 _))
  have HZ2 := ahid (show ∀ w1 w4 w5, LowGo W w1 c S { s with many := s.many + 1 } w4 → Below w4.heap.size w4 w5 → w5.cell? ⟨c.g, 4, none⟩ = some (.int .i64 f) from fun w1 w4 w5 hg hb => (hg.choose_spec.1.keepb hb).cell (hc4 _))
  have HI := ahid (show ∀ w1 w4, LowGo W w1 c S { s with many := s.many + 1 } w4 → _ from fun w1 w4 hg => itoa_any s.many (by omega) w4 hg.choose_spec.1.pow.tab)
  have hw1 : IntKind.i32.wrap (s.many : Int) = s.many := by simp [IntKind.wrap_i32, wrap32]; omega
  have hw2 : IntKind.i64.wrap (s.many : Int) = s.many := by simp [IntKind.wrap_i64, wrap64]; omega
  have l1 := decl_len f hf
  have l2 := decl_len s.many (by omega)
  have hs1 := ahid (show (nameB' (fNameL f)).size = (Lib.decDigits f).length + 1 from by rw [nameB_size]; simp [fNameL, decL])
  have hd1 : ¬ (9223372036854775807 < (nameB' (fNameL f)).size + 1) := by rw [hs1.out]; omega
  have hd2 : ¬ (9223372036854775807 < (nameB' (fNameL f)).size + 1 + (Lib.decDigits s.many).length) := by rw [hs1.out]; omega
  have hle : w.heap.size ≤ w.heap.size := Nat.le_refl _
  have hn : (cNameL f s.many).length ≤ maxLen := by simp [cNameL, fNameL, decL, maxLen]; omega
  have e3 : (nameB' (fNameL f) ++ ⟨#[99]⟩ ++ ⟨(Lib.decDigits s.many).toArray⟩ : ByteArray) = nameB' (cNameL f s.many) := by
    show nameB' (fNameL f) ++ nameB' [99] ++ nameB' (Lib.decDigits s.many) = _
    rw [nameB_add, nameB_add]; simp [cNameL, decL]
  unfold Lo.fault
  generalize cNameL f s.many = nm at hn e3 ⊢
  replace e3 := ahid e3
  go_enter Tryd.func53, Tryd.ntmps53
  go_wp2_with fail
  go_region_held3 (fun w' => w'.cell? ⟨c.g, 4, none⟩ = some (.int .i64 f)) (first | (with_reducible exact q4) | (with_reducible exact HZ2.out _ _ _ hg hb5) | (with_reducible exact HZ.out _ _ hg) | (refine HK.out _ ?_; go_grown; done))
    (first | (go_at_call 25; (with_reducible refine (HNm.out _ ((Below.refl w.heap.size w).drew)).mono ?_); rintro e W3 ⟨rfl, hb30⟩; have hb3 : Below w.heap.size w W3 := ((Below.refl w.heap.size w).drew).trans hb30; have hle3 : w.heap.size ≤ W3.heap.size := hb3.size)
           | (go_at_call 78; (with_reducible refine (HA.out _ hb3).mono ?_); rintro e W4 ⟨rfl, hg⟩)
           | (go_at_call 35; (with_reducible refine (HI.out _ _ hg).mono ?_); rintro e W5 ⟨rfl, hb5⟩))
  rw [e3.out]
  obtain ⟨S5, h5, o5, r5⟩ := (hg.behind hb3).after hb5
  clear hg hb3 hb5 hb30 hle3 e3 hs1 hd1 hd2 hw1 hw2 HNm HA HK HZ HZ2 HI q4
  have k5 := h5.c0
  have HJ := ahid (low_jump h5 hq.1 hq.2 hn (by show s.L.length < _; omega))
  clear h5
  go_wp2_with fail
  refine HJ.out.mono ?_
  rintro e w6 ⟨rfl, S6, h6, o6, r6⟩
  have l6 := jumpL_len s.L 17 q (nameB' nm)
  have k6 := h6.c0
  have HK6 := ahid (show ∀ w', Below w6.heap.size w6 w' → w'.cell? ⟨c.g, 0, none⟩ = some (.pointer (some ⟨c.pa, 0, none⟩)) from fun w' hb => (hb.cell (p := ⟨c.g, 0, none⟩) (World.block_lt_of_cell? _ _ k6)).trans k6)
  have HN6 := ahid (fun w' => num_any (op := 37) (rd := 0) (rs := 0) (n := k) (by omega) (by omega) (by omega) w')
  have HB6 := ahid (show ∀ y ∈ [numI 37 0 0 k], y.bd from fun y hy => by rw [List.mem_singleton] at hy; subst hy; unfold Ix.bd numI; simp only; omega)
  have HP6 := ahid (fun w' (hb : Below w6.heap.size w6 w') v (hv : InsIn w' v [numI 37 0 0 k]) => low_put (h6.keepb hb) hv (by show (jumpL s.L 17 q (nameB' nm)).length + 1 < _; omega))
  clear h6
  go_wp2_with fail
  go_region_held3 (fun w' => w'.cell? ⟨c.g, 0, none⟩ = some (.pointer (some ⟨c.pa, 0, none⟩))) (first | (with_reducible exact k6) | (exact hg.choose_spec.1.c0) | (refine HK6.out _ ?_; go_grown; done))
    (first | (go_at_call 39; (with_reducible refine (HN6.out _).mono ?_); rintro e W3 ⟨rfl, hb30⟩; have hb3 : Below w6.heap.size w6 W3 := ((Below.refl w6.heap.size w6).drew).trans hb30; have hle3 : w6.heap.size ≤ W3.heap.size := hb3.size)
           | (go_at_call 37; refine (HP6.out _ (hb3.alloc hle3 _) _ (InsIn.one HB6.out W3)).mono ?_; rintro e W4 ⟨rfl, hg⟩))
  obtain ⟨S7, h7, o7, r7⟩ := hg.behind (hb3.alloc hle3 _)
  have k7 := h7.c0
  have l7 := putL_len (jumpL s.L 17 q (nameB' nm)) [numI 37 0 0 k]
  have HM := ahid (low_mark h7 hn (by show s.M.length < _; unfold maxLen; omega) (by show (putL (jumpL s.L 17 q (nameB' nm)) [numI 37 0 0 k]).length < _; simp only [List.length_cons, List.length_nil] at l7; omega))
  clear h7
  go_wp2_with fail
  refine HM.out.mono ?_
  rintro e w8 ⟨rfl, hg8⟩
  go_wp2_with fail
  go_returns
  exact ⟨rfl, LowGo.then o5 r5 (LowGo.then o6 r6 (LowGo.then o7 r7 hg8))⟩
end Go.Proofs.YtfbbodaapkfbdaaDoor
/- A maker's cells by their names. No function of the program is walked here. -/
namespace Go.Proofs.YtfbbodaapkfbdaaDoor
open Go.RowKit
set_option linter.unusedVariables false
/-- A maker's cells. -/
structure MkC (c : Mc) (hp : Int) (thr fns : Value) (f : Int) (leaf : Bool) (sl : Int) (en bl : Value) (h32 : Int) : Prop where
  eq : c.cs = [.int .i64 hp, thr, fns, .int .i64 f, .bool leaf, .int .i64 sl, en, bl, .int .u32 h32]
section
variable {c : Mc} {hp h32 sl f : Int} {thr fns en bl : Value} {leaf : Bool} (h : MkC c hp thr fns f leaf sl en bl h32) (n : Nat)
include h
theorem MkC.len : c.cs.length = 9 := by rw [h.eq]; rfl
theorem MkC.f4 : c.cs[3]? = some (.int .i64 f) := by rw [h.eq]; rfl
theorem MkC.c1 : (c.cells n)[1]? = some (.int .i64 hp) := by unfold Mc.cells; rw [h.eq]; rfl
theorem MkC.c2 : (c.cells n)[2]? = some thr := by unfold Mc.cells; rw [h.eq]; rfl
theorem MkC.c3 : (c.cells n)[3]? = some fns := by unfold Mc.cells; rw [h.eq]; rfl
theorem MkC.c4 : (c.cells n)[4]? = some (.int .i64 f) := by unfold Mc.cells; rw [h.eq]; rfl
theorem MkC.c5 : (c.cells n)[5]? = some (.bool leaf) := by unfold Mc.cells; rw [h.eq]; rfl
theorem MkC.c6 : (c.cells n)[6]? = some (.int .i64 sl) := by unfold Mc.cells; rw [h.eq]; rfl
theorem MkC.c7 : (c.cells n)[7]? = some en := by unfold Mc.cells; rw [h.eq]; rfl
theorem MkC.c8 : (c.cells n)[8]? = some bl := by unfold Mc.cells; rw [h.eq]; rfl
theorem MkC.c9 : (c.cells n)[9]? = some (.int .u32 h32) := by unfold Mc.cells; rw [h.eq]; rfl
end
end Go.Proofs.YtfbbodaapkfbdaaDoor
/- Walks of the package lower: word. -/
namespace Go.Proofs.YtfbbodaapkfbdaaDoor
open Go.RowKit
set_option linter.unusedVariables false
set_option linter.unusedSimpArgs false
set_option maxRecDepth 100000 in
set_option maxHeartbeats 4000000 in
theorem word_any {W w0 : World} {c : Mc} {S0 : Nat → Prop} {s0 : Lo} (h0 : LowAt W w0 c S0 s0) {hp h32 sl : Int} {thr fns en bl : Value} {f : Nat} {leaf : Bool} (hmk : MkC c hp thr fns f leaf sl en bl h32) (hf : f < 9223372036854775808) {op at' r : Int} (hop : 0 ≤ op ∧ op < 256) (ha : 0 ≤ at' ∧ at' < 32) (hr : 0 ≤ r ∧ r < 32) (h3 : 0 ≤ h32 ∧ h32 < 4294967296) (hm : s0.many + 1 < 1000000) (hM : s0.M.length + 1 < 100000000) (hL : s0.L.length + 10 < 4294967296) :
    Calls Tryd.prog 80 #[.pointer (some ⟨c.g, 0, none⟩), .int .u8 op, .int .i64 at', .int .i64 r] w0 fun e w' => e = .returned (.tuple #[]) ∧ LowGo W w0 c S0 (s0.word f (hp % 4294967296) h32 op at' r) w' := by
  have v0 : s0.le s0.L.length s0.M.length s0.many := ⟨Nat.le_refl _, Nat.le_refl _, Nat.le_refl _⟩
  obtain ⟨s1, hs1⟩ : ∃ x, x = s0.const 5 (hp % 4294967296) := ⟨_, rfl⟩
  have v1 : s1.le (s0.L.length + 2) (s0.M.length + 0) (s0.many + 0) := by rw [hs1]; exact (v0.const _ _).mono (by first | omega | (simp only [List.length_cons, List.length_nil]; omega)) (by omega) (by omega)
  obtain ⟨s2, hs2⟩ : ∃ x, x = s1.put [twoI 16 0 at' 5] := ⟨_, rfl⟩
  have v2 : s2.le (s0.L.length + 3) (s0.M.length + 0) (s0.many + 0) := by rw [hs2]; exact (v1.put [twoI 16 0 at' 5]).mono (by first | omega | (simp only [List.length_cons, List.length_nil]; omega)) (by omega) (by omega)
  obtain ⟨s3, hs3⟩ : ∃ x, x = s2.fault f 5 2 := ⟨_, rfl⟩
  have v3 : s3.le (s0.L.length + 5) (s0.M.length + 1) (s0.many + 1) := by rw [hs3]; exact (v2.fault _ _ _).mono (by first | omega | (simp only [List.length_cons, List.length_nil]; omega)) (by omega) (by omega)
  obtain ⟨s4, hs4⟩ : ∃ x, x = s3.put [numI 9 5 at' 2] := ⟨_, rfl⟩
  have v4 : s4.le (s0.L.length + 6) (s0.M.length + 1) (s0.many + 1) := by rw [hs4]; exact (v3.put [numI 9 5 at' 2]).mono (by first | omega | (simp only [List.length_cons, List.length_nil]; omega)) (by omega) (by omega)
  obtain ⟨s5, hs5⟩ : ∃ x, x = s4.const 6 (h32) := ⟨_, rfl⟩
  have v5 : s5.le (s0.L.length + 8) (s0.M.length + 1) (s0.many + 1) := by rw [hs5]; exact (v4.const _ _).mono (by first | omega | (simp only [List.length_cons, List.length_nil]; omega)) (by omega) (by omega)
  obtain ⟨s6, hs6⟩ : ∃ x, x = s5.put [twoI 1 5 5 6, numI op r 5 0] := ⟨_, rfl⟩
  have v6 : s6.le (s0.L.length + 10) (s0.M.length + 1) (s0.many + 1) := by rw [hs6]; exact (v5.put [twoI 1 5 5 6, numI op r 5 0]).mono (by first | omega | (simp only [List.length_cons, List.length_nil]; omega)) (by omega) (by omega)
  have hpost : (s0.word f (hp % 4294967296) h32 op at' r) = s6 := by rw [hs6, hs5, hs4, hs3, hs2, hs1]; rfl
  rw [hpost]
  clear hpost
  have hwu : IntKind.u32.wrap hp = hp % 4294967296 := IntKind.wrap_u32 hp
  go_enter Tryd.func80, Tryd.ntmps80
  have k0 := h0.c0
  have kk0 := h0.cell (hmk.c1 _)
  have HK0 := ahid (show ∀ w', Below w0.heap.size w0 w' → w'.cell? ⟨c.g, 0, none⟩ = some (.pointer (some ⟨c.pa, 0, none⟩)) ∧ w'.cell? ⟨c.g, 1, none⟩ = some (.int .i64 hp) from fun w' hb => ⟨(hb.cell (p := ⟨c.g, 0, none⟩) (World.block_lt_of_cell? _ _ k0)).trans k0, (hb.cell (p := ⟨c.g, 1, none⟩) (World.block_lt_of_cell? _ _ kk0)).trans kk0⟩)
  have HC0 := ahid (fun w' (hb : Below w0.heap.size w0 w') => low_const (h0.keepb hb) (rd := 5) (n := hp % 4294967296) (by omega) (by omega) (by omega) (by omega) (by have := v0.1; first | omega | (simp only [List.length_cons, List.length_nil]; omega)))
  clear h0
  go_wp2_with fail
  go_region_held3 (fun w' => w'.cell? ⟨c.g, 0, none⟩ = some (.pointer (some ⟨c.pa, 0, none⟩)) ∧ w'.cell? ⟨c.g, 1, none⟩ = some (.int .i64 hp)) (first | (with_reducible exact ⟨k0, kk0⟩) | (exact ⟨hg1.choose_spec.1.c0, hg1.choose_spec.1.cell (hmk.c1 _)⟩) | (refine HK0.out _ ?_; go_grown; done))
    (first | (go_at_call 52; (with_reducible refine (HC0.out _ ((Below.refl w0.heap.size w0).drew)).mono ?_); rintro e w1 ⟨rfl, hg1⟩))
  replace hg1 := hg1.behind ((Below.refl w0.heap.size w0).drew)
  rw [← hs1] at hg1
  obtain ⟨S1, h1, o1, r1⟩ := hg1
  have k1 := h1.c0
  have HK1 := ahid (show ∀ w', Below w1.heap.size w1 w' → w'.cell? ⟨c.g, 0, none⟩ = some (.pointer (some ⟨c.pa, 0, none⟩)) from fun w' hb => (hb.cell (p := ⟨c.g, 0, none⟩) (World.block_lt_of_cell? _ _ k1)).trans k1)
  have HN1x0 := ahid (fun w' => both_any (op := 16) (rd := 0) (a := at') (b := 5) (by omega) (by omega) (by omega) w')
  have HB1 := ahid (show ∀ y ∈ [twoI 16 0 at' 5], y.bd from fun y hy => by
    simp only [List.mem_cons, List.not_mem_nil, or_false] at hy
    subst hy; (unfold Ix.bd; simp only [numI, twoI]; omega))
  have HP1 := ahid (fun w' (hb : Below w1.heap.size w1 w') v (hv : InsIn w' v [twoI 16 0 at' 5]) => low_put (h1.keepb hb) hv (by have := v1.1; first | omega | (simp only [List.length_cons, List.length_nil]; omega)))
  clear h1
  go_wp2_with fail
  go_region_held3 (fun w' => w'.cell? ⟨c.g, 0, none⟩ = some (.pointer (some ⟨c.pa, 0, none⟩))) (first | (with_reducible exact k1) | (exact hg2.choose_spec.1.c0) | (refine HK1.out _ ?_; go_grown; done))
    (first | (go_at_call 38; (with_reducible refine (HN1x0.out _).mono ?_); rintro e W1x0 ⟨rfl, hb0⟩; have hb1x0 : Below w1.heap.size w1 W1x0 := ((Below.refl w1.heap.size w1).drew).trans hb0; have le1x0 : w1.heap.size ≤ W1x0.heap.size := hb1x0.size; clear hb0)
           | (go_at_call 37; refine (HP1.out _ (hb1x0.alloc le1x0 _) _ (InsIn.one HB1.out W1x0)).mono ?_; rintro e w2 ⟨rfl, hg2⟩))
  replace hg2 := hg2.behind (hb1x0.alloc le1x0 _)
  rw [← hs2] at hg2
  obtain ⟨S2, h2, o2, r2⟩ := hg2
  have HF2 := ahid (fault_any h2 hmk.len hf hmk.f4 (q := 5) (k := 2) (by omega) (by omega) (by have := v2.2.2; omega) (by have := v2.2.1; omega) (by have := v2.1; first | omega | (simp only [List.length_cons, List.length_nil]; omega)))
  clear h2
  go_wp2_with fail
  refine HF2.out.mono ?_
  rintro e w3 ⟨rfl, hg3⟩
  rw [← hs3] at hg3
  obtain ⟨S3, h3, o3, r3⟩ := hg3
  have k3 := h3.c0
  have HK3 := ahid (show ∀ w', Below w3.heap.size w3 w' → w'.cell? ⟨c.g, 0, none⟩ = some (.pointer (some ⟨c.pa, 0, none⟩)) from fun w' hb => (hb.cell (p := ⟨c.g, 0, none⟩) (World.block_lt_of_cell? _ _ k3)).trans k3)
  have HN3x0 := ahid (fun w' => num_any (op := 9) (rd := 5) (rs := at') (n := 2) (by omega) (by omega) (by omega) w')
  have HB3 := ahid (show ∀ y ∈ [numI 9 5 at' 2], y.bd from fun y hy => by
    simp only [List.mem_cons, List.not_mem_nil, or_false] at hy
    subst hy; (unfold Ix.bd; simp only [numI, twoI]; omega))
  have HP3 := ahid (fun w' (hb : Below w3.heap.size w3 w') v (hv : InsIn w' v [numI 9 5 at' 2]) => low_put (h3.keepb hb) hv (by have := v3.1; first | omega | (simp only [List.length_cons, List.length_nil]; omega)))
  clear h3
  go_wp2_with fail
  go_region_held3 (fun w' => w'.cell? ⟨c.g, 0, none⟩ = some (.pointer (some ⟨c.pa, 0, none⟩))) (first | (with_reducible exact k3) | (exact hg4.choose_spec.1.c0) | (refine HK3.out _ ?_; go_grown; done))
    (first | (go_at_call 39; (with_reducible refine (HN3x0.out _).mono ?_); rintro e W3x0 ⟨rfl, hb0⟩; have hb3x0 : Below w3.heap.size w3 W3x0 := ((Below.refl w3.heap.size w3).drew).trans hb0; have le3x0 : w3.heap.size ≤ W3x0.heap.size := hb3x0.size; clear hb0)
           | (go_at_call 37; refine (HP3.out _ (hb3x0.alloc le3x0 _) _ (InsIn.one HB3.out W3x0)).mono ?_; rintro e w4 ⟨rfl, hg4⟩))
  replace hg4 := hg4.behind (hb3x0.alloc le3x0 _)
  rw [← hs4] at hg4
  obtain ⟨S4, h4, o4, r4⟩ := hg4
  have k4 := h4.c0
  have kk4 := h4.cell (hmk.c9 _)
  have HK4 := ahid (show ∀ w', Below w4.heap.size w4 w' → w'.cell? ⟨c.g, 0, none⟩ = some (.pointer (some ⟨c.pa, 0, none⟩)) ∧ w'.cell? ⟨c.g, 9, none⟩ = some (.int .u32 h32) from fun w' hb => ⟨(hb.cell (p := ⟨c.g, 0, none⟩) (World.block_lt_of_cell? _ _ k4)).trans k4, (hb.cell (p := ⟨c.g, 9, none⟩) (World.block_lt_of_cell? _ _ kk4)).trans kk4⟩)
  have HC4 := ahid (fun w' (hb : Below w4.heap.size w4 w') => low_const (h4.keepb hb) (rd := 6) (n := h32) (by omega) (by omega) (by omega) (by omega) (by have := v4.1; first | omega | (simp only [List.length_cons, List.length_nil]; omega)))
  clear h4
  go_wp2_with fail
  go_region_held3 (fun w' => w'.cell? ⟨c.g, 0, none⟩ = some (.pointer (some ⟨c.pa, 0, none⟩)) ∧ w'.cell? ⟨c.g, 9, none⟩ = some (.int .u32 h32)) (first | (with_reducible exact ⟨k4, kk4⟩) | (exact ⟨hg5.choose_spec.1.c0, hg5.choose_spec.1.cell (hmk.c9 _)⟩) | (refine HK4.out _ ?_; go_grown; done))
    (first | (go_at_call 52; (with_reducible refine (HC4.out _ ((Below.refl w4.heap.size w4).drew)).mono ?_); rintro e w5 ⟨rfl, hg5⟩))
  replace hg5 := hg5.behind ((Below.refl w4.heap.size w4).drew)
  rw [← hs5] at hg5
  obtain ⟨S5, h5, o5, r5⟩ := hg5
  have k5 := h5.c0
  have HK5 := ahid (show ∀ w', Below w5.heap.size w5 w' → w'.cell? ⟨c.g, 0, none⟩ = some (.pointer (some ⟨c.pa, 0, none⟩)) from fun w' hb => (hb.cell (p := ⟨c.g, 0, none⟩) (World.block_lt_of_cell? _ _ k5)).trans k5)
  have HN5x0 := ahid (fun w' => both_any (op := 1) (rd := 5) (a := 5) (b := 6) (by omega) (by omega) (by omega) w')
  have HN5x1 := ahid (fun w' => num_any (op := op) (rd := r) (rs := 5) (n := 0) (by omega) (by omega) (by omega) w')
  have HB5 := ahid (show ∀ y ∈ [twoI 1 5 5 6, numI op r 5 0], y.bd from fun y hy => by
    simp only [List.mem_cons, List.not_mem_nil, or_false] at hy
    rcases hy with rfl | rfl <;> (unfold Ix.bd; simp only [numI, twoI]; omega))
  have HP5 := ahid (fun w' (hb : Below w5.heap.size w5 w') v (hv : InsIn w' v [twoI 1 5 5 6, numI op r 5 0]) => low_put (h5.keepb hb) hv (by have := v5.1; first | omega | (simp only [List.length_cons, List.length_nil]; omega)))
  clear h5
  go_wp2_with fail
  go_region_held3 (fun w' => w'.cell? ⟨c.g, 0, none⟩ = some (.pointer (some ⟨c.pa, 0, none⟩))) (first | (with_reducible exact k5) | (exact hg6.choose_spec.1.c0) | (refine HK5.out _ ?_; go_grown; done))
    (first | (go_at_call 38; (with_reducible refine (HN5x0.out _).mono ?_); rintro e W5x0 ⟨rfl, hb0⟩; have hb5x0 : Below w5.heap.size w5 W5x0 := ((Below.refl w5.heap.size w5).drew).trans hb0; have le5x0 : w5.heap.size ≤ W5x0.heap.size := hb5x0.size; clear hb0)
           | (go_at_call 39; (with_reducible refine (HN5x1.out _).mono ?_); rintro e W5x1 ⟨rfl, hb0⟩; have hb5x1 : Below w5.heap.size w5 W5x1 := hb5x0.trans (hb0.mono le5x0); have le5x1 : w5.heap.size ≤ W5x1.heap.size := hb5x1.size; clear hb0)
           | (go_at_call 37; refine (HP5.out _ (hb5x1.alloc le5x1 _) _ (InsIn.two HB5.out W5x1)).mono ?_; rintro e w6 ⟨rfl, hg6⟩))
  replace hg6 := hg6.behind (hb5x1.alloc le5x1 _)
  rw [← hs6] at hg6
  obtain ⟨S6, h6, o6, r6⟩ := hg6
  go_wp2_with fail
  go_returns
  exact ⟨rfl, LowGo.then o1 r1 (LowGo.then o2 r2 (LowGo.then o3 r3 (LowGo.then o4 r4 (LowGo.then o5 r5 (⟨S6, h6, o6, r6⟩)))))⟩
end Go.Proofs.YtfbbodaapkfbdaaDoor
/- Walks of the package lower: begin. -/
namespace Go.Proofs.YtfbbodaapkfbdaaDoor
open Go.RowKit
set_option linter.unusedVariables false
set_option linter.unusedSimpArgs false
theorem frame_shape {leaf : Bool} {sl : Int} {ne nb ce cb : Nat} {pe pb : Option Addr} {w : World} (hs : sl < 1000000000000) :
    Calls Tryd.prog 14 #[.agg #[.bool leaf, .int .i64 sl, .slice pe ne ce, .slice pb nb cb]] w fun e w' => e = .returned (.int .i64 (frameS sl)) ∧ Below w.heap.size w w' := by
  unfold frameS
  by_cases h : 0 ≤ sl
  · have hm : max sl 0 = sl := by omega
    rw [hm]
    go_enter Tryd.func14, Tryd.ntmps14
    go_wp2_with fail
    go_ret
    exact ⟨rfl, (Below.refl _ w).alloc (Nat.le_refl _) _⟩
  · have hm : max sl 0 = 0 := by omega
    rw [hm]
    go_enter Tryd.func14, Tryd.ntmps14
    go_wp2_with fail
    go_ret
    exact ⟨rfl, (Below.refl _ w).alloc (Nat.le_refl _) _⟩
theorem frame_bound (sl : Int) (h : sl < 2000000) : 64 ≤ frameS sl ∧ frameS sl < 8000100 := by unfold frameS; omega
set_option maxRecDepth 100000 in
set_option maxHeartbeats 4000000 in
theorem begin_a {W wi : World} {c : Mc} {S0 : Nat → Prop} {s0 : Lo} (h : LowAt W wi c S0 s0) {hp h32 sl : Int} {thr fns : Value} {pe pb : Option Addr} {ne ce nb cb : Nat} {f : Nat} (hmk : MkC c hp thr fns f false sl (.slice pe ne ce) (.slice pb nb cb) h32) (hf : f < 9223372036854775808) (hm : s0.many + 1 < 1000000) (hM : s0.M.length + 1 < 100000000) (hL : s0.L.length + 10 < 4294967296) (hsl : sl < 2000000) {n : Int} (hn : frameS sl = n) (hc : n ≤ 16383) (hn0 : 64 ≤ n ∧ n < 8000100) :
    Calls Tryd.prog 26 #[.pointer (some ⟨c.g, 0, none⟩)] wi fun e w' => e = .returned (.tuple #[]) ∧ LowGo W wi c S0 (s0.begin f sl) w' := by
  have v0 : s0.le s0.L.length s0.M.length s0.many := ⟨Nat.le_refl _, Nat.le_refl _, Nat.le_refl _⟩
  obtain ⟨s1, hs1⟩ : ∃ x, x = s0.put [numI 2 5 14 n] := ⟨_, rfl⟩
  have v1 : s1.le (s0.L.length + 1) (s0.M.length + 0) (s0.many + 0) := by rw [hs1]; exact (v0.put [numI 2 5 14 n]).mono (by first | omega | (simp only [List.length_cons, List.length_nil]; omega)) (by omega) (by omega)
  obtain ⟨s2, hs2⟩ : ∃ x, x = s1.put [numI 22 6 0 136, twoI 16 0 5 6] := ⟨_, rfl⟩
  have v2 : s2.le (s0.L.length + 3) (s0.M.length + 0) (s0.many + 0) := by rw [hs2]; exact (v1.put [numI 22 6 0 136, twoI 16 0 5 6]).mono (by first | omega | (simp only [List.length_cons, List.length_nil]; omega)) (by omega) (by omega)
  obtain ⟨s3, hs3⟩ : ∃ x, x = s2.fault f 4 3 := ⟨_, rfl⟩
  have v3 : s3.le (s0.L.length + 5) (s0.M.length + 1) (s0.many + 1) := by rw [hs3]; exact (v2.fault _ _ _).mono (by first | omega | (simp only [List.length_cons, List.length_nil]; omega)) (by omega) (by omega)
  obtain ⟨s4, hs4⟩ : ∃ x, x = s3.put [numI 20 14 14 (-n)] := ⟨_, rfl⟩
  have v4 : s4.le (s0.L.length + 6) (s0.M.length + 1) (s0.many + 1) := by rw [hs4]; exact (v3.put [numI 20 14 14 (-n)]).mono (by first | omega | (simp only [List.length_cons, List.length_nil]; omega)) (by omega) (by omega)
  have hpost : (s0.begin f sl) = s4 := by rw [hs4, hs3, hs2, hs1]; unfold Lo.begin; simp only [hn]; simp only [if_pos hc, if_pos (show n ≤ 16384 by omega)]
  rw [hpost]
  clear hpost
  have kl := h.cell (hmk.c5 s0.many)
  have k6 := h.cell (hmk.c6 s0.many)
  have k7 := h.cell (hmk.c7 s0.many)
  have k8 := h.cell (hmk.c8 s0.many)
  have HFr := ahid (frame_shape (leaf := false) (sl := sl) (ne := ne) (nb := nb) (pe := pe) (pb := pb) (ce := ce) (cb := cb) (w := wi) (by omega))
  rw [hn] at HFr
  have hwn : IntKind.i64.wrap (-n) = -n := by rw [IntKind.wrap_i64]; omega
  have hwu : IntKind.u32.wrap (-n) = 4294967296 - n := by rw [IntKind.wrap_u32]; omega
  go_enter Tryd.func26, Tryd.ntmps26
  go_wp2_with fail
  refine HFr.out.mono ?_
  rintro e w0 ⟨rfl, hb0⟩
  have h0 := h.keepb hb0
  clear kl k6 k7 k8
  have k0 := h0.c0
  have HK0 := ahid (show ∀ w', Below w0.heap.size w0 w' → w'.cell? ⟨c.g, 0, none⟩ = some (.pointer (some ⟨c.pa, 0, none⟩)) from fun w' hb => (hb.cell (p := ⟨c.g, 0, none⟩) (World.block_lt_of_cell? _ _ k0)).trans k0)
  have HN0x0 := ahid (fun w' => num_any (op := 2) (rd := 5) (rs := 14) (n := n) (by omega) (by omega) (by omega) w')
  have HB0 := ahid (show ∀ y ∈ [numI 2 5 14 n], y.bd from fun y hy => by
    simp only [List.mem_cons, List.not_mem_nil, or_false] at hy
    subst hy; (unfold Ix.bd; simp only [numI, twoI]; omega))
  have HP0 := ahid (fun w' (hb : Below w0.heap.size w0 w') v (hv : InsIn w' v [numI 2 5 14 n]) => low_put (h0.keepb hb) hv (by have := v0.1; first | omega | (simp only [List.length_cons, List.length_nil]; omega)))
  clear h0
  go_wp2_with fail
  go_region_held3 (fun w' => w'.cell? ⟨c.g, 0, none⟩ = some (.pointer (some ⟨c.pa, 0, none⟩))) (first | (with_reducible exact k0) | (exact hg1.choose_spec.1.c0) | (refine HK0.out _ ?_; go_grown; done))
    (first | (go_at_call 39; (with_reducible refine (HN0x0.out _).mono ?_); rintro e W0x0 ⟨rfl, hb0⟩; have hb0x0 : Below w0.heap.size w0 W0x0 := ((Below.refl w0.heap.size w0).drew).trans hb0; have le0x0 : w0.heap.size ≤ W0x0.heap.size := hb0x0.size; clear hb0)
           | (go_at_call 37; refine (HP0.out _ (hb0x0.alloc le0x0 _) _ (InsIn.one HB0.out W0x0)).mono ?_; rintro e w1 ⟨rfl, hg1⟩))
  replace hg1 := hg1.behind (hb0x0.alloc le0x0 _)
  rw [← hs1] at hg1
  obtain ⟨S1, h1, o1, r1⟩ := hg1
  have k1 := h1.c0
  have HK1 := ahid (show ∀ w', Below w1.heap.size w1 w' → w'.cell? ⟨c.g, 0, none⟩ = some (.pointer (some ⟨c.pa, 0, none⟩)) from fun w' hb => (hb.cell (p := ⟨c.g, 0, none⟩) (World.block_lt_of_cell? _ _ k1)).trans k1)
  have HN1x0 := ahid (fun w' => num_any (op := 22) (rd := 6) (rs := 0) (n := 136) (by omega) (by omega) (by omega) w')
  have HN1x1 := ahid (fun w' => both_any (op := 16) (rd := 0) (a := 5) (b := 6) (by omega) (by omega) (by omega) w')
  have HB1 := ahid (show ∀ y ∈ [numI 22 6 0 136, twoI 16 0 5 6], y.bd from fun y hy => by
    simp only [List.mem_cons, List.not_mem_nil, or_false] at hy
    rcases hy with rfl | rfl <;> (unfold Ix.bd; simp only [numI, twoI]; omega))
  have HP1 := ahid (fun w' (hb : Below w1.heap.size w1 w') v (hv : InsIn w' v [numI 22 6 0 136, twoI 16 0 5 6]) => low_put (h1.keepb hb) hv (by have := v1.1; first | omega | (simp only [List.length_cons, List.length_nil]; omega)))
  clear h1
  go_wp2_with fail
  go_region_held3 (fun w' => w'.cell? ⟨c.g, 0, none⟩ = some (.pointer (some ⟨c.pa, 0, none⟩))) (first | (with_reducible exact k1) | (exact hg2.choose_spec.1.c0) | (refine HK1.out _ ?_; go_grown; done))
    (first | (go_at_call 39; (with_reducible refine (HN1x0.out _).mono ?_); rintro e W1x0 ⟨rfl, hb0⟩; have hb1x0 : Below w1.heap.size w1 W1x0 := ((Below.refl w1.heap.size w1).drew).trans hb0; have le1x0 : w1.heap.size ≤ W1x0.heap.size := hb1x0.size; clear hb0)
           | (go_at_call 38; (with_reducible refine (HN1x1.out _).mono ?_); rintro e W1x1 ⟨rfl, hb0⟩; have hb1x1 : Below w1.heap.size w1 W1x1 := hb1x0.trans (hb0.mono le1x0); have le1x1 : w1.heap.size ≤ W1x1.heap.size := hb1x1.size; clear hb0)
           | (go_at_call 37; refine (HP1.out _ (hb1x1.alloc le1x1 _) _ (InsIn.two HB1.out W1x1)).mono ?_; rintro e w2 ⟨rfl, hg2⟩))
  replace hg2 := hg2.behind (hb1x1.alloc le1x1 _)
  rw [← hs2] at hg2
  obtain ⟨S2, h2, o2, r2⟩ := hg2
  have HF2 := ahid (fault_any h2 hmk.len hf hmk.f4 (q := 4) (k := 3) (by omega) (by omega) (by have := v2.2.2; omega) (by have := v2.2.1; omega) (by have := v2.1; first | omega | (simp only [List.length_cons, List.length_nil]; omega)))
  clear h2
  go_wp2_with fail
  refine HF2.out.mono ?_
  rintro e w3 ⟨rfl, hg3⟩
  rw [← hs3] at hg3
  obtain ⟨S3, h3, o3, r3⟩ := hg3
  have k3 := h3.c0
  have HK3 := ahid (show ∀ w', Below w3.heap.size w3 w' → w'.cell? ⟨c.g, 0, none⟩ = some (.pointer (some ⟨c.pa, 0, none⟩)) from fun w' hb => (hb.cell (p := ⟨c.g, 0, none⟩) (World.block_lt_of_cell? _ _ k3)).trans k3)
  have HN3x0 := ahid (fun w' => num_any (op := 20) (rd := 14) (rs := 14) (n := (-n)) (by omega) (by omega) (by omega) w')
  have HB3 := ahid (show ∀ y ∈ [numI 20 14 14 (-n)], y.bd from fun y hy => by
    simp only [List.mem_cons, List.not_mem_nil, or_false] at hy
    subst hy; (unfold Ix.bd; simp only [numI, twoI]; omega))
  have HP3 := ahid (fun w' (hb : Below w3.heap.size w3 w') v (hv : InsIn w' v [numI 20 14 14 (-n)]) => low_put (h3.keepb hb) hv (by have := v3.1; first | omega | (simp only [List.length_cons, List.length_nil]; omega)))
  clear h3
  go_wp2_with fail
  go_region_held3 (fun w' => w'.cell? ⟨c.g, 0, none⟩ = some (.pointer (some ⟨c.pa, 0, none⟩))) (first | (with_reducible exact k3) | (exact hg4.choose_spec.1.c0) | (refine HK3.out _ ?_; go_grown; done))
    (first | (go_at_call 39; (with_reducible refine (HN3x0.out _).mono ?_); rintro e W3x0 ⟨rfl, hb0⟩; have hb3x0 : Below w3.heap.size w3 W3x0 := ((Below.refl w3.heap.size w3).drew).trans hb0; have le3x0 : w3.heap.size ≤ W3x0.heap.size := hb3x0.size; clear hb0)
           | (go_at_call 37; refine (HP3.out _ (hb3x0.alloc le3x0 _) _ (InsIn.one HB3.out W3x0)).mono ?_; rintro e w4 ⟨rfl, hg4⟩))
  replace hg4 := hg4.behind (hb3x0.alloc le3x0 _)
  rw [← hs4] at hg4
  obtain ⟨S4, h4, o4, r4⟩ := hg4
  go_wp2_with fail
  go_returns
  exact ⟨rfl, LowGo.behind hb0 (LowGo.then o1 r1 (LowGo.then o2 r2 (LowGo.then o3 r3 (⟨S4, h4, o4, r4⟩))))⟩
set_option maxRecDepth 100000 in
set_option maxHeartbeats 4000000 in
theorem begin_b {W wi : World} {c : Mc} {S0 : Nat → Prop} {s0 : Lo} (h : LowAt W wi c S0 s0) {hp h32 sl : Int} {thr fns : Value} {pe pb : Option Addr} {ne ce nb cb : Nat} {f : Nat} (hmk : MkC c hp thr fns f false sl (.slice pe ne ce) (.slice pb nb cb) h32) (hf : f < 9223372036854775808) (hm : s0.many + 1 < 1000000) (hM : s0.M.length + 1 < 100000000) (hL : s0.L.length + 10 < 4294967296) (hsl : sl < 2000000) (hn : frameS sl = 16384) :
    Calls Tryd.prog 26 #[.pointer (some ⟨c.g, 0, none⟩)] wi fun e w' => e = .returned (.tuple #[]) ∧ LowGo W wi c S0 (s0.begin f sl) w' := by
  have v0 : s0.le s0.L.length s0.M.length s0.many := ⟨Nat.le_refl _, Nat.le_refl _, Nat.le_refl _⟩
  obtain ⟨s1, hs1⟩ : ∃ x, x = s0.const 6 (16384) := ⟨_, rfl⟩
  have v1 : s1.le (s0.L.length + 2) (s0.M.length + 0) (s0.many + 0) := by rw [hs1]; exact (v0.const _ _).mono (by first | omega | (simp only [List.length_cons, List.length_nil]; omega)) (by omega) (by omega)
  obtain ⟨s2, hs2⟩ : ∃ x, x = s1.put [twoI 2 5 14 6] := ⟨_, rfl⟩
  have v2 : s2.le (s0.L.length + 3) (s0.M.length + 0) (s0.many + 0) := by rw [hs2]; exact (v1.put [twoI 2 5 14 6]).mono (by first | omega | (simp only [List.length_cons, List.length_nil]; omega)) (by omega) (by omega)
  obtain ⟨s3, hs3⟩ : ∃ x, x = s2.put [numI 22 6 0 136, twoI 16 0 5 6] := ⟨_, rfl⟩
  have v3 : s3.le (s0.L.length + 5) (s0.M.length + 0) (s0.many + 0) := by rw [hs3]; exact (v2.put [numI 22 6 0 136, twoI 16 0 5 6]).mono (by first | omega | (simp only [List.length_cons, List.length_nil]; omega)) (by omega) (by omega)
  obtain ⟨s4, hs4⟩ : ∃ x, x = s3.fault f 4 3 := ⟨_, rfl⟩
  have v4 : s4.le (s0.L.length + 7) (s0.M.length + 1) (s0.many + 1) := by rw [hs4]; exact (v3.fault _ _ _).mono (by first | omega | (simp only [List.length_cons, List.length_nil]; omega)) (by omega) (by omega)
  obtain ⟨s5, hs5⟩ : ∃ x, x = s4.put [numI 20 14 14 (-16384)] := ⟨_, rfl⟩
  have v5 : s5.le (s0.L.length + 8) (s0.M.length + 1) (s0.many + 1) := by rw [hs5]; exact (v4.put [numI 20 14 14 (-16384)]).mono (by first | omega | (simp only [List.length_cons, List.length_nil]; omega)) (by omega) (by omega)
  have hpost : (s0.begin f sl) = s5 := by rw [hs5, hs4, hs3, hs2, hs1]; unfold Lo.begin; simp only [hn]; simp only [if_neg (show ¬ (16384 : Int) ≤ 16383 by omega), if_pos (show (16384 : Int) ≤ 16384 by omega)]
  rw [hpost]
  clear hpost
  have kl := h.cell (hmk.c5 s0.many)
  have k6 := h.cell (hmk.c6 s0.many)
  have k7 := h.cell (hmk.c7 s0.many)
  have k8 := h.cell (hmk.c8 s0.many)
  have HFr := ahid (frame_shape (leaf := false) (sl := sl) (ne := ne) (nb := nb) (pe := pe) (pb := pb) (ce := ce) (cb := cb) (w := wi) (by omega))
  rw [hn] at HFr
  have hwn : IntKind.i64.wrap (-16384) = -16384 := by rw [IntKind.wrap_i64]; omega
  go_enter Tryd.func26, Tryd.ntmps26
  go_wp2_with fail
  refine HFr.out.mono ?_
  rintro e w0 ⟨rfl, hb0⟩
  have h0 := h.keepb hb0
  clear kl k6 k7 k8
  have k0 := h0.c0
  have HC0 := ahid (low_const h0 (rd := 6) (n := 16384) (by omega) (by omega) (by omega) (by omega) (by have := v0.1; first | omega | (simp only [List.length_cons, List.length_nil]; omega)))
  clear h0
  go_wp2_with fail
  refine HC0.out.mono ?_
  rintro e w1 ⟨rfl, hg1⟩
  rw [← hs1] at hg1
  obtain ⟨S1, h1, o1, r1⟩ := hg1
  have k1 := h1.c0
  have HK1 := ahid (show ∀ w', Below w1.heap.size w1 w' → w'.cell? ⟨c.g, 0, none⟩ = some (.pointer (some ⟨c.pa, 0, none⟩)) from fun w' hb => (hb.cell (p := ⟨c.g, 0, none⟩) (World.block_lt_of_cell? _ _ k1)).trans k1)
  have HN1x0 := ahid (fun w' => both_any (op := 2) (rd := 5) (a := 14) (b := 6) (by omega) (by omega) (by omega) w')
  have HB1 := ahid (show ∀ y ∈ [twoI 2 5 14 6], y.bd from fun y hy => by
    simp only [List.mem_cons, List.not_mem_nil, or_false] at hy
    subst hy; (unfold Ix.bd; simp only [numI, twoI]; omega))
  have HP1 := ahid (fun w' (hb : Below w1.heap.size w1 w') v (hv : InsIn w' v [twoI 2 5 14 6]) => low_put (h1.keepb hb) hv (by have := v1.1; first | omega | (simp only [List.length_cons, List.length_nil]; omega)))
  clear h1
  go_wp2_with fail
  go_region_held3 (fun w' => w'.cell? ⟨c.g, 0, none⟩ = some (.pointer (some ⟨c.pa, 0, none⟩))) (first | (with_reducible exact k1) | (exact hg2.choose_spec.1.c0) | (refine HK1.out _ ?_; go_grown; done))
    (first | (go_at_call 38; (with_reducible refine (HN1x0.out _).mono ?_); rintro e W1x0 ⟨rfl, hb0⟩; have hb1x0 : Below w1.heap.size w1 W1x0 := ((Below.refl w1.heap.size w1).drew).trans hb0; have le1x0 : w1.heap.size ≤ W1x0.heap.size := hb1x0.size; clear hb0)
           | (go_at_call 37; refine (HP1.out _ (hb1x0.alloc le1x0 _) _ (InsIn.one HB1.out W1x0)).mono ?_; rintro e w2 ⟨rfl, hg2⟩))
  replace hg2 := hg2.behind (hb1x0.alloc le1x0 _)
  rw [← hs2] at hg2
  obtain ⟨S2, h2, o2, r2⟩ := hg2
  have k2 := h2.c0
  have HK2 := ahid (show ∀ w', Below w2.heap.size w2 w' → w'.cell? ⟨c.g, 0, none⟩ = some (.pointer (some ⟨c.pa, 0, none⟩)) from fun w' hb => (hb.cell (p := ⟨c.g, 0, none⟩) (World.block_lt_of_cell? _ _ k2)).trans k2)
  have HN2x0 := ahid (fun w' => num_any (op := 22) (rd := 6) (rs := 0) (n := 136) (by omega) (by omega) (by omega) w')
  have HN2x1 := ahid (fun w' => both_any (op := 16) (rd := 0) (a := 5) (b := 6) (by omega) (by omega) (by omega) w')
  have HB2 := ahid (show ∀ y ∈ [numI 22 6 0 136, twoI 16 0 5 6], y.bd from fun y hy => by
    simp only [List.mem_cons, List.not_mem_nil, or_false] at hy
    rcases hy with rfl | rfl <;> (unfold Ix.bd; simp only [numI, twoI]; omega))
  have HP2 := ahid (fun w' (hb : Below w2.heap.size w2 w') v (hv : InsIn w' v [numI 22 6 0 136, twoI 16 0 5 6]) => low_put (h2.keepb hb) hv (by have := v2.1; first | omega | (simp only [List.length_cons, List.length_nil]; omega)))
  clear h2
  go_wp2_with fail
  go_region_held3 (fun w' => w'.cell? ⟨c.g, 0, none⟩ = some (.pointer (some ⟨c.pa, 0, none⟩))) (first | (with_reducible exact k2) | (exact hg3.choose_spec.1.c0) | (refine HK2.out _ ?_; go_grown; done))
    (first | (go_at_call 39; (with_reducible refine (HN2x0.out _).mono ?_); rintro e W2x0 ⟨rfl, hb0⟩; have hb2x0 : Below w2.heap.size w2 W2x0 := ((Below.refl w2.heap.size w2).drew).trans hb0; have le2x0 : w2.heap.size ≤ W2x0.heap.size := hb2x0.size; clear hb0)
           | (go_at_call 38; (with_reducible refine (HN2x1.out _).mono ?_); rintro e W2x1 ⟨rfl, hb0⟩; have hb2x1 : Below w2.heap.size w2 W2x1 := hb2x0.trans (hb0.mono le2x0); have le2x1 : w2.heap.size ≤ W2x1.heap.size := hb2x1.size; clear hb0)
           | (go_at_call 37; refine (HP2.out _ (hb2x1.alloc le2x1 _) _ (InsIn.two HB2.out W2x1)).mono ?_; rintro e w3 ⟨rfl, hg3⟩))
  replace hg3 := hg3.behind (hb2x1.alloc le2x1 _)
  rw [← hs3] at hg3
  obtain ⟨S3, h3, o3, r3⟩ := hg3
  have HF3 := ahid (fault_any h3 hmk.len hf hmk.f4 (q := 4) (k := 3) (by omega) (by omega) (by have := v3.2.2; omega) (by have := v3.2.1; omega) (by have := v3.1; first | omega | (simp only [List.length_cons, List.length_nil]; omega)))
  clear h3
  go_wp2_with fail
  refine HF3.out.mono ?_
  rintro e w4 ⟨rfl, hg4⟩
  rw [← hs4] at hg4
  obtain ⟨S4, h4, o4, r4⟩ := hg4
  have k4 := h4.c0
  have HK4 := ahid (show ∀ w', Below w4.heap.size w4 w' → w'.cell? ⟨c.g, 0, none⟩ = some (.pointer (some ⟨c.pa, 0, none⟩)) from fun w' hb => (hb.cell (p := ⟨c.g, 0, none⟩) (World.block_lt_of_cell? _ _ k4)).trans k4)
  have HN4x0 := ahid (fun w' => num_any (op := 20) (rd := 14) (rs := 14) (n := (-16384)) (by omega) (by omega) (by omega) w')
  have HB4 := ahid (show ∀ y ∈ [numI 20 14 14 (-16384)], y.bd from fun y hy => by
    simp only [List.mem_cons, List.not_mem_nil, or_false] at hy
    subst hy; (unfold Ix.bd; simp only [numI, twoI]; omega))
  have HP4 := ahid (fun w' (hb : Below w4.heap.size w4 w') v (hv : InsIn w' v [numI 20 14 14 (-16384)]) => low_put (h4.keepb hb) hv (by have := v4.1; first | omega | (simp only [List.length_cons, List.length_nil]; omega)))
  clear h4
  go_wp2_with fail
  go_region_held3 (fun w' => w'.cell? ⟨c.g, 0, none⟩ = some (.pointer (some ⟨c.pa, 0, none⟩))) (first | (with_reducible exact k4) | (exact hg5.choose_spec.1.c0) | (refine HK4.out _ ?_; go_grown; done))
    (first | (go_at_call 39; (with_reducible refine (HN4x0.out _).mono ?_); rintro e W4x0 ⟨rfl, hb0⟩; have hb4x0 : Below w4.heap.size w4 W4x0 := ((Below.refl w4.heap.size w4).drew).trans hb0; have le4x0 : w4.heap.size ≤ W4x0.heap.size := hb4x0.size; clear hb0)
           | (go_at_call 37; refine (HP4.out _ (hb4x0.alloc le4x0 _) _ (InsIn.one HB4.out W4x0)).mono ?_; rintro e w5 ⟨rfl, hg5⟩))
  replace hg5 := hg5.behind (hb4x0.alloc le4x0 _)
  rw [← hs5] at hg5
  obtain ⟨S5, h5, o5, r5⟩ := hg5
  go_wp2_with fail
  go_returns
  exact ⟨rfl, LowGo.behind hb0 (LowGo.then o1 r1 (LowGo.then o2 r2 (LowGo.then o3 r3 (LowGo.then o4 r4 (⟨S5, h5, o5, r5⟩)))))⟩
set_option maxRecDepth 100000 in
set_option maxHeartbeats 4000000 in
theorem begin_c {W wi : World} {c : Mc} {S0 : Nat → Prop} {s0 : Lo} (h : LowAt W wi c S0 s0) {hp h32 sl : Int} {thr fns : Value} {pe pb : Option Addr} {ne ce nb cb : Nat} {f : Nat} (hmk : MkC c hp thr fns f false sl (.slice pe ne ce) (.slice pb nb cb) h32) (hf : f < 9223372036854775808) (hm : s0.many + 1 < 1000000) (hM : s0.M.length + 1 < 100000000) (hL : s0.L.length + 10 < 4294967296) (hsl : sl < 2000000) {n : Int} (hn : frameS sl = n) (hc : 16384 < n) (hn0 : 64 ≤ n ∧ n < 8000100) :
    Calls Tryd.prog 26 #[.pointer (some ⟨c.g, 0, none⟩)] wi fun e w' => e = .returned (.tuple #[]) ∧ LowGo W wi c S0 (s0.begin f sl) w' := by
  have v0 : s0.le s0.L.length s0.M.length s0.many := ⟨Nat.le_refl _, Nat.le_refl _, Nat.le_refl _⟩
  obtain ⟨s1, hs1⟩ : ∃ x, x = s0.const 6 (n) := ⟨_, rfl⟩
  have v1 : s1.le (s0.L.length + 2) (s0.M.length + 0) (s0.many + 0) := by rw [hs1]; exact (v0.const _ _).mono (by first | omega | (simp only [List.length_cons, List.length_nil]; omega)) (by omega) (by omega)
  obtain ⟨s2, hs2⟩ : ∃ x, x = s1.put [twoI 2 5 14 6] := ⟨_, rfl⟩
  have v2 : s2.le (s0.L.length + 3) (s0.M.length + 0) (s0.many + 0) := by rw [hs2]; exact (v1.put [twoI 2 5 14 6]).mono (by first | omega | (simp only [List.length_cons, List.length_nil]; omega)) (by omega) (by omega)
  obtain ⟨s3, hs3⟩ : ∃ x, x = s2.put [numI 22 6 0 136, twoI 16 0 5 6] := ⟨_, rfl⟩
  have v3 : s3.le (s0.L.length + 5) (s0.M.length + 0) (s0.many + 0) := by rw [hs3]; exact (v2.put [numI 22 6 0 136, twoI 16 0 5 6]).mono (by first | omega | (simp only [List.length_cons, List.length_nil]; omega)) (by omega) (by omega)
  obtain ⟨s4, hs4⟩ : ∃ x, x = s3.fault f 4 3 := ⟨_, rfl⟩
  have v4 : s4.le (s0.L.length + 7) (s0.M.length + 1) (s0.many + 1) := by rw [hs4]; exact (v3.fault _ _ _).mono (by first | omega | (simp only [List.length_cons, List.length_nil]; omega)) (by omega) (by omega)
  obtain ⟨s5, hs5⟩ : ∃ x, x = s4.const 6 (4294967296 - n) := ⟨_, rfl⟩
  have v5 : s5.le (s0.L.length + 9) (s0.M.length + 1) (s0.many + 1) := by rw [hs5]; exact (v4.const _ _).mono (by first | omega | (simp only [List.length_cons, List.length_nil]; omega)) (by omega) (by omega)
  obtain ⟨s6, hs6⟩ : ∃ x, x = s5.put [twoI 20 14 14 6] := ⟨_, rfl⟩
  have v6 : s6.le (s0.L.length + 10) (s0.M.length + 1) (s0.many + 1) := by rw [hs6]; exact (v5.put [twoI 20 14 14 6]).mono (by first | omega | (simp only [List.length_cons, List.length_nil]; omega)) (by omega) (by omega)
  have hpost : (s0.begin f sl) = s6 := by rw [hs6, hs5, hs4, hs3, hs2, hs1]; unfold Lo.begin; simp only [hn]; simp only [if_neg (show ¬ n ≤ 16383 by omega), if_neg (show ¬ n ≤ 16384 by omega)]
  rw [hpost]
  clear hpost
  have kl := h.cell (hmk.c5 s0.many)
  have k6 := h.cell (hmk.c6 s0.many)
  have k7 := h.cell (hmk.c7 s0.many)
  have k8 := h.cell (hmk.c8 s0.many)
  have HFr := ahid (frame_shape (leaf := false) (sl := sl) (ne := ne) (nb := nb) (pe := pe) (pb := pb) (ce := ce) (cb := cb) (w := wi) (by omega))
  rw [hn] at HFr
  have hwn : IntKind.i64.wrap (-n) = -n := by rw [IntKind.wrap_i64]; omega
  have hwu : IntKind.u32.wrap (-n) = 4294967296 - n := by rw [IntKind.wrap_u32]; omega
  go_enter Tryd.func26, Tryd.ntmps26
  go_wp2_with fail
  refine HFr.out.mono ?_
  rintro e w0 ⟨rfl, hb0⟩
  have h0 := h.keepb hb0
  clear kl k6 k7 k8
  have k0 := h0.c0
  have HC0 := ahid (low_const h0 (rd := 6) (n := n) (by omega) (by omega) (by omega) (by omega) (by have := v0.1; first | omega | (simp only [List.length_cons, List.length_nil]; omega)))
  clear h0
  go_wp2_with fail
  refine HC0.out.mono ?_
  rintro e w1 ⟨rfl, hg1⟩
  rw [← hs1] at hg1
  obtain ⟨S1, h1, o1, r1⟩ := hg1
  have k1 := h1.c0
  have HK1 := ahid (show ∀ w', Below w1.heap.size w1 w' → w'.cell? ⟨c.g, 0, none⟩ = some (.pointer (some ⟨c.pa, 0, none⟩)) from fun w' hb => (hb.cell (p := ⟨c.g, 0, none⟩) (World.block_lt_of_cell? _ _ k1)).trans k1)
  have HN1x0 := ahid (fun w' => both_any (op := 2) (rd := 5) (a := 14) (b := 6) (by omega) (by omega) (by omega) w')
  have HB1 := ahid (show ∀ y ∈ [twoI 2 5 14 6], y.bd from fun y hy => by
    simp only [List.mem_cons, List.not_mem_nil, or_false] at hy
    subst hy; (unfold Ix.bd; simp only [numI, twoI]; omega))
  have HP1 := ahid (fun w' (hb : Below w1.heap.size w1 w') v (hv : InsIn w' v [twoI 2 5 14 6]) => low_put (h1.keepb hb) hv (by have := v1.1; first | omega | (simp only [List.length_cons, List.length_nil]; omega)))
  clear h1
  go_wp2_with fail
  go_region_held3 (fun w' => w'.cell? ⟨c.g, 0, none⟩ = some (.pointer (some ⟨c.pa, 0, none⟩))) (first | (with_reducible exact k1) | (exact hg2.choose_spec.1.c0) | (refine HK1.out _ ?_; go_grown; done))
    (first | (go_at_call 38; (with_reducible refine (HN1x0.out _).mono ?_); rintro e W1x0 ⟨rfl, hb0⟩; have hb1x0 : Below w1.heap.size w1 W1x0 := ((Below.refl w1.heap.size w1).drew).trans hb0; have le1x0 : w1.heap.size ≤ W1x0.heap.size := hb1x0.size; clear hb0)
           | (go_at_call 37; refine (HP1.out _ (hb1x0.alloc le1x0 _) _ (InsIn.one HB1.out W1x0)).mono ?_; rintro e w2 ⟨rfl, hg2⟩))
  replace hg2 := hg2.behind (hb1x0.alloc le1x0 _)
  rw [← hs2] at hg2
  obtain ⟨S2, h2, o2, r2⟩ := hg2
  have k2 := h2.c0
  have HK2 := ahid (show ∀ w', Below w2.heap.size w2 w' → w'.cell? ⟨c.g, 0, none⟩ = some (.pointer (some ⟨c.pa, 0, none⟩)) from fun w' hb => (hb.cell (p := ⟨c.g, 0, none⟩) (World.block_lt_of_cell? _ _ k2)).trans k2)
  have HN2x0 := ahid (fun w' => num_any (op := 22) (rd := 6) (rs := 0) (n := 136) (by omega) (by omega) (by omega) w')
  have HN2x1 := ahid (fun w' => both_any (op := 16) (rd := 0) (a := 5) (b := 6) (by omega) (by omega) (by omega) w')
  have HB2 := ahid (show ∀ y ∈ [numI 22 6 0 136, twoI 16 0 5 6], y.bd from fun y hy => by
    simp only [List.mem_cons, List.not_mem_nil, or_false] at hy
    rcases hy with rfl | rfl <;> (unfold Ix.bd; simp only [numI, twoI]; omega))
  have HP2 := ahid (fun w' (hb : Below w2.heap.size w2 w') v (hv : InsIn w' v [numI 22 6 0 136, twoI 16 0 5 6]) => low_put (h2.keepb hb) hv (by have := v2.1; first | omega | (simp only [List.length_cons, List.length_nil]; omega)))
  clear h2
  go_wp2_with fail
  go_region_held3 (fun w' => w'.cell? ⟨c.g, 0, none⟩ = some (.pointer (some ⟨c.pa, 0, none⟩))) (first | (with_reducible exact k2) | (exact hg3.choose_spec.1.c0) | (refine HK2.out _ ?_; go_grown; done))
    (first | (go_at_call 39; (with_reducible refine (HN2x0.out _).mono ?_); rintro e W2x0 ⟨rfl, hb0⟩; have hb2x0 : Below w2.heap.size w2 W2x0 := ((Below.refl w2.heap.size w2).drew).trans hb0; have le2x0 : w2.heap.size ≤ W2x0.heap.size := hb2x0.size; clear hb0)
           | (go_at_call 38; (with_reducible refine (HN2x1.out _).mono ?_); rintro e W2x1 ⟨rfl, hb0⟩; have hb2x1 : Below w2.heap.size w2 W2x1 := hb2x0.trans (hb0.mono le2x0); have le2x1 : w2.heap.size ≤ W2x1.heap.size := hb2x1.size; clear hb0)
           | (go_at_call 37; refine (HP2.out _ (hb2x1.alloc le2x1 _) _ (InsIn.two HB2.out W2x1)).mono ?_; rintro e w3 ⟨rfl, hg3⟩))
  replace hg3 := hg3.behind (hb2x1.alloc le2x1 _)
  rw [← hs3] at hg3
  obtain ⟨S3, h3, o3, r3⟩ := hg3
  have HF3 := ahid (fault_any h3 hmk.len hf hmk.f4 (q := 4) (k := 3) (by omega) (by omega) (by have := v3.2.2; omega) (by have := v3.2.1; omega) (by have := v3.1; first | omega | (simp only [List.length_cons, List.length_nil]; omega)))
  clear h3
  go_wp2_with fail
  refine HF3.out.mono ?_
  rintro e w4 ⟨rfl, hg4⟩
  rw [← hs4] at hg4
  obtain ⟨S4, h4, o4, r4⟩ := hg4
  have k4 := h4.c0
  have HC4 := ahid (low_const h4 (rd := 6) (n := 4294967296 - n) (by omega) (by omega) (by omega) (by omega) (by have := v4.1; first | omega | (simp only [List.length_cons, List.length_nil]; omega)))
  clear h4
  go_wp2_with fail
  refine HC4.out.mono ?_
  rintro e w5 ⟨rfl, hg5⟩
  rw [← hs5] at hg5
  obtain ⟨S5, h5, o5, r5⟩ := hg5
  have k5 := h5.c0
  have HK5 := ahid (show ∀ w', Below w5.heap.size w5 w' → w'.cell? ⟨c.g, 0, none⟩ = some (.pointer (some ⟨c.pa, 0, none⟩)) from fun w' hb => (hb.cell (p := ⟨c.g, 0, none⟩) (World.block_lt_of_cell? _ _ k5)).trans k5)
  have HN5x0 := ahid (fun w' => both_any (op := 20) (rd := 14) (a := 14) (b := 6) (by omega) (by omega) (by omega) w')
  have HB5 := ahid (show ∀ y ∈ [twoI 20 14 14 6], y.bd from fun y hy => by
    simp only [List.mem_cons, List.not_mem_nil, or_false] at hy
    subst hy; (unfold Ix.bd; simp only [numI, twoI]; omega))
  have HP5 := ahid (fun w' (hb : Below w5.heap.size w5 w') v (hv : InsIn w' v [twoI 20 14 14 6]) => low_put (h5.keepb hb) hv (by have := v5.1; first | omega | (simp only [List.length_cons, List.length_nil]; omega)))
  clear h5
  go_wp2_with fail
  go_region_held3 (fun w' => w'.cell? ⟨c.g, 0, none⟩ = some (.pointer (some ⟨c.pa, 0, none⟩))) (first | (with_reducible exact k5) | (exact hg6.choose_spec.1.c0) | (refine HK5.out _ ?_; go_grown; done))
    (first | (go_at_call 38; (with_reducible refine (HN5x0.out _).mono ?_); rintro e W5x0 ⟨rfl, hb0⟩; have hb5x0 : Below w5.heap.size w5 W5x0 := ((Below.refl w5.heap.size w5).drew).trans hb0; have le5x0 : w5.heap.size ≤ W5x0.heap.size := hb5x0.size; clear hb0)
           | (go_at_call 37; refine (HP5.out _ (hb5x0.alloc le5x0 _) _ (InsIn.one HB5.out W5x0)).mono ?_; rintro e w6 ⟨rfl, hg6⟩))
  replace hg6 := hg6.behind (hb5x0.alloc le5x0 _)
  rw [← hs6] at hg6
  obtain ⟨S6, h6, o6, r6⟩ := hg6
  go_wp2_with fail
  go_returns
  exact ⟨rfl, LowGo.behind hb0 (LowGo.then o1 r1 (LowGo.then o2 r2 (LowGo.then o3 r3 (LowGo.then o4 r4 (LowGo.then o5 r5 (⟨S6, h6, o6, r6⟩))))))⟩
theorem begin_any {W wi : World} {c : Mc} {S0 : Nat → Prop} {s0 : Lo} (h : LowAt W wi c S0 s0) {hp h32 sl : Int} {thr fns : Value} {pe pb : Option Addr} {ne ce nb cb : Nat} {f : Nat} (hmk : MkC c hp thr fns f false sl (.slice pe ne ce) (.slice pb nb cb) h32) (hf : f < 9223372036854775808) (hm : s0.many + 1 < 1000000) (hM : s0.M.length + 1 < 100000000) (hL : s0.L.length + 10 < 4294967296) (hsl : sl < 2000000) :
    Calls Tryd.prog 26 #[.pointer (some ⟨c.g, 0, none⟩)] wi fun e w' => e = .returned (.tuple #[]) ∧ LowGo W wi c S0 (s0.begin f sl) w' := by
  have hb := frame_bound sl hsl
  by_cases h1 : frameS sl ≤ 16383
  · exact begin_a h hmk hf hm hM hL hsl rfl h1 hb
  · by_cases h2 : frameS sl = 16384
    · exact begin_b h hmk hf hm hM hL hsl h2
    · exact begin_c h hmk hf hm hM hL hsl rfl (by omega) hb
theorem begin_leaf {W wi : World} {c : Mc} {S0 : Nat → Prop} {s0 : Lo} (h : LowAt W wi c S0 s0) {hp h32 sl : Int} {thr fns en bl : Value} {f : Nat} (hmk : MkC c hp thr fns f true sl en bl h32) :
    Calls Tryd.prog 26 #[.pointer (some ⟨c.g, 0, none⟩)] wi fun e w' => e = .returned (.tuple #[]) ∧ LowGo W wi c S0 s0 w' := by
  have kl := h.cell (hmk.c5 s0.many)
  go_enter Tryd.func26, Tryd.ntmps26
  go_wp2_with fail
  go_returns
  exact ⟨rfl, LowGo.same h⟩
end Go.Proofs.YtfbbodaapkfbdaaDoor
/- Walks of the package lower: what is put for instructions. -/
namespace Go.Proofs.YtfbbodaapkfbdaaDoor
open Go.RowKit
set_option linter.unusedVariables false
set_option linter.unusedSimpArgs false
theorem box_keep {c : Mc} {S : Nat → Prop} {w w1 w4 : World} {b j : Nat} {v : Value} (hb : Below w.heap.size w w1) (o : Only (fun k => S k ∨ k = c.g) w1 w4) (hn : ¬ (S b ∨ b = c.g)) (e : w.cell? ⟨b, j, none⟩ = some v) : w4.cell? ⟨b, j, none⟩ = some v := by
  have e1 := (hb.cell (p := ⟨b, j, none⟩) (World.block_lt_of_cell? _ _ e)).trans e
  exact (o.cell (p := ⟨b, j, none⟩) (World.block_lt_of_cell? _ _ e1) hn).trans e1
theorem low_name {W w : World} {c : Mc} {S : Nat → Prop} {s : Lo} (h : LowAt W w c S s) {f : Nat} (hf : f < 9223372036854775808) {w' : World} (hb : Below w.heap.size w w') :
    Calls Tryd.prog 25 #[.int .i64 f] w' fun e w2 => e = .returned (.string (nameB' (fNameL f))) ∧ Below w'.heap.size w' w2 := name_any f hf w' (h.keepb hb).pow.tab
theorem low_block {W w : World} {c : Mc} {S : Nat → Prop} {s : Lo} (h : LowAt W w c S s) {hp h32 sl : Int} {thr fns en bl : Value} {f : Nat} {leaf : Bool} (hmk : MkC c hp thr fns f leaf sl en bl h32) (hf : f < 9223372036854775808) {b : Nat} (hb0 : b < 9223372036854775808) {w' : World} (hb : Below w.heap.size w w') :
    Calls Tryd.prog 29 #[.pointer (some ⟨c.g, 0, none⟩), .int .i64 b] w' fun e w2 => e = .returned (.string (nameB' (bNameL f b))) ∧ Below w'.heap.size w' w2 :=
  block_any hf hb0 ((h.keepb hb).cell (hmk.c4 _)) (h.keepb hb).pow.tab (fun w2 hb2 => ((h.keepb hb).keepb hb2).pow.tab)
theorem fname_len (f : Nat) (hf : f < 9223372036854775808) : (fNameL f).length ≤ maxLen := by
  have := decl_len f hf
  simp only [fNameL, decL, List.length_cons, maxLen]; omega
theorem bname_len (f b : Nat) (hf : f < 9223372036854775808) (hb : b < 9223372036854775808) : (bNameL f b).length ≤ maxLen := by
  have := decl_len f hf
  have := decl_len b hb
  simp only [bNameL, fNameL, decL, List.length_cons, List.length_append, maxLen]; omega
set_option maxRecDepth 100000 in
set_option maxHeartbeats 4000000 in
theorem op_constant {W wi : World} {c : Mc} {S0 : Nat → Prop} {s0 : Lo} (h : LowAt W wi c S0 s0) {hp h32 sl : Int} {thr fns en bl : Value} {f : Nat} {leaf : Bool} (hmk : MkC c hp thr fns f leaf sl en bl h32) (hf : f < 9223372036854775808) (h3 : 0 ≤ h32 ∧ h32 < 4294967296) (hm : s0.many + 1 < 1000000) (hM : s0.M.length + 1 < 100000000) (hL : s0.L.length + 10 < 4294967296) {io id ia ib inn iff il1 il2 xk xt xd xa xb : Int} {pi px : Option Addr} {ni ci nx cx : Nat} (h1 : 0 ≤ xd ∧ xd < 32) (h2 : 0 ≤ inn ∧ inn < 4294967296) :
    Calls Tryd.prog 55 #[.pointer (some ⟨c.g, 0, none⟩), .agg #[.int .u8 io, .int .i64 id, .int .i64 ia, .int .i64 ib, .int .u32 inn, .int .i64 iff, .slice pi ni ci, .int .i64 il1, .int .i64 il2], .agg #[.int .u8 xk, .int .i64 xt, .int .i64 xd, .int .i64 xa, .int .i64 xb, .slice px nx cx]] wi fun e w' => e = .returned (.tuple #[]) ∧ LowGo W wi c S0 (s0.const xd inn) w' := by
  have v0 : s0.le (s0.L.length + 0) (s0.M.length + 0) (s0.many + 0) := ⟨Nat.le_refl _, Nat.le_refl _, Nat.le_refl _⟩
  obtain ⟨s1, hs1⟩ : ∃ x, x = s0.const xd (inn) := ⟨_, rfl⟩
  have v1 : s1.le (s0.L.length + 2) (s0.M.length + 0) (s0.many + 0) := by rw [hs1]; exact (v0.const _ _).mono (by first | omega | (simp only [List.length_cons, List.length_nil]; omega)) (by omega) (by omega)
  have hpost : (s0.const xd inn) = s1 := by rw [hs1]
  rw [hpost]
  clear hpost
  have hw1 : IntKind.u8.wrap xd = xd := by rw [IntKind.wrap_u8]; omega
  obtain ⟨w0, hw0⟩ : ∃ w0, w0 = ((wi.alloc (.cells #[.int .u8 io, .int .i64 id, .int .i64 ia, .int .i64 ib, .int .u32 inn, .int .i64 iff, .slice pi ni ci, .int .i64 il1, .int .i64 il2] 73)).alloc (.cells #[.int .u8 xk, .int .i64 xt, .int .i64 xd, .int .i64 xa, .int .i64 xb, .slice px nx cx] 41)) := ⟨_, rfl⟩
  have hbi : Below wi.heap.size wi w0 := by rw [hw0]; exact ((Below.refl _ wi).alloc (Nat.le_refl _) _).alloc (by simp [go_sem]) _
  have hz : w0.heap.size = wi.heap.size + 2 := by rw [hw0]; simp [go_sem]
  have z0 : w0.heap.size ≤ w0.heap.size := Nat.le_refl _
  have h0 := h.keepb hbi
  have e0x0 : w0.cell? ⟨(wi.heap.size + 1), 2, none⟩ = some (.int .i64 xd) := by rw [hw0]; simp [go_sem]
  have e0x1 : w0.cell? ⟨wi.heap.size, 4, none⟩ = some (.int .u32 inn) := by rw [hw0]; simp [go_sem]
  have nb0 : ∀ b, wi.heap.size ≤ b → b < w0.heap.size → ¬ (S0 b ∨ b = c.g) := fun b g1 g2 g3 => by
    rcases g3 with g3 | g3
    · have := (h.lst.lo _ g3).2; omega
    · have := h.mkr.lt; omega
  clear h
  go_enter Tryd.func55, Tryd.ntmps55
  have k0 := h0.c0
  have HK0 := ahid (show ∀ w', Below w0.heap.size w0 w' → w'.cell? ⟨c.g, 0, none⟩ = some (.pointer (some ⟨c.pa, 0, none⟩)) ∧ w'.cell? ⟨(wi.heap.size + 1), 2, none⟩ = some (.int .i64 xd) ∧ w'.cell? ⟨wi.heap.size, 4, none⟩ = some (.int .u32 inn) from fun w' hb => ⟨(hb.cell (p := ⟨c.g, 0, none⟩) (World.block_lt_of_cell? _ _ k0)).trans k0, (hb.cell (p := ⟨(wi.heap.size + 1), 2, none⟩) (World.block_lt_of_cell? _ _ e0x0)).trans e0x0, (hb.cell (p := ⟨wi.heap.size, 4, none⟩) (World.block_lt_of_cell? _ _ e0x1)).trans e0x1⟩)
  have HZ0 := ahid (show ∀ wa wb, Below w0.heap.size w0 wa → LowGo W wa c S0 (s0.const xd (inn)) wb → wb.cell? ⟨c.g, 0, none⟩ = some (.pointer (some ⟨c.pa, 0, none⟩)) ∧ wb.cell? ⟨(wi.heap.size + 1), 2, none⟩ = some (.int .i64 xd) ∧ wb.cell? ⟨wi.heap.size, 4, none⟩ = some (.int .u32 inn) from fun wa wb hb hg => by
    obtain ⟨S', h', o', -⟩ := hg
    exact ⟨h'.c0, box_keep hb o' (nb0 _ (by omega) (by omega)) e0x0, box_keep hb o' (nb0 _ (by omega) (by omega)) e0x1⟩)
  have HC0 := ahid (fun w' (hb : Below w0.heap.size w0 w') => low_const (h0.keepb hb) (rd := xd) (n := inn) (by omega) (by omega) (by omega) (by omega) (by have := v0.1; first | omega | (simp only [List.length_cons, List.length_nil]; omega)))
  clear h0
  go_wp2_with fail
  rw [← hw0] at ⊢
  have Hq := ahid hw0
  clear hw0
  go_region_held3 (fun w' => w'.cell? ⟨c.g, 0, none⟩ = some (.pointer (some ⟨c.pa, 0, none⟩)) ∧ w'.cell? ⟨(wi.heap.size + 1), 2, none⟩ = some (.int .i64 xd) ∧ w'.cell? ⟨wi.heap.size, 4, none⟩ = some (.int .u32 inn)) (first | (with_reducible exact ⟨k0, e0x0, e0x1⟩) | (with_reducible exact HZ0.out _ _ ((Below.refl w0.heap.size w0).drew) hg1) | (refine HK0.out _ ?_; go_grown; done))
    (first | (go_at_call 52; (with_reducible refine (HC0.out _ ((Below.refl w0.heap.size w0).drew)).mono ?_); rintro e w1 ⟨rfl, hg1⟩))
  obtain ⟨-, e1x0, e1x1⟩ := HZ0.out _ _ ((Below.refl w0.heap.size w0).drew) hg1
  replace hg1 := hg1.behind ((Below.refl w0.heap.size w0).drew)
  rw [← hs1] at hg1
  obtain ⟨S1, h1, o1, r1⟩ := hg1
  have z1 : w0.heap.size ≤ w1.heap.size := Nat.le_trans z0 o1.size
  have nb1 : ∀ b, wi.heap.size ≤ b → b < w0.heap.size → ¬ (S1 b ∨ b = c.g) := fun b g1 g2 g3 => by
    rcases g3 with g3 | g3
    · rcases r1 b g3 with g4 | g4
      · exact nb0 b g1 g2 (.inl g4)
      · omega
    · exact nb0 b g1 g2 (.inr g3)
  go_wp2_with fail
  go_returns
  exact ⟨rfl, LowGo.behind hbi (⟨S1, h1, o1, r1⟩)⟩
set_option maxRecDepth 100000 in
set_option maxHeartbeats 4000000 in
theorem op_alu {W wi : World} {c : Mc} {S0 : Nat → Prop} {s0 : Lo} (h : LowAt W wi c S0 s0) {hp h32 sl : Int} {thr fns en bl : Value} {f : Nat} {leaf : Bool} (hmk : MkC c hp thr fns f leaf sl en bl h32) (hf : f < 9223372036854775808) (h3 : 0 ≤ h32 ∧ h32 < 4294967296) (hm : s0.many + 1 < 1000000) (hM : s0.M.length + 1 < 100000000) (hL : s0.L.length + 10 < 4294967296) {io id ia ib inn iff il1 il2 xk xt xd xa xb : Int} {pi px : Option Addr} {ni ci nx cx : Nat} (h1 : 0 ≤ xd ∧ xd < 32) (h2 : 0 ≤ xa ∧ xa < 32) (h4 : 0 ≤ xb ∧ xb < 32) (h5 : 0 ≤ inn ∧ inn ≤ 13) :
    Calls Tryd.prog 56 #[.pointer (some ⟨c.g, 0, none⟩), .agg #[.int .u8 io, .int .i64 id, .int .i64 ia, .int .i64 ib, .int .u32 inn, .int .i64 iff, .slice pi ni ci, .int .i64 il1, .int .i64 il2], .agg #[.int .u8 xk, .int .i64 xt, .int .i64 xd, .int .i64 xa, .int .i64 xb, .slice px nx cx]] wi fun e w' => e = .returned (.tuple #[]) ∧ LowGo W wi c S0 (s0.put [twoI (1 + inn) xd xa xb]) w' := by
  have v0 : s0.le (s0.L.length + 0) (s0.M.length + 0) (s0.many + 0) := ⟨Nat.le_refl _, Nat.le_refl _, Nat.le_refl _⟩
  obtain ⟨s1, hs1⟩ : ∃ x, x = s0.put [twoI (1 + inn) xd xa xb] := ⟨_, rfl⟩
  have v1 : s1.le (s0.L.length + 1) (s0.M.length + 0) (s0.many + 0) := by rw [hs1]; exact (v0.put [twoI (1 + inn) xd xa xb]).mono (by first | omega | (simp only [List.length_cons, List.length_nil]; omega)) (by omega) (by omega)
  have hpost : (s0.put [twoI (1 + inn) xd xa xb]) = s1 := by rw [hs1]
  rw [hpost]
  clear hpost
  have hw1 : IntKind.u8.wrap inn = inn := by rw [IntKind.wrap_u8]; omega
  have hw2 : IntKind.u8.wrap (1 + inn) = 1 + inn := by rw [IntKind.wrap_u8]; omega
  obtain ⟨w0, hw0⟩ : ∃ w0, w0 = ((wi.alloc (.cells #[.int .u8 io, .int .i64 id, .int .i64 ia, .int .i64 ib, .int .u32 inn, .int .i64 iff, .slice pi ni ci, .int .i64 il1, .int .i64 il2] 73)).alloc (.cells #[.int .u8 xk, .int .i64 xt, .int .i64 xd, .int .i64 xa, .int .i64 xb, .slice px nx cx] 41)) := ⟨_, rfl⟩
  have hbi : Below wi.heap.size wi w0 := by rw [hw0]; exact ((Below.refl _ wi).alloc (Nat.le_refl _) _).alloc (by simp [go_sem]) _
  have hz : w0.heap.size = wi.heap.size + 2 := by rw [hw0]; simp [go_sem]
  have z0 : w0.heap.size ≤ w0.heap.size := Nat.le_refl _
  have h0 := h.keepb hbi
  have e0x0 : w0.cell? ⟨wi.heap.size, 4, none⟩ = some (.int .u32 inn) := by rw [hw0]; simp [go_sem]
  have e0x1 : w0.cell? ⟨(wi.heap.size + 1), 2, none⟩ = some (.int .i64 xd) := by rw [hw0]; simp [go_sem]
  have e0x2 : w0.cell? ⟨(wi.heap.size + 1), 3, none⟩ = some (.int .i64 xa) := by rw [hw0]; simp [go_sem]
  have e0x3 : w0.cell? ⟨(wi.heap.size + 1), 4, none⟩ = some (.int .i64 xb) := by rw [hw0]; simp [go_sem]
  have nb0 : ∀ b, wi.heap.size ≤ b → b < w0.heap.size → ¬ (S0 b ∨ b = c.g) := fun b g1 g2 g3 => by
    rcases g3 with g3 | g3
    · have := (h.lst.lo _ g3).2; omega
    · have := h.mkr.lt; omega
  clear h
  go_enter Tryd.func56, Tryd.ntmps56
  have k0 := h0.c0
  have HK0 := ahid (show ∀ w', Below w0.heap.size w0 w' → w'.cell? ⟨c.g, 0, none⟩ = some (.pointer (some ⟨c.pa, 0, none⟩)) ∧ w'.cell? ⟨wi.heap.size, 4, none⟩ = some (.int .u32 inn) ∧ w'.cell? ⟨(wi.heap.size + 1), 2, none⟩ = some (.int .i64 xd) ∧ w'.cell? ⟨(wi.heap.size + 1), 3, none⟩ = some (.int .i64 xa) ∧ w'.cell? ⟨(wi.heap.size + 1), 4, none⟩ = some (.int .i64 xb) from fun w' hb => ⟨(hb.cell (p := ⟨c.g, 0, none⟩) (World.block_lt_of_cell? _ _ k0)).trans k0, (hb.cell (p := ⟨wi.heap.size, 4, none⟩) (World.block_lt_of_cell? _ _ e0x0)).trans e0x0, (hb.cell (p := ⟨(wi.heap.size + 1), 2, none⟩) (World.block_lt_of_cell? _ _ e0x1)).trans e0x1, (hb.cell (p := ⟨(wi.heap.size + 1), 3, none⟩) (World.block_lt_of_cell? _ _ e0x2)).trans e0x2, (hb.cell (p := ⟨(wi.heap.size + 1), 4, none⟩) (World.block_lt_of_cell? _ _ e0x3)).trans e0x3⟩)
  have HZ0 := ahid (show ∀ wa wb, Below w0.heap.size w0 wa → LowGo W wa c S0 (s0.put [twoI (1 + inn) xd xa xb]) wb → wb.cell? ⟨c.g, 0, none⟩ = some (.pointer (some ⟨c.pa, 0, none⟩)) ∧ wb.cell? ⟨wi.heap.size, 4, none⟩ = some (.int .u32 inn) ∧ wb.cell? ⟨(wi.heap.size + 1), 2, none⟩ = some (.int .i64 xd) ∧ wb.cell? ⟨(wi.heap.size + 1), 3, none⟩ = some (.int .i64 xa) ∧ wb.cell? ⟨(wi.heap.size + 1), 4, none⟩ = some (.int .i64 xb) from fun wa wb hb hg => by
    obtain ⟨S', h', o', -⟩ := hg
    exact ⟨h'.c0, box_keep hb o' (nb0 _ (by omega) (by omega)) e0x0, box_keep hb o' (nb0 _ (by omega) (by omega)) e0x1, box_keep hb o' (nb0 _ (by omega) (by omega)) e0x2, box_keep hb o' (nb0 _ (by omega) (by omega)) e0x3⟩)
  have HN0 := ahid (fun w' => both_any (op := (1 + inn)) (rd := xd) (a := xa) (b := xb) (by omega) (by omega) (by omega) w')
  have HB0 := ahid (show ∀ y ∈ [twoI (1 + inn) xd xa xb], y.bd from fun y hy => by
    simp only [List.mem_cons, List.not_mem_nil, or_false] at hy
    subst hy; (unfold Ix.bd; simp only [numI, twoI]; omega))
  have HP0 := ahid (fun w' (hb : Below w0.heap.size w0 w') v (hv : InsIn w' v [twoI (1 + inn) xd xa xb]) => low_put (h0.keepb hb) hv (by have := v0.1; first | omega | (simp only [List.length_cons, List.length_nil]; omega)))
  clear h0
  go_wp2_with fail
  rw [← hw0] at ⊢
  have Hq := ahid hw0
  clear hw0
  go_region_held3 (fun w' => w'.cell? ⟨c.g, 0, none⟩ = some (.pointer (some ⟨c.pa, 0, none⟩)) ∧ w'.cell? ⟨wi.heap.size, 4, none⟩ = some (.int .u32 inn) ∧ w'.cell? ⟨(wi.heap.size + 1), 2, none⟩ = some (.int .i64 xd) ∧ w'.cell? ⟨(wi.heap.size + 1), 3, none⟩ = some (.int .i64 xa) ∧ w'.cell? ⟨(wi.heap.size + 1), 4, none⟩ = some (.int .i64 xb)) (first | (with_reducible exact ⟨k0, e0x0, e0x1, e0x2, e0x3⟩) | (with_reducible exact HZ0.out _ _ (hb0x0.alloc le0x0 _) hg1) | (refine HK0.out _ ?_; go_grown; done))
    (first | (go_at_call 38; (with_reducible refine (HN0.out _).mono ?_); rintro e W0x0 ⟨rfl, hb0⟩; have hb0x0 : Below w0.heap.size w0 W0x0 := ((Below.refl w0.heap.size w0).drew).trans hb0; have le0x0 : w0.heap.size ≤ W0x0.heap.size := hb0x0.size; clear hb0)
           | (go_at_call 37; refine (HP0.out _ (hb0x0.alloc le0x0 _) _ (InsIn.one HB0.out W0x0)).mono ?_; rintro e w1 ⟨rfl, hg1⟩))
  obtain ⟨-, e1x0, e1x1, e1x2, e1x3⟩ := HZ0.out _ _ (hb0x0.alloc le0x0 _) hg1
  replace hg1 := hg1.behind (hb0x0.alloc le0x0 _)
  rw [← hs1] at hg1
  obtain ⟨S1, h1, o1, r1⟩ := hg1
  have z1 : w0.heap.size ≤ w1.heap.size := Nat.le_trans z0 o1.size
  have nb1 : ∀ b, wi.heap.size ≤ b → b < w0.heap.size → ¬ (S1 b ∨ b = c.g) := fun b g1 g2 g3 => by
    rcases g3 with g3 | g3
    · rcases r1 b g3 with g4 | g4
      · exact nb0 b g1 g2 (.inl g4)
      · omega
    · exact nb0 b g1 g2 (.inr g3)
  go_wp2_with fail
  go_returns
  exact ⟨rfl, LowGo.behind hbi (⟨S1, h1, o1, r1⟩)⟩
set_option maxRecDepth 100000 in
set_option maxHeartbeats 4000000 in
theorem op_mov {W wi : World} {c : Mc} {S0 : Nat → Prop} {s0 : Lo} (h : LowAt W wi c S0 s0) {hp h32 sl : Int} {thr fns en bl : Value} {f : Nat} {leaf : Bool} (hmk : MkC c hp thr fns f leaf sl en bl h32) (hf : f < 9223372036854775808) (h3 : 0 ≤ h32 ∧ h32 < 4294967296) (hm : s0.many + 1 < 1000000) (hM : s0.M.length + 1 < 100000000) (hL : s0.L.length + 10 < 4294967296) {io id ia ib inn iff il1 il2 xk xt xd xa xb : Int} {pi px : Option Addr} {ni ci nx cx : Nat} (h1 : 0 ≤ xd ∧ xd < 32) (h2 : 0 ≤ xa ∧ xa < 32) :
    Calls Tryd.prog 57 #[.pointer (some ⟨c.g, 0, none⟩), .agg #[.int .u8 io, .int .i64 id, .int .i64 ia, .int .i64 ib, .int .u32 inn, .int .i64 iff, .slice pi ni ci, .int .i64 il1, .int .i64 il2], .agg #[.int .u8 xk, .int .i64 xt, .int .i64 xd, .int .i64 xa, .int .i64 xb, .slice px nx cx]] wi fun e w' => e = .returned (.tuple #[]) ∧ LowGo W wi c S0 (s0.put [numI 1 xd xa 0]) w' := by
  have v0 : s0.le (s0.L.length + 0) (s0.M.length + 0) (s0.many + 0) := ⟨Nat.le_refl _, Nat.le_refl _, Nat.le_refl _⟩
  obtain ⟨s1, hs1⟩ : ∃ x, x = s0.put [numI 1 xd xa 0] := ⟨_, rfl⟩
  have v1 : s1.le (s0.L.length + 1) (s0.M.length + 0) (s0.many + 0) := by rw [hs1]; exact (v0.put [numI 1 xd xa 0]).mono (by first | omega | (simp only [List.length_cons, List.length_nil]; omega)) (by omega) (by omega)
  have hpost : (s0.put [numI 1 xd xa 0]) = s1 := by rw [hs1]
  rw [hpost]
  clear hpost
  obtain ⟨w0, hw0⟩ : ∃ w0, w0 = ((wi.alloc (.cells #[.int .u8 io, .int .i64 id, .int .i64 ia, .int .i64 ib, .int .u32 inn, .int .i64 iff, .slice pi ni ci, .int .i64 il1, .int .i64 il2] 73)).alloc (.cells #[.int .u8 xk, .int .i64 xt, .int .i64 xd, .int .i64 xa, .int .i64 xb, .slice px nx cx] 41)) := ⟨_, rfl⟩
  have hbi : Below wi.heap.size wi w0 := by rw [hw0]; exact ((Below.refl _ wi).alloc (Nat.le_refl _) _).alloc (by simp [go_sem]) _
  have hz : w0.heap.size = wi.heap.size + 2 := by rw [hw0]; simp [go_sem]
  have z0 : w0.heap.size ≤ w0.heap.size := Nat.le_refl _
  have h0 := h.keepb hbi
  have e0x0 : w0.cell? ⟨(wi.heap.size + 1), 2, none⟩ = some (.int .i64 xd) := by rw [hw0]; simp [go_sem]
  have e0x1 : w0.cell? ⟨(wi.heap.size + 1), 3, none⟩ = some (.int .i64 xa) := by rw [hw0]; simp [go_sem]
  have nb0 : ∀ b, wi.heap.size ≤ b → b < w0.heap.size → ¬ (S0 b ∨ b = c.g) := fun b g1 g2 g3 => by
    rcases g3 with g3 | g3
    · have := (h.lst.lo _ g3).2; omega
    · have := h.mkr.lt; omega
  clear h
  go_enter Tryd.func57, Tryd.ntmps57
  have k0 := h0.c0
  have HK0 := ahid (show ∀ w', Below w0.heap.size w0 w' → w'.cell? ⟨c.g, 0, none⟩ = some (.pointer (some ⟨c.pa, 0, none⟩)) ∧ w'.cell? ⟨(wi.heap.size + 1), 2, none⟩ = some (.int .i64 xd) ∧ w'.cell? ⟨(wi.heap.size + 1), 3, none⟩ = some (.int .i64 xa) from fun w' hb => ⟨(hb.cell (p := ⟨c.g, 0, none⟩) (World.block_lt_of_cell? _ _ k0)).trans k0, (hb.cell (p := ⟨(wi.heap.size + 1), 2, none⟩) (World.block_lt_of_cell? _ _ e0x0)).trans e0x0, (hb.cell (p := ⟨(wi.heap.size + 1), 3, none⟩) (World.block_lt_of_cell? _ _ e0x1)).trans e0x1⟩)
  have HZ0 := ahid (show ∀ wa wb, Below w0.heap.size w0 wa → LowGo W wa c S0 (s0.put [numI 1 xd xa 0]) wb → wb.cell? ⟨c.g, 0, none⟩ = some (.pointer (some ⟨c.pa, 0, none⟩)) ∧ wb.cell? ⟨(wi.heap.size + 1), 2, none⟩ = some (.int .i64 xd) ∧ wb.cell? ⟨(wi.heap.size + 1), 3, none⟩ = some (.int .i64 xa) from fun wa wb hb hg => by
    obtain ⟨S', h', o', -⟩ := hg
    exact ⟨h'.c0, box_keep hb o' (nb0 _ (by omega) (by omega)) e0x0, box_keep hb o' (nb0 _ (by omega) (by omega)) e0x1⟩)
  have HN0 := ahid (fun w' => num_any (op := 1) (rd := xd) (rs := xa) (n := 0) (by omega) (by omega) (by omega) w')
  have HB0 := ahid (show ∀ y ∈ [numI 1 xd xa 0], y.bd from fun y hy => by
    simp only [List.mem_cons, List.not_mem_nil, or_false] at hy
    subst hy; (unfold Ix.bd; simp only [numI, twoI]; omega))
  have HP0 := ahid (fun w' (hb : Below w0.heap.size w0 w') v (hv : InsIn w' v [numI 1 xd xa 0]) => low_put (h0.keepb hb) hv (by have := v0.1; first | omega | (simp only [List.length_cons, List.length_nil]; omega)))
  clear h0
  go_wp2_with fail
  rw [← hw0] at ⊢
  have Hq := ahid hw0
  clear hw0
  go_region_held3 (fun w' => w'.cell? ⟨c.g, 0, none⟩ = some (.pointer (some ⟨c.pa, 0, none⟩)) ∧ w'.cell? ⟨(wi.heap.size + 1), 2, none⟩ = some (.int .i64 xd) ∧ w'.cell? ⟨(wi.heap.size + 1), 3, none⟩ = some (.int .i64 xa)) (first | (with_reducible exact ⟨k0, e0x0, e0x1⟩) | (with_reducible exact HZ0.out _ _ (hb0x0.alloc le0x0 _) hg1) | (refine HK0.out _ ?_; go_grown; done))
    (first | (go_at_call 39; (with_reducible refine (HN0.out _).mono ?_); rintro e W0x0 ⟨rfl, hb0⟩; have hb0x0 : Below w0.heap.size w0 W0x0 := ((Below.refl w0.heap.size w0).drew).trans hb0; have le0x0 : w0.heap.size ≤ W0x0.heap.size := hb0x0.size; clear hb0)
           | (go_at_call 37; refine (HP0.out _ (hb0x0.alloc le0x0 _) _ (InsIn.one HB0.out W0x0)).mono ?_; rintro e w1 ⟨rfl, hg1⟩))
  obtain ⟨-, e1x0, e1x1⟩ := HZ0.out _ _ (hb0x0.alloc le0x0 _) hg1
  replace hg1 := hg1.behind (hb0x0.alloc le0x0 _)
  rw [← hs1] at hg1
  obtain ⟨S1, h1, o1, r1⟩ := hg1
  have z1 : w0.heap.size ≤ w1.heap.size := Nat.le_trans z0 o1.size
  have nb1 : ∀ b, wi.heap.size ≤ b → b < w0.heap.size → ¬ (S1 b ∨ b = c.g) := fun b g1 g2 g3 => by
    rcases g3 with g3 | g3
    · rcases r1 b g3 with g4 | g4
      · exact nb0 b g1 g2 (.inl g4)
      · omega
    · exact nb0 b g1 g2 (.inr g3)
  go_wp2_with fail
  go_returns
  exact ⟨rfl, LowGo.behind hbi (⟨S1, h1, o1, r1⟩)⟩
set_option maxRecDepth 100000 in
set_option maxHeartbeats 4000000 in
theorem op_print {W wi : World} {c : Mc} {S0 : Nat → Prop} {s0 : Lo} (h : LowAt W wi c S0 s0) {hp h32 sl : Int} {thr fns en bl : Value} {f : Nat} {leaf : Bool} (hmk : MkC c hp thr fns f leaf sl en bl h32) (hf : f < 9223372036854775808) (h3 : 0 ≤ h32 ∧ h32 < 4294967296) (hm : s0.many + 1 < 1000000) (hM : s0.M.length + 1 < 100000000) (hL : s0.L.length + 10 < 4294967296) {io id ia ib inn iff il1 il2 xk xt xd xa xb : Int} {pi px : Option Addr} {ni ci nx cx : Nat} (h2 : 0 ≤ xa ∧ xa < 32) :
    Calls Tryd.prog 61 #[.pointer (some ⟨c.g, 0, none⟩), .agg #[.int .u8 io, .int .i64 id, .int .i64 ia, .int .i64 ib, .int .u32 inn, .int .i64 iff, .slice pi ni ci, .int .i64 il1, .int .i64 il2], .agg #[.int .u8 xk, .int .i64 xt, .int .i64 xd, .int .i64 xa, .int .i64 xb, .slice px nx cx]] wi fun e w' => e = .returned (.tuple #[]) ∧ LowGo W wi c S0 (s0.put [twoI 35 0 xa 0]) w' := by
  have v0 : s0.le (s0.L.length + 0) (s0.M.length + 0) (s0.many + 0) := ⟨Nat.le_refl _, Nat.le_refl _, Nat.le_refl _⟩
  obtain ⟨s1, hs1⟩ : ∃ x, x = s0.put [twoI 35 0 xa 0] := ⟨_, rfl⟩
  have v1 : s1.le (s0.L.length + 1) (s0.M.length + 0) (s0.many + 0) := by rw [hs1]; exact (v0.put [twoI 35 0 xa 0]).mono (by first | omega | (simp only [List.length_cons, List.length_nil]; omega)) (by omega) (by omega)
  have hpost : (s0.put [twoI 35 0 xa 0]) = s1 := by rw [hs1]
  rw [hpost]
  clear hpost
  obtain ⟨w0, hw0⟩ : ∃ w0, w0 = ((wi.alloc (.cells #[.int .u8 io, .int .i64 id, .int .i64 ia, .int .i64 ib, .int .u32 inn, .int .i64 iff, .slice pi ni ci, .int .i64 il1, .int .i64 il2] 73)).alloc (.cells #[.int .u8 xk, .int .i64 xt, .int .i64 xd, .int .i64 xa, .int .i64 xb, .slice px nx cx] 41)) := ⟨_, rfl⟩
  have hbi : Below wi.heap.size wi w0 := by rw [hw0]; exact ((Below.refl _ wi).alloc (Nat.le_refl _) _).alloc (by simp [go_sem]) _
  have hz : w0.heap.size = wi.heap.size + 2 := by rw [hw0]; simp [go_sem]
  have z0 : w0.heap.size ≤ w0.heap.size := Nat.le_refl _
  have h0 := h.keepb hbi
  have e0x0 : w0.cell? ⟨(wi.heap.size + 1), 3, none⟩ = some (.int .i64 xa) := by rw [hw0]; simp [go_sem]
  have nb0 : ∀ b, wi.heap.size ≤ b → b < w0.heap.size → ¬ (S0 b ∨ b = c.g) := fun b g1 g2 g3 => by
    rcases g3 with g3 | g3
    · have := (h.lst.lo _ g3).2; omega
    · have := h.mkr.lt; omega
  clear h
  go_enter Tryd.func61, Tryd.ntmps61
  have k0 := h0.c0
  have HK0 := ahid (show ∀ w', Below w0.heap.size w0 w' → w'.cell? ⟨c.g, 0, none⟩ = some (.pointer (some ⟨c.pa, 0, none⟩)) ∧ w'.cell? ⟨(wi.heap.size + 1), 3, none⟩ = some (.int .i64 xa) from fun w' hb => ⟨(hb.cell (p := ⟨c.g, 0, none⟩) (World.block_lt_of_cell? _ _ k0)).trans k0, (hb.cell (p := ⟨(wi.heap.size + 1), 3, none⟩) (World.block_lt_of_cell? _ _ e0x0)).trans e0x0⟩)
  have HZ0 := ahid (show ∀ wa wb, Below w0.heap.size w0 wa → LowGo W wa c S0 (s0.put [twoI 35 0 xa 0]) wb → wb.cell? ⟨c.g, 0, none⟩ = some (.pointer (some ⟨c.pa, 0, none⟩)) ∧ wb.cell? ⟨(wi.heap.size + 1), 3, none⟩ = some (.int .i64 xa) from fun wa wb hb hg => by
    obtain ⟨S', h', o', -⟩ := hg
    exact ⟨h'.c0, box_keep hb o' (nb0 _ (by omega) (by omega)) e0x0⟩)
  have HN0 := ahid (fun w' => both_any (op := 35) (rd := 0) (a := xa) (b := 0) (by omega) (by omega) (by omega) w')
  have HB0 := ahid (show ∀ y ∈ [twoI 35 0 xa 0], y.bd from fun y hy => by
    simp only [List.mem_cons, List.not_mem_nil, or_false] at hy
    subst hy; (unfold Ix.bd; simp only [numI, twoI]; omega))
  have HP0 := ahid (fun w' (hb : Below w0.heap.size w0 w') v (hv : InsIn w' v [twoI 35 0 xa 0]) => low_put (h0.keepb hb) hv (by have := v0.1; first | omega | (simp only [List.length_cons, List.length_nil]; omega)))
  clear h0
  go_wp2_with fail
  rw [← hw0] at ⊢
  have Hq := ahid hw0
  clear hw0
  go_region_held3 (fun w' => w'.cell? ⟨c.g, 0, none⟩ = some (.pointer (some ⟨c.pa, 0, none⟩)) ∧ w'.cell? ⟨(wi.heap.size + 1), 3, none⟩ = some (.int .i64 xa)) (first | (with_reducible exact ⟨k0, e0x0⟩) | (with_reducible exact HZ0.out _ _ (hb0x0.alloc le0x0 _) hg1) | (refine HK0.out _ ?_; go_grown; done))
    (first | (go_at_call 38; (with_reducible refine (HN0.out _).mono ?_); rintro e W0x0 ⟨rfl, hb0⟩; have hb0x0 : Below w0.heap.size w0 W0x0 := ((Below.refl w0.heap.size w0).drew).trans hb0; have le0x0 : w0.heap.size ≤ W0x0.heap.size := hb0x0.size; clear hb0)
           | (go_at_call 37; refine (HP0.out _ (hb0x0.alloc le0x0 _) _ (InsIn.one HB0.out W0x0)).mono ?_; rintro e w1 ⟨rfl, hg1⟩))
  obtain ⟨-, e1x0⟩ := HZ0.out _ _ (hb0x0.alloc le0x0 _) hg1
  replace hg1 := hg1.behind (hb0x0.alloc le0x0 _)
  rw [← hs1] at hg1
  obtain ⟨S1, h1, o1, r1⟩ := hg1
  have z1 : w0.heap.size ≤ w1.heap.size := Nat.le_trans z0 o1.size
  have nb1 : ∀ b, wi.heap.size ≤ b → b < w0.heap.size → ¬ (S1 b ∨ b = c.g) := fun b g1 g2 g3 => by
    rcases g3 with g3 | g3
    · rcases r1 b g3 with g4 | g4
      · exact nb0 b g1 g2 (.inl g4)
      · omega
    · exact nb0 b g1 g2 (.inr g3)
  go_wp2_with fail
  go_returns
  exact ⟨rfl, LowGo.behind hbi (⟨S1, h1, o1, r1⟩)⟩
set_option maxRecDepth 100000 in
set_option maxHeartbeats 4000000 in
theorem op_yield {W wi : World} {c : Mc} {S0 : Nat → Prop} {s0 : Lo} (h : LowAt W wi c S0 s0) {hp h32 sl : Int} {thr fns en bl : Value} {f : Nat} {leaf : Bool} (hmk : MkC c hp thr fns f leaf sl en bl h32) (hf : f < 9223372036854775808) (h3 : 0 ≤ h32 ∧ h32 < 4294967296) (hm : s0.many + 1 < 1000000) (hM : s0.M.length + 1 < 100000000) (hL : s0.L.length + 10 < 4294967296) {io id ia ib inn iff il1 il2 xk xt xd xa xb : Int} {pi px : Option Addr} {ni ci nx cx : Nat}  :
    Calls Tryd.prog 62 #[.pointer (some ⟨c.g, 0, none⟩), .agg #[.int .u8 io, .int .i64 id, .int .i64 ia, .int .i64 ib, .int .u32 inn, .int .i64 iff, .slice pi ni ci, .int .i64 il1, .int .i64 il2], .agg #[.int .u8 xk, .int .i64 xt, .int .i64 xd, .int .i64 xa, .int .i64 xb, .slice px nx cx]] wi fun e w' => e = .returned (.tuple #[]) ∧ LowGo W wi c S0 (s0.put [numI 33 0 0 3]) w' := by
  have v0 : s0.le (s0.L.length + 0) (s0.M.length + 0) (s0.many + 0) := ⟨Nat.le_refl _, Nat.le_refl _, Nat.le_refl _⟩
  obtain ⟨s1, hs1⟩ : ∃ x, x = s0.put [numI 33 0 0 3] := ⟨_, rfl⟩
  have v1 : s1.le (s0.L.length + 1) (s0.M.length + 0) (s0.many + 0) := by rw [hs1]; exact (v0.put [numI 33 0 0 3]).mono (by first | omega | (simp only [List.length_cons, List.length_nil]; omega)) (by omega) (by omega)
  have hpost : (s0.put [numI 33 0 0 3]) = s1 := by rw [hs1]
  rw [hpost]
  clear hpost
  obtain ⟨w0, hw0⟩ : ∃ w0, w0 = ((wi.alloc (.cells #[.int .u8 io, .int .i64 id, .int .i64 ia, .int .i64 ib, .int .u32 inn, .int .i64 iff, .slice pi ni ci, .int .i64 il1, .int .i64 il2] 73)).alloc (.cells #[.int .u8 xk, .int .i64 xt, .int .i64 xd, .int .i64 xa, .int .i64 xb, .slice px nx cx] 41)) := ⟨_, rfl⟩
  have hbi : Below wi.heap.size wi w0 := by rw [hw0]; exact ((Below.refl _ wi).alloc (Nat.le_refl _) _).alloc (by simp [go_sem]) _
  have hz : w0.heap.size = wi.heap.size + 2 := by rw [hw0]; simp [go_sem]
  have z0 : w0.heap.size ≤ w0.heap.size := Nat.le_refl _
  have h0 := h.keepb hbi
  have nb0 : ∀ b, wi.heap.size ≤ b → b < w0.heap.size → ¬ (S0 b ∨ b = c.g) := fun b g1 g2 g3 => by
    rcases g3 with g3 | g3
    · have := (h.lst.lo _ g3).2; omega
    · have := h.mkr.lt; omega
  clear h
  go_enter Tryd.func62, Tryd.ntmps62
  have k0 := h0.c0
  have HK0 := ahid (show ∀ w', Below w0.heap.size w0 w' → w'.cell? ⟨c.g, 0, none⟩ = some (.pointer (some ⟨c.pa, 0, none⟩)) from fun w' hb => (hb.cell (p := ⟨c.g, 0, none⟩) (World.block_lt_of_cell? _ _ k0)).trans k0)
  have HZ0 := ahid (show ∀ wa wb, Below w0.heap.size w0 wa → LowGo W wa c S0 (s0.put [numI 33 0 0 3]) wb → wb.cell? ⟨c.g, 0, none⟩ = some (.pointer (some ⟨c.pa, 0, none⟩)) from fun wa wb hb hg => by
    obtain ⟨S', h', o', -⟩ := hg
    exact h'.c0)
  have HN0 := ahid (fun w' => num_any (op := 33) (rd := 0) (rs := 0) (n := 3) (by omega) (by omega) (by omega) w')
  have HB0 := ahid (show ∀ y ∈ [numI 33 0 0 3], y.bd from fun y hy => by
    simp only [List.mem_cons, List.not_mem_nil, or_false] at hy
    subst hy; (unfold Ix.bd; simp only [numI, twoI]; omega))
  have HP0 := ahid (fun w' (hb : Below w0.heap.size w0 w') v (hv : InsIn w' v [numI 33 0 0 3]) => low_put (h0.keepb hb) hv (by have := v0.1; first | omega | (simp only [List.length_cons, List.length_nil]; omega)))
  clear h0
  go_wp2_with fail
  rw [← hw0] at ⊢
  have Hq := ahid hw0
  clear hw0
  go_region_held3 (fun w' => w'.cell? ⟨c.g, 0, none⟩ = some (.pointer (some ⟨c.pa, 0, none⟩))) (first | (with_reducible exact k0) | (with_reducible exact HZ0.out _ _ (hb0x0.alloc le0x0 _) hg1) | (refine HK0.out _ ?_; go_grown; done))
    (first | (go_at_call 39; (with_reducible refine (HN0.out _).mono ?_); rintro e W0x0 ⟨rfl, hb0⟩; have hb0x0 : Below w0.heap.size w0 W0x0 := ((Below.refl w0.heap.size w0).drew).trans hb0; have le0x0 : w0.heap.size ≤ W0x0.heap.size := hb0x0.size; clear hb0)
           | (go_at_call 37; refine (HP0.out _ (hb0x0.alloc le0x0 _) _ (InsIn.one HB0.out W0x0)).mono ?_; rintro e w1 ⟨rfl, hg1⟩))
  replace hg1 := hg1.behind (hb0x0.alloc le0x0 _)
  rw [← hs1] at hg1
  obtain ⟨S1, h1, o1, r1⟩ := hg1
  have z1 : w0.heap.size ≤ w1.heap.size := Nat.le_trans z0 o1.size
  have nb1 : ∀ b, wi.heap.size ≤ b → b < w0.heap.size → ¬ (S1 b ∨ b = c.g) := fun b g1 g2 g3 => by
    rcases g3 with g3 | g3
    · rcases r1 b g3 with g4 | g4
      · exact nb0 b g1 g2 (.inl g4)
      · omega
    · exact nb0 b g1 g2 (.inr g3)
  go_wp2_with fail
  go_returns
  exact ⟨rfl, LowGo.behind hbi (⟨S1, h1, o1, r1⟩)⟩
set_option maxRecDepth 100000 in
set_option maxHeartbeats 4000000 in
theorem op_call {W wi : World} {c : Mc} {S0 : Nat → Prop} {s0 : Lo} (h : LowAt W wi c S0 s0) {hp h32 sl : Int} {thr fns en bl : Value} {f : Nat} {leaf : Bool} (hmk : MkC c hp thr fns f leaf sl en bl h32) (hf : f < 9223372036854775808) (h3 : 0 ≤ h32 ∧ h32 < 4294967296) (hm : s0.many + 1 < 1000000) (hM : s0.M.length + 1 < 100000000) (hL : s0.L.length + 10 < 4294967296) {io id ia ib inn iff il1 il2 xk xt xd xa xb : Int} {pi px : Option Addr} {ni ci nx cx : Nat} {n : Nat} (hn : n < 9223372036854775808) (hi : iff = n) :
    Calls Tryd.prog 60 #[.pointer (some ⟨c.g, 0, none⟩), .agg #[.int .u8 io, .int .i64 id, .int .i64 ia, .int .i64 ib, .int .u32 inn, .int .i64 iff, .slice pi ni ci, .int .i64 il1, .int .i64 il2], .agg #[.int .u8 xk, .int .i64 xt, .int .i64 xd, .int .i64 xa, .int .i64 xb, .slice px nx cx]] wi fun e w' => e = .returned (.tuple #[]) ∧ LowGo W wi c S0 (s0.call (fNameL n)) w' := by
  have v0 : s0.le (s0.L.length + 0) (s0.M.length + 0) (s0.many + 0) := ⟨Nat.le_refl _, Nat.le_refl _, Nat.le_refl _⟩
  obtain ⟨s1, hs1⟩ : ∃ x, x = s0.call (fNameL n) := ⟨_, rfl⟩
  have v1 : s1.le (s0.L.length + 1) (s0.M.length + 0) (s0.many + 0) := by rw [hs1]; exact (v0.call _).mono (by first | omega | (simp only [List.length_cons, List.length_nil]; omega)) (by omega) (by omega)
  have hpost : (s0.call (fNameL n)) = s1 := by rw [hs1]
  rw [hpost]
  clear hpost
  subst hi
  obtain ⟨w0, hw0⟩ : ∃ w0, w0 = ((wi.alloc (.cells #[.int .u8 io, .int .i64 id, .int .i64 ia, .int .i64 ib, .int .u32 inn, .int .i64 (n : Int), .slice pi ni ci, .int .i64 il1, .int .i64 il2] 73)).alloc (.cells #[.int .u8 xk, .int .i64 xt, .int .i64 xd, .int .i64 xa, .int .i64 xb, .slice px nx cx] 41)) := ⟨_, rfl⟩
  have hbi : Below wi.heap.size wi w0 := by rw [hw0]; exact ((Below.refl _ wi).alloc (Nat.le_refl _) _).alloc (by simp [go_sem]) _
  have hz : w0.heap.size = wi.heap.size + 2 := by rw [hw0]; simp [go_sem]
  have z0 : w0.heap.size ≤ w0.heap.size := Nat.le_refl _
  have h0 := h.keepb hbi
  have e0x0 : w0.cell? ⟨wi.heap.size, 5, none⟩ = some (.int .i64 n) := by rw [hw0]; simp [go_sem]
  have nb0 : ∀ b, wi.heap.size ≤ b → b < w0.heap.size → ¬ (S0 b ∨ b = c.g) := fun b g1 g2 g3 => by
    rcases g3 with g3 | g3
    · have := (h.lst.lo _ g3).2; omega
    · have := h.mkr.lt; omega
  clear h
  go_enter Tryd.func60, Tryd.ntmps60
  have k0 := h0.c0
  have HK0 := ahid (show ∀ w', Below w0.heap.size w0 w' → w'.cell? ⟨c.g, 0, none⟩ = some (.pointer (some ⟨c.pa, 0, none⟩)) ∧ w'.cell? ⟨wi.heap.size, 5, none⟩ = some (.int .i64 (n : Int)) from fun w' hb => ⟨(hb.cell (p := ⟨c.g, 0, none⟩) (World.block_lt_of_cell? _ _ k0)).trans k0, (hb.cell (p := ⟨wi.heap.size, 5, none⟩) (World.block_lt_of_cell? _ _ e0x0)).trans e0x0⟩)
  have HZ0 := ahid (show ∀ wa wb, Below w0.heap.size w0 wa → LowGo W wa c S0 (s0.call (fNameL n)) wb → wb.cell? ⟨c.g, 0, none⟩ = some (.pointer (some ⟨c.pa, 0, none⟩)) ∧ wb.cell? ⟨wi.heap.size, 5, none⟩ = some (.int .i64 (n : Int)) from fun wa wb hb hg => by
    obtain ⟨S', h', o', -⟩ := hg
    exact ⟨h'.c0, box_keep hb o' (nb0 _ (by omega) (by omega)) e0x0⟩)
  have HM0 := ahid (fun w' (hb : Below w0.heap.size w0 w') => low_name h0 hn hb)
  have HP0 := ahid (fun w' (hb : Below w0.heap.size w0 w') => low_call (h0.keepb hb) (nm := fNameL n) (fname_len _ hn) (by have := v0.1; first | omega | (simp only [List.length_cons, List.length_nil]; omega)))
  clear h0
  go_wp2_with fail
  rw [← hw0] at ⊢
  have Hq := ahid hw0
  clear hw0
  go_region_held3 (fun w' => w'.cell? ⟨c.g, 0, none⟩ = some (.pointer (some ⟨c.pa, 0, none⟩)) ∧ w'.cell? ⟨wi.heap.size, 5, none⟩ = some (.int .i64 (n : Int))) (first | (with_reducible exact ⟨k0, e0x0⟩) | (with_reducible exact HZ0.out _ _ hb0x0 hg1) | (refine HK0.out _ ?_; go_grown; done))
    (first | (go_at_call 25; (with_reducible refine (HM0.out _ ((Below.refl w0.heap.size w0).drew)).mono ?_); rintro e W0x0 ⟨rfl, hb0⟩; have hb0x0 : Below w0.heap.size w0 W0x0 := ((Below.refl w0.heap.size w0).drew).trans (hb0.mono (Nat.le_refl _)); have le0x0 : w0.heap.size ≤ W0x0.heap.size := hb0x0.size; clear hb0)
           | (go_at_call 36; (with_reducible refine (HP0.out _ hb0x0).mono ?_); rintro e w1 ⟨rfl, hg1⟩))
  obtain ⟨-, e1x0⟩ := HZ0.out _ _ hb0x0 hg1
  replace hg1 := hg1.behind hb0x0
  rw [← hs1] at hg1
  obtain ⟨S1, h1, o1, r1⟩ := hg1
  have z1 : w0.heap.size ≤ w1.heap.size := Nat.le_trans z0 o1.size
  have nb1 : ∀ b, wi.heap.size ≤ b → b < w0.heap.size → ¬ (S1 b ∨ b = c.g) := fun b g1 g2 g3 => by
    rcases g3 with g3 | g3
    · rcases r1 b g3 with g4 | g4
      · exact nb0 b g1 g2 (.inl g4)
      · omega
    · exact nb0 b g1 g2 (.inr g3)
  go_wp2_with fail
  go_returns
  exact ⟨rfl, LowGo.behind hbi (⟨S1, h1, o1, r1⟩)⟩
set_option maxRecDepth 100000 in
set_option maxHeartbeats 4000000 in
theorem op_jmp {W wi : World} {c : Mc} {S0 : Nat → Prop} {s0 : Lo} (h : LowAt W wi c S0 s0) {hp h32 sl : Int} {thr fns en bl : Value} {f : Nat} {leaf : Bool} (hmk : MkC c hp thr fns f leaf sl en bl h32) (hf : f < 9223372036854775808) (h3 : 0 ≤ h32 ∧ h32 < 4294967296) (hm : s0.many + 1 < 1000000) (hM : s0.M.length + 1 < 100000000) (hL : s0.L.length + 10 < 4294967296) {io id ia ib inn iff il1 il2 xk xt xd xa xb : Int} {pi px : Option Addr} {ni ci nx cx : Nat} {n : Nat} (hn : n < 9223372036854775808) (hi : il1 = n) :
    Calls Tryd.prog 63 #[.pointer (some ⟨c.g, 0, none⟩), .agg #[.int .u8 io, .int .i64 id, .int .i64 ia, .int .i64 ib, .int .u32 inn, .int .i64 iff, .slice pi ni ci, .int .i64 il1, .int .i64 il2], .agg #[.int .u8 xk, .int .i64 xt, .int .i64 xd, .int .i64 xa, .int .i64 xb, .slice px nx cx]] wi fun e w' => e = .returned (.tuple #[]) ∧ LowGo W wi c S0 (s0.jump 0 (bNameL f n)) w' := by
  have v0 : s0.le (s0.L.length + 0) (s0.M.length + 0) (s0.many + 0) := ⟨Nat.le_refl _, Nat.le_refl _, Nat.le_refl _⟩
  obtain ⟨s1, hs1⟩ : ∃ x, x = s0.jump 0 (bNameL f n) := ⟨_, rfl⟩
  have v1 : s1.le (s0.L.length + 1) (s0.M.length + 0) (s0.many + 0) := by rw [hs1]; exact (v0.jump _ _).mono (by first | omega | (simp only [List.length_cons, List.length_nil]; omega)) (by omega) (by omega)
  have hpost : (s0.jump 0 (bNameL f n)) = s1 := by rw [hs1]
  rw [hpost]
  clear hpost
  subst hi
  obtain ⟨w0, hw0⟩ : ∃ w0, w0 = ((wi.alloc (.cells #[.int .u8 io, .int .i64 id, .int .i64 ia, .int .i64 ib, .int .u32 inn, .int .i64 iff, .slice pi ni ci, .int .i64 (n : Int), .int .i64 il2] 73)).alloc (.cells #[.int .u8 xk, .int .i64 xt, .int .i64 xd, .int .i64 xa, .int .i64 xb, .slice px nx cx] 41)) := ⟨_, rfl⟩
  have hbi : Below wi.heap.size wi w0 := by rw [hw0]; exact ((Below.refl _ wi).alloc (Nat.le_refl _) _).alloc (by simp [go_sem]) _
  have hz : w0.heap.size = wi.heap.size + 2 := by rw [hw0]; simp [go_sem]
  have z0 : w0.heap.size ≤ w0.heap.size := Nat.le_refl _
  have h0 := h.keepb hbi
  have e0x0 : w0.cell? ⟨wi.heap.size, 7, none⟩ = some (.int .i64 (n : Int)) := by rw [hw0]; simp [go_sem]
  have nb0 : ∀ b, wi.heap.size ≤ b → b < w0.heap.size → ¬ (S0 b ∨ b = c.g) := fun b g1 g2 g3 => by
    rcases g3 with g3 | g3
    · have := (h.lst.lo _ g3).2; omega
    · have := h.mkr.lt; omega
  clear h
  go_enter Tryd.func63, Tryd.ntmps63
  have k0 := h0.c0
  have HK0 := ahid (show ∀ w', Below w0.heap.size w0 w' → w'.cell? ⟨c.g, 0, none⟩ = some (.pointer (some ⟨c.pa, 0, none⟩)) ∧ w'.cell? ⟨wi.heap.size, 7, none⟩ = some (.int .i64 (n : Int)) from fun w' hb => ⟨(hb.cell (p := ⟨c.g, 0, none⟩) (World.block_lt_of_cell? _ _ k0)).trans k0, (hb.cell (p := ⟨wi.heap.size, 7, none⟩) (World.block_lt_of_cell? _ _ e0x0)).trans e0x0⟩)
  have HZ0 := ahid (show ∀ wa wb, Below w0.heap.size w0 wa → LowGo W wa c S0 (s0.jump 0 (bNameL f n)) wb → wb.cell? ⟨c.g, 0, none⟩ = some (.pointer (some ⟨c.pa, 0, none⟩)) ∧ wb.cell? ⟨wi.heap.size, 7, none⟩ = some (.int .i64 (n : Int)) from fun wa wb hb hg => by
    obtain ⟨S', h', o', -⟩ := hg
    exact ⟨h'.c0, box_keep hb o' (nb0 _ (by omega) (by omega)) e0x0⟩)
  have HM0 := ahid (fun w' (hb : Below w0.heap.size w0 w') => low_block h0 hmk hf hn hb)
  have HP0 := ahid (fun w' (hb : Below w0.heap.size w0 w') => low_jump (h0.keepb hb) (q := 0) (nm := bNameL f n) (by omega) (by omega) (bname_len _ _ hf hn) (by have := v0.1; first | omega | (simp only [List.length_cons, List.length_nil]; omega)))
  clear h0
  go_wp2_with fail
  rw [← hw0] at ⊢
  have Hq := ahid hw0
  clear hw0
  go_region_held3 (fun w' => w'.cell? ⟨c.g, 0, none⟩ = some (.pointer (some ⟨c.pa, 0, none⟩)) ∧ w'.cell? ⟨wi.heap.size, 7, none⟩ = some (.int .i64 (n : Int))) (first | (with_reducible exact ⟨k0, e0x0⟩) | (with_reducible exact HZ0.out _ _ hb0x0 hg1) | (refine HK0.out _ ?_; go_grown; done))
    (first | (go_at_call 29; (with_reducible refine (HM0.out _ ((Below.refl w0.heap.size w0).drew)).mono ?_); rintro e W0x0 ⟨rfl, hb0⟩; have hb0x0 : Below w0.heap.size w0 W0x0 := ((Below.refl w0.heap.size w0).drew).trans (hb0.mono (Nat.le_refl _)); have le0x0 : w0.heap.size ≤ W0x0.heap.size := hb0x0.size; clear hb0)
           | (go_at_call 79; (with_reducible refine (HP0.out _ hb0x0).mono ?_); rintro e w1 ⟨rfl, hg1⟩))
  obtain ⟨-, e1x0⟩ := HZ0.out _ _ hb0x0 hg1
  replace hg1 := hg1.behind hb0x0
  rw [← hs1] at hg1
  obtain ⟨S1, h1, o1, r1⟩ := hg1
  have z1 : w0.heap.size ≤ w1.heap.size := Nat.le_trans z0 o1.size
  have nb1 : ∀ b, wi.heap.size ≤ b → b < w0.heap.size → ¬ (S1 b ∨ b = c.g) := fun b g1 g2 g3 => by
    rcases g3 with g3 | g3
    · rcases r1 b g3 with g4 | g4
      · exact nb0 b g1 g2 (.inl g4)
      · omega
    · exact nb0 b g1 g2 (.inr g3)
  go_wp2_with fail
  go_returns
  exact ⟨rfl, LowGo.behind hbi (⟨S1, h1, o1, r1⟩)⟩
set_option maxRecDepth 100000 in
set_option maxHeartbeats 4000000 in
theorem op_br {W wi : World} {c : Mc} {S0 : Nat → Prop} {s0 : Lo} (h : LowAt W wi c S0 s0) {hp h32 sl : Int} {thr fns en bl : Value} {f : Nat} {leaf : Bool} (hmk : MkC c hp thr fns f leaf sl en bl h32) (hf : f < 9223372036854775808) (h3 : 0 ≤ h32 ∧ h32 < 4294967296) (hm : s0.many + 1 < 1000000) (hM : s0.M.length + 1 < 100000000) (hL : s0.L.length + 10 < 4294967296) {io id ia ib inn iff il1 il2 xk xt xd xa xb : Int} {pi px : Option Addr} {ni ci nx cx : Nat} (h2 : 0 ≤ xa ∧ xa < 32) {n n2 : Nat} (hn : n < 9223372036854775808) (hi : il1 = n) (hn2 : n2 < 9223372036854775808) (hi2 : il2 = n2) :
    Calls Tryd.prog 64 #[.pointer (some ⟨c.g, 0, none⟩), .agg #[.int .u8 io, .int .i64 id, .int .i64 ia, .int .i64 ib, .int .u32 inn, .int .i64 iff, .slice pi ni ci, .int .i64 il1, .int .i64 il2], .agg #[.int .u8 xk, .int .i64 xt, .int .i64 xd, .int .i64 xa, .int .i64 xb, .slice px nx cx]] wi fun e w' => e = .returned (.tuple #[]) ∧ LowGo W wi c S0 (((s0.put [numI 16 0 xa 0]).jump 2 (bNameL f n)).jump 0 (bNameL f n2)) w' := by
  have v0 : s0.le (s0.L.length + 0) (s0.M.length + 0) (s0.many + 0) := ⟨Nat.le_refl _, Nat.le_refl _, Nat.le_refl _⟩
  obtain ⟨s1, hs1⟩ : ∃ x, x = s0.put [numI 16 0 xa 0] := ⟨_, rfl⟩
  have v1 : s1.le (s0.L.length + 1) (s0.M.length + 0) (s0.many + 0) := by rw [hs1]; exact (v0.put [numI 16 0 xa 0]).mono (by first | omega | (simp only [List.length_cons, List.length_nil]; omega)) (by omega) (by omega)
  obtain ⟨s2, hs2⟩ : ∃ x, x = s1.jump 2 (bNameL f n) := ⟨_, rfl⟩
  have v2 : s2.le (s0.L.length + 2) (s0.M.length + 0) (s0.many + 0) := by rw [hs2]; exact (v1.jump _ _).mono (by first | omega | (simp only [List.length_cons, List.length_nil]; omega)) (by omega) (by omega)
  obtain ⟨s3, hs3⟩ : ∃ x, x = s2.jump 0 (bNameL f n2) := ⟨_, rfl⟩
  have v3 : s3.le (s0.L.length + 3) (s0.M.length + 0) (s0.many + 0) := by rw [hs3]; exact (v2.jump _ _).mono (by first | omega | (simp only [List.length_cons, List.length_nil]; omega)) (by omega) (by omega)
  have hpost : (((s0.put [numI 16 0 xa 0]).jump 2 (bNameL f n)).jump 0 (bNameL f n2)) = s3 := by rw [hs3, hs2, hs1]
  rw [hpost]
  clear hpost
  subst hi hi2
  obtain ⟨w0, hw0⟩ : ∃ w0, w0 = ((wi.alloc (.cells #[.int .u8 io, .int .i64 id, .int .i64 ia, .int .i64 ib, .int .u32 inn, .int .i64 iff, .slice pi ni ci, .int .i64 (n : Int), .int .i64 (n2 : Int)] 73)).alloc (.cells #[.int .u8 xk, .int .i64 xt, .int .i64 xd, .int .i64 xa, .int .i64 xb, .slice px nx cx] 41)) := ⟨_, rfl⟩
  have hbi : Below wi.heap.size wi w0 := by rw [hw0]; exact ((Below.refl _ wi).alloc (Nat.le_refl _) _).alloc (by simp [go_sem]) _
  have hz : w0.heap.size = wi.heap.size + 2 := by rw [hw0]; simp [go_sem]
  have z0 : w0.heap.size ≤ w0.heap.size := Nat.le_refl _
  have h0 := h.keepb hbi
  have e0x0 : w0.cell? ⟨(wi.heap.size + 1), 3, none⟩ = some (.int .i64 xa) := by rw [hw0]; simp [go_sem]
  have e0x1 : w0.cell? ⟨wi.heap.size, 7, none⟩ = some (.int .i64 (n : Int)) := by rw [hw0]; simp [go_sem]
  have e0x2 : w0.cell? ⟨wi.heap.size, 8, none⟩ = some (.int .i64 (n2 : Int)) := by rw [hw0]; simp [go_sem]
  have nb0 : ∀ b, wi.heap.size ≤ b → b < w0.heap.size → ¬ (S0 b ∨ b = c.g) := fun b g1 g2 g3 => by
    rcases g3 with g3 | g3
    · have := (h.lst.lo _ g3).2; omega
    · have := h.mkr.lt; omega
  clear h
  go_enter Tryd.func64, Tryd.ntmps64
  have k0 := h0.c0
  have HK0 := ahid (show ∀ w', Below w0.heap.size w0 w' → w'.cell? ⟨c.g, 0, none⟩ = some (.pointer (some ⟨c.pa, 0, none⟩)) ∧ w'.cell? ⟨(wi.heap.size + 1), 3, none⟩ = some (.int .i64 xa) ∧ w'.cell? ⟨wi.heap.size, 7, none⟩ = some (.int .i64 (n : Int)) ∧ w'.cell? ⟨wi.heap.size, 8, none⟩ = some (.int .i64 (n2 : Int)) from fun w' hb => ⟨(hb.cell (p := ⟨c.g, 0, none⟩) (World.block_lt_of_cell? _ _ k0)).trans k0, (hb.cell (p := ⟨(wi.heap.size + 1), 3, none⟩) (World.block_lt_of_cell? _ _ e0x0)).trans e0x0, (hb.cell (p := ⟨wi.heap.size, 7, none⟩) (World.block_lt_of_cell? _ _ e0x1)).trans e0x1, (hb.cell (p := ⟨wi.heap.size, 8, none⟩) (World.block_lt_of_cell? _ _ e0x2)).trans e0x2⟩)
  have HZ0 := ahid (show ∀ wa wb, Below w0.heap.size w0 wa → LowGo W wa c S0 (s0.put [numI 16 0 xa 0]) wb → wb.cell? ⟨c.g, 0, none⟩ = some (.pointer (some ⟨c.pa, 0, none⟩)) ∧ wb.cell? ⟨(wi.heap.size + 1), 3, none⟩ = some (.int .i64 xa) ∧ wb.cell? ⟨wi.heap.size, 7, none⟩ = some (.int .i64 (n : Int)) ∧ wb.cell? ⟨wi.heap.size, 8, none⟩ = some (.int .i64 (n2 : Int)) from fun wa wb hb hg => by
    obtain ⟨S', h', o', -⟩ := hg
    exact ⟨h'.c0, box_keep hb o' (nb0 _ (by omega) (by omega)) e0x0, box_keep hb o' (nb0 _ (by omega) (by omega)) e0x1, box_keep hb o' (nb0 _ (by omega) (by omega)) e0x2⟩)
  have HN0 := ahid (fun w' => num_any (op := 16) (rd := 0) (rs := xa) (n := 0) (by omega) (by omega) (by omega) w')
  have HB0 := ahid (show ∀ y ∈ [numI 16 0 xa 0], y.bd from fun y hy => by
    simp only [List.mem_cons, List.not_mem_nil, or_false] at hy
    subst hy; (unfold Ix.bd; simp only [numI, twoI]; omega))
  have HP0 := ahid (fun w' (hb : Below w0.heap.size w0 w') v (hv : InsIn w' v [numI 16 0 xa 0]) => low_put (h0.keepb hb) hv (by have := v0.1; first | omega | (simp only [List.length_cons, List.length_nil]; omega)))
  clear h0
  go_wp2_with fail
  rw [← hw0] at ⊢
  have Hq := ahid hw0
  clear hw0
  go_region_held3 (fun w' => w'.cell? ⟨c.g, 0, none⟩ = some (.pointer (some ⟨c.pa, 0, none⟩)) ∧ w'.cell? ⟨(wi.heap.size + 1), 3, none⟩ = some (.int .i64 xa) ∧ w'.cell? ⟨wi.heap.size, 7, none⟩ = some (.int .i64 (n : Int)) ∧ w'.cell? ⟨wi.heap.size, 8, none⟩ = some (.int .i64 (n2 : Int))) (first | (with_reducible exact ⟨k0, e0x0, e0x1, e0x2⟩) | (with_reducible exact HZ0.out _ _ (hb0x0.alloc le0x0 _) hg1) | (refine HK0.out _ ?_; go_grown; done))
    (first | (go_at_call 39; (with_reducible refine (HN0.out _).mono ?_); rintro e W0x0 ⟨rfl, hb0⟩; have hb0x0 : Below w0.heap.size w0 W0x0 := ((Below.refl w0.heap.size w0).drew).trans hb0; have le0x0 : w0.heap.size ≤ W0x0.heap.size := hb0x0.size; clear hb0)
           | (go_at_call 37; refine (HP0.out _ (hb0x0.alloc le0x0 _) _ (InsIn.one HB0.out W0x0)).mono ?_; rintro e w1 ⟨rfl, hg1⟩))
  obtain ⟨-, e1x0, e1x1, e1x2⟩ := HZ0.out _ _ (hb0x0.alloc le0x0 _) hg1
  replace hg1 := hg1.behind (hb0x0.alloc le0x0 _)
  rw [← hs1] at hg1
  obtain ⟨S1, h1, o1, r1⟩ := hg1
  have z1 : w0.heap.size ≤ w1.heap.size := Nat.le_trans z0 o1.size
  have nb1 : ∀ b, wi.heap.size ≤ b → b < w0.heap.size → ¬ (S1 b ∨ b = c.g) := fun b g1 g2 g3 => by
    rcases g3 with g3 | g3
    · rcases r1 b g3 with g4 | g4
      · exact nb0 b g1 g2 (.inl g4)
      · omega
    · exact nb0 b g1 g2 (.inr g3)
  have k1 := h1.c0
  have HK1 := ahid (show ∀ w', Below w1.heap.size w1 w' → w'.cell? ⟨c.g, 0, none⟩ = some (.pointer (some ⟨c.pa, 0, none⟩)) ∧ w'.cell? ⟨(wi.heap.size + 1), 3, none⟩ = some (.int .i64 xa) ∧ w'.cell? ⟨wi.heap.size, 7, none⟩ = some (.int .i64 (n : Int)) ∧ w'.cell? ⟨wi.heap.size, 8, none⟩ = some (.int .i64 (n2 : Int)) from fun w' hb => ⟨(hb.cell (p := ⟨c.g, 0, none⟩) (World.block_lt_of_cell? _ _ k1)).trans k1, (hb.cell (p := ⟨(wi.heap.size + 1), 3, none⟩) (World.block_lt_of_cell? _ _ e1x0)).trans e1x0, (hb.cell (p := ⟨wi.heap.size, 7, none⟩) (World.block_lt_of_cell? _ _ e1x1)).trans e1x1, (hb.cell (p := ⟨wi.heap.size, 8, none⟩) (World.block_lt_of_cell? _ _ e1x2)).trans e1x2⟩)
  have HZ1 := ahid (show ∀ wa wb, Below w1.heap.size w1 wa → LowGo W wa c S1 (s1.jump 2 (bNameL f n)) wb → wb.cell? ⟨c.g, 0, none⟩ = some (.pointer (some ⟨c.pa, 0, none⟩)) ∧ wb.cell? ⟨(wi.heap.size + 1), 3, none⟩ = some (.int .i64 xa) ∧ wb.cell? ⟨wi.heap.size, 7, none⟩ = some (.int .i64 (n : Int)) ∧ wb.cell? ⟨wi.heap.size, 8, none⟩ = some (.int .i64 (n2 : Int)) from fun wa wb hb hg => by
    obtain ⟨S', h', o', -⟩ := hg
    exact ⟨h'.c0, box_keep hb o' (nb1 _ (by omega) (by omega)) e1x0, box_keep hb o' (nb1 _ (by omega) (by omega)) e1x1, box_keep hb o' (nb1 _ (by omega) (by omega)) e1x2⟩)
  have HM1 := ahid (fun w' (hb : Below w1.heap.size w1 w') => low_block h1 hmk hf hn hb)
  have HP1 := ahid (fun w' (hb : Below w1.heap.size w1 w') => low_jump (h1.keepb hb) (q := 2) (nm := bNameL f n) (by omega) (by omega) (bname_len _ _ hf hn) (by have := v1.1; first | omega | (simp only [List.length_cons, List.length_nil]; omega)))
  clear h1
  go_wp2_with fail
  go_region_held3 (fun w' => w'.cell? ⟨c.g, 0, none⟩ = some (.pointer (some ⟨c.pa, 0, none⟩)) ∧ w'.cell? ⟨(wi.heap.size + 1), 3, none⟩ = some (.int .i64 xa) ∧ w'.cell? ⟨wi.heap.size, 7, none⟩ = some (.int .i64 (n : Int)) ∧ w'.cell? ⟨wi.heap.size, 8, none⟩ = some (.int .i64 (n2 : Int))) (first | (with_reducible exact ⟨k1, e1x0, e1x1, e1x2⟩) | (with_reducible exact HZ1.out _ _ hb1x0 hg2) | (refine HK1.out _ ?_; go_grown; done))
    (first | (go_at_call 29; (with_reducible refine (HM1.out _ ((Below.refl w1.heap.size w1).drew)).mono ?_); rintro e W1x0 ⟨rfl, hb0⟩; have hb1x0 : Below w1.heap.size w1 W1x0 := ((Below.refl w1.heap.size w1).drew).trans (hb0.mono (Nat.le_refl _)); have le1x0 : w1.heap.size ≤ W1x0.heap.size := hb1x0.size; clear hb0)
           | (go_at_call 79; (with_reducible refine (HP1.out _ hb1x0).mono ?_); rintro e w2 ⟨rfl, hg2⟩))
  obtain ⟨-, e2x0, e2x1, e2x2⟩ := HZ1.out _ _ hb1x0 hg2
  replace hg2 := hg2.behind hb1x0
  rw [← hs2] at hg2
  obtain ⟨S2, h2, o2, r2⟩ := hg2
  have z2 : w0.heap.size ≤ w2.heap.size := Nat.le_trans z1 o2.size
  have nb2 : ∀ b, wi.heap.size ≤ b → b < w0.heap.size → ¬ (S2 b ∨ b = c.g) := fun b g1 g2 g3 => by
    rcases g3 with g3 | g3
    · rcases r2 b g3 with g4 | g4
      · exact nb1 b g1 g2 (.inl g4)
      · omega
    · exact nb1 b g1 g2 (.inr g3)
  have k2 := h2.c0
  have HK2 := ahid (show ∀ w', Below w2.heap.size w2 w' → w'.cell? ⟨c.g, 0, none⟩ = some (.pointer (some ⟨c.pa, 0, none⟩)) ∧ w'.cell? ⟨(wi.heap.size + 1), 3, none⟩ = some (.int .i64 xa) ∧ w'.cell? ⟨wi.heap.size, 7, none⟩ = some (.int .i64 (n : Int)) ∧ w'.cell? ⟨wi.heap.size, 8, none⟩ = some (.int .i64 (n2 : Int)) from fun w' hb => ⟨(hb.cell (p := ⟨c.g, 0, none⟩) (World.block_lt_of_cell? _ _ k2)).trans k2, (hb.cell (p := ⟨(wi.heap.size + 1), 3, none⟩) (World.block_lt_of_cell? _ _ e2x0)).trans e2x0, (hb.cell (p := ⟨wi.heap.size, 7, none⟩) (World.block_lt_of_cell? _ _ e2x1)).trans e2x1, (hb.cell (p := ⟨wi.heap.size, 8, none⟩) (World.block_lt_of_cell? _ _ e2x2)).trans e2x2⟩)
  have HZ2 := ahid (show ∀ wa wb, Below w2.heap.size w2 wa → LowGo W wa c S2 (s2.jump 0 (bNameL f n2)) wb → wb.cell? ⟨c.g, 0, none⟩ = some (.pointer (some ⟨c.pa, 0, none⟩)) ∧ wb.cell? ⟨(wi.heap.size + 1), 3, none⟩ = some (.int .i64 xa) ∧ wb.cell? ⟨wi.heap.size, 7, none⟩ = some (.int .i64 (n : Int)) ∧ wb.cell? ⟨wi.heap.size, 8, none⟩ = some (.int .i64 (n2 : Int)) from fun wa wb hb hg => by
    obtain ⟨S', h', o', -⟩ := hg
    exact ⟨h'.c0, box_keep hb o' (nb2 _ (by omega) (by omega)) e2x0, box_keep hb o' (nb2 _ (by omega) (by omega)) e2x1, box_keep hb o' (nb2 _ (by omega) (by omega)) e2x2⟩)
  have HM2 := ahid (fun w' (hb : Below w2.heap.size w2 w') => low_block h2 hmk hf hn2 hb)
  have HP2 := ahid (fun w' (hb : Below w2.heap.size w2 w') => low_jump (h2.keepb hb) (q := 0) (nm := bNameL f n2) (by omega) (by omega) (bname_len _ _ hf hn2) (by have := v2.1; first | omega | (simp only [List.length_cons, List.length_nil]; omega)))
  clear h2
  go_wp2_with fail
  go_region_held3 (fun w' => w'.cell? ⟨c.g, 0, none⟩ = some (.pointer (some ⟨c.pa, 0, none⟩)) ∧ w'.cell? ⟨(wi.heap.size + 1), 3, none⟩ = some (.int .i64 xa) ∧ w'.cell? ⟨wi.heap.size, 7, none⟩ = some (.int .i64 (n : Int)) ∧ w'.cell? ⟨wi.heap.size, 8, none⟩ = some (.int .i64 (n2 : Int))) (first | (with_reducible exact ⟨k2, e2x0, e2x1, e2x2⟩) | (with_reducible exact HZ2.out _ _ hb2x0 hg3) | (refine HK2.out _ ?_; go_grown; done))
    (first | (go_at_call 29; (with_reducible refine (HM2.out _ ((Below.refl w2.heap.size w2).drew)).mono ?_); rintro e W2x0 ⟨rfl, hb0⟩; have hb2x0 : Below w2.heap.size w2 W2x0 := ((Below.refl w2.heap.size w2).drew).trans (hb0.mono (Nat.le_refl _)); have le2x0 : w2.heap.size ≤ W2x0.heap.size := hb2x0.size; clear hb0)
           | (go_at_call 79; (with_reducible refine (HP2.out _ hb2x0).mono ?_); rintro e w3 ⟨rfl, hg3⟩))
  obtain ⟨-, e3x0, e3x1, e3x2⟩ := HZ2.out _ _ hb2x0 hg3
  replace hg3 := hg3.behind hb2x0
  rw [← hs3] at hg3
  obtain ⟨S3, h3, o3, r3⟩ := hg3
  have z3 : w0.heap.size ≤ w3.heap.size := Nat.le_trans z2 o3.size
  have nb3 : ∀ b, wi.heap.size ≤ b → b < w0.heap.size → ¬ (S3 b ∨ b = c.g) := fun b g1 g2 g3 => by
    rcases g3 with g3 | g3
    · rcases r3 b g3 with g4 | g4
      · exact nb2 b g1 g2 (.inl g4)
      · omega
    · exact nb2 b g1 g2 (.inr g3)
  go_wp2_with fail
  go_returns
  exact ⟨rfl, LowGo.behind hbi (LowGo.then o1 r1 (LowGo.then o2 r2 (⟨S3, h3, o3, r3⟩)))⟩
set_option maxRecDepth 100000 in
set_option maxHeartbeats 4000000 in
theorem op_ret_leaf {W wi : World} {c : Mc} {S0 : Nat → Prop} {s0 : Lo} (h : LowAt W wi c S0 s0) {hp h32 sl : Int} {thr fns en bl : Value} {f : Nat} (hmk : MkC c hp thr fns f true sl en bl h32) (hf : f < 9223372036854775808) (h3 : 0 ≤ h32 ∧ h32 < 4294967296) (hm : s0.many + 1 < 1000000) (hM : s0.M.length + 1 < 100000000) (hL : s0.L.length + 10 < 4294967296) {io id ia ib inn iff il1 il2 xk xt xd xa xb : Int} {pi px : Option Addr} {ni ci nx cx : Nat}  :
    Calls Tryd.prog 65 #[.pointer (some ⟨c.g, 0, none⟩), .agg #[.int .u8 io, .int .i64 id, .int .i64 ia, .int .i64 ib, .int .u32 inn, .int .i64 iff, .slice pi ni ci, .int .i64 il1, .int .i64 il2], .agg #[.int .u8 xk, .int .i64 xt, .int .i64 xd, .int .i64 xa, .int .i64 xb, .slice px nx cx]] wi fun e w' => e = .returned (.tuple #[]) ∧ LowGo W wi c S0 (s0.put [numI 19 0 15 4]) w' := by
  have v0 : s0.le (s0.L.length + 0) (s0.M.length + 0) (s0.many + 0) := ⟨Nat.le_refl _, Nat.le_refl _, Nat.le_refl _⟩
  obtain ⟨s1, hs1⟩ : ∃ x, x = s0.put [numI 19 0 15 4] := ⟨_, rfl⟩
  have v1 : s1.le (s0.L.length + 1) (s0.M.length + 0) (s0.many + 0) := by rw [hs1]; exact (v0.put [numI 19 0 15 4]).mono (by first | omega | (simp only [List.length_cons, List.length_nil]; omega)) (by omega) (by omega)
  have hpost : (s0.put [numI 19 0 15 4]) = s1 := by rw [hs1]
  rw [hpost]
  clear hpost
  obtain ⟨w0, hw0⟩ : ∃ w0, w0 = ((wi.alloc (.cells #[.int .u8 io, .int .i64 id, .int .i64 ia, .int .i64 ib, .int .u32 inn, .int .i64 iff, .slice pi ni ci, .int .i64 il1, .int .i64 il2] 73)).alloc (.cells #[.int .u8 xk, .int .i64 xt, .int .i64 xd, .int .i64 xa, .int .i64 xb, .slice px nx cx] 41)) := ⟨_, rfl⟩
  have hbi : Below wi.heap.size wi w0 := by rw [hw0]; exact ((Below.refl _ wi).alloc (Nat.le_refl _) _).alloc (by simp [go_sem]) _
  have hz : w0.heap.size = wi.heap.size + 2 := by rw [hw0]; simp [go_sem]
  have z0 : w0.heap.size ≤ w0.heap.size := Nat.le_refl _
  have h0 := h.keepb hbi
  have nb0 : ∀ b, wi.heap.size ≤ b → b < w0.heap.size → ¬ (S0 b ∨ b = c.g) := fun b g1 g2 g3 => by
    rcases g3 with g3 | g3
    · have := (h.lst.lo _ g3).2; omega
    · have := h.mkr.lt; omega
  have kl : ((wi.alloc (.cells #[.int .u8 io, .int .i64 id, .int .i64 ia, .int .i64 ib, .int .u32 inn, .int .i64 iff, .slice pi ni ci, .int .i64 il1, .int .i64 il2] 73)).alloc (.cells #[.int .u8 xk, .int .i64 xt, .int .i64 xd, .int .i64 xa, .int .i64 xb, .slice px nx cx] 41)).cell? ⟨c.g, 5, none⟩ = some (.bool true) := by rw [← hw0]; exact h0.cell (hmk.c5 _)
  clear h
  go_enter Tryd.func65, Tryd.ntmps65
  have k0 := h0.c0
  have HK0 := ahid (show ∀ w', Below w0.heap.size w0 w' → w'.cell? ⟨c.g, 0, none⟩ = some (.pointer (some ⟨c.pa, 0, none⟩)) from fun w' hb => (hb.cell (p := ⟨c.g, 0, none⟩) (World.block_lt_of_cell? _ _ k0)).trans k0)
  have HZ0 := ahid (show ∀ wa wb, Below w0.heap.size w0 wa → LowGo W wa c S0 (s0.put [numI 19 0 15 4]) wb → wb.cell? ⟨c.g, 0, none⟩ = some (.pointer (some ⟨c.pa, 0, none⟩)) from fun wa wb hb hg => by
    obtain ⟨S', h', o', -⟩ := hg
    exact h'.c0)
  have HN0 := ahid (fun w' => num_any (op := 19) (rd := 0) (rs := 15) (n := 4) (by omega) (by omega) (by omega) w')
  have HB0 := ahid (show ∀ y ∈ [numI 19 0 15 4], y.bd from fun y hy => by
    simp only [List.mem_cons, List.not_mem_nil, or_false] at hy
    subst hy; (unfold Ix.bd; simp only [numI, twoI]; omega))
  have HP0 := ahid (fun w' (hb : Below w0.heap.size w0 w') v (hv : InsIn w' v [numI 19 0 15 4]) => low_put (h0.keepb hb) hv (by have := v0.1; first | omega | (simp only [List.length_cons, List.length_nil]; omega)))
  clear h0
  go_wp2_with fail
  rw [← hw0] at ⊢
  have Hq := ahid hw0
  clear hw0
  go_region_held3 (fun w' => w'.cell? ⟨c.g, 0, none⟩ = some (.pointer (some ⟨c.pa, 0, none⟩))) (first | (with_reducible exact k0) | (with_reducible exact HZ0.out _ _ (hb0x0.alloc le0x0 _) hg1) | (refine HK0.out _ ?_; go_grown; done))
    (first | (go_at_call 39; (with_reducible refine (HN0.out _).mono ?_); rintro e W0x0 ⟨rfl, hb0⟩; have hb0x0 : Below w0.heap.size w0 W0x0 := ((Below.refl w0.heap.size w0).drew).trans hb0; have le0x0 : w0.heap.size ≤ W0x0.heap.size := hb0x0.size; clear hb0)
           | (go_at_call 37; refine (HP0.out _ (hb0x0.alloc le0x0 _) _ (InsIn.one HB0.out W0x0)).mono ?_; rintro e w1 ⟨rfl, hg1⟩))
  replace hg1 := hg1.behind (hb0x0.alloc le0x0 _)
  rw [← hs1] at hg1
  obtain ⟨S1, h1, o1, r1⟩ := hg1
  have z1 : w0.heap.size ≤ w1.heap.size := Nat.le_trans z0 o1.size
  have nb1 : ∀ b, wi.heap.size ≤ b → b < w0.heap.size → ¬ (S1 b ∨ b = c.g) := fun b g1 g2 g3 => by
    rcases g3 with g3 | g3
    · rcases r1 b g3 with g4 | g4
      · exact nb0 b g1 g2 (.inl g4)
      · omega
    · exact nb0 b g1 g2 (.inr g3)
  go_wp2_with fail
  go_returns
  exact ⟨rfl, LowGo.behind hbi (⟨S1, h1, o1, r1⟩)⟩
set_option maxRecDepth 100000 in
set_option maxHeartbeats 4000000 in
theorem op_ret {W wi : World} {c : Mc} {S0 : Nat → Prop} {s0 : Lo} (h : LowAt W wi c S0 s0) {hp h32 sl : Int} {thr fns en bl : Value} {f : Nat} (hmk : MkC c hp thr fns f false sl en bl h32) (hf : f < 9223372036854775808) (h3 : 0 ≤ h32 ∧ h32 < 4294967296) (hm : s0.many + 1 < 1000000) (hM : s0.M.length + 1 < 100000000) (hL : s0.L.length + 10 < 4294967296) {io id ia ib inn iff il1 il2 xk xt xd xa xb : Int} {pi px : Option Addr} {ni ci nx cx : Nat}  :
    Calls Tryd.prog 65 #[.pointer (some ⟨c.g, 0, none⟩), .agg #[.int .u8 io, .int .i64 id, .int .i64 ia, .int .i64 ib, .int .u32 inn, .int .i64 iff, .slice pi ni ci, .int .i64 il1, .int .i64 il2], .agg #[.int .u8 xk, .int .i64 xt, .int .i64 xd, .int .i64 xa, .int .i64 xb, .slice px nx cx]] wi fun e w' => e = .returned (.tuple #[]) ∧ LowGo W wi c S0 ((s0.put [twoI 21 0 0 0]).put [numI 19 0 15 4]) w' := by
  have v0 : s0.le (s0.L.length + 0) (s0.M.length + 0) (s0.many + 0) := ⟨Nat.le_refl _, Nat.le_refl _, Nat.le_refl _⟩
  obtain ⟨s1, hs1⟩ : ∃ x, x = s0.put [twoI 21 0 0 0] := ⟨_, rfl⟩
  have v1 : s1.le (s0.L.length + 1) (s0.M.length + 0) (s0.many + 0) := by rw [hs1]; exact (v0.put [twoI 21 0 0 0]).mono (by first | omega | (simp only [List.length_cons, List.length_nil]; omega)) (by omega) (by omega)
  obtain ⟨s2, hs2⟩ : ∃ x, x = s1.put [numI 19 0 15 4] := ⟨_, rfl⟩
  have v2 : s2.le (s0.L.length + 2) (s0.M.length + 0) (s0.many + 0) := by rw [hs2]; exact (v1.put [numI 19 0 15 4]).mono (by first | omega | (simp only [List.length_cons, List.length_nil]; omega)) (by omega) (by omega)
  have hpost : ((s0.put [twoI 21 0 0 0]).put [numI 19 0 15 4]) = s2 := by rw [hs2, hs1]
  rw [hpost]
  clear hpost
  obtain ⟨w0, hw0⟩ : ∃ w0, w0 = ((wi.alloc (.cells #[.int .u8 io, .int .i64 id, .int .i64 ia, .int .i64 ib, .int .u32 inn, .int .i64 iff, .slice pi ni ci, .int .i64 il1, .int .i64 il2] 73)).alloc (.cells #[.int .u8 xk, .int .i64 xt, .int .i64 xd, .int .i64 xa, .int .i64 xb, .slice px nx cx] 41)) := ⟨_, rfl⟩
  have hbi : Below wi.heap.size wi w0 := by rw [hw0]; exact ((Below.refl _ wi).alloc (Nat.le_refl _) _).alloc (by simp [go_sem]) _
  have hz : w0.heap.size = wi.heap.size + 2 := by rw [hw0]; simp [go_sem]
  have z0 : w0.heap.size ≤ w0.heap.size := Nat.le_refl _
  have h0 := h.keepb hbi
  have nb0 : ∀ b, wi.heap.size ≤ b → b < w0.heap.size → ¬ (S0 b ∨ b = c.g) := fun b g1 g2 g3 => by
    rcases g3 with g3 | g3
    · have := (h.lst.lo _ g3).2; omega
    · have := h.mkr.lt; omega
  have kl : ((wi.alloc (.cells #[.int .u8 io, .int .i64 id, .int .i64 ia, .int .i64 ib, .int .u32 inn, .int .i64 iff, .slice pi ni ci, .int .i64 il1, .int .i64 il2] 73)).alloc (.cells #[.int .u8 xk, .int .i64 xt, .int .i64 xd, .int .i64 xa, .int .i64 xb, .slice px nx cx] 41)).cell? ⟨c.g, 5, none⟩ = some (.bool false) := by rw [← hw0]; exact h0.cell (hmk.c5 _)
  have kx : ((wi.alloc (.cells #[.int .u8 io, .int .i64 id, .int .i64 ia, .int .i64 ib, .int .u32 inn, .int .i64 iff, .slice pi ni ci, .int .i64 il1, .int .i64 il2] 73)).alloc (.cells #[.int .u8 xk, .int .i64 xt, .int .i64 xd, .int .i64 xa, .int .i64 xb, .slice px nx cx] 41)).cell? ⟨c.g, 0, none⟩ = some (.pointer (some ⟨c.pa, 0, none⟩)) := by rw [← hw0]; exact h0.c0
  clear h
  go_enter Tryd.func65, Tryd.ntmps65
  have k0 := h0.c0
  have HK0 := ahid (show ∀ w', Below w0.heap.size w0 w' → w'.cell? ⟨c.g, 0, none⟩ = some (.pointer (some ⟨c.pa, 0, none⟩)) from fun w' hb => (hb.cell (p := ⟨c.g, 0, none⟩) (World.block_lt_of_cell? _ _ k0)).trans k0)
  have HZ0 := ahid (show ∀ wa wb, Below w0.heap.size w0 wa → LowGo W wa c S0 (s0.put [twoI 21 0 0 0]) wb → wb.cell? ⟨c.g, 0, none⟩ = some (.pointer (some ⟨c.pa, 0, none⟩)) from fun wa wb hb hg => by
    obtain ⟨S', h', o', -⟩ := hg
    exact h'.c0)
  have HB0 := ahid (show ∀ y ∈ [twoI 21 0 0 0], y.bd from fun y hy => by
    simp only [List.mem_cons, List.not_mem_nil, or_false] at hy
    subst hy; (unfold Ix.bd; simp only [numI, twoI]; omega))
  have HP0 := ahid (fun w' (hb : Below w0.heap.size w0 w') v (hv : InsIn w' v [twoI 21 0 0 0]) => low_put (h0.keepb hb) hv (by have := v0.1; first | omega | (simp only [List.length_cons, List.length_nil]; omega)))
  clear h0
  go_wp2_with fail
  rw [← hw0] at ⊢
  have Hq := ahid hw0
  clear hw0
  rw [show wi.heap.size + 1 + 1 = w0.heap.size by omega]
  have HX : Calls Tryd.prog 37 #[.pointer (some ⟨c.pa, 0, none⟩), .slice (some ⟨w0.heap.size, 0, none⟩) 1 1] (w0.alloc (.cells #[.int .u8 21, .int .u8 0, .int .u8 0, .int .u8 0, .bool false, .int .i32 0] 50)) _ := HP0.out _ ((Below.refl w0.heap.size w0).alloc (Nat.le_refl _) _) _ (InsIn.one HB0.out w0)
  clear kx kl
  refine HX.mono ?_
  rintro e w1 ⟨rfl, hg1⟩
  replace hg1 := hg1.behind ((Below.refl w0.heap.size w0).alloc (Nat.le_refl _) _)
  rw [← hs1] at hg1
  obtain ⟨S1, h1, o1, r1⟩ := hg1
  have z1 : w0.heap.size ≤ w1.heap.size := Nat.le_trans z0 o1.size
  have nb1 : ∀ b, wi.heap.size ≤ b → b < w0.heap.size → ¬ (S1 b ∨ b = c.g) := fun b g1 g2 g3 => by
    rcases g3 with g3 | g3
    · rcases r1 b g3 with g4 | g4
      · exact nb0 b g1 g2 (.inl g4)
      · omega
    · exact nb0 b g1 g2 (.inr g3)
  have k1 := h1.c0
  have HK1 := ahid (show ∀ w', Below w1.heap.size w1 w' → w'.cell? ⟨c.g, 0, none⟩ = some (.pointer (some ⟨c.pa, 0, none⟩)) from fun w' hb => (hb.cell (p := ⟨c.g, 0, none⟩) (World.block_lt_of_cell? _ _ k1)).trans k1)
  have HZ1 := ahid (show ∀ wa wb, Below w1.heap.size w1 wa → LowGo W wa c S1 (s1.put [numI 19 0 15 4]) wb → wb.cell? ⟨c.g, 0, none⟩ = some (.pointer (some ⟨c.pa, 0, none⟩)) from fun wa wb hb hg => by
    obtain ⟨S', h', o', -⟩ := hg
    exact h'.c0)
  have HN1 := ahid (fun w' => num_any (op := 19) (rd := 0) (rs := 15) (n := 4) (by omega) (by omega) (by omega) w')
  have HB1 := ahid (show ∀ y ∈ [numI 19 0 15 4], y.bd from fun y hy => by
    simp only [List.mem_cons, List.not_mem_nil, or_false] at hy
    subst hy; (unfold Ix.bd; simp only [numI, twoI]; omega))
  have HP1 := ahid (fun w' (hb : Below w1.heap.size w1 w') v (hv : InsIn w' v [numI 19 0 15 4]) => low_put (h1.keepb hb) hv (by have := v1.1; first | omega | (simp only [List.length_cons, List.length_nil]; omega)))
  clear h1
  go_wp2_with fail
  go_region_held3 (fun w' => w'.cell? ⟨c.g, 0, none⟩ = some (.pointer (some ⟨c.pa, 0, none⟩))) (first | (with_reducible exact k1) | (with_reducible exact HZ1.out _ _ (hb1x0.alloc le1x0 _) hg2) | (refine HK1.out _ ?_; go_grown; done))
    (first | (go_at_call 39; (with_reducible refine (HN1.out _).mono ?_); rintro e W1x0 ⟨rfl, hb0⟩; have hb1x0 : Below w1.heap.size w1 W1x0 := ((Below.refl w1.heap.size w1).drew).trans hb0; have le1x0 : w1.heap.size ≤ W1x0.heap.size := hb1x0.size; clear hb0)
           | (go_at_call 37; refine (HP1.out _ (hb1x0.alloc le1x0 _) _ (InsIn.one HB1.out W1x0)).mono ?_; rintro e w2 ⟨rfl, hg2⟩))
  replace hg2 := hg2.behind (hb1x0.alloc le1x0 _)
  rw [← hs2] at hg2
  obtain ⟨S2, h2, o2, r2⟩ := hg2
  have z2 : w0.heap.size ≤ w2.heap.size := Nat.le_trans z1 o2.size
  have nb2 : ∀ b, wi.heap.size ≤ b → b < w0.heap.size → ¬ (S2 b ∨ b = c.g) := fun b g1 g2 g3 => by
    rcases g3 with g3 | g3
    · rcases r2 b g3 with g4 | g4
      · exact nb1 b g1 g2 (.inl g4)
      · omega
    · exact nb1 b g1 g2 (.inr g3)
  go_wp2_with fail
  go_returns
  exact ⟨rfl, LowGo.behind hbi (LowGo.then o1 r1 (⟨S2, h2, o2, r2⟩))⟩
set_option maxRecDepth 100000 in
set_option maxHeartbeats 4000000 in
theorem op_load {W wi : World} {c : Mc} {S0 : Nat → Prop} {s0 : Lo} (h : LowAt W wi c S0 s0) {hp h32 sl : Int} {thr fns en bl : Value} {f : Nat} {leaf : Bool} (hmk : MkC c hp thr fns f leaf sl en bl h32) (hf : f < 9223372036854775808) (h3 : 0 ≤ h32 ∧ h32 < 4294967296) (hm : s0.many + 1 < 1000000) (hM : s0.M.length + 1 < 100000000) (hL : s0.L.length + 10 < 4294967296) {io id ia ib inn iff il1 il2 xk xt xd xa xb : Int} {pi px : Option Addr} {ni ci nx cx : Nat} (h1 : 0 ≤ xd ∧ xd < 32) (h2 : 0 ≤ xa ∧ xa < 32) :
    Calls Tryd.prog 58 #[.pointer (some ⟨c.g, 0, none⟩), .agg #[.int .u8 io, .int .i64 id, .int .i64 ia, .int .i64 ib, .int .u32 inn, .int .i64 iff, .slice pi ni ci, .int .i64 il1, .int .i64 il2], .agg #[.int .u8 xk, .int .i64 xt, .int .i64 xd, .int .i64 xa, .int .i64 xb, .slice px nx cx]] wi fun e w' => e = .returned (.tuple #[]) ∧ LowGo W wi c S0 (s0.word f (hp % 4294967296) h32 22 xa xd) w' := by
  obtain ⟨w0, hw0⟩ : ∃ w0, w0 = ((wi.alloc (.cells #[.int .u8 io, .int .i64 id, .int .i64 ia, .int .i64 ib, .int .u32 inn, .int .i64 iff, .slice pi ni ci, .int .i64 il1, .int .i64 il2] 73)).alloc (.cells #[.int .u8 xk, .int .i64 xt, .int .i64 xd, .int .i64 xa, .int .i64 xb, .slice px nx cx] 41)) := ⟨_, rfl⟩
  have hbi : Below wi.heap.size wi w0 := by rw [hw0]; exact ((Below.refl _ wi).alloc (Nat.le_refl _) _).alloc (by simp [go_sem]) _
  have HW := ahid (word_any (h.keepb hbi) hmk hf (op := 22) (at' := xa) (r := xd) (by omega) h2 h1 h3 hm hM hL)
  rw [hw0] at HW
  clear h
  go_enter Tryd.func58, Tryd.ntmps58
  go_wp2_with fail
  refine HW.out.mono ?_
  rintro e w1 ⟨rfl, hg⟩
  go_wp2_with fail
  go_returns
  rw [← hw0] at hg
  exact ⟨rfl, LowGo.behind hbi hg⟩
set_option maxRecDepth 100000 in
set_option maxHeartbeats 4000000 in
theorem op_store {W wi : World} {c : Mc} {S0 : Nat → Prop} {s0 : Lo} (h : LowAt W wi c S0 s0) {hp h32 sl : Int} {thr fns en bl : Value} {f : Nat} {leaf : Bool} (hmk : MkC c hp thr fns f leaf sl en bl h32) (hf : f < 9223372036854775808) (h3 : 0 ≤ h32 ∧ h32 < 4294967296) (hm : s0.many + 1 < 1000000) (hM : s0.M.length + 1 < 100000000) (hL : s0.L.length + 10 < 4294967296) {io id ia ib inn iff il1 il2 xk xt xd xa xb : Int} {pi px : Option Addr} {ni ci nx cx : Nat} (h1 : 0 ≤ xb ∧ xb < 32) (h2 : 0 ≤ xa ∧ xa < 32) :
    Calls Tryd.prog 59 #[.pointer (some ⟨c.g, 0, none⟩), .agg #[.int .u8 io, .int .i64 id, .int .i64 ia, .int .i64 ib, .int .u32 inn, .int .i64 iff, .slice pi ni ci, .int .i64 il1, .int .i64 il2], .agg #[.int .u8 xk, .int .i64 xt, .int .i64 xd, .int .i64 xa, .int .i64 xb, .slice px nx cx]] wi fun e w' => e = .returned (.tuple #[]) ∧ LowGo W wi c S0 (s0.word f (hp % 4294967296) h32 23 xa xb) w' := by
  obtain ⟨w0, hw0⟩ : ∃ w0, w0 = ((wi.alloc (.cells #[.int .u8 io, .int .i64 id, .int .i64 ia, .int .i64 ib, .int .u32 inn, .int .i64 iff, .slice pi ni ci, .int .i64 il1, .int .i64 il2] 73)).alloc (.cells #[.int .u8 xk, .int .i64 xt, .int .i64 xd, .int .i64 xa, .int .i64 xb, .slice px nx cx] 41)) := ⟨_, rfl⟩
  have hbi : Below wi.heap.size wi w0 := by rw [hw0]; exact ((Below.refl _ wi).alloc (Nat.le_refl _) _).alloc (by simp [go_sem]) _
  have HW := ahid (word_any (h.keepb hbi) hmk hf (op := 23) (at' := xa) (r := xb) (by omega) h2 h1 h3 hm hM hL)
  rw [hw0] at HW
  clear h
  go_enter Tryd.func59, Tryd.ntmps59
  go_wp2_with fail
  refine HW.out.mono ?_
  rintro e w1 ⟨rfl, hg⟩
  go_wp2_with fail
  go_returns
  rw [← hw0] at hg
  exact ⟨rfl, LowGo.behind hbi hg⟩
end Go.Proofs.YtfbbodaapkfbdaaDoor
/- The walks of slices.ContainsFunc with lower's functions. -/
namespace Go.Proofs.YtfbbodaapkfbdaaDoor
open Go.RowKit
set_option linter.unusedVariables false
set_option linter.unusedSimpArgs false
theorem lret_val {a b : Value} (h : a = b) : Ending.returned a = .returned b := by rw [h]
/-- A row opened for a walk: hidden facts on its place and its things. -/
theorem RowIn.lhids {α : Type} {At : World → Nat → Nat → α → Prop} {size bytes : Nat} {w : World} {v : Value} {l : List α} (h : RowIn At size bytes w v l) :
    ∃ p c b o, v = .slice p l.length c ∧ l.length * bytes ≤ 140737488352000 ∧ Hid ((0 < l.length → p = some ⟨b, o, none⟩) ∧ ∀ (k : Nat) (x : α), l[k]? = some x → At w b (o + k * size) x) := by
  obtain ⟨h1, p, c, b, o, h2, ⟨h3, _⟩, h4⟩ := h
  exact ⟨p, c, b, o, h2, h1, ahid ⟨h3, h4⟩⟩
theorem AcAt.val {w : World} {b o : Nat} {x : Acx} (h : AcAt w b o x) : ∃ p cap, w.cell? ⟨b, o + 5, none⟩ = some (.slice p x.args.length cap) ∧ AcV w (.agg #[.int .u8 x.kind, .int .i64 x.at', .int .i64 x.d, .int .i64 x.a, .int .i64 x.b, .slice p x.args.length cap]) x := by
  obtain ⟨v, h1, h2⟩ := h.c5
  obtain ⟨p, cap, rfl⟩ := h2.shape
  exact ⟨p, cap, h1, p, cap, rfl, h2, h.bd⟩
def badReg (r : Int) : Bool := !decide (0 ≤ r ∧ r < 32)
theorem may1_any (r : Int) (w : World) : Calls Tryd.prog 77 #[.int .i64 r] w fun e w' => e = .returned (.bool (badReg r)) ∧ w = w' := by
  have HR := reg_any r true w
  have e : (!decide (regP r (true = true))) = badReg r := by
    unfold badReg regP; simp
  generalize decide (regP r (true = true)) = q at HR e
  replace HR := ahid HR
  have HE := ahid e
  clear e
  go_enter Tryd.func77, Tryd.ntmps77
  go_wp2_with fail
  refine HR.out.mono ?_
  rintro e1 w1 ⟨rfl, rfl⟩
  go_wp2_with fail
  go_ret
  exact ⟨lret_val (by rw [← HE.out]; rfl), rfl⟩
set_option maxHeartbeats 1000000 in
theorem index_reg (w : World) (v : Value) (l : List Int) (h : IntsIn w v l) :
    Calls Tryd.prog 86 #[v, .func (.func 77) #[] #[]] w fun e w' => (∃ i : Int, e = .returned (.int .i64 i) ∧ (0 ≤ i ↔ ∃ y ∈ l, badReg y = true)) ∧ w = w' := by
  obtain ⟨p, c, b, o, rfl, hl, H⟩ := h.lhids
  clear h
  go_enter Tryd.func86, Tryd.ntmps86
  go_wp2_with fail
  go_loop [8] (fun i => ∃ k : Nat, k ≤ l.length ∧ i = .int .i64 k ∧ ∀ y ∈ l.take k, badReg y = false) (fun i => l.length - (intOf i).toNat)
  case atStart => exact ⟨0, Nat.zero_le _, rfl, by simp⟩
  case round =>
    obtain ⟨k, hk, rfl, hf⟩ := hrel
    have HF := ahid hf
    clear hf
    by_cases hlt : k < l.length
    · obtain rfl := H.out.1 (by omega)
      have c1 := (H.out.2 k l[k] (List.getElem?_eq_getElem hlt)).1
      have HT := ahid (List.take_succ_eq_append_getElem hlt)
      have HM := ahid (List.getElem_mem hlt)
      rw [Nat.mul_one] at c1
      generalize l[k] = y at c1 HT HM
      cases hq : badReg y with
      | true =>
        go_wp2_with (go_at_call 77; refine (may1_any y _).mono ?_; rintro e w' ⟨rfl, rfl⟩; rw [hq])
        go_ret
        exact ⟨⟨k, rfl, ⟨fun _ => ⟨y, HM.out, hq⟩, fun _ => by omega⟩⟩, rfl⟩
      | false =>
        go_wp2_with (go_at_call 77; refine (may1_any y _).mono ?_; rintro e w' ⟨rfl, rfl⟩; rw [hq])
        go_round
        case rel => exact ⟨k + 1, by omega, by go_num, fun z hz => by
          rw [HT.out] at hz
          rcases List.mem_append.1 hz with h | h
          · exact HF.out z h
          · simp at h; rw [h]; exact hq⟩
        case measure => simp [intOf]; omega
    · go_wp2_with fail
      go_ret
      have h1 := HF.out
      rw [List.take_of_length_le (by omega)] at h1
      exact ⟨⟨-1, rfl, ⟨fun h => by omega, fun ⟨y, hy, hn⟩ => by have := h1 y hy; rw [this] at hn; cases hn⟩⟩, rfl⟩
theorem contains_reg (w : World) (v : Value) (l : List Int) (h : IntsIn w v l) :
    Calls Tryd.prog 76 #[v, .func (.func 77) #[] #[]] w fun e w' => e = .returned (.bool (l.any badReg)) ∧ w = w' := by
  have HC := ahid (index_reg w v l h)
  have HB : Hid (∀ i : Int, (0 ≤ i ↔ ∃ y ∈ l, badReg y = true) → decide (0 ≤ i) = l.any badReg) := ahid fun i hi => by
    rw [Bool.eq_iff_iff]
    simp [hi]
  obtain ⟨p, c, rfl⟩ := h.shape
  clear h
  go_enter Tryd.func76, Tryd.ntmps76
  go_wp2_with fail
  refine HC.out.mono ?_
  rintro e w' ⟨⟨i, rfl, hi⟩, rfl⟩
  have HI := ahid (HB.out i hi)
  clear hi HB
  go_wp2_with fail
  go_ret
  exact ⟨lret_val (by rw [← HI.out]; rfl), rfl⟩
set_option maxHeartbeats 1000000 in
theorem index_ac1 (w : World) (v : Value) (l : List Acx) (h : AcsIn w v l) (P : Acx → Bool) {m1 : Nat} (HF : ∀ (k : Nat) (x : Acx), l[k]? = some x → ∀ (w' : World) (u : Value), Below w.heap.size w w' → AcV w' u x → Calls Tryd.prog 48 #[u, .pointer (some ⟨m1, 0, none⟩)] w' fun e w2 => e = .returned (.bool (P x)) ∧ Below w'.heap.size w' w2) :
    Calls Tryd.prog 73 #[v, .func (.func 48) #[] #[.pointer (some ⟨m1, 0, none⟩)]] w fun e w' => (∃ i : Int, e = .returned (.int .i64 i) ∧ (0 ≤ i ↔ ∃ y ∈ l, P y = true)) ∧ Below w.heap.size w w' := by
  obtain ⟨p, c, b, o, rfl, hl, H⟩ := h.lhids
  have HG := ahid HF
  clear h HF
  go_enter Tryd.func73, Tryd.ntmps73
  go_wp2_with fail
  go_loopw [8] (fun i wr => ∃ k : Nat, k ≤ l.length ∧ i = .int .i64 k ∧ (∀ y ∈ l.take k, P y = false) ∧ Below w.heap.size w wr) (fun i _ => l.length - (intOf i).toNat)
  case atStart => exact ⟨0, Nat.zero_le _, rfl, by simp, Below.refl _ _⟩
  case round =>
    obtain ⟨k, hk, rfl, hf, hbw⟩ := hrel
    have HF := ahid hf
    have HBW := ahid hbw
    clear hf hbw
    by_cases hlt : k < l.length
    · obtain rfl := H.out.1 (by omega)
      have hx := List.getElem?_eq_getElem hlt
      have ha := (H.out.2 k l[k] hx).keep HBW.out
      have HT := ahid (List.take_succ_eq_append_getElem hlt)
      have HM := ahid (List.getElem_mem hlt)
      obtain ⟨pp, cp, c5, hv⟩ := ha.val
      have HC := ahid (HG.out k l[k] hx wr _ HBW.out hv)
      obtain ⟨c0, c1, c2, c3, c4, -, -⟩ := ha
      clear hx hv
      generalize l[k] = y at *
      obtain ⟨yk, yt, yd, ya, yb, yr⟩ := y
      simp only at c0 c1 c2 c3 c4 c5 HC
      generalize yr.length = nr at *
      cases hq : P ⟨yk, yt, yd, ya, yb, yr⟩ with
      | true =>
        rw [hq] at HC
        go_wp2_with (go_at_call 48; refine HC.out.mono ?_; rintro e w' ⟨rfl, hb2⟩)
        go_ret
        exact ⟨⟨k, rfl, ⟨fun _ => ⟨_, HM.out, hq⟩, fun _ => by omega⟩⟩, HBW.out.trans (hb2.mono HBW.out.size)⟩
      | false =>
        rw [hq] at HC
        go_wp2_with (go_at_call 48; refine HC.out.mono ?_; rintro e w' ⟨rfl, hb2⟩)
        go_round
        case rel => exact ⟨k + 1, by omega, by go_num, fun z hz => by
          rw [HT.out] at hz
          rcases List.mem_append.1 hz with h | h
          · exact HF.out z h
          · simp at h; rw [h]; exact hq, HBW.out.trans (hb2.mono HBW.out.size)⟩
        case measure => simp [intOf]; omega
    · go_wp2_with fail
      go_ret
      have h1 := HF.out
      rw [List.take_of_length_le (by omega)] at h1
      exact ⟨⟨-1, rfl, ⟨fun h => by omega, fun ⟨y, hy, hn⟩ => by have := h1 y hy; rw [this] at hn; cases hn⟩⟩, HBW.out⟩
theorem contains_ac1 (w : World) (v : Value) (l : List Acx) (h : AcsIn w v l) (P : Acx → Bool) {m1 : Nat} (HF : ∀ (k : Nat) (x : Acx), l[k]? = some x → ∀ (w' : World) (u : Value), Below w.heap.size w w' → AcV w' u x → Calls Tryd.prog 48 #[u, .pointer (some ⟨m1, 0, none⟩)] w' fun e w2 => e = .returned (.bool (P x)) ∧ Below w'.heap.size w' w2) :
    Calls Tryd.prog 47 #[v, .func (.func 48) #[] #[.pointer (some ⟨m1, 0, none⟩)]] w fun e w' => e = .returned (.bool (l.any P)) ∧ Below w.heap.size w w' := by
  have HC := ahid (index_ac1 w v l h P HF)
  have HB : Hid (∀ i : Int, (0 ≤ i ↔ ∃ y ∈ l, P y = true) → decide (0 ≤ i) = l.any P) := ahid fun i hi => by
    rw [Bool.eq_iff_iff]
    simp [hi]
  obtain ⟨p, c, rfl⟩ := h.shape
  clear h HF
  go_enter Tryd.func47, Tryd.ntmps47
  go_wp2_with fail
  refine HC.out.mono ?_
  rintro e w' ⟨⟨i, rfl, hi⟩, hb⟩
  have HI := ahid (HB.out i hi)
  clear hi HB
  go_wp2_with fail
  go_ret
  exact ⟨lret_val (by rw [← HI.out]; rfl), hb⟩
set_option maxHeartbeats 1000000 in
theorem index_ac2 (w : World) (v : Value) (l : List Acx) (h : AcsIn w v l) (P : Acx → Bool) {m1 m2 : Nat} (HF : ∀ (k : Nat) (x : Acx), l[k]? = some x → ∀ (w' : World) (u : Value), Below w.heap.size w w' → AcV w' u x → Calls Tryd.prog 50 #[u, .pointer (some ⟨m1, 0, none⟩), .pointer (some ⟨m2, 0, none⟩)] w' fun e w2 => e = .returned (.bool (P x)) ∧ Below w'.heap.size w' w2) :
    Calls Tryd.prog 73 #[v, .func (.func 50) #[] #[.pointer (some ⟨m1, 0, none⟩), .pointer (some ⟨m2, 0, none⟩)]] w fun e w' => (∃ i : Int, e = .returned (.int .i64 i) ∧ (0 ≤ i ↔ ∃ y ∈ l, P y = true)) ∧ Below w.heap.size w w' := by
  obtain ⟨p, c, b, o, rfl, hl, H⟩ := h.lhids
  have HG := ahid HF
  clear h HF
  go_enter Tryd.func73, Tryd.ntmps73
  go_wp2_with fail
  go_loopw [8] (fun i wr => ∃ k : Nat, k ≤ l.length ∧ i = .int .i64 k ∧ (∀ y ∈ l.take k, P y = false) ∧ Below w.heap.size w wr) (fun i _ => l.length - (intOf i).toNat)
  case atStart => exact ⟨0, Nat.zero_le _, rfl, by simp, Below.refl _ _⟩
  case round =>
    obtain ⟨k, hk, rfl, hf, hbw⟩ := hrel
    have HF := ahid hf
    have HBW := ahid hbw
    clear hf hbw
    by_cases hlt : k < l.length
    · obtain rfl := H.out.1 (by omega)
      have hx := List.getElem?_eq_getElem hlt
      have ha := (H.out.2 k l[k] hx).keep HBW.out
      have HT := ahid (List.take_succ_eq_append_getElem hlt)
      have HM := ahid (List.getElem_mem hlt)
      obtain ⟨pp, cp, c5, hv⟩ := ha.val
      have HC := ahid (HG.out k l[k] hx wr _ HBW.out hv)
      obtain ⟨c0, c1, c2, c3, c4, -, -⟩ := ha
      clear hx hv
      generalize l[k] = y at *
      obtain ⟨yk, yt, yd, ya, yb, yr⟩ := y
      simp only at c0 c1 c2 c3 c4 c5 HC
      generalize yr.length = nr at *
      cases hq : P ⟨yk, yt, yd, ya, yb, yr⟩ with
      | true =>
        rw [hq] at HC
        go_wp2_with (go_at_call 50; refine HC.out.mono ?_; rintro e w' ⟨rfl, hb2⟩)
        go_ret
        exact ⟨⟨k, rfl, ⟨fun _ => ⟨_, HM.out, hq⟩, fun _ => by omega⟩⟩, HBW.out.trans (hb2.mono HBW.out.size)⟩
      | false =>
        rw [hq] at HC
        go_wp2_with (go_at_call 50; refine HC.out.mono ?_; rintro e w' ⟨rfl, hb2⟩)
        go_round
        case rel => exact ⟨k + 1, by omega, by go_num, fun z hz => by
          rw [HT.out] at hz
          rcases List.mem_append.1 hz with h | h
          · exact HF.out z h
          · simp at h; rw [h]; exact hq, HBW.out.trans (hb2.mono HBW.out.size)⟩
        case measure => simp [intOf]; omega
    · go_wp2_with fail
      go_ret
      have h1 := HF.out
      rw [List.take_of_length_le (by omega)] at h1
      exact ⟨⟨-1, rfl, ⟨fun h => by omega, fun ⟨y, hy, hn⟩ => by have := h1 y hy; rw [this] at hn; cases hn⟩⟩, HBW.out⟩
theorem contains_ac2 (w : World) (v : Value) (l : List Acx) (h : AcsIn w v l) (P : Acx → Bool) {m1 m2 : Nat} (HF : ∀ (k : Nat) (x : Acx), l[k]? = some x → ∀ (w' : World) (u : Value), Below w.heap.size w w' → AcV w' u x → Calls Tryd.prog 50 #[u, .pointer (some ⟨m1, 0, none⟩), .pointer (some ⟨m2, 0, none⟩)] w' fun e w2 => e = .returned (.bool (P x)) ∧ Below w'.heap.size w' w2) :
    Calls Tryd.prog 47 #[v, .func (.func 50) #[] #[.pointer (some ⟨m1, 0, none⟩), .pointer (some ⟨m2, 0, none⟩)]] w fun e w' => e = .returned (.bool (l.any P)) ∧ Below w.heap.size w w' := by
  have HC := ahid (index_ac2 w v l h P HF)
  have HB : Hid (∀ i : Int, (0 ≤ i ↔ ∃ y ∈ l, P y = true) → decide (0 ≤ i) = l.any P) := ahid fun i hi => by
    rw [Bool.eq_iff_iff]
    simp [hi]
  obtain ⟨p, c, rfl⟩ := h.shape
  clear h HF
  go_enter Tryd.func47, Tryd.ntmps47
  go_wp2_with fail
  refine HC.out.mono ?_
  rintro e w' ⟨⟨i, rfl, hi⟩, hb⟩
  have HI := ahid (HB.out i hi)
  clear hi HB
  go_wp2_with fail
  go_ret
  exact ⟨lret_val (by rw [← HI.out]; rfl), hb⟩
end Go.Proofs.YtfbbodaapkfbdaaDoor
