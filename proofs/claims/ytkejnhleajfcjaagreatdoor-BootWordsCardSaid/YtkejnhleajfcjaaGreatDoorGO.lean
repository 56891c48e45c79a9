/- Several texts in one: BootMake, BootOnce, BootSlow. -/
import Derived.Test.YtkejnhleajfcjaaGreatDoorGN
import Derived.Deep.Cut
import Derived.Deep.OwnRows
import Derived.Tactics
import Derived.Tactics2
import Derived.Defers
import Derived.Laws.Pointers
import Derived.Laws.LoneSync
import Derived.RegionTactic
import Derived.RegionCalls
import Derived.ChangeAlike
/- Walk of the package boot: a runtime is made. -/
namespace Go.Proofs.YtkejnhleajfcjaaGreatDoor
open Go.RowKit
set_option linter.unusedVariables false
set_option linter.unusedSimpArgs false
theorem lk_of {s : Bs} {x : List UInt8} (l : List (List UInt8)) (h : names s.M = l) (hx : x ∉ l) : look s.M x = none := look_names (by rw [h]; exact hx)
theorem names_len (s : Bs) (l : List (List UInt8)) (h : names s.M = l) : s.M.length = l.length := by
  have := congrArg List.length h
  simpa [names] using this
theorem look_mem {M : List (List UInt8 × Int)} {nm : List UInt8} {t : Int} (h : look M nm = some t) : ∃ e ∈ M, e.2 = t := by
  unfold look at h
  rw [Option.map_eq_some_iff] at h
  obtain ⟨e, he, ht⟩ := h
  exact ⟨e, List.mem_of_find?_eq_some he, ht⟩
structure BootIs (nw : Nat) : Prop where
  e : wordsE (Bs.boot nw).M 0 (Bs.boot nw).L = 0
  m : ∀ nm t, look (Bs.boot nw).M nm = some t → 0 ≤ t ∧ t < 4294967296
  l : (bootW nw).length ≤ 386
  w : ∀ x ∈ bootW nw, 0 ≤ x ∧ x < 4294967296
  n : 128 < bootN nw ∧ bootN nw < (bootW nw).length
theorem boot_is {nw : Nat} (h2 : 2 ≤ nw) (h32 : nw ≤ 32) : BootIs nw := by
  have h := boot_fine h2 h32
  unfold bootFine at h
  simp only [Bool.and_eq_true, decide_eq_true_eq, List.all_eq_true] at h
  obtain ⟨⟨⟨⟨a, b⟩, c⟩, d⟩, e, f⟩ := h
  refine ⟨a, fun nm t ht => ?_, c, d, by omega, f⟩
  obtain ⟨x, hx, rfl⟩ := look_mem ht
  have := b x hx
  omega
theorem boot_is7 {nw : Nat} (h : BootIs nw) {s7 : Bs} (hb : Bs.boot nw = s7) : wordsE s7.M 0 s7.L = 0 ∧ wordsL s7.M 0 s7.L = bootW nw ∧ (∀ nm t, look s7.M nm = some t → 0 ≤ t ∧ t < 4294967296) ∧ atN s7.M ⟨nmStart.toArray⟩ = bootN nw := by
  subst hb
  exact ⟨h.e, rfl, h.m, rfl⟩
theorem boot_eq (nw : Nat) : Bs.boot nw = (((((boot0.vecs 32).over nw).under nw).ticks 15).swap nw |>.mark nmStart).put startI := rfl
attribute [local irreducible] bootW bootN Bs.boot
theorem infou32 : (Tryz.prog.info? 23).map (fun i => (i.zero, i.size, i.bytes)) = some (some (.int .u32 0), 1, 4) := by kernel_rfl
/-- A runtime is made at its place. -/
def BootGo (w : World) (kb o nw : Nat) (w' : World) : Prop :=
  ∃ v w3, Below w.heap.size w w3 ∧ w3.ownsRow w.heap.size 23 1 v (64 + (bootW nw).length) (u32s (List.replicate 64 0 ++ bootW nw)) ∧ w' = (w3.setCell ⟨kb, o + 3, none⟩ v).setCell ⟨kb, o + 4, none⟩ (.int .u32 (256 + 4 * bootN nw))
theorem row_set {w : World} {kb j : Nat} {cs : Array Value} {T : TypeId} (hr : w.heap[kb]? = some (.cells cs T (0, 0))) (v : Value) : (w.setCell ⟨kb, j, none⟩ v).heap[kb]? = some (.cells (cs.set! j v) T (0, 0)) := by
  simp only [World.setCell, Array.getElem?_modify, hr]
  simp
theorem made_put {w w3 : World} {kb o : Nat} {cs : Array Value} {T : TypeId} {u3 u4 : Value} (hr : w.heap[kb]? = some (.cells cs T (0, 0)) ∧ cs[o + 3]? = some u3 ∧ cs[o + 4]? = some u4) (hb3 : Below w.heap.size w w3) (v : Value) :
    (w3.cell? ⟨kb, o + 3, none⟩ = some u3 ∧ w3.frozen? ⟨kb, o + 3, none⟩ = false) ∧ (w3.setCell ⟨kb, o + 3, none⟩ v).cell? ⟨kb, o + 4, none⟩ = some u4 ∧ (w3.setCell ⟨kb, o + 3, none⟩ v).frozen? ⟨kb, o + 4, none⟩ = false := by
  have hr3 : w3.heap[kb]? = some (.cells cs T (0, 0)) := (hb3.block _ (Array.getElem?_eq_some_iff.1 hr.1).1).trans hr.1
  have hr4 := row_set (j := o + 3) hr3 v
  refine ⟨⟨row_cell hr3 hr.2.1, row_frozen hr3 (o + 3)⟩, row_cell hr4 (j := o + 4) (v := u4) ?_, row_frozen hr4 (o + 4)⟩
  have h4 := hr.2.2
  simp only [Array.set!_eq_setIfInBounds]
  rw [Array.getElem?_setIfInBounds_ne (by omega)]
  exact h4
theorem own_mono {w : World} {base base' : Nat} {e : TypeId} {size : Nat} {v : Value} {n : Nat} {xs : List Value} (h : w.ownsRow base e size v n xs) (hb : base' ≤ base) : w.ownsRow base' e size v n xs := by
  refine ⟨h.1, h.2.imp id ?_⟩
  rintro ⟨g, cap, cur, h1, h2, h3⟩
  exact ⟨g, cap, cur, h1, Nat.le_trans hb h2, h3⟩
theorem zeros_made : (madeCells #[.int .u32 0] 64).toList = u32s (List.replicate 64 0) := by kernel_rfl
set_option maxRecDepth 100000 in
set_option maxHeartbeats 1000000 in
theorem bmake_any (w : World) (ht : Tab w) (kb o nw : Nat) (h2 : 2 ≤ nw) (h32 : nw ≤ 32) {cs : Array Value} {T : TypeId} (hrow : w.heap[kb]? = some (.cells cs T (0, 0))) {u3 u4 : Value} (h3 : cs[o + 3]? = some u3) (h4 : cs[o + 4]? = some u4) :
    Calls Tryz.prog 208 #[.pointer (some ⟨kb, o, none⟩), .int .i64 (nw : Int)] w fun e w' => e = .returned (.tuple #[]) ∧ BootGo w kb o nw w' := by
  have HROW := ahid (And.intro hrow (And.intro h3 h4))
  clear hrow h3 h4
  have hfine := boot_is h2 h32
  obtain ⟨s1, e1⟩ : ∃ x, x = boot0.vecs 32 := ⟨_, rfl⟩
  have N1 : names s1.M = [] := by rw [e1, vecs_M]; rfl
  have L1 : s1.L.length = 128 := by rw [e1, vecs_len]; rfl
  obtain ⟨s2, e2⟩ : ∃ x, x = s1.over nw := ⟨_, rfl⟩
  have N2 : names s2.M = [nmOver, nmOverIn] := by rw [e2, (over_len s1 nw).2, N1]; rfl
  have L2 : s2.L.length ≤ 168 := by have := (over_len s1 nw).1; rw [e2]; omega
  obtain ⟨s3, e3⟩ : ∃ x, x = s2.under nw := ⟨_, rfl⟩
  have N3 : names s3.M = [nmOver, nmOverIn, nmUnder, nmUnderIn] := by rw [e3, (under_len s2 nw).2, N2]; rfl
  have L3 : s3.L.length ≤ 208 := by have := (under_len s2 nw).1; rw [e3]; omega
  obtain ⟨s4, e4⟩ : ∃ x, x = s3.ticks 15 := ⟨_, rfl⟩
  have N4 : names s4.M = [nmOver, nmOverIn, nmUnder, nmUnderIn] ++ tickNms 15 := by rw [e4, ticks_names, N3]
  have L4 : s4.L.length ≤ 268 := by have := (ticks_len s3 15).1; rw [e4]; omega
  obtain ⟨s5, e5⟩ : ∃ x, x = s4.swap nw := ⟨_, rfl⟩
  have N5 : names s5.M = [nmOver, nmOverIn, nmUnder, nmUnderIn] ++ tickNms 15 ++ [nmEnd, nmYield, nmYieldEach, nmYieldIn, nmSwap, nmSwapCount, nmSwapEach, nmSwapNot, nmSwapIt, nmSwapIn] := by rw [e5, names_swap, N4]
  have L5 : s5.L.length ≤ 500 := by have := len_swap s4 nw; rw [e5]; omega
  obtain ⟨s6, e6⟩ : ∃ x, x = s5.mark nmStart := ⟨_, rfl⟩
  have L6 : s6.L.length ≤ 500 := by rw [e6]; exact L5
  obtain ⟨s7, e7⟩ : ∃ x, x = s6.put startI := ⟨_, rfl⟩
  have L7 : s7.L.length ≤ 505 := by rw [e7, Bs.put_len]; simp only [startI, List.length_cons, List.length_nil]; omega
  have hb7 : Bs.boot nw = s7 := by rw [e7, e6, e5, e4, e3, e2, e1]; exact boot_eq nw
  have M1 : s1.M.length = 0 := names_len s1 _ N1
  have M2 : s2.M.length = 2 := names_len s2 _ N2
  have M3 : s3.M.length = 4 := names_len s3 _ N3
  have M4 : s4.M.length = 19 := names_len s4 _ N4
  have M5 : s5.M.length = 29 := names_len s5 _ N5
  have F1 := ahid (And.intro (lk_of (s := s1) (x := nmOver) _ N1 (by simp)) (lk_of (s := s1) (x := nmOverIn) _ N1 (by simp)))
  have F2 := ahid (And.intro (lk_of (s := s2) (x := nmUnder) _ N2 (fresh1 _ (by simp))) (lk_of (s := s2) (x := nmUnderIn) _ N2 (fresh1 _ (by simp))))
  have F3 := ahid (show noT s3.M from fun k h1 hk => lk_of (s := s3) _ N3 (fresh2 k (by omega) h1))
  have F4 := ahid (show noS s4.M from fun x hx => by rw [N4]; exact fresh3 x hx)
  have F5 := ahid (lk_of (s := s5) (x := nmStart) _ N5 fresh4)
  have HE := ahid (And.intro e1 (And.intro e2 (And.intro e3 (And.intro e4 (And.intro e5 (And.intro e6 (And.intro e7 hb7)))))))
  have HF := ahid hfine
  clear hfine e1 e2 e3 e4 e5 e6 e7 hb7 N1 N2 N3 N4 N5
  have HT := ahid ht
  clear ht
  go_enter Tryz.func208, Tryz.ntmps208
  go_wp2_with fail
  refine (new_lst w w (Below.refl _ _)).mono ?_
  rintro e w1 ⟨pa, S0, rfl, hl, hS0, hb1⟩
  have H0 := ahid (show BsAt w w1 pa S0 boot0 from ⟨hl, TabLo.start HT.out hb1, hb1⟩)
  clear hl hb1
  go_wp2_with fail
  refine (bvectors_any H0.out (by show 0 + 200 < _; omega)).mono ?_
  rintro e w2 ⟨rfl, hg⟩
  rw [← HE.out.1] at hg
  obtain ⟨S1, h1, o1, r1⟩ := hg
  have H1 := ahid h1
  clear h1 o1 r1
  go_wp2_with fail
  refine (wover_any H1.out h2 h32 F1.out.1 F1.out.2 (by omega) (by omega)).mono ?_
  rintro e w3 ⟨rfl, hg⟩
  rw [← HE.out.2.1] at hg
  obtain ⟨S2, h1, o1, r1⟩ := hg
  have H2 := ahid h1
  clear h1 o1 r1
  go_wp2_with fail
  refine (wunder_any H2.out h2 h32 F2.out.1 F2.out.2 (by omega) (by omega)).mono ?_
  rintro e w4 ⟨rfl, hg⟩
  rw [← HE.out.2.2.1] at hg
  obtain ⟨S3, h1, o1, r1⟩ := hg
  have H3 := ahid h1
  clear h1 o1 r1
  go_wp2_with fail
  refine (ticks_any H3.out F3.out (by omega) (by omega)).mono ?_
  rintro e w5 ⟨rfl, hg⟩
  rw [← HE.out.2.2.2.1] at hg
  obtain ⟨S4, h1, o1, r1⟩ := hg
  have H4 := ahid h1
  clear h1 o1 r1
  go_wp2_with fail
  refine (swap_any H4.out h2 h32 F4.out (by omega) (by omega)).mono ?_
  rintro e w6 ⟨rfl, hg⟩
  rw [← HE.out.2.2.2.2.1] at hg
  obtain ⟨S5, h1, o1, r1⟩ := hg
  have H5 := ahid h1
  clear h1 o1 r1
  go_wp2_with fail
  refine (bs_mark H5.out (nm := nmStart) (by decide) F5.out (by omega) (by omega)).mono ?_
  rintro e w7 ⟨rfl, hg⟩
  rw [← HE.out.2.2.2.2.2.1] at hg
  obtain ⟨S6, h1, o1, r1⟩ := hg
  have H6 := ahid h1
  clear h1 o1 r1
  go_wp2_with fail
  refine (bld_any (rd := 1) (n := 72) w7).mono ?_
  rintro e v0 ⟨rfl, hb0⟩
  go_wp2_with fail
  refine (bld_any (rd := 14) (n := 68) v0).mono ?_
  rintro e v1 ⟨rfl, hb1⟩
  replace hb1 := hb0.trans (hb1.mono hb0.size)
  go_wp2_with fail
  refine (bld_any (rd := 1) (n := 64) v1).mono ?_
  rintro e v2 ⟨rfl, hb2⟩
  replace hb2 := hb1.trans (hb2.mono hb1.size)
  go_wp2_with fail
  refine (bs_lit H6.out (l := startI) start_ok (by decide) (by simp only [startI, List.length_cons, List.length_nil]; omega) hb2).mono ?_
  rintro e w8 ⟨rfl, hg⟩
  rw [← HE.out.2.2.2.2.2.2.1] at hg
  obtain ⟨S7, h1, o1, r1⟩ := hg
  have H7 := ahid h1
  clear h1 o1 r1 hb0 hb1 hb2
  obtain ⟨sv, m, K, hA, hO, hK⟩ := H7.out.lst.ex
  have HWS := ahid (boot_is7 HF.out HE.out.2.2.2.2.2.2.2)
  have HW := ahid (awords_any w8 H7.out.tab.tab pa m sv K s7.L s7.M hA (by omega) HWS.out.2.2.1)
  have HA := ahid hA
  clear hA hO hK
  go_wp2_with fail
  refine HW.out.mono ?_
  rintro e w9 ⟨v, l, rfl, hl, hown, hb9⟩
  rw [HWS.out.1]
  have hl2 : l = bootW nw := by rw [hl, if_pos HWS.out.1]; exact HWS.out.2.1
  subst hl2
  clear hl
  have HOWN := ahid hown
  have HB9 := ahid hb9
  have HC9 := ahid (aat_made w9 pa m sv K s7.L s7.M (HA.out.keep (Only.of_below (S := fun _ => False) hb9) (fun _ _ h => h) (fun _ _ h => h)) ⟨nmStart.toArray⟩ (by decide))
  rw [HWS.out.2.2.2] at HC9
  clear hown hb9
  go_wp2_with fail
  refine HC9.out.mono ?_
  rintro e w10 ⟨rfl, rfl⟩
  have HBN := ahid (show 128 < bootN nw ∧ bootN nw < 386 from ⟨HF.out.n.1, by have h1 := HF.out.n.2; have h2 := HF.out.l; omega⟩)
  have hpos : 0 < (bootW nw).length := by have h1 := HF.out.n; omega
  obtain ⟨g, cap, rfl, hg1, hg2⟩ := HOWN.out.form hpos
  have hcell := ahid (HOWN.out.cells rfl)
  have hlw : (bootW nw).length ≤ 386 := HF.out.l
  generalize hbn : bootN nw = bn at *
  generalize hbw : bootW nw = bw at *
  generalize atE s7.M ⟨nmStart.toArray⟩ = ae at *
  obtain ⟨i0, hi, hz0, hz1, hz2⟩ := info_parts infou32
  have HII := ahid (And.intro hi (And.intro hz0 (And.intro hz1 hz2)))
  clear hi hz0 hz1 hz2 HF HE HW HWS HA
  obtain ⟨made, hm⟩ : ∃ f : World → World, ∀ W, f W = W.alloc (.cells (madeCells #[.int .u32 0] 64) 23) := ⟨_, fun _ => rfl⟩
  have mk : ∀ W : World, (Instr.makeSlice 30 (.int .i64 64) (.int .i64 64)).run Tryz.prog W = .ok (.slice (some ⟨W.heap.size, 0, none⟩) 64 64) (made W) := fun W => by
    rw [hm]
    exact run_make_row' (P := Tryz.prog) 30 23 (.int .u32 0) 4 Tryz.underlying30 infou32 rfl .i64 .i64 64 (by omega) (by omega) W
  have HM1 := ahid (show (made w9).ownsRow w9.heap.size 23 1 (.slice (some ⟨w9.heap.size, 0, none⟩) 64 64) 64 (u32s (List.replicate 64 0)) from by
    rw [hm, ← zeros_made]
    exact World.ownsRow_lit w9 _ 64 (Nat.le_refl _) (by decide) (by simp [size_madeCells]))
  have HM2 := ahid (show Below w9.heap.size w9 (made w9) from by rw [hm]; exact (Below.refl _ _).alloc (Nat.le_refl _) _)
  clear hm
  have HG3 := ahid (show ∀ w3, (made w9).grownBy w3 (Value.ownBlock (.slice (some ⟨w9.heap.size, 0, none⟩) 64 64)) → Below w.heap.size w w3 from fun w3 hgrow3 => ((H7.out.bel.trans (HB9.out.mono H7.out.bel.size)).trans (HM2.out.mono (Nat.le_trans H7.out.bel.size HB9.out.size))).grown hgrow3 (Nat.le_trans (Nat.le_trans H7.out.bel.size HB9.out.size) HM2.out.size) (fun i hi => by
    have h1 := (HM1.out.lt i hi).1
    have h2 := H7.out.bel.size
    have h3 := HB9.out.size
    omega))
  have e1 : IntKind.i64.wrap (4 * bn) = 4 * bn := IntWalk.i64_in _ (by have := HBN.out; omega)
  have e2 : IntKind.i64.wrap (256 + 4 * bn) = 256 + 4 * bn := IntWalk.i64_in _ (by have := HBN.out; omega)
  have e3 : IntKind.u32.wrap (256 + 4 * bn) = 256 + 4 * bn := IntWalk.u32_in _ (by have := HBN.out; omega)
  have hM1 := HM1.out
  go_wp2_with (first | (at_builtin; refine wpList_append_own _ rfl _ _ 30 rfl w9.heap.size 23 i0 (.int .u32 0) 1 4 Tryz.underlying30 HII.out.1 HII.out.2.1 HII.out.2.2.1 HII.out.2.2.2 rfl (by decide) _ 64 (u32s (List.replicate 64 0)) rfl hM1 ⟨g, 0, none⟩ bw.length cap (u32s bw) rfl (by simp [u32s]) (fun j u hj => (HM2.out.cell (World.block_lt_of_cell? _ _ (hcell.out j u hj))).trans (hcell.out j u hj)) (fun u hu => by simp only [u32s, List.mem_map] at hu; obtain ⟨x, _, rfl⟩ := hu; rfl) (by unfold maxLen; omega) (by omega) HM2.out.size ?_; intro v' w3 hown3 hgrow3 hnil3; clear hnil3; obtain ⟨g3, cap3, rfl, -, -⟩ := hown3.form (by omega); have HB3 := ahid (HG3.out w3 hgrow3); clear hgrow3; obtain ⟨⟨c3, f3⟩, c4, f4⟩ := made_put HROW.out HB3.out (.slice (some ⟨g3, 0, none⟩) (64 + bw.length) cap3); have HOWN3 := ahid hown3; clear hown3))
  go_end0
  refine ⟨rfl, .slice (some ⟨g3, 0, none⟩) (64 + bw.length) cap3, w3, HB3.out, ?_, ?_⟩
  · rw [hbw]
    have h1 := own_mono HOWN3.out (Nat.le_trans H7.out.bel.size HB9.out.size)
    rw [show u32s (List.replicate 64 0 ++ bw) = u32s (List.replicate 64 0) ++ u32s bw by simp only [u32s, List.map_append]]
    exact h1
  · rw [hbn]
end Go.Proofs.YtkejnhleajfcjaaGreatDoor
/- sync.Once's parts, as the kit's worked text over a lazy value has them, turned to this program. -/
namespace Go.Proofs.YtkejnhleajfcjaaGreatDoor
open Go.RowKit
set_option linter.unusedVariables false
set_option linter.unusedSimpArgs false
theorem race_disable (w : World) : (callFunc 312 #[]).run Tryz.prog w = .ok (.value (.tuple #[])) w := run_call_mark0 Tryz.func312 (by kernel_rfl) (by kernel_rfl) (by kernel_rfl) .disable (by kernel_rfl) w
theorem race_enable (w : World) : (callFunc 314 #[]).run Tryz.prog w = .ok (.value (.tuple #[])) w := run_call_mark0 Tryz.func314 (by kernel_rfl) (by kernel_rfl) (by kernel_rfl) .enable (by kernel_rfl) w
theorem race_acquire (a : Addr) (w : World) : (callFunc 315 #[.pointer (some a)]).run Tryz.prog w = .ok (.value (.tuple #[])) w := run_call_marked Tryz.func315 (by kernel_rfl) (by kernel_rfl) (by kernel_rfl) .acquire (by kernel_rfl) a w
theorem race_merge (a : Addr) (w : World) : (callFunc 317 #[.pointer (some a)]).run Tryz.prog w = .ok (.value (.tuple #[])) w := run_call_marked Tryz.func317 (by kernel_rfl) (by kernel_rfl) (by kernel_rfl) .releaseMerge (by kernel_rfl) a w
theorem ostore_deferred (a : Addr) (x : Value) (u : FrameMode) (w : World) (hc : w.cell? a = some x) (hz : w.frozen? a = false) :
    CallsD Tryz.prog 297 #[.pointer (some a), .bool true] u w fun e u' w' => u' = u ∧ (e = .returned (.tuple #[]) ∧ w' = w.drew.setCell a (.int .u32 1)) := by
  have hc' : w.drew.cell? a = some x := by go_simp
  have hz' : w.drew.frozen? a = false := by go_simp
  have hst := run_call_store (P := Tryz.prog) Tryz.func305 (by kernel_rfl) (by kernel_rfl) (by kernel_rfl) (by kernel_rfl) (k := .u32) (y := 1) hc' hz'
  go_enter_d Tryz.func297, Tryz.ntmps297
  go_wp2
  go_region_calls
  all_goals (go_end0; exact ⟨rfl, rfl⟩)
theorem oload (a : Addr) (x : Int) (w : World) (hc : w.cell? a = some (.int .u32 x)) : (callFunc 294 #[.pointer (some a)]).run Tryz.prog w = .ok (.value (.int .u32 x)) w :=
  run_call_load (P := Tryz.prog) Tryz.func294 (by kernel_rfl) (by kernel_rfl) (by kernel_rfl) .u32 (by kernel_rfl) hc
theorem oloadi (a : Addr) (x : Int) (w : World) (hc : w.cell? a = some (.int .i32 x)) : (callFunc 210 #[.pointer (some a)]).run Tryz.prog w = .ok (.value (.int .i32 x)) w :=
  run_call_load (P := Tryz.prog) Tryz.func210 (by kernel_rfl) (by kernel_rfl) (by kernel_rfl) .i32 (by kernel_rfl) hc
/-- The Once's word is read. -/
theorem bload_any (a : Addr) (x : Int) (w : World) (hc : w.cell? a = some (.int .u32 x)) :
    Calls Tryz.prog 262 #[.pointer (some a)] w fun e w' => e = .returned (.bool (x != 0)) ∧ w' = w := by
  have hl := oload a x w hc
  go_enter Tryz.func262, Tryz.ntmps262
  go_wp2
  go_ret
  exact ⟨rfl, rfl⟩
theorem iload_any (a : Addr) (x : Int) (w : World) (hc : w.cell? a = some (.int .i32 x)) :
    Calls Tryz.prog 112 #[.pointer (some a)] w fun e w' => e = .returned (.int .i32 x) ∧ w' = w := by
  have hl := oloadi a x w hc
  go_enter Tryz.func112, Tryz.ntmps112
  go_wp2
  go_ret
  exact ⟨rfl, rfl⟩
theorem iadd_any (a : Addr) (x : Int) (w : World) (hc : w.cell? a = some (.int .i32 x)) (hz : w.frozen? a = false) (h0 : 0 ≤ x) (h1 : x < 1000) :
    Calls Tryz.prog 209 #[.pointer (some a), .int .i32 1] w fun e w' => e = .returned (.int .i32 (x + 1)) ∧ w' = w.setCell a (.int .i32 (x + 1)) := by
  have hadd := run_call_add (P := Tryz.prog) Tryz.func266 (by kernel_rfl) (by kernel_rfl) (by kernel_rfl) .i32 (by kernel_rfl) (y := 1) (s := x + 1) hc hz (by have hw : IntKind.i32.wrap (x + 1) = x + 1 := IntWalk.i32_in _ (by omega); simp [go_sem, hw]; try rfl)
  go_enter Tryz.func209, Tryz.ntmps209
  go_wp2
  go_ret
  exact ⟨rfl, rfl⟩
set_option maxRecDepth 100000 in
theorem ounlock_deferred (a : Addr) (u : FrameMode) (w : World) (hc : w.cell? a = some (.int .i32 1)) (hz : w.frozen? a = false) :
    CallsD Tryz.prog 296 #[.pointer (some a)] u w fun e u' w' => u' = u ∧ (e = .returned (.tuple #[]) ∧ w' = w.setCell a (.int .i32 0)) := by
  have hd := race_disable
  have he := race_enable
  have hr := race_merge
  have hadd := run_call_add (P := Tryz.prog) Tryz.func266 (by kernel_rfl) (by kernel_rfl) (by kernel_rfl) .i32 (by kernel_rfl) (y := -1) (s := 0) hc hz (by simp [go_sem]; rfl)
  have hcv := run_convert_to_unsafe (P := Tryz.prog) (src := 352) (dst := 355) Tryz.underlying352 Tryz.underlying355 (by kernel_rfl) hc
  go_enter_d Tryz.func296, Tryz.ntmps296
  go_wp2
  go_end0
  first
    | done
    | exact ⟨rfl, rfl⟩
    | (go_wp2; go_end0; exact ⟨rfl, rfl⟩)
set_option maxRecDepth 100000 in
theorem olock_free (a : Addr) (w : World) (hc : w.cell? a = some (.int .i32 0)) (hz : w.frozen? a = false) :
    Calls Tryz.prog 295 #[.pointer (some a)] w fun e w' => e = .returned (.tuple #[]) ∧ w' = w.setCell a (.int .i32 1) := by
  have hd := race_disable
  have he := race_enable
  have ha := race_acquire
  have hcas := run_call_cas_hit (P := Tryz.prog) Tryz.func313 (by kernel_rfl) (by kernel_rfl) (by kernel_rfl) .i32 (by kernel_rfl) (y := 1) hc hz
  have hc' : (w.setCell a (.int .i32 1)).cell? a = some (.int .i32 1) := World.cell?_setCell_same w a _ hc
  have hcv := run_convert_to_unsafe (P := Tryz.prog) (src := 352) (dst := 355) Tryz.underlying352 Tryz.underlying355 (by kernel_rfl) hc'
  go_enter Tryz.func295, Tryz.ntmps295
  go_wp2
  first | go_end0 | (simp only [Exit.inBlock, Exit.then]; refine bodyPost_ret (results_none rfl _ _ _) rfl ?_) | refine bodyPost_ret (results_none rfl _ _ _) rfl ?_
  first
    | done
    | exact ⟨rfl, rfl⟩
    | (go_wp2; go_end0; exact ⟨rfl, rfl⟩)
end Go.Proofs.YtkejnhleajfcjaaGreatDoor
/- sync.Once over any closure whose contract is handed in: doSlow and Do. -/
namespace Go.Proofs.YtkejnhleajfcjaaGreatDoor
open Go.RowKit
set_option linter.unusedVariables false
set_option linter.unusedSimpArgs false
/-- The Once's cells within a block: not done, its lock held. -/
structure Held (w : World) (b off : Nat) : Prop where
  c0 : w.cell? ⟨b, off, none⟩ = some (.int .u32 0)
  f0 : w.frozen? ⟨b, off, none⟩ = false
  c1 : w.cell? ⟨b, off + 1, none⟩ = some (.int .i32 1)
  f1 : w.frozen? ⟨b, off + 1, none⟩ = false
set_option maxRecDepth 100000 in
set_option maxHeartbeats 1600000 in
theorem oslow_any (b off : Nat) (cap : Array Value) (w : World) (h0 : w.cell? ⟨b, off, none⟩ = some (.int .u32 0)) (h1 : w.cell? ⟨b, off + 1, none⟩ = some (.int .i32 0))
    (f0 : w.frozen? ⟨b, off, none⟩ = false) (f1 : w.frozen? ⟨b, off + 1, none⟩ = false) {Q : World → Prop}
    (hf : Calls Tryz.prog 207 cap (w.setCell ⟨b, off + 1, none⟩ (.int .i32 1)) fun e w' => e = .returned (.tuple #[]) ∧ Q w') (hQ : ∀ w', Q w' → Held w' b off) :
    Calls Tryz.prog 263 #[.pointer (some ⟨b, off, none⟩), .func (.func 207) #[] cap] w fun e w' => e = .returned (.tuple #[]) ∧
      ∃ w1, Q w1 ∧ w' = (w1.drew.setCell ⟨b, off, none⟩ (.int .u32 1)).setCell ⟨b, off + 1, none⟩ (.int .i32 0) := by
  have HL := ahid (olock_free ⟨b, off + 1, none⟩ w h1 f1)
  have HB := ahid (bload_any ⟨b, off, none⟩ 0 (w.setCell ⟨b, off + 1, none⟩ (.int .i32 1)) ((World.cell?_setCell_other _ ⟨b, off + 1, none⟩ ⟨b, off, none⟩ _ (by simp)).trans h0))
  have HF := ahid hf
  have HQ := ahid hQ
  clear hf hQ h0 h1 f0 f1
  go_enter_defers Tryz.func263, Tryz.ntmps263
  go_wp2_with (first | (go_at_call 295; refine HL.out.mono ?_; rintro e w' ⟨rfl, rfl⟩) | (go_at_call 262; refine HB.out.mono ?_; rintro e w' ⟨rfl, rfl⟩))
  refine HF.out.mono ?_
  rintro e w1 ⟨rfl, hq⟩
  obtain ⟨c0, z0, c1, z1⟩ := HQ.out w1 hq
  have HQ1 := ahid hq
  clear hq HL HB HF HQ
  go_wp2_with fail
  refine leaves_cons (f := 297) (args := #[.pointer (some ⟨b, off, none⟩), .bool true]) (by simp) (by simp [go_sem]) ?_
  refine (ostore_deferred ⟨b, off, none⟩ (.int .u32 0) .returning _ c0 z0).mono ?_
  rintro e u' w'' ⟨rfl, rfl, rfl⟩
  refine leaves_cons (f := 296) (args := #[.pointer (some ⟨b, off + 1, none⟩)]) (by simp [settle]) (by simp [go_sem]) ?_
  refine (ounlock_deferred ⟨b, off + 1, none⟩ _ _ ?_ (by simp [z1])).mono ?_
  · refine (World.cell?_setCell_other _ ⟨b, off, none⟩ ⟨b, off + 1, none⟩ _ (by simp)).trans ?_
    rw [World.cell?_drew]
    exact c1
  rintro e u' w'' ⟨rfl, rfl, rfl⟩
  have hfin : ∃ w2, Q w2 ∧ (w1.drew.setCell ⟨b, off, none⟩ (.int .u32 1)).setCell ⟨b, off + 1, none⟩ (.int .i32 0) = (w2.drew.setCell ⟨b, off, none⟩ (.int .u32 1)).setCell ⟨b, off + 1, none⟩ (.int .i32 0) := ⟨w1, HQ1.out, rfl⟩
  simpa [Leaves, settle, results, Tryz.results263] using hfin
set_option maxRecDepth 100000 in
theorem odo_first (b off : Nat) (cap : Array Value) (w : World) (h0 : w.cell? ⟨b, off, none⟩ = some (.int .u32 0)) (h1 : w.cell? ⟨b, off + 1, none⟩ = some (.int .i32 0))
    (f0 : w.frozen? ⟨b, off, none⟩ = false) (f1 : w.frozen? ⟨b, off + 1, none⟩ = false) {Q : World → Prop}
    (hf : Calls Tryz.prog 207 cap (w.setCell ⟨b, off + 1, none⟩ (.int .i32 1)) fun e w' => e = .returned (.tuple #[]) ∧ Q w') (hQ : ∀ w', Q w' → Held w' b off) :
    Calls Tryz.prog 206 #[.pointer (some ⟨b, off, none⟩), .func (.func 207) #[] cap] w fun e w' => e = .returned (.tuple #[]) ∧
      ∃ w1, Q w1 ∧ w' = (w1.drew.setCell ⟨b, off, none⟩ (.int .u32 1)).setCell ⟨b, off + 1, none⟩ (.int .i32 0) := by
  have HB := ahid (bload_any ⟨b, off, none⟩ 0 w h0)
  have HS := ahid (oslow_any b off cap w h0 h1 f0 f1 hf hQ)
  clear hf hQ h0 h1 f0 f1
  go_enter Tryz.func206, Tryz.ntmps206
  go_wp2_with fail
  refine HB.out.mono ?_
  rintro e w' ⟨rfl, rfl⟩
  go_wp2_with fail
  refine HS.out.mono ?_
  rintro e w2 ⟨rfl, hq⟩
  have HQ := ahid hq
  clear hq
  go_wp2_with fail
  go_end0
  exact ⟨rfl, HQ.out⟩
theorem odo_done (a : Addr) (fv : Value) (w : World) (h0 : w.cell? a = some (.int .u32 1)) :
    Calls Tryz.prog 206 #[.pointer (some a), fv] w fun e w' => e = .returned (.tuple #[]) ∧ w' = w := by
  have HB := ahid (bload_any a 1 w h0)
  clear h0
  go_enter Tryz.func206, Tryz.ntmps206
  go_wp2_with fail
  refine HB.out.mono ?_
  rintro e w' ⟨rfl, rfl⟩
  go_wp2_with fail
  go_end0
  exact ⟨rfl, rfl⟩
end Go.Proofs.YtkejnhleajfcjaaGreatDoor
