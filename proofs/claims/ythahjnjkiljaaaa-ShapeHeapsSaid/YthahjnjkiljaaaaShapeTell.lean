/- The walk of muntinlaw14.tells. -/
import Derived.Test.YthahjnjkiljaaaaShapeSame
import Derived.Deep.RegionHeld3
namespace Go.Proofs.Ythahjnjkiljaaaa
open Go.RowKit
set_option linter.unusedVariables false
set_option linter.unusedSimpArgs false
theorem readsS_bd {x : Insx} (hx : x.bd) : ∀ y ∈ readsS x, I64 y := by
  obtain ⟨_, _, xa, xb, _, _, xs, _⟩ := hx
  unfold readsS
  split
  · intro y hy; simp at hy; rcases hy with rfl | rfl <;> assumption
  · split
    · intro y hy; simp at hy; rcases hy with rfl; assumption
    · split
      · exact xs
      · intro y hy; simp at hy
theorem readsS_len {x : Insx} (hl : x.args.length * 8 ≤ 140737488352000) : (readsS x).length * 8 ≤ 140737488352000 := by
  unfold readsS
  split
  · simp
  · split
    · simp
    · split
      · exact hl
      · simp
theorem IntsIn.of_ints {x : Insx} (hx : x.bd) {w w' : World} (hl : x.args.length * 8 ≤ 140737488352000) {v : Value} (h : w'.ownsRow w.heap.size 3 1 v (readsS x).length (ints (readsS x))) : IntsIn w' v (readsS x) :=
  IntsIn.of_own h (readsS_len hl) (readsS_bd hx)
set_option maxRecDepth 100000 in
set_option maxHeartbeats 2000000 in
theorem tells_any (x : Insx) (hx : x.bd) (p : Option Addr) (n c : Nat) (w : World) (ha : IntsIn w (.slice p n c) x.args) :
    Calls Try.prog 11 #[x.agg (.slice p n c)] w fun e w' => e = .returned (.bool true) ∧ Below w.heap.size w w' := by
  have HX := shid hx
  have HA := shid ha
  have HAL := shid ha.1
  have HBX := shid (IBox.new w x (.slice p n c) 44)
  have HW0 := shid (show Below w.heap.size w (w.alloc (.cells #[.int .u8 x.op, .int .i64 x.d, .int .i64 x.a, .int .i64 x.b, .int .u32 x.n, .int .i64 x.f, .slice p n c, .int .i64 x.l1, .int .i64 x.l2] 44)) from (Below.refl _ _).alloc (Nat.le_refl _) _)
  clear ha hx
  unfold Insx.agg
  go_enter Try.func11, Try.ntmps11
  obtain ⟨blt, b0, b1, b2, b3, b4, b5, b6, b7, b8⟩ := HBX.out
  go_wp2_with fail
  clear blt b0 b1 b2 b3 b4 b5 b6 b7 b8
  generalize w.alloc (.cells #[.int .u8 x.op, .int .i64 x.d, .int .i64 x.a, .int .i64 x.b, .int .u32 x.n, .int .i64 x.f, .slice p n c, .int .i64 x.l1, .int .i64 x.l2] 44) = W0 at *
  refine (writes_any x HX.out p n c W0).mono ?_
  rintro e w1 ⟨rfl, hb1⟩
  have HB1 := shid (HBX.out.keep hb1)
  have HW1 := shid (sbt HW0.out hb1)
  clear hb1
  obtain ⟨blt, b0, b1, b2, b3, b4, b5, b6, b7, b8⟩ := HB1.out
  go_wp2_with fail
  clear blt b0 b1 b2 b3 b4 b5 b6 b7 b8
  refine (rwrites_any x HX.out p n c w1).mono ?_
  rintro e w2 ⟨rfl, hb2⟩
  have HB2 := shid (HB1.out.keep hb2)
  have HW2 := shid (sbt HW1.out hb2)
  clear hb2
  generalize writesD x = wd
  generalize writesB x = wb
  go_wp2_with fail
  have HKS : Hid (∀ w', Below w2.heap.size w2 w' → w'.cell? ⟨w.heap.size, 0, none⟩ = some (.int .u8 x.op) ∧ w'.cell? ⟨w.heap.size, 1, none⟩ = some (.int .i64 x.d) ∧ w'.cell? ⟨w.heap.size, 2, none⟩ = some (.int .i64 x.a) ∧ w'.cell? ⟨w.heap.size, 3, none⟩ = some (.int .i64 x.b) ∧ w'.cell? ⟨w.heap.size, 4, none⟩ = some (.int .u32 x.n) ∧ w'.cell? ⟨w.heap.size, 5, none⟩ = some (.int .i64 x.f) ∧ w'.cell? ⟨w.heap.size, 6, none⟩ = some (.slice p n c) ∧ w'.cell? ⟨w.heap.size, 7, none⟩ = some (.int .i64 x.l1) ∧ w'.cell? ⟨w.heap.size, 8, none⟩ = some (.int .i64 x.l2)) := shid fun w' hb => by
    obtain ⟨_, b0, b1, b2, b3, b4, b5, b6, b7, b8⟩ := HB2.out.keep hb
    exact ⟨b0, b1, b2, b3, b4, b5, b6, b7, b8⟩
  have HRa : Hid (∀ W, Below w2.heap.size w2 W → Calls Try.prog 28 #[.agg #[.int .u8 x.op, .int .i64 x.d, .int .i64 x.a, .int .i64 x.b, .int .u32 x.n, .int .i64 x.f, .slice p n c, .int .i64 x.l1, .int .i64 x.l2]] W (IntsOwn W (readsS x))) := shid fun W hb =>
    reads_any x HX.out p n c W (HA.out.keep fun _ _ _ _ hh => hh.keep (sbt HW2.out hb))
  have HRb : Hid (∀ W, Below w2.heap.size w2 W → Calls Try.prog 12 #[.agg #[.int .u8 x.op, .int .i64 x.d, .int .i64 x.a, .int .i64 x.b, .int .u32 x.n, .int .i64 x.f, .slice p n c, .int .i64 x.l1, .int .i64 x.l2]] W (IntsOwn W (readsS x))) := shid fun W hb =>
    rreads_any x HX.out p n c W (HA.out.keep fun _ _ _ _ hh => hh.keep (sbt HW2.out hb))
  have HEa : Hid (∀ W, Calls Try.prog 14 #[.agg #[.int .u8 x.op, .int .i64 x.d, .int .i64 x.a, .int .i64 x.b, .int .u32 x.n, .int .i64 x.f, .slice p n c, .int .i64 x.l1, .int .i64 x.l2]] W fun e w' => e = .returned (.bool (endsB x)) ∧ Below W.heap.size W w') := shid fun W => ends_any x HX.out p n c W
  have HEb : Hid (∀ W, Calls Try.prog 29 #[.agg #[.int .u8 x.op, .int .i64 x.d, .int .i64 x.a, .int .i64 x.b, .int .u32 x.n, .int .i64 x.f, .slice p n c, .int .i64 x.l1, .int .i64 x.l2]] W fun e w' => e = .returned (.bool (endsB x)) ∧ Below W.heap.size W w') := shid fun W => rends_any x HX.out p n c W
  have HSm : Hid (∀ W W1 W2 u v, IntsOwn W1 (readsS x) (.returned u) W → IntsOwn W2 (readsS x) (.returned v) W → True) := shid (fun _ _ _ _ _ _ _ => trivial)
  generalize endsB x = eb at *
  have hle : w2.heap.size ≤ w2.heap.size := Nat.le_refl _
  go_region_held3 (fun w' => w'.cell? ⟨w.heap.size, 0, none⟩ = some (.int .u8 x.op) ∧ w'.cell? ⟨w.heap.size, 1, none⟩ = some (.int .i64 x.d) ∧ w'.cell? ⟨w.heap.size, 2, none⟩ = some (.int .i64 x.a) ∧ w'.cell? ⟨w.heap.size, 3, none⟩ = some (.int .i64 x.b) ∧ w'.cell? ⟨w.heap.size, 4, none⟩ = some (.int .u32 x.n) ∧ w'.cell? ⟨w.heap.size, 5, none⟩ = some (.int .i64 x.f) ∧ w'.cell? ⟨w.heap.size, 6, none⟩ = some (.slice p n c) ∧ w'.cell? ⟨w.heap.size, 7, none⟩ = some (.int .i64 x.l1) ∧ w'.cell? ⟨w.heap.size, 8, none⟩ = some (.int .i64 x.l2)) (first | (refine HKS.out _ ?_; first | assumption | (go_grown; done)))
    (first
      | (have _t := hbb; go_at_call 28; (with_reducible refine (HRa.out _ hbb).mono ?_); rintro e wa ⟨va, rfl, hoa, hba0⟩; have hba : Below w2.heap.size w2 wa := sbt (hbb) hba0; have HIa : Hid (IntsIn wa va (readsS x)) := shid (IntsIn.of_ints HX.out HAL.out hoa); obtain ⟨pa, ca, rfl, _⟩ := own_shape hoa; have hbaz := hba0; clear hoa hba0; have HIb' : Hid (IntsIn wa _ (readsS x)) := shid (HIb.out.keep fun _ _ _ _ hh => hh.keep hbaz))
      | (go_at_call 28; (with_reducible refine (HRa.out _ ((Below.refl _ _).drew)).mono ?_); rintro e wa ⟨va, rfl, hoa, hba0⟩; have hba : Below w2.heap.size w2 wa := sbt ((Below.refl _ _).drew) hba0; have HIa : Hid (IntsIn wa va (readsS x)) := shid (IntsIn.of_ints HX.out HAL.out hoa); obtain ⟨pa, ca, rfl, _⟩ := own_shape hoa; clear hoa hba0)
      | (have _t := hba; go_at_call 12; (with_reducible refine (HRb.out _ hba).mono ?_); rintro e wb ⟨vb, rfl, hob, hbb0⟩; have hbb : Below w2.heap.size w2 wb := sbt (hba) hbb0; have HIb : Hid (IntsIn wb vb (readsS x)) := shid (IntsIn.of_ints HX.out HAL.out hob); obtain ⟨pb, cb, rfl, _⟩ := own_shape hob; have hbbz := hbb0; clear hob hbb0; have HIa' : Hid (IntsIn wb _ (readsS x)) := shid (HIa.out.keep fun _ _ _ _ hh => hh.keep hbbz))
      | (go_at_call 12; (with_reducible refine (HRb.out _ ((Below.refl _ _).drew)).mono ?_); rintro e wb ⟨vb, rfl, hob, hbb0⟩; have hbb : Below w2.heap.size w2 wb := sbt ((Below.refl _ _).drew) hbb0; have HIb : Hid (IntsIn wb vb (readsS x)) := shid (IntsIn.of_ints HX.out HAL.out hob); obtain ⟨pb, cb, rfl, _⟩ := own_shape hob; clear hob hbb0)
      | (go_at_call 27; have _t := HIa'; refine (sameints_any _ _ _ _ _ HIa'.out HIb.out).mono ?_; rw [decide_eq_true rfl]; rintro e w5 ⟨rfl, hb50⟩; have hb5 : Below w2.heap.size w2 w5 := sbt hbb hb50)
      | (go_at_call 27; have _t := HIb'; refine (sameints_any _ _ _ _ _ HIa.out HIb'.out).mono ?_; rw [decide_eq_true rfl]; rintro e w5 ⟨rfl, hb50⟩; have hb5 : Below w2.heap.size w2 w5 := sbt hba hb50)
      | (have _t := hb7; go_at_call 14; (with_reducible refine (HEa.out _).mono ?_); rintro e w6 ⟨rfl, hb60⟩; have hb6 : Below w2.heap.size w2 w6 := sbt hb7 hb60)
      | (go_at_call 14; (with_reducible refine (HEa.out _).mono ?_); rintro e w6 ⟨rfl, hb60⟩; have hb6 : Below w2.heap.size w2 w6 := sbt hb5 hb60)
      | (have _t := hb6; go_at_call 29; (with_reducible refine (HEb.out _).mono ?_); rintro e w7 ⟨rfl, hb70⟩; have hb7 : Below w2.heap.size w2 w7 := sbt hb6 hb70)
      | (go_at_call 29; (with_reducible refine (HEb.out _).mono ?_); rintro e w7 ⟨rfl, hb70⟩; have hb7 : Below w2.heap.size w2 w7 := sbt hb5 hb70))
  all_goals
    go_wp2_with fail
    go_ret
    exact ⟨sret_val (by simp), sbt HW2.out (by first | exact hb7 | exact hb6)⟩
end Go.Proofs.Ythahjnjkiljaaaa
