/- The walk of muntinlaw16.FlatNone: a model that is none, and one that is empty. -/
import Derived.Test.YtdefooailcbnlaaG47
import Derived.Test.YtdefooailcbnlaaG43
import Derived.Deep.RegionHeld3
namespace Go.Proofs.Ytdefooailcbnlaa
namespace NoneW
open Go.RowKit Go.Deep
set_option linter.unusedVariables false
set_option linter.unusedSimpArgs false
def zeroM : List Value := [.int .i64 0, .slice none 0 0, .slice none 0 0, .slice none 0 0, .slice none 0 0, .slice none 0 0, .int .i64 0, .slice none 0 0, .int .u8 0, .int .u32 0]
/-- No model, or one just made. -/
def NoM (w : World) (v : Value) : Prop := v = .pointer none ∨ ∃ m, v = .pointer (some ⟨m, 0, none⟩) ∧ VRow w m 62 zeroM
theorem NoM.below {w w' : World} {v : Value} (h : NoM w v) (hb : Below w.heap.size w w') : NoM w' v := by
  rcases h with rfl | ⟨m, rfl, h⟩
  · exact .inl rfl
  · exact .inr ⟨m, rfl, h.below hb⟩
structure ZCells (w : World) (m : Nat) : Prop where
  c2 : w.cell? ⟨m, 2, none⟩ = some (.slice none 0 0)
  c3 : w.cell? ⟨m, 3, none⟩ = some (.slice none 0 0)
  c4 : w.cell? ⟨m, 4, none⟩ = some (.slice none 0 0)
  c5 : w.cell? ⟨m, 5, none⟩ = some (.slice none 0 0)
  c6 : w.cell? ⟨m, 6, none⟩ = some (.int .i64 0)
  c7 : w.cell? ⟨m, 7, none⟩ = some (.slice none 0 0)
  c8 : w.cell? ⟨m, 8, none⟩ = some (.int .u8 0)
  c9 : w.cell? ⟨m, 9, none⟩ = some (.int .u32 0)
theorem zcells {w : World} {m : Nat} (h : VRow w m 62 zeroM) : ZCells w m := ⟨h.cell (k := 2) rfl, h.cell (k := 3) rfl, h.cell (k := 4) rfl, h.cell (k := 5) rfl, h.cell (k := 6) rfl, h.cell (k := 7) rfl, h.cell (k := 8) rfl, h.cell (k := 9) rfl⟩
theorem where_no (w : World) (v : Value) (h : NoM w v) : Calls Try.prog 18 #[v] w fun e w' => e = .returned (.tuple #[.int .i64 (-1), .int .i64 (-1), .int .i64 (-1)]) ∧ w = w' := by
  rcases h with rfl | ⟨m, rfl, h⟩
  · go_enter Try.func18, Try.ntmps18
    go_wp2_with fail
    go_returns
    exact ⟨rfl, rfl⟩
  · obtain ⟨c2, c3, c4, c5, c6, c7, c8, c9⟩ := zcells h
    clear h
    go_enter Try.func18, Try.ntmps18
    go_wp2_with fail
    go_returns
    exact ⟨rfl, rfl⟩
theorem runs_no (w : World) (v : Value) (h : NoM w v) : Calls Try.prog 30 #[v] w fun e w' => e = .returned (.bool false) ∧ w = w' := by
  rcases h with rfl | ⟨m, rfl, h⟩
  · go_enter Try.func30, Try.ntmps30
    go_wp2_with fail
    go_ret
    exact ⟨rfl, rfl⟩
  · obtain ⟨c2, c3, c4, c5, c6, c7, c8, c9⟩ := zcells h
    clear h
    go_enter Try.func30, Try.ntmps30
    go_wp2_with fail
    go_ret
    exact ⟨rfl, rfl⟩
theorem step_no (w : World) (v : Value) (h : NoM w v) : Calls Try.prog 16 #[v] w fun e w' => e = .returned (.bool false) ∧ w = w' := by
  have HR := fhid (runs_no w v h)
  clear h
  go_enter Try.func16, Try.ntmps16
  go_wp2_with fail
  refine HR.out.mono ?_
  rintro e w' ⟨rfl, rfl⟩
  go_wp2_with fail
  go_ret
  exact ⟨rfl, rfl⟩
set_option maxRecDepth 100000 in
set_option maxHeartbeats 4000000 in
theorem run_no (F : Int) (w : World) (v : Value) (h : NoM w v) : Calls Try.prog 13 #[v, .int .i64 F] w fun e w' => e = .returned (.int .i64 0) ∧ Below w.heap.size w w' := by
  have H := fhid h
  clear h
  go_enter Try.func13, Try.ntmps13
  go_wp2_with fail
  refine (does_any16 w).mono ?_
  rintro e w1 ⟨rfl, hb⟩
  have hb2 : Below w.heap.size w (w1.alloc (.cells tabFs 87)) := hb.alloc hb.size _
  have HB := fhid hb2
  have HRC := fhid (runs_no (w1.alloc (.cells tabFs 87)) v (H.out.below hb2))
  clear hb hb2
  unfold tabFs at HB HRC ⊢
  go_wp2_with fail
  generalize w1.alloc (.cells #[.func (.func 42) #[] #[], .func (.func 43) #[] #[], .func (.func 44) #[] #[], .func (.func 45) #[] #[], .func (.func 46) #[] #[], .func (.func 47) #[] #[], .func (.func 48) #[] #[], .func (.func 49) #[] #[], .func (.func 50) #[] #[], .func (.func 51) #[] #[], .func (.func 52) #[] #[]] 87) = W at *
  go_loopw [6] (fun i wr => i = .int .i64 0 ∧ wr = W) (fun i _ => 0)
  case atStart => exact ⟨rfl, rfl⟩
  case round =>
    obtain ⟨rfl, rfl⟩ := hrel
    by_cases h0F : (0 : Int) < F
    · go_wp2_with fail
      refine HRC.out.mono ?_
      rintro e w' ⟨rfl, rfl⟩
      go_wp2_with fail
      go_ret
      exact ⟨rfl, HB.out⟩
    · have hd : decide ((0 : Int) < F) = false := decide_eq_false h0F
      go_wp2_with fail
      go_ret
      exact ⟨rfl, HB.out⟩
theorem thread_no (w : World) (v : Value) (h : NoM w v) : Calls Try.prog 19 #[v] w fun e w' => e = .returned (.int .i64 0) ∧ w = w' := by
  rcases h with rfl | ⟨m, rfl, h⟩
  · go_enter Try.func19, Try.ntmps19
    go_wp2_with fail
    go_ret
    exact ⟨rfl, rfl⟩
  · obtain ⟨c2, c3, c4, c5, c6, c7, c8, c9⟩ := zcells h
    clear h
    go_enter Try.func19, Try.ntmps19
    go_wp2_with fail
    go_ret
    exact ⟨rfl, rfl⟩
theorem left_no (w : World) (v : Value) (h : NoM w v) : Calls Try.prog 15 #[v] w fun e w' => e = .returned (.int .i64 0) ∧ w = w' := by
  rcases h with rfl | ⟨m, rfl, h⟩
  · exact left_nil w
  · obtain ⟨c2, c3, c4, c5, c6, c7, c8, c9⟩ := zcells h
    clear h
    go_enter Try.func15, Try.ntmps15
    go_wp2_with fail
    go_ret
    exact ⟨rfl, rfl⟩
theorem regs_no (w : World) (v : Value) (h : NoM w v) : Calls Try.prog 21 #[v] w fun e w' => e = .returned (.slice none 0 0) ∧ w = w' := by
  rcases h with rfl | ⟨m, rfl, h⟩
  · go_enter Try.func21, Try.ntmps21
    go_wp2_with fail
    go_ret
    exact ⟨rfl, rfl⟩
  · obtain ⟨c2, c3, c4, c5, c6, c7, c8, c9⟩ := zcells h
    clear h
    go_enter Try.func21, Try.ntmps21
    go_wp2_with fail
    go_ret
    exact ⟨rfl, rfl⟩
theorem stack_no (t : Int) (w : World) (v : Value) (h : NoM w v) : Calls Try.prog 20 #[v, .int .i64 t] w fun e w' => e = .returned (.slice none 0 0) ∧ w = w' := by
  rcases h with rfl | ⟨m, rfl, h⟩
  · go_enter Try.func20, Try.ntmps20
    go_wp2_with fail
    go_ret
    exact ⟨rfl, rfl⟩
  · obtain ⟨c2, c3, c4, c5, c6, c7, c8, c9⟩ := zcells h
    clear h
    by_cases h0 : t < 0
    · have hd : decide (t < 0) = true := decide_eq_true h0
      go_enter Try.func20, Try.ntmps20
      go_wp2_with fail
      go_ret
      exact ⟨rfl, rfl⟩
    · have hd : decide (t < 0) = false := decide_eq_false h0
      have h1 : t ≥ 0 := by omega
      have hd1 : decide (t ≥ 0) = true := decide_eq_true h1
      have hd2 : decide (0 ≤ t) = true := decide_eq_true h1
      go_enter Try.func20, Try.ntmps20
      go_wp2_with fail
      go_ret
      exact ⟨rfl, rfl⟩
theorem clone_none (w : World) : Calls Try.prog 27 #[.slice none 0 0] w fun e w' => e = .returned (.slice none 0 0) ∧ w = w' := by
  have q22 : ∀ (w : World) (a : Option Addr) (n c n' c' : Nat), (binOp .eql 26 (.slice a n c) (.slice none n' c')).run Try.prog w = .ok (.bool a.isNone) w := fun w a n c n' c' => Lib.run_eql_slice_nil w _ _ a n c n' c' Try.underlying26
  go_enter Try.func27, Try.ntmps27
  go_wp2
  go_ret
  exact ⟨rfl, rfl⟩
set_option maxRecDepth 100000 in
set_option maxHeartbeats 4000000 in
theorem outcome_no (w : World) (v : Value) (h : NoM w v) : Calls Try.prog 14 #[v] w fun e w' => ∃ u, e = .returned u ∧ OutV w' u [] 0 0 [] ∧ Below w.heap.size w w' := by
  rcases h with rfl | ⟨m, rfl, h⟩
  · exact outcome_nil w
  · have hW : Below w.heap.size w (w.alloc (.cells #[.slice none 0 0, .int .u8 0, .int .u32 0, .slice none 0 0] 35)) := (Below.refl _ _).alloc (Nat.le_refl _) _
    have HZ := fhid (vrow_new w #[.slice none 0 0, .int .u8 0, .int .u32 0, .slice none 0 0] 35)
    have HM := fhid (h.below hW)
    have HW := fhid hW
    have hmw : m < w.heap.size := h.lt
    clear h hW
    go_enter Try.func14, Try.ntmps14
    go_wp2_with fail
    generalize w.alloc (.cells #[.slice none 0 0, .int .u8 0, .int .u32 0, .slice none 0 0] 35) = W at *
    have hzl := HZ.out.lt
    have hne : w.heap.size ≠ m := by omega
    have hd0 : Below W.heap.size W W.drew := (Below.refl _ _).drew
    have hle : W.heap.size ≤ W.heap.size := Nat.le_refl _
    have HKS := fhid (fun (w' : World) (hb : Below W.heap.size W w') => (show w'.cell? ⟨m, 3, none⟩ = some (.slice none 0 0) ∧ w'.cell? ⟨m, 4, none⟩ = some (.slice none 0 0) ∧ w'.cell? ⟨m, 8, none⟩ = some (.int .u8 0) ∧ w'.cell? ⟨m, 9, none⟩ = some (.int .u32 0) from
      ⟨(HM.out.below hb).cell (k := 3) rfl, (HM.out.below hb).cell (k := 4) rfl, (HM.out.below hb).cell (k := 8) rfl, (HM.out.below hb).cell (k := 9) rfl⟩))
    have hmz : ∀ i j : Nat, (⟨w.heap.size, i, none⟩ : Addr) ≠ ⟨m, j, none⟩ := fun i j e => by
      have e2 : w.heap.size = m := congrArg Addr.block e
      omega
    have HSS := fhid (fun (w' : World) (u0 u1 u2 u3 : Value) => (show ∀ j v, w'.cell? ⟨m, j, none⟩ = some v → ((((w'.setCell ⟨w.heap.size, 0, none⟩ u0).setCell ⟨w.heap.size, 1, none⟩ u1).setCell ⟨w.heap.size, 2, none⟩ u2).setCell ⟨w.heap.size, 3, none⟩ u3).cell? ⟨m, j, none⟩ = some v from fun j v h => by
      rw [World.cell?_setCell_other _ _ _ _ (hmz _ _), World.cell?_setCell_other _ _ _ _ (hmz _ _), World.cell?_setCell_other _ _ _ _ (hmz _ _), World.cell?_setCell_other _ _ _ _ (hmz _ _)]; exact h))
    clear hmz
    obtain ⟨c3, c4, c8, c9⟩ := HKS.out W (Below.refl _ _)
    have z0 := HZ.out.cell (k := 0) rfl
    have z1 := HZ.out.cell (k := 1) rfl
    have z2 := HZ.out.cell (k := 2) rfl
    have z3 := HZ.out.cell (k := 3) rfl
    have y0 := HZ.out.frozen 0
    have y1 := HZ.out.frozen 1
    have y2 := HZ.out.frozen 2
    have y3 := HZ.out.frozen 3
    go_region_held3 (fun w' => w'.cell? ⟨m, 3, none⟩ = some (.slice none 0 0) ∧ w'.cell? ⟨m, 4, none⟩ = some (.slice none 0 0) ∧ w'.cell? ⟨m, 8, none⟩ = some (.int .u8 0) ∧ w'.cell? ⟨m, 9, none⟩ = some (.int .u32 0)) (first | (with_reducible exact HKS.out _ hd0) | exact ⟨HSS.out _ _ _ _ _ _ _ (HKS.out _ hd0).1, HSS.out _ _ _ _ _ _ _ (HKS.out _ hd0).2.1, HSS.out _ _ _ _ _ _ _ (HKS.out _ hd0).2.2.1, HSS.out _ _ _ _ _ _ _ (HKS.out _ hd0).2.2.2⟩)
      (first
        | (go_at_call 27; (with_reducible refine (clone_none _).mono ?_); rintro e W3 ⟨rfl, rfl⟩))
    all_goals go_wp2_with fail
    all_goals
      have h9 := (((HZ.out.set (k := 0) (by simp) (.slice none 0 0)).set (k := 1) (by simp) (.int .u8 0)).set (k := 2) (by simp) (.int .u32 0)).set (k := 3) (by simp) (.slice none 0 0)
      have h10 := h9.of_block (w' := ((((W.setCell ⟨w.heap.size, 0, none⟩ (.slice none 0 0)).setCell ⟨w.heap.size, 1, none⟩ (.int .u8 0)).setCell ⟨w.heap.size, 2, none⟩ (.int .u32 0)).setCell ⟨w.heap.size, 3, none⟩ (.slice none 0 0)).drew) rfl
      have hb9 : Below w.heap.size w (((((W.setCell ⟨w.heap.size, 0, none⟩ (.slice none 0 0)).setCell ⟨w.heap.size, 1, none⟩ (.int .u8 0)).setCell ⟨w.heap.size, 2, none⟩ (.int .u32 0)).setCell ⟨w.heap.size, 3, none⟩ (.slice none 0 0)).drew) := ((((HW.out.setCell (p := ⟨w.heap.size, 0, none⟩) (by show w.heap.size ≤ w.heap.size; omega) (.slice none 0 0)).setCell (p := ⟨w.heap.size, 1, none⟩) (by show w.heap.size ≤ w.heap.size; omega) (.int .u8 0)).setCell (p := ⟨w.heap.size, 2, none⟩) (by show w.heap.size ≤ w.heap.size; omega) (.int .u32 0)).setCell (p := ⟨w.heap.size, 3, none⟩) (by show w.heap.size ≤ w.heap.size; omega) (.slice none 0 0)).drew
      generalize ((((W.setCell ⟨w.heap.size, 0, none⟩ (.slice none 0 0)).setCell ⟨w.heap.size, 1, none⟩ (.int .u8 0)).setCell ⟨w.heap.size, 2, none⟩ (.int .u32 0)).setCell ⟨w.heap.size, 3, none⟩ (.slice none 0 0)).drew = W9 at *
      have r0 := h10.cell (k := 0) rfl
      have r1 := h10.cell (k := 1) rfl
      have r2 := h10.cell (k := 2) rfl
      have r3 := h10.cell (k := 3) rfl
      have hz : Reads32 W9 (.slice none 0 0) [] := ⟨by simp [maxLen], _, _, rfl, fun h => by simp at h⟩
      have HFIN := fhid (And.intro hz hb9)
      clear hz hb9 h9 h10
      exact bodyPost_ret (v := .agg #[.slice none 0 0, .int .u8 0, .int .u32 0, .slice none 0 0]) (by simp [results, Try.results14, go_sem, r0, r1, r2, r3]; try rfl) rfl ⟨_, rfl, ⟨_, _, _, _, _, _, rfl, HFIN.out.1, HFIN.out.1⟩, HFIN.out.2⟩
set_option maxRecDepth 100000 in
set_option maxHeartbeats 8000000 in
theorem walk_FlatNone (t F : Int) (w : World) :
    Calls Try.prog 7 #[.int .i64 t, .int .i64 F] w fun e w' => e = .returned (.bool true) ∧ Below w.heap.size w w' := by
  have hm := (vrow_new w zeroM.toArray 62).alloc (.cells #[.pointer none, .pointer (some ⟨w.heap.size, 0, none⟩)] 50)
  have hl := vrow_new (w.alloc (.cells zeroM.toArray 62)) #[.pointer none, .pointer (some ⟨w.heap.size, 0, none⟩)] 50
  rw [World.size_alloc] at hl
  have hb : Below w.heap.size w ((w.alloc (.cells zeroM.toArray 62)).alloc (.cells #[.pointer none, .pointer (some ⟨w.heap.size, 0, none⟩)] 50)) := ((Below.refl _ _).alloc (Nat.le_refl _) _).alloc (by simp) _
  unfold zeroM at hm hl hb
  have HM := fhid hm
  have HL := fhid hl
  have HB := fhid hb
  clear hm hl hb
  go_enter Try.func7, Try.ntmps7
  go_wp2_with fail
  generalize ((w.alloc (.cells #[.int .i64 0, .slice none 0 0, .slice none 0 0, .slice none 0 0, .slice none 0 0, .slice none 0 0, .int .i64 0, .slice none 0 0, .int .u8 0, .int .u32 0] 62)).alloc (.cells #[.pointer none, .pointer (some ⟨w.heap.size, 0, none⟩)] 50)) = W0 at *
  go_loopw [7] (fun i wr => ∃ k : Nat, k ≤ 2 ∧ i = .int .i64 k ∧ Below W0.heap.size W0 wr) (fun i _ => 2 - (intOf i).toNat)
  case atStart => exact ⟨0, by omega, rfl, Below.refl _ _⟩
  case round =>
    obtain ⟨k, hk, rfl, hbr⟩ := hrel
    have HBR := fhid hbr
    clear hbr
    by_cases hlt : k < 2
    · have hc : k = 0 ∨ k = 1 := by omega
      clear hk hlt
      rcases hc with rfl | rfl
      · have hno : NoM wr (.pointer none) := .inl rfl
        have l0 := (HL.out.below HBR.out).cell (k := 0) rfl
        have HNO := fhid hno
        clear hno
        go_wp2_with fail
        refine (where_no wr _ HNO.out).mono ?_
        rintro e w1 ⟨rfl, rfl⟩
        clear l0
        go_wp2_with fail
        refine (step_no wr _ HNO.out).mono ?_
        rintro e w1 ⟨rfl, rfl⟩
        go_wp2_with fail
        refine (run_no F wr _ HNO.out).mono ?_
        rintro e w1 ⟨rfl, hb1⟩
        have HB1 := fhid hb1
        have HN1 := fhid (HNO.out.below hb1)
        clear hb1
        go_wp2_with fail
        refine (outcome_no w1 _ HN1.out).mono ?_
        rintro e w2 ⟨u, rfl, hov, hb2⟩
        have HOV := fhid hov
        have HB2 := fhid (HB1.out.trans (hb2.mono HB1.out.size))
        have HN2 := fhid (HN1.out.below hb2)
        clear hb2 hov
        go_wp2_with fail
        refine (osame_any w2 u (.agg #[.slice none 0 0, .int .u8 0, .int .u32 0, .slice none 0 0]) [] [] [] [] 0 0 0 0 HOV.out ⟨_, _, _, _, _, _, rfl, ⟨by simp [maxLen], _, _, rfl, fun h => by simp at h⟩, ⟨by simp [maxLen], _, _, rfl, fun h => by simp at h⟩⟩).mono ?_
        rintro e w3 ⟨rfl, hb3⟩
        have HB3 := fhid (HB2.out.trans (hb3.mono HB2.out.size))
        have HN3 := fhid (HN2.out.below hb3)
        clear hb3
        go_wp2_with fail
        refine (thread_no w3 _ HN3.out).mono ?_
        rintro e w4 ⟨rfl, rfl⟩
        go_wp2_with fail
        refine (stack_no t w3 _ HN3.out).mono ?_
        rintro e w4 ⟨rfl, rfl⟩
        go_wp2_with fail
        refine (regs_no w3 _ HN3.out).mono ?_
        rintro e w4 ⟨rfl, rfl⟩
        go_wp2_with fail
        refine (left_no w3 _ HN3.out).mono ?_
        rintro e w4 ⟨rfl, rfl⟩
        go_wp2_with fail
        go_roundw
        case rel => exact ⟨1, by omega, by first | rfl | go_num, HBR.out.trans (HB3.out.mono HBR.out.size)⟩
        case measure => simp [intOf]
      · have hno : NoM wr (.pointer (some ⟨w.heap.size, 0, none⟩)) := .inr ⟨_, rfl, HM.out.below HBR.out⟩
        have l1 := (HL.out.below HBR.out).cell (k := 1) rfl
        have HNO := fhid hno
        clear hno
        go_wp2_with fail
        refine (where_no wr _ HNO.out).mono ?_
        rintro e w1 ⟨rfl, rfl⟩
        clear l1
        go_wp2_with fail
        refine (step_no wr _ HNO.out).mono ?_
        rintro e w1 ⟨rfl, rfl⟩
        go_wp2_with fail
        refine (run_no F wr _ HNO.out).mono ?_
        rintro e w1 ⟨rfl, hb1⟩
        have HB1 := fhid hb1
        have HN1 := fhid (HNO.out.below hb1)
        clear hb1
        go_wp2_with fail
        refine (outcome_no w1 _ HN1.out).mono ?_
        rintro e w2 ⟨u, rfl, hov, hb2⟩
        have HOV := fhid hov
        have HB2 := fhid (HB1.out.trans (hb2.mono HB1.out.size))
        have HN2 := fhid (HN1.out.below hb2)
        clear hb2 hov
        go_wp2_with fail
        refine (osame_any w2 u (.agg #[.slice none 0 0, .int .u8 0, .int .u32 0, .slice none 0 0]) [] [] [] [] 0 0 0 0 HOV.out ⟨_, _, _, _, _, _, rfl, ⟨by simp [maxLen], _, _, rfl, fun h => by simp at h⟩, ⟨by simp [maxLen], _, _, rfl, fun h => by simp at h⟩⟩).mono ?_
        rintro e w3 ⟨rfl, hb3⟩
        have HB3 := fhid (HB2.out.trans (hb3.mono HB2.out.size))
        have HN3 := fhid (HN2.out.below hb3)
        clear hb3
        go_wp2_with fail
        refine (thread_no w3 _ HN3.out).mono ?_
        rintro e w4 ⟨rfl, rfl⟩
        go_wp2_with fail
        refine (stack_no t w3 _ HN3.out).mono ?_
        rintro e w4 ⟨rfl, rfl⟩
        go_wp2_with fail
        refine (regs_no w3 _ HN3.out).mono ?_
        rintro e w4 ⟨rfl, rfl⟩
        go_wp2_with fail
        refine (left_no w3 _ HN3.out).mono ?_
        rintro e w4 ⟨rfl, rfl⟩
        go_wp2_with fail
        go_roundw
        case rel => exact ⟨2, by omega, by first | rfl | go_num, HBR.out.trans (HB3.out.mono HBR.out.size)⟩
        case measure => simp [intOf]
    · obtain rfl : k = 2 := by omega
      go_wp2_with fail
      refine (head16_any wr).mono ?_
      rintro e w9 ⟨rfl, hb9⟩
      have HFIN := fhid ((HB.out.trans (HBR.out.mono HB.out.size)).trans (hb9.mono (HB.out.trans (HBR.out.mono HB.out.size)).size))
      clear hb9
      go_wp2_with fail
      go_ret
      exact ⟨rfl, HFIN.out⟩
end NoneW
set_option linter.unusedVariables false in
theorem walk_FlatNone (t : Int) (ht : I64 t) (F : Int) (hF : I64 F) (w : World) :
    Calls Try.prog 7 #[.int .i64 t, .int .i64 F] w fun e w' => e = .returned (.bool true) ∧ Go.RowKit.Below w.heap.size w w' := NoneW.walk_FlatNone t F w
end Go.Proofs.Ytdefooailcbnlaa
