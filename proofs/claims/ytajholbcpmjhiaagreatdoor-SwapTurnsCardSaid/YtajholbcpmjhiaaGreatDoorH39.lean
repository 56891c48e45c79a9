/- Several texts in one: Ref3Get, Ref3Win, Ref3Put, WorldLaw. -/
import Derived.Test.YtajholbcpmjhiaaGreatDoorH38
set_option linter.unusedVariables false
set_option linter.unusedSimpArgs false
/- The walks of the document's file (muntinref03): At, Get. -/
namespace Go.Proofs.YtajholbcpmjhiaaGreatDoor
open Go.RowKit Go.Maps
theorem atL_take {L : List Sd} {k o a : Int} {j : Nat} (h : j < L.length) : atL (L.take (j + 1)) k o a = if L[j].k = k ∧ L[j].o = o ∧ L[j].a = a then L[j].w else atL (L.take j) k o a := by
  rw [List.take_succ_eq_append_getElem h, atL_snoc]
theorem sd_cells {w : World} {g : Nat} {L : List Sd} (h : ∀ j u, (L.flatMap sdC)[j]? = some u → w.cell? ⟨g, j, none⟩ = some u) {i : Nat} (hi : i < L.length) :
    w.cell? ⟨g, i * 4, none⟩ = some (.int .i64 L[i].k) ∧ w.cell? ⟨g, i * 4 + 1, none⟩ = some (.int .i64 L[i].o) ∧ w.cell? ⟨g, i * 4 + 2, none⟩ = some (.int .i64 L[i].a) ∧ w.cell? ⟨g, i * 4 + 3, none⟩ = some (.int .u32 L[i].w) := by
  have key : ∀ (L : List Sd) (i : Nat) (hi : i < L.length) (q : Nat), q < 4 → (L.flatMap sdC)[i * 4 + q]? = (sdC L[i])[q]? := by
    intro L
    induction L with
    | nil => intro i hi; simp at hi
    | cons s L ih =>
      intro i hi q hq
      rw [List.flatMap_cons]
      cases i with
      | zero => rw [List.getElem?_append_left (by simp [sdC]; omega)]; simp
      | succ i =>
        rw [List.getElem?_append_right (by simp [sdC]; omega), show (sdC s).length = 4 from rfl, show (i + 1) * 4 + q - 4 = i * 4 + q by omega, ih i (by simpa using hi) q hq]
        rfl
  refine ⟨h _ _ ((key L i hi 0 (by omega)).trans rfl), h _ _ ((key L i hi 1 (by omega)).trans rfl), h _ _ ((key L i hi 2 (by omega)).trans rfl), h _ _ ((key L i hi 3 (by omega)).trans rfl)⟩
set_option maxRecDepth 100000 in
theorem cell_eql (a b c d e f : Int) (w : World) : (binOp .eql 193 (.agg #[.int .i64 a, .int .i64 b, .int .i64 c]) (.agg #[.int .i64 d, .int .i64 e, .int .i64 f])).run Tryz.prog w = .ok (.bool (a == d && (b == e && c == f))) w := by
  have hi : ∀ (x y : Int) (n : Nat) (w : World), (Op.equalIn (n + 1) 3 (.int .i64 x) (.int .i64 y)).run Tryz.prog w = .ok (x == y) w := fun x y n w => run_equalIn_int w n 3 .i64 .i64 x y Tryz.underlying3
  have hf : (Tryz.prog.fieldsOf 193).toList.map (fun f => (f.name, f.type, f.offset)) = [("Kind", 3, 0), ("Of", 3, 1), ("At", 3, 2)] := by kernel_rfl
  have hp0 : ∀ (x y z : Int) (w : World), (part 3 #[.int .i64 x, .int .i64 y, .int .i64 z] 0).run Tryz.prog w = .ok (.int .i64 x) w := fun x y z w => by kernel_rfl
  have hp1 : ∀ (x y z : Int) (w : World), (part 3 #[.int .i64 x, .int .i64 y, .int .i64 z] 1).run Tryz.prog w = .ok (.int .i64 y) w := fun x y z w => by kernel_rfl
  have hp2 : ∀ (x y z : Int) (w : World), (part 3 #[.int .i64 x, .int .i64 y, .int .i64 z] 2).run Tryz.prog w = .ok (.int .i64 z) w := fun x y z w => by kernel_rfl
  rw [run_eql_struct, show (10000 : Nat) = 9998 + 1 + 1 from rfl, run_equalIn_agg w (9998 + 1) 193 _ _ (by kernel_rfl) (by kernel_rfl)]
  generalize (Tryz.prog.fieldsOf 193).toList = fs at hf
  obtain ⟨f0, f1, f2, rfl⟩ : ∃ f0 f1 f2, fs = [f0, f1, f2] := by
    have hl := congrArg List.length hf
    rw [List.length_map] at hl
    match fs, hl with
    | [f0, f1, f2], _ => exact ⟨f0, f1, f2, rfl⟩
  · skip
    simp only [List.map_cons, List.map_nil, List.cons.injEq, Prod.mk.injEq, and_true] at hf
    obtain ⟨⟨n0, t0, o0⟩, ⟨n1, t1, o1⟩, ⟨n2, t2, o2⟩⟩ := hf
    have q0 : f0.name ≠ "_" := by rw [n0]; decide
    have q1 : f1.name ≠ "_" := by rw [n1]; decide
    have q2 : f2.name ≠ "_" := by rw [n2]; decide
    simp only [Op.eqFields, if_pos q0, if_pos q1, if_pos q2, t0, t1, t2, o0, o1, o2, Sem.run_bind, hp0, hp1, hp2, hi, Result.andThen_ok]
    cases h1 : (a == d) <;> cases h2 : (b == e) <;> cases h3 : (c == f) <;> simp [Sem.run_pure, Sem.run_bind, hp0, hp1, hp2, hi, h1, h2, h3]
set_option maxRecDepth 100000 in
set_option maxHeartbeats 4000000 in
theorem rf_at (W : World) (nw : Int) (lv : Value) (L : List Sd) (hq : LogIn W lv L) (hL : L.length < 1048576) (k o a : Int) :
    Calls Tryz.prog 132 #[.agg #[.int .i64 nw, lv], .agg #[.int .i64 k, .int .i64 o, .int .i64 a]] W fun e w' => e = .returned (.int .u32 (atF L k o a)) ∧ Below W.heap.size W w' := by
  obtain ⟨p, c, rfl⟩ := hq.shape
  have HQ := mhid hq
  clear hq
  obtain ⟨W1, hW1⟩ : ∃ x, x = (W.alloc (.cells #[.int .i64 nw, .slice p L.length c] 55)).alloc (.cells #[.int .i64 k, .int .i64 o, .int .i64 a] 193) := ⟨_, rfl⟩
  have hbw : Below W.heap.size W W1 := by rw [hW1]; exact ((Below.refl _ _).alloc (Nat.le_refl _) _).alloc (by simp) _
  have hB : ARow W1 W.heap.size 55 [.int .i64 nw, .slice p L.length c] := by rw [hW1]; exact (ARow.fresh W 55 #[.int .i64 nw, .slice p L.length c]).alloc _
  have hR : ARow W1 (W.heap.size + 1) 193 [.int .i64 k, .int .i64 o, .int .i64 a] := by
    rw [hW1]
    have := ARow.fresh (W.alloc (.cells #[.int .i64 nw, .slice p L.length c] 55)) 193 #[.int .i64 k, .int .i64 o, .int .i64 a]
    rw [World.size_alloc] at this; exact this
  have b0 := hB.cell (k := 0) rfl
  have b1 := hB.cell (k := 1) rfl
  have r0 := hR.cell (k := 0) rfl
  have r1 := hR.cell (k := 1) rfl
  have r2 := hR.cell (k := 2) rfl
  have HBW := mhid hbw
  have HQ1 := mhid (HQ.out.keep hbw)
  clear hbw hB hR
  have HNIL : Hid (0 < L.length → ∃ g, p = some ⟨g, 0, none⟩ ∧ ∀ i (hi : i < L.length), W1.cell? ⟨g, i * 4, none⟩ = some (.int .i64 L[i].k) ∧ W1.cell? ⟨g, i * 4 + 1, none⟩ = some (.int .i64 L[i].o) ∧ W1.cell? ⟨g, i * 4 + 2, none⟩ = some (.int .i64 L[i].a) ∧ W1.cell? ⟨g, i * 4 + 3, none⟩ = some (.int .u32 L[i].w)) := mhid (fun h0 => by
    rcases HQ1.out with ⟨h1, rfl⟩ | ⟨g, cap, h1, h2, h3⟩
    · simp at h0
    · cases h1
      exact ⟨g, rfl, fun i hi => sd_cells h3 hi⟩)
  by_cases hz : k = 0 ∧ a = 0
  · obtain ⟨rfl, rfl⟩ := hz
    have hv : atF L 0 o 0 = 0 := if_pos ⟨rfl, rfl⟩
    rw [hv]
    clear hv
    rw [hW1] at b0 b1 r0 r1 r2
    go_enter Tryz.func132, Tryz.ntmps132
    go_wp2_with fail
    go_ret
    exact ⟨rfl, by rw [← hW1]; exact HBW.out⟩
  have hv : atF L k o a = atL L k o a := if_neg hz
  rw [hv]
  clear hv
  by_cases hk0 : k = 0
  · have ha0 : ¬ a = 0 := fun h => hz ⟨hk0, h⟩
    subst hk0
    clear hz
    rw [hW1] at b0 b1 r0 r1 r2
    go_enter Tryz.func132, Tryz.ntmps132
    go_wp2_with fail
    rw [← hW1] at b0 b1 r0 r1 r2 ⊢
    clear hW1
    go_loopw [5] (fun v wr => ∃ j : Nat, j ≤ L.length ∧ v = .int .i64 ((j : Int) - 1) ∧ atL L 0 o a = atL (L.take j) 0 o a ∧ (∃ n, wr = W1.drewN n)) (fun v _ => (intOf v + 1).toNat)
    case atStart => exact ⟨L.length, Nat.le_refl _, rfl, by rw [List.take_length], 0, rfl⟩
    case round =>
      obtain ⟨j, hj, rfl, hat, n, rfl⟩ := hrel
      have HA := mhid hat
      clear hat
      by_cases hj0 : j = 0
      · subst hj0
        have h1 : ¬ ((((0 : Nat) : Int) - 1) ≥ 0) := by omega
        have e0 : atL L 0 o a = 0 := by rw [HA.out]; rfl
        have E0 := mhid e0
        clear e0
        go_wp2_with fail
        go_ret
        exact ⟨mret_val (by rw [E0.out]; rfl), Go.below_drewN HBW.out _⟩
      · obtain ⟨i, rfl⟩ : ∃ i, j = i + 1 := ⟨j - 1, by omega⟩
        obtain ⟨g, rfl, hc⟩ := HNIL.out (by omega)
        obtain ⟨c0, c1, c2, c3⟩ := hc i (by omega)
        have hst := atL_take (L := L) (k := 0) (o := o) (a := a) (show i < L.length by omega)
        have e1 : (((i + 1 : Nat) : Int) - 1) = (i : Int) := by omega
        have h1 : (i : Int) ≥ 0 := by omega
        have h2 : (i : Int) < (L.length : Int) := by omega
        rw [e1]
        have HST := mhid (HA.out.trans hst)
        clear hst HA hc HNIL e1
        generalize L[i].k = sk at *
        generalize L[i].o = so at *
        generalize L[i].a = sa at *
        generalize L[i].w = sw at *
        have CE := cell_eql
        by_cases hm : sk = 0 ∧ so = o ∧ sa = a
        · obtain ⟨rfl, rfl, rfl⟩ := hm
          have hv := HST.out
          rw [if_pos ⟨rfl, rfl, rfl⟩] at hv
          have HV := mhid hv
          clear hv HST
          go_wp2_with fail
          go_quiet (fail)
          go_wp2_with fail
          all_goals
            go_ret
            exact ⟨mret_val (by rw [HV.out]; rfl), Go.below_drewN HBW.out _⟩
        · have hv := HST.out
          rw [if_neg hm] at hv
          have HV := mhid hv
          have hmb : ∀ K, K = 0 → (sk == K && (so == o && sa == a)) = false := fun K hK => by subst hK; simp; intro h1 h2 h3; exact hm ⟨h1, h2, h3⟩
          have hmb := hmb _ rfl
          have CE : ∀ w : World, (binOp .eql 193 (.agg #[.int .i64 sk, .int .i64 so, .int .i64 sa]) (.agg #[.int .i64 0, .int .i64 o, .int .i64 a])).run Tryz.prog w = .ok (.bool false) w := fun w => by rw [cell_eql, hmb]
          clear hv HST hm hmb
          go_wp2_with fail
          go_quiet (fail)
          go_wp2_with fail
          all_goals first
            | (exfalso; simp_all; done)
            | exact ⟨⟨i, by omega, by go_num, HV.out, _, rfl⟩, by simp [intOf] <;> omega⟩
  · clear hz
    rw [hW1] at b0 b1 r0 r1 r2
    go_enter Tryz.func132, Tryz.ntmps132
    go_wp2_with fail
    rw [← hW1] at b0 b1 r0 r1 r2 ⊢
    clear hW1
    go_loopw [5] (fun v wr => ∃ j : Nat, j ≤ L.length ∧ v = .int .i64 ((j : Int) - 1) ∧ atL L k o a = atL (L.take j) k o a ∧ (∃ n, wr = W1.drewN n)) (fun v _ => (intOf v + 1).toNat)
    case atStart => exact ⟨L.length, Nat.le_refl _, rfl, by rw [List.take_length], 0, rfl⟩
    case round =>
      obtain ⟨j, hj, rfl, hat, n, rfl⟩ := hrel
      have HA := mhid hat
      clear hat
      by_cases hj0 : j = 0
      · subst hj0
        have h1 : ¬ ((((0 : Nat) : Int) - 1) ≥ 0) := by omega
        have e0 : atL L k o a = 0 := by rw [HA.out]; rfl
        have E0 := mhid e0
        clear e0
        go_wp2_with fail
        go_ret
        exact ⟨mret_val (by rw [E0.out]; rfl), Go.below_drewN HBW.out _⟩
      · obtain ⟨i, rfl⟩ : ∃ i, j = i + 1 := ⟨j - 1, by omega⟩
        obtain ⟨g, rfl, hc⟩ := HNIL.out (by omega)
        obtain ⟨c0, c1, c2, c3⟩ := hc i (by omega)
        have hst := atL_take (L := L) (k := k) (o := o) (a := a) (show i < L.length by omega)
        have e1 : (((i + 1 : Nat) : Int) - 1) = (i : Int) := by omega
        have h1 : (i : Int) ≥ 0 := by omega
        have h2 : (i : Int) < (L.length : Int) := by omega
        rw [e1]
        have HST := mhid (HA.out.trans hst)
        clear hst HA hc HNIL e1
        generalize L[i].k = sk at *
        generalize L[i].o = so at *
        generalize L[i].a = sa at *
        generalize L[i].w = sw at *
        have CE := cell_eql
        by_cases hm : sk = k ∧ so = o ∧ sa = a
        · obtain ⟨rfl, rfl, rfl⟩ := hm
          have hv := HST.out
          rw [if_pos ⟨rfl, rfl, rfl⟩] at hv
          have HV := mhid hv
          clear hv HST
          go_wp2_with fail
          go_quiet (fail)
          go_wp2_with fail
          all_goals
            go_ret
            exact ⟨mret_val (by rw [HV.out]; rfl), Go.below_drewN HBW.out _⟩
        · have hv := HST.out
          rw [if_neg hm] at hv
          have HV := mhid hv
          have hmb : ∀ K, K = k → (sk == K && (so == o && sa == a)) = false := fun K hK => by subst hK; simp; intro h1 h2 h3; exact hm ⟨h1, h2, h3⟩
          have hmb := hmb _ rfl
          have CE : ∀ w : World, (binOp .eql 193 (.agg #[.int .i64 sk, .int .i64 so, .int .i64 sa]) (.agg #[.int .i64 k, .int .i64 o, .int .i64 a])).run Tryz.prog w = .ok (.bool false) w := fun w => by rw [cell_eql, hmb]
          clear hv HST hm hmb
          go_wp2_with fail
          go_quiet (fail)
          go_wp2_with fail
          all_goals first
            | (exfalso; simp_all; done)
            | exact ⟨⟨i, by omega, by go_num, HV.out, _, rfl⟩, by simp [intOf] <;> omega⟩
end Go.Proofs.YtajholbcpmjhiaaGreatDoor
/- The walks of the document's file (muntinref03): Get, Window, Put. -/
namespace Go.Proofs.YtajholbcpmjhiaaGreatDoor
open Go.RowKit Go.Maps
set_option maxRecDepth 100000 in
set_option maxHeartbeats 4000000 in
theorem rf_get (W : World) (f : Fx) (hok : f.ok) (lv : Value) (L : List Sd) (hq : LogIn W lv L) (hL : L.length < 1048576) (hlog : LogOf L f) (wi b r : Int) :
    Calls Tryz.prog 76 #[.agg #[.int .i64 f.nw, lv], .int .i64 wi, .int .i64 b, .int .i64 r] W fun e w' => e = .returned (.tuple #[.int .u32 (getV f wi b r), .int .i64 (regE f wi b r)]) ∧ Below W.heap.size W w' := by
  obtain ⟨p, c, rfl⟩ := hq.shape
  obtain ⟨W1, hW1⟩ : ∃ x, x = W.alloc (.cells #[.int .i64 f.nw, .slice p L.length c] 55) := ⟨_, rfl⟩
  have hbw : Below W.heap.size W W1 := by rw [hW1]; exact (Below.refl _ _).alloc (Nat.le_refl _) _
  have hB : ARow W1 W.heap.size 55 [.int .i64 f.nw, .slice p L.length c] := by rw [hW1]; exact ARow.fresh W 55 #[.int .i64 f.nw, .slice p L.length c]
  have b0 := hB.cell (k := 0) rfl
  have b1 := hB.cell (k := 1) rfl
  have HB := mhid hB
  have HBW := mhid hbw
  have HQ1 := mhid (hq.keep hbw)
  have HP := mhid (rf_place W1 f hok (.slice p L.length c) ⟨_, _, _, rfl⟩ wi b r)
  have HLG := mhid hlog
  have h2 := hok.nw2
  clear hbw hB hq hlog
  rw [hW1] at b0 b1
  by_cases hr : regOk f wi b r
  · have hre : regE f wi b r = 0 := if_pos hr
    have hv : atF L (plK r) (plO f.nw wi b r) (plA r) = getV f wi b r := HLG.out.get h2 hr
    have HV := mhid (And.intro hv hre)
    unfold plAgg at HP
    rw [hre, if_pos hr, if_pos hr, if_pos hr] at HP
    clear hv hre hr HLG hok
    generalize plK r = K at *
    generalize plO (f.nw : Int) wi b r = O at *
    generalize plA r = A at *
    go_enter Tryz.func76, Tryz.ntmps76
    go_wp2_with fail
    rw [← hW1] at b0 b1 ⊢
    clear hW1
    refine HP.out.mono ?_
    rintro e W2 ⟨rfl, hb⟩
    have b0 := (hb.cell (p := ⟨W.heap.size, 0, none⟩) (World.block_lt_of_cell? _ _ b0)).trans b0
    have b1 := (hb.cell (p := ⟨W.heap.size, 1, none⟩) (World.block_lt_of_cell? _ _ b1)).trans b1
    have HQ2 := mhid (HQ1.out.keep hb)
    have HBW := mhid (HBW.out.trans (hb.mono HBW.out.size))
    have hlt := World.block_lt_of_cell? _ _ b0
    clear hb HP HQ1
    obtain ⟨C, hC⟩ : ∃ C, C = W2.heap.size := ⟨_, rfl⟩
    obtain ⟨W3, hW3⟩ : ∃ x, x = W2.alloc (.cells #[.int .i64 K, .int .i64 O, .int .i64 A] 193) := ⟨_, rfl⟩
    have hb3 : Below W2.heap.size W2 W3 := by rw [hW3]; exact (Below.refl _ _).alloc (Nat.le_refl _) _
    have hC3 : ARow W3 C 193 [.int .i64 K, .int .i64 O, .int .i64 A] := by rw [hW3, hC]; exact ARow.fresh W2 193 #[.int .i64 K, .int .i64 O, .int .i64 A]
    have d0 := hC3.cell (k := 0) rfl
    have d1 := hC3.cell (k := 1) rfl
    have d2 := hC3.cell (k := 2) rfl
    have b0 := (hb3.cell (p := ⟨W.heap.size, 0, none⟩) hlt).trans b0
    have b1 := (hb3.cell (p := ⟨W.heap.size, 1, none⟩) hlt).trans b1
    have HQ3 := mhid (HQ2.out.keep hb3)
    have HBW := mhid (HBW.out.trans (hb3.mono HBW.out.size))
    have HAT := mhid (fun (w' : World) (h : Below W3.heap.size W3 w') => rf_at w' f.nw (.slice p L.length c) L (HQ3.out.keep h) hL K O A)
    have hsz : W2.heap.size < W3.heap.size := by rw [hW3]; simp
    clear hb3 hC3 hlt HQ2
    subst hC
    rw [hW3] at b0 b1 d0 d1 d2
    go_wp2_with fail
    rw [← hW3] at b0 b1 d0 d1 d2 ⊢
    clear hW3
    refine (HAT.out W3 (Below.refl _ _)).mono ?_
    rintro e W4 ⟨rfl, hb4⟩
    have HBW := mhid (HBW.out.trans (hb4.mono HBW.out.size))
    clear hb4 b0 b1 d0 d1 d2
    go_wp2_with fail
    go_ret2
    refine ⟨?_, HBW.out⟩
    rw [← HV.out.1, HV.out.2]
    rfl
  · have hre : regE f wi b r = 2 := if_neg hr
    have hv : getV f wi b r = 0 := if_neg hr
    have HV := mhid (And.intro hv hre)
    unfold plAgg at HP
    rw [hre, if_neg hr, if_neg hr, if_neg hr] at HP
    clear hv hre hr HLG hok
    go_enter Tryz.func76, Tryz.ntmps76
    go_wp2_with fail
    rw [← hW1] at b0 b1 ⊢
    clear hW1
    refine HP.out.mono ?_
    rintro e W2 ⟨rfl, hb⟩
    have HBW := mhid (HBW.out.trans (hb.mono HBW.out.size))
    clear hb HP HQ1 b0 b1
    go_wp2_with fail
    go_ret2
    refine ⟨?_, HBW.out.alloc HBW.out.size _⟩
    rw [HV.out.1, HV.out.2]
    rfl
theorem winV_get {f : Fx} (hok : f.ok) {wi : Int} (h : regOk f wi 0 0) {j : Nat} (hj : j < 16) : (winV f wi).getD j 0 = getV f wi 0 (16 + j) ∧ (winV f wi).length = 16 := by
  have hl := hok.wl
  obtain ⟨⟨a1, a2⟩, -, -⟩ := h
  have hr : regOk f wi 0 (16 + (j : Int)) := ⟨⟨a1, a2⟩, by omega, by omega, by omega⟩
  unfold winV getV
  rw [if_pos (show regOk f wi 0 0 from ⟨⟨a1, a2⟩, by omega, by omega, by omega⟩), if_pos hr]
  refine ⟨?_, winR_len hok (by omega)⟩
  unfold winR getF
  rw [if_neg (by omega), if_neg (by omega), if_neg (by omega), List.getD_eq_getElem?_getD, List.getD_eq_getElem?_getD, List.getElem?_take_of_lt hj, List.getElem?_drop]
  congr 3
  omega
theorem winV_no {f : Fx} {wi : Int} (h : ¬ regOk f wi 0 0) : winV f wi = [] := if_neg h
theorem infou4 : (Tryz.prog.info? 24).map (fun i => (i.zero, i.size, i.bytes)) = some (some (.int .u32 0), 1, 4) := by kernel_rfl
theorem regE_any (f : Fx) (wi : Int) {r : Int} (h : 0 ≤ r ∧ r < 32) : regE f wi 0 r = regE f wi 0 0 := by
  unfold regE
  by_cases h1 : 0 ≤ wi ∧ wi < (f.nw : Int)
  · rw [if_pos (show regOk f wi 0 r from ⟨h1, by omega, h.1, h.2⟩), if_pos (show regOk f wi 0 0 from ⟨h1, by omega, by omega, by omega⟩)]
  · rw [if_neg (fun hh : regOk f wi 0 r => h1 hh.1), if_neg (fun hh : regOk f wi 0 0 => h1 hh.1)]
theorem own_mono' {w : World} {base base' : Nat} {e : TypeId} {size : Nat} {v : Value} {n : Nat} {xs : List Value} (h : w.ownsRow base e size v n xs) (hb : base' ≤ base) : w.ownsRow base' e size v n xs := by
  refine ⟨h.1, h.2.imp id ?_⟩
  rintro ⟨g, cap, cur, h1, h2, h3⟩
  exact ⟨g, cap, cur, h1, by omega, h3⟩
theorem own_below' {w w' : World} {base : Nat} {e : TypeId} {size n : Nat} {v : Value} {xs : List Value} (h : w.ownsRow base e size v n xs) (hb : Below w.heap.size w w') : w'.ownsRow base e size v n xs := by
  refine ⟨h.1, h.2.imp id ?_⟩
  rintro ⟨g, cap, cur, h1, h2, h3, h4⟩
  exact ⟨g, cap, cur, h1, h2, (hb.block g (Array.getElem?_eq_some_iff.1 h3).1).trans h3, h4⟩
set_option maxRecDepth 100000 in
set_option maxHeartbeats 4000000 in
theorem rf_window (W : World) (f : Fx) (hok : f.ok) (lv : Value) (L : List Sd) (hq : LogIn W lv L) (hL : L.length < 1048576) (hlog : LogOf L f) (wi : Int) :
    Calls Tryz.prog 75 #[.agg #[.int .i64 f.nw, lv], .int .i64 wi] W (FTells f wi W) := by
  obtain ⟨p, c, rfl⟩ := hq.shape
  obtain ⟨W1, hW1⟩ : ∃ x, x = W.alloc (.cells #[.int .i64 f.nw, .slice p L.length c] 55) := ⟨_, rfl⟩
  have hbw : Below W.heap.size W W1 := by rw [hW1]; exact (Below.refl _ _).alloc (Nat.le_refl _) _
  have hB : ARow W1 W.heap.size 55 [.int .i64 f.nw, .slice p L.length c] := by rw [hW1]; exact ARow.fresh W 55 #[.int .i64 f.nw, .slice p L.length c]
  have HB := mhid (And.intro (hB.cell (k := 0) rfl) (hB.cell (k := 1) rfl))
  have HBW := mhid hbw
  have hsz1 : W1.heap.size = W.heap.size + 1 := by rw [hW1]; simp
  have HG := mhid (fun (w' : World) (h : Below W1.heap.size W1 w') (r : Int) => rf_get w' f hok (.slice p L.length c) L (((hq.keep hbw)).keep h) hL hlog wi 0 r)
  have HOK := mhid hok
  have HRE := mhid (fun (r : Int) (h : 0 ≤ r ∧ r < 32) => regE_any f wi h)
  clear hbw hB hq hlog hok
  go_enter Tryz.func75, Tryz.ntmps75
  go_wp2_with fail
  rw [← hW1]
  clear hW1
  obtain ⟨i0, hi, hz0, hz1, hz2⟩ := info_parts infou4
  by_cases hr : regOk f wi 0 0
  · have HW := mhid (fun (j : Nat) (hj : j < 16) => winV_get HOK.out hr hj)
    have hre0 : regE f wi 0 0 = 0 := if_pos hr
    have HE0 := mhid hre0
    clear hre0 hr
    go_loopw [6, 7] (fun va i wr => ∃ k : Nat, k ≤ 16 ∧ i = .int .i64 ((16 + k : Nat) : Int) ∧ Hid (wr.ownsRow W1.heap.size 24 1 va k (u32s ((winV f wi).take k))) ∧ Hid (Below W1.heap.size W1 wr)) (fun _ i _ => 32 - (intOf i).toNat)
    case atStart => exact ⟨0, by omega, rfl, mhid (World.ownsRow_nil _ _ _ _), mhid (Below.refl _ _)⟩
    case round =>
      obtain ⟨k, hk, rfl, RO, BE⟩ := hrel
      have b0 := (BE.out.cell (World.block_lt_of_cell? _ _ HB.out.1)).trans HB.out.1
      have b1 := (BE.out.cell (World.block_lt_of_cell? _ _ HB.out.2)).trans HB.out.2
      by_cases hlt : k < 16
      · have h1 : ((16 + k : Nat) : Int) < 32 := by omega
        have hwl := (HW.out k hlt).2
        have HT := mhid (show (winV f wi).take (k + 1) = (winV f wi).take k ++ [getV f wi 0 (16 + k)] from by
          rw [List.take_succ_eq_append_getElem (by omega), ← (HW.out k hlt).1, List.getD_eq_getElem?_getD, List.getElem?_eq_getElem (by omega)]; rfl)
        have hg := HG.out wr BE.out ((16 + k : Nat) : Int)
        rw [HRE.out _ (by omega), HE0.out, show ((16 + k : Nat) : Int) = 16 + (k : Int) from by omega] at hg
        have HG2 := mhid hg
        rw [show ((16 + k : Nat) : Int) = 16 + (k : Int) from by omega] at h1 ⊢
        clear hg
        generalize getV f wi 0 (16 + (k : Int)) = x at *
        go_wp2_with fail
        refine HG2.out.mono ?_
        rintro e w2 ⟨rfl, hb2⟩
        have RO2 := mhid (own_below' RO.out hb2)
        have BE2 := mhid (BE.out.trans (hb2.mono BE.out.size))
        have hszz := BE2.out.size
        clear hb2 RO BE b0 b1 HG2
        go_wp2_with (at_builtin; refine wpList_append_own _ rfl _ _ 22 rfl W1.heap.size 24 i0 (.int .u32 0) 1 4 Tryz.underlying22 hi hz0 hz1 hz2 rfl (by decide) _ k (u32s ((winV f wi).take k)) rfl (RO2.out.alloc _) ⟨w2.heap.size, 0, none⟩ 1 1 [.int .u32 x] rfl rfl (cell_one_new _ _ _) (by simp [Value.oneCell']) (by unfold maxLen; omega) (by omega) (by simp; omega) ?_; intro v' w3 hown hgrow hnil)
        have hr3 : w3.ownsRow W1.heap.size 24 1 v' (k + 1) (u32s ((winV f wi).take (k + 1))) := by rw [HT.out]; simpa [u32s] using hown
        have hb3 : Below W1.heap.size W1 w3 := (BE2.out.alloc hszz _).grown hgrow (by simp; omega) (fun r e => ((RO2.out.alloc (.cells #[.int .u32 x] 24)).lt r e).1)
        exact ⟨⟨k + 1, by omega, by go_num, mhid hr3, mhid hb3⟩, by simp [intOf] <;> omega⟩
      · obtain rfl : k = 16 := by omega
        have hwl := (HW.out 0 (by omega)).2
        have HRO := mhid (show wr.ownsRow W.heap.size 24 1 _ (winV f wi).length (u32s (winV f wi)) from by
          have h := RO.out
          rw [List.take_of_length_le (by omega)] at h
          rw [hwl]
          exact own_mono' h (by omega))
        have HBE := mhid (HBW.out.trans (BE.out.mono HBW.out.size))
        clear hwl RO BE
        go_wp2_with fail
        go_ret2
        exact ⟨_, by rw [HE0.out]; rfl, HRO.out, HBE.out⟩
  · have hre0 : regE f wi 0 0 = 2 := if_neg hr
    have hwv := winV_no hr
    have HE0 := mhid (And.intro hre0 hwv)
    have hg := HG.out W1 (Below.refl _ _) 16
    rw [HRE.out 16 (by omega), hre0] at hg
    have HG2 := mhid hg
    have b0 := HB.out.1
    have b1 := HB.out.2
    clear hg hre0 hwv hr
    refine wp_loop_rounds 1 ?_
    rw [rounds_succ]
    go_wp2_with fail
    refine HG2.out.mono ?_
    rintro e w2 ⟨rfl, hb2⟩
    have BE2 := mhid (HBW.out.trans (hb2.mono HBW.out.size))
    clear hb2
    go_wp2_with fail
    go_ret2
    exact ⟨_, by rw [HE0.out.1]; rfl, by rw [HE0.out.2]; exact own_nil _ _, BE2.out⟩
end Go.Proofs.YtajholbcpmjhiaaGreatDoor
/- The walk of the document's file (muntinref03): Put. -/
namespace Go.Proofs.YtajholbcpmjhiaaGreatDoor
open Go.RowKit Go.Maps
def setsF (f : Fx) (w : Int) (l : List Int) : Nat → Fx
  | 0 => f
  | k + 1 => setV (setsF f w l k) w 0 (16 + (k : Int)) (l.getD k 0)
theorem setsF_nw (f : Fx) (w : Int) (l : List Int) : ∀ k, (setsF f w l k).nw = f.nw
  | 0 => rfl
  | k + 1 => (setV_nw _ _ _ _ _).trans (setsF_nw f w l k)
theorem setsF_ok {f : Fx} (h : f.ok) (w : Int) {l : List Int} (hl : Words l) : ∀ k, (setsF f w l k).ok
  | 0 => h
  | k + 1 => (setsF_ok h w hl k).sV _ _ _ (hl.at k)
theorem R2.far {w : World} {b c : Nat} {x y : Value} (h : R2 w b x y) (u v : Value) (hne : b ≠ c) : R2 ((w.setCell ⟨c, 0, none⟩ u).setCell ⟨c, 1, none⟩ v) b x y := by
  obtain ⟨c0, c1, f0, f1⟩ := h
  refine ⟨?_, ?_, by simpa using f0, by simpa using f1⟩
  · rw [World.cell?_setCell_far _ _ _ _ (by simp; omega), World.cell?_setCell_far _ _ _ _ (by simp; omega)]; exact c0
  · rw [World.cell?_setCell_far _ _ _ _ (by simp; omega), World.cell?_setCell_far _ _ _ _ (by simp; omega)]; exact c1
theorem LogIn.far2 {w : World} {b : Nat} {v : Value} {L : List Sd} (h : LogIn w v L) (x y : Value) (hne : ∀ k, v.ownBlock = some k → k ≠ b) : LogIn ((w.setCell ⟨b, 0, none⟩ x).setCell ⟨b, 1, none⟩ y) v L := by
  rcases h with h | ⟨g, cap, rfl, h2, h3⟩
  · exact .inl h
  · have hg : g ≠ b := hne g rfl
    refine .inr ⟨g, cap, rfl, by simpa using h2, fun j u hu => ?_⟩
    rw [World.cell?_setCell_far _ _ _ _ (by simp; omega), World.cell?_setCell_far _ _ _ _ (by simp; omega)]
    exact h3 j u hu
def RfPuts (W : World) (lv : Value) (f f' : Fx) (er : Int) (L : List Sd) (e : Ending) (w' : World) : Prop :=
  ∃ lv' L', e = .returned (.tuple #[.agg #[.int .i64 f.nw, lv'], .int .i64 er]) ∧ LogIn w' lv' L' ∧ LogOf L' f' ∧ L'.length ≤ L.length + 16 ∧ Below W.heap.size W w' ∧ ∀ k, lv'.ownBlock = some k → lv.ownBlock = some k ∨ W.heap.size ≤ k
set_option maxRecDepth 100000 in
set_option maxHeartbeats 4000000 in
theorem rf_put (W : World) (f : Fx) (hok : f.ok) (lv : Value) (L : List Sd) (hq : LogIn W lv L) (hL : L.length < 1048000) (hlog : LogOf L f) (wi : Int) (v : Value) (l : List Int) (hv : Reads32 W v l) (hw : Words l) (hwi : 0 ≤ wi ∧ wi < f.nw) (hl : l.length = 16) :
    Calls Tryz.prog 68 #[.agg #[.int .i64 f.nw, lv], .int .i64 wi, v] W (RfPuts W lv f (setsF f wi l 16) 0 L) := by
  obtain ⟨p, c, rfl⟩ := hq.shape
  obtain ⟨bv, ov, cv, rfl, hcv⟩ : ∃ b o c, v = .slice (some ⟨b, o, none⟩) 16 c ∧ ∀ k, k < 16 → W.cell? ⟨b, o + k, none⟩ = some (.int .u32 (l.getD k 0)) := by
    obtain ⟨b, o, p, c, h1, _, h3, h4⟩ := hv.shape
    exact ⟨b, o, c, by rw [h1, h3 (by omega), hl], fun k hk => h4 k (by omega)⟩
  obtain ⟨W1, hW1⟩ : ∃ x, x = W.alloc (.cells #[.int .i64 f.nw, .slice p L.length c] 55) := ⟨_, rfl⟩
  have hbw : Below W.heap.size W W1 := by rw [hW1]; exact (Below.refl _ _).alloc (Nat.le_refl _) _
  have HB := mhid (show R2 W1 W.heap.size (.int .i64 f.nw) (.slice p L.length c) from by rw [hW1]; exact R2.new _ _ _ _)
  have HBW := mhid hbw
  have HQ1 := mhid (hq.keep hbw)
  have HQ0 := mhid hq
  have HCW := mhid hcv
  have HCV := mhid (fun (k : Nat) (hk : k < 16) => (hbw.cell (World.block_lt_of_cell? _ _ (hcv k hk))).trans (hcv k hk))
  have hbv : bv < W.heap.size := World.block_lt_of_cell? _ _ (hcv 0 (by omega))
  have HLG := mhid hlog
  have HOK := mhid (And.intro hok hw)
  have b0 := HB.out.c0
  have b1 := HB.out.c1
  have hw0 : ¬ wi < 0 := by omega
  have hw1 : ¬ wi ≥ (f.nw : Int) := by omega
  have hsz1 : W1.heap.size = W.heap.size + 1 := by rw [hW1]; simp
  clear hbw hq hlog hok hv hcv
  rw [hW1] at b0 b1
  go_enter Tryz.func68, Tryz.ntmps68
  go_wp2_with fail
  rw [← hW1] at b0 b1 ⊢
  clear hW1
  have HB1 := mhid (HB.out.al (.cells #[.int .i64 0, .slice none 0 0] 55))
  have HR1 := mhid (show R2 (W1.alloc (.cells #[.int .i64 0, .slice none 0 0] 55)) (W.heap.size + 1) (.int .i64 0) (.slice none 0 0) from by rw [← hsz1]; exact R2.new _ _ _ _)
  have hb2 : Below W1.heap.size W1 (W1.alloc (.cells #[.int .i64 0, .slice none 0 0] 55)) := (Below.refl _ _).alloc (Nat.le_refl _) _
  have HB2 := mhid (HBW.out.trans (hb2.mono HBW.out.size))
  have HQ2 := mhid (HQ1.out.keep hb2)
  have HCV2 := mhid (fun (k : Nat) (hk : k < 16) => (hb2.cell (World.block_lt_of_cell? _ _ (HCV.out k hk))).trans (HCV.out k hk))
  have HOL := mhid (show ∀ k, (Value.slice p L.length c).ownBlock = some k → k < W.heap.size from fun k hk => by
    rcases HQ0.out with ⟨h3, _⟩ | ⟨g', cap', h3, h4, _⟩
    · rw [h3] at hk; cases hk
    · rw [h3] at hk; simp [Value.ownBlock] at hk; omega)
  have hsz2 : W.heap.size + 2 ≤ (W1.alloc (.cells #[.int .i64 0, .slice none 0 0] 55)).heap.size := by simp; omega
  clear b0 b1 HB HBW HQ1 HCV hb2
  generalize W1.alloc (.cells #[.int .i64 0, .slice none 0 0] 55) = W2 at *
  go_loopw [8] (fun i wr => ∃ (k : Nat) (lv' : Value) (L' : List Sd), k ≤ 16 ∧ i = .int .i64 (k : Int) ∧ Hid (R2 wr W.heap.size (.int .i64 f.nw) lv') ∧ Hid (R2 wr (W.heap.size + 1) (.int .i64 0) (.slice none 0 0)) ∧ Hid (LogIn wr lv' L' ∧ LogOf L' (setsF f wi l k)) ∧ L'.length ≤ L.length + k ∧ Hid (∀ k, lv'.ownBlock = some k → (Value.slice p L.length c).ownBlock = some k ∨ W.heap.size + 2 ≤ k) ∧ Hid (Below W.heap.size W wr ∧ W.heap.size + 2 ≤ wr.heap.size)) (fun i _ => 16 - (intOf i).toNat)
  case atStart => exact ⟨0, _, L, by omega, rfl, HB1, HR1, mhid ⟨HQ2.out, HLG.out⟩, by omega, mhid (fun k hk => .inl hk), mhid ⟨HB2.out, hsz2⟩⟩
  case round =>
    obtain ⟨k, lv', L', hk, rfl, RB, RR, RQ, hLL, RO, BE⟩ := hrel
    obtain ⟨b0, b1, bf0, bf1⟩ := RB.out
    obtain ⟨p', c', rfl⟩ := RQ.out.1.shape
    by_cases hlt : k < 16
    · have h1 : (k : Int) < 16 := by omega
      have c0 := HCV2.out k hlt
      have c1 := (BE.out.1.cell hbv).trans (HCW.out k hlt)
      have hset := rf_set wr.drew (setsF f wi l k) (setsF_ok HOK.out.1 wi HOK.out.2 k) (.slice p' L'.length c') L' (RQ.out.1.keep (Below.refl _ wr).drew) (by omega) RQ.out.2 wi 0 (IntKind.i64.wrap (16 + (k : Int))) (l.getD k 0)
      have e16 : IntKind.i64.wrap (16 + (k : Int)) = 16 + (k : Int) := IntWalk.i64_in _ (by omega)
      have E16 := mhid e16
      clear e16
      rw [setsF_nw] at hset
      have HSET := mhid hset
      have hre : regE (setsF f wi l k) wi 0 (16 + (k : Int)) = 0 := if_pos ⟨⟨hwi.1, by rw [setsF_nw]; exact hwi.2⟩, by omega, by omega, by omega⟩
      have HRE := mhid hre
      clear hset c0 hre
      have hn : setsF f wi l (k + 1) = setV (setsF f wi l k) wi 0 (16 + (k : Int)) (l.getD k 0) := rfl
      have HNX := mhid hn
      clear hn
      generalize l.getD k 0 = x at *
      go_wp2_with fail
      go_region_law (first | (go_simp; go_at_call 69; (with_reducible refine HSET.out.mono ?_); rintro e w5 ⟨lv2, L2, rfl, hq5, hlog5, hlen5, hb5, hown5⟩; obtain ⟨p5, c5, rfl⟩ := hq5.shape; obtain ⟨b0, b1, bf0, bf1⟩ := RB.out.keepB ((Below.refl _ wr).drew.trans hb5) RB.out.lt))
      all_goals
        rw [setsF_nw]
        have hB5 := RB.out.keepB ((Below.refl _ wr).drew.trans hb5) RB.out.lt
        have hR5 := RR.out.keepB ((Below.refl _ wr).drew.trans hb5) RR.out.lt
        have hS := hB5.set (.int .i64 f.nw) (.slice p5 L2.length c5)
        have hT := hR5.far (.int .i64 f.nw) (.slice p5 L2.length c5) (show W.heap.size + 1 ≠ W.heap.size by omega)
        have hbw5 : Below W.heap.size W w5 := BE.out.1.trans (((Below.refl _ wr).drew.trans hb5).mono BE.out.1.size)
        have hbel := (hbw5.setCell (p := ⟨W.heap.size, 0, none⟩) (Nat.le_refl _) (.int .i64 f.nw)).setCell (p := ⟨W.heap.size, 1, none⟩) (Nat.le_refl _) (.slice p5 L2.length c5)
        have hown : ∀ k, (Value.slice p5 L2.length c5).ownBlock = some k → (Value.slice p L.length c).ownBlock = some k ∨ W.heap.size + 2 ≤ k := fun q hq => by
          rcases hown5 q hq with h | h
          · exact RO.out q h
          · exact .inr (Nat.le_trans BE.out.2 h)
        have hlog := hq5.far2 (b := W.heap.size) (.int .i64 f.nw) (.slice p5 L2.length c5) (fun q hq => by
          rcases hown q hq with h | h
          · have := HOL.out q h; omega
          · omega)
        have hsz := Nat.le_trans BE.out.2 (show wr.heap.size ≤ ((w5.setCell ⟨W.heap.size, 0, none⟩ (.int .i64 f.nw)).setCell ⟨W.heap.size, 1, none⟩ (.slice p5 L2.length c5)).heap.size by have := hb5.size; simpa using this)
        have hE := E16.out
        rw [hE] at hlog5
        rw [← HNX.out] at hlog5
        clear b0 b1 bf0 bf1 hB5 hR5 hbw5 hq5
        generalize (w5.setCell ⟨W.heap.size, 0, none⟩ (.int .i64 f.nw)).setCell ⟨W.heap.size, 1, none⟩ (.slice p5 L2.length c5) = W9 at *
        go_wp2_with fail
        exact ⟨⟨k + 1, _, L2, by omega, by go_num, mhid hS, mhid hT, mhid ⟨hlog, hlog5⟩, by omega, mhid hown, mhid ⟨hbel, hsz⟩⟩, by simp [intOf] <;> omega⟩
    · obtain rfl : k = 16 := by omega
      obtain ⟨r0, r1, rf0, rf1⟩ := RR.out
      go_wp2_with fail
      have hS := (R2.mk r0 r1 rf0 rf1).set (.int .i64 f.nw) (.slice p' L'.length c')
      have hbel := (BE.out.1.setCell (p := ⟨W.heap.size + 1, 0, none⟩) (by simp) (.int .i64 f.nw)).setCell (p := ⟨W.heap.size + 1, 1, none⟩) (by simp) (.slice p' L'.length c')
      have hlog := RQ.out.1.far2 (b := W.heap.size + 1) (.int .i64 f.nw) (.slice p' L'.length c') (fun q hq => by
          rcases RO.out q hq with h | h
          · have := HOL.out q h; omega
          · omega)
      clear b0 b1 bf0 bf1 r0 r1 rf0 rf1
      generalize (wr.setCell ⟨W.heap.size + 1, 0, none⟩ (.int .i64 f.nw)).setCell ⟨W.heap.size + 1, 1, none⟩ (.slice p' L'.length c') = W9 at *
      obtain ⟨s0, s1, _, _⟩ := hS
      refine bodyPost_ret (by simp [results, Tryz.results68, go_sem, s0, s1]; try rfl) rfl ?_
      exact ⟨_, L', rfl, hlog, RQ.out.2, hLL, hbel, fun k hk => (RO.out k hk).imp id (fun h => by omega)⟩
end Go.Proofs.YtajholbcpmjhiaaGreatDoor
/- Plain law: two files that are alike; how one is built window by window, global by global. No program in sight. -/
namespace Go.Proofs.YtajholbcpmjhiaaGreatDoor
open Go.RowKit
theorem setsF_win {f : Fx} (hok : f.ok) {w : Nat} (hw : w < f.nw) {l : List Int} (hl : l.length = 16) : ∀ k, k ≤ 16 → setsF f w l k = { f with win := setW f.win w (l.take k) } := by
  intro k
  induction k with
  | zero => intro _; show f = _; rw [List.take_zero, setW_nil]
  | succ k ih =>
    intro hk
    have hwl := hok.wl
    show setV (setsF f w l k) w 0 (16 + (k : Int)) (l.getD k 0) = _
    rw [ih (by omega)]
    unfold setV
    rw [if_pos (show regOk _ (w : Int) 0 (16 + (k : Int)) from ⟨⟨by omega, by show (w : Int) < (f.nw : Int); omega⟩, by omega, by omega, by omega⟩)]
    unfold setF
    have e1 : (16 + (k : Int)).toNat = 16 + k := by omega
    rw [e1, if_neg (by omega), if_neg (by omega), if_neg (by omega), Int.toNat_natCast, show 16 + k - 16 = k by omega]
    have e2 : l.take (k + 1) = l.take k ++ [l.getD k 0] := by rw [List.take_succ_eq_append_getElem (by omega), List.getD_eq_getElem?_getD, List.getElem?_eq_getElem (by omega)]; rfl
    have e3 : (l.take k).length = k := by rw [List.length_take]; omega
    rw [e2, setW_snoc (by rw [e3]; omega), e3]
theorem setsF_all {f : Fx} (hok : f.ok) {w : Nat} (hw : w < f.nw) {l : List Int} (hl : l.length = 16) : setsF f w l 16 = { f with win := setW f.win w l } := by
  rw [setsF_win hok hw hl 16 (Nat.le_refl _), List.take_of_length_le (by omega)]
theorem winV_nat {f : Fx} {w : Nat} (hw : w < f.nw) : winV f w = winR f w := by
  unfold winV; rw [if_pos (show regOk f w 0 0 from ⟨⟨by omega, by omega⟩, by omega, by omega, by omega⟩), Int.toNat_natCast]
theorem winR_setW {f : Fx} (hok : f.ok) {w : Nat} (hw : w < f.nw) {l : List Int} (hl : l.length = 16) (v : Nat) (hv : v < f.nw) : winR { f with win := setW f.win w l } v = if v = w then l else winR f v := by
  have hwl := hok.wl
  have hsl : (setW f.win w l).length = f.win.length := setW_len (by omega)
  refine List.ext_getElem? fun j => ?_
  unfold winR
  by_cases hj : j < 16
  · rw [List.getElem?_take_of_lt hj, List.getElem?_drop]
    have hg : ∀ (a : List Int) (i : Nat), i < a.length → a[i]? = some (a.getD i 0) := fun a i hi => by rw [List.getD_eq_getElem?_getD, List.getElem?_eq_getElem hi]; rfl
    rw [hg (setW f.win w l) _ (by rw [hsl]; omega)]
    by_cases e : v = w
    · subst e
      rw [if_pos rfl, setW_in (by omega) (by omega), ← hg l j (by omega)]
    · rw [if_neg e, setW_out (by omega) (by rcases Nat.lt_or_gt_of_ne e with h | h <;> omega), List.getElem?_take_of_lt hj, List.getElem?_drop, ← hg f.win _ (by omega)]
  · rw [List.getElem?_eq_none (by rw [List.length_take]; omega)]
    split
    · rw [List.getElem?_eq_none (by omega)]
    · rw [List.getElem?_eq_none (by rw [List.length_take]; omega)]
structure FWay (f g : Fx) (k b r : Nat) : Prop where
  ok : f.ok
  nw : f.nw = g.nw
  win : ∀ w : Nat, w < k → w < g.nw → winR f w = winR g w
  glo : ∀ i j : Nat, i < 16 → j < 8 → (i < b ∨ (i = b ∧ j < r)) → getV f 0 i j = getV g 0 i j
theorem FWay.new {g : Fx} (hg : g.ok) : FWay (Fx.new g.nw) g 0 0 0 := ⟨Fx.ok.new hg.nw2 hg.nw32, rfl, fun w h => by omega, fun i j _ _ h => by omega⟩
theorem getV_glob {f : Fx} (hok : f.ok) {i j : Nat} (hi : i < 17) (hj : j < 8) : getV f 0 i j = if j = 0 then 0 else f.glo.getD (i * 8 + j) 0 := by
  have := hok.nw2
  unfold getV
  rw [if_pos (show regOk f 0 i j from ⟨⟨by omega, by omega⟩, by omega, by omega, by omega⟩)]
  unfold getF
  simp only [Int.toNat_natCast]
  rw [show (0 : Int).toNat = 0 from rfl]
  by_cases h0 : j = 0
  · rw [if_pos h0, if_pos h0]
  · rw [if_neg h0, if_neg h0, if_pos hj]
theorem FWay.window {f g : Fx} {k : Nat} (h : FWay f g k 0 0) (hg : g.ok) (hk : k < g.nw) : FWay (setsF f k (winR g k) 16) g (k + 1) 0 0 := by
  have hl := winR_len hg hk
  have hkf : k < f.nw := by rw [h.nw]; exact hk
  refine ⟨?_, (setsF_nw _ _ _ _).trans h.nw, fun w hw hw2 => ?_, fun i j _ _ h => by omega⟩
  · refine setsF_ok h.ok _ (fun x hx => ?_) 16
    unfold winR at hx
    exact hg.ww x (List.mem_of_mem_drop (List.mem_of_mem_take hx))
  · rw [setsF_all h.ok hkf hl, winR_setW h.ok hkf hl w (by rw [h.nw]; exact hw2)]
    split
    · rename_i e; rw [e]
    · exact h.win w (by omega) hw2
end Go.Proofs.YtajholbcpmjhiaaGreatDoor
