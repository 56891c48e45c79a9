/- The walk of ShapeHeaps. -/
import Derived.Test.YthahjnjkiljaaaaShapeHeapsLaw
import Derived.Test.YthahjnjkiljaaaaShapeAddsWalk
import Derived.RegionTactic
import Derived.BigRegion
import Derived.ChangeAlike
namespace Go.Proofs.Ythahjnjkiljaaaa
open Go.RowKit Go.Deep
set_option linter.unusedVariables false
set_option linter.unusedSimpArgs false
/-- Three boxes, one for each of three variables. -/
structure Three (W w : World) (ga gb gc : Nat) (a b c : Value) : Prop where
  ba : TBox w ga a b c
  bb : TBox w gb a b c
  bc : TBox w gc a b c
  ab : ga ≠ gb
  ac : ga ≠ gc
  bc' : gb ≠ gc
  lo : W.heap.size ≤ ga ∧ W.heap.size ≤ gb ∧ W.heap.size ≤ gc
  bel : Below W.heap.size W w
theorem TBox.set0 {w : World} {g : Nat} {a b c : Value} (h : TBox w g a b c) (u : Value) : TBox (w.setCell ⟨g, 0, none⟩ u) g u b c :=
  ⟨World.cell?_setCell_same _ _ _ h.c0, (World.cell?_setCell_other _ _ _ _ (by simp)).trans h.c1, (World.cell?_setCell_other _ _ _ _ (by simp)).trans h.c2, by simpa using h.f0, by simpa using h.f1, by simpa using h.f2⟩
theorem TBox.far {w : World} {g : Nat} {a b c : Value} (k : TBox w g a b c) {p : Addr} (hp : p.block ≠ g) (u : Value) : TBox (w.setCell p u) g a b c :=
  ⟨(World.cell?_setCell_other _ _ _ _ (fun e => hp (congrArg Addr.block e))).trans k.c0, (World.cell?_setCell_other _ _ _ _ (fun e => hp (congrArg Addr.block e))).trans k.c1, (World.cell?_setCell_other _ _ _ _ (fun e => hp (congrArg Addr.block e))).trans k.c2, by simpa using k.f0, by simpa using k.f1, by simpa using k.f2⟩
theorem three_boxes (W : World) (a b c : Value) (t : TypeId) : TBox (((W.alloc (.cells #[a, b, c] t)).alloc (.cells #[a, b, c] t)).alloc (.cells #[a, b, c] t)).drew W.heap.size a b c ∧ TBox (((W.alloc (.cells #[a, b, c] t)).alloc (.cells #[a, b, c] t)).alloc (.cells #[a, b, c] t)).drew (W.heap.size + 1) a b c ∧ TBox (((W.alloc (.cells #[a, b, c] t)).alloc (.cells #[a, b, c] t)).alloc (.cells #[a, b, c] t)).drew (W.heap.size + 1 + 1) a b c ∧ Below W.heap.size W (((W.alloc (.cells #[a, b, c] t)).alloc (.cells #[a, b, c] t)).alloc (.cells #[a, b, c] t)).drew := by
  have h1 := ((TBox.new W a b c t).keep (al1 _ (.cells #[a, b, c] t))).keep (al1 _ (.cells #[a, b, c] t))
  have h2 := (TBox.new (W.alloc (.cells #[a, b, c] t)) a b c t).keep (al1 _ (.cells #[a, b, c] t))
  have h3 := TBox.new ((W.alloc (.cells #[a, b, c] t)).alloc (.cells #[a, b, c] t)) a b c t
  simp only [World.size_alloc] at h2 h3
  have hd : ∀ w : World, Below w.heap.size w w.drew := fun w => (Below.refl _ _).drew
  exact ⟨h1.keep (hd _), h2.keep (hd _), h3.keep (hd _), (al3 W _ _ _).drew⟩
/-- append(made, s...) onto an empty row of one's own: s may be nil. -/
theorem step_append_copy (P : Program) {w : World} {ops : Array Oper} {o : Oper} {a : Act} {K : Act → World → Prop} {Q : Exit → Act → World → Prop} {E : Prop} (hgd : o.guard = none) (s x : Operand) (t : TypeId)
    (ho : o.op = .call { callee := .builtin .append, args := #[s, x], argTypes := #[t, t] })
    (base : Nat) (e : TypeId) (i : TypeInfo) (z : Value) (size bytes : Nat) (ht : P.underlying t = some (.slice e)) (hi : P.info? e = some i) (hz : i.zero = some z)
    (hsize : i.size = size) (hby : i.bytes = bytes) (hzs : z.cells.size = size) (hsz : 0 < size)
    (g0 c0 : Nat) (hs : a.eval s = .slice (some ⟨g0, 0, none⟩) 0 c0) (hown : w.ownsRow base e size (.slice (some ⟨g0, 0, none⟩) 0 c0) 0 [])
    (pp : Option Addr) (m c : Nat) (news : List Value) (hx : a.eval x = .slice pp m c) (hl : news.length = m * size) (hnil : pp = none → m = 0 ∧ c = 0) (hnews : ∀ ad, pp = some ad → ∀ (j : Nat) u, news[j]? = some u → w.cell? (ad.add j) = some u) (h1 : ∀ u ∈ news, u.oneCell' = true)
    (h63 : m ≤ maxLen) (hbytes : m * bytes ≤ 140737488355328) (hbase : base ≤ w.heap.size) (hg0 : base ≤ g0)
    (h : ∀ g cap w', w'.ownsRow base e size (.slice (some ⟨g, 0, none⟩) m cap) m news → Below base w w' → K (a.put o.dst (.slice (some ⟨g, 0, none⟩) m cap)) w') :
    if Region.wanted o (yielded ops a.tmps) = true then Oper.wp P o a w K Q else E := by
  cases pp with
  | none =>
    obtain ⟨rfl, rfl⟩ := hnil rfl
    obtain rfl : news = [] := List.eq_nil_of_length_eq_zero (by omega)
    exact step_append_none (P := P) _ hgd s x t ho base e i size ht hi _ 0 [] hs hown hx (h g0 c0 w hown (Below.refl _ _))
  | some ad =>
    refine step_append_some (P := P) _ hgd s x t ho base e i z size bytes ht hi hz hsize hby hzs hsz g0 0 c0 [] hs hown ad m c news hx hl (hnews ad rfl) h1 (by omega) (by rw [Nat.zero_add]; exact hbytes) hbase ?_
    intro g cap w' hw' hg
    rw [Nat.zero_add, List.nil_append] at hw'
    rw [Nat.zero_add]
    exact h g cap w' hw' ((Below.refl _ _).grown hg hbase (fun k hk => by cases hk; exact hg0))
theorem wpList_append_copy (P : Program) {w : World} {ops : Array Oper} {rest : List Oper} {o : Oper} {a : Act} {Q : Exit → Act → World → Prop} (hgd : o.guard = none) (s x : Operand) (t : TypeId)
    (ho : o.op = .call { callee := .builtin .append, args := #[s, x], argTypes := #[t, t] })
    (base : Nat) (e : TypeId) (i : TypeInfo) (z : Value) (size bytes : Nat) (ht : P.underlying t = some (.slice e)) (hi : P.info? e = some i) (hz : i.zero = some z)
    (hsize : i.size = size) (hby : i.bytes = bytes) (hzs : z.cells.size = size) (hsz : 0 < size)
    (g0 c0 : Nat) (hs : a.eval s = .slice (some ⟨g0, 0, none⟩) 0 c0) (hown : w.ownsRow base e size (.slice (some ⟨g0, 0, none⟩) 0 c0) 0 [])
    (pp : Option Addr) (m c : Nat) (news : List Value) (hx : a.eval x = .slice pp m c) (hl : news.length = m * size) (hnil : pp = none → m = 0 ∧ c = 0) (hnews : ∀ ad, pp = some ad → ∀ (j : Nat) u, news[j]? = some u → w.cell? (ad.add j) = some u) (h1 : ∀ u ∈ news, u.oneCell' = true)
    (h63 : m ≤ maxLen) (hbytes : m * bytes ≤ 140737488355328) (hbase : base ≤ w.heap.size) (hg0 : base ≤ g0)
    (h : ∀ g cap w', w'.ownsRow base e size (.slice (some ⟨g, 0, none⟩) m cap) m news → Below base w w' → wpList P ops Q rest (a.put o.dst (.slice (some ⟨g, 0, none⟩) m cap)) w') :
    wpList P ops Q (o :: rest) a w := by
  refine wpList_plain hgd fun K hK => ?_
  have h' := step_append_copy P (Q := Q) (E := False) (K := K) (ops := ops) hgd s x t ho base e i z size bytes ht hi hz hsize hby hzs hsz g0 c0 hs hown pp m c news hx hl hnil hnews h1 h63 hbytes hbase hg0 (fun g cap w' e1 e2 => hK _ _ (h g cap w' e1 e2))
  rwa [if_pos (by simp [Region.wanted, hgd])] at h'
set_option maxRecDepth 100000 in
set_option maxHeartbeats 16000000 in
theorem walk_ShapeHeaps (p : Prg) (hh : I64 p.heap) (v : Value) (hp : Int) (hhp : I64 hp) (w : World) (hv : PrgV w v p) :
    Calls Try.prog 6 #[v, .int .i64 hp] w fun e w' => e = .returned (.bool true) ∧ Below w.heap.size w w' := by
  obtain ⟨pt, ct, pf, cf, rfl, hT, hF⟩ := hv
  have hfl := hF.1
  have HTN := shid hT
  have HFN := shid hF
  have hnn : pf = none → p.funcs.length = 0 ∧ cf = 0 := by
    obtain ⟨_, _, _, _, _, he, ⟨h1, h2⟩, _⟩ := hF
    cases he
    intro h
    refine ⟨Nat.eq_zero_of_not_pos (fun h0 => by rw [h1 h0] at h; cases h), h2 h⟩
  obtain ⟨_, _, fb, fo, hfe, _, HFS⟩ := hF.hids
  cases hfe
  have HPF := shid HFS.out.1
  have HKF := shid HFS.out.2
  have HPN := shid (show pf = none → p.funcs.length = 0 ∧ cf = 0 from hnn)
  have HPB := shid (PBox.new w p.heap (.slice pt p.threads.length ct) (.slice pf p.funcs.length cf) 25)
  have HW0 := shid (al1 w (.cells #[.int .i64 p.heap, .slice pt p.threads.length ct, .slice pf p.funcs.length cf] 25))
  clear hT hF HFS
  obtain ⟨_, k0, k1, k2⟩ := HPB.out
  go_enter Try.func6, Try.ntmps6
  go_wp2_with fail
  generalize w.alloc (.cells #[.int .i64 p.heap, .slice pt p.threads.length ct, .slice pf p.funcs.length cf] 25) = W0 at *
  clear k0 k1 k2
  refine (great_any p pt ct pf cf W0 (FnsIn.keep HFN.out HW0.out)).mono ?_
  rintro e W1 ⟨gb, rfl, hb1⟩
  have HW1 := shid (sbt HW0.out hb1)
  have HP1 := shid (HPB.out.keep hb1)
  clear hb1
  cases gb with
  | true =>
    go_wp2_with fail
    refine (law_head _).mono ?_
    rintro e W99 ⟨rfl, hb99⟩
    go_wp2_with fail
    go_ret
    exact ⟨by first | rfl | simp, sbt HW1.out hb99⟩
  | false =>
    obtain ⟨hl1, k0, k1, k2⟩ := HP1.out
    have hl2 : w.heap.size < W1.heap.size + 1 := by omega
    have hl3 : w.heap.size < W1.heap.size + 1 + 1 := by omega
    have hl4 : w.heap.size < W1.heap.size + 1 + 1 + 1 := by omega
    go_wp2_with fail
    go_cut [5, 6, 7] from 8 (fun a b c w' => ∃ ga gb gc, a = .pointer (some ⟨ga, 0, none⟩) ∧ b = .pointer (some ⟨gb, 0, none⟩) ∧ c = .pointer (some ⟨gc, 0, none⟩) ∧ Three W1 w' ga gb gc (.int .i64 p.heap) (.slice pt p.threads.length ct) (.slice pf p.funcs.length cf))
    case first =>
      have H3 := shid (three_boxes W1 (.int .i64 p.heap) (.slice pt p.threads.length ct) (.slice pf p.funcs.length cf) 25)
      go_region
      all_goals
        go_wp2_with fail
        go_meet
      all_goals
        obtain ⟨h1, h2, h3, h4⟩ := H3.out
        refine ⟨_, _, _, rfl, rfl, rfl, ⟨?_, ?_, ?_, by omega, by omega, by omega, ⟨by omega, by omega, by omega⟩, h4⟩⟩ <;> first | exact h1 | exact h2 | exact h3
    case rest =>
      obtain ⟨ga, gb, gc, rfl, rfl, rfl, h3⟩ := hcut
      have hga := h3.lo.1
      have hgb := h3.lo.2.1
      have hgc := h3.lo.2.2
      have n1 := h3.ab
      have n2 := h3.ac
      have n3 := h3.bc'
      have hb1 : Below w.heap.size w ((wc.setCell ⟨ga, 0, none⟩ (.int .i64 0)).setCell ⟨gb, 0, none⟩ (.int .i64 hp)) := ((sbt HW1.out h3.bel).setCell (by show w.heap.size ≤ ga; omega) _).setCell (by show w.heap.size ≤ gb; omega) _
      have HX1 := shid hb1
      have HA1 := shid ((h3.ba.set0 (.int .i64 0)).far (p := ⟨gb, 0, none⟩) (by show gb ≠ ga; omega) (.int .i64 hp))
      have HB1 := shid ((h3.bb.far (p := ⟨ga, 0, none⟩) (by show ga ≠ gb; omega) (.int .i64 0)).set0 (.int .i64 hp))
      have HC1 := shid ((h3.bc.far (p := ⟨ga, 0, none⟩) (by show ga ≠ gc; omega) (.int .i64 0)).far (p := ⟨gb, 0, none⟩) (by show gb ≠ gc; omega) (.int .i64 hp))
      have HPc := shid (((HP1.out.keep h3.bel).far (p := ⟨ga, 0, none⟩) (by show ga ≠ w.heap.size; omega) (.int .i64 0)).far (p := ⟨gb, 0, none⟩) (by show gb ≠ w.heap.size; omega) (.int .i64 hp))
      obtain ⟨⟨a0, a1, a2, af0, af1, af2⟩, ⟨b0, b1, b2, bf0, bf1, bf2⟩, _, _, _, _, _, _⟩ := h3
      have n1' := n1.symm
      clear k0 k1 k2 hl2 hl3 hl4 hb1 HP1
      go_wp2_with fail
      clear a0 a1 a2 af0 af1 af2 b0 b1 b2 bf0 bf1 bf2
      generalize (wc.setCell ⟨ga, 0, none⟩ (.int .i64 0)).setCell ⟨gb, 0, none⟩ (.int .i64 hp) = X1 at *
      refine (check_any ⟨0, p.threads, p.funcs⟩ pt ct pf cf X1 (IntsIn.keep HTN.out HX1.out) (FnsIn.keep HFN.out HX1.out)).mono ?_
      rintro e X2 ⟨rfl, hb2⟩
      have HX2 := shid (sbt HX1.out hb2)
      have HB2 := shid (HB1.out.keep hb2)
      have HC2 := shid (HC1.out.keep hb2)
      have HP2 := shid (HPc.out.keep hb2)
      have HCV := shid (show checkV ⟨0, p.threads, p.funcs⟩ = .tuple #[.agg #[.int .i64 (checkS ⟨0, p.threads, p.funcs⟩).1, .int .i64 (checkS ⟨0, p.threads, p.funcs⟩).2.1], .int .i64 (checkS ⟨0, p.threads, p.funcs⟩).2.2] from rfl)
      have HCE := shid (show p.funcs.length = 0 → (checkS ⟨0, p.threads, p.funcs⟩).2.2 = 140 from fun h => by rw [checkS_top (topB_no (fun hk => by have := hk.2.2.1; simp only at this; omega))])
      have HCO := shid (show (∀ f ∈ p.funcs, f.name.size ≤ 60 ∧ ∀ b ∈ f.blocks, b.name.size ≤ 60) → (checkS ⟨0, p.threads, p.funcs⟩).2.2 = 0 → checkS ⟨0, p.threads, p.funcs.map renF⟩ = (0, 0, 0) from fun hl h => ren_ok hl h)
      have HCH := shid (show 0 ≤ hp ∧ hp ≤ 1024 → checkV ⟨hp, p.threads, p.funcs⟩ = checkV ⟨0, p.threads, p.funcs⟩ from fun hk => by
        unfold checkV
        rw [checkS_congr (p := ⟨hp, p.threads, p.funcs⟩) (q := ⟨0, p.threads, p.funcs⟩) (topB_heap hp 0 p.threads p.funcs hk (by omega)) rfl])
      clear hb2
      rw [HCV.out]
      rw [HCV.out] at HCH
      clear HCV HA1 HB1 HC1 HPc
      generalize (checkS ⟨0, p.threads, p.funcs⟩).1 = cl at *
      generalize (checkS ⟨0, p.threads, p.funcs⟩).2.1 = cc at *
      generalize (checkS ⟨0, p.threads, p.funcs⟩).2.2 = ce at *
      have HA2 := shid (al1 X2 (.cells #[.int .i64 cl, .int .i64 cc] 29))
      have HX3 := shid (sbt HX2.out HA2.out)
      have HB3 := shid (HB2.out.keep HA2.out)
      have HC3 := shid (HC2.out.keep HA2.out)
      have HP3 := shid (HP2.out.keep HA2.out)
      obtain ⟨b0, b1, b2, _, _, _⟩ := HB3.out
      go_wp2_with fail
      clear b0 b1 b2 HA2 HB2 HC2 HP2
      generalize X2.alloc (.cells #[.int .i64 cl, .int .i64 cc] 29) = X3 at *
      generalize X2.heap.size = G2 at *
      refine (check_any ⟨hp, p.threads, p.funcs⟩ pt ct pf cf X3 (IntsIn.keep HTN.out HX3.out) (FnsIn.keep HFN.out HX3.out)).mono ?_
      rintro e X4 ⟨rfl, hb4⟩
      have HX4 := shid (sbt HX3.out hb4)
      have HC4 := shid (HC3.out.keep hb4)
      have HP4 := shid (HP3.out.keep hb4)
      clear hb4 HB3 HC3 HP3
      by_cases hr : 0 ≤ hp ∧ hp ≤ 1024
      case neg =>
        have hcv : checkV ⟨hp, p.threads, p.funcs⟩ = .tuple #[.agg #[.int .i64 (-1), .int .i64 (-1)], .int .i64 140] := by
          unfold checkV
          rw [checkS_top (topB_no (fun hk => hr ⟨hk.1, hk.2.1⟩))]
        rw [hcv]
        have HX5 := shid (sbt HX4.out (al1 X4 (.cells #[.int .i64 (-1), .int .i64 (-1)] 29)))
        clear hcv
        by_cases z1 : hp < 0
        · have q1 := decide_eq_true z1
          clear hr z1
          go_wp2_with fail
          refine (law_head _).mono ?_
          rintro e W99 ⟨rfl, hb99⟩
          go_wp2_with fail
          go_ret
          exact ⟨by first | rfl | simp, sbt HX5.out hb99⟩
        · have q1 := decide_eq_false z1
          have q2 := decide_eq_true (show (1024 : Int) < hp by omega)
          clear hr z1
          go_wp2_with fail
          refine (law_head _).mono ?_
          rintro e W99 ⟨rfl, hb99⟩
          go_wp2_with fail
          go_ret
          exact ⟨by first | rfl | simp, sbt HX5.out hb99⟩
      rw [HCH.out hr]
      clear HCH
      have q1 := decide_eq_false (show ¬ hp < 0 by omega)
      have q2 := decide_eq_false (show ¬ (1024 : Int) < hp by omega)
      have HA4 := shid (al1 X4 (.cells #[.int .i64 cl, .int .i64 cc] 29))
      have HX5 := shid (sbt HX4.out HA4.out)
      have HC5 := shid (HC4.out.keep HA4.out)
      have HP5 := shid (HP4.out.keep HA4.out)
      obtain ⟨c0, c1, c2, cf0, cf1, cf2⟩ := HC5.out
      clear hr HC4 HP4 HA4
      go_upto_region 11 with (fail)
      have HX6 := shid (show Below w.heap.size w ((X4.alloc (.cells #[.int .i64 cl, .int .i64 cc] 29)).setCell ⟨gc, 0, none⟩ (.int .i64 0)) from HX5.out.setCell (by show w.heap.size ≤ gc; omega) _)
      have HC6 := shid (HC5.out.set0 (.int .i64 0))
      have HP6 := shid (HP5.out.far (p := ⟨gc, 0, none⟩) (by show gc ≠ w.heap.size; omega) (.int .i64 0))
      clear c0 c1 c2 cf0 cf1 cf2 HC5 HP5 HX5 q1 q2
      generalize (X4.alloc (.cells #[.int .i64 cl, .int .i64 cc] 29)).setCell ⟨gc, 0, none⟩ (.int .i64 0) = X6 at *
      generalize X4.heap.size = G4 at *
      obtain ⟨i3, z3, hi3, hz3, hsz3, hby3, hzc3⟩ := info3_parts infofn3
      have HNF := shid (rowCells_news flat_fn HKF.out)
      have HFL := shid (rowCells_length w fb fo (p.funcs.length * 4))
      have HFC := shid (fun (j : Nat) (hj : j < p.funcs.length * 4) => rowCells_get (w := w) (b := fb) (o := fo) hj)
      generalize rowCells w fb fo (p.funcs.length * 4) = fnews at *
      obtain ⟨_, k0, k1, k2⟩ := HP6.out
      obtain ⟨c0, c1, c2, cf0, cf1, cf2⟩ := HC6.out
      go_upto_region 12 with (at_builtin; refine wpList_append_copy _ (by rfl) (.tmp 52) (.tmp 54) 23 (by rfl) X6.heap.size 37 i3 z3 4 56 Try.underlying23 hi3 hz3 hsz3 hby3 hzc3 (by decide) X6.heap.size 0 (by rfl) (World.ownsRow_made X6 #[] 0 (Nat.le_refl _) (Nat.zero_le _) (by simp)) pf p.funcs.length cf fnews (by rfl) HFL.out HPN.out (fun ad had j u hj => by
        have hj0 : 0 < p.funcs.length := by have := (List.getElem?_eq_some_iff.1 hj).1; rw [HFL.out] at this; omega
        rw [HPF.out hj0] at had
        cases had
        have h1 := HNF.out.1 j u hj
        rw [show (⟨fb, fo, none⟩ : Addr).add j = ⟨fb, fo + j, none⟩ from by unfold Addr.add; split <;> simp [*]]
        exact ((sbt HX6.out (al1 _ _)).cell (World.block_lt_of_cell? _ _ h1)).trans h1) HNF.out.2 (by unfold maxLen; omega) (by omega) (by simp) (Nat.le_refl _) ?_; intro gF cF w9 hown hb90; have hb9 : Below X6.heap.size X6 w9 := ((Below.refl _ X6).alloc (Nat.le_refl _) _).trans hb90; obtain ⟨_, _, he9, hgF, hgF2, hvF⟩ := VRow.of_own' hown (by intro h; cases h); cases he9; obtain ⟨s0, s1, s2, sf0, sf1, sf2⟩ := HC6.out.keep hb9; have HVF := shid hvF; clear hown hb90)
      have hgc6 : gc < X6.heap.size := HC6.out.lt
      have hwl6 : w.heap.size < X6.heap.size := HP6.out.lt
      have hX9 := hb9.size
      have HC10 := shid (show TBox (w9.setCell ⟨gc, 2, none⟩ (.slice (some ⟨gF, 0, none⟩) p.funcs.length cF)) gc (.int .i64 0) (.slice pt p.threads.length ct) (.slice (some ⟨gF, 0, none⟩) p.funcs.length cF) from (HC6.out.keep hb9).set2 _)
      have HP10 := shid (show PBox (w9.setCell ⟨gc, 2, none⟩ (.slice (some ⟨gF, 0, none⟩) p.funcs.length cF)) w.heap.size p.heap (.slice pt p.threads.length ct) (.slice pf p.funcs.length cf) from (HP6.out.keep hb9).far (by show gc ≠ w.heap.size; omega) _)
      have HX10 := shid (show Below w.heap.size w (w9.setCell ⟨gc, 2, none⟩ (.slice (some ⟨gF, 0, none⟩) p.funcs.length cF)) from (sbt HX6.out hb9).setCell (by show w.heap.size ≤ gc; omega) _)
      have HNM := shid (show Named w (w9.setCell ⟨gc, 2, none⟩ (.slice (some ⟨gF, 0, none⟩) p.funcs.length cF)) p.funcs fb fo gF (fun _ => True) 0 from by
        have hv := HVF.out.other (a := ⟨gc, 2, none⟩) (by show gF ≠ gc; omega) (.slice (some ⟨gF, 0, none⟩) p.funcs.length cF)
        refine ⟨⟨fnews, hv, HFL.out⟩, fun j x hj => by omega, fun j _ hj t ht => ?_⟩
        have hq : j * 4 + t < p.funcs.length * 4 := by omega
        obtain ⟨u, hu, _⟩ := row_cells flat_fn HKF.out (j * 4 + t) hq
        rw [Nat.add_assoc, hu]
        refine hv.cell ?_
        rw [HFC.out _ hq, hu]; rfl)
      clear k0 k1 k2 c0 c1 c2 cf0 cf1 cf2 s0 s1 s2 sf0 sf1 sf2 HC6 HP6 HX6 HVF
      generalize w9.setCell ⟨gc, 2, none⟩ (.slice (some ⟨gF, 0, none⟩) p.funcs.length cF) = X10 at *
      have hgcF : gc ≠ gF := by omega
      have hwF : w.heap.size < gF := by omega
      clear hb9 hi3 hz3
      go_wp2_with fail
      go_loopw [12] (fun i wr => ∃ k : Nat, k ≤ p.funcs.length ∧ i = .int .i64 k ∧ Named w wr p.funcs fb fo gF (fun _ => True) k ∧ TBox wr gc (.int .i64 0) (.slice pt p.threads.length ct) (.slice (some ⟨gF, 0, none⟩) p.funcs.length cF) ∧ PBox wr w.heap.size p.heap (.slice pt p.threads.length ct) (.slice pf p.funcs.length cf) ∧ Below w.heap.size w wr) (fun i _ => p.funcs.length - (intOf i).toNat)
      case atStart => exact ⟨0, Nat.zero_le _, rfl, HNM.out, HC10.out, HP10.out, HX10.out⟩
      case round =>
        obtain ⟨i, hi, rfl, hnm, hc, hpb, hbw⟩ := hrel
        have HN := shid hnm
        have HC := shid hc
        have HPX := shid hpb
        have HBW := shid hbw
        clear hnm hc hpb hbw HNM HC10 HP10 HX10
        obtain ⟨c0, c1, c2, _, _, _⟩ := HC.out
        by_cases hlt : i < p.funcs.length
        · obtain rfl := HPF.out (by omega)
          have h1 : (i : Int) < p.funcs.length := by omega
          have HX := shid (List.getElem?_eq_getElem hlt)
          generalize p.funcs[i] = x at HX
          have HFX := shid (HKF.out i x HX.out)
          have d0 := (HN.out.same i (Nat.le_refl _) hlt 0 (by omega)).trans HFX.out.c0
          rw [Nat.add_zero] at d0
          have hgl := HN.out.row.choose_spec.1.lt
          have df := HN.out.row.choose_spec.1.frozen (i * 4)
          by_cases hs : x.name.size ≤ 60
          case neg =>
            have q1 := decide_eq_true (show (60 : Int) < x.name.size by omega)
            clear hs
            go_wp2_with fail
            refine (law_head _).mono ?_
            rintro e W99 ⟨rfl, hb99⟩
            go_wp2_with fail
            go_ret
            exact ⟨by first | rfl | simp, sbt HBW.out hb99⟩
          have q1 := decide_eq_false (show ¬ (60 : Int) < x.name.size by omega)
          go_wp2_with fail
          have hgl0 : gF < (wr.setCell ⟨gF, i * 4, none⟩ (.string (sfx x.name))).heap.size := by simpa [World.setCell] using hgl
          have hdr := (Below.refl (wr.setCell ⟨gF, i * 4, none⟩ (.string (sfx x.name))).heap.size (wr.setCell ⟨gF, i * 4, none⟩ (.string (sfx x.name)))).drew
          have HMID := shid (show ∀ (gB c : Nat) (bl : List Value) (W : World), Below wr.heap.size (wr.setCell ⟨gF, i * 4, none⟩ (.string (sfx x.name))).drew W → wr.heap.size ≤ gB → VRow W gB 40 bl → bl.length = x.blocks.length * 2 → BlkCells w x bl 0 → Mid w (W.setCell ⟨gF, i * 4 + 3, none⟩ (.slice (some ⟨gB, 0, none⟩) x.blocks.length c)) p.funcs fb fo gF i x gB c 0 from fun gB c bl W hb hg hv hl hc => HN.out.mid HX.out HFX.out hs ((Below.refl _ (wr.setCell ⟨gF, i * 4, none⟩ (.string (sfx x.name)))).drew.trans hb) hg hv hl hc)
          have HC17 := shid (show TBox (wr.setCell ⟨gF, i * 4, none⟩ (.string (sfx x.name))).drew _ _ _ _ from (HC.out.far (p := ⟨gF, i * 4, none⟩) (by show gF ≠ gc; omega) (.string (sfx x.name))).keep hdr)
          have HP17 := shid (show PBox (wr.setCell ⟨gF, i * 4, none⟩ (.string (sfx x.name))).drew _ _ _ _ from (HPX.out.far (p := ⟨gF, i * 4, none⟩) (by show gF ≠ w.heap.size; omega) (.string (sfx x.name))).keep hdr)
          have HBW17 := shid (show Below w.heap.size w (wr.setCell ⟨gF, i * 4, none⟩ (.string (sfx x.name))).drew from (HBW.out.setCell (p := ⟨gF, i * 4, none⟩) (by show w.heap.size ≤ gF; omega) (.string (sfx x.name))).drew)
          have HZ17 := shid (show (wr.setCell ⟨gF, i * 4, none⟩ (.string (sfx x.name))).drew.heap.size = wr.heap.size by simp [World.setCell])
          have HFR := shid (show (wr.setCell ⟨gF, i * 4, none⟩ (.string (sfx x.name))).drew.frozen? ⟨gF, i * 4 + 3, none⟩ = false by simpa using HN.out.row.choose_spec.1.frozen (i * 4 + 3))
          obtain ⟨bv, h3, hbv⟩ := HFX.out.c3
          have HB3 := shid (show (wr.setCell ⟨gF, i * 4, none⟩ (.string (sfx x.name))).drew.cell? ⟨gF, i * 4 + 3, none⟩ = some bv from (hdr.cell (p := ⟨gF, i * 4 + 3, none⟩) hgl0).trans ((World.cell?_setCell_other _ _ _ _ (fun e => by have := congrArg Addr.off e; simp only at this; omega)).trans ((HN.out.same i (Nat.le_refl _) hlt 3 (by omega)).trans h3)))
          clear hgl0 hdr
          obtain ⟨hbl, pb, cb, bb, bo, rfl, hpp, hbs⟩ := hbv
          have HPP := shid hpp
          have HBS := shid hbs
          have HH3 := shid h3
          clear hpp hbs h3
          go_wp2_with fail
          go_region
          all_goals go_wp2_with fail
          clear c0 c1 c2 d0 df q1
          rw [show x.name ++ (⟨#[95, 120]⟩ : ByteArray) = sfx x.name from rfl]
          generalize hX17 : (wr.setCell ⟨gF, i * 4, none⟩ (.string (sfx x.name))).drew = X17 at *
          have hXZ := HZ17.out
          have hgcl : gc < X17.heap.size := HC17.out.lt
          have hpl : w.heap.size < X17.heap.size := HP17.out.lt
          have hgl2 : gF < X17.heap.size := by omega
          have HKS := shid (show ∀ w', Below X17.heap.size X17 w' → w'.cell? ⟨w.heap.size, 2, none⟩ = some (.slice (some ⟨fb, fo, none⟩) p.funcs.length cf) ∧ w'.cell? ⟨gc, 2, none⟩ = some (.slice (some ⟨gF, 0, none⟩) p.funcs.length cF) ∧ w'.cell? ⟨fb, fo + i * 4 + 3, none⟩ = some (.slice pb x.blocks.length cb) from fun w' hb => ⟨(HP17.out.keep hb).c2, (HC17.out.keep hb).c2, ((sbt HBW17.out (hb.mono (by omega))).cell (World.block_lt_of_cell? _ _ HH3.out)).trans HH3.out⟩)
          have HKS2 := shid (show ∀ (w' : World) (u : Value), Below X17.heap.size X17 w' → (w'.setCell ⟨gF, i * 4 + 3, none⟩ u).cell? ⟨w.heap.size, 2, none⟩ = some (.slice (some ⟨fb, fo, none⟩) p.funcs.length cf) ∧ (w'.setCell ⟨gF, i * 4 + 3, none⟩ u).cell? ⟨gc, 2, none⟩ = some (.slice (some ⟨gF, 0, none⟩) p.funcs.length cF) ∧ (w'.setCell ⟨gF, i * 4 + 3, none⟩ u).cell? ⟨fb, fo + i * 4 + 3, none⟩ = some (.slice pb x.blocks.length cb) from fun w' u hb => by
            obtain ⟨j1, j2, j3⟩ := HKS.out w' hb
            have hfb : fb < w.heap.size := World.block_lt_of_cell? _ _ HH3.out
            exact ⟨(World.cell?_setCell_other _ _ _ _ (fun e => by have := congrArg Addr.block e; simp only at this; omega)).trans j1, (World.cell?_setCell_other _ _ _ _ (fun e => by have := congrArg Addr.block e; simp only at this; omega)).trans j2, (World.cell?_setCell_other _ _ _ _ (fun e => by have := congrArg Addr.block e; simp only at this; omega)).trans j3⟩)
          obtain ⟨i1, z1, hi1, hz1, hsz1, hby1, hzc1⟩ := info3_parts infoblk3
          have HNB := shid (rowCells_news flat_blk HBS.out)
          have HRL := shid (rowCells_length w bb bo (x.blocks.length * 2))
          have HNC := shid (fun (j : Nat) (hj : j < x.blocks.length * 2) => rowCells_get (w := w) (b := bb) (o := bo) hj)
          generalize rowCells w bb bo (x.blocks.length * 2) = bnews at *
          have HBC := shid (show BlkCells w x bnews 0 from fun q y hy => by
            have hq : q < x.blocks.length := (List.getElem?_eq_some_iff.1 hy).1
            obtain ⟨e0, ⟨v, e1, e2⟩, _⟩ := HBS.out q y hy
            refine ⟨?_, fun h => by omega, v, ?_, e2⟩
            · rw [HNC.out _ (by omega), e0, if_neg (by omega)]; rfl
            · have h : w.cell? ⟨bb, bo + (q * 2 + 1), none⟩ = some v := by rw [← Nat.add_assoc]; exact e1
              rw [HNC.out _ (by omega), h]; rfl)
          have HOW := shid (World.ownsRow_made (base := X17.heap.size) (size := 2) (e := 40) X17 #[] 0 (Nat.le_refl _) (Nat.zero_le _) rfl)
          have HCN := shid (show ∀ w', Below X17.heap.size X17 w' → ∀ ad, pb = some ad → ∀ (j : Nat) u, bnews[j]? = some u → w'.cell? (ad.add j) = some u from fun w' hb ad had j u hu => by
            have hj : 0 < x.blocks.length := by have := (List.getElem?_eq_some_iff.1 hu).1; rw [HRL.out] at this; omega
            rw [HPP.out.1 hj] at had
            cases had
            have h1 := HNB.out.1 j u hu
            rw [show (⟨bb, bo, none⟩ : Addr).add j = ⟨bb, bo + j, none⟩ from by unfold Addr.add; split <;> simp [*]]
            exact ((sbt HBW17.out hb).cell (World.block_lt_of_cell? _ _ h1)).trans h1)
          have HPN1 := shid (show pb = none → x.blocks.length = 0 ∧ cb = 0 from fun h => ⟨Nat.eq_zero_of_not_pos (fun h0 => by rw [HPP.out.1 h0] at h; cases h), HPP.out.2 h⟩)
          have hbl63 : x.blocks.length ≤ maxLen := by unfold maxLen; omega
          have hbl40 : x.blocks.length * 40 ≤ 140737488355328 := by omega
          obtain ⟨_, p0, p1, p2⟩ := HP17.out
          obtain ⟨_, _, c2, _, _, _⟩ := HC17.out
          have d3 := HB3.out
          have df3 := HFR.out
          have hfc := ((sbt HBW17.out (Below.refl _ X17)).cell (World.block_lt_of_cell? _ _ HH3.out)).trans HH3.out
          go_region_held3 (fun w' => w'.cell? ⟨w.heap.size, 2, none⟩ = some (.slice (some ⟨fb, fo, none⟩) p.funcs.length cf) ∧ w'.cell? ⟨gc, 2, none⟩ = some (.slice (some ⟨gF, 0, none⟩) p.funcs.length cF) ∧ w'.cell? ⟨fb, fo + i * 4 + 3, none⟩ = some (.slice pb x.blocks.length cb)) (first | (refine HKS.out _ ?_; go_grown; done) | (refine HKS2.out _ _ ?_; go_grown; done))
            (((refine step_append_copy _ (by rfl) (.tmp 93) (.tmp 99) 35 (by rfl) X17.heap.size 40 i1 z1 2 40 Try.underlying35 hi1 hz1 hsz1 hby1 hzc1 (by decide) X17.heap.size 0 (by first | rfl | (go_simp; done) | (simp [Act.eval]; done)) (by first | exact HOW.out.drew | exact HOW.out) pb x.blocks.length cb bnews (by rfl) HRL.out HPN1.out (HCN.out _ (by go_grown)) HNB.out.2 hbl63 hbl40 (by simp) (Nat.le_refl _) ?_; intro g2 cap2 w2 hown2 hb20; have hb2 : Below X17.heap.size X17 w2 := Below.trans (by go_grown) hb20; have d4 := (hb2.cell (p := ⟨gF, i * 4 + 3, none⟩) hgl2).trans d3; have df4 := (hb2.frozen (p := ⟨gF, i * 4 + 3, none⟩) hgl2).trans df3; clear hb20)))
          all_goals
            go_wp2_with fail
            obtain ⟨_, _, he2, hgB, hgB2, hvB⟩ := VRow.of_own' hown2 (by intro h; cases h)
            cases he2
            have HM18 := shid (HMID.out g2 cap2 bnews w2 (by rw [← hXZ]; exact hb2) (by omega) hvB HRL.out HBC.out)
            have HC18 := shid (show TBox (w2.setCell ⟨gF, i * 4 + 3, none⟩ (.slice (some ⟨g2, 0, none⟩) x.blocks.length cap2)) _ _ _ _ from (HC17.out.keep hb2).far (by show gF ≠ gc; omega) _)
            have HP18 := shid (show PBox (w2.setCell ⟨gF, i * 4 + 3, none⟩ (.slice (some ⟨g2, 0, none⟩) x.blocks.length cap2)) _ _ _ _ from (HP17.out.keep hb2).far (by show gF ≠ w.heap.size; omega) _)
            have HX18 := shid (show Below w.heap.size w (w2.setCell ⟨gF, i * 4 + 3, none⟩ (.slice (some ⟨g2, 0, none⟩) x.blocks.length cap2)) from (sbt HBW17.out hb2).setCell (by show w.heap.size ≤ gF; omega) _)
            have hgBc : g2 ≠ gc := by omega
            have hgBw : w.heap.size < g2 := by omega
            clear hown2 hb2 hvB p0 p1 p2 c2 d3 df3 d4 df4 hfc HKS HKS2 HC17 HP17 HBW17 HB3 HFR HZ17 HMID HNB HRL HNC HBC HOW HCN hi1 hz1
            generalize w2.setCell ⟨gF, i * 4 + 3, none⟩ (.slice (some ⟨g2, 0, none⟩) x.blocks.length cap2) = X18 at *
            go_loopw [13] (fun q wq => ∃ k : Nat, k ≤ x.blocks.length ∧ q = .int .i64 k ∧ Mid w wq p.funcs fb fo gF i x g2 cap2 k ∧ TBox wq gc (.int .i64 0) (.slice pt p.threads.length ct) (.slice (some ⟨gF, 0, none⟩) p.funcs.length cF) ∧ PBox wq w.heap.size p.heap (.slice pt p.threads.length ct) (.slice (some ⟨fb, fo, none⟩) p.funcs.length cf) ∧ Below w.heap.size w wq) (fun q _ => x.blocks.length - (intOf q).toNat)
            case atStart => exact ⟨0, Nat.zero_le _, rfl, HM18.out, HC18.out, HP18.out, HX18.out⟩
            case round =>
              obtain ⟨k, hk, rfl, hm, hc, hpb, hbw⟩ := hrel
              have HM2 := shid hm
              have HC2 := shid hc
              have HP2 := shid hpb
              have HX2 := shid hbw
              clear hm hc hpb hbw HM18 HC18 HP18 HX18
              obtain ⟨_, _, c2, _, _, _⟩ := HC2.out
              have e3 := HM2.out.bv
              by_cases hlt2 : k < x.blocks.length
              · have hk1 : (k : Int) < x.blocks.length := by omega
                have HY := shid (List.getElem?_eq_getElem hlt2)
                generalize x.blocks[k] = y at HY
                have d0 := HM2.out.name HY.out
                have df := HM2.out.free (k * 2)
                by_cases hs2 : y.name.size ≤ 60
                case neg =>
                  have q1 := decide_eq_true (show (60 : Int) < y.name.size by omega)
                  clear hs2
                  go_wp2_with fail
                  refine (law_head _).mono ?_
                  rintro e W99 ⟨rfl, hb99⟩
                  go_wp2_with fail
                  go_ret
                  exact ⟨by first | rfl | simp, sbt HX2.out hb99⟩
                have q2 := decide_eq_false (show ¬ (60 : Int) < y.name.size by omega)
                have hdr := (Below.refl (wr.setCell ⟨g2, k * 2, none⟩ (.string (sfx y.name))).heap.size (wr.setCell ⟨g2, k * 2, none⟩ (.string (sfx y.name)))).drew
                have HM3 := shid (show Mid w (wr.setCell ⟨g2, k * 2, none⟩ (.string (sfx y.name))).drew p.funcs fb fo gF i x g2 cap2 (k + 1) from (HM2.out.step HY.out hs2).keep hdr)
                have HC3 := shid (show TBox (wr.setCell ⟨g2, k * 2, none⟩ (.string (sfx y.name))).drew _ _ _ _ from (HC2.out.far (p := ⟨g2, k * 2, none⟩) hgBc (.string (sfx y.name))).keep hdr)
                have HP3 := shid (show PBox (wr.setCell ⟨g2, k * 2, none⟩ (.string (sfx y.name))).drew _ _ _ _ from (HP2.out.far (p := ⟨g2, k * 2, none⟩) (by show g2 ≠ w.heap.size; omega) (.string (sfx y.name))).keep hdr)
                have HX3 := shid (show Below w.heap.size w (wr.setCell ⟨g2, k * 2, none⟩ (.string (sfx y.name))).drew from (HX2.out.setCell (p := ⟨g2, k * 2, none⟩) (by show w.heap.size ≤ g2; omega) (.string (sfx y.name))).drew)
                clear hdr
                go_wp2_with fail
                go_region
                all_goals
                  go_wp2_with fail
                  go_roundw
                  case rel => exact ⟨k + 1, by omega, by go_num, HM3.out, HC3.out, HP3.out, HX3.out⟩
                  case measure => simp [intOf]; omega
              · obtain rfl : k = x.blocks.length := by omega
                go_wp2_with fail
                go_roundw
                case rel => exact ⟨i + 1, by omega, by go_num, HM2.out.fin HX.out, HC2.out, HP2.out, HX2.out⟩
                case measure => simp [intOf]; omega
        · obtain rfl : i = p.funcs.length := by omega
          have HL := shid (show ∀ f ∈ p.funcs, f.name.size ≤ 60 ∧ ∀ b ∈ f.blocks, b.name.size ≤ 60 from fun f hf => by
            obtain ⟨j, hj⟩ := List.getElem?_of_mem hf
            have h := HN.out.done j f (List.getElem?_eq_some_iff.1 hj).1 hj
            exact ⟨h.1.short, h.2⟩)
          have HFS := shid (HN.out.fns (cF := cF) hfl HBW.out HKF.out)
          have hck := check_any ⟨0, p.threads, p.funcs.map renF⟩ pt ct (some ⟨gF, 0, none⟩) cF wr (IntsIn.keep HTN.out HBW.out) (by rw [List.length_map]; exact HFS.out)
          simp only [List.length_map] at hck
          have HCK := shid hck
          clear hck hlt
          go_wp2_with fail
          refine HCK.out.mono ?_
          rintro e W12 ⟨rfl, hb12⟩
          have HX12 := shid (sbt HBW.out hb12)
          have HCO2 := shid (HCO.out HL.out)
          rw [show checkV ⟨0, p.threads, p.funcs.map renF⟩ = .tuple #[.agg #[.int .i64 (checkS ⟨0, p.threads, p.funcs.map renF⟩).1, .int .i64 (checkS ⟨0, p.threads, p.funcs.map renF⟩).2.1], .int .i64 (checkS ⟨0, p.threads, p.funcs.map renF⟩).2.2] from rfl]
          generalize checkS ⟨0, p.threads, p.funcs.map renF⟩ = r12 at *
          obtain ⟨l12, m12, n12⟩ := r12
          by_cases hz : ce = 0
          · subst hz
            cases HCO2.out rfl
            have HX13 := shid (sbt HX12.out (al1 W12 (.cells #[.int .i64 0, .int .i64 0] 29)))
            go_wp2_with fail
            refine (law_head _).mono ?_
            rintro e W99 ⟨rfl, hb99⟩
            go_wp2_with fail
            go_ret
            exact ⟨by first | rfl | simp, sbt HX13.out hb99⟩
          · have hz1 : (ce == 0) = false := by simpa using hz
            have HX13 := shid (sbt HX12.out (al1 W12 (.cells #[.int .i64 l12, .int .i64 m12] 29)))
            go_wp2_with fail
            refine (law_head _).mono ?_
            rintro e W99 ⟨rfl, hb99⟩
            go_wp2_with fail
            go_ret
            exact ⟨by first | rfl | simp, sbt HX13.out hb99⟩
end Go.Proofs.Ythahjnjkiljaaaa
