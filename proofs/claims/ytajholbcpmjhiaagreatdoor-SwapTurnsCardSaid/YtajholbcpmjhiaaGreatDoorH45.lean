/- Several texts in one: Ref10N. -/
import Derived.Test.YtajholbcpmjhiaaGreatDoorH44
set_option linter.unusedVariables false
set_option linter.unusedSimpArgs false
/- The walk of the document's Next (muntinref10). -/
namespace Go.Proofs.YtajholbcpmjhiaaGreatDoor
open Go.RowKit Go.Maps
def nextA (q : W8) (t : Nat) : W8 := lay10 (lay10 q 128 (t : Int)) 136 (word10 q (64 + 16 * (t : Int) + 8))
def nextB (q : W8) (t : Nat) : W8 := { nextA q t with f := setV q.f q.cwp 0 14 (word10 (nextA q t) (64 + 16 * (t : Int) + 4)) }
def nextC (q : W8) (t : Nat) : W8 := { nextB q t with inv := stepV q.cwp 1 q.f.nw }
def nextD (q : W8) (t : Nat) : W8 := load8 (nextC q t) q.cwp
theorem YW.gen {W wr wz w' : World} {n n' : Nat} {v0 : Value} {q q' : W8} (h : YW W wr n v0 q) (hb : Below wr.heap.size wr wz) (ho9 : Only (fun k => k = W.heap.size) wz w') {p : Option Addr} {m c g cap : Nat} (hr9 : ARow w' W.heap.size 58 (q'.cells (.slice p m c) g cap)) (hq : WAt wz n' (q'.agg (.slice p m c) g cap) q')
    (ho : ∀ k, own8 (q'.agg (.slice p m c) g cap) k → ((own8 v0 k ∨ W.heap.size ≤ k) ∧ k ≠ W.heap.size ∧ k ≠ W.heap.size + 1) ∨ wr.heap.size ≤ k) : YW W w' n' v0 q' := by
  obtain ⟨a, ⟨p0, m0, c0, g0, cap0, b1, b2, b3⟩, d⟩ := h
  have hs := d.lt
  have hs0 := b1.lt
  have hbs := hb.size
  have ho2 : ∀ k, own8 (q'.agg (.slice p m c) g cap) k → (own8 v0 k ∨ W.heap.size ≤ k) ∧ k ≠ W.heap.size ∧ k ≠ W.heap.size + 1 := fun k hk => by
    rcases ho k hk with h | h
    · exact h
    · exact ⟨.inr (by omega), by omega, by omega⟩
  exact ⟨a.trans ((hb.mono a.size).trans (ho9.below (Nat.le_trans a.size hbs) (fun k hk e => by omega))), ⟨p, m, c, g, cap, hr9, hq.only ho9 (fun k hk e => (ho2 k hk).2.1 e), ho2⟩, (d.below hb).of_block (ho9.block _ (by omega) (fun (e : W.heap.size + 1 = W.heap.size) => by omega))⟩
theorem WAt.parts {w : World} {n : Nat} {q : W8} {lv : Value} {g cap : Nat} (h : WAt w n (q.agg lv g cap) q) : ∃ L, WIn w q lv L g cap ∧ L.length ≤ n := by
  obtain ⟨lv', L, g', cap', e, h1, h2⟩ := h
  unfold W8.agg at e
  simp only [Value.agg.injEq, Array.mk.injEq, List.cons.injEq, and_true, true_and] at e
  obtain ⟨rfl, e2⟩ := e
  have e3 : g = g' ∧ cap = cap' := by
    have := e2
    simp at this
    exact this
  obtain ⟨rfl, rfl⟩ := e3
  exact ⟨L, h1, h2⟩
theorem word10_bd {q : W8} (h : Bytes q.mem) (a : Int) : 0 ≤ word10 q a ∧ word10 q a < 4294967296 := by
  unfold word10 loadV; split
  · have := loadS_bd h a.toNat (Int.toNat 4); exact ⟨this.1, this.2.1⟩
  · omega
set_option maxRecDepth 100000 in
set_option maxHeartbeats 8000000 in
theorem r10_next (W : World) (n : Nat) (v : Value) (q : W8) (hq : WAt W n v q) (hn : n < 900000) (hc : 0 ≤ q.cwp ∧ q.cwp < q.f.nw) (T : Nat) (hT4 : T ≤ 4) (hT : word10 q 132 = (T : Int)) (c : Nat) (hcb : c < 4294967296) (hlen : 0 < (live10 q T).length) (t : Nat) (ht : (live10 q T).getD (c % (live10 q T).length) 0 = (t : Int)) (ht4 : t < 4)
    (hcan : spanE (nextC q t).mem.length (frame8 (nextC q t) q.cwp) 16 4 = 0) :
    Calls Tryz.prog 42 #[v, .int .u32 c] W fun e w' => ∃ v', e = .returned (.tuple #[v', .int .u32 (word10 (nextA q t) (64 + 16 * (t : Int))), .bool true]) ∧ WAt w' (n + 17) v' (nextD q t) ∧ Below W.heap.size W w' ∧ ∀ k, own8 v' k → own8 v k ∨ W.heap.size ≤ k := by
  have hq0 := hq
  have hnw2 := hq.choose_spec.choose_spec.choose_spec.choose_spec.2.1.ok.nw2
  have hnw32 := hq.choose_spec.choose_spec.choose_spec.choose_spec.2.1.ok.nw32
  have hbyt := hq.choose_spec.choose_spec.choose_spec.choose_spec.2.1.mem.bytes
  obtain ⟨lv, L, g, cap, rfl, hin, hL⟩ := hq
  obtain ⟨p, cc, rfl⟩ := hin.log.shape
  have HY := mhid (YW.start hq0)
  obtain ⟨W1, hW1⟩ : ∃ x, x = W.alloc (.cells (q.cells (.slice p L.length cc) g cap).toArray 58) := ⟨_, rfl⟩
  obtain ⟨W2, hW2⟩ : ∃ x, x = W1.alloc (.cells zeros5.toArray 58) := ⟨_, rfl⟩
  rw [← hW1, ← hW2] at HY
  have hB : ARow W2 W.heap.size 58 (q.cells (.slice p L.length cc) g cap) := by rw [hW2, hW1]; exact (ARow.fresh W _ _).alloc _
  have HW := mhid (And.intro hW1 hW2)
  have HQ2 := mhid (show WAt W2 n (q.agg (.slice p L.length cc) g cap) q from hq0.keep HY.out.bel)
  unfold W8.cells at hB
  obtain ⟨b0, b1, b2, b3, b4⟩ := five_of hB
  have HB := mhid hB
  rw [hW2, hW1] at b0 b1 b2 b3 b4
  unfold W8.cells zeros5 at HW b0 b1 b2 b3 b4
  have HBY := mhid hbyt
  have HOL := mhid (show ∀ k, own8 (.agg #[.int .i64 q.f.nw, .slice p L.length cc, .slice (some ⟨g, 0, none⟩) q.mem.length cap, .int .i64 q.cwp, .int .i64 q.inv]) k → k < W.heap.size from fun k hk => hq0.own_lt (by unfold W8.agg; exact hk))
  clear hin hq0 hW1 hW2 hB hbyt
  have HAL := mhid (r10_alive W2 n _ q HQ2.out T hT4 hT)
  unfold W8.agg at HAL
  have HLE := mhid (And.intro hlen (And.intro ht (live10_len q T)))
  generalize live10 q T = ls at *
  clear hlen ht hT
  go_enter Tryz.func42, Tryz.ntmps42
  unfold W8.agg
  go_wp2_with fail
  rw [← HW.out.1, ← HW.out.2]
  rw [← HW.out.1, ← HW.out.2] at b0 b1 b2 b3 b4
  clear HW
  refine HAL.out.mono ?_
  rintro e W3 ⟨rv, rfl, hrd, hb3⟩
  have HY3 := mhid (HY.out.keep hb3)
  have HB3 := mhid (HB.out.below hb3)
  have HQ3 := mhid (HQ2.out.keep hb3)
  obtain ⟨bl, ol, pl, cl, rfl, hml, hpl, hcl⟩ := hrd.shape
  obtain rfl : pl = some ⟨bl, ol, none⟩ := hpl HLE.out.1
  obtain ⟨l, hl⟩ : ∃ l, l = ls.length := ⟨_, rfl⟩
  have hl4 : l ≤ 4 := by have := HLE.out.2.2; omega
  have hl0 : 0 < l := by rw [hl]; exact HLE.out.1
  have hcx : W3.cell? ⟨bl, ol + c % l, none⟩ = some (.int .u32 (t : Int)) := by
    have hm := Nat.mod_lt c hl0
    have := hcl (c % l) (by omega)
    rw [hl] at this ⊢
    rw [this, HLE.out.2.1]
  rw [← hl]
  have hl0' : ¬ ((l : Int) = 0) := by omega
  have e1 : IntKind.u32.wrap (l : Int) = (l : Int) := IntWalk.u32_in _ (by omega)
  have e2 : (c : Int).tmod (l : Int) = ((c % l : Nat) : Int) := by rw [Int.tmod_eq_emod_of_nonneg (by omega)]; exact (Int.natCast_emod _ _).symm
  have hml2 := Nat.mod_lt c hl0
  clear hb3 hrd hml hpl hcl HAL HY HB HQ2 b0 b1 b2 b3 b4 hl HLE
  generalize c % l = i at *
  have hil : (i : Int) < (l : Int) := by omega
  have e3 : IntKind.u32.wrap (i : Int) = (i : Int) := IntWalk.u32_in _ (by omega)
  have hl0b : ((l : Int) == 0) = false := by rw [beq_eq_false_iff_ne]; exact hl0'
  obtain ⟨qa, hqa⟩ : ∃ x, x = nextA q t := ⟨_, rfl⟩
  obtain ⟨q1, hq1⟩ : ∃ x, x = lay10 q 128 (t : Int) := ⟨_, rfl⟩
  obtain ⟨x8, hx8⟩ : ∃ x, x = word10 q (64 + 16 * (t : Int) + 8) := ⟨_, rfl⟩
  have hx8b := word10_bd HBY.out (64 + 16 * (t : Int) + 8)
  have HBK := mhid (fun (w' : World) => r10_block w' t (by omega))
  have HL1 := mhid (fun (w' : World) (hb : Below W3.heap.size W3 w') => r10_lay w' n _ q (HQ3.out.keep hb) 128 (t : Int) ⟨by decide, by decide⟩ ⟨by omega, by omega⟩)
  rw [← hq1] at HL1
  have HWO := mhid (fun (w' : World) (hb : Below W3.heap.size W3 w') => r10_word w' n _ q (HQ3.out.keep hb) (64 + 16 * (t : Int) + 8) ⟨by omega, by omega⟩)
  rw [← hx8] at HWO hx8b
  have HL2 := mhid (fun (w' : World) (v : Value) (hq : WAt w' n v q1) => r10_lay w' n v q1 hq 136 x8 ⟨by decide, by decide⟩ hx8b)
  rw [show lay10 q1 136 x8 = qa from by rw [hq1, hx8, hqa]; rfl] at HL2
  have HQA := mhid hqa
  have HB3R := mhid (show ∀ w', Below W3.heap.size W3 w' → (w'.cell? ⟨W.heap.size, 0, none⟩ = some (.int .i64 q.f.nw) ∧ w'.cell? ⟨W.heap.size, 1, none⟩ = some (.slice p L.length cc) ∧ w'.cell? ⟨W.heap.size, 2, none⟩ = some (.slice (some ⟨g, 0, none⟩) q.mem.length cap) ∧ w'.cell? ⟨W.heap.size, 3, none⟩ = some (.int .i64 q.cwp) ∧ w'.cell? ⟨W.heap.size, 4, none⟩ = some (.int .i64 q.inv)) ∧ (w'.frozen? ⟨W.heap.size, 0, none⟩ = false ∧ w'.frozen? ⟨W.heap.size, 1, none⟩ = false ∧ w'.frozen? ⟨W.heap.size, 2, none⟩ = false ∧ w'.frozen? ⟨W.heap.size, 3, none⟩ = false ∧ w'.frozen? ⟨W.heap.size, 4, none⟩ = false) from fun w' hb => by
    have h := HB3.out.below hb
    exact ⟨five_of h, h.frozen 0, h.frozen 1, h.frozen 2, h.frozen 3, h.frozen 4⟩)
  clear hqa hq1 hx8 hx8b
  unfold W8.agg at HL1 HWO
  have e8 : IntKind.u32.wrap (64 + 16 * (t : Int) + 8) = 64 + 16 * (t : Int) + 8 := IntWalk.u32_in _ (by omega)
  have e4 : IntKind.u32.wrap (64 + 16 * (t : Int) + 4) = 64 + 16 * (t : Int) + 4 := IntWalk.u32_in _ (by omega)
  go_upto_region 5 with (fail)
  clear e1 e2 e3 hl0b hl0' hcx
  go_cut [] from 25 (fun w' => Hid (YW W w' n (q.agg (.slice p L.length cc) g cap) qa))
  case first =>
    obtain ⟨⟨b0, b1, b2, b3, b4⟩, f0, f1, f2, f3, f4⟩ := HB3R.out W3 (Below.refl _ _)
    have hbW : Below W3.heap.size W3 W3.drew := (Below.refl _ _).drew
    go_region_law (first
      | (go_simp; go_at_call 98; (with_reducible refine (HBK.out _).mono ?_); rintro e wy ⟨rfl, rfl⟩)
      | (go_simp; go_at_call 99; (with_reducible refine (HWO.out _ hbW).mono ?_); rintro e wx ⟨rfl, hb⟩; (try have HQ4 := mhid (HQ4.out.keep hb)); have hbW := hbW.trans (hb.mono hbW.size); obtain ⟨⟨r0, r1, r2, r3, r4⟩, rf0, rf1, rf2, rf3, rf4⟩ := HB3R.out _ hbW; clear hb)
      | (go_simp; go_at_call 97; (with_reducible refine (HL1.out _ hbW).mono ?_); rintro e wz ⟨v4, rfl, hq4, hb, ho4⟩; have HO4 := mhid (show ∀ k, _ → _ ∨ W3.heap.size ≤ k from fun k hk => (ho4 k hk).imp id (fun h => Nat.le_trans hbW.size h)); have hbW := hbW.trans (hb.mono hbW.size); have HQ4 := mhid hq4; obtain ⟨lv4, L4, g4, cap4, rfl, hin4, hL4⟩ := hq4; obtain ⟨p4, c4, rfl⟩ := hin4.log.shape; obtain ⟨⟨r0, r1, r2, r3, r4⟩, rf0, rf1, rf2, rf3, rf4⟩ := HB3R.out _ hbW; unfold W8.agg at HQ4 HO4 ⊢; clear hb hin4 hL4 ho4)
      | (go_simp; go_at_call 97; (with_reducible refine (HL2.out _ _ HQ4.out).mono ?_); rintro e wv ⟨v5, rfl, hq5, hb, ho5⟩; have HO5 := mhid (show ∀ k, _ → _ ∨ W3.heap.size ≤ k from fun k hk => (ho5 k hk).imp id (fun h => Nat.le_trans hbW.size h)); have hbW := hbW.trans (hb.mono hbW.size); have HQ5 := mhid hq5; obtain ⟨lv5, L5, g5, cap5, rfl, hin5, hL5⟩ := hq5; obtain ⟨p5, c5, rfl⟩ := hin5.log.shape; obtain ⟨⟨r0, r1, r2, r3, r4⟩, rf0, rf1, rf2, rf3, rf4⟩ := HB3R.out _ hbW; unfold W8.agg; clear hb hin5 hL5 ho5))
    all_goals go_wp2_with fail
    all_goals go_meet
    all_goals
      refine mhid (HY3.out.put hbW HQ5.out (fun k hk => ?_))
      rcases HO5.out k hk with h | h
      · rcases HO4.out k h with h | h
        · refine .inl ⟨.inl h, ?_, ?_⟩
          · have := HY3.out.res.lt; have := HOL.out k h; omega
          · have := HY3.out.res.lt; have := HOL.out k h; omega
        · exact .inr h
      · exact .inr h
  case rest =>
    obtain ⟨w4, rfl⟩ : ∃ W, W = wc := ⟨_, rfl⟩
    have hqaf : qa.f = q.f ∧ qa.cwp = q.cwp ∧ qa.inv = q.inv := by rw [HQA.out]; exact ⟨rfl, rfl, rfl⟩
    obtain ⟨p5, m5, c5, g5, cap5, hb5, hq5, ho5⟩ := hcut.out.ex
    obtain ⟨L5, hin5, hL5⟩ := hq5.parts
    obtain ⟨qb, hqb⟩ : ∃ x, x = nextB q t := ⟨_, rfl⟩
    obtain ⟨x4, hx4⟩ : ∃ x, x = word10 qa (64 + 16 * (t : Int) + 4) := ⟨_, rfl⟩
    have hx4b := word10_bd hin5.mem.bytes (64 + 16 * (t : Int) + 4)
    rw [← hx4] at hx4b
    have hqb2 : qb = { qa with f := setV qa.f qa.cwp 0 14 x4 } := by rw [hqb, hx4, HQA.out]; rfl
    have HQB := mhid (And.intro hqb hqb2)
    have HB5 := mhid hb5
    have HQ5 := mhid hq5
    have HO5 := mhid ho5
    have HIN5 := mhid (And.intro hin5 hL5)
    have HQF := mhid hqaf
    have HWO2 := mhid (fun (w' : World) (hb : Below w4.heap.size w4 w') => r10_word w' n _ qa (HQ5.out.keep hb) (64 + 16 * (t : Int) + 4) ⟨by omega, by omega⟩)
    rw [← hx4] at HWO2
    have HSE := mhid (fun (w' : World) (hb : Below w4.heap.size w4 w') => rf_set w' qa.f HIN5.out.1.ok (.slice p5 m5 c5) L5 (HIN5.out.1.log.keep hb) (by have := HIN5.out.2; omega) HIN5.out.1.says qa.cwp 0 14 x4)
    unfold W8.agg at HWO2
    have HX4 := mhid hx4b
    clear hb5 hq5 ho5 hin5 hL5 hqb hqb2 hx4 hx4b hqaf HL1 HL2 HWO HB3R HB3 HQ3 HY3
    unfold W8.cells at HB5
    have HB5R := mhid (show ∀ w', Below w4.heap.size w4 w' → (w'.cell? ⟨W.heap.size, 0, none⟩ = some (.int .i64 qa.f.nw) ∧ w'.cell? ⟨W.heap.size, 1, none⟩ = some (.slice p5 m5 c5) ∧ w'.cell? ⟨W.heap.size, 2, none⟩ = some (.slice (some ⟨g5, 0, none⟩) qa.mem.length cap5) ∧ w'.cell? ⟨W.heap.size, 3, none⟩ = some (.int .i64 qa.cwp) ∧ w'.cell? ⟨W.heap.size, 4, none⟩ = some (.int .i64 qa.inv)) ∧ (w'.frozen? ⟨W.heap.size, 0, none⟩ = false ∧ w'.frozen? ⟨W.heap.size, 1, none⟩ = false ∧ w'.frozen? ⟨W.heap.size, 2, none⟩ = false ∧ w'.frozen? ⟨W.heap.size, 3, none⟩ = false ∧ w'.frozen? ⟨W.heap.size, 4, none⟩ = false) from fun w' hb => by
      have h := HB5.out.below hb
      exact ⟨five_of h, h.frozen 0, h.frozen 1, h.frozen 2, h.frozen 3, h.frozen 4⟩)
    go_upto_region 6 with (fail)
    go_cut [] from 34 (fun w' => Hid (YW W w' (n + 1) (q.agg (.slice p L.length cc) g cap) qb))
    case first =>
      obtain ⟨⟨b0, b1, b2, b3, b4⟩, f0, f1, f2, f3, f4⟩ := HB5R.out w4 (Below.refl _ _)
      have hbW : Below w4.heap.size w4 w4.drew := (Below.refl _ _).drew
      go_region_law (first
        | (go_simp; go_at_call 98; (with_reducible refine (HBK.out _).mono ?_); rintro e wy ⟨rfl, rfl⟩)
        | (go_simp; go_at_call 99; (with_reducible refine (HWO2.out _ hbW).mono ?_); rintro e wx ⟨rfl, hb⟩; have hbW := hbW.trans (hb.mono hbW.size); obtain ⟨⟨r0, r1, r2, r3, r4⟩, rf0, rf1, rf2, rf3, rf4⟩ := HB5R.out _ hbW; clear hb)
        | (go_simp; go_at_call 69; (with_reducible refine (HSE.out _ hbW).mono ?_); rintro e wz ⟨lv6, L6, rfl, hlog6, hsay6, hlen6, hb, ho6⟩; have HO6 := mhid (show ∀ k, _ → _ ∨ w4.heap.size ≤ k from fun k hk => (ho6 k hk).imp id (fun h => Nat.le_trans hbW.size h)); have hbW := hbW.trans (hb.mono hbW.size); obtain ⟨p6, c6, rfl⟩ := hlog6.shape; have HL6 := mhid (And.intro hlog6 (And.intro hsay6 hlen6)); obtain ⟨⟨r0, r1, r2, r3, r4⟩, rf0, rf1, rf2, rf3, rf4⟩ := HB5R.out _ hbW; clear hb hlog6 hsay6 hlen6 ho6))
      all_goals go_wp2_with fail
      all_goals go_meet
      all_goals
        have hr := ((HB5.out.below hbW).set 0 (.int .i64 qa.f.nw)).set 1 (.slice p6 L6.length c6)
        have ho9 : Only (fun k => k = W.heap.size) wz ((wz.setCell ⟨W.heap.size, 0, none⟩ (.int .i64 qa.f.nw)).setCell ⟨W.heap.size, 1, none⟩ (.slice p6 L6.length c6)) := ((Only.refl (fun k => k = W.heap.size) wz).setCell (p := ⟨W.heap.size, 0, none⟩) rfl _).setCell (p := ⟨W.heap.size, 1, none⟩) rfl _
        have hqn : qb.f.nw = qa.f.nw := by rw [HQB.out.2]; exact setV_nw _ _ _ _ _
        have hqm : qb.mem = qa.mem ∧ qb.cwp = qa.cwp ∧ qb.inv = qa.inv := by rw [HQB.out.2]; exact ⟨rfl, rfl, rfl⟩
        refine mhid (hcut.out.gen hbW ho9 (q' := qb) (p := p6) (m := L6.length) (c := c6) (g := g5) (cap := cap5) ?_ ⟨.slice p6 L6.length c6, L6, g5, cap5, rfl, ⟨HL6.out.1, ?_, ?_, ?_⟩, ?_⟩ (fun k hk => ?_))
        · unfold W8.cells; rw [hqn, hqm.1, hqm.2.1, hqm.2.2]; exact hr
        · rw [show qb.f = setV qa.f qa.cwp 0 14 x4 from by rw [HQB.out.2]]; exact HL6.out.2.1
        · rw [hqm.1]; exact refat_below HIN5.out.1.mem hbW
        · rw [show qb.f = setV qa.f qa.cwp 0 14 x4 from by rw [HQB.out.2]]; exact HIN5.out.1.ok.sV _ _ _ HX4.out
        · have := HL6.out.2.2; have := HIN5.out.2; omega
        · rcases (own8_agg _ _ _ _ _).1 hk with h | rfl
          · rcases HO6.out k h with h | h
            · exact .inl (HO5.out k ((own8_agg _ _ _ _ _).2 (.inl h)))
            · exact .inr h
          · exact .inl (HO5.out _ ((own8_agg _ _ _ _ _).2 (.inr rfl)))
    case rest =>
      obtain ⟨w5, rfl⟩ : ∃ W, W = wc := ⟨_, rfl⟩
      have hqbf : qb.f.nw = q.f.nw ∧ qb.cwp = q.cwp ∧ qb.mem = qa.mem := by rw [HQB.out.2]; exact ⟨(setV_nw _ _ _ _ _).trans (by rw [HQF.out.1]), HQF.out.2.1, rfl⟩
      obtain ⟨p6, m6, c6, g6, cap6, hb6, hq6, ho6⟩ := hcut.out.ex
      obtain ⟨L6, hin6, hL6⟩ := hq6.parts
      obtain ⟨qc, hqc⟩ : ∃ x, x = nextC q t := ⟨_, rfl⟩
      have hqc2 : qc = { qb with inv := stepV q.cwp 1 q.f.nw } := by rw [hqc, HQB.out.1]; rfl
      have HQC := mhid (And.intro hqc hqc2)
      have HB6 := mhid hb6
      have HIN6 := mhid (And.intro hin6 hL6)
      have HO6 := mhid ho6
      have HBF := mhid hqbf
      have HRN := mhid (rnext_any q.cwp q.f.nw 1 (fun _ => ⟨by decide, by decide⟩) w5)
      have hst := stepV_bd (x := q.cwp) (by' := 1) (nw := (q.f.nw : Int)) (by omega)
      clear hb6 hq6 ho6 hin6 hL6 hqc hqc2 hqbf HWO2 HSE HB5R
      unfold W8.cells at HB6
      obtain ⟨b0, b1, b2, b3, b4⟩ := five_of HB6.out
      have f4 := HB6.out.frozen 4
      rw [HBF.out.1] at b0
      rw [HBF.out.2.1] at b3
      generalize stepV q.cwp 1 q.f.nw = iv at *
      go_wp2_with fail
      refine HRN.out.mono ?_
      rintro e w' ⟨rfl, rfl⟩
      go_upto_region 8 with (fail)
      obtain ⟨W7, hW7⟩ : ∃ W7, W7 = w5.setCell ⟨W.heap.size, 4, none⟩ (.int .i64 iv) := ⟨_, rfl⟩
      have hqcf : qc.f = qb.f ∧ qc.mem = qb.mem ∧ qc.cwp = qb.cwp ∧ qc.inv = iv := by rw [HQC.out.2]; exact ⟨rfl, rfl, rfl, rfl⟩
      have HY7 := mhid (show YW W W7 (n + 1) (q.agg (.slice p L.length cc) g cap) qc from by
        refine hcut.out.gen (Below.refl _ _) (show Only (fun k => k = W.heap.size) w5 W7 from by rw [hW7]; exact (Only.refl (fun k => k = W.heap.size) w5).setCell (p := ⟨W.heap.size, 4, none⟩) rfl _) (q' := qc) (p := p6) (m := m6) (c := c6) (g := g6) (cap := cap6) ?_ ⟨.slice p6 m6 c6, L6, g6, cap6, rfl, ⟨HIN6.out.1.log, by rw [hqcf.1]; exact HIN6.out.1.says, by rw [hqcf.2.1]; exact HIN6.out.1.mem, by rw [hqcf.1]; exact HIN6.out.1.ok⟩, HIN6.out.2⟩ (fun k hk => .inl (HO6.out k ((own8_agg _ _ _ _ _).2 ((own8_agg _ _ _ _ _).1 hk))))
        unfold W8.cells
        rw [hqcf.1, hqcf.2.1, hqcf.2.2.1, hqcf.2.2.2, hW7]
        exact HB6.out.set 4 (.int .i64 iv))
      rw [← hW7]
      have HQCF := mhid hqcf
      clear hW7 hqcf b0 b1 b2 b3 b4 f4 HB6 HIN6 HO6
      obtain ⟨p7, m7, c7, g7, cap7, hb7, hq7, ho7⟩ := HY7.out.ex
      have HB7 := mhid hb7
      have HQ7 := mhid hq7
      have HO7 := mhid ho7
      clear hb7 hq7 ho7
      unfold W8.cells at HB7
      obtain ⟨b0, b1, b2, b3, b4⟩ := five_of HB7.out
      have hcw7 : qc.cwp = q.cwp := by rw [HQCF.out.2.2.1, HBF.out.2.1]
      have hnw7 : qc.f.nw = q.f.nw := by rw [HQCF.out.1, HBF.out.1]
      rw [hcw7] at b3
      have HLD := mhid (r8_loaded W7 (n + 1) _ qc HQ7.out (by omega) q.cwp ⟨hc.1, by rw [hnw7]; exact hc.2⟩ (by rw [HQC.out.1]; exact hcan))
      obtain ⟨qd, hqd⟩ : ∃ x, x = nextD q t := ⟨_, rfl⟩
      rw [show load8 qc q.cwp = qd from by rw [hqd, HQC.out.1]; rfl] at HLD
      have HQD := mhid hqd
      have hagg : qc.agg (.slice p7 m7 c7) g7 cap7 = .agg #[.int .i64 qc.f.nw, .slice p7 m7 c7, .slice (some ⟨g7, 0, none⟩) qc.mem.length cap7, .int .i64 q.cwp, .int .i64 qc.inv] := by unfold W8.agg; rw [hcw7]
      rw [hagg] at HLD HQ7 HO7
      have hwpc : word10 qc (64 + 16 * (t : Int)) = word10 (nextA q t) (64 + 16 * (t : Int)) := by
        unfold word10; rw [HQCF.out.2.1, HBF.out.2.2, HQA.out]
      obtain ⟨pv, hpv⟩ : ∃ x, x = word10 (nextA q t) (64 + 16 * (t : Int)) := ⟨_, rfl⟩
      rw [← hpv] at hwpc
      have HWP := mhid (And.intro hpv hwpc)
      clear hqd hagg hcan hwpc hpv hcw7 hnw7
      go_wp2_with fail
      refine HLD.out.mono ?_
      rintro e w8 ⟨v8, rfl, hq8, hb8, ho8⟩
      have HQ8 := mhid hq8
      obtain ⟨lv8, L8, g8, cap8, rfl, hin8, hL8⟩ := hq8
      obtain ⟨p8, c8, rfl⟩ := hin8.log.shape
      have HOD := mhid (show ∀ k, own8 (qd.agg (.slice p8 L8.length c8) g8 cap8) k → (own8 (.agg #[.int .i64 q.f.nw, .slice p L.length cc, .slice (some ⟨g, 0, none⟩) q.mem.length cap, .int .i64 q.cwp, .int .i64 q.inv]) k ∨ W.heap.size ≤ k) ∧ k ≠ W.heap.size + 1 from fun k hk => by
        have hs7 := HY7.out.res.lt
        rcases ho8 k hk with h | h
        · exact ⟨(HO7.out k h).1, (HO7.out k h).2.2⟩
        · exact ⟨.inr (by omega), by omega⟩)
      have HY8 := mhid (HY7.out.keep hb8)
      have HB8 := mhid (HB7.out.below hb8)
      have HQ78 := mhid (HQ7.out.keep hb8)
      clear hb8 ho8 hin8 hL8 HLD HY7 HB7 HQ7 b0 b1 b2 b3 b4
      obtain ⟨W9, hW9⟩ : ∃ W9, W9 = w8.alloc (.cells #[.int .i64 qd.f.nw, .slice p8 L8.length c8, .slice (some ⟨g8, 0, none⟩) qd.mem.length cap8, .int .i64 qd.cwp, .int .i64 qd.inv] 58) := ⟨_, rfl⟩
      have hb9 : Below w8.heap.size w8 W9 := by rw [hW9]; exact (Below.refl _ _).alloc (Nat.le_refl _) _
      have hR9 : ARow W9 w8.heap.size 58 [.int .i64 qd.f.nw, .slice p8 L8.length c8, .slice (some ⟨g8, 0, none⟩) qd.mem.length cap8, .int .i64 qd.cwp, .int .i64 qd.inv] := by rw [hW9]; exact ARow.fresh w8 _ _
      have HR9 := mhid hR9
      have HY9 := mhid (HY8.out.keep hb9)
      have HB9 := mhid (HB8.out.below hb9)
      have HQ9 := mhid (HQ78.out.keep hb9)
      have HD9 := mhid (HQ8.out.keep hb9)
      have HW9 := mhid hW9
      have hlt8 : W.heap.size + 1 < w8.heap.size := HY8.out.res.lt
      have HLT := mhid hlt8
      clear hb9 hR9 hW9 HY8 HB8 HQ78 HQ8
      unfold W8.agg
      go_upto_region 9 with (fail)
      rw [← HW9.out]
      clear HW9
      have HKS := mhid (show ∀ w', Below W9.heap.size W9 w' → (w'.cell? ⟨W.heap.size, 0, none⟩ = some (.int .i64 qc.f.nw) ∧ w'.cell? ⟨W.heap.size, 1, none⟩ = some (.slice p7 m7 c7) ∧ w'.cell? ⟨W.heap.size, 2, none⟩ = some (.slice (some ⟨g7, 0, none⟩) qc.mem.length cap7) ∧ w'.cell? ⟨W.heap.size, 3, none⟩ = some (.int .i64 q.cwp) ∧ w'.cell? ⟨W.heap.size, 4, none⟩ = some (.int .i64 qc.inv)) ∧ (w'.cell? ⟨w8.heap.size, 0, none⟩ = some (.int .i64 qd.f.nw) ∧ w'.cell? ⟨w8.heap.size, 1, none⟩ = some (.slice p8 L8.length c8) ∧ w'.cell? ⟨w8.heap.size, 2, none⟩ = some (.slice (some ⟨g8, 0, none⟩) qd.mem.length cap8) ∧ w'.cell? ⟨w8.heap.size, 3, none⟩ = some (.int .i64 qd.cwp) ∧ w'.cell? ⟨w8.heap.size, 4, none⟩ = some (.int .i64 qd.inv)) from fun w' hb => by
        have h1 := five_of (HB9.out.below hb)
        rw [show qc.cwp = q.cwp by rw [HQCF.out.2.2.1, HBF.out.2.1]] at h1
        exact ⟨h1, five_of (HR9.out.below hb)⟩)
      have HKO := mhid (show ∀ w1 w', Below W9.heap.size W9 w1 → Only (fun k => k = W.heap.size + 1) w1 w' → (w'.cell? ⟨W.heap.size, 0, none⟩ = some (.int .i64 qc.f.nw) ∧ w'.cell? ⟨W.heap.size, 1, none⟩ = some (.slice p7 m7 c7) ∧ w'.cell? ⟨W.heap.size, 2, none⟩ = some (.slice (some ⟨g7, 0, none⟩) qc.mem.length cap7) ∧ w'.cell? ⟨W.heap.size, 3, none⟩ = some (.int .i64 q.cwp) ∧ w'.cell? ⟨W.heap.size, 4, none⟩ = some (.int .i64 qc.inv)) ∧ (w'.cell? ⟨w8.heap.size, 0, none⟩ = some (.int .i64 qd.f.nw) ∧ w'.cell? ⟨w8.heap.size, 1, none⟩ = some (.slice p8 L8.length c8) ∧ w'.cell? ⟨w8.heap.size, 2, none⟩ = some (.slice (some ⟨g8, 0, none⟩) qd.mem.length cap8) ∧ w'.cell? ⟨w8.heap.size, 3, none⟩ = some (.int .i64 qd.cwp) ∧ w'.cell? ⟨w8.heap.size, 4, none⟩ = some (.int .i64 qd.inv)) from fun w1 w' hb ho => by
        have h0 := HB9.out.below hb
        have h2 := HR9.out.below hb
        have h1 := five_of (h0.of_block (ho.block _ h0.lt (fun (hh : W.heap.size = W.heap.size + 1) => by omega)))
        rw [show qc.cwp = q.cwp by rw [HQCF.out.2.2.1, HBF.out.2.1]] at h1
        exact ⟨h1, five_of (h2.of_block (ho.block _ h2.lt (fun (hh : w8.heap.size = W.heap.size + 1) => by have := HLT.out; omega)))⟩)
      have HRK := mhid (show ∀ w', Below W9.heap.size W9 w' → (w'.cell? ⟨W.heap.size + 1, 0, none⟩ = some (.int .i64 0) ∧ w'.cell? ⟨W.heap.size + 1, 1, none⟩ = some (.slice none 0 0) ∧ w'.cell? ⟨W.heap.size + 1, 2, none⟩ = some (.slice none 0 0) ∧ w'.cell? ⟨W.heap.size + 1, 3, none⟩ = some (.int .i64 0) ∧ w'.cell? ⟨W.heap.size + 1, 4, none⟩ = some (.int .i64 0)) ∧ (w'.frozen? ⟨W.heap.size + 1, 0, none⟩ = false ∧ w'.frozen? ⟨W.heap.size + 1, 1, none⟩ = false ∧ w'.frozen? ⟨W.heap.size + 1, 2, none⟩ = false ∧ w'.frozen? ⟨W.heap.size + 1, 3, none⟩ = false ∧ w'.frozen? ⟨W.heap.size + 1, 4, none⟩ = false) from fun w' hb => by
        have h := HY9.out.res.below hb
        exact ⟨five_of h, h.frozen 0, h.frozen 1, h.frozen 2, h.frozen 3, h.frozen 4⟩)
      have HWO3 := mhid (fun (w' : World) (hb : Below W9.heap.size W9 w') => r10_word w' (n + 1) _ qc (HQ9.out.keep hb) (64 + 16 * (t : Int)) ⟨by omega, by omega⟩)
      rw [HWP.out.2] at HWO3
      have hbW : Below W9.heap.size W9 W9.drew := (Below.refl _ _).drew
      obtain ⟨⟨r0, r1, r2, r3, r4⟩, rf0, rf1, rf2, rf3, rf4⟩ := HRK.out _ hbW
      go_region_held3 (fun w' => (w'.cell? ⟨W.heap.size, 0, none⟩ = some (.int .i64 qc.f.nw) ∧ w'.cell? ⟨W.heap.size, 1, none⟩ = some (.slice p7 m7 c7) ∧ w'.cell? ⟨W.heap.size, 2, none⟩ = some (.slice (some ⟨g7, 0, none⟩) qc.mem.length cap7) ∧ w'.cell? ⟨W.heap.size, 3, none⟩ = some (.int .i64 q.cwp) ∧ w'.cell? ⟨W.heap.size, 4, none⟩ = some (.int .i64 qc.inv)) ∧ (w'.cell? ⟨w8.heap.size, 0, none⟩ = some (.int .i64 qd.f.nw) ∧ w'.cell? ⟨w8.heap.size, 1, none⟩ = some (.slice p8 L8.length c8) ∧ w'.cell? ⟨w8.heap.size, 2, none⟩ = some (.slice (some ⟨g8, 0, none⟩) qd.mem.length cap8) ∧ w'.cell? ⟨w8.heap.size, 3, none⟩ = some (.int .i64 qd.cwp) ∧ w'.cell? ⟨w8.heap.size, 4, none⟩ = some (.int .i64 qd.inv)))
        (first | (with_reducible exact HKS.out _ hbW) | (exact HKO.out _ _ hbW (cp5_only _ _ _ _ _ _ _ rfl)) | (refine HKS.out _ ?_; go_grown; done))
        (first
          | (go_at_call 98; (with_reducible refine (HBK.out _).mono ?_); rintro e wy ⟨rfl, rfl⟩)
          | (go_at_call 99; (with_reducible refine (HWO3.out _ hbW).mono ?_); rintro e wx ⟨rfl, hb⟩; have hbW := hbW.trans (hb.mono hbW.size); obtain ⟨⟨r0, r1, r2, r3, r4⟩, rf0, rf1, rf2, rf3, rf4⟩ := HRK.out _ hbW; clear hb))
      all_goals
        have hr9 := cp5_row (HY9.out.res.below hbW) (.int .i64 qd.f.nw) (.slice p8 L8.length c8) (.slice (some ⟨g8, 0, none⟩) qd.mem.length cap8) (.int .i64 qd.cwp) (.int .i64 qd.inv)
        have ho9 : Only (fun k => k = W.heap.size + 1) wx (cp5 wx (W.heap.size + 1) (.int .i64 qd.f.nw) (.slice p8 L8.length c8) (.slice (some ⟨g8, 0, none⟩) qd.mem.length cap8) (.int .i64 qd.cwp) (.int .i64 qd.inv)) := cp5_only _ _ _ _ _ _ _ rfl
        change Exit.then _ _ _ _ (cp5 wx (W.heap.size + 1) (.int .i64 qd.f.nw) (.slice p8 L8.length c8) (.slice (some ⟨g8, 0, none⟩) qd.mem.length cap8) (.int .i64 qd.cwp) (.int .i64 qd.inv))
        generalize cp5 wx (W.heap.size + 1) (.int .i64 qd.f.nw) (.slice p8 L8.length c8) (.slice (some ⟨g8, 0, none⟩) qd.mem.length cap8) (.int .i64 qd.cwp) (.int .i64 qd.inv) = W10 at *
        clear r0 r1 r2 r3 r4 rf0 rf1 rf2 rf3 rf4
        have s0 := hr9.cell (k := 0) rfl
        have s1 := hr9.cell (k := 1) rfl
        have s2 := hr9.cell (k := 2) rfl
        have s3 := hr9.cell (k := 3) rfl
        have s4 := hr9.cell (k := 4) rfl
        go_wp2_with fail
        refine bodyPost_ret (by simp [results, Tryz.results42, go_sem, s0, s1, s2, s3, s4]; try rfl) rfl ?_
        have hown : ∀ k, own8 (qd.agg (.slice p8 L8.length c8) g8 cap8) k → k ≠ W.heap.size + 1 := fun k hk => (HOD.out k hk).2
        refine ⟨qd.agg (.slice p8 L8.length c8) g8 cap8, ?_, ?_, HY9.out.bel.trans ((hbW.mono HY9.out.bel.size).trans (ho9.below (Nat.le_trans HY9.out.bel.size hbW.size) (fun k hk e => by omega))), fun k hk => (HOD.out k hk).1⟩
        · rw [← HWP.out.1]; rfl
        · rw [← HQD.out]
          exact (HD9.out.keep hbW).only ho9 (fun k hk e => hown k hk e)
end Go.Proofs.YtajholbcpmjhiaaGreatDoor
