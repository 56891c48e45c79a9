/- The walks of flat.yield and flat.ret. -/
import Derived.Test.YtdefooailcbnlaaG38
import Derived.Test.YtdefooailcbnlaaG41
namespace Go.Proofs.Ytdefooailcbnlaa
open Go.RowKit
set_option linter.unusedVariables false
set_option linter.unusedSimpArgs false
theorem choose_any (w : World) (p : Prg) (G : Gh) (m : Nat) (s : Mdl) (h : MdlAt w p G m s) (hT : s.thr.length ≤ 4) (hlive : 0 < (live s.thr).length) (hmax : ∀ (t : Nat) l, s.thr[t]? = some l → l.length < 4294967296) (hcw : Words s.ch) :
    Calls Try.prog 71 #[.pointer (some ⟨m, 0, none⟩)] w fun e w' => e = .returned (.tuple #[]) ∧ Goes w p G m (choose s) w' := by
  cases hc : s.ch with
  | nil => exact choose_none w p G m s h hT hlive hmax hc
  | cons c r => exact choose_some w p G m s h hT hlive hmax c r hc (hcw c (by rw [hc]; simp))
/-- The innermost frame is gone. -/
theorem OpIn.pop {w : World} {p : Prg} {G : Gh} {m : Nat} {s : Mdl} {up : List Fr} {f : Fr} {g k cap : Nat} (h : OpIn w p G m s up f g k) (hv : G.vs[s.cur]? = some (.slice (some ⟨g, 0, none⟩) (up.length + 1) cap)) :
    ∃ G3 : Gh, G3.tb = G.tb ∧ G3.R = G.R ∧ MdlAt (w.setCell ⟨G.tb, s.cur, none⟩ (.slice (some ⟨g, 0, none⟩) up.length cap)) p G3 m (put s up) ∧ Only G.own w (w.setCell ⟨G.tb, s.cur, none⟩ (.slice (some ⟨g, 0, none⟩) up.length cap)) := by
  have hcur := (List.getElem?_eq_some_iff.1 h.thr).1
  have hlv : s.cur < G.vs.length := by rw [h.at'.vl]; exact hcur
  have ho : Only (fun b => b = G.tb) w (w.setCell ⟨G.tb, s.cur, none⟩ (.slice (some ⟨g, 0, none⟩) up.length cap)) := (Only.refl (fun b => b = G.tb) w).setCell (p := ⟨G.tb, s.cur, none⟩) rfl _
  obtain ⟨g', cap', c, he, h1, h2, h3, h4⟩ := (h.at'.frs s.cur _ _ hv h.thr).ex
  rw [List.length_append] at he h3
  cases he
  have hcl : c.length = up.length + 1 := by rw [← List.length_map (f := fun x : Fr × Nat => x.1), h2]; simp
  have hgt : g ≠ G.tb := fun e => by have := h.at'.rt; rw [← e, h1] at this; cases this
  have hf : FrsAt (w.setCell ⟨G.tb, s.cur, none⟩ (.slice (some ⟨g, 0, none⟩) up.length cap)) G.R s.cur (.slice (some ⟨g, 0, none⟩) up.length cap) up := by
    refine ⟨g, cap, c.take up.length, rfl, h1, ?_, ?_, fun j x hx => ?_⟩
    · rw [List.map_take, h2]; simp
    · have := ownsRow_less h3 (m := up.length) (by simp)
      rw [flat_take frC 4 frC_len] at this
      exact this.keepw ho (fun b hb e => by simp [Value.ownBlock] at hb; exact hgt (hb.trans e))
    · have hx' : c[j]? = some x := by
        rw [List.getElem?_take] at hx
        split at hx
        · exact hx
        · cases hx
      obtain ⟨a, b⟩ := h4 j x hx'
      exact ⟨a, b.other (fun e => by
        have e' : x.2 = G.tb := e
        rw [e', h.at'.rt] at a; cases a) _⟩
  have hb := h.at'.thr1 hcur ho G.R (fun _ _ => rfl) (fun b hb => Nat.lt_of_lt_of_le (h.at'.lt b hb) ho.size) (fun b hb => .inl (by rw [hb]; exact h.at'.rt)) (h.at'.thr.set hlv _) hf (fun _ hk => hk)
  exact ⟨{ G with R := G.R, vs := G.vs.set s.cur (.slice (some ⟨g, 0, none⟩) up.length cap) }, rfl, rfl, hb, ho.mono (fun b _ e => by rw [e]; exact ⟨by rw [h.at'.rt]; simp, by rw [h.at'.rt]; simp⟩)⟩
theorem field_d (a b c d e f g h i : Value) (w : World) : (Instr.field 44 (.agg #[a, b, c, d, e, f, g, h, i]) 1).run Try.prog w = .ok b w := by kernel_rfl
/-- A register is written. -/
theorem OpIn.regO {w : World} {p : Prg} {G : Gh} {m : Nat} {s : Mdl} {up : List Fr} {f : Fr} {g k : Nat} (h : OpIn w p G m s up f g k) {d : Int} (hd : 0 ≤ d ∧ d < f.regs.length) (x : Int) : OpIn (w.setCell ⟨k, d.toNat, none⟩ (.int .u32 x)) p G m (put s (up ++ [f.wr d x])) up (f.wr d x) g k := by
  have hc := (List.getElem?_eq_some_iff.1 h.thr).1
  obtain ⟨a, e, c, d', e', f', g', i, q⟩ := h.fr
  have hgk : g ≠ k := fun h => by rw [h] at e; rw [e] at c; cases c
  have hne : ∀ o : Nat, (⟨k, d.toNat, none⟩ : Addr) ≠ ⟨g, o, none⟩ := fun o h => hgk (congrArg Addr.block h).symm
  refine ⟨h.reg hd x, by show (s.thr.set s.cur _)[s.cur]? = _; rw [List.getElem?_set_self hc], ⟨a, e, c, (World.cell?_setCell_other _ _ _ _ (hne _)).trans d', (World.cell?_setCell_other _ _ _ _ (hne _)).trans e', (World.cell?_setCell_other _ _ _ _ (hne _)).trans f', ?_, fun i' => by simpa using i i', ?_⟩⟩
  · rw [Fr.wr_length]; exact (World.cell?_setCell_other _ _ _ _ (hne _)).trans g'
  · have := q.set (k := d.toNat) (by simp [u32s]; omega) (.int .u32 x)
    rw [show (u32s f.regs).set d.toNat (Value.int .u32 x) = u32s (f.regs.set d.toNat x) by unfold u32s; rw [List.map_set]] at this
    exact this
theorem retS_put (p : Prg) (s : Mdl) (l up : List Fr) (a : Int) : retS p (put s l) up a = retS p s up a := by
  unfold retS
  cases up.getLast? with
  | none =>
    show (if s.cur = 0 then _ else _) = _
    simp only [put_put]
  | some g => simp only [put_put]
set_option maxRecDepth 100000 in
theorem yield_any (x : Insx) (pa : Option Addr) (na ca : Nat) (w : World) (p : Prg) (G : Gh) (m : Nat) (s : Mdl) (q : Option Addr) (h : MdlAt w p G m s) (hT : s.thr.length ≤ 4) (hlive : 0 < (live s.thr).length) (hmax : ∀ (t : Nat) l, s.thr[t]? = some l → l.length < 4294967296) (hcw : Words s.ch) :
    Calls Try.prog 49 #[.pointer (some ⟨m, 0, none⟩), .pointer q, x.agg (.slice pa na ca)] w fun e w' => e = .returned (.tuple #[]) ∧ Goes w p G m (choose s) w' := by
  have HW := fhid (show Below w.heap.size w (w.alloc (.cells #[.int .u8 x.op, .int .i64 x.d, .int .i64 x.a, .int .i64 x.b, .int .u32 x.n, .int .i64 x.f, .slice pa na ca, .int .i64 x.l1, .int .i64 x.l2] 44)) from (Below.refl _ _).alloc (Nat.le_refl _) _)
  have HC := fhid (choose_any _ p G m s (h.keepb HW.out) hT hlive hmax hcw)
  clear h hmax hcw
  go_enter Try.func49, Try.ntmps49
  go_wp2_with fail
  refine HC.out.mono ?_
  rintro e w' ⟨rfl, hg⟩
  go_wp2_with fail
  go_returns
  exact ⟨rfl, hg.from HW.out⟩
set_option maxRecDepth 100000 in
set_option maxHeartbeats 4000000 in
theorem ret_main (x : Insx) (pa : Option Addr) (na ca : Nat) (w : World) (p : Prg) (G : Gh) (m : Nat) (s : Mdl) (up : List Fr) (f : Fr) (g k : Nat) (h : OpIn w p G m s up f g k) (ha : 0 ≤ x.a ∧ x.a < f.regs.length) (hup : up.length < 4294967296) (hu : up = []) (hc : s.cur = 0) :
    Calls Try.prog 52 #[.pointer (some ⟨m, 0, none⟩), .pointer (some ⟨g, up.length * 4, none⟩), x.agg (.slice pa na ca)] w fun e w' => e = .returned (.tuple #[]) ∧ Goes w p G m { put s [] with kind := 1, v := regAt f.regs x.a } w' := by
  have HB := fhid (IBox.new w x (.slice pa na ca) 44)
  have HW := fhid (show Below w.heap.size w (w.alloc (.cells #[.int .u8 x.op, .int .i64 x.d, .int .i64 x.a, .int .i64 x.b, .int .u32 x.n, .int .i64 x.f, .slice pa na ca, .int .i64 x.l1, .int .i64 x.l2] 44)) from (Below.refl _ _).alloc (Nat.le_refl _) _)
  have HN := fhid (h.keepb HW.out)
  clear h
  have HU := fhid hu
  have HC := fhid hc
  clear hu hc
  go_enter Try.func52, Try.ntmps52
  go_wp2_with fail
  generalize w.alloc (.cells #[.int .u8 x.op, .int .i64 x.d, .int .i64 x.a, .int .i64 x.b, .int .u32 x.n, .int .i64 x.f, .slice pa na ca, .int .i64 x.l1, .int .i64 x.l2] 44) = W at *
  obtain ⟨_, b0, b1, b2, b3, b4, b5, b6, b7, b8⟩ := HB.out
  obtain ⟨⟨cap, hv⟩, _, _, c0, c1, c2, c3, fz, rg⟩ := HN.out.fr
  obtain ⟨ha0, ha1⟩ := ha
  have ra : W.cell? ⟨k, x.a.toNat, none⟩ = some (.int .u32 (regAt f.regs x.a)) := rg.cell (words_at (k := x.a.toNat) (by omega))
  obtain ⟨⟨m3, m4, m5, m6, m7, m8, m9⟩, _, mz⟩ := HN.out.at'.cellsm
  have hcur := (List.getElem?_eq_some_iff.1 HN.out.thr).1
  have hcl : (s.cur : Int) < s.thr.length := by omega
  generalize hav : regAt f.regs x.a = av at ra
  have Hav := fhid hav
  have HV := fhid hv
  clear hav hv b0 b1 b3 b4 b5 b6 b7 b8 c0 c1 c2 m3 m4 m7 m8 m9 fz rg mz
  go_quiet (fail)
  have HN2 := fhid (HN.out.keepb (below_drewN (Below.refl _ _) nq))
  have HW2 := fhid (HW.out.trans (below_drewN (Below.refl _ _) nq))
  clear HN HW HB b2 c3 ra m5 m6
  generalize W.drewN nq = W2 at *
  obtain ⟨gg, capp, t0, t1, t2, t3⟩ := HN2.out.at'.slices HN2.out.thr
  rw [HV.out] at t3
  simp only [List.length_append, List.length_cons, List.length_nil, Nat.zero_add] at t0 t2 t3
  cases t3
  go_wp2_with fail
  refine (pop_some W2 G.tb s.cur g up.length cap (by omega) (by simpa using t2) (by simpa using t0) t1).mono ?_
  rintro e W3 ⟨rfl, rfl⟩
  obtain ⟨G3, hb3, r3, h3, o3⟩ := HN2.out.pop HV.out
  replace h3 := h3.keepb (show Below _ _ (W2.setCell ⟨G.tb, s.cur, none⟩ (.slice (some ⟨g, 0, none⟩) up.length cap)).drew from (Below.refl _ _).drew)
  replace o3 := o3.drew
  clear t0 t1 t2
  generalize (W2.setCell ⟨G.tb, s.cur, none⟩ (.slice (some ⟨g, 0, none⟩) up.length cap)).drew = W3 at *
  obtain ⟨g3, cap3, t0, t1, t2, t3⟩ := h3.slices (t := s.cur) (l := up) (by show (s.thr.set s.cur up)[s.cur]? = _; rw [List.getElem?_set_self hcur])
  rw [hb3] at t0 t1
  have HO := fhid (show Only G.own w W3 from (Only.of_below HW2.out).fresh o3 (fun _ _ h => h))
  have HR := fhid r3
  have HM := fhid h3
  have hcv : up.length ≤ cap3 := t2
  have HT3 := fhid t3
  clear o3 r3 hb3 t1 t2 t3 h3
  rw [HU.out] at t0
  obtain ⟨⟨m3, m4, m5, m6, m7, m8, m9⟩, _, mz⟩ := HM.out.cellsm
  have m6' : W3.cell? ⟨m, 6, none⟩ = some (.int .i64 0) := by
    rw [m6]
    have : (put s up).cur = 0 := HC.out
    rw [this]; rfl
  have f8 := mz 8
  have f9 := mz 9
  clear m3 m4 m5 m6 m7 mz
  go_wp2_with fail
  refine (top_none W3 G.tb s.cur _ cap3 t0).mono ?_
  rintro e w' ⟨rfl, rfl⟩
  go_wp2_with fail
  go_returns
  rw [Hav.out]
  have h9 := HM.out.setStop 1 av
  rw [HU.out] at h9
  have hom : G.own m := ⟨by rw [← HR.out, HM.out.rm]; simp, by rw [← HR.out, HM.out.rm]; simp⟩
  exact ⟨rfl, ⟨G3, h9, (HO.out.setCell (p := ⟨m, 8, none⟩) hom _).setCell (p := ⟨m, 9, none⟩) hom _, fun k _ => by rw [HR.out]⟩⟩
set_option maxRecDepth 100000 in
set_option maxHeartbeats 4000000 in
theorem ret_end (x : Insx) (pa : Option Addr) (na ca : Nat) (w : World) (p : Prg) (G : Gh) (m : Nat) (s : Mdl) (up : List Fr) (f : Fr) (g k : Nat) (h : OpIn w p G m s up f g k) (ha : 0 ≤ x.a ∧ x.a < f.regs.length) (hup : up.length < 4294967296) (hu : up = []) (hc : s.cur ≠ 0) (hT : s.thr.length ≤ 4) (hL : 0 < (live (put s []).thr).length ∧ (∀ (t : Nat) l, (put s []).thr[t]? = some l → l.length < 4294967296) ∧ Words s.ch) :
    Calls Try.prog 52 #[.pointer (some ⟨m, 0, none⟩), .pointer (some ⟨g, up.length * 4, none⟩), x.agg (.slice pa na ca)] w fun e w' => e = .returned (.tuple #[]) ∧ Goes w p G m (choose (put s [])) w' := by
  have HB := fhid (IBox.new w x (.slice pa na ca) 44)
  have HW := fhid (show Below w.heap.size w (w.alloc (.cells #[.int .u8 x.op, .int .i64 x.d, .int .i64 x.a, .int .i64 x.b, .int .u32 x.n, .int .i64 x.f, .slice pa na ca, .int .i64 x.l1, .int .i64 x.l2] 44)) from (Below.refl _ _).alloc (Nat.le_refl _) _)
  have HN := fhid (h.keepb HW.out)
  clear h
  have HU := fhid hu
  have HC := fhid hc
  have HL := fhid hL
  clear hu hc hL
  go_enter Try.func52, Try.ntmps52
  go_wp2_with fail
  generalize w.alloc (.cells #[.int .u8 x.op, .int .i64 x.d, .int .i64 x.a, .int .i64 x.b, .int .u32 x.n, .int .i64 x.f, .slice pa na ca, .int .i64 x.l1, .int .i64 x.l2] 44) = W at *
  obtain ⟨_, b0, b1, b2, b3, b4, b5, b6, b7, b8⟩ := HB.out
  obtain ⟨⟨cap, hv⟩, _, _, c0, c1, c2, c3, fz, rg⟩ := HN.out.fr
  obtain ⟨ha0, ha1⟩ := ha
  have ra : W.cell? ⟨k, x.a.toNat, none⟩ = some (.int .u32 (regAt f.regs x.a)) := rg.cell (words_at (k := x.a.toNat) (by omega))
  obtain ⟨⟨m3, m4, m5, m6, m7, m8, m9⟩, _, mz⟩ := HN.out.at'.cellsm
  have hcur := (List.getElem?_eq_some_iff.1 HN.out.thr).1
  have hcl : (s.cur : Int) < s.thr.length := by omega
  generalize hav : regAt f.regs x.a = av at ra
  have Hav := fhid hav
  have HV := fhid hv
  clear hav hv b0 b1 b3 b4 b5 b6 b7 b8 c0 c1 c2 m3 m4 m7 m8 m9 fz rg mz
  go_quiet (fail)
  have HN2 := fhid (HN.out.keepb (below_drewN (Below.refl _ _) nq))
  have HW2 := fhid (HW.out.trans (below_drewN (Below.refl _ _) nq))
  clear HN HW HB b2 c3 ra m5 m6
  generalize W.drewN nq = W2 at *
  obtain ⟨gg, capp, t0, t1, t2, t3⟩ := HN2.out.at'.slices HN2.out.thr
  rw [HV.out] at t3
  simp only [List.length_append, List.length_cons, List.length_nil, Nat.zero_add] at t0 t2 t3
  cases t3
  go_wp2_with fail
  refine (pop_some W2 G.tb s.cur g up.length cap (by omega) (by simpa using t2) (by simpa using t0) t1).mono ?_
  rintro e W3 ⟨rfl, rfl⟩
  obtain ⟨G3, hb3, r3, h3, o3⟩ := HN2.out.pop HV.out
  replace h3 := h3.keepb (show Below _ _ (W2.setCell ⟨G.tb, s.cur, none⟩ (.slice (some ⟨g, 0, none⟩) up.length cap)).drew from (Below.refl _ _).drew)
  replace o3 := o3.drew
  clear t0 t1 t2
  generalize (W2.setCell ⟨G.tb, s.cur, none⟩ (.slice (some ⟨g, 0, none⟩) up.length cap)).drew = W3 at *
  obtain ⟨g3, cap3, t0, t1, t2, t3⟩ := h3.slices (t := s.cur) (l := up) (by show (s.thr.set s.cur up)[s.cur]? = _; rw [List.getElem?_set_self hcur])
  rw [hb3] at t0 t1
  have HO := fhid (show Only G.own w W3 from (Only.of_below HW2.out).fresh o3 (fun _ _ h => h))
  have HR := fhid r3
  have HM := fhid h3
  have hcv : up.length ≤ cap3 := t2
  have HT3 := fhid t3
  clear o3 r3 hb3 t1 t2 t3 h3
  rw [HU.out] at t0
  obtain ⟨⟨m3, m4, m5, m6, m7, m8, m9⟩, _, mz⟩ := HM.out.cellsm
  have m6' : W3.cell? ⟨m, 6, none⟩ = some (.int .i64 s.cur) := m6
  have hne : ((s.cur : Int) == 0) = false := by rw [beq_eq_false_iff_ne]; have := HC.out; omega
  have HCH := fhid (choose_any W3 p G3 m (put s up) HM.out (by show (s.thr.set s.cur up).length ≤ 4; rw [List.length_set]; exact hT) (by rw [HU.out]; exact HL.out.1) (by rw [HU.out]; exact HL.out.2.1) HL.out.2.2)
  clear m3 m4 m5 m6 m7 m8 m9 mz
  go_wp2_with fail
  refine (top_none W3 G.tb s.cur _ cap3 t0).mono ?_
  rintro e w' ⟨rfl, rfl⟩
  go_wp2_with fail
  refine HCH.out.mono ?_
  rintro e w9 ⟨rfl, G9, h9, o9, r9⟩
  go_wp2_with fail
  go_returns
  rw [HU.out] at h9
  refine ⟨rfl, ⟨G9, h9, HO.out.fresh o9 (fun i _ hi => ?_), fun k hk => ?_⟩⟩
  · unfold Gh.own at hi ⊢
    rw [HR.out] at hi; exact hi
  · rw [r9 k (Nat.lt_of_lt_of_le hk HO.out.size), HR.out]
set_option maxRecDepth 100000 in
set_option maxHeartbeats 4000000 in
theorem ret_up (x : Insx) (pa : Option Addr) (na ca : Nat) (w : World) (p : Prg) (G : Gh) (m : Nat) (s : Mdl) (up : List Fr) (f : Fr) (g k : Nat) (h : OpIn w p G m s up f g k) (ha : 0 ≤ x.a ∧ x.a < f.regs.length) (hup : up.length < 4294967296) (us : List Fr) (gf : Fr) (hu : up = us ++ [gf]) (fn : Fnx) (bk : Blk) (y : Insx) (hy : p.funcs[gf.f]? = some fn ∧ fn.blocks[gf.b]? = some bk ∧ bk.ins[gf.i]? = some y) (hd : 0 ≤ y.d ∧ y.d < gf.regs.length) (hi63 : gf.i < 140737488355328) :
    Calls Try.prog 52 #[.pointer (some ⟨m, 0, none⟩), .pointer (some ⟨g, up.length * 4, none⟩), x.agg (.slice pa na ca)] w fun e w' => e = .returned (.tuple #[]) ∧ Goes w p G m (retS p s up (regAt f.regs x.a)) w' := by
  have HB := fhid (IBox.new w x (.slice pa na ca) 44)
  have HW := fhid (show Below w.heap.size w (w.alloc (.cells #[.int .u8 x.op, .int .i64 x.d, .int .i64 x.a, .int .i64 x.b, .int .u32 x.n, .int .i64 x.f, .slice pa na ca, .int .i64 x.l1, .int .i64 x.l2] 44)) from (Below.refl _ _).alloc (Nat.le_refl _) _)
  have HN := fhid (h.keepb HW.out)
  clear h
  have HU := fhid hu
  clear hu
  go_enter Try.func52, Try.ntmps52
  go_wp2_with fail
  generalize w.alloc (.cells #[.int .u8 x.op, .int .i64 x.d, .int .i64 x.a, .int .i64 x.b, .int .u32 x.n, .int .i64 x.f, .slice pa na ca, .int .i64 x.l1, .int .i64 x.l2] 44) = W at *
  obtain ⟨_, b0, b1, b2, b3, b4, b5, b6, b7, b8⟩ := HB.out
  obtain ⟨⟨cap, hv⟩, _, _, c0, c1, c2, c3, fz, rg⟩ := HN.out.fr
  obtain ⟨ha0, ha1⟩ := ha
  have ra : W.cell? ⟨k, x.a.toNat, none⟩ = some (.int .u32 (regAt f.regs x.a)) := rg.cell (words_at (k := x.a.toNat) (by omega))
  obtain ⟨⟨m3, m4, m5, m6, m7, m8, m9⟩, _, mz⟩ := HN.out.at'.cellsm
  have hcur := (List.getElem?_eq_some_iff.1 HN.out.thr).1
  have hcl : (s.cur : Int) < s.thr.length := by omega
  generalize hav : regAt f.regs x.a = av at ra
  have Hav := fhid hav
  have HV := fhid hv
  clear hav hv b0 b1 b3 b4 b5 b6 b7 b8 c0 c1 c2 m3 m4 m7 m8 m9 fz rg mz
  go_quiet (fail)
  have HN2 := fhid (HN.out.keepb (below_drewN (Below.refl _ _) nq))
  have HW2 := fhid (HW.out.trans (below_drewN (Below.refl _ _) nq))
  clear HN HW HB b2 c3 ra m5 m6
  generalize W.drewN nq = W2 at *
  obtain ⟨gg, capp, t0, t1, t2, t3⟩ := HN2.out.at'.slices HN2.out.thr
  rw [HV.out] at t3
  simp only [List.length_append, List.length_cons, List.length_nil, Nat.zero_add] at t0 t2 t3
  cases t3
  go_wp2_with fail
  refine (pop_some W2 G.tb s.cur g up.length cap (by omega) (by simpa using t2) (by simpa using t0) t1).mono ?_
  rintro e W3 ⟨rfl, rfl⟩
  obtain ⟨G3, hb3, r3, h3, o3⟩ := HN2.out.pop HV.out
  replace h3 := h3.keepb (show Below _ _ (W2.setCell ⟨G.tb, s.cur, none⟩ (.slice (some ⟨g, 0, none⟩) up.length cap)).drew from (Below.refl _ _).drew)
  replace o3 := o3.drew
  clear t0 t1 t2
  generalize (W2.setCell ⟨G.tb, s.cur, none⟩ (.slice (some ⟨g, 0, none⟩) up.length cap)).drew = W3 at *
  obtain ⟨g3, cap3, t0, t1, t2, t3⟩ := h3.slices (t := s.cur) (l := up) (by show (s.thr.set s.cur up)[s.cur]? = _; rw [List.getElem?_set_self hcur])
  rw [hb3] at t0 t1
  have HO := fhid (show Only G.own w W3 from (Only.of_below HW2.out).fresh o3 (fun _ _ h => h))
  have HR := fhid r3
  have HM := fhid h3
  have hcv : up.length ≤ cap3 := t2
  have HT3 := fhid t3
  clear o3 r3 hb3 t1 t2 t3 h3
  obtain ⟨g4, k4, hop⟩ := OpIn.get (up := us) (f := gf) HM.out (by show (s.thr.set s.cur up)[s.cur]? = _; rw [List.getElem?_set_self hcur, HU.out])
  have hul : up.length = us.length + 1 := by rw [HU.out]; simp
  rw [hul] at t0
  have hg4 : g4 = g3 := by
    obtain ⟨cap4, hv4⟩ := hop.fr.v
    have : (put s up).cur = s.cur := rfl
    rw [this] at hv4
    have ht3 := HT3.out
    rw [hul, hv4] at ht3
    cases ht3; rfl
  subst hg4
  have hulb : us.length < 9223372036854775807 := by omega
  have HUL := fhid hul
  clear hul
  have HOP := fhid hop
  clear hop
  go_wp2_with fail
  refine (top_some W3 G.tb s.cur g4 us.length cap3 hulb t0).mono ?_
  rintro e w' ⟨rfl, q, rfl⟩
  replace HOP := fhid (HOP.out.keepb (below_drewN (Below.refl _ _) q))
  replace HO := fhid (HO.out.drewN q)
  clear t0
  generalize W3.drewN q = W4 at *
  obtain ⟨_, _, _, c0, c1, c2, c3, fz, rg⟩ := HOP.out.fr
  obtain ⟨_, ⟨m0, m1, m2⟩, _⟩ := HOP.out.at'.cellsm
  obtain ⟨pr1, pr2, _⟩ := HOP.out.at'.prog
  have hle : W4.heap.size ≤ W4.heap.size := Nat.le_refl _
  have HI := fhid (show Calls Try.prog 53 #[.pointer (some ⟨m, 0, none⟩), .pointer (some ⟨g4, us.length * 4, none⟩)] W4.drew fun e w' => ∃ pa ca, e = .returned (.agg #[.int .u8 y.op, .int .i64 y.d, .int .i64 y.a, .int .i64 y.b, .int .u32 y.n, .int .i64 y.f, .slice pa y.args.length ca, .int .i64 y.l1, .int .i64 y.l2]) ∧ IntsIn W4.drew (.slice pa y.args.length ca) y.args ∧ Below W4.drew.heap.size W4.drew w' from fins_any W4.drew W4.drew (fun _ _ h => h) m G3.fv p.funcs m2 (FnsIn.keep pr2 (show Below W4.heap.size W4 W4.drew from (Below.refl _ _).drew)) g4 (us.length * 4) gf.f gf.b gf.i c0 c1 c2 fn bk y hy.1 hy.2.1 hy.2.2)
  have HKS := fhid (show ∀ w', Below W4.heap.size W4 w' → w'.cell? ⟨g4, us.length * 4 + 3, none⟩ = some (.slice (some ⟨k4, 0, none⟩) gf.regs.length gf.regs.length) from fun w' hb => (hb.cell (p := ⟨g4, us.length * 4 + 3, none⟩) (World.block_lt_of_cell? _ _ c3)).trans c3)
  have hkne : (⟨k4, y.d.toNat, none⟩ : Addr) ≠ ⟨g4, us.length * 4 + 3, none⟩ := fun e => by
    have e2 : k4 = g4 := congrArg Addr.block e
    have h1 := HOP.out.fr.rg
    have h2 := HOP.out.fr.rk
    rw [e2, h1] at h2; cases h2
  have hfd := fun (W : World) (q : Value) => field_d (.int .u8 y.op) (.int .i64 y.d) (.int .i64 y.a) (.int .i64 y.b) (.int .u32 y.n) (.int .i64 y.f) q (.int .i64 y.l1) (.int .i64 y.l2) W
  have hd0 := hd.1
  have hd1 := hd.2
  have HR1 := fhid (show ∀ w', Below W4.heap.size W4 w' → (w'.cell? ⟨k4, y.d.toNat, none⟩ = some (.int .u32 (gf.regs.getD y.d.toNat 0)) ∧ w'.frozen? ⟨k4, y.d.toNat, none⟩ = false) from fun w' hb => by
    have := (HOP.out.keepb hb).fr.regs
    exact ⟨this.cell (words_at (by omega)), this.frozen _⟩)
  clear m0 m1 m2 c0 c1 c2 fz rg pr1 pr2
  go_wp2_with fail
  go_region_held3 (fun w' => w'.cell? ⟨g4, us.length * 4 + 3, none⟩ = some (.slice (some ⟨k4, 0, none⟩) gf.regs.length gf.regs.length)) (first | (refine HKS.out _ ?_; go_grown; done) | (rw [World.cell?_setCell_other _ _ _ _ hkne]; refine HKS.out _ ?_; go_grown; done))
    (first | (go_at_call 53; (with_reducible refine HI.out.mono ?_); rintro e W5 ⟨pa5, ca5, rfl, hi5, hb50⟩; have hb5 : Below W4.heap.size W4 W5 := ((Below.refl W4.heap.size W4).drew).trans hb50; have hle5 : W4.heap.size ≤ W5.heap.size := hb5.size; obtain ⟨r1, rf⟩ := HR1.out W5 hb5))
  have HOP5 := fhid ((HOP.out.keepb hb5).regO hd av)
  have HO5 := fhid ((HO.out.fresh (Only.of_below (S := fun _ => False) hb5) (fun _ _ h => h.elim)).setCell (p := ⟨k4, y.d.toNat, none⟩) (show G.own k4 from by have := HOP.out.own.2.1; unfold Gh.own at this ⊢; rw [HR.out] at this; exact this) (.int .u32 av))
  clear hb5 hb50 hle5 r1 rf HKS HI HR1 hi5 c3
  generalize W5.setCell ⟨k4, y.d.toNat, none⟩ (.int .u32 av) = W6 at *
  obtain ⟨_, _, _, c0, c1, c2, c3, fz, rg⟩ := HOP5.out.fr
  have f2 := fz (us.length * 4 + 2)
  have e1 : IntKind.i64.wrap ((gf.i : Int) + 1) = ((gf.i + 1 : Nat) : Int) := by rw [IntWalk.i64_in _ (by have := hi63; omega)]; omega
  have c2' : W6.cell? ⟨g4, us.length * 4 + 2, none⟩ = some (.int .i64 gf.i) := c2
  clear c0 c1 c2 c3 fz rg
  go_wp2_with fail
  go_returns
  have h9 := (HOP5.out.setI (gf.i + 1)).at'
  rw [put_put, put_put] at h9
  have he : retS p s up (regAt f.regs x.a) = put s (us ++ [{ gf.wr y.d av with i := gf.i + 1 }]) := by
    unfold retS
    rw [HU.out, Hav.out]
    simp only [List.getLast?_append, List.getLast?_singleton, Option.some_or, List.dropLast_concat]
    rw [insOf_at hy.1 hy.2.1 hy.2.2]
    rfl
  rw [he]
  exact ⟨rfl, ⟨G3, h9, HO5.out.setCell (p := ⟨g4, us.length * 4 + 2, none⟩) (show G.own g4 from by have := HOP.out.own.1; unfold Gh.own at this ⊢; rw [HR.out] at this; exact this) _, fun k _ => by rw [HR.out]⟩⟩
end Go.Proofs.Ytdefooailcbnlaa
