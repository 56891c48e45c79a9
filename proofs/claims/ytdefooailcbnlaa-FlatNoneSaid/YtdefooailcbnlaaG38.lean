/- The walk of flat.choose. -/
import Derived.Test.YtdefooailcbnlaaG27
import Derived.Test.YtdefooailcbnlaaG33
import Derived.Test.YtdefooailcbnlaaG03
namespace Go.Proofs.Ytdefooailcbnlaa
open Go.RowKit
set_option linter.unusedVariables false
set_option linter.unusedSimpArgs false
/-- The first threads that have frames. -/
def liveN (t : List (List Fr)) (k : Nat) : List Nat := (List.range k).filter fun i => !((t[i]?).getD []).isEmpty
def liveI (t : List (List Fr)) (k : Nat) : List Int := (liveN t k).map fun (n : Nat) => (n : Int)
theorem live_all (t : List (List Fr)) : liveN t t.length = live t := rfl
theorem liveI_no {t : List (List Fr)} {k : Nat} (h : t[k]? = some []) : liveI t (k + 1) = liveI t k := by
  unfold liveI liveN
  rw [List.range_succ, List.filter_append]
  simp [h]
theorem liveI_yes {t : List (List Fr)} {k : Nat} {l : List Fr} (h : t[k]? = some l) (hl : l ≠ []) : liveI t (k + 1) = liveI t k ++ [(k : Int)] := by
  unfold liveI liveN
  rw [List.range_succ, List.filter_append]
  simp [h, hl]
theorem liveI_len (t : List (List Fr)) (k : Nat) : (liveI t k).length ≤ k := by
  unfold liveI liveN
  rw [List.length_map]
  exact Nat.le_trans (List.length_filter_le _ _) (by simp)
theorem MdlAt.slices {w : World} {p : Prg} {G : Gh} {m : Nat} {s : Mdl} (h : MdlAt w p G m s) {t : Nat} {l : List Fr} (hl : s.thr[t]? = some l) : ∃ g cap, w.cell? ⟨G.tb, t, none⟩ = some (.slice (some ⟨g, 0, none⟩) l.length cap) ∧ w.frozen? ⟨G.tb, t, none⟩ = false ∧ l.length ≤ cap ∧ G.vs[t]? = some (.slice (some ⟨g, 0, none⟩) l.length cap) := by
  have ht : t < G.vs.length := by rw [h.vl]; exact (List.getElem?_eq_some_iff.1 hl).1
  have hv := List.getElem?_eq_getElem ht
  obtain ⟨g, cap, c, he, h1, h2, h3, h4⟩ := (h.frs t _ l hv hl).ex
  have hcap : l.length ≤ cap := by
    rw [he] at h3
    rcases h3.2 with ⟨h5, _⟩ | ⟨g', cap', cur, h5, _, _, h6, _⟩
    · cases h5
    · cases h5; exact h6
  rw [he] at hv
  exact ⟨g, cap, h.thr.cell hv, h.thr.frozen t, hcap, hv⟩
theorem MdlAt.setCur {w : World} {p : Prg} {G : Gh} {m : Nat} {s : Mdl} (h : MdlAt w p G m s) (n : Nat) : MdlAt (w.setCell ⟨m, 6, none⟩ (.int .i64 n)) p G m { s with cur := n } := by
  have hp := obj_setCell h.ptr (i := 6) (.int .i64 (n : Int))
  exact h.cells ((Only.refl (fun k => k = m) w).setCell (p := ⟨m, 6, none⟩) rfl _) n G.chv s.ch s.kind s.v (by rw [hp]; simp) (fun _ h => h)
theorem MdlAt.setCh {w : World} {p : Prg} {G : Gh} {m : Nat} {s : Mdl} (h : MdlAt w p G m s) (v : Value) (l : List Int) (hl : ∀ W : World, ChAt W G.chv s.ch → ChAt W v l) : MdlAt (w.setCell ⟨m, 7, none⟩ v) p { G with chv := v } m { s with ch := l } := by
  have hp := obj_setCell h.ptr (i := 7) v
  exact h.cells ((Only.refl (fun k => k = m) w).setCell (p := ⟨m, 7, none⟩) rfl _) s.cur v l s.kind s.v (by rw [hp]; simp) hl
set_option maxRecDepth 100000 in
set_option maxHeartbeats 4000000 in
theorem choose_none (w : World) (p : Prg) (G : Gh) (m : Nat) (s : Mdl) (h : MdlAt w p G m s) (hT : s.thr.length ≤ 4) (hlive : 0 < (live s.thr).length) (hmax : ∀ (t : Nat) l, s.thr[t]? = some l → l.length < 4294967296) (hc : s.ch = []) :
    Calls Try.prog 71 #[.pointer (some ⟨m, 0, none⟩)] w fun e w' => e = .returned (.tuple #[]) ∧ Goes w p G m (choose s) w' := by
  obtain ⟨⟨c3, c4, c5, c6, c7, c8, c9⟩, _, fz⟩ := h.cellsm
  obtain ⟨_, _, hch⟩ := h.prog
  rw [hc] at hch
  obtain ⟨cb, co, cp, cc, hcv, _, _, _⟩ := hch.1.shape
  rw [hcv] at c7
  have H1 := fhid h
  clear h hch fz
  go_enter Try.func71, Try.ntmps71
  go_wp2_with fail
  go_loopw [3, 30] (fun lv i wr => ∃ k : Nat, k ≤ s.thr.length ∧ i = .int .i64 k ∧ wr.ownsRow w.heap.size 3 1 lv (liveI s.thr k).length (ints (liveI s.thr k)) ∧ Below w.heap.size w wr) (fun _ i _ => s.thr.length - (intOf i).toNat)
  case atStart => exact ⟨0, Nat.zero_le _, rfl, World.ownsRow_nil _ _ _ _, Below.refl _ _⟩
  case round =>
    obtain ⟨k, hk, rfl, hown, hb⟩ := hrel
    obtain ⟨plv, clv, rfl, hbk⟩ := own_shape hown
    have HOWN := fhid hown
    have HB := fhid hb
    clear hown hb hbk
    have hmr := H1.out.keepb HB.out
    obtain ⟨⟨m3, m4, m5, m6, m7, m8, m9⟩, _, mz⟩ := hmr.cellsm
    have HM := fhid hmr
    by_cases hlt : k < s.thr.length
    · have hth := List.getElem?_eq_getElem hlt
      obtain ⟨g, cap, t0, t1, t2, _⟩ := hmr.slices hth
      have hkl : (k : Int) < s.thr.length := by omega
      have e1 : IntKind.i64.wrap ((k : Int) + 1) = ((k + 1 : Nat) : Int) := by rw [IntWalk.i64_in _ (by omega)]; omega
      clear hmr mz
      rcases Nat.eq_zero_or_pos (s.thr[k]).length with h0 | h0
      · have hnil : s.thr[k] = [] := List.eq_nil_of_length_eq_zero h0
        rw [hnil] at hth
        have hli := liveI_no hth
        have HL := fhid hli
        rw [h0] at t0
        clear hli hth hnil h0
        go_wp2_with fail
        refine (top_none wr G.tb k _ cap t0).mono ?_
        rintro e w' ⟨rfl, rfl⟩
        go_wp2_with fail
        exact ⟨⟨k + 1, by omega, by go_num, by rw [HL.out]; exact HOWN.out, HB.out⟩, by simp [intOf]; omega⟩
      · have hne : s.thr[k] ≠ [] := by intro e; rw [e] at h0; simp at h0
        have hli := liveI_yes hth hne
        have HL := fhid hli
        obtain ⟨n, hn⟩ : ∃ n, (s.thr[k]).length = n + 1 := ⟨(s.thr[k]).length - 1, by omega⟩
        rw [hn] at t0
        have hnb : n < 9223372036854775807 := by have := hmax k _ hth; omega
        have hll := liveI_len s.thr k
        clear hli hth hne h0
        go_wp2_with fail
        refine (top_some wr G.tb k g n cap hnb t0).mono ?_
        rintro e w' ⟨rfl, q, rfl⟩
        have HOWN2 := fhid (show ((wr.drewN q).alloc (.cells #[.int .i64 k] 3)).ownsRow w.heap.size 3 1 (.slice plv (liveI s.thr k).length clv) (liveI s.thr k).length (ints (liveI s.thr k)) from (show (wr.drewN q).ownsRow w.heap.size 3 1 (.slice plv (liveI s.thr k).length clv) (liveI s.thr k).length (ints (liveI s.thr k)) from HOWN.out).alloc _)
        have HI1 := fhid (IntsIn.one ((wr.drewN q).alloc (.cells #[.int .i64 k] 3)) wr.heap.size 3 k (by unfold I64; omega) (by have := cell_of_obj (i := 0) (heap_alloc_new (wr.drewN q) (.cells #[.int .i64 k] 3)); exact this))
        have hbs := HB.out.size
        go_wp2_with (at_builtin; refine wpList_append_ints rfl _ _ rfl w.heap.size (.slice plv (liveI s.thr k).length clv) (liveI s.thr k) rfl HOWN2.out (.slice (some ⟨wr.heap.size, 0, none⟩) 1 1) [(k : Int)] rfl HI1.out (by show w.heap.size ≤ ((wr.drewN q).alloc _).heap.size; simp [World.size_alloc]; show w.heap.size ≤ wr.heap.size + 1; omega) (by simp; omega) ?_; intro v' w1 hown1 hgrow1)
        have hb9 : Below w.heap.size w w1 := by
          refine ((HB.out.trans (below_drewN (Below.refl _ _) q)).alloc (show w.heap.size ≤ (wr.drewN q).heap.size from hbs) _).grown hgrow1 (by show w.heap.size ≤ ((wr.drewN q).alloc _).heap.size; simp [World.size_alloc]; show w.heap.size ≤ wr.heap.size + 1; omega) (fun k hk => (HOWN.out.lt k hk).1)
        rw [← HL.out] at hown1
        have HF := fhid (And.intro hown1 hb9)
        clear hown1 hgrow1 hb9 HOWN2 HI1
        go_wp2_with fail
        exact ⟨⟨k + 1, by omega, by go_num, HF.out.1, HF.out.2⟩, by simp [intOf]; omega⟩
    · obtain rfl : k = s.thr.length := by omega
      clear hmr
      have hlenI : (liveI s.thr s.thr.length).length = (live s.thr).length := by unfold liveI; rw [List.length_map, live_all]
      rw [hlenI] at HOWN ⊢
      have hpos : 0 < (live s.thr).length := hlive
      have hlim : (live s.thr).length ≤ s.thr.length := by have := liveI_len s.thr s.thr.length; omega
      have e2 : IntKind.u32.wrap ((live s.thr).length : Int) = ((live s.thr).length : Int) := IntWalk.u32_in _ (by omega)
      have e3 : (((live s.thr).length : Int) == 0) = false := by rw [beq_eq_false_iff_ne]; omega
      have e6 : (0 : Int) < ((live s.thr).length : Int) := by omega
      have hget := List.getElem?_eq_getElem hpos
      have hgetI : (ints (liveI s.thr s.thr.length))[0]? = some (.int .i64 (((live s.thr)[0] : Nat) : Int)) := by
        unfold ints liveI
        rw [live_all, List.getElem?_map, List.getElem?_map, hget]; rfl
      have hgd : choose s = { s with cur := (live s.thr)[0], ch := s.ch.tail } := by
        unfold choose
        rw [hc]
        simp [List.getD_eq_getElem?_getD, hget]
      have HGD := fhid hgd
      obtain ⟨gl, capl, hpl⟩ : ∃ gl capl, plv = some ⟨gl, 0, none⟩ ∧ clv = capl := by
        rcases HOWN.out.2 with ⟨h1, h2⟩ | ⟨g, cap, cur, h1, _⟩
        · omega
        · cases h1; exact ⟨_, _, rfl, rfl⟩
      obtain ⟨rfl, rfl⟩ := hpl
      have cl := ownsRow_cell HOWN.out hgetI
      have mf6 := mz 6
      generalize (live s.thr)[0] = nx at *
      clear hget hgetI mz hgd
      go_wp2_with fail
      go_returns
      rw [HGD.out]
      have h9 := HM.out.setCur nx
      exact ⟨rfl, Goes.same (by rw [show ({ s with cur := nx, ch := s.ch.tail } : Mdl) = { s with cur := nx } by rw [hc]; cases s; simp_all]; exact h9) ((Only.of_below HB.out).setCell (p := ⟨m, 6, none⟩) ⟨by rw [HM.out.rm]; simp, by rw [HM.out.rm]; simp⟩ _)⟩
set_option maxRecDepth 100000 in
set_option maxHeartbeats 4000000 in
theorem choose_some (w : World) (p : Prg) (G : Gh) (m : Nat) (s : Mdl) (h : MdlAt w p G m s) (hT : s.thr.length ≤ 4) (hlive : 0 < (live s.thr).length) (hmax : ∀ (t : Nat) l, s.thr[t]? = some l → l.length < 4294967296) (c : Int) (r : List Int) (hc : s.ch = c :: r) (hcw : 0 ≤ c ∧ c < 4294967296) :
    Calls Try.prog 71 #[.pointer (some ⟨m, 0, none⟩)] w fun e w' => e = .returned (.tuple #[]) ∧ Goes w p G m (choose s) w' := by
  obtain ⟨⟨c3, c4, c5, c6, c7, c8, c9⟩, _, fz⟩ := h.cellsm
  obtain ⟨_, _, hch⟩ := h.prog
  rw [hc] at hch
  obtain ⟨cb, co, cp, cc, hcv, hclm, hcp, hcc⟩ := hch.1.shape
  have hcap := hch.2 _ _ _ hcv
  rw [hcv] at c7
  obtain rfl := hcp (by simp)
  have q0 := hcc 0 (by simp)
  simp only [List.length_cons, Nat.add_zero, List.getD_cons_zero] at c7 q0 hclm hcap
  have f7 := fz 7
  have hl0 : (0 : Int) < ((r.length + 1 : Nat) : Int) := by omega
  have hl1 : (1 : Int) ≤ ((r.length + 1 : Nat) : Int) := by omega
  have H1 := fhid h
  clear h hch fz hcc hcp
  go_enter Try.func71, Try.ntmps71
  go_wp2_with fail
  go_region
  have h1 := H1.out.setCh (.slice (if cc = 1 then some ⟨cb, co, none⟩ else some ⟨cb, co + 1, none⟩) r.length (cc - 1)) r (fun W hW => by
    rw [hcv, hc] at hW
    refine ⟨⟨by have := hW.1.1; simp at this; omega, _, _, rfl, fun h0 => ?_⟩, fun p n q he => by cases he; omega⟩
    obtain ⟨_, p', c', he, hr⟩ := hW.1
    obtain ⟨b, o, e1, e2⟩ := hr (by simp)
    cases he
    cases e1
    rw [if_neg (by omega)]
    refine ⟨cb, co + 1, rfl, fun k hk => ?_⟩
    have := e2 (k + 1) (by simp; omega)
    rw [show co + 1 + k = co + (k + 1) by omega, this]
    simp)
  have ho1 : Only (fun k => k = m) w (w.setCell ⟨m, 7, none⟩ (.slice (if cc = 1 then some ⟨cb, co, none⟩ else some ⟨cb, co + 1, none⟩) r.length (cc - 1))).drew := ((Only.refl (fun k => k = m) w).setCell (p := ⟨m, 7, none⟩) rfl _).drew
  replace h1 := h1.keepb ((Below.refl _ _).drew)
  generalize (w.setCell ⟨m, 7, none⟩ (.slice (if cc = 1 then some ⟨cb, co, none⟩ else some ⟨cb, co + 1, none⟩) r.length (cc - 1))).drew = W at h1 ho1 ⊢
  have hGR : ({ G with chv := .slice (if cc = 1 then some ⟨cb, co, none⟩ else some ⟨cb, co + 1, none⟩) r.length (cc - 1) } : Gh).R = G.R := rfl
  generalize ({ G with chv := .slice (if cc = 1 then some ⟨cb, co, none⟩ else some ⟨cb, co + 1, none⟩) r.length (cc - 1) } : Gh) = G1 at h1 hGR ⊢
  generalize (Value.slice (if cc = 1 then some ⟨cb, co, none⟩ else some ⟨cb, co + 1, none⟩) r.length (cc - 1)) = sv at *
  replace H1 := fhid h1
  have HO1 := fhid ho1
  obtain ⟨⟨c3', c4', c5', c6', c7', c8', c9'⟩, _, _⟩ := h1.cellsm
  dsimp only at c5'
  have HGR := fhid hGR
  obtain ⟨cn, rfl⟩ := Int.eq_ofNat_of_zero_le hcw.1
  clear hGR h1 ho1 c3 c4 c5 c6 c7 c8 c9 c3' c4' c6' c7' c8' c9' q0 f7
  go_wp2_with fail
  go_loopw [3, 30] (fun lv i wr => ∃ k : Nat, k ≤ s.thr.length ∧ i = .int .i64 k ∧ wr.ownsRow W.heap.size 3 1 lv (liveI s.thr k).length (ints (liveI s.thr k)) ∧ Below W.heap.size W wr) (fun _ i _ => s.thr.length - (intOf i).toNat)
  case atStart => exact ⟨0, Nat.zero_le _, rfl, World.ownsRow_nil _ _ _ _, Below.refl _ _⟩
  case round =>
    obtain ⟨k, hk, rfl, hown, hb⟩ := hrel
    obtain ⟨plv, clv, rfl, hbk⟩ := own_shape hown
    have HOWN := fhid hown
    have HB := fhid hb
    clear hown hb hbk
    have hmr := H1.out.keepb HB.out
    obtain ⟨⟨m3, m4, m5, m6, m7, m8, m9⟩, _, mz⟩ := hmr.cellsm
    have HM := fhid hmr
    by_cases hlt : k < s.thr.length
    · have hth := List.getElem?_eq_getElem hlt
      obtain ⟨g, cap, t0, t1, t2, _⟩ := hmr.slices hth
      have hkl : (k : Int) < s.thr.length := by omega
      have e1 : IntKind.i64.wrap ((k : Int) + 1) = ((k + 1 : Nat) : Int) := by rw [IntWalk.i64_in _ (by omega)]; omega
      clear hmr mz
      rcases Nat.eq_zero_or_pos (s.thr[k]).length with h0 | h0
      · have hnil : s.thr[k] = [] := List.eq_nil_of_length_eq_zero h0
        rw [hnil] at hth
        have hli := liveI_no hth
        have HL := fhid hli
        rw [h0] at t0
        clear hli hth hnil h0
        go_wp2_with fail
        refine (top_none wr G1.tb k _ cap t0).mono ?_
        rintro e w' ⟨rfl, rfl⟩
        go_wp2_with fail
        exact ⟨⟨k + 1, by omega, by go_num, by rw [HL.out]; exact HOWN.out, HB.out⟩, by simp [intOf]; omega⟩
      · have hne : s.thr[k] ≠ [] := by intro e; rw [e] at h0; simp at h0
        have hli := liveI_yes hth hne
        have HL := fhid hli
        obtain ⟨n, hn⟩ : ∃ n, (s.thr[k]).length = n + 1 := ⟨(s.thr[k]).length - 1, by omega⟩
        rw [hn] at t0
        have hnb : n < 9223372036854775807 := by have := hmax k _ hth; omega
        have hll := liveI_len s.thr k
        clear hli hth hne h0
        go_wp2_with fail
        refine (top_some wr G1.tb k g n cap hnb t0).mono ?_
        rintro e w' ⟨rfl, q, rfl⟩
        have HOWN2 := fhid (show ((wr.drewN q).alloc (.cells #[.int .i64 k] 3)).ownsRow W.heap.size 3 1 (.slice plv (liveI s.thr k).length clv) (liveI s.thr k).length (ints (liveI s.thr k)) from (show (wr.drewN q).ownsRow W.heap.size 3 1 (.slice plv (liveI s.thr k).length clv) (liveI s.thr k).length (ints (liveI s.thr k)) from HOWN.out).alloc _)
        have HI1 := fhid (IntsIn.one ((wr.drewN q).alloc (.cells #[.int .i64 k] 3)) wr.heap.size 3 k (by unfold I64; omega) (by have := cell_of_obj (i := 0) (heap_alloc_new (wr.drewN q) (.cells #[.int .i64 k] 3)); exact this))
        have hbs := HB.out.size
        go_wp2_with (at_builtin; refine wpList_append_ints rfl _ _ rfl W.heap.size (.slice plv (liveI s.thr k).length clv) (liveI s.thr k) rfl HOWN2.out (.slice (some ⟨wr.heap.size, 0, none⟩) 1 1) [(k : Int)] rfl HI1.out (by show W.heap.size ≤ ((wr.drewN q).alloc _).heap.size; simp [World.size_alloc]; show W.heap.size ≤ wr.heap.size + 1; omega) (by simp; omega) ?_; intro v' w1 hown1 hgrow1)
        have hb9 : Below W.heap.size W w1 := by
          refine ((HB.out.trans (below_drewN (Below.refl _ _) q)).alloc (show W.heap.size ≤ (wr.drewN q).heap.size from hbs) _).grown hgrow1 (by show W.heap.size ≤ ((wr.drewN q).alloc _).heap.size; simp [World.size_alloc]; show W.heap.size ≤ wr.heap.size + 1; omega) (fun k hk => (HOWN.out.lt k hk).1)
        rw [← HL.out] at hown1
        have HF := fhid (And.intro hown1 hb9)
        clear hown1 hgrow1 hb9 HOWN2 HI1
        go_wp2_with fail
        exact ⟨⟨k + 1, by omega, by go_num, HF.out.1, HF.out.2⟩, by simp [intOf]; omega⟩
    · obtain rfl : k = s.thr.length := by omega
      clear hmr
      have hlenI : (liveI s.thr s.thr.length).length = (live s.thr).length := by unfold liveI; rw [List.length_map, live_all]
      rw [hlenI] at HOWN ⊢
      have hpos : 0 < (live s.thr).length := hlive
      have hlim : (live s.thr).length ≤ s.thr.length := by have := liveI_len s.thr s.thr.length; omega
      have hmod : cn % (live s.thr).length < (live s.thr).length := Nat.mod_lt _ hpos
      have e2 : IntKind.u32.wrap ((live s.thr).length : Int) = ((live s.thr).length : Int) := IntWalk.u32_in _ (by omega)
      have e3 : (((live s.thr).length : Int) == 0) = false := by rw [beq_eq_false_iff_ne]; omega
      have e4 : (cn : Int).tmod ((live s.thr).length : Int) = ((cn % (live s.thr).length : Nat) : Int) := by rw [IntWalk.rem_in _ _ (by omega)]; omega
      have e4' : (cn : Int) % ((live s.thr).length : Int) = ((cn % (live s.thr).length : Nat) : Int) := by omega
      have e5 : IntKind.u32.wrap ((cn % (live s.thr).length : Nat) : Int) = ((cn % (live s.thr).length : Nat) : Int) := IntWalk.u32_in _ (by omega)
      have e6 : ((cn % (live s.thr).length : Nat) : Int) < ((live s.thr).length : Int) := by omega
      have hget := List.getElem?_eq_getElem hmod
      have hgetI : (ints (liveI s.thr s.thr.length))[cn % (live s.thr).length]? = some (.int .i64 (((live s.thr)[cn % (live s.thr).length] : Nat) : Int)) := by
        unfold ints liveI
        rw [live_all, List.getElem?_map, List.getElem?_map, hget]; rfl
      have hgd : choose s = { s with cur := (live s.thr)[cn % (live s.thr).length], ch := r } := by
        unfold choose
        rw [hc]
        simp [List.getD_eq_getElem?_getD, hget]
      have HGD := fhid hgd
      obtain ⟨gl, capl, hpl⟩ : ∃ gl capl, plv = some ⟨gl, 0, none⟩ ∧ clv = capl := by
        rcases HOWN.out.2 with ⟨h1, h2⟩ | ⟨g, cap, cur, h1, _⟩
        · omega
        · cases h1; exact ⟨_, _, rfl, rfl⟩
      obtain ⟨rfl, rfl⟩ := hpl
      have cl := ownsRow_cell HOWN.out hgetI
      have mf6 := mz 6
      generalize (live s.thr)[cn % (live s.thr).length] = nx at *
      generalize cn % (live s.thr).length = ix at *
      clear hget hgetI mz hgd
      go_wp2_with fail
      go_returns
      rw [HGD.out]
      have h9 := HM.out.setCur nx
      have hrm : G.R m = .model := by rw [← HGR.out]; exact H1.out.rm
      have hom : G.own m := ⟨by rw [hrm]; simp, by rw [hrm]; simp⟩
      exact ⟨rfl, ⟨G1, h9, ((HO1.out.mono (S' := G.own) (fun k _ hk => by rw [hk]; exact hom)).fresh (Only.of_below (S := fun _ => False) HB.out) (fun _ _ h => h.elim)).setCell (p := ⟨m, 6, none⟩) hom _, fun k hk => by rw [HGR.out]⟩⟩
end Go.Proofs.Ytdefooailcbnlaa
