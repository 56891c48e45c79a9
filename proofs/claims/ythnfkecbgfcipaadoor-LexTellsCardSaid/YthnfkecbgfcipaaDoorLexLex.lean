/- lex.Lex. -/
import Derived.Test.YthnfkecbgfcipaaDoorLexInv
import Derived.Test.YthnfkecbgfcipaaDoorLexRange
import Derived.Test.YthnfkecbgfcipaaDoorLexFacts
namespace Go.Proofs.YthnfkecbgfcipaaDoor
open Go.RowKit Go.Shelf
set_option linter.unusedVariables false
set_option linter.unusedSimpArgs false
attribute [local go_sem] Oper.semAt_some
def LexEnd (s : List UInt8) (w : World) (e : Ending) (w' : World) : Prop :=
  (match lexS s with
    | .ok ts => ∃ v, e = .returned (.tuple #[v, .agg #[.int .i64 0, .int .i64 0], .int .i64 0]) ∧ w'.ownsRow w.heap.size 41 5 v ts.length (toksC ts)
    | .error p => e = .returned (.tuple #[.slice none 0 0, .agg #[.int .i64 p.1, .int .i64 p.2], .int .i64 120])) ∧ Below w.heap.size w w'
/-- What the four boxes are at the beginning. -/
theorem linv_start (w : World) : let W := (((w.alloc (.cells #[.slice none 0 0] 23)).alloc (.cells #[.int .i64 0, .int .i64 0] 25)).alloc (.cells #[.int .i64 0] 26)).alloc (.cells #[.slice none 0 0] 23)
    Below w.heap.size w W ∧ W.heap.size = w.heap.size + 4 ∧ Boxed W w.heap.size 23 (.slice none 0 0) ∧ W.heap[w.heap.size + 1]? = some (.cells #[.int .i64 0, .int .i64 0] 25 (0, 0)) ∧ Boxed W (w.heap.size + 2) 26 (.int .i64 0) ∧ Boxed W (w.heap.size + 3) 23 (.slice none 0 0) := by
  intro W
  have s1 : (w.alloc (.cells #[.slice none 0 0] 23)).heap.size = w.heap.size + 1 := by simp
  have s2 : ((w.alloc (.cells #[.slice none 0 0] 23)).alloc (.cells #[.int .i64 0, .int .i64 0] 25)).heap.size = w.heap.size + 2 := by simp
  have s3 : (((w.alloc (.cells #[.slice none 0 0] 23)).alloc (.cells #[.int .i64 0, .int .i64 0] 25)).alloc (.cells #[.int .i64 0] 26)).heap.size = w.heap.size + 3 := by simp
  refine ⟨((((Below.refl _ w).alloc (Nat.le_refl _) _).alloc (by omega) _).alloc (by omega) _).alloc (by omega) _, by simp [W], blk_alloc (blk_alloc (blk_alloc (Boxed.new w _ _) _) _) _, ?_, ?_, ?_⟩
  · have h := World.alloc_heap_new (w.alloc (.cells #[.slice none 0 0] 23)) (.cells #[.int .i64 0, .int .i64 0] 25)
    rw [s1] at h
    exact blk_alloc (blk_alloc h _) _
  · have h := Boxed.new ((w.alloc (.cells #[.slice none 0 0] 23)).alloc (.cells #[.int .i64 0, .int .i64 0] 25)) 26 (.int .i64 0)
    rw [s2] at h
    exact blk_alloc h _
  · have h := Boxed.new (((w.alloc (.cells #[.slice none 0 0] 23)).alloc (.cells #[.int .i64 0, .int .i64 0] 25)).alloc (.cells #[.int .i64 0] 26)) 23 (.slice none 0 0)
    rw [s3] at h
    exact h
theorem LInv.start {w W0 W1 : World} (hb : Below W0.heap.size W0 W1) (h : Below w.heap.size w W0 ∧ W0.heap.size = w.heap.size + 4 ∧ Boxed W0 w.heap.size 23 (.slice none 0 0) ∧ W0.heap[w.heap.size + 1]? = some (.cells #[.int .i64 0, .int .i64 0] 25 (0, 0)) ∧ Boxed W0 (w.heap.size + 2) 26 (.int .i64 0) ∧ Boxed W0 (w.heap.size + 3) 23 (.slice none 0 0)) (o : Obj) :
    LInv w W1.heap.size [] ((W1.alloc (.cells kindsC 47)).alloc o) := by
  obtain ⟨h1, h2, h3, h4, h5, h6⟩ := h
  have hle := hb.size
  refine ⟨((h1.trans (hb.mono (by omega))).alloc (by omega) _).alloc (by simp; omega) _, blk_alloc (blk_alloc (blk_below hb (by omega) h3) _) _, blk_alloc (blk_alloc (blk_below hb (by omega) h4) _) _, blk_alloc (blk_alloc (blk_below hb (by omega) h5) _) _, ⟨_, blk_alloc (blk_alloc (blk_below hb (by omega) h6) _) _, World.ownsRow_nil _ _ _ _⟩, blk_alloc (World.alloc_heap_new _ _) _⟩
theorem lex_results {w : World} {v0 : Value} {p : Nat × Nat} {er : Int} {rs : List (Nat × Obj)} {W : World} (h : FInv w v0 p er rs W) (tmps : Array Value)
    (t2 : tmps.getD 2 undef = .pointer (some ⟨w.heap.size, 0, none⟩)) (t3 : tmps.getD 3 undef = .pointer (some ⟨w.heap.size + 1, 0, none⟩)) (t4 : tmps.getD 4 undef = .pointer (some ⟨w.heap.size + 2, 0, none⟩)) :
    (results Tryd.f7 tmps).run Tryd.prog W = .ok (.tuple #[v0, .agg #[.int .i64 p.1, .int .i64 p.2], .int .i64 er]) W := by
  have e0 := h.r0
  have e1 := h.r1
  have e2 := h.r1b
  have e3 := h.r2
  have t2' : tmps[2]?.getD undef = .pointer (some ⟨w.heap.size, 0, none⟩) := by simpa using t2
  have t3' : tmps[3]?.getD undef = .pointer (some ⟨w.heap.size + 1, 0, none⟩) := by simpa using t3
  have t4' : tmps[4]?.getD undef = .pointer (some ⟨w.heap.size + 2, 0, none⟩) := by simpa using t4
  simp [results, Tryd.f7, go_sem, e0, e1, e2, e3, t2', t3', t4']
set_option maxRecDepth 100000 in
set_option maxHeartbeats 8000000 in
theorem lex_any (s : List UInt8) (hs : s.length ≤ 65536) (w : World) (hW : LexW w) : Calls Tryd.prog 7 #[.string ⟨s.toArray⟩] w (LexEnd s w) := by
  refine (callsIn_wide (n := 20)).1 ?_
  refine callsIn_of_wp_marks Tryd.func7 rfl trivial ?_ rfl
  simp only [Tryd.ntmps7, List.size_toArray, List.length_cons, List.length_nil, Nat.reduceAdd, Nat.reduceSub, Array.replicate_succ, Array.replicate_zero, List.push_toArray, List.append_toArray, List.nil_append, List.cons_append]
  have hl : decide ((65536 : Int) < s.length) = false := decide_eq_false (by omega)
  have hl2 : decide (65536 < s.length) = false := decide_eq_false (by omega)
  gi_wp2_with fail
  have HS := linv_start w
  revert HS
  generalize (((w.alloc (.cells #[.slice none 0 0] 23)).alloc (.cells #[.int .i64 0, .int .i64 0] 25)).alloc (.cells #[.int .i64 0] 26)).alloc (.cells #[.slice none 0 0] 23) = W0
  intro HS
  refine ⟨trivial, (callsIn_wide.2 (kinds_any W0)).mono ?_⟩
  rintro e W1 ⟨rfl, hb1⟩
  gi_wp2_with fail
  refine ⟨trivial, (callsIn_wide.2 (lines_any _ _)).mono ?_⟩
  rintro e W2 ⟨rfl, rfl⟩
  gi_wp2_with fail
  have HI := LInv.start hb1 HS (.cells #[.string ⟨s.toArray⟩] 9)
  have hsz1 : w.heap.size + 4 ≤ W1.heap.size := by have := hb1.size; have := HS.2.1; omega
  have hsrc : Boxed ((W1.alloc (.cells kindsC 47)).alloc (.cells #[.string ⟨s.toArray⟩] 9)) (W1.heap.size + 1) 9 (.string ⟨s.toArray⟩) := by
    have h := Boxed.new (W1.alloc (.cells kindsC 47)) 9 (.string ⟨s.toArray⟩)
    rw [World.size_alloc] at h
    exact h
  have hsz2 : ((W1.alloc (.cells kindsC 47)).alloc (.cells #[.string ⟨s.toArray⟩] 9)).heap.size = W1.heap.size + 2 := by simp
  revert HI hsrc hsz2
  generalize ((W1.alloc (.cells kindsC 47)).alloc (.cells #[.string ⟨s.toArray⟩] 9)) = W2
  generalize W1.heap.size = kb at hsz1 ⊢
  intro HI hsrc hsz2
  clear HS hb1
  have HR0 : RInv w kb [] [(kb + 1, 9, .string ⟨s.toArray⟩)] [] W2 := ⟨HI, fun p hp => by simp at hp; subst hp; exact ⟨hsrc, by show w.heap.size + 4 ≤ kb + 1; omega, by show kb + 1 ≠ kb; omega, by show (9 : Nat) ≠ 41; decide⟩, fun p hp => by simp at hp⟩
  refine range_outer rfl (by omega) (gf := 36) (lb := #[.pointer (some ⟨kb + 1, 0, none⟩)]) rfl trivial (enters_of Tryd.func36 (by kernel_rfl) rfl) ?_
  intro fn rec hfn hrec
  have HR1 := (HR0.newrec (.deferred (some [])) rfl).newrec (.loop (rec .ready none)) rfl
  rw [World.size_alloc, hsz2] at HR1
  rw [hsz2]
  have HLL := shid (line_le s)
  obtain ⟨JO, HJO⟩ : ∃ JO : Nat → World → Prop, Hid (∀ k W, JO k W ↔ ∃ ts v, linesT 1 ((linesS s).take k) = .ok ts ∧ RInv w kb ts [(kb + 1, 9, v)] [(kb + 3, .loop (rec .ready none)), (kb + 2, .deferred (some []))] W) := ⟨_, shid (fun _ _ => Iff.rfl)⟩
  obtain ⟨JX, HJX⟩ : ∃ JX : World → Prop, Hid (∀ W, JX W ↔ ∃ p, linesT 1 (linesS s) = .error p ∧ EInv w p [(kb + 3, .loop (rec .done (some .ret))), (kb + 2, .deferred (some []))] W) := ⟨_, shid (fun _ => Iff.rfl)⟩
  refine (lines_calls 19 (by omega) (kb + 3) (kb + 1) s (by omega) JO JX
    ?drew ?set ?lexw ?round _ ?cell ?frozen ?start).mono ?behind
  case drew =>
    intro k W m h
    obtain ⟨ts, v, h1, h2⟩ := (HJO.out _ _).1 h
    exact (HJO.out _ _).2 ⟨ts, v, h1, h2.below (drewN_below _ _)⟩
  case set =>
    intro k W v' h
    obtain ⟨ts, v, h1, h2⟩ := (HJO.out _ _).1 h
    exact (HJO.out _ _).2 ⟨ts, v', h1, h2.set (by simp) v'⟩
  case lexw =>
    intro k W h
    obtain ⟨ts, v, h1, h2⟩ := (HJO.out _ _).1 h
    exact hW.keep h2.inv.bel
  case cell => exact (HR1.bx (kb + 1, 9, .string ⟨s.toArray⟩) (by simp)).1.cell
  case frozen => exact (HR1.bx (kb + 1, 9, .string ⟨s.toArray⟩) (by simp)).1.frozen
  case start => exact (HJO.out _ _).2 ⟨[], _, by simp [linesT], HR1⟩
  case behind =>
    rintro e W3 ⟨⟨rv, rfl⟩, hJ | hJ⟩
    · obtain ⟨ts, v, hts, HR⟩ := (HJO.out _ _).1 hJ
      clear hJ
      refine range_done hrec (HR.rs (kb + 3, .loop (rec .ready none)) (by simp)).1 ?_
      have HRp := (HR.put (by simp) (.loop (rec .exhausted none)) rfl)
      revert HRp
      generalize W3.putObj (kb + 3) (.loop (rec .exhausted none)) = W4
      intro HRp
      have HLEX := shid (show lexS s = .ok ts by rw [List.take_length] at hts; exact hts)
      have c3 := HRp.inv.r0.cell
      have f3 := HRp.inv.r0.frozen
      have c4 := blk_cell HRp.inv.r1 (j := 0) rfl
      have f4 := blk_frozen HRp.inv.r1 0
      have c5 := blk_cell HRp.inv.r1 (j := 1) rfl
      have f5 := blk_frozen HRp.inv.r1 1
      have c6 := HRp.inv.r2.cell
      have f6 := HRp.inv.r2.frozen
      obtain ⟨ov, hov, hrow⟩ := HRp.inv.out
      have c7 := hov.cell
      have HROW := shid hrow
      have HOV := shid hov
      have HRQ := shid HRp
      obtain ⟨g0, n0, k0, hshape⟩ : ∃ g n c, ov = .slice g n c := by
        rcases hrow.2 with ⟨rfl, _⟩ | ⟨g, cap, cur, rfl, _⟩
        · exact ⟨_, _, _, rfl⟩
        · exact ⟨_, _, _, rfl⟩
      subst hshape
      clear HR HRp hts hov hrow
      gi_wp2
      have HFN := (HRQ.out.fin (.slice g0 n0 k0) (0, 0) 0).mono (rs' := [(kb + 2, .deferred (some []))]) (by simp)
      have HRF := HRQ.out.row_fin HROW.out (.slice g0 n0 k0) (.int .i64 0) (.int .i64 0) (.int .i64 0)
      have hK := (HFN.rs (kb + 2, .deferred (some [])) (by simp)).1
      have HFQ := HFN.put (by simp) (.deferred none) rfl
      have HRG := ownsRow_putObj HRF (.deferred none) hK rfl
      refine ⟨by simp, .inl ⟨_, _, rfl, run_takeDeferred hK, ?_⟩⟩
      refine ⟨.tuple #[.slice g0 n0 k0, .agg #[.int .i64 0, .int .i64 0], .int .i64 0], ?_, ?_⟩
      · exact lex_results HFQ _ rfl rfl rfl
      · refine ⟨?_, HFQ.bel⟩
        rw [HLEX.out]
        exact ⟨_, rfl, HRG⟩
    · obtain ⟨p, hp, HE⟩ := (HJX.out _).1 hJ
      clear hJ
      refine range_left hrec (HE.rs (kb + 3, .loop (rec .done (some .ret))) (by simp)).1 ?_
      have HEp := HE.put (by simp) (.loop (rec .exhausted (some .ret))) rfl
      revert HEp
      generalize W3.putObj (kb + 3) (.loop (rec .exhausted (some .ret))) = W4
      intro HEp
      have HEQ := shid HEp
      clear HE HEp
      gi_wp2
      have HFN := HEQ.out.mono (rs' := [(kb + 2, .deferred (some []))]) (by simp)
      have hK := (HFN.rs (kb + 2, .deferred (some [])) (by simp)).1
      have HFQ := HFN.put (by simp) (.deferred none) rfl
      refine ⟨by simp, .inl ⟨_, _, rfl, run_takeDeferred hK, ?_⟩⟩
      refine ⟨.tuple #[.slice none 0 0, .agg #[.int .i64 p.1, .int .i64 p.2], .int .i64 120], ?_, ?_⟩
      · exact lex_results HFQ _ rfl rfl rfl
      · refine ⟨?_, HFQ.bel⟩
        rw [show lexS s = .error p from hp]
  case round =>
    intro k x W3 hJ hx
    obtain ⟨ts, v, hts, HR⟩ := (HJO.out _ _).1 hJ
    clear hJ
    have HSB := shid (HR.bx (kb + 1, 9, v) (by simp)).1
    have hxl : x.length ≤ 65536 := by have := HLL.out.1 x (List.mem_of_getElem? hx); omega
    have hkl : k < 65536 := by have := (List.getElem?_eq_some_iff.1 hx).1; have := HLL.out.2; omega
    rw [show ((k : Int) + 1) = ((k + 1 : Nat) : Int) by omega]
    generalize hln : k + 1 = ln
    refine one_round hfn hrec (HR.rs (kb + 3, .loop (rec .ready none)) (by simp)).1 rfl ?_
    gi_wp2_with fail
    have hint : (3 : Nat) ≠ 41 := by decide
    have hbool : (4 : Nat) ≠ 41 := by decide
    have hstr : (9 : Nat) ≠ 41 := by decide
    have HRn := HR.box 3 (.int .i64 (ln : Int)) hint
    refine ⟨(HRn.rs (kb + 3, .loop (rec .ready none)) (by simp)).1, ?_⟩
    have HRb := HRn.put (by simp) (.loop (rec .busy none)) rfl
    have hnb : kb + 4 ≤ W3.heap.size := (Array.getElem?_eq_some_iff.1 (HR.rs (kb + 3, .loop (rec .ready none)) (by simp)).1).1
    have hsz4 : ((W3.alloc (.cells #[.int .i64 (ln : Int)] 3)).putObj (kb + 3) (.loop (rec .busy none))).heap.size = W3.heap.size + 1 := by simp
    revert HRb hsz4
    generalize (W3.alloc (.cells #[.int .i64 (ln : Int)] 3)).putObj (kb + 3) (.loop (rec .busy none)) = W4
    clear HRn HR
    generalize W3.heap.size = nb at hnb ⊢
    intro HRb hsz4
    have HRc := (HRb.box 4 (.bool false) hbool).box 9 (.string ⟨x.toArray⟩) hstr
    rw [World.size_alloc, hsz4] at HRc
    gi_wp2_with fail
    refine ⟨trivial, (CallsIn.inRound (kb + 3) (callsIn_wide.2 (words_any _ _))).mono ?_⟩
    rintro e W5 ⟨rfl, rfl⟩
    gi_wp2_with fail
    have hsz5 : ((W4.alloc (.cells #[.bool false] 4)).alloc (.cells #[.string ⟨x.toArray⟩] 9)).heap.size = nb + 3 := by simp [hsz4]
    revert HRc hsz5
    generalize (W4.alloc (.cells #[.bool false] 4)).alloc (.cells #[.string ⟨x.toArray⟩] 9) = W5
    intro HRc hsz5
    obtain ⟨brec, hbrec⟩ : ∃ r, rec .busy none = r := ⟨_, rfl⟩
    rw [hbrec] at HRc
    refine range_inner (l₀ := kb + 3) (r₀ := brec) rfl (HRc.rs (kb + 3, .loop brec) (by simp)).1 (by omega) (gf := 38) (lb := #[.pointer (some ⟨nb + 2, 0, none⟩)]) rfl trivial (enters_of Tryd.func38 (by kernel_rfl) rfl) ?_
    intro fn2 rec2 hfn2 hrec2
    have HRd := HRc.newrec (.loop (rec2 .ready none)) rfl
    rw [hsz5] at HRd
    rw [hsz5]
    have HWB := shid (wordsS_bd x 0)
    clear HRb HRc HR0 HR1
    obtain ⟨JI, HJI⟩ : ∃ JI : List (Nat × List UInt8) → World → Prop, Hid (∀ pre W, JI pre W ↔ ∃ tp, toksW ln pre = .ok tp ∧ (∀ y ys, pre = y :: ys → begins 35 y.2 = false) ∧ RInv w kb (ts ++ tp) [(nb + 1, 4, .bool (!pre.isEmpty)), (nb, 3, .int .i64 (ln : Int)), (nb + 2, 9, .string ⟨x.toArray⟩), (kb + 1, 9, v)] [(nb + 3, .loop (rec2 .ready none)), (kb + 3, .loop brec), (kb + 2, .deferred (some []))] W) := ⟨_, shid (fun _ _ => Iff.rfl)⟩
    obtain ⟨JY, HJY⟩ : ∃ JY : World → Prop, Hid (∀ W, JY W ↔ (∃ y ys, wordsS 0 x = y :: ys ∧ begins 35 y.2 = true ∧ RInv w kb ts [(nb + 1, 4, .bool false), (nb, 3, .int .i64 (ln : Int)), (nb + 2, 9, .string ⟨x.toArray⟩), (kb + 1, 9, v)] [(nb + 3, .loop (rec2 .done (some (.exit 2)))), (kb + 3, .loop brec), (kb + 2, .deferred (some []))] W) ∨
        (∃ p, toksW ln (wordsS 0 x) = .error p ∧ (∀ y ys, wordsS 0 x = y :: ys → begins 35 y.2 = false) ∧ EInv w p [(nb + 3, .loop (rec2 .done (some .ret))), (kb + 3, .loop brec), (kb + 2, .deferred (some []))] W)) := ⟨_, shid (fun _ => Iff.rfl)⟩
    refine (CallsIn.inRound (kb + 3) (words_calls 17 (by omega) (nb + 3) (nb + 2) x (by omega) JI JY
      ?round2 _ ?cell2 ?start2)).mono ?behind2
    case cell2 => exact (HRd.bx (nb + 2, 9, .string ⟨x.toArray⟩) (by simp)).1.cell
    case start2 => exact (HJI.out _ _).2 ⟨[], rfl, fun y ys e => (by cases e), by
      rw [List.append_nil]
      exact HRd.mono (fun p hp => by simp at hp ⊢; rcases hp with rfl | rfl | rfl | rfl <;> simp) (fun p hp => hp)⟩
    case behind2 =>
      have HTAKE : Hid (∀ b, lineT ln x = .ok b → linesT 1 ((linesS s).take (k + 1)) = .ok (ts ++ b)) := shid (fun b hb => by
        have e : (linesS s).take (k + 1) = (linesS s).take k ++ [x] := by rw [List.take_add_one, hx]; rfl
        have hl : 1 + ((linesS s).take k).length = ln := by rw [List.length_take]; have := (List.getElem?_eq_some_iff.1 hx).1; omega
        rw [e, linesT_snoc, hts, hl, hb])
      have HTAKE2 : Hid (∀ p, lineT ln x = .error p → linesT 1 (linesS s) = .error p) := shid (fun p hp => by
        have e : (linesS s).take (k + 1) = (linesS s).take k ++ [x] := by rw [List.take_add_one, hx]; rfl
        have hl : 1 + ((linesS s).take k).length = ln := by rw [List.length_take]; have := (List.getElem?_eq_some_iff.1 hx).1; omega
        have h1 : linesT 1 ((linesS s).take (k + 1)) = .error p := by rw [e, linesT_snoc, hts, hl, hp]
        have h2 := linesT_err _ ((linesS s).drop (k + 1)) _ _ h1
        rw [List.take_append_drop] at h2
        exact h2)
      rintro e W6 ⟨⟨rv, rfl⟩, hJ | hJ⟩
      · obtain ⟨tp, htp, hnc, HR⟩ := (HJI.out _ _).1 hJ
        clear hJ
        refine range_done hrec2 (HR.rs (nb + 3, .loop (rec2 .ready none)) (by simp)).1 ?_
        have HRp := HR.put (by simp; omega) (.loop (rec2 .exhausted none)) rfl
        revert HRp
        generalize W6.putObj (nb + 3) (.loop (rec2 .exhausted none)) = W7
        intro HRp
        have hsc := (HRp.bx (nb + 1, 4, .bool (!(wordsS 0 x).isEmpty)) (by simp)).1.cell
        cases hw : wordsS 0 x with
        | nil =>
          rw [hw] at hsc
          have htp0 : tp = [] := by rw [hw] at htp; cases htp; rfl
          subst htp0
          have HRQ := shid (HRp.mono (bx' := [(kb + 1, 9, v)]) (rs' := [(kb + 3, .loop brec), (kb + 2, .deferred (some []))]) (by simp) (by simp))
          have HB := shid (show lineT ln x = .ok [] by unfold lineT; rw [hw])
          clear HR HRp hw hnc htp HTAKE2
          gi_wp2
          have HFP := HRQ.out.put (by simp) (.loop (rec .ready none)) rfl
          rw [List.append_nil] at HFP
          refine ⟨by rw [hbrec]; exact (HRQ.out.rs (kb + 3, .loop brec) (by simp)).1, .inl ⟨rfl, (HJO.out _ _).2 ⟨_, v, by have h := HTAKE.out _ HB.out; rw [hln] at h; exact h, by rw [List.append_nil]; exact HFP⟩, ?_⟩⟩
          refine ⟨fun u hu => ?_, fun hu => (HFP.bx (kb + 1, 9, v) (by simp)).1.frozen⟩
          have e1 := HSB.out.cell.symm.trans hu
          rw [← Option.some.inj e1]
          exact (HFP.bx (kb + 1, 9, v) (by simp)).1.cell
        | cons y ys =>
          obtain ⟨ya, yw⟩ := y
          rw [hw] at hsc
          have HB := shid (show lineT ln x = .ok (tp ++ [⟨6, [], 0, ln, x.length + 1⟩]) by
            unfold lineT
            rw [hw]
            simp only
            rw [hnc _ _ hw]
            rw [hw] at htp
            simp [htp])
          have HRQ := shid (HRp.mono (bx' := [(nb, 3, .int .i64 (ln : Int)), (kb + 1, 9, v)]) (rs' := [(kb + 3, .loop brec), (kb + 2, .deferred (some []))]) (by simp) (by simp))
          have HBND := shid (lapp_bounds (ts ++ tp).length (by
            have h1 := toksW_len _ _ _ htp
            have h2 := linesT_len 65536 _ _ _ hts (fun l hl => by have := HLL.out.1 l (List.mem_of_mem_take hl); omega)
            have h4 := wordsS_len x 0
            have h5 : ((linesS s).take k).length ≤ k := by rw [List.length_take]; omega
            have h6 : ((linesS s).take k).length * (65536 + 1) ≤ 65536 * 65537 := Nat.mul_le_mul (by omega) (by omega)
            rw [List.length_append]
            omega))
          have hat : wrap64 ((x.length : Int) + 1) = (x.length : Int) + 1 := by unfold wrap64; omega
          have c2 := (HRp.bx (nb, 3, .int .i64 (ln : Int)) (by simp)).1.cell
          have hlt8 := HRp.inv.lt.1
          obtain ⟨ov, hov, hrow⟩ := HRp.inv.out
          have c7 := hov.cell
          have HOV := shid hov
          have HROW := shid hrow
          clear HR HRp hw hnc htp HTAKE2 hov hrow
          obtain ⟨i0, hi, hz0, hz1, hz2⟩ := info_parts infoTok
          have HNEW := shid (show ∀ (j : Nat) (u : Value), ([.int .u8 6, .string ⟨#[]⟩, .int .u32 0, .int .i64 (ln : Int), .int .i64 ((x.length : Int) + 1)] : List Value)[j]? = some u → (W7.alloc (.cells #[.int .u8 6, .string ⟨#[]⟩, .int .u32 0, .int .i64 (ln : Int), .int .i64 ((x.length : Int) + 1)] 41)).cell? ((⟨W7.heap.size, 0, none⟩ : Addr).add j) = some u from lcells_new W7 [.int .u8 6, .string ⟨#[]⟩, .int .u32 0, .int .i64 (ln : Int), .int .i64 ((x.length : Int) + 1)] 41)
          have HRW := shid (HROW.out.alloc (.cells #[.int .u8 6, .string ⟨#[]⟩, .int .u32 0, .int .i64 (ln : Int), .int .i64 ((x.length : Int) + 1)] 41))
          have HZA := shid (HRQ.out.alloc (.cells #[.int .u8 6, .string ⟨#[]⟩, .int .u32 0, .int .i64 (ln : Int), .int .i64 ((x.length : Int) + 1)] 41))
          have HOVA := shid (show Boxed (W7.alloc (.cells #[.int .u8 6, .string ⟨#[]⟩, .int .u32 0, .int .i64 (ln : Int), .int .i64 ((x.length : Int) + 1)] 41)) (w.heap.size + 3) 23 ov from HOV.out.alloc _)
          have HLE := shid (show w.heap.size ≤ (W7.alloc (.cells #[.int .u8 6, .string ⟨#[]⟩, .int .u32 0, .int .i64 (ln : Int), .int .i64 ((x.length : Int) + 1)] 41)).heap.size by simp; omega)
          gi_wp2_with (gi_at_builtin; refine wpListIn_append_own _ rfl _ _ 23 rfl w.heap.size 41 i0 (.agg #[.int .u8 0, .string ⟨#[]⟩, .int .u32 0, .int .i64 0, .int .i64 0]) 5 48 Tryd.underlying23 hi hz0 hz1 hz2 rfl (by decide) ov (ts ++ tp).length (toksC (ts ++ tp)) rfl HRW.out ⟨W7.heap.size, 0, none⟩ 1 1 [.int .u8 6, .string ⟨#[]⟩, .int .u32 0, .int .i64 (ln : Int), .int .i64 ((x.length : Int) + 1)] rfl rfl HNEW.out (by simp [Value.oneCell']) HBND.out.1 HBND.out.2 HLE.out ?_; intro v' w1 hown' hgrow hnil; have HGO := shid (RInv.app (t := ⟨6, [], 0, ln, x.length + 1⟩) HZA.out HOVA.out HRW.out hown' hgrow); obtain ⟨g', cap', rfl⟩ := ownsRow_succ hown'; have hc1 := HGO.out.1.cell; have hf1 := HGO.out.1.frozen; clear hown' hgrow hnil)
          have HF := HGO.out.2.1
          simp only [List.length_append] at HF
          rw [show ts ++ tp ++ [(⟨6, [], 0, ln, x.length + 1⟩ : Tok)] = ts ++ (tp ++ [⟨6, [], 0, ln, x.length + 1⟩]) from List.append_assoc ..] at HF
          have HFP := (HF.mono (bx' := [(kb + 1, 9, v)]) (by simp) (fun _ h => h)).put (by simp) (.loop (rec .ready none)) rfl
          refine ⟨by rw [hbrec]; exact (HF.rs (kb + 3, .loop brec) (by simp)).1, .inl ⟨rfl, (HJO.out _ _).2 ⟨_, v, by have h := HTAKE.out _ HB.out; rw [hln] at h; exact h, HFP⟩, ?_⟩⟩
          refine ⟨fun u hu => ?_, fun hu => (HFP.bx (kb + 1, 9, v) (by simp)).1.frozen⟩
          have e1 := HSB.out.cell.symm.trans hu
          rw [← Option.some.inj e1]
          exact (HFP.bx (kb + 1, 9, v) (by simp)).1.cell
      · rcases (HJY.out _).1 hJ with ⟨y, ys, hw, hb, HR⟩ | ⟨p, hp, hnc, HE⟩
        · clear hJ
          refine range_left hrec2 (HR.rs (nb + 3, .loop (rec2 .done (some (.exit 2)))) (by simp)).1 ?_
          have HRp := HR.put (by simp; omega) (.loop (rec2 .exhausted (some (.exit 2)))) rfl
          revert HRp
          generalize W6.putObj (nb + 3) (.loop (rec2 .exhausted (some (.exit 2)))) = W7
          intro HRp
          have hsc := (HRp.bx (nb + 1, 4, .bool false) (by simp)).1.cell
          have HRQ := shid (HRp.mono (bx' := [(kb + 1, 9, v)]) (rs' := [(kb + 3, .loop brec), (kb + 2, .deferred (some []))]) (by simp) (by simp))
          have HB := shid (show lineT ln x = .ok [] by unfold lineT; rw [hw]; simp [hb])
          clear HR HRp hw hb HTAKE2
          gi_wp2
          have HFP := HRQ.out.put (by simp) (.loop (rec .ready none)) rfl
          refine ⟨by rw [hbrec]; exact (HRQ.out.rs (kb + 3, .loop brec) (by simp)).1, .inl ⟨rfl, (HJO.out _ _).2 ⟨_, v, by have h := HTAKE.out _ HB.out; rw [hln] at h; exact h, by rw [List.append_nil]; exact HFP⟩, ?_⟩⟩
          refine ⟨fun u hu => ?_, fun hu => (HFP.bx (kb + 1, 9, v) (by simp)).1.frozen⟩
          have e1 := HSB.out.cell.symm.trans hu
          rw [← Option.some.inj e1]
          exact (HFP.bx (kb + 1, 9, v) (by simp)).1.cell
        · clear hJ
          refine range_left hrec2 (HE.rs (nb + 3, .loop (rec2 .done (some .ret))) (by simp)).1 ?_
          have HEp := HE.put (by simp; omega) (.loop (rec2 .exhausted (some .ret))) rfl
          revert HEp
          generalize W6.putObj (nb + 3) (.loop (rec2 .exhausted (some .ret))) = W7
          intro HEp
          have HEQ := shid (HEp.mono (rs' := [(kb + 3, .loop brec), (kb + 2, .deferred (some []))]) (by simp))
          have HB := shid (show lineT ln x = .error p by
            unfold lineT
            cases hw : wordsS 0 x with
            | nil => rw [hw] at hp; cases hp
            | cons y ys =>
              obtain ⟨a, wd⟩ := y
              simp only
              rw [hnc _ _ hw]
              rw [hw] at hp
              simp [hp])
          clear HE HEp hp hnc HTAKE
          gi_wp2
          exact ⟨by rw [hbrec]; exact (HEQ.out.rs (kb + 3, .loop brec) (by simp)).1, .inr ⟨rfl, (HJX.out _).2 ⟨p, HTAKE2.out _ HB.out, HEQ.out.put (by simp) _ rfl⟩⟩⟩
    case round2 =>
      rintro pre ⟨at', wd⟩ W6 hJ hpre
      obtain ⟨tp, htp, hnc, HR⟩ := (HJI.out _ _).1 hJ
      clear hJ
      obtain ⟨hw0, hw1⟩ := HWB.out (at', wd) (hpre.subset (by simp))
      simp only at hw0 hw1
      have hat : wrap64 ((at' : Int) + 1) = (at' : Int) + 1 := by unfold wrap64; omega
      have HPRE := shid hpre
      have HTP := shid htp
      have HNC := shid hnc
      clear hpre htp hnc
      refine one_round (F := Fence.wide) trivial hrec2 (HR.rs (nb + 3, .loop (rec2 .ready none)) (by simp)).1 rfl ?_
      gi_wp2_with fail
      have HRw := HR.alloc (.cells #[.string ⟨wd.toArray⟩, .int .i64 (at' : Int)] 56)
      refine ⟨(HRw.rs (nb + 3, .loop (rec2 .ready none)) (by simp)).1, ?_⟩
      have HRy := HRw.put (by simp; omega) (.loop (rec2 .busy none)) rfl
      have hwb : nb + 3 < W6.heap.size := (Array.getElem?_eq_some_iff.1 (HR.rs (nb + 3, .loop (rec2 .ready none)) (by simp)).1).1
      have hwc : ((W6.alloc (.cells #[.string ⟨wd.toArray⟩, .int .i64 (at' : Int)] 56)).putObj (nb + 3) (.loop (rec2 .busy none))).heap[W6.heap.size]? = some (.cells #[.string ⟨wd.toArray⟩, .int .i64 (at' : Int)] 56 (0, 0)) :=
        (World.putObj_heap_other (by omega)).trans (World.alloc_heap_new _ _)
      have hlb := (HR.bx (nb + 2, 9, .string ⟨x.toArray⟩) (by simp)).1
      have HLB := shid hlb
      revert HRy hwc
      generalize (W6.alloc (.cells #[.string ⟨wd.toArray⟩, .int .i64 (at' : Int)] 56)).putObj (nb + 3) (.loop (rec2 .busy none)) = W7
      clear HR HRw hlb
      generalize W6.heap.size = wb at hwb ⊢
      intro HRy hwc
      have hw0c := blk_cell hwc (j := 0) rfl
      have hw1c := blk_cell hwc (j := 1) rfl
      have hsc := (HRy.bx (nb + 1, 4, .bool (!pre.isEmpty)) (by simp)).1.cell
      have hk : ∀ j u, (kindsC : Array Value)[j]? = some u → W7.cell? ⟨kb, j, none⟩ = some u := fun j u h => blk_cell HRy.inv.ks h
      have k0 := hk 0 _ rfl
      have k1 := hk 1 _ rfl
      have k2 := hk 2 _ rfl
      have k3 := hk 3 _ rfl
      have k4 := hk 4 _ rfl
      have k5 := hk 5 _ rfl
      have k6 := hk 6 _ rfl
      have k7 := hk 7 _ rfl
      have k8 := hk 8 _ rfl
      have k9 := hk 9 _ rfl
      have k10 := hk 10 _ rfl
      have k11 := hk 11 _ rfl
      clear hk
      have HT := shid (token_any ⟨wd.toArray⟩ (mk_size wd (Nat.le_trans (show wd.length ≤ 65536 by clear hat; omega) (by decide))) W7 (hW.keep HRy.inv.bel))
      have HY := shid HRy
      have HWC := shid hwc
      clear HRy hwc
      obtain ⟨c, r, rfl⟩ : ∃ c r, wd = c :: r := by cases wd with
        | nil => exact (hw0 rfl).elim
        | cons c r => exact ⟨c, r, rfl⟩
      by_cases hcom : pre = [] ∧ c.toNat = 35
      · obtain ⟨rfl, h35⟩ := hcom
        have h35b : (((⟨(c :: r).toArray⟩ : ByteArray)[0]'(by simp [ByteArray.size])).toNat : Int) == 35 := by rw [beq_iff_eq]; show (c.toNat : Int) = 35; omega
        gi_wp2_with fail
        have HZ := HY.out.put (by simp; omega) (.loop (rec2 .done (some (.exit 2)))) rfl
        refine ⟨(HY.out.rs (nb + 3, .loop (rec2 .busy none)) (by simp)).1, .inr ⟨rfl, (HJY.out _).2 (.inl ?_)⟩⟩
        obtain ⟨z, hz⟩ := HPRE.out
        have htp0 : tp = [] := by have h := HTP.out; simp [toksW] at h; exact h
        subst htp0
        refine ⟨(at', c :: r), z, by rw [← hz]; simp, by show decide (c.toNat = 35) = true; exact decide_eq_true h35, ?_⟩
        rw [List.append_nil] at HZ
        exact HZ
      · have hgo : (!pre.isEmpty) = true ∨ ((!pre.isEmpty) = false ∧ ((((⟨(c :: r).toArray⟩ : ByteArray)[0]'(by simp [ByteArray.size])).toNat : Int) == 35) = false) := by
          cases pre with
          | nil => exact .inr ⟨rfl, by rw [beq_eq_false_iff_ne]; show (c.toNat : Int) ≠ 35; intro h; exact hcom ⟨rfl, by omega⟩⟩
          | cons y ys => exact .inl rfl
        have HNC2 := shid (show ∀ y ys, pre ++ [(at', c :: r)] = y :: ys → begins 35 y.2 = false by
          intro y ys e
          cases pre with
          | nil => cases e; exact decide_eq_false (fun h => hcom ⟨rfl, h⟩)
          | cons y' ys' => cases e; exact HNC.out _ _ rfl)
        clear hcom HNC
        have HTS := shid (toksW_snoc pre ln at' (c :: r))
        cases htb : tokB (c :: r) with
        | none =>
          have HT2 := shid (by have h := HT.out; unfold TokenOk at h; rw [show (⟨(c :: r).toArray⟩ : ByteArray).data.toList = c :: r from rfl, htb] at h; simp only [tokV] at h; exact h)
          have HERR := shid (show toksW ln (wordsS 0 x) = .error (ln, at' + 1) by
            obtain ⟨z, hz⟩ := HPRE.out
            rw [← hz]
            apply toksW_err
            rw [HTS.out, HTP.out, htb])
          clear htb HT HTS
          rcases hgo with hg | ⟨hg, hg2⟩ <;> rw [hg] at hsc
          all_goals
            gi_wp2_with fail
            refine ⟨trivial, (CallsIn.inRound (nb + 3) (callsIn_wide.2 HT2.out)).mono ?_⟩
            rintro e W8 ⟨rfl, hb8⟩
            have HY8 := HY.out.below hb8
            have c1 := blk_cell (blk_all hb8 HWC.out) (j := 1) rfl
            have c2 := (HY8.bx (nb, 3, .int .i64 (ln : Int)) (by simp)).1.cell
            have c3 := HY8.inv.r0.cell
            have f3 := HY8.inv.r0.frozen
            have c4 := blk_cell HY8.inv.r1 (j := 0) rfl
            have f4 := blk_frozen HY8.inv.r1 0
            have c5 := blk_cell HY8.inv.r1 (j := 1) rfl
            have f5 := blk_frozen HY8.inv.r1 1
            have c6 := HY8.inv.r2.cell
            have f6 := HY8.inv.r2.frozen
            have hlt8 := HY8.inv.lt.1
            have a1 := fun o => lcell_alloc (w := W8) o c1
            have a2 := fun o => lcell_alloc (w := W8) o c2
            have a3 := fun o => lcell_alloc (w := W8) o c3
            have b3 := fun o => lfrozen_alloc (w := W8) o c3 f3
            have a4 := fun o => lcell_alloc (w := W8) o c4
            have b4 := fun o => lfrozen_alloc (w := W8) o c4 f4
            have a5 := fun o => lcell_alloc (w := W8) o c5
            have b5 := fun o => lfrozen_alloc (w := W8) o c5 f5
            have a6 := fun o => lcell_alloc (w := W8) o c6
            have b6 := fun o => lfrozen_alloc (w := W8) o c6 f6
            have HZ8 := shid HY8
            have hmix : Tryd.prog.follows .mixedOrders = true := by kernel_rfl
            clear HY8 hb8 k0 k1 k2 k3 k4 k5 k6 k7 k8 k9 k10 k11 hw0c hw1c hsc
            gi_wp2_with fail
            have HZ9 := shid (HZ8.out.alloc (.cells #[.int .u8 0, .string ⟨#[]⟩, .int .u32 0, .int .i64 (ln : Int), .int .i64 ((at' : Int) + 1)] 41))
            have htb : (W8.alloc (.cells #[.int .u8 0, .string ⟨#[]⟩, .int .u32 0, .int .i64 (ln : Int), .int .i64 ((at' : Int) + 1)] 41)).heap[W8.heap.size]? = some (.cells #[.int .u8 0, .string ⟨#[]⟩, .int .u32 0, .int .i64 (ln : Int), .int .i64 ((at' : Int) + 1)] 41 (0, 0)) := World.alloc_heap_new _ _
            have t3 := blk_cell htb (j := 3) rfl
            have t4 := blk_cell htb (j := 4) rfl
            have hb8l : w.heap.size + 4 ≤ W8.heap.size := hlt8
            replace a3 := a3 (.cells #[.int .u8 0, .string ⟨#[]⟩, .int .u32 0, .int .i64 (ln : Int), .int .i64 ((at' : Int) + 1)] 41)
            replace b3 := b3 (.cells #[.int .u8 0, .string ⟨#[]⟩, .int .u32 0, .int .i64 (ln : Int), .int .i64 ((at' : Int) + 1)] 41)
            replace a4 := a4 (.cells #[.int .u8 0, .string ⟨#[]⟩, .int .u32 0, .int .i64 (ln : Int), .int .i64 ((at' : Int) + 1)] 41)
            replace b4 := b4 (.cells #[.int .u8 0, .string ⟨#[]⟩, .int .u32 0, .int .i64 (ln : Int), .int .i64 ((at' : Int) + 1)] 41)
            replace a5 := a5 (.cells #[.int .u8 0, .string ⟨#[]⟩, .int .u32 0, .int .i64 (ln : Int), .int .i64 ((at' : Int) + 1)] 41)
            replace b5 := b5 (.cells #[.int .u8 0, .string ⟨#[]⟩, .int .u32 0, .int .i64 (ln : Int), .int .i64 ((at' : Int) + 1)] 41)
            replace a6 := a6 (.cells #[.int .u8 0, .string ⟨#[]⟩, .int .u32 0, .int .i64 (ln : Int), .int .i64 ((at' : Int) + 1)] 41)
            replace b6 := b6 (.cells #[.int .u8 0, .string ⟨#[]⟩, .int .u32 0, .int .i64 (ln : Int), .int .i64 ((at' : Int) + 1)] 41)
            clear c1 c2 c3 f3 c4 f4 c5 f5 c6 f6 a1 a2 htb HZ8 hlt8
            revert HZ9 t3 t4 a3 b3 a4 b4 a5 b5 a6 b6
            generalize W8.alloc (.cells #[.int .u8 0, .string ⟨#[]⟩, .int .u32 0, .int .i64 (ln : Int), .int .i64 ((at' : Int) + 1)] 41) = W9
            generalize W8.heap.size = tb at hb8l ⊢
            intro HZ9 t3 t4 a3 b3 a4 b4 a5 b5 a6 b6
            gi_region_with_o (fail)
            all_goals
              have HE : Hid (EInv w (ln, at' + 1) [(nb + 3, .loop (rec2 .busy none)), (kb + 3, .loop brec), (kb + 2, .deferred (some []))] ((((W9.setCell ⟨w.heap.size, 0, none⟩ (.slice none 0 0)).setCell ⟨w.heap.size + 1, 0, none⟩ (.int .i64 (ln : Int))).setCell ⟨w.heap.size + 1, 1, none⟩ (.int .i64 ((at' : Int) + 1))).setCell ⟨w.heap.size + 1 + 1, 0, none⟩ (.int .i64 120)).drew) := shid (HZ9.out.err (ln, at' + 1)).drew
              clear t3 t4 a3 b3 a4 b4 a5 b5 a6 b6 HZ9
              revert HE
              generalize ((((W9.setCell ⟨w.heap.size, 0, none⟩ (.slice none 0 0)).setCell ⟨w.heap.size + 1, 0, none⟩ (.int .i64 (ln : Int))).setCell ⟨w.heap.size + 1, 1, none⟩ (.int .i64 ((at' : Int) + 1))).setCell ⟨w.heap.size + 1 + 1, 0, none⟩ (.int .i64 120)).drew = W10
              intro HE
              gi_wp2
              refine ⟨(HE.out.rs (nb + 3, .loop (rec2 .busy none)) (by simp)).1, .inr ⟨rfl, (HJY.out _).2 (.inr ⟨_, HERR.out, ?_, HE.out.put (by simp; omega) _ rfl⟩)⟩⟩
              intro y ys e
              obtain ⟨z, hz⟩ := HPRE.out
              rw [← hz] at e
              cases pre with
              | nil => exact HNC2.out y [] (by cases e; rfl)
              | cons y' ys' => exact HNC2.out y (ys' ++ [(at', c :: r)]) (by cases e; rfl)
        | some q =>
          obtain ⟨kd, tx, nm⟩ := q
          have HT2 := shid (by have h := HT.out; unfold TokenOk at h; rw [show (⟨(c :: r).toArray⟩ : ByteArray).data.toList = c :: r from rfl, htb] at h; simp only [tokV] at h; exact h)
          have HOK := shid (show toksW ln (pre ++ [(at', c :: r)]) = .ok (tp ++ [⟨kd, tx, nm, ln, at' + 1⟩]) by rw [HTS.out, HTP.out, htb])
          clear htb HT HTS
          rcases hgo with hg | ⟨hg, hg2⟩ <;> rw [hg] at hsc
          all_goals
            gi_wp2_with fail
            refine ⟨trivial, (CallsIn.inRound (nb + 3) (callsIn_wide.2 HT2.out)).mono ?_⟩
            rintro e W8 ⟨rfl, hb8⟩
            have HY8 := HY.out.below hb8
            have c1 := blk_cell (blk_all hb8 HWC.out) (j := 1) rfl
            have c2 := (HY8.bx (nb, 3, .int .i64 (ln : Int)) (by simp)).1.cell
            have hlt8 := HY8.inv.lt.1
            have HZ8 := shid HY8
            clear HY8 hb8 k0 k1 k2 k3 k4 k5 k6 k7 k8 k9 k10 k11 hw0c hw1c hsc
            have a1 := fun o => lcell_alloc (w := W8) o c1
            have a2 := fun o => lcell_alloc (w := W8) o c2
            obtain ⟨ov, hov, hrow⟩ := HZ8.out.inv.out
            have a7 := fun o => lcell_alloc (w := W8) o hov.cell
            have HOV := shid hov
            have HROW := shid hrow
            have HBND := shid (lapp_bounds (ts ++ tp).length (by
              have h1 := toksW_len _ _ _ HTP.out
              have h2 := linesT_len 65536 _ _ _ hts (fun l hl => by have := HLL.out.1 l (List.mem_of_mem_take hl); omega)
              have h3 := HPRE.out.length_le
              have h4 := wordsS_len x 0
              have h5 : ((linesS s).take k).length ≤ k := by rw [List.length_take]; omega
              have h6 : ((linesS s).take k).length * (65536 + 1) ≤ 65536 * 65537 := Nat.mul_le_mul (by omega) (by omega)
              rw [List.length_append] at h3 ⊢
              omega))
            clear hov hrow
            obtain ⟨i0, hi, hz0, hz1, hz2⟩ := info_parts infoTok
            have HNEW := shid (show ∀ (j : Nat) (u : Value), ([.int .u8 (kd : Int), .string ⟨tx.toArray⟩, .int .u32 (nm : Int), .int .i64 (ln : Int), .int .i64 ((at' : Int) + 1)] : List Value)[j]? = some u → ((W8.alloc (.cells #[.int .u8 (kd : Int), .string ⟨tx.toArray⟩, .int .u32 (nm : Int), .int .i64 (ln : Int), .int .i64 ((at' : Int) + 1)] 41)).alloc (.cells #[.int .u8 (kd : Int), .string ⟨tx.toArray⟩, .int .u32 (nm : Int), .int .i64 (ln : Int), .int .i64 ((at' : Int) + 1)] 41)).cell? ((⟨W8.heap.size + 1, 0, none⟩ : Addr).add j) = some u by
              have h := lcells_new (W8.alloc (.cells #[.int .u8 (kd : Int), .string ⟨tx.toArray⟩, .int .u32 (nm : Int), .int .i64 (ln : Int), .int .i64 ((at' : Int) + 1)] 41)) [.int .u8 (kd : Int), .string ⟨tx.toArray⟩, .int .u32 (nm : Int), .int .i64 (ln : Int), .int .i64 ((at' : Int) + 1)] 41
              rw [World.size_alloc] at h
              exact h)
            have HRW := shid ((HROW.out.alloc (.cells #[.int .u8 (kd : Int), .string ⟨tx.toArray⟩, .int .u32 (nm : Int), .int .i64 (ln : Int), .int .i64 ((at' : Int) + 1)] 41)).alloc (.cells #[.int .u8 (kd : Int), .string ⟨tx.toArray⟩, .int .u32 (nm : Int), .int .i64 (ln : Int), .int .i64 ((at' : Int) + 1)] 41))
            have HZA := shid ((HZ8.out.alloc (.cells #[.int .u8 (kd : Int), .string ⟨tx.toArray⟩, .int .u32 (nm : Int), .int .i64 (ln : Int), .int .i64 ((at' : Int) + 1)] 41)).alloc (.cells #[.int .u8 (kd : Int), .string ⟨tx.toArray⟩, .int .u32 (nm : Int), .int .i64 (ln : Int), .int .i64 ((at' : Int) + 1)] 41))
            have HOVA := shid (show Boxed ((W8.alloc (.cells #[.int .u8 (kd : Int), .string ⟨tx.toArray⟩, .int .u32 (nm : Int), .int .i64 (ln : Int), .int .i64 ((at' : Int) + 1)] 41)).alloc (.cells #[.int .u8 (kd : Int), .string ⟨tx.toArray⟩, .int .u32 (nm : Int), .int .i64 (ln : Int), .int .i64 ((at' : Int) + 1)] 41)) (w.heap.size + 3) 23 ov from (HOV.out.alloc _).alloc _)
            have HLE := shid (show w.heap.size ≤ ((W8.alloc (.cells #[.int .u8 (kd : Int), .string ⟨tx.toArray⟩, .int .u32 (nm : Int), .int .i64 (ln : Int), .int .i64 ((at' : Int) + 1)] 41)).alloc (.cells #[.int .u8 (kd : Int), .string ⟨tx.toArray⟩, .int .u32 (nm : Int), .int .i64 (ln : Int), .int .i64 ((at' : Int) + 1)] 41)).heap.size by simp; omega)
            have hne1 : ¬ (nb = w.heap.size + 2) := by omega
            have hne2 : ¬ (w.heap.size + 2 = nb) := by omega
            have hne3 : ¬ (nb + 1 = w.heap.size + 3) := by omega
            have hne4 : ¬ (w.heap.size + 3 = nb + 1) := by omega
            gi_wp2_with (gi_at_builtin; refine wpListIn_append_own _ rfl _ _ 23 rfl w.heap.size 41 i0 (.agg #[.int .u8 0, .string ⟨#[]⟩, .int .u32 0, .int .i64 0, .int .i64 0]) 5 48 Tryd.underlying23 hi hz0 hz1 hz2 rfl (by decide) ov (ts ++ tp).length (toksC (ts ++ tp)) rfl HRW.out ⟨W8.heap.size + 1, 0, none⟩ 1 1 [.int .u8 (kd : Int), .string ⟨tx.toArray⟩, .int .u32 (nm : Int), .int .i64 (ln : Int), .int .i64 ((at' : Int) + 1)] rfl rfl HNEW.out (by simp [Value.oneCell']) HBND.out.1 HBND.out.2 HLE.out ?_; intro v' w1 hown' hgrow hnil; have HGO := shid (RInv.app (t := ⟨kd, tx, nm, ln, at' + 1⟩) HZA.out HOVA.out HRW.out hown' hgrow); obtain ⟨g', cap', rfl⟩ := ownsRow_succ hown'; have hc1 := HGO.out.1.cell; have hf1 := HGO.out.1.frozen; have hc2 := (HGO.out.2.2 (nb + 1, 4, .bool (!pre.isEmpty)) (by simp)).cell; have hf2 := (HGO.out.2.2 (nb + 1, 4, .bool (!pre.isEmpty)) (by simp)).frozen; clear hown' hgrow hnil)
            have HF := (HGO.out.2.1.set (by simp; omega) (.bool true))
            simp only [List.length_append] at HF
            rw [show ts ++ tp ++ [(⟨kd, tx, nm, ln, at' + 1⟩ : Tok)] = ts ++ (tp ++ [⟨kd, tx, nm, ln, at' + 1⟩]) from List.append_assoc ..] at HF
            have HFP := HF.put (by simp; omega) (.loop (rec2 .ready none)) rfl
            refine ⟨(HF.rs (nb + 3, .loop (rec2 .busy none)) (by simp)).1, .inl ⟨rfl, (HJI.out _ _).2 ⟨_, HOK.out, HNC2.out, ?_⟩, ?_⟩⟩
            · rw [show (!(pre ++ [(at', c :: r)]).isEmpty) = true by cases pre <;> rfl]
              exact HFP
            · refine ⟨fun u hu => ?_, fun hu => (HFP.bx (nb + 2, 9, .string ⟨x.toArray⟩) (by simp)).1.frozen⟩
              have e1 := HLB.out.cell.symm.trans hu
              rw [← Option.some.inj e1]
              exact (HFP.bx (nb + 2, 9, .string ⟨x.toArray⟩) (by simp)).1.cell
end Go.Proofs.YthnfkecbgfcipaaDoor
