/- The walk of flat.New. -/
import Derived.Test.YtdefooailcbnlaaG34
import Derived.Test.YtdefooailcbnlaaG43
import Derived.Test.YtdefooailcbnlaaG19
namespace Go.Proofs.Ytdefooailcbnlaa
open Go.RowKit Go.Deep
set_option linter.unusedVariables false
set_option linter.unusedSimpArgs false
theorem infothr : (Try.prog.info? 84).map (fun i => (i.zero.map fun z => z.cells.size, i.size, i.bytes)) = some (some 1, 1, 24) := by kernel_rfl
theorem new_bad (w : World) (p : Prg) (pt : Option Addr) (ct : Nat) (pf : Option Addr) (cf : Nat) (cv : Value) (hT : IntsIn w (.slice pt p.threads.length ct) p.threads) (hF : FnsIn w (.slice pf p.funcs.length cf) p.funcs) (he : (checkS p).2.2 = 140) :
    Calls Try.prog 12 #[.agg #[.int .i64 p.heap, .slice pt p.threads.length ct, .slice pf p.funcs.length cf], cv] w fun e w' => e = .returned (.tuple #[.pointer none, .int .i64 140]) ∧ Below w.heap.size w w' := by
  have hb : Below w.heap.size w (w.alloc (.cells #[.int .i64 p.heap, .slice pt p.threads.length ct, .slice pf p.funcs.length cf] 25)) := (Below.refl _ _).alloc (Nat.le_refl _) _
  have HC := fhid (check_any p pt ct pf cf _ (IntsIn.keep hT hb) (FnsIn.keep hF hb))
  have hcv : checkV p = .tuple #[.agg #[.int .i64 (checkS p).1, .int .i64 (checkS p).2.1], .int .i64 140] := by unfold checkV; rw [he]
  rw [hcv] at HC
  have HB := fhid hb
  clear hb hcv hT hF
  go_enter Try.func12, Try.ntmps12
  go_wp2_with fail
  refine HC.out.mono ?_
  rintro e w1 ⟨rfl, hb1⟩
  have HB1 := fhid (HB.out.trans (hb1.mono HB.out.size))
  clear hb1
  go_wp2_with fail
  go_ret2
  exact ⟨rfl, HB1.out.alloc HB1.out.size _⟩
/-- A model whose first n threads were begun. -/
structure NewAt (w0 w : World) (p : Prg) (R : Nat → Role) (m hb : Nat) (pv fv chv tv : Value) (ch : List Int) (n : Nat) (vs : List Value) : Prop where
  ptr : w.heap[m]? = some (.cells #[.int .i64 p.heap, pv, fv, .slice (some ⟨hb, 0, none⟩) p.heap.toNat p.heap.toNat, .slice none 0 0, tv, .int .i64 0, chv, .int .u8 0, .int .u32 0] 62 (0, 0))
  rm : R m = .model
  rh : R hb = .heap
  rt : ∀ k, tv.ownBlock = some k → R k = .thr
  lt : ∀ k, R k ≠ .none → k < w.heap.size
  lo : ∀ k, R k ≠ .none → w0.heap.size ≤ k
  heap : RegsAt w hb (List.replicate p.heap.toNat 0)
  thr : w.ownsRow 0 84 1 tv n vs
  frs : ∀ (t : Nat) v x, vs[t]? = some v → p.threads[t]? = some x → FrsAt w R t v [frameOf p x.toNat []]
  fix : ∀ W : World, (∀ k, R k = .fixed → W.heap[k]? = w.heap[k]?) → IntsIn W pv p.threads ∧ FnsIn W fv p.funcs ∧ ChAt W chv ch
  below : Below w0.heap.size w0 w
theorem NewAt.keep {w0 w w' : World} {p : Prg} {R : Nat → Role} {m hb : Nat} {pv fv chv tv : Value} {ch : List Int} {n : Nat} {vs : List Value} (h : NewAt w0 w p R m hb pv fv chv tv ch n vs) (hbl : Below w.heap.size w w') : NewAt w0 w' p R m hb pv fv chv tv ch n vs := by
  have ob : ∀ k, R k ≠ .none → w'.heap[k]? = w.heap[k]? := fun k hk => hbl.block k (h.lt k hk)
  exact ⟨(ob m (by rw [h.rm]; simp)).trans h.ptr, h.rm, h.rh, h.rt, fun k hk => Nat.lt_of_lt_of_le (h.lt k hk) hbl.size, h.lo, h.heap.below hbl, h.thr.keepw (Only.of_below (S := fun _ => False) hbl) (fun _ _ h => h),
    fun t v x hv hx => (h.frs t v x hv hx).keep (C := fun _ => False) (Only.of_below hbl) (fun _ _ => rfl) (fun _ hf => hf.elim), fun W hW => h.fix W (fun k hk => (hW k hk).trans (ob k (by rw [hk]; simp))), h.below.trans (hbl.mono h.below.size)⟩
theorem NewAt.cell5 {w0 w : World} {p : Prg} {R : Nat → Role} {m hb : Nat} {pv fv chv tv : Value} {ch : List Int} {n : Nat} {vs : List Value} (h : NewAt w0 w p R m hb pv fv chv tv ch n vs) : w.cell? ⟨m, 5, none⟩ = some tv ∧ w.cell? ⟨m, 2, none⟩ = some fv ∧ w.frozen? ⟨m, 5, none⟩ = false :=
  ⟨cell_of_obj (i := 5) h.ptr, cell_of_obj (i := 2) h.ptr, free_of_obj h.ptr⟩
/-- A thread more. -/
theorem NewAt.step {w0 w wa w2 : World} {p : Prg} {R : Nat → Role} {m hb : Nat} {pv fv chv tv tv' : Value} {ch : List Int} {n : Nat} {vs : List Value} (h : NewAt w0 w p R m hb pv fv chv tv ch n vs) {x : Int} (hx : p.threads[n]? = some x) (hbl : Below w.heap.size w wa) {kn gq : Nat} (hkn : w.heap.size ≤ kn) (hgq : w.heap.size ≤ gq) (hne : kn ≠ gq)
    (hkr : RegsAt wa kn (frameOf p x.toNat []).regs) (hfr : wa.ownsRow 0 78 4 (.slice (some ⟨gq, 0, none⟩) 1 1) 1 (frC (frameOf p x.toNat [], kn))) (hown : w2.ownsRow 0 84 1 tv' (n + 1) (vs ++ [.slice (some ⟨gq, 0, none⟩) 1 1])) (hgr : wa.grownBy w2 tv.ownBlock) (hpl : tv'.ownBlock = tv.ownBlock ∨ ∀ k, tv'.ownBlock = some k → wa.heap.size ≤ k) :
    ∃ R', NewAt w0 (w2.setCell ⟨m, 5, none⟩ tv') p R' m hb pv fv chv tv' ch (n + 1) (vs ++ [.slice (some ⟨gq, 0, none⟩) 1 1]) := by
  have hbs := hbl.size
  have hgs := hgr.size
  have hml : m < w.heap.size := h.lt m (by rw [h.rm]; simp)
  have hknl := hkr.lt
  have hgql : gq < wa.heap.size := (hfr.lt gq rfl).2
  have hvl : vs.length = n := by have := h.thr.1; omega
  have hmt : some m ≠ tv.ownBlock := fun e => by have := h.rt m e.symm; rw [h.rm] at this; cases this
  have hmt' : tv'.ownBlock ≠ some m := fun e => by
    rcases hpl with h1 | h1
    · exact hmt (by rw [← h1, e])
    · have := h1 m e; omega
  have hset : Only (fun k => k = m) w2 (w2.setCell ⟨m, 5, none⟩ tv') := (Only.refl (fun k => k = m) w2).setCell (p := ⟨m, 5, none⟩) rfl _
  have hnew : ∀ k, tv'.ownBlock = some k → R k = .thr ∨ wa.heap.size ≤ k := fun k hk => by
    rcases hpl with h1 | h1
    · exact .inl (h.rt k (by rw [← h1]; exact hk))
    · exact .inr (h1 k hk)
  have hRk : ∀ k, R k ≠ .none → k ≠ gq ∧ k ≠ kn ∧ (tv'.ownBlock = some k → R k = .thr) := fun k hk => by
    have := h.lt k hk
    refine ⟨by omega, by omega, fun e => ?_⟩
    rcases hnew k e with h1 | h1
    · exact h1
    · omega
  have hbk : ∀ k, R k ≠ .none → R k ≠ .thr → R k ≠ .model → (w2.setCell ⟨m, 5, none⟩ tv').heap[k]? = w.heap[k]? := fun k hk h1 h2 => by
    have hl := h.lt k hk
    have hkm : k ≠ m := fun e => h2 (by rw [e]; exact h.rm)
    have hkt : some k ≠ tv.ownBlock := fun e => h1 (h.rt k e.symm)
    exact ((hset.block k (by omega) hkm).trans (hgr.block k (by omega) hkt)).trans (hbl.block k hl)
  have hgqm : gq ≠ m := by omega
  have hknm : kn ≠ m := by omega
  have hgqt : some gq ≠ tv.ownBlock := fun e => by have := h.lt gq (by rw [h.rt gq e.symm]; simp); omega
  have hknt : some kn ≠ tv.ownBlock := fun e => by have := h.lt kn (by rw [h.rt kn e.symm]; simp); omega
  have hgqt' : tv'.ownBlock ≠ some gq := fun e => by
    rcases hnew gq e with h1 | h1
    · have := h.lt gq (by rw [h1]; simp); omega
    · omega
  have hknt' : tv'.ownBlock ≠ some kn := fun e => by
    rcases hnew kn e with h1 | h1
    · have := h.lt kn (by rw [h1]; simp); omega
    · omega
  have hR' : ∀ k, R k ≠ .none → (if tv'.ownBlock = some k then Role.thr else if k = gq then Role.frs n else if k = kn then Role.regs n 0 else R k) = R k := fun k hk => by
    obtain ⟨h1, h2, h3⟩ := hRk k hk
    split
    · rename_i e; exact (h3 e).symm
    · first | rfl | rw [if_neg h1, if_neg h2]
  have hpm : w2.heap[m]? = w.heap[m]? := (hgr.block m (by omega) hmt).trans (hbl.block m hml)
  have hobj := obj_setCell (hpm.trans h.ptr) (i := 5) tv'
  have hs9 := hset.size
  refine ⟨fun k => if tv'.ownBlock = some k then Role.thr else if k = gq then Role.frs n else if k = kn then Role.regs n 0 else R k, ?_, (hR' m (by rw [h.rm]; simp)).trans h.rm, (hR' hb (by rw [h.rh]; simp)).trans h.rh, fun k hk => if_pos hk, fun k hk => ?_, fun k hk => ?_, h.heap.of_block (hbk hb (by rw [h.rh]; simp) (by rw [h.rh]; simp) (by rw [h.rh]; simp)), ?_, fun t v y hv hy => ?_, fun W hW => ?_, ?_⟩
  · rw [hobj]; simp
  · by_cases e1 : tv'.ownBlock = some k
    · exact Nat.lt_of_lt_of_le (hown.lt k e1).2 hs9
    · rw [if_neg e1] at hk
      by_cases e2 : k = gq
      · omega
      · rw [if_neg e2] at hk
        by_cases e3 : k = kn
        · omega
        · rw [if_neg e3] at hk
          have := h.lt k hk; omega
  · have hwl := h.below.size
    by_cases e1 : tv'.ownBlock = some k
    · rcases hnew k e1 with h1 | h1
      · exact h.lo k (by rw [h1]; simp)
      · omega
    · rw [if_neg e1] at hk
      by_cases e2 : k = gq
      · omega
      · rw [if_neg e2] at hk
        by_cases e3 : k = kn
        · omega
        · rw [if_neg e3] at hk
          exact h.lo k hk
  · exact hown.keepw hset (fun k hk e => by have e' : k = m := e; rw [e'] at hk; exact hmt' hk)
  · rcases Nat.lt_or_ge t n with ht | ht
    · rw [List.getElem?_append_left (by omega)] at hv
      refine (h.frs t v y hv hy).keep (C := fun k => R k = .thr ∨ R k = .model ∨ w.heap.size ≤ k) ⟨hset.os.trans (hgr.os.trans hbl.os), hset.tape.trans (hgr.tape.trans hbl.tape), hset.output.trans (hgr.output.trans hbl.output), by omega, fun k hk hn => ?_⟩ hR' (fun k hk => ?_)
      · have hkm : k ≠ m := fun e => hn (.inr (.inl (by rw [e]; exact h.rm)))
        have hkt : some k ≠ tv.ownBlock := fun e => hn (.inl (h.rt k e.symm))
        exact ((hset.block k (by omega) hkm).trans (hgr.block k (by omega) hkt)).trans (hbl.block k hk)
      · rcases hk with e | e | e
        · rw [e]; simp
        · rw [e]; simp
        · have : R k = .none := by
            cases hq : R k with
            | none => rfl
            | _ => exact absurd (h.lt k (by rw [hq]; simp)) (by omega)
          rw [this]; simp
    · rw [List.getElem?_append_right (by omega)] at hv
      obtain rfl : t = n := by
        rcases Nat.lt_or_ge (t - vs.length) 1 with h1 | h1
        · omega
        · rw [List.getElem?_eq_none (by simpa using h1)] at hv; cases hv
      rw [hvl, Nat.sub_self] at hv
      simp only [List.getElem?_cons_zero, Option.some.injEq] at hv
      subst hv
      rw [hx] at hy
      cases hy
      refine ⟨⟨gq, 1, [(frameOf p x.toNat [], kn)], rfl, ?_, rfl, ?_, fun j y hj => ?_⟩⟩
      · show (if tv'.ownBlock = some gq then Role.thr else if gq = gq then Role.frs t else _) = _
        rw [if_neg hgqt', if_pos rfl]
      · have h1 := hfr.kept hgr (.inr (fun e => hgqt (by rw [← e]; rfl)))
        have h2 := h1.keepw hset (fun k hk e => by have e' : k = m := e; simp [Value.ownBlock] at hk; omega)
        simpa using h2
      · match j, hj with
        | 0, hj =>
          simp only [List.getElem?_cons_zero, Option.some.injEq] at hj
          subst hj
          refine ⟨?_, (hkr.of_block (hgr.block kn (by omega) hknt)).of_block (hset.block kn (by omega) hknm)⟩
          show (if tv'.ownBlock = some kn then Role.thr else if kn = gq then Role.frs t else if kn = kn then Role.regs t 0 else R kn) = _
          rw [if_neg hknt', if_neg hne, if_pos rfl]
  · refine h.fix W (fun k hk => ?_)
    have hk0 : R k ≠ .none := by rw [hk]; simp
    exact (hW k ((hR' k hk0).trans hk)).trans (hbk k hk0 (by rw [hk]; simp) (by rw [hk]; simp))
  · refine ((h.below.trans (hbl.mono h.below.size)).grown hgr (by have := h.below.size; omega) (fun k hk => h.lo k (by rw [h.rt k hk]; simp))).trans (hset.below (by have := h.below.size; omega) (fun k hk e => ?_))
    have e' : k = m := e
    have := h.lo m (by rw [h.rm]; simp)
    omega
/-- All threads were begun. -/
theorem NewAt.fin {w0 w : World} {p : Prg} (hg : Good p) {R : Nat → Role} {m hb : Nat} {pv fv chv tv : Value} {ch : List Int} {vs : List Value} (h : NewAt w0 w p R m hb pv fv chv tv ch p.threads.length vs) : ∃ G, MdlAt w p G m (newS p ch) ∧ ∀ k, G.R k ≠ .none → w0.heap.size ≤ k := by
  have hnt := hg.nt
  have hvl : vs.length = p.threads.length := by have := h.thr.1; omega
  obtain ⟨hh0, hh1⟩ := hg.heap
  rcases h.thr.2 with ⟨_, h1⟩ | ⟨tb, tc, cur, he, _, htb, hle, _, hsz, htake⟩
  · omega
  · refine ⟨{ R := R, hb := hb, tb := tb, tc := tc, pv := pv, fv := fv, outv := .slice none 0 0, chv := chv, vs := vs }, ⟨?_, h.rm, h.rh, h.rt tb (by rw [he]; rfl), fun k hk => by simp [Value.ownBlock] at hk, h.lt, h.heap, World.ownsRow_nil _ _ _ _, ⟨cur, htb, fun k x hx => ?_⟩, by simp [newS, hvl], fun t v l hv hl => ?_, h.fix⟩, h.lo⟩
    · have := h.ptr
      rw [he] at this
      simpa [newS] using this
    · rw [← htake, List.getElem?_take] at hx
      split at hx
      · rw [← Array.getElem?_toList]; exact hx
      · cases hx
    · have hl' : (p.threads.map fun t => [frameOf p t.toNat []])[t]? = some l := hl
      rw [List.getElem?_map] at hl'
      cases hq : p.threads[t]? with
      | none => rw [hq] at hl'; cases hl'
      | some x =>
        rw [hq] at hl'
        obtain rfl : [frameOf p x.toNat []] = l := by simpa using hl'
        exact h.frs t v x hv hq
end Go.Proofs.Ytdefooailcbnlaa
