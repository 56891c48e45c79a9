/- Several texts in one: SwapAlike, SwapDoc, SwapState. -/
import Derived.Test.YtajholbcpmjhiaaGreatDoorH45
set_option linter.unusedVariables false
set_option linter.unusedSimpArgs false
/- Plain law: a turn of swap is what the document says. No program in sight. -/
namespace Go.Proofs.YtajholbcpmjhiaaGreatDoor
open Go.RowKit
theorem span_word {n a : Nat} (h : a % 4 = 0) (h2 : a + 4 ≤ n) : spanE n a 1 4 = 0 := by
  have := spanE_row n a 1 h (by omega)
  exact this
theorem storeV_of {d : List Int} {a : Int} {b : Nat} (x : Int) (e : a = b) (h : b % 4 = 0) (h2 : b + 4 ≤ d.length) : storeV d a 4 x = storeS d b 4 x := by
  subst e; unfold storeV; rw [if_pos (span_word h h2), Int.toNat_natCast]; rfl
theorem word10_of {q : W8} {a : Int} {b : Nat} (e : a = b) (h : b % 4 = 0) (h2 : b + 4 ≤ q.mem.length) : word10 q a = loadS q.mem b 4 := by
  subst e; unfold word10 loadV; rw [if_pos (span_word h h2), Int.toNat_natCast]; rfl
theorem lay10_mem {q : W8} {a : Int} {b : Nat} (x : Int) (e : a = b) (h : b % 4 = 0) (h2 : b + 4 ≤ q.mem.length) : (lay10 q a x).mem = storeS q.mem b 4 x := storeV_of x e h h2
theorem rows_same {a b : List Int} {n : Nat} (ha : a.length = 16 * n) (hb : b.length = 16 * n) (h : ∀ w, w < n → (a.drop (16 * w)).take 16 = (b.drop (16 * w)).take 16) : a = b := by
  refine List.ext_getElem? fun i => ?_
  rcases Nat.lt_or_ge i (16 * n) with hi | hi
  · have e := h (i / 16) (by omega)
    have e2 := congrArg (fun l => l[i % 16]?) e
    simp only [List.getElem?_take_of_lt (Nat.mod_lt i (by decide : 16 > 0)), List.getElem?_drop] at e2
    rw [show 16 * (i / 16) + i % 16 = i by omega] at e2
    exact e2
  · rw [List.getElem?_eq_none (by omega), List.getElem?_eq_none (by omega)]
theorem FZero.same {f g : Fx} (h : FZero f g) (hf : f.ok) (hg : g.ok) : f.win = g.win := by
  have e := h.nw
  refine rows_same (n := g.nw) (by rw [hf.wl, e]) hg.wl fun w hw => h.win w hw
def liveF (al : Nat → Nat) : Nat → Nat → List Int
  | 0, _ => []
  | f + 1, t => (if al t = 1 then [(t : Int)] else []) ++ liveF al f (t + 1)
theorem liveF_snoc (al : Nat → Nat) : ∀ f t, liveF al (f + 1) t = liveF al f t ++ (if al (t + f) = 1 then [((t + f : Nat) : Int)] else [])
  | 0, t => by simp [liveF]
  | f + 1, t => by
    show (if al t = 1 then [(t : Int)] else []) ++ liveF al (f + 1) (t + 1) = _
    rw [liveF_snoc al f (t + 1)]
    show _ = (if al t = 1 then [(t : Int)] else []) ++ liveF al f (t + 1) ++ _
    rw [List.append_assoc, show t + 1 + f = t + (f + 1) by omega]
theorem liveF_len (al : Nat → Nat) (h : ∀ t, al t ≤ 1) : ∀ f t, (liveF al f t).length = cntL al f t
  | 0, t => rfl
  | f + 1, t => by
    have := h t
    show ((if al t = 1 then [(t : Int)] else []) ++ liveF al f (t + 1)).length = al t + cntL al f (t + 1)
    rw [List.length_append, liveF_len al h f (t + 1)]
    split
    · rename_i e; rw [e]; rfl
    · have : al t = 0 := by omega
      rw [this]; rfl
theorem liveF_get (al : Nat → Nat) (h : ∀ t, al t ≤ 1) : ∀ f t r, r < cntL al f t → (liveF al f t).getD r 0 = (seekL al f t r : Nat)
  | 0, t, r, hr => absurd hr (by unfold cntL; omega)
  | f + 1, t, r, hr => by
    have h1 := h t
    unfold cntL at hr
    unfold liveF seekL
    by_cases e : al t = 1
    · rw [if_pos e, if_pos e]
      cases r with
      | zero => rfl
      | succ r =>
        rw [if_neg (by omega)]
        show (liveF al f (t + 1)).getD r 0 = _
        exact liveF_get al h f (t + 1) r (by omega)
    · rw [if_neg e, if_neg e, List.nil_append]
      exact liveF_get al h f (t + 1) r (by omega)
theorem live10_F {q : W8} {al : Nat → Nat} (h : ∀ t, al t ≤ 1) {T : Nat} (hw : ∀ t : Nat, t < T → word10 q (64 + 16 * (t : Int) + 12) = (al t : Int)) : ∀ k, k ≤ T → live10 q k = liveF al k 0
  | 0, _ => rfl
  | k + 1, hk => by
    rw [liveF_snoc, Nat.zero_add]
    show live10 q k ++ _ = _
    rw [live10_F h hw k (by omega), hw k (by omega)]
    have := h k
    by_cases e : al k = 1
    · rw [if_pos e, e, if_pos (by rfl)]
    · rw [if_neg e, if_neg (by omega)]
theorem frame_at {m : Mx} (hok : m.ok) (hfr : FramesW m.f.win m.f.nw 8192) {f : Fx} (hz : FZero f m.f) (hf : f.ok) {w : Nat} (hw : w < m.f.nw) {q : W8} (e : q.f = f) : frame8 q w = (frW m.f.win m.f.nw w : Int) := by
  have hn2 := hok.f.nw2
  unfold frame8
  rw [e, getV_out (by rw [hz.nw]; exact hn2) (by rw [hz.nw]; exact hw), hz.nw, hz.same hf hok.f]
  exact (hfr.at hw).1
theorem flush10_mem {m : Mx} (hok : m.ok) (hlen : m.mem.length = 8192) (hfr : FramesW m.f.win m.f.nw 8192) {q : W8} (hz : FZero q.f m.f) (hf : q.f.ok) (hm : q.mem = m.mem) {cw : Nat} (hc : q.cwp = (cw : Int)) :
    ∀ k, (flush10 q k).mem = flushS m.f.win m.f.nw cw k m.mem ∧ can8 (flush10 q k) ((q.cwp + (k : Int)) % q.f.nw) = true := by
  have hn2 := hok.f.nw2
  have hidx : ∀ k : Nat, (q.cwp + (k : Int)) % q.f.nw = (((cw + k) % m.f.nw : Nat) : Int) := fun k => by rw [hc, hz.nw, Int.natCast_emod, Int.natCast_add]
  have hlt : ∀ k, (cw + k) % m.f.nw < m.f.nw := fun k => Nat.mod_lt _ (by omega)
  have hcan : ∀ k, (flush10 q k).mem.length = 8192 → can8 (flush10 q k) ((q.cwp + (k : Int)) % q.f.nw) = true := fun k hl => by
    unfold can8
    rw [hidx, frame_at hok hfr hz hf (hlt k) (flush10_f q k).1, hl]
    obtain ⟨-, h2, h3, h4⟩ := hfr.at (hlt k)
    exact decide_eq_true (spanE_row 8192 _ 16 h3 (by omega))
  intro k
  induction k with
  | zero => exact ⟨hm, hcan 0 (by show q.mem.length = _; rw [hm, hlen])⟩
  | succ k ih =>
    have e : (flush10 q (k + 1)).mem = flushS m.f.win m.f.nw cw (k + 1) m.mem := by
      show putV (flush10 q k).mem (frame8 (flush10 q k) ((q.cwp + (k : Int)) % q.f.nw)) (winV (flush10 q k).f ((q.cwp + (k : Int)) % q.f.nw)) = putS (flushS m.f.win m.f.nw cw k m.mem) (frW m.f.win m.f.nw ((cw + k) % m.f.nw)) (rowW m.f.win ((cw + k) % m.f.nw))
      obtain ⟨-, h2, h3, h4⟩ := hfr.at (hlt k)
      have hr : winV q.f (((cw + k) % m.f.nw : Nat) : Int) = rowW m.f.win ((cw + k) % m.f.nw) := by
        rw [winV_nat (by rw [hz.nw]; exact hlt k), hz.win _ (hlt k)]; rfl
      rw [hidx, frame_at hok hfr hz hf (hlt k) (flush10_f q k).1, (flush10_f q k).1, hr, ih.1]
      have hrl : (rowW m.f.win ((cw + k) % m.f.nw)).length = 16 := winR_len hok.f (hlt k)
      unfold putV
      rw [hrl, flushS_len, hlen, if_pos (spanE_row 8192 _ 16 h3 (by omega)), Int.toNat_natCast]
    exact ⟨e, hcan (k + 1) (by rw [e, flushS_len, hlen])⟩
def half10 (x : CaseS) (q : W8) : W8 := if x.en then end10 q x.runs.toNat else yield10 q (nS x) x.runs.toNat 1540
theorem half10_f (x : CaseS) (q : W8) : (half10 x q).f = q.f ∧ (half10 x q).cwp = q.cwp ∧ (half10 x q).inv = q.inv := by
  unfold half10; split
  · exact ⟨rfl, rfl, rfl⟩
  · exact flush10_f q (nS x)
structure AtQ (x : CaseS) (m : Mx) (q : W8) : Prop where
  made : MadeS x m
  may : mayS x
  ch : 0 ≤ x.choice ∧ x.choice < 4294967296
  st : ∀ t, 0 ≤ x.stacks t ∧ x.stacks t < 65536
  ok : m.ok
  z : FZero q.f m.f
  f : q.f.ok
  mem : q.mem = m.mem
  cwp : q.cwp = x.cwp
  inv : q.inv = x.inv
theorem AtQ.trap {x : CaseS} {m : Mx} {q : W8} (h : AtQ x m q) : AtTrap m x.cwp.toNat x.inv.toNat (nS x) x.pil x.flags x.runs.toNat x.threads.toNat x.choice.toNat (alN x) x.en := h.made.trap h.may h.ch h.ok
theorem AtQ.cw {x : CaseS} {m : Mx} {q : W8} (h : AtQ x m q) : q.cwp = ((x.cwp.toNat : Nat) : Int) := by
  rw [h.cwp]; exact (Int.toNat_of_nonneg h.may.2.1.1).symm
theorem AtQ.num {x : CaseS} {m : Mx} {q : W8} (h : AtQ x m q) : nS x = ((q.inv - q.cwp) % (q.f.nw : Int)).toNat := by
  unfold nS; rw [h.inv, h.cwp, h.z.nw, h.made.nw]
theorem AtQ.can {x : CaseS} {m : Mx} {q : W8} (h : AtQ x m q) (k : Nat) : can8 (flush10 q k) ((q.cwp + (k : Int)) % q.f.nw) = true :=
  (flush10_mem h.ok h.trap.len h.trap.fr h.z h.f h.mem h.cw k).2
theorem AtQ.cur {x : CaseS} {m : Mx} {q : W8} (h : AtQ x m q) : word10 q 128 = (x.runs.toNat : Int) := by
  rw [word10_of (a := 128) (b := 128) rfl (by decide) (by rw [h.mem, h.trap.len]; decide), h.mem]; exact h.trap.curL
theorem AtQ.fr2 {x : CaseS} {m : Mx} {q : W8} (h : AtQ x m q) (k : Nat) : 2048 ≤ frW m.f.win m.f.nw ((x.cwp.toNat + k) % m.f.nw) :=
  (h.trap.fr.at (Nat.mod_lt _ (by have := h.ok.f.nw2; omega))).2.1
theorem AtQ.curF {x : CaseS} {m : Mx} {q : W8} (h : AtQ x m q) (k : Nat) : word10 (flush10 q k) 128 = (x.runs.toNat : Int) := by
  have e := (flush10_mem h.ok h.trap.len h.trap.fr h.z h.f h.mem h.cw k).1
  rw [word10_of (a := 128) (b := 128) rfl (by decide) (by rw [e, flushS_len, h.trap.len]; decide), e, load_flush (by decide) h.fr2]; exact h.trap.curL
theorem AtQ.half {x : CaseS} {m : Mx} {q : W8} (h : AtQ x m q) : (half10 x q).mem = halfS m x.cwp.toNat (nS x) x.runs.toNat x.en := by
  have hl := h.trap.len
  have hc := h.trap.cur4
  have hT := h.trap.T4
  unfold half10 halfS
  cases x.en
  · simp only [Bool.false_eq_true, if_false]
    have e := (flush10_mem h.ok h.trap.len h.trap.fr h.z h.f h.mem h.cw (nS x)).1
    unfold yield10 keepS
    have l1 : (flush10 q (nS x)).mem.length = 8192 := by rw [e, flushS_len, hl]
    have e1 := lay10_mem (q := flush10 q (nS x)) (a := 64 + 16 * (x.runs.toNat : Int)) (b := 16 * x.runs.toNat + 64) 1540 (by omega) (by omega) (by omega)
    rw [lay10_mem (b := 16 * x.runs.toNat + 68) _ (by omega) (by omega) (by rw [e1, storeS_len]; omega), e1, e]
    rw [h.cw, frame_at h.ok h.trap.fr h.z h.f h.trap.cwL rfl]
  · simp only [if_true]
    unfold end10
    rw [lay10_mem (b := 16 * x.runs.toNat + 76) _ (by omega) (by omega) (by rw [h.mem]; omega), h.mem]
theorem AtQ.tcb {x : CaseS} {m : Mx} {q : W8} (h : AtQ x m q) : (half10 x q).mem.length = 8192 ∧ Tcb (half10 x q).mem x.threads.toNat (alE (alN x) x.runs.toNat x.en) := by
  rw [h.half]; exact half_tcb h.trap
theorem AtQ.th {x : CaseS} {m : Mx} {q : W8} (h : AtQ x m q) : word10 (half10 x q) 132 = (x.threads.toNat : Int) := by
  rw [word10_of (a := 132) (b := 132) rfl (by decide) (by rw [h.tcb.1]; decide)]; exact h.tcb.2.th
theorem AtQ.live {x : CaseS} {m : Mx} {q : W8} (h : AtQ x m q) : live10 (half10 x q) x.threads.toNat = liveF (alE (alN x) x.runs.toNat x.en) x.threads.toNat 0 := by
  obtain ⟨hl, htcb⟩ := h.tcb
  have hT := h.trap.T4
  refine live10_F htcb.one (fun t ht => ?_) _ (Nat.le_refl _)
  rw [word10_of (b := 16 * t + 76) (by omega) (by omega) (by omega)]
  exact htcb.av t ht
theorem AtQ.count {x : CaseS} {m : Mx} {q : W8} (h : AtQ x m q) : (live10 (half10 x q) x.threads.toNat).length = liveS x := by
  rw [h.live, liveF_len _ h.tcb.2.one]; rfl
theorem AtQ.pick {x : CaseS} {m : Mx} {q : W8} (h : AtQ x m q) (hl : 0 < liveS x) : (live10 (half10 x q) x.threads.toNat).getD (x.choice.toNat % (live10 (half10 x q) x.threads.toNat).length) 0 = (nextT x : Int) := by
  rw [h.count, h.live]
  exact liveF_get _ h.tcb.2.one _ _ _ (Nat.mod_lt _ hl)
theorem AtQ.next4 {x : CaseS} {m : Mx} {q : W8} (h : AtQ x m q) (hl : 0 < liveS x) : nextT x < x.threads.toNat ∧ nextT x < 4 := by
  have htl := seek_lt (alE (alN x) x.runs.toNat x.en) x.threads.toNat 0 _ (Nat.mod_lt x.choice.toNat hl) h.tcb.2.one
  have hT := h.trap.T4
  have : nextT x < x.threads.toNat := by have := htl.1; unfold nextT liveS; omega
  exact ⟨this, by omega⟩
theorem half_own {x : CaseS} {m : Mx} {q : W8} (h : AtQ x m q) (hl : 0 < liveS x) : loadS (halfS m x.cwp.toNat (nS x) x.runs.toNat x.en) (16 * nextT x + 64) 4 = (pcS x (nextT x) : Nat) ∧ loadS (halfS m x.cwp.toNat (nS x) x.runs.toNat x.en) (16 * nextT x + 68) 4 = (spS x m (nextT x) : Nat) := by
  have ha := h.trap
  obtain ⟨hl8, htcb⟩ := half_tcb ha
  have hT4 := ha.T4
  have hc4 := ha.cur4
  have hlen := ha.len
  have hfr := h.fr2
  obtain ⟨f1, f2, f3, f4⟩ := ha.fr.at ha.cwL
  obtain ⟨ht, ht4⟩ := h.next4 hl
  obtain ⟨w1, w2, w3, w4⟩ := h.made.mem.tcb (nextT x) ht4
  have hfb := h.st (nextT x)
  have hfx : 2048 ≤ (frmX (x.stacks (nextT x))).toNat ∧ (frmX (x.stacks (nextT x))).toNat % 4 = 0 ∧ (frmX (x.stacks (nextT x))).toNat + 64 ≤ 8192 ∧ (((frmX (x.stacks (nextT x))).toNat : Nat) : Int) = frmX (x.stacks (nextT x)) := by unfold frmX; omega
  unfold halfS pcS spS keepS
  cases x.en
  · simp only [Bool.false_eq_true, if_false, true_and]
    by_cases e : nextT x = x.runs.toNat
    · rw [if_pos e, if_pos e, e]
      refine ⟨?_, ?_⟩
      · rw [load_far _ (by omega), load_own (by decide) (by rw [flushS_len]; omega)]; rfl
      · rw [load_own ⟨by omega, by omega⟩ (by rw [storeS_len, flushS_len]; omega)]
    · rw [if_neg e, if_neg e]
      refine ⟨?_, ?_⟩
      · rw [load_far _ (by omega), load_far _ (by omega), load_flush (by omega) hfr, w1]; omega
      · rw [load_far _ (by omega), load_far _ (by omega), load_flush (by omega) hfr, w2, hfx.2.2.2]
  · simp only [if_true, Bool.true_eq_false, false_and, if_false]
    refine ⟨?_, ?_⟩
    · rw [load_far _ (by omega), w1]; omega
    · rw [load_far _ (by omega), w2, hfx.2.2.2]
theorem nextC_mem (q : W8) (t : Nat) : (nextC q t).mem = (nextA q t).mem := by simp only [nextC, nextB]
theorem nextD_f (q : W8) (t : Nat) : (nextD q t).f = setsF (nextC q t).f q.cwp (wordsS (nextC q t).mem (frame8 (nextC q t) q.cwp).toNat 16) 16 := by simp only [nextD, load8, nextC, nextB, nextA, lay10]
theorem nextD_mem (q : W8) (t : Nat) : (nextD q t).mem = (nextA q t).mem := by simp only [nextD, load8, nextC, nextB]
theorem nextD_cwp (q : W8) (t : Nat) : (nextD q t).cwp = q.cwp := by simp only [nextD, load8, nextC, nextB, nextA, lay10]
theorem nextD_inv (q : W8) (t : Nat) : (nextD q t).inv = stepV q.cwp 1 q.f.nw := by simp only [nextD, load8, nextC]
theorem nextC_f (q : W8) (t : Nat) : (nextC q t).f = setV q.f q.cwp 0 14 (word10 (nextA q t) (64 + 16 * (t : Int) + 4)) := by simp only [nextC, nextB]
theorem nextA_mem {q : W8} {t : Nat} (ht : t < 4) (hl : q.mem.length = 8192) : (nextA q t).mem = nextS q.mem t := by
  unfold nextA nextS
  have e1 := lay10_mem (q := q) (a := 128) (b := 128) (t : Int) rfl (by decide) (by omega)
  rw [lay10_mem (a := 136) (b := 136) _ rfl (by decide) (by rw [e1, storeS_len]; omega), e1, word10_of (b := 16 * t + 72) (by omega) (by omega) (by omega), load_far _ (by omega)]
theorem AtQ.nextMem {x : CaseS} {m : Mx} {q : W8} (h : AtQ x m q) (hl : 0 < liveS x) : (nextA (half10 x q) (nextT x)).mem = nextS (halfS m x.cwp.toNat (nS x) x.runs.toNat x.en) (nextT x) := by
  rw [nextA_mem (h.next4 hl).2 h.tcb.1, h.half]
theorem AtQ.words {x : CaseS} {m : Mx} {q : W8} (h : AtQ x m q) (hl : 0 < liveS x) : word10 (nextA (half10 x q) (nextT x)) (64 + 16 * (nextT x : Int)) = (pcS x (nextT x) : Nat) ∧ word10 (nextA (half10 x q) (nextT x)) (64 + 16 * (nextT x : Int) + 4) = (spS x m (nextT x) : Nat) := by
  have ht4 := (h.next4 hl).2
  have hm := h.nextMem hl
  obtain ⟨o1, o2⟩ := half_own h hl
  have hlen : (nextA (half10 x q) (nextT x)).mem.length = 8192 := by rw [hm, nextS_len]; exact (half_tcb h.trap).1
  refine ⟨?_, ?_⟩
  · rw [word10_of (b := 16 * nextT x + 64) (by omega) (by omega) (by omega), hm, ← o1]
    unfold nextS; rw [load_far _ (by omega), load_far _ (by omega)]
  · rw [word10_of (b := 16 * nextT x + 68) (by omega) (by omega) (by omega), hm, ← o2]
    unfold nextS; rw [load_far _ (by omega), load_far _ (by omega)]
theorem AtQ.nextF {x : CaseS} {m : Mx} {q : W8} (h : AtQ x m q) (hl : 0 < liveS x) : (nextC (half10 x q) (nextT x)).f = ⟨q.f.nw, q.f.win.set (16 * ((x.cwp.toNat + m.f.nw - 1) % m.f.nw) + 14) (spS x m (nextT x) : Nat), q.f.glo⟩ := by
  have hcw := h.trap.cwL
  have e := h.z.nw
  rw [nextC_f, (h.words hl).2, (half10_f x q).1, (half10_f x q).2.1, h.cw]
  unfold setV
  rw [if_pos (show regOk q.f ((x.cwp.toNat : Nat) : Int) 0 14 from ⟨⟨by omega, by omega⟩, by omega, by omega, by omega⟩), Int.toNat_natCast]
  unfold setF
  rw [if_neg (by decide), if_neg (by decide), if_pos (by decide)]
  show Fx.mk q.f.nw (q.f.win.set (16 * ((x.cwp.toNat + q.f.nw - 1) % q.f.nw) + 14) _) q.f.glo = _
  rw [e]
theorem AtQ.spB {x : CaseS} {m : Mx} {q : W8} (h : AtQ x m q) : 2048 ≤ spS x m (nextT x) ∧ spS x m (nextT x) % 4 = 0 ∧ spS x m (nextT x) + 64 ≤ 8192 := by
  obtain ⟨f1, f2, f3, f4⟩ := h.trap.fr.at h.trap.cwL
  have hfb := h.st (nextT x)
  unfold spS frmX
  split
  · exact ⟨f2, f3, f4⟩
  · omega
theorem AtQ.nextFrame {x : CaseS} {m : Mx} {q : W8} (h : AtQ x m q) (hl : 0 < liveS x) : frame8 (nextC (half10 x q) (nextT x)) (half10 x q).cwp = (spS x m (nextT x) : Nat) := by
  have hcw := h.trap.cwL
  have e := h.z.nw
  have hn2 := h.ok.f.nw2
  have hwl := h.f.wl
  have hlt : (x.cwp.toNat + m.f.nw - 1) % m.f.nw < m.f.nw := Nat.mod_lt _ (by omega)
  unfold frame8
  rw [h.nextF hl, (half10_f x q).2.1, h.cw]
  refine (getV_out (f := ⟨q.f.nw, q.f.win.set (16 * ((x.cwp.toNat + m.f.nw - 1) % m.f.nw) + 14) (spS x m (nextT x) : Nat), q.f.glo⟩) (show 2 ≤ q.f.nw by omega) (show x.cwp.toNat < q.f.nw by omega)).trans ?_
  show (q.f.win.set (16 * ((x.cwp.toNat + m.f.nw - 1) % m.f.nw) + 14) _).getD (16 * ((x.cwp.toNat + q.f.nw - 1) % q.f.nw) + 14) 0 = _
  rw [e, List.getD_eq_getElem?_getD, List.getElem?_set_self (by omega)]
  rfl
theorem AtQ.span {x : CaseS} {m : Mx} {q : W8} (h : AtQ x m q) (hl : 0 < liveS x) : spanE (nextC (half10 x q) (nextT x)).mem.length (frame8 (nextC (half10 x q) (nextT x)) (half10 x q).cwp) 16 4 = 0 := by
  obtain ⟨b1, b2, b3⟩ := h.spB
  have hlen : (nextC (half10 x q) (nextT x)).mem.length = 8192 := by
    rw [nextC_mem, h.nextMem hl, nextS_len]; exact (half_tcb h.trap).1
  rw [h.nextFrame hl, hlen]
  exact spanE_row 8192 _ 16 b2 (by omega)
theorem AtQ.alike {x : CaseS} {m : Mx} {q : W8} (h : AtQ x m q) (hl : 0 < liveS x) {m' : Mx} {pc : Int} (ha : AfterS m m' pc ((x.cwp.toNat + 1) % m.f.nw))
    (hw : m'.f.win = setW (m.f.win.set (16 * ((x.cwp.toNat + m.f.nw - 1) % m.f.nw) + 14) (spS x m (nextT x) : Nat)) x.cwp.toNat (wordsS (nextS (halfS m x.cwp.toNat (nS x) x.runs.toNat x.en) (nextT x)) (spS x m (nextT x)) 16))
    (hm : m'.mem = nextS (halfS m x.cwp.toNat (nS x) x.runs.toNat x.en) (nextT x)) {f2 : Fx} (h2 : FZero f2 m'.f) (hf2 : f2.ok) {kk : Int} (hk : kk = ((x.cwp.toNat + 1) % m.f.nw : Nat)) :
    Alike8 ⟨f2, m'.mem, m'.p.cwp, kk⟩ (nextD (half10 x q) (nextT x)) := by
  have hcw := h.trap.cwL
  have hn2 := h.ok.f.nw2
  have hn32 := h.ok.f.nw32
  have ez := h.z.nw
  have hmem := h.nextMem hl
  have hwin := h.z.same h.f h.ok.f
  have hFC := h.nextF hl
  generalize hws : wordsS (nextS (halfS m x.cwp.toNat (nS x) x.runs.toNat x.en) (nextT x)) (spS x m (nextT x)) 16 = l at *
  have hll : l.length = 16 := by rw [← hws]; unfold wordsS; simp
  have hsp := h.spB
  have hCok : (nextC (half10 x q) (nextT x)).f.ok := by
    rw [hFC]
    exact ⟨h.f.nw2, h.f.nw32, by rw [← h.f.wl]; exact List.length_set, h.f.gl, h.f.ww.set _ ⟨by omega, by omega⟩, h.f.gw⟩
  have hD : (nextD (half10 x q) (nextT x)).f = ⟨q.f.nw, setW (q.f.win.set (16 * ((x.cwp.toNat + m.f.nw - 1) % m.f.nw) + 14) (spS x m (nextT x) : Nat)) x.cwp.toNat l, q.f.glo⟩ := by
    rw [nextD_f, h.nextFrame hl, Int.toNat_natCast, nextC_mem, hmem, hws, (half10_f x q).2.1, h.cw, setsF_all hCok (by rw [hFC]; show x.cwp.toNat < q.f.nw; omega) hll, hFC]
  have hWE : (nextD (half10 x q) (nextT x)).f.win = m'.f.win := by rw [hD, hw, hwin]
  have hNE : (nextD (half10 x q) (nextT x)).f.nw = m'.f.nw := by rw [hD, ha.nw]; exact ez
  refine ⟨?_, ?_, ?_, ?_, ?_, ?_⟩
  · show f2.nw = _
    rw [h2.nw, hNE]
  · rw [nextD_cwp, (half10_f x q).2.1, h.cw]
    show m'.p.cwp = _
    rw [ha.p, h.trap.p]
  · rw [nextD_inv]
    show kk = _
    rw [hk, (half10_f x q).2.1, (half10_f x q).1, h.cw, ez, step_succ hn2 hn32 hcw]
  · rw [nextD_mem, hmem]
    exact hm
  · intro w hw'
    have hw1 : w < m'.f.nw := by have : w < f2.nw := hw'; rwa [h2.nw] at this
    show winV f2 w = _
    rw [winV_nat hw', h2.win w hw1, winV_nat (by rw [hNE]; exact hw1)]
    unfold winR; rw [hWE]
  · intro k r hk1 hr
    show getV f2 0 k r = _
    rw [h2.glo k r hk1 hr]
    have hDok : (nextD (half10 x q) (nextT x)).f.ok := by
      have hb : Words l := by
        rw [← hws, ← hm]; exact wordsS_words ha.ok.bytes _ _
      rw [nextD_f, h.nextFrame hl, Int.toNat_natCast, nextC_mem, hmem, hws]
      exact setsF_ok hCok _ hb 16
    have e := h.z.glo k r hk1 hr
    rw [getV_glob h.f (by omega) hr] at e
    rw [getV_glob hDok (by omega) hr, hD]
    exact e.symm
end Go.Proofs.YtajholbcpmjhiaaGreatDoor
/- The document's calls at a case of swap. -/
namespace Go.Proofs.YtajholbcpmjhiaaGreatDoor
open Go.RowKit
theorem half_end {x : CaseS} {m : Mx} {q : W8} (h : AtQ x m q) (he : x.en = true) (W : World) (v : Value) (hq : WAt W 700 v q) :
    Calls Tryz.prog 40 #[v] W fun e w' => ∃ v', e = .returned v' ∧ WAt w' 700 v' (half10 x q) ∧ Below W.heap.size W w' ∧ ∀ k, own8 v' k → own8 v k ∨ W.heap.size ≤ k := by
  have hT := h.trap.T4
  have hc := h.trap.cur4
  have e : half10 x q = end10 q x.runs.toNat := by unfold half10; rw [if_pos he]
  rw [e]
  exact r10_end W 700 v q hq x.runs.toNat (by omega) h.cur
theorem half_yield {x : CaseS} {m : Mx} {q : W8} (h : AtQ x m q) (he : x.en = false) (W : World) (v : Value) (hq : WAt W 700 v q) :
    Calls Tryz.prog 41 #[v, .int .u32 1540] W (Gives8 W 700 v (half10 x q) true) := by
  have hT := h.trap.T4
  have hc := h.trap.cur4
  have e : half10 x q = yield10 q (nS x) x.runs.toNat 1540 := by unfold half10; rw [if_neg (by rw [he]; decide)]
  rw [e]
  have hm := h.may
  have hn := h.made.nw
  have hz := h.z.nw
  exact r10_yield W 700 v q hq (by decide) (by rw [h.cwp, hz, hn]; exact hm.2.1) (by rw [h.inv, hz, hn]; exact hm.2.2.1) 1540 (by decide) (nS x) h.num (fun k _ => h.can k) x.runs.toNat (by omega) (h.curF (nS x))
theorem half_next {x : CaseS} {m : Mx} {q : W8} (h : AtQ x m q) (hl : 0 < liveS x) (W : World) (v : Value) (hq : WAt W 700 v (half10 x q)) :
    Calls Tryz.prog 42 #[v, .int .u32 x.choice] W fun e w' => ∃ v', e = .returned (.tuple #[v', .int .u32 ((pcS x (nextT x) : Nat) : Int), .bool true]) ∧ WAt w' 717 v' (nextD (half10 x q) (nextT x)) ∧ Below W.heap.size W w' ∧ ∀ k, own8 v' k → own8 v k ∨ W.heap.size ≤ k := by
  have hT := h.trap.T4
  have hch : ((x.choice.toNat : Nat) : Int) = x.choice := Int.toNat_of_nonneg h.ch.1
  have hcb := h.ch.2
  have hm := h.may
  have hn := h.made.nw
  have hz := h.z.nw
  have := r10_next W 700 v (half10 x q) hq (by decide) (by rw [(half10_f x q).2.1, (half10_f x q).1, h.cwp, hz, hn]; exact hm.2.1) x.threads.toNat hT.2 h.th x.choice.toNat (by omega) (by rw [h.count]; exact hl) (nextT x) (h.pick hl) (h.next4 hl).2 (h.span hl)
  rw [hch, (h.words hl).1] at this
  exact this
end Go.Proofs.YtajholbcpmjhiaaGreatDoor
/- The document's world under way, in a box beside the machine and its case. -/
namespace Go.Proofs.YtajholbcpmjhiaaGreatDoor
open Go.RowKit
structure SQ (w W2 wr : World) (G : MG) (M : Nat) (m : Mx) (b0 B N0 n : Nat) (cs : List Value) (q : W8) (p : Option Addr) (l c g cap : Nat) : Prop where
  mis : MIs W2 wr G M m
  box : ARow wr b0 76 cs
  own : ∀ k, own8 (q.agg (.slice p l c) g cap) k → N0 ≤ k ∧ k ≠ B
  row : ARow wr B 58 (q.cells (.slice p l c) g cap)
  at' : WAt wr n (q.agg (.slice p l c) g cap) q
  bel : Below w.heap.size w wr
  num : b0 < W2.heap.size ∧ w.heap.size ≤ W2.heap.size ∧ W2.heap.size ≤ N0 ∧ N0 ≤ B
  mach : ∀ k, G.R k ≠ .none → k < N0
section
variable {w W2 wr w' : World} {G G' : MG} {M : Nat} {m m' : Mx} {b0 B N0 n n' : Nat} {cs : List Value} {q q' : W8} {p p' : Option Addr} {l c g cap l' c' g' cap' : Nat}
theorem SQ.keep (h : SQ w W2 wr G M m b0 B N0 n cs q p l c g cap) (hb : Below wr.heap.size wr w') : SQ w W2 w' G M m b0 B N0 n cs q p l c g cap :=
  ⟨h.mis.keepb hb, h.box.below hb, h.own, h.row.below hb, h.at'.keep hb, h.bel.trans (hb.mono h.bel.size), h.num, h.mach⟩
theorem SQ.put (h : SQ w W2 wr G M m b0 B N0 n cs q p l c g cap) (hb : Below wr.heap.size wr w') (hq : WAt w' n' (q'.agg (.slice p' l' c') g' cap') q') (ho : ∀ k, own8 (q'.agg (.slice p' l' c') g' cap') k → own8 (q.agg (.slice p l c) g cap) k ∨ wr.heap.size ≤ k) :
    SQ w W2 (cp5 w' B (.int .i64 q'.f.nw) (.slice p' l' c') (.slice (some ⟨g', 0, none⟩) q'.mem.length cap') (.int .i64 q'.cwp) (.int .i64 q'.inv)) G M m b0 B N0 n' cs q' p' l' c' g' cap' := by
  obtain ⟨n1, n2, n3, n4⟩ := h.num
  have hlt := h.row.lt
  have hs := hb.size
  have ho9 : Only (fun k => k = B) w' (cp5 w' B (.int .i64 q'.f.nw) (.slice p' l' c') (.slice (some ⟨g', 0, none⟩) q'.mem.length cap') (.int .i64 q'.cwp) (.int .i64 q'.inv)) := cp5_only _ _ _ _ _ _ _ rfl
  have hr9 := cp5_row (h.row.below hb) (.int .i64 q'.f.nw) (.slice p' l' c') (.slice (some ⟨g', 0, none⟩) q'.mem.length cap') (.int .i64 q'.cwp) (.int .i64 q'.inv)
  have k := h.keep hb
  have hown : ∀ k, own8 (q'.agg (.slice p' l' c') g' cap') k → N0 ≤ k ∧ k ≠ B := fun k hk => by
    rcases ho k hk with h1 | h1
    · exact h.own k h1
    · exact ⟨by omega, by omega⟩
  generalize cp5 w' B (.int .i64 q'.f.nw) (.slice p' l' c') (.slice (some ⟨g', 0, none⟩) q'.mem.length cap') (.int .i64 q'.cwp) (.int .i64 q'.inv) = w9 at *
  have hb9 : Below B w' w9 := ho9.below (by omega) (fun k hk e => by omega)
  refine ⟨⟨k.mis.at'.keep ho9 (fun j hj e => by have := h.mach j hj; omega), k.mis.lo, k.mis.bel.trans (hb9.mono (by omega))⟩, k.box.of_block (hb9.block _ (by omega)), hown, hr9, hq.only ho9 (fun j hj e => (hown j hj).2 e), k.bel.trans (hb9.mono (by omega)), h.num, h.mach⟩
theorem SQ.next (h : SQ w W2 wr G M m b0 B N0 n cs q p l c g cap) (hb : Below wr.heap.size wr w') (hq : WAt w' n' (q'.agg (.slice p' l' c') g' cap') q') (ho : ∀ k, own8 (q'.agg (.slice p' l' c') g' cap') k → own8 (q.agg (.slice p l c) g cap) k ∨ wr.heap.size ≤ k) :
    SQ w W2 (w'.alloc (.cells #[.int .i64 q'.f.nw, .slice p' l' c', .slice (some ⟨g', 0, none⟩) q'.mem.length cap', .int .i64 q'.cwp, .int .i64 q'.inv] 58)) G M m b0 w'.heap.size N0 n' cs q' p' l' c' g' cap' := by
  obtain ⟨n1, n2, n3, n4⟩ := h.num
  have hlt := h.row.lt
  have hs := hb.size
  have hb9 : Below w'.heap.size w' (w'.alloc (.cells #[.int .i64 q'.f.nw, .slice p' l' c', .slice (some ⟨g', 0, none⟩) q'.mem.length cap', .int .i64 q'.cwp, .int .i64 q'.inv] 58)) := (Below.refl _ _).alloc (Nat.le_refl _) _
  have k := h.keep (hb.trans (hb9.mono hs))
  refine ⟨k.mis, k.box, fun j hj => ?_, ARow.fresh _ _ _, hq.keep hb9, k.bel, ⟨n1, n2, n3, by omega⟩, h.mach⟩
  have := hq.own_lt hj
  rcases ho j hj with h1 | h1
  · exact ⟨(h.own j h1).1, by omega⟩
  · exact ⟨by omega, by omega⟩
structure SR (w W2 wr : World) (G : MG) (M : Nat) (m : Mx) (b0 B n : Nat) (cs : List Value) (q : W8) (p : Option Addr) (l c g cap gg : Nat) (gl : List Int) : Prop where
  mis : MIs W2 wr G M m
  box : ARow wr b0 76 cs
  row : ARow wr B 58 (q.cells (.slice p l c) g cap)
  at' : WAt wr n (q.agg (.slice p l c) g cap) q
  gl : ARow wr gg 24 (u32s gl)
  bel : Below w.heap.size w wr
theorem SQ.runs {gg : Nat} {gl : List Int} (h : SQ w W2 wr G M m b0 B N0 n cs q p l c g cap) (hg : ARow wr gg 24 (u32s gl)) (hgg : N0 ≤ gg) (hm : MIs W2 w' G' M m') (hk : MKeeps wr w' G G') : SR w W2 w' G' M m' b0 B n cs q p l c g cap gg gl := by
  obtain ⟨n1, n2, n3, n4⟩ := h.num
  refine ⟨hm, h.box.of_block (hk.1.block _ h.box.lt (fun hh => by have := h.mis.lo _ hh; omega)), h.row.of_block (hk.1.block _ h.row.lt (fun hh => by have := h.mach _ hh; omega)), h.at'.only hk.1 (fun k hk2 hh => by have := (h.own k hk2).1; have := h.mach k hh; omega), hg.of_block (hk.1.block _ hg.lt (fun hh => by have := h.mach _ hh; omega)), h.bel.trans (hk.1.below h.bel.size (fun k hk2 hh => by have := h.mis.lo _ hh; omega))⟩
theorem SR.keep {gg : Nat} {gl : List Int} (h : SR w W2 wr G M m b0 B n cs q p l c g cap gg gl) (hb : Below wr.heap.size wr w') : SR w W2 w' G M m b0 B n cs q p l c g cap gg gl :=
  ⟨h.mis.keepb hb, h.box.below hb, h.row.below hb, h.at'.keep hb, h.gl.below hb, h.bel.trans (hb.mono h.bel.size)⟩
end
end Go.Proofs.YtajholbcpmjhiaaGreatDoor
