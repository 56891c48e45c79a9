/- Several texts in one: SwapTurn, SwapSpec. -/
import Derived.Test.YtajholbcpmjhiaaGreatDoorH30
set_option linter.unusedVariables false
set_option linter.unusedSimpArgs false
/- Plain law: a TRAP of yield or end, its handler, and where the machine goes on. No program in sight. -/
namespace Go.Proofs.YtajholbcpmjhiaaGreatDoor
open Go.RowKit
def Hn.at (m : Mx) (cw : Nat) (fl pc : Int) (i : Nat) : Hn := ⟨m.f.win, m.f.glo.drop 128, m.mem, i, m.wim, cw, fl, m.tpc.set 16 pc, m.ch⟩
theorem trap_at {m : Mx} (hok : m.ok) (hk : m.kind = 0) {c cw : Nat} {pil fl pc : Int} (hpc : m.pc = c) (hp : m.p = ⟨cw, pil, 0, fl⟩) {x : Ix} (hx : CodeAt m.mem c x) {kind : Nat} (hw : opS m x (getM m x.rs1) (sndM m x) = winM m kind pc) {n lo i : Nat} (hj : CodeAt m.mem (256 + 16 * kind) ⟨17, 0, 0, 0, true, n⟩) (hlo : 256 + 16 * kind + 4 * n = lo + 4 * i) (hlo3 : lo + 4 * i < 4194304) (L : List Ix) (hL : Codes m.mem lo L) (hlo2 : 256 ≤ lo) :
    (stepM m 0).kind = 0 ∧ (stepM m 0).p.bank = 16 ∧ stepM (stepM m 0) 0 = hm (He.of m pil lo L) (Hn.at m cw fl pc i) ∧ Hs (He.of m pil lo L) (Hn.at m cw fl pc i) := by
  have h1 : stepM m 0 = trapM m 16 kind pc := by
    rw [step_code hk hok.noirq hpc hx, hw]
    unfold winM
    rw [if_pos (by rw [hp])]
  have hk1 : (stepM m 0).kind = 0 := by rw [h1]; exact hk
  have hb1 : (stepM m 0).p.bank = 16 := by rw [h1]; rfl
  have hok1 := stepM_ok hok (level := 0) (by omega)
  have hok2 := stepM_ok hok1 (level := 0) (by omega)
  have hp1 : (stepM m 0).pc = ((256 + 16 * kind : Nat) : Int) := by rw [h1]; show (256 : Int) + 16 * (kind : Int) = _; omega
  have h2 : stepM (stepM m 0) 0 = hm (He.of m pil lo L) (Hn.at m cw fl pc i) := by
    rw [step_code hk1 hok1.noirq hp1 (show CodeAt (stepM m 0).mem _ ⟨17, 0, 0, 0, true, n⟩ by rw [h1]; exact hj)]
    unfold opS sndM
    simp only
    rw [if_neg (by decide), if_neg (by decide), if_neg (by decide), if_pos (by decide), if_pos (show holdsS (Int.toNat 0) _ = true from rfl), if_pos (by decide), hp1]
    have e : u32 (((256 + 16 * kind : Nat) : Int) + 4 * u32 (n : Int)) = ((lo + 4 * i : Nat) : Int) := by unfold u32; omega
    rw [e, h1]
    unfold trapM hm He.of Hn.at
    simp only [hp, List.take_append_drop, hk]
    rfl
  refine ⟨hk1, hb1, h2, ?_, ?_, ?_, hlo2, hL⟩
  · show (m.f.glo.take 128).length = 128
    rw [List.length_take, hok.f.gl]; rfl
  · show (m.f.glo.drop 128).length = 8
    rw [List.length_drop, hok.f.gl]
  · rw [← h2]; exact hok2
structure AfterS (m m' : Mx) (pc : Int) (k : Nat) : Prop where
  ok : m'.ok
  kind : m'.kind = 0
  pc : m'.pc = pc
  p : m'.p = m.p
  wim : m'.wim = 2 ^ k
  out : m'.out = m.out
  nw : m'.f.nw = m.f.nw
  glo : m'.f.glo.take 128 = m.f.glo.take 128
theorem path_at {E : He} {n : Nat} {c : Int} {s s' : Hn} (h : Path PH n (hm E s) (hm E s')) : Path (Not4 c) n (hm E s) (hm E s') :=
  h.mono fun m hm => ⟨hm.1, fun e => by rw [hm.2.1] at e; exact absurd e.2 (by decide)⟩
theorem swap_core {m : Mx} (hok : m.ok) (hk : m.kind = 0) {c cw : Nat} {pil fl pc pcN : Int} (hpc : m.pc = c) (hp : m.p = ⟨cw, pil, 0, fl⟩) {x : Ix} (hx : CodeAt m.mem c x) {kind : Nat} (hw : opS m x (getM m x.rs1) (sndM m x) = winM m kind pc)
    {n lo i : Nat} (hj : CodeAt m.mem (256 + 16 * kind) ⟨17, 0, 0, 0, true, n⟩) (hlo : 256 + 16 * kind + 4 * n = lo + 4 * i) (hlo3 : lo + 4 * i < 4194304) (L : List Ix) (hL : Codes m.mem lo L) (hlo2 : 256 ≤ lo) (hne : (c : Int) ≠ pcN)
    {N k2 i2 : Nat} {fl2 : Int} {win2 mem2 g2 tpc2 ch2 : List Int} (hg2 : g2.length = 8)
    (hrun : Hp (He.of m pil lo L) N (Hn.at m cw fl pc i) ⟨win2, g2, mem2, i2, 2 ^ k2, cw, fl2, tpc2, ch2⟩) (ht2 : tpc2.getD 16 0 = pcN) (hend : L[i2]? = some ⟨32, 0, 0, 0, false, 0⟩) :
    ∃ m', Path (Not4 pcN) (N + 3) m m' ∧ AfterS m m' pcN k2 ∧ m'.f.win = win2 ∧ m'.mem = mem2 := by
  have hpb : m.p.bd := hok.pb
  have hpm : pmayP m.p m.nw := hok.pm
  have hwp : winP m.nw := hok.win
  obtain ⟨k1, b1, e1, hs⟩ := trap_at hok hk hpc hp hx hw hj hlo hlo3 L hL hlo2
  obtain ⟨hpath, hs2⟩ := hrun hs
  have hq : (He.of m pil lo L).tpsr.getD 16 0 = packW m.p := by
    show (m.tpsr.set 16 (packS m.p m.nw)).getD 16 0 = _
    rw [List.getD_eq_getElem?_getD, List.getElem?_set_self (by rw [hok.sl]; decide)]
    show packS m.p m.nw = _
    unfold packS; rw [if_pos ⟨hwp, hpm⟩]
  have hr := rett_out hs2 hend hpb hpm hwp hq ht2
  have hokr : (outM (He.of m pil lo L) ⟨win2, g2, mem2, i2, 2 ^ k2, cw, fl2, tpc2, ch2⟩ pcN m.p).ok := by
    rw [← hr]; exact stepM_ok hs2.ok (by omega)
  refine ⟨outM (He.of m pil lo L) ⟨win2, g2, mem2, i2, 2 ^ k2, cw, fl2, tpc2, ch2⟩ pcN m.p, ?_, ⟨hokr, rfl, rfl, rfl, rfl, rfl, rfl, ?_⟩, rfl, rfl⟩
  · rw [show N + 3 = 1 + 1 + N + 1 by omega]
    refine Path.trans (b := hm (He.of m pil lo L) ⟨win2, g2, mem2, i2, 2 ^ k2, cw, fl2, tpc2, ch2⟩) (Path.trans (b := hm (He.of m pil lo L) (Hn.at m cw fl pc i)) (Path.trans (b := stepM m 0) ?_ ?_) (path_at hpath)) ?_
    · exact ⟨⟨hk, fun e => hne (hpc.symm.trans e.1)⟩, rfl⟩
    · exact ⟨⟨k1, fun e => by rw [b1] at e; exact absurd e.2 (by decide)⟩, e1⟩
    · exact ⟨⟨rfl, fun e => absurd e.2 (by show ¬ ((16 : Int) = 0); decide)⟩, hr⟩
  · show (m.f.glo.take 128 ++ g2).take 128 = _
    rw [List.take_append_of_le_length (by rw [List.length_take, hok.f.gl]; decide), List.take_take]
    rfl
theorem op33 (m : Mx) (k a b : Int) : opS m ⟨33, 0, 0, 0, true, k⟩ a b = winM m k (u32 (m.pc + 4)) := by
  unfold opS; simp only
  rw [if_neg (by decide), if_neg (by decide), if_neg (by decide), if_neg (by decide), if_neg (by decide), if_neg (by decide), if_neg (by decide), if_neg (by decide), if_neg (by decide), if_neg (by decide), if_neg (by decide), if_neg (by decide), if_neg (by decide), if_neg (by decide), if_neg (by decide), if_neg (by decide), if_neg (by decide), if_neg (by decide), if_neg (by decide), if_pos (by decide)]
structure AtTrap (m : Mx) (cw inv n : Nat) (pil fl : Int) (cur T c : Nat) (al : Nat → Nat) (en : Bool) : Prop where
  ok : m.ok
  kind : m.kind = 0
  pc : m.pc = ((1536 : Nat) : Int)
  p : m.p = ⟨cw, pil, 0, fl⟩
  cwL : cw < m.f.nw
  invL : inv < m.f.nw
  wim : m.wim = 2 ^ inv
  n0 : 0 < n
  nn : n < m.f.nw
  ne : (cw + n) % m.f.nw = inv
  no : ∀ j, 0 < j → j < n → (cw + j) % m.f.nw ≠ inv
  len : m.mem.length = 8192
  hs : Codes m.mem 768 (swapI m.f.nw)
  v3 : CodeAt m.mem 304 ⟨17, 0, 0, 0, true, 120⟩
  v4 : CodeAt m.mem 320 ⟨17, 0, 0, 0, true, 112⟩
  at' : CodeAt m.mem 1536 ⟨33, 0, 0, 0, true, if en then 4 else 3⟩
  fr : FramesW m.f.win m.f.nw 8192
  curL : loadS m.mem 128 4 = (cur : Int)
  cur4 : cur < T
  T4 : 1 ≤ T ∧ T ≤ 4
  th : loadS m.mem 132 4 = (T : Int)
  av : ∀ t, t < T → loadS m.mem (16 * t + 76) 4 = (al t : Int)
  one : ∀ t, al t ≤ 1
  cb : c < 4294967296
  ch : m.ch.headD 0 = (c : Int)
def alE (al : Nat → Nat) (cur : Nat) (en : Bool) (t : Nat) : Nat := if en = true ∧ t = cur then 0 else al t
def halfS (m : Mx) (cw n cur : Nat) (en : Bool) : List Int := if en then storeS m.mem (16 * cur + 76) 4 0 else keepS (flushS m.f.win m.f.nw cw n m.mem) cur 1540 (frW m.f.win m.f.nw cw)
theorem load_flush {win : List Int} {nw cwp : Nat} {d : List Int} {a : Nat} (ha : a + 4 ≤ 2048) (hfr : ∀ k, 2048 ≤ frW win nw ((cwp + k) % nw)) : ∀ k, loadS (flushS win nw cwp k d) a 4 = loadS d a 4
  | 0 => rfl
  | k + 1 => by unfold flushS; rw [load_put_before _ _ _ _ (by have := hfr k; omega), load_flush ha hfr k]
theorem load_far {d : List Int} {a b : Nat} (x : Int) (h : a + 4 ≤ b ∨ b + 4 ≤ a) : loadS (storeS d b 4 x) a 4 = loadS d a 4 := by
  unfold loadS storeS
  rw [if_pos rfl, if_pos rfl, if_pos rfl]
  have e : ∀ i, a ≤ i → i < a + 4 → ((((d.set (b + 3) (x % 256)).set (b + 2) (x / 256 % 256)).set (b + 1) (x / 65536 % 256)).set b (x / 16777216 % 256)).getD i 0 = d.getD i 0 := fun i h1 h2 => by
    simp only [List.getD_eq_getElem?_getD]
    rw [List.getElem?_set_ne (by omega), List.getElem?_set_ne (by omega), List.getElem?_set_ne (by omega), List.getElem?_set_ne (by omega)]
  rw [e a (by omega) (by omega), e (a + 1) (by omega) (by omega), e (a + 2) (by omega) (by omega), e (a + 3) (by omega) (by omega)]
theorem load_own {d : List Int} {a : Nat} {x : Int} (hx : 0 ≤ x ∧ x < 4294967296) (ha : a + 4 ≤ d.length) : loadS (storeS d a 4 x) a 4 = x := by
  have := load_put [x] d a 0 (fun y hy => by rw [List.mem_singleton.1 hy]; exact hx) (by simpa using ha) (by simp)
  simpa [putS] using this
theorem half_tcb {m : Mx} {cw inv n : Nat} {pil fl : Int} {cur T c : Nat} {al : Nat → Nat} {en : Bool} (h : AtTrap m cw inv n pil fl cur T c al en) : (halfS m cw n cur en).length = 8192 ∧ Tcb (halfS m cw n cur en) T (alE al cur en) := by
  have hlen := h.len
  have hT := h.T4
  have hc := h.cur4
  have hnw := h.ok.f.nw2
  have hfr : ∀ k, 2048 ≤ frW m.f.win m.f.nw ((cw + k) % m.f.nw) := fun k => (h.fr.at (Nat.mod_lt _ (by omega))).2.1
  have hl : (halfS m cw n cur en).length = 8192 := by
    unfold halfS keepS; split
    · rw [storeS_len]; exact hlen
    · rw [storeS_len, storeS_len, flushS_len]; exact hlen
  have hone : ∀ t, alE al cur en t ≤ 1 := fun t => by unfold alE; split; omega; exact h.one t
  refine ⟨hl, by omega, by omega, hT, ?_, fun t ht => ?_, hone⟩
  · unfold halfS keepS
    cases en
    · show loadS (storeS (storeS _ _ 4 _) _ 4 _) 132 4 = _
      rw [load_far _ (by omega), load_far _ (by omega), load_flush (by decide) hfr]; exact h.th
    · show loadS (storeS _ _ 4 _) 132 4 = _
      rw [load_far _ (by omega)]; exact h.th
  · unfold halfS keepS alE
    cases en
    · rw [if_neg (by simp)]
      show loadS (storeS (storeS _ _ 4 _) _ 4 _) (16 * t + 76) 4 = _
      rw [load_far _ (by omega), load_far _ (by omega), load_flush (by omega) hfr]; exact h.av t ht
    · show loadS (storeS _ _ 4 _) (16 * t + 76) 4 = _
      by_cases e : t = cur
      · subst e
        rw [if_pos ⟨rfl, rfl⟩, load_own (by omega) (by omega)]; rfl
      · rw [if_neg (by simp [e]), load_far _ (by omega)]; exact h.av t ht
theorem swap_turn {m : Mx} {cw inv n : Nat} {pil fl : Int} {cur T c : Nat} {al : Nat → Nat} {en : Bool} (h : AtTrap m cw inv n pil fl cur T c al en) (hn : 0 < cntL (alE al cur en) T 0) {t : Nat} (ht : t = seekL (alE al cur en) T 0 (c % cntL (alE al cur en) T 0))
    {sp : Nat} {pc : Int} (hsp : loadS (halfS m cw n cur en) (16 * t + 68) 4 = (sp : Int)) (hs : 2048 ≤ sp ∧ sp % 4 = 0 ∧ sp + 64 ≤ 8192) (hpc : loadS (halfS m cw n cur en) (16 * t + 64) 4 = pc) (hne : pc ≠ 1536) :
    ∃ k m', k ≤ 26 * n + 125 ∧ Path (Not4 pc) k m m' ∧ AfterS m m' pc ((cw + 1) % m.f.nw) ∧ m'.f.win = setW (m.f.win.set (16 * ((cw + m.f.nw - 1) % m.f.nw) + 14) sp) cw (wordsS (nextS (halfS m cw n cur en) t) sp 16) ∧ m'.mem = nextS (halfS m cw n cur en) t := by
  have hlen := h.len
  have hT := h.T4
  have hc := h.cur4
  have hnw2 := h.ok.f.nw2
  have hnw32 := h.ok.f.nw32
  obtain ⟨hl8, htcb⟩ := half_tcb h
  have htl := seek_lt (alE al cur en) T 0 _ (Nat.mod_lt c hn) htcb.one
  rw [← ht] at htl
  have ht4 : t < 4 := by omega
  have hpb : m.p.bd := h.ok.pb
  have hpm : pmayP m.p m.nw := h.ok.pm
  rw [h.p] at hpb hpm
  have hp : 0 ≤ pil ∧ pil < 16 := ⟨hpb.2.1.1, hpm.2.1⟩
  have hf : 0 ≤ fl ∧ fl < 16 := ⟨hpb.2.2.2.1, hpm.2.2.2⟩
  have hwl := h.ok.f.wl
  have hfr : ∀ k, 2048 ≤ frW m.f.win m.f.nw ((cw + k) % m.f.nw) := fun k => (h.fr.at (Nat.mod_lt _ (by omega))).2.1
  have hg8 : (m.f.glo.drop 128).length = 8 := by rw [List.length_drop, h.ok.f.gl]
  have h16 : (m.tpc.set 16 (1540 : Int)).getD 16 0 = 1540 := by
    rw [List.getD_eq_getElem?_getD, List.getElem?_set_self (by rw [h.ok.tl]; decide)]; rfl
  have hspN : loadS (nextS (halfS m cw n cur en) t) (16 * t + 68) 4 = (sp : Int) := by
    unfold nextS; rw [load_far _ (by omega), load_far _ (by omega)]; exact hsp
  have hpcN : loadS (nextS (halfS m cw n cur en) t) (16 * t + 64) 4 = pc := by
    unfold nextS; rw [load_far _ (by omega), load_far _ (by omega)]; exact hpc
  have hrest : ∀ (g : List Int) (fl1 : Int) (tp : List Int), 0 ≤ fl1 ∧ fl1 < 16 → g.length = 8 → tp.length = 17 → ∃ N g' fl', N ≤ 43 + 15 * T ∧ g'.length = 8 ∧ Hp (He.of m pil 768 (swapI m.f.nw)) N ⟨m.f.win, g, halfS m cw n cur en, 42, 2 ^ inv, cw, fl1, tp, m.ch⟩ ⟨setW (m.f.win.set (16 * ((cw + m.f.nw - 1) % m.f.nw) + 14) sp) cw (wordsS (nextS (halfS m cw n cur en) t) sp 16), g', nextS (halfS m cw n cur en) t, 100, 2 ^ ((cw + 1) % m.f.nw), cw, fl', tp.set 16 pc, m.ch.tail⟩ := by
    intro g fl1 tp hfl1 hg htp
    obtain ⟨N1, g1, fl2, hN1, hfl2, hg1, q4, q5, hrun1⟩ := choose_run (E := He.of m pil 768 (swapI m.f.nw)) (win := m.f.win) (tpc := tp) (ch := m.ch) (cwp := cw) (wim := 2 ^ inv) (fl := fl1) rfl htcb h.cb h.ch hn hg
    rw [← ht] at q4 q5
    obtain ⟨N2, g2, fl3, hN2, hg2, hrun2⟩ := resume_run (E := He.of m pil 768 (swapI m.f.nw)) (win := m.f.win) (mem := halfS m cw n cur en) (tpc := tp) (ch := m.ch.tail) (cwp := cw) (wim := 2 ^ inv) (fl := fl2) rfl rfl hnw2 hnw32 hp hfl2 h.cwL hwl (by omega) (by omega) ht4 hspN hpcN ⟨by omega, hs.2.1, by omega⟩ hg1 q4 q5
    exact ⟨N1 + N2, g2, fl3, by omega, hg2, hrun1.trans hrun2⟩
  have htp2 : ∀ tp : List Int, tp.length = 17 → (tp.set 16 pc).getD 16 0 = pc := fun tp htp => by
    rw [List.getD_eq_getElem?_getD, List.getElem?_set_self (by omega)]; rfl
  have htl17 : (m.tpc.set 16 (1540 : Int)).length = 17 := by rw [List.length_set]; exact h.ok.tl
  have hne' : ((1536 : Nat) : Int) ≠ pc := fun e => hne e.symm
  have hu : u32 (m.pc + 4) = 1540 := by rw [h.pc]; rfl
  cases en
  · obtain ⟨N1, g1, hN1, hg1, hrun1⟩ := yield_run (E := He.of m pil 768 (swapI m.f.nw)) (win := m.f.win) (mem := m.mem) (tpc := m.tpc.set 16 1540) (ch := m.ch) (cwp := cw) (fl := fl) rfl rfl hnw2 hnw32 hp hf h.cwL hwl (by omega) (by rw [hlen]; exact h.fr) h.n0 h.nn h.invL h.ne h.no (t := cur) (by omega) ((load_flush (by decide) hfr n).trans h.curL) (by omega) (pc := 1540) h16 hg8
    obtain ⟨N2, g2, fl2, hN2, hg2, hrun2⟩ := hrest g1 fl (m.tpc.set 16 1540) hf hg1 htl17
    obtain ⟨m', r1, r2, r3, r4⟩ := swap_core h.ok h.kind h.pc h.p h.at' (kind := 3) (pc := 1540) (by rw [show (if false = true then (4 : Int) else 3) = 3 from rfl, op33, hu]; rfl) (n := 120) (lo := 768) (i := 4) h.v3 (by decide) (by decide) (swapI m.f.nw) h.hs (by decide) hne' hg2 (by show Hp _ _ ⟨m.f.win, m.f.glo.drop 128, m.mem, 4, m.wim, cw, fl, m.tpc.set 16 1540, m.ch⟩ _; rw [h.wim]; exact hrun1.trans hrun2) (htp2 _ htl17) (sw_end _)
    exact ⟨_, m', by omega, r1, r2, r3, r4⟩
  · obtain ⟨g1, hg1, hrun1⟩ := end_run (E := He.of m pil 768 (swapI m.f.nw)) (win := m.f.win) (mem := m.mem) (tpc := m.tpc.set 16 1540) (ch := m.ch) (cwp := cw) (wim := 2 ^ inv) (fl := fl) rfl rfl (by omega) (t := cur) (by omega) h.curL hg8
    obtain ⟨N2, g2, fl2, hN2, hg2, hrun2⟩ := hrest g1 fl (m.tpc.set 16 1540) hf hg1 htl17
    obtain ⟨m', r1, r2, r3, r4⟩ := swap_core h.ok h.kind h.pc h.p h.at' (kind := 4) (pc := 1540) (by rw [show (if true = true then (4 : Int) else 3) = 4 from rfl, op33, hu]; rfl) (n := 112) (lo := 768) (i := 0) h.v4 (by decide) (by decide) (swapI m.f.nw) h.hs (by decide) hne' hg2 (by show Hp _ _ ⟨m.f.win, m.f.glo.drop 128, m.mem, 0, m.wim, cw, fl, m.tpc.set 16 1540, m.ch⟩ _; rw [h.wim]; exact hrun1.trans hrun2) (htp2 _ htl17) (sw_end _)
    exact ⟨_, m', by omega, r1, r2, r3, r4⟩
end Go.Proofs.YtajholbcpmjhiaaGreatDoor
/- What swap's handlers are: plain lists of instructions. No program in sight. (Printed by genswap2.py.) -/
namespace Go.Proofs.YtajholbcpmjhiaaGreatDoor
open Go.RowKit
def nmEnd : List UInt8 := [101, 110, 100]
def nmYield : List UInt8 := [121, 105, 101, 108, 100]
def nmYieldEach : List UInt8 := [121, 105, 101, 108, 100, 46, 101, 97, 99, 104]
def nmYieldIn : List UInt8 := [121, 105, 101, 108, 100, 46, 105, 110]
def nmSwap : List UInt8 := [115, 119, 97, 112]
def nmSwapCount : List UInt8 := [115, 119, 97, 112, 46, 99, 111, 117, 110, 116]
def nmSwapEach : List UInt8 := [115, 119, 97, 112, 46, 101, 97, 99, 104]
def nmSwapNot : List UInt8 := [115, 119, 97, 112, 46, 110, 111, 116]
def nmSwapIt : List UInt8 := [115, 119, 97, 112, 46, 105, 116]
def nmSwapIn : List UInt8 := [115, 119, 97, 112, 46, 105, 110]
def Bs.window (s : Bs) (r : Int) : Bs := s.put [bothI 6 2 5 r, ⟨27, 0, 2, 0, false, 0⟩]
def Bs.next (s : Bs) (nw : Nat) (nm : List UInt8) : Bs := (((s.put [aluI 0 4 4 1, cmpI 4 nw]).jump 2 nm).put [aluI 0 4 0 0]).mark nm
def Bs.flush (s : Bs) (nw : Nat) : Bs := (((((((s.put [⟨28, 1, 0, 0, false, 0⟩, ⟨26, 3, 0, 0, false, 0⟩, aluI 5 4 3 31, aluI 0 6 4 0, aluI 5 5 3 (-32)]).mark nmYieldEach).window 4).each 23 16).next nw nmYieldIn).put [bothI 9 2 1 4, aluI 5 2 2 1, cmpI 2 1]).jump 2 nmYieldEach).window 6
def Bs.keep (s : Bs) : Bs := s.put [ldI 1 0 128, aluI 8 1 1 4, ⟨30, 2, 0, 0, true, 0⟩, stI 2 1 64, stI 14 1 68]
def Bs.choose (s : Bs) : Bs := ((((((((((((((s.put [⟨34, 1, 0, 0, false, 0⟩, ldI 3 0 132, aluI 0 2 0 0, aluI 0 4 0 0]).mark nmSwapCount).put [aluI 8 5 4 4, ldI 5 5 76, bothI 0 2 2 5, aluI 0 4 4 1, ⟨16, 0, 4, 3, false, 0⟩]).jump 2 nmSwapCount).put [aluI 9 5 1 16, bothI 4 5 5 2, aluI 8 5 5 16, aluI 8 1 1 16, aluI 9 1 1 16, bothI 0 1 1 5, bothI 4 1 1 2, aluI 0 4 0 0]).mark nmSwapEach).put [aluI 8 5 4 4, ldI 6 5 76, cmpI 6 1]).jump 2 nmSwapNot).put [cmpI 1 0]).jump 1 nmSwapIt).put [aluI 1 1 1 1]).mark nmSwapNot).put [aluI 0 4 4 1]).jump 0 nmSwapEach).mark nmSwapIt
def Bs.resume (s : Bs) (nw : Nat) : Bs := ((((s.put [stI 4 0 128, ldI 1 5 72, stI 1 0 136, ldI 1 5 64, ⟨31, 0, 1, 0, true, 0⟩, ldI 14 5 68, ⟨26, 3, 0, 0, false, 0⟩, aluI 5 4 3 31]).next nw nmSwapIn).put [aluI 0 1 0 1, bothI 8 1 1 4, ⟨29, 0, 1, 0, false, 0⟩]).each 22 16).put [⟨32, 0, 0, 0, false, 0⟩]
def Bs.swap (s : Bs) (nw : Nat) : Bs := ((((((((s.mark nmEnd).put [ldI 1 0 128, aluI 8 1 1 4, stI 0 1 76]).jump 0 nmSwap).mark nmYield).flush nw).keep).mark nmSwap).choose).resume nw
def names (M : List (List UInt8 × Int)) : List (List UInt8) := M.map (·.1)
theorem look_names {M : List (List UInt8 × Int)} {nm : List UInt8} (h : nm ∉ names M) : look M nm = none := by
  unfold look
  rw [List.find?_eq_none.2 (fun e he => by
    intro hh
    exact h (List.mem_map.2 ⟨e, he, eq_of_beq hh⟩))]
  rfl
theorem names_mark (s : Bs) (nm : List UInt8) : names (s.mark nm).M = names s.M ++ [nm] := by
  show List.map Prod.fst (s.M ++ [(nm, (s.L.length : Int))]) = _
  rw [List.map_append]; rfl
theorem names_put (s : Bs) (l : List Ix) : names (s.put l).M = names s.M := rfl
theorem names_jump (s : Bs) (c : Int) (nm : List UInt8) : names (s.jump c nm).M = names s.M := rfl
theorem names_each (s : Bs) (op : Int) (n : Nat) : names (s.each op n).M = names s.M := by rw [Bs.each_M]
theorem len_mark (s : Bs) (nm : List UInt8) : (s.mark nm).L.length = s.L.length := rfl
theorem len_jump (s : Bs) (c : Int) (nm : List UInt8) : (s.jump c nm).L.length = s.L.length + 1 := by show (_ ++ [_]).length = _; simp
theorem names_window (s : Bs) (r : Int) : names (s.window r).M = names s.M := rfl
theorem len_window (s : Bs) (r : Int) : (s.window r).L.length = s.L.length + 2 := Bs.put_len _ _
theorem names_next (s : Bs) (nw : Nat) (nm : List UInt8) : names (s.next nw nm).M = names s.M ++ [nm] := names_mark _ _
theorem len_next (s : Bs) (nw : Nat) (nm : List UInt8) : (s.next nw nm).L.length = s.L.length + 4 := by
  unfold Bs.next
  rw [len_mark, Bs.put_len, len_jump, Bs.put_len]
  rfl
theorem names_flush (s : Bs) (nw : Nat) : names (s.flush nw).M = names s.M ++ [nmYieldEach, nmYieldIn] := by
  unfold Bs.flush
  simp [names_mark, names_put, names_jump, names_each, names_window, names_next]
theorem len_flush (s : Bs) (nw : Nat) : (s.flush nw).L.length = s.L.length + 33 := by
  unfold Bs.flush
  simp [len_mark, Bs.put_len, len_jump, Bs.each_len, len_window, len_next]
theorem names_keep (s : Bs) : names (s.keep).M = names s.M := by
  unfold Bs.keep
  simp [names_mark, names_put, names_jump, names_each, names_window, names_next]
theorem len_keep (s : Bs) : (s.keep).L.length = s.L.length + 5 := by
  unfold Bs.keep
  simp [len_mark, Bs.put_len, len_jump, Bs.each_len, len_window, len_next]
theorem names_choose (s : Bs) : names (s.choose).M = names s.M ++ [nmSwapCount, nmSwapEach, nmSwapNot, nmSwapIt] := by
  unfold Bs.choose
  simp [names_mark, names_put, names_jump, names_each, names_window, names_next]
theorem len_choose (s : Bs) : (s.choose).L.length = s.L.length + 27 := by
  unfold Bs.choose
  simp [len_mark, Bs.put_len, len_jump, Bs.each_len, len_window, len_next]
theorem names_resume (s : Bs) (nw : Nat) : names (s.resume nw).M = names s.M ++ [nmSwapIn] := by
  unfold Bs.resume
  simp [names_mark, names_put, names_jump, names_each, names_window, names_next]
theorem len_resume (s : Bs) (nw : Nat) : (s.resume nw).L.length = s.L.length + 32 := by
  unfold Bs.resume
  simp [len_mark, Bs.put_len, len_jump, Bs.each_len, len_window, len_next]
theorem len_swap (s : Bs) (nw : Nat) : (s.swap nw).L.length = s.L.length + 101 := by
  unfold Bs.swap
  simp [len_mark, Bs.put_len, len_jump, Bs.each_len, len_window, len_next, len_flush, len_keep, len_choose, len_resume]
theorem next_ok : ∀ nw : Nat, nw < 33 → allI [aluI 0 4 4 1, cmpI 4 nw] := by decide
theorem lit_ok0 : allI [⟨28, 1, 0, 0, false, 0⟩, ⟨26, 3, 0, 0, false, 0⟩, aluI 5 4 3 31, aluI 0 6 4 0, aluI 5 5 3 (-32)] := by decide
theorem lit_ok1 : allI [bothI 9 2 1 4, aluI 5 2 2 1, cmpI 2 1] := by decide
theorem lit_ok2 : allI [ldI 1 0 128, aluI 8 1 1 4, ⟨30, 2, 0, 0, true, 0⟩, stI 2 1 64, stI 14 1 68] := by decide
theorem lit_ok3 : allI [⟨34, 1, 0, 0, false, 0⟩, ldI 3 0 132, aluI 0 2 0 0, aluI 0 4 0 0] := by decide
theorem lit_ok4 : allI [aluI 8 5 4 4, ldI 5 5 76, bothI 0 2 2 5, aluI 0 4 4 1, ⟨16, 0, 4, 3, false, 0⟩] := by decide
theorem lit_ok5 : allI [aluI 9 5 1 16, bothI 4 5 5 2, aluI 8 5 5 16, aluI 8 1 1 16, aluI 9 1 1 16, bothI 0 1 1 5, bothI 4 1 1 2, aluI 0 4 0 0] := by decide
theorem lit_ok6 : allI [aluI 8 5 4 4, ldI 6 5 76, cmpI 6 1] := by decide
theorem lit_ok7 : allI [cmpI 1 0] := by decide
theorem lit_ok8 : allI [aluI 1 1 1 1] := by decide
theorem lit_ok9 : allI [aluI 0 4 4 1] := by decide
theorem lit_ok10 : allI [stI 4 0 128, ldI 1 5 72, stI 1 0 136, ldI 1 5 64, ⟨31, 0, 1, 0, true, 0⟩, ldI 14 5 68, ⟨26, 3, 0, 0, false, 0⟩, aluI 5 4 3 31] := by decide
theorem lit_ok11 : allI [aluI 0 1 0 1, bothI 8 1 1 4, ⟨29, 0, 1, 0, false, 0⟩] := by decide
theorem lit_ok12 : allI [⟨32, 0, 0, 0, false, 0⟩] := by decide
theorem lit_ok13 : allI [ldI 1 0 128, aluI 8 1 1 4, stI 0 1 76] := by decide
theorem lit_okA : allI [aluI 0 4 0 0] := by decide
theorem lit_okW : ∀ r : Int, (r = 4 ∨ r = 6) → allI [bothI 6 2 5 r, ⟨27, 0, 2, 0, false, 0⟩] := by
  intro r h
  rcases h with rfl | rfl <;> decide
end Go.Proofs.YtajholbcpmjhiaaGreatDoor
