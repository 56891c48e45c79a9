/- Several texts in one: MemApartLaw, MemRowsLaw, WorldLaw, SwapGo, SwapNo, SwapHead. -/
import Derived.Test.YtajholbcpmjhiaaGreatDoorH36
import Derived.Deep.WholeRow
set_option linter.unusedVariables false
set_option linter.unusedSimpArgs false
/- The plain law of muntinlaw05.MemApart and MemWords: words stored apart, rows put at once. -/
namespace Go.Proofs.YtajholbcpmjhiaaGreatDoor
open Go.RowKit
theorem ext_getD {a b : List Int} (h : a.length = b.length) (h2 : ∀ i, i < a.length → a.getD i 0 = b.getD i 0) : a = b := by
  apply List.ext_getElem h
  intro i h3 h4
  have := h2 i h3
  simpa [List.getD_eq_getElem?_getD, h3, h4] using this
end Go.Proofs.YtajholbcpmjhiaaGreatDoor
/- The walk of muntinlaw05.MemWords: rows of words. -/
namespace Go.Proofs.YtajholbcpmjhiaaGreatDoor
open Go.RowKit
theorem words_put (l d : List Int) (a k : Nat) (hw : Words l) (hl : a + 4 * l.length ≤ d.length) (hk : k ≤ l.length) : wordsS (putS d a l) (a + 4 * k) (l.length - k) = l.drop k := by
  apply ext_getD (by rw [wordsS_len, List.length_drop])
  intro i hi
  rw [wordsS_len] at hi
  rw [wordsS_at _ _ _ _ hi, show a + 4 * k + 4 * i = a + 4 * (k + i) by omega, load_put l d a (k + i) hw hl (by omega)]
  simp [List.getD_eq_getElem?_getD]
end Go.Proofs.YtajholbcpmjhiaaGreatDoor
/- Plain law: two files that are alike; how one is built window by window, global by global. No program in sight. -/
namespace Go.Proofs.YtajholbcpmjhiaaGreatDoor
open Go.RowKit
theorem winV_nat {f : Fx} {w : Nat} (hw : w < f.nw) : winV f w = winR f w := by
  unfold winV; rw [if_pos (show regOk f w 0 0 from ⟨⟨by omega, by omega⟩, by omega, by omega, by omega⟩), Int.toNat_natCast]
end Go.Proofs.YtajholbcpmjhiaaGreatDoor
/- The machine that made gives runs through its turn. -/
namespace Go.Proofs.YtajholbcpmjhiaaGreatDoor
open Go.RowKit
def alN (x : CaseS) (t : Nat) : Nat := if x.alive t then 1 else 0
theorem alN_I (x : CaseS) (t : Nat) : aliveI x t = (alN x t : Int) := by unfold aliveI alN; split <;> rfl
def nS (x : CaseS) : Nat := ((x.inv - x.cwp) % x.nw).toNat
theorem MadeS.trap {x : CaseS} {m : Mx} (h : MadeS x m) (hm : mayS x) (hx : 0 ≤ x.choice ∧ x.choice < 4294967296) (hok : m.ok) :
    AtTrap m x.cwp.toNat x.inv.toNat (nS x) x.pil x.flags x.runs.toNat x.threads.toNat x.choice.toNat (alN x) x.en := by
  obtain ⟨⟨n2, n32⟩, ⟨c0, c1⟩, ⟨i0, i1⟩, hne, ⟨t1, t4⟩, ⟨r0, r1⟩, -⟩ := hm
  have e := h.nw
  have hw : winP x.nw := ⟨n2, n32⟩
  have hs := fun k => res_step (x := x.cwp) (fin := x.inv) (nw := x.nw) hw ⟨i0, i1⟩ ⟨c0, c1⟩ k
  have hnn : ((nS x : Nat) : Int) = (x.inv - x.cwp) % x.nw := by unfold nS; exact Int.toNat_of_nonneg (Int.emod_nonneg _ (by omega))
  have hlt : (x.inv - x.cwp) % x.nw < x.nw := Int.emod_lt_of_pos _ (by omega)
  have hcw : ((x.cwp.toNat : Nat) : Int) = x.cwp := Int.toNat_of_nonneg c0
  have hiv : ((x.inv.toNat : Nat) : Int) = x.inv := Int.toNat_of_nonneg i0
  have cast : ∀ j : Nat, (((x.cwp.toNat + j) % m.f.nw : Nat) : Int) = (x.cwp + (j : Int)) % x.nw := fun j => by
    rw [Int.natCast_emod, e, Int.natCast_add, hcw]
  have hend : (x.cwp + ((nS x : Nat) : Int)) % x.nw = x.inv := (hs 0).2.1
  refine { ok := hok, kind := h.kind, pc := h.pc, p := by rw [h.p, hcw], cwL := by omega, invL := by omega, wim := h.wim, n0 := ?_, nn := by omega, ne := ?_, no := fun j h1 h2 hh => ?_, len := h.mem.len, hs := h.mem.hs, v3 := h.mem.v3, v4 := h.mem.v4, at' := h.mem.at', fr := fun w hw2 => ?_, curL := by rw [h.mem.curL, Int.toNat_of_nonneg r0], cur4 := by omega, T4 := by omega, th := by rw [h.mem.th, Int.toNat_of_nonneg (by omega)], av := fun t ht => ?_, one := fun t => by unfold alN; split <;> omega, cb := by omega, ch := ?_ }
  · rcases Nat.eq_zero_or_pos (nS x) with h0 | h0
    · rw [h0] at hend
      have : (x.cwp + ((0 : Nat) : Int)) % x.nw = x.cwp := by rw [show x.cwp + ((0 : Nat) : Int) = x.cwp by omega]; exact Int.emod_eq_of_lt c0 c1
      exact absurd (hend.symm.trans this) hne
    · exact h0
  · have := cast (nS x)
    rw [hend] at this; omega
  · have h3 := (hs j).1 (by show j < nS x; exact h2)
    have := cast j
    rw [hh] at this
    exact h3 (by rw [← this]; exact hiv)
  · obtain ⟨A, q1, q2⟩ := h.sp w hw2 hw2
    rw [getV_out hok.f.nw2 hw2] at q1
    exact ⟨A, q1, q2⟩
  · have := (h.mem.tcb t (by omega)).2.2.2
    rw [this, alN_I]
  · rw [h.ch]; show x.choice = _; rw [Int.toNat_of_nonneg hx.1]
def pcS (x : CaseS) (t : Nat) : Nat := if x.en = false ∧ t = x.runs.toNat then 1540 else 1700 + 4 * t
def spS (x : CaseS) (m : Mx) (t : Nat) : Nat := if x.en = false ∧ t = x.runs.toNat then frW m.f.win m.f.nw x.cwp.toNat else (frmX (x.stacks t)).toNat
def liveS (x : CaseS) : Nat := cntL (alE (alN x) x.runs.toNat x.en) x.threads.toNat 0
def nextT (x : CaseS) : Nat := seekL (alE (alN x) x.runs.toNat x.en) x.threads.toNat 0 (x.choice.toNat % liveS x)
theorem swap_go {x : CaseS} {m : Mx} (h : MadeS x m) (hm : mayS x) (hx : 0 ≤ x.choice ∧ x.choice < 4294967296) (hst : ∀ t, 0 ≤ x.stacks t ∧ x.stacks t < 65536) (hok : m.ok) (hl : 0 < liveS x) :
    ∃ k m', 1 ≤ k ∧ k ≤ 26 * nS x + 125 ∧ Rest (pcS x (nextT x) : Nat) k m m' ∧ AfterS m m' (pcS x (nextT x) : Nat) ((x.cwp.toNat + 1) % m.f.nw) ∧ (2048 ≤ spS x m (nextT x) ∧ spS x m (nextT x) % 4 = 0 ∧ spS x m (nextT x) + 64 ≤ 8192) ∧ nextT x < x.threads.toNat ∧
      m'.f.win = setW (m.f.win.set (16 * ((x.cwp.toNat + m.f.nw - 1) % m.f.nw) + 14) (spS x m (nextT x))) x.cwp.toNat (wordsS (nextS (halfS m x.cwp.toNat (nS x) x.runs.toNat x.en) (nextT x)) (spS x m (nextT x)) 16) ∧ m'.mem = nextS (halfS m x.cwp.toNat (nS x) x.runs.toNat x.en) (nextT x) := by
  have ha := h.trap hm hx hok
  obtain ⟨hl8, htcb⟩ := half_tcb ha
  have htl := seek_lt (alE (alN x) x.runs.toNat x.en) x.threads.toNat 0 _ (Nat.mod_lt x.choice.toNat hl) htcb.one
  have htT : nextT x < x.threads.toNat := by have := htl.1; unfold nextT liveS; omega
  have hT4 := ha.T4
  have hc4 := ha.cur4
  have hlen := ha.len
  have hnw2 := hok.f.nw2
  have hfr : ∀ k, 2048 ≤ frW m.f.win m.f.nw ((x.cwp.toNat + k) % m.f.nw) := fun k => (ha.fr.at (Nat.mod_lt _ (by omega))).2.1
  obtain ⟨f1, f2, f3, f4⟩ := ha.fr.at ha.cwL
  have ht4 : nextT x < 4 := by omega
  obtain ⟨w1, w2, w3, w4⟩ := h.mem.tcb (nextT x) ht4
  have hfb := hst (nextT x)
  have hfx : 2048 ≤ (frmX (x.stacks (nextT x))).toNat ∧ (frmX (x.stacks (nextT x))).toNat % 4 = 0 ∧ (frmX (x.stacks (nextT x))).toNat + 64 ≤ 8192 ∧ (((frmX (x.stacks (nextT x))).toNat : Nat) : Int) = frmX (x.stacks (nextT x)) := by unfold frmX; omega
  have hsb : 2048 ≤ spS x m (nextT x) ∧ spS x m (nextT x) % 4 = 0 ∧ spS x m (nextT x) + 64 ≤ 8192 := by
    unfold spS; split
    · exact ⟨f2, f3, f4⟩
    · exact ⟨hfx.1, hfx.2.1, hfx.2.2.1⟩
  have hpcl : loadS (halfS m x.cwp.toNat (nS x) x.runs.toNat x.en) (16 * nextT x + 64) 4 = (pcS x (nextT x) : Nat) ∧ loadS (halfS m x.cwp.toNat (nS x) x.runs.toNat x.en) (16 * nextT x + 68) 4 = (spS x m (nextT x) : Nat) := by
    unfold halfS pcS spS keepS
    cases x.en
    · simp only [Bool.false_eq_true, if_false, true_and]
      by_cases e : nextT x = x.runs.toNat
      · rw [if_pos e, if_pos e, e]
        refine ⟨?_, ?_⟩
        · rw [load_far _ (by omega), load_own (by decide) (by rw [flushS_len]; omega)]; rfl
        · rw [load_own ⟨by omega, by omega⟩ (by rw [storeS_len, flushS_len]; omega)]
      · rw [if_neg e, if_neg e]
        refine ⟨?_, ?_⟩
        · rw [load_far _ (by omega), load_far _ (by omega), load_flush (by omega) hfr, w1]; omega
        · rw [load_far _ (by omega), load_far _ (by omega), load_flush (by omega) hfr, w2, hfx.2.2.2]
    · simp only [if_true, Bool.true_eq_false, false_and, if_false]
      refine ⟨?_, ?_⟩
      · rw [load_far _ (by omega), w1]; omega
      · rw [load_far _ (by omega), w2, hfx.2.2.2]
  have hne : ((pcS x (nextT x) : Nat) : Int) ≠ 1536 := by unfold pcS; split <;> omega
  obtain ⟨k, m', g1, g2, g3, g4, g5⟩ := swap_turn ha hl rfl (sp := spS x m (nextT x)) (pc := (pcS x (nextT x) : Nat)) hpcl.2 hsb hpcl.1 hne
  refine ⟨k, m', ?_, g1, ⟨g2, g3.kind, g3.pc, by rw [g3.p, h.p]⟩, g3, hsb, htT, g4, g5⟩
  cases k with
  | zero =>
    obtain rfl : m = m' := g2
    exact absurd (g3.pc.symm.trans h.pc) hne
  | succ k => omega
end Go.Proofs.YtajholbcpmjhiaaGreatDoor
/- swap.All where there is no list, or too many windows. -/
namespace Go.Proofs.YtajholbcpmjhiaaGreatDoor
open Go.RowKit Go.Maps
set_option maxRecDepth 100000 in
set_option maxHeartbeats 4000000 in
theorem swall_nil (w : World) (n : Int) : Calls Tryz.prog 30 #[.pointer none, .int .i64 n] w fun e w' => e = .returned (.int .i64 1) ∧ w = w' := by
  go_enter Tryz.func30, Tryz.ntmps30
  go_wp2_with fail
  refine (acopy_none w _ (anone_nil w)).mono ?_
  rintro e w' ⟨rfl, rfl⟩
  go_wp2_with fail
  go_ret
  exact ⟨rfl, rfl⟩
set_option maxRecDepth 100000 in
set_option maxHeartbeats 4000000 in
theorem swall_bad {W w : World} {pa : Nat} {S : Nat → Prop} {s : Bs} (h : BsAt W w pa S s) (hL : s.L.length < 4294967296) (n : Int) (hn : okE 0 n = 2) :
    Calls Tryz.prog 30 #[.pointer (some ⟨pa, 0, none⟩), .int .i64 n] w fun e w' => e = .returned (.int .i64 2) ∧ Below w.heap.size w w' := by
  have HC := ahid (bs_copy h hL)
  have HK := ahid hn
  clear h hn
  go_enter Tryz.func30, Tryz.ntmps30
  go_wp2_with fail
  refine HC.out.mono ?_
  rintro e w1 ⟨⟨q, rfl⟩, hb1⟩
  go_wp2_with fail
  refine (wim_any 0 n w1).mono ?_
  rintro e w2 ⟨rfl, hb2⟩
  rw [HK.out]
  have HB := ahid (hb1.trans (hb2.mono hb1.size))
  clear hb1 hb2
  go_wp2_with fail
  go_ret
  exact ⟨rfl, HB.out⟩
end Go.Proofs.YtajholbcpmjhiaaGreatDoor
/- The walk of muntinlaw10.head. -/
namespace Go.Proofs.YtajholbcpmjhiaaGreatDoor
open Go.RowKit
def headSt (t : Nat) : Int := if t = 1 then 1000 else 0
def headC (en : Bool) (c : Int) : CaseS := ⟨3, 1, 0, [], [0, 100, 200], 2, 0, fun t => decide (t < 2), headSt, c, 0, 0, 0, en⟩
theorem headC_may (en : Bool) (c : Int) : mayS (headC en c) := by unfold mayS headC; simp
theorem headSt_bd (t : Nat) : 0 ≤ headSt t ∧ headSt t < 65536 := by unfold headSt; split <;> omega
theorem head_live : liveS (headC false 5) = 2 ∧ nextT (headC false 5) = 1 ∧ liveS (headC true 0) = 1 ∧ nextT (headC true 0) = 1 := by decide
theorem head_pc : pcS (headC false 5) 1 = 1704 ∧ pcS (headC true 0) 1 = 1704 := by decide
theorem head_n (en : Bool) (c : Int) : nS (headC en c) = 2 := by unfold nS headC; rfl
theorem head_sp (m : Mx) : spS (headC false 5) m 1 = 6048 := by unfold spS; rw [if_neg (by decide)]; rfl
theorem next_own {d : List Int} {t : Nat} (ht : t < 4) (hl : 2048 ≤ d.length) : loadS (nextS d t) 128 4 = (t : Int) := by
  unfold nextS
  rw [load_far _ (by omega), load_own (by omega) (by omega)]
theorem next_low {d : List Int} {t a : Nat} (ha : a + 4 ≤ 128) : loadS (nextS d t) a 4 = loadS d a 4 := by
  unfold nextS
  rw [load_far _ (by omega), load_far _ (by omega)]
theorem headM_facts {m m' : Mx} (hok : m.ok) (h : MadeS (headC false 5) m) (hm : m'.mem = nextS (halfS m 1 2 0 false) 1) (hw : m'.f.win = setW (m.f.win.set (16 * ((1 + m.f.nw - 1) % m.f.nw) + 14) (6048 : Nat)) 1 (wordsS (nextS (halfS m 1 2 0 false) 1) 6048 16)) (hn : m'.f.nw = m.f.nw) :
    loadV m'.mem 128 4 = 1 ∧ loadV m'.mem 64 4 = 1540 ∧ getV m'.f 1 0 14 = frmX 1000 := by
  have hnw : m.f.nw = 3 := by have := h.nw; have h3 : (headC false 5).nw = 3 := rfl; omega
  have hwl := hok.f.wl
  have ha := h.trap (headC_may _ _) ⟨by decide, by decide⟩ hok
  obtain ⟨hl8, -⟩ := half_tcb ha
  have hl8' : (halfS m 1 2 0 false).length = 8192 := hl8
  have hl2 : m'.mem.length = 8192 := by rw [hm, nextS_len]; exact hl8'
  refine ⟨?_, ?_, ?_⟩
  · rw [show (128 : Int) = ((128 : Nat) : Int) from rfl, loadV_in (by decide) (by omega), hm, next_own (by decide) (by omega)]; rfl
  · rw [show (64 : Int) = ((64 : Nat) : Int) from rfl, loadV_in (by decide) (by omega), hm, next_low (by decide)]
    unfold halfS keepS
    simp only [Bool.false_eq_true, if_false]
    rw [load_far _ (by omega), load_own (by decide) (by rw [flushS_len, h.mem.len]; decide)]
  · have e := getV_out (f := m'.f) (w := 1) (by omega) (by omega)
    rw [show ((1 : Nat) : Int) = 1 from rfl] at e
    rw [e, hn, hw, hnw, setW_out (by rw [List.length_set, hwl, hnw, wordsS_len]; decide) (.inl (by decide)), List.getD_eq_getElem?_getD, List.getElem?_set_self (by rw [hwl, hnw]; decide)]
    rfl
theorem headO_facts {m m' : Mx} (hok : m.ok) (h : MadeS (headC true 0) m) (hm : m'.mem = nextS (halfS m 1 2 0 true) 1) : loadV m'.mem 76 4 = 0 := by
  have hl8' : (halfS m 1 2 0 true).length = 8192 := by unfold halfS; simp only [if_true]; rw [storeS_len]; exact h.mem.len
  have hl2 : m'.mem.length = 8192 := by rw [hm, nextS_len]; exact hl8'
  rw [show (76 : Int) = ((76 : Nat) : Int) from rfl, loadV_in (by decide) (by omega), hm, next_low (by decide)]
  unfold halfS
  simp only [if_true]
  rw [load_own (by decide) (by rw [h.mem.len]; decide)]
def litC (b : Nat) (c : Int) (en : Bool) : List Value := [.int .i64 3, .int .i64 1, .int .i64 0, .slice none 0 0, .slice (some ⟨b, 0, none⟩) 3 3, .int .i64 2, .int .i64 0, .bool true, .bool true, .bool false, .bool false, .int .u16 0, .int .u16 1000, .int .u16 0, .int .u16 0, .int .u32 c, .int .u8 0, .int .u8 0, .int .u32 0, .bool en]
theorem headC_agg (b : Nat) (c : Int) (en : Bool) : (headC en c).agg (.slice none 0 0) (.slice (some ⟨b, 0, none⟩) 3 3) = .agg (litC b c en).toArray := by
  unfold CaseS.agg headC litC headSt
  simp
theorem headC_in {w : World} {b : Nat} (hr : ARow w b 73 [.int .u16 0, .int .u16 100, .int .u16 200]) (en : Bool) (c : Int) (hc : 0 ≤ c ∧ c < 4294967296) : CaseSIn w (headC en c) (.slice none 0 0) (.slice (some ⟨b, 0, none⟩) 3 3) := by
  refine ⟨⟨⟨fun x hx => by simp [headC] at hx, none, 0, rfl, fun h => by simp [headC] at h⟩, by show 0 ≤ maxLen; exact Nat.zero_le _, fun p n c e => by cases e; exact ⟨by decide, fun _ => rfl⟩⟩, ⟨by show 3 ≤ maxLen; unfold maxLen; omega, fun x hx => ?_, some ⟨b, 0, none⟩, 3, b, 0, rfl, fun _ => rfl, fun k x hx => ?_⟩, by unfold headC; simp, headSt_bd, by unfold headC; simp, by unfold headC; simp, by unfold headC; simp, hc⟩
  · have hx2 : x ∈ ([0, 100, 200] : List Int) := hx
    simp at hx2
    omega
  · rw [Nat.zero_add]
    match k, hx with
    | 0, hx => cases hx; exact hr.cell (k := 0) rfl
    | 1, hx => cases hx; exact hr.cell (k := 1) rfl
    | 2, hx => cases hx; exact hr.cell (k := 2) rfl
theorem MIs.base {w00 w0 w w' : World} {G : MG} {M : Nat} {m : Mx} {S : Nat → Prop} (h : MIs w0 w G M m) (o : Only S w w') (hS : ∀ k, S k → G.R k = .none) (hb : Below w00.heap.size w00 w') (hz : w00.heap.size ≤ w0.heap.size) : MIs w00 w' G M m :=
  ⟨h.at'.keep o (fun k hk e => hk (hS k e)), fun k hk => Nat.le_trans hz (h.lo k hk), hb⟩
theorem outL_madeS {x : CaseS} {m : Mx} (h : MadeS x m) : outL m = 0 := by unfold outL; rw [h.out]; rfl
set_option maxRecDepth 100000 in
set_option maxHeartbeats 8000000 in
theorem shead_any (w : World) (ht : Tab w) (hbr : Bru w) :
    Calls Tryz.prog 33 #[] w fun e w' => e = .returned (.bool true) ∧ Below w.heap.size w w' := by
  have HT := mhid ht
  have HR := mhid hbr
  clear ht hbr
  obtain ⟨W0, hW0⟩ : ∃ W0, W0 = w.alloc (.cells #[.int .u16 0, .int .u16 100, .int .u16 200] 73) := ⟨_, rfl⟩
  obtain ⟨W1, hW1⟩ : ∃ W1, W1 = W0.alloc (.cells (litC w.heap.size 5 false).toArray 76) := ⟨_, rfl⟩
  have s0 : W0.heap.size = w.heap.size + 1 := by rw [hW0]; simp
  have hb0 : Below w.heap.size w W0 := by rw [hW0]; exact (Below.refl _ _).alloc (Nat.le_refl _) _
  have hb1 : Below w.heap.size w W1 := by rw [hW1]; exact hb0.alloc (by omega) _
  have hrow : ARow W1 w.heap.size 73 [.int .u16 0, .int .u16 100, .int .u16 200] := by rw [hW1, hW0]; exact (ARow.fresh w _ _).alloc _
  have hbox : ARow W1 (w.heap.size + 1) 76 (litC w.heap.size 5 false) := by rw [hW1, ← s0]; exact ARow.fresh W0 _ _
  have HB1 := mhid hb1
  have HROW := mhid hrow
  have HBOX := mhid hbox
  have HW := mhid (And.intro hW0 hW1)
  unfold litC at HW HBOX
  clear hb0 hb1 hrow hbox
  have HSZ := mhid (show (Tryz.prog.info? 76).map (·.size) = some (litC w.heap.size 5 false).toArray.size from by kernel_rfl)
  have HONE := mhid (show (litC w.heap.size 5 false).toArray.all (·.oneCell') = true from by simp [litC, Value.oneCell'])
  unfold litC at HSZ HONE
  have HZ := mhid (show ∀ z, ((w.alloc (.cells #[.int .u16 0, .int .u16 100, .int .u16 200] 73)).alloc z).heap[w.heap.size + 1]? = some z from fun z => by
    have h := heap_alloc_new (w.alloc (.cells #[.int .u16 0, .int .u16 100, .int .u16 200] 73)) z
    rw [World.size_alloc] at h
    exact h)
  have HQ := mhid (show ∀ z, ((w.alloc (.cells #[.int .u16 0, .int .u16 100, .int .u16 200] 73)).alloc (.cells z 76)).setRow (w.heap.size + 1) (litC w.heap.size 5 false).toArray = W1 from fun z => by
    have h := World.setRow_alloc_new W0 z (litC w.heap.size 5 false).toArray 76
    rw [← hW0, ← s0, h, hW1])
  unfold litC at HQ
  clear hW0 hW1 s0
  go_enter Tryz.func33, Tryz.ntmps33
  have HM1 := mhid (smade_any W1 (HT.out.keep HB1.out) (HR.out.keep HB1.out) (headC false 5) _ _ (headC_in HROW.out false 5 ⟨by decide, by decide⟩) (headC_may _ _))
  rw [headC_agg] at HM1
  unfold litC at HM1
  go_wp2_with (first | (refine wpList_store_row rfl 76 (.tmp 1) (.tmp 15) rfl (w.heap.size + 1) _ rfl rfl 76 _ (HZ.out _) HSZ.out rfl HONE.out ?_) | (refine wpList_load_row rfl 76 (.tmp 1) rfl (w.heap.size + 1) rfl 76 _ (0, 0) _ (setRow_heap _ _ _ _ _ _ (HZ.out _)) Tryz.underlying76 rfl HSZ.out ?_))
  rw [HQ.out]
  clear HZ HQ HW
  refine HM1.out.mono ?_
  rintro e W2 ⟨M, G, m, rfl, hM, hMade⟩
  have hoff : ∀ k, k = w.heap.size + 1 → G.R k = .none := fun k hk => by
    by_cases e : G.R k = .none
    · exact e
    · exact absurd (hM.lo k e) (by have := HBOX.out.lt; omega)
  have HOFF := mhid hoff
  have HBOX2 := mhid (HBOX.out.below hM.bel)
  have HROW2 := mhid (HROW.out.below hM.bel)
  have HB2 := mhid (HB1.out.trans (hM.bel.mono HB1.out.size))
  have HM2 := mhid hM
  have HMADE := mhid hMade
  have HLT := mhid HBOX.out.lt
  have c15 := HBOX2.out.cell (k := 15) rfl
  have c19 := HBOX2.out.cell (k := 19) rfl
  have f15 := HBOX2.out.frozen 15
  have f19 := HBOX2.out.frozen 19
  obtain ⟨W3, hW3⟩ : ∃ W3, W3 = (W2.setCell ⟨w.heap.size + 1, 19, none⟩ (.bool true)).setCell ⟨w.heap.size + 1, 15, none⟩ (.int .u32 0) := ⟨_, rfl⟩
  have hbox3 : ARow ((W2.setCell ⟨w.heap.size + 1, 19, none⟩ (.bool true)).setCell ⟨w.heap.size + 1, 15, none⟩ (.int .u32 0)) (w.heap.size + 1) 76 (litC w.heap.size 0 true) := ((HBOX2.out.set 19 (.bool true)).set 15 (.int .u32 0)).to rfl
  have ho3 : Only (fun k => k = w.heap.size + 1) W2 W3 := by rw [hW3]; exact ((Only.refl (fun k => k = w.heap.size + 1) W2).setCell (p := ⟨w.heap.size + 1, 19, none⟩) rfl _).setCell (p := ⟨w.heap.size + 1, 15, none⟩) rfl _
  have hb3 : Below w.heap.size w W3 := HB2.out.trans (ho3.below HB2.out.size fun k hk e => by omega)
  have HBOX3 := mhid hbox3
  have HSZ2 := mhid (show (Tryz.prog.info? 76).map (·.size) = some (litC w.heap.size 0 true).toArray.size from by kernel_rfl)
  unfold litC at HBOX3 HSZ2
  have HB3 := mhid hb3
  have HM3 := mhid (hM.base (w00 := w) ho3 HOFF.out hb3 (by have := HB1.out.size; omega))
  have HROW3 := mhid (show ARow W3 w.heap.size 73 [.int .u16 0, .int .u16 100, .int .u16 200] from HROW2.out.of_block (ho3.block w.heap.size HROW2.out.lt (by omega)))
  have HM1' := mhid (smade_any W3 (HT.out.keep hb3) (HR.out.keep hb3) (headC true 0) _ _ (headC_in HROW3.out true 0 ⟨by decide, by decide⟩) (headC_may _ _))
  rw [headC_agg] at HM1'
  unfold litC at HM1'
  have HW3 := mhid hW3
  clear hoff hM hMade hbox3 ho3 hb3 hW3 HSZ HONE HBOX HROW HROW2 HM1 HB1 HB2 HM2
  go_wp2_with (refine wpList_load_row rfl 76 (.tmp 1) rfl (w.heap.size + 1) rfl 76 _ (0, 0) _ HBOX3.out Tryz.underlying76 rfl HSZ2.out ?_)
  rw [← HW3.out]
  clear c15 c19 f15 f19 HW3 HBOX3 HSZ2 HBOX2
  refine HM1'.out.mono ?_
  rintro e w4 ⟨O, G2, o, rfl, hO, hMadeO⟩
  have HS4 := mhid (show MIs w w4 G M m ∧ MIs w w4 G2 O o ∧ Apart G G2 from ⟨HM3.out.keepb hO.bel, ⟨hO.at', fun k hk => Nat.le_trans HB3.out.size (hO.lo k hk), HB3.out.trans (hO.bel.mono HB3.out.size)⟩, Apart.fresh HM3.out.at' hO.lo⟩)
  have HMADEO := mhid hMadeO
  clear hO hMadeO HM1' HM3
  obtain ⟨k1, m', h1, hk1, hRest, hAf, -, -, hwin, hmem⟩ := swap_go HMADE.out (headC_may _ _) ⟨by decide, by decide⟩ headSt_bd HS4.out.1.at'.ok (by rw [head_live.1]; decide)
  rw [head_live.2.1] at hRest hAf hwin hmem
  rw [head_pc.1] at hRest hAf
  rw [head_n] at hk1 hwin hmem
  rw [head_sp] at hwin
  obtain ⟨k2, o', h2, hk2, hRestO, hAfO, -, -, -, hmemO⟩ := swap_go HMADEO.out (headC_may _ _) ⟨by decide, by decide⟩ headSt_bd HS4.out.2.1.at'.ok (by rw [head_live.2.2.1]; decide)
  rw [head_live.2.2.2] at hRestO hmemO
  rw [head_pc.2] at hRestO
  rw [head_n] at hk2 hmemO
  have HF1 := mhid (headM_facts HS4.out.1.at'.ok HMADE.out hmem hwin hAf.nw)
  have HF2 := mhid (headO_facts HS4.out.2.1.at'.ok HMADEO.out hmemO)
  have HLM := mhid (show m'.mem.length = 8192 from by rw [hmem, nextS_len]; exact (half_tcb (HMADE.out.trap (headC_may _ _) ⟨by decide, by decide⟩ HS4.out.1.at'.ok)).1)
  have HWI := mhid (show m'.wim = 4 from by
    have := hAf.wim
    have hnw : m.f.nw = 3 := by have := HMADE.out.nw; have h3 : (headC false 5).nw = 3 := rfl; omega
    rw [hnw] at this; exact this)
  have HR1 := mhid (And.intro h1 (And.intro (show k1 ≤ 260 by omega) hRest))
  have HR2 := mhid (And.intro h2 (And.intro (show k2 ≤ 260 by omega) hRestO))
  clear h1 hk1 hRest hAf hwin hmem h2 hk2 hRestO hAfO hmemO
  go_wp2_with fail
  refine (sruns_any w w4 HT.out HR.out G M m m' HS4.out.1 1704 260 k1 (by decide) (by decide) HR1.out.2.1 HR1.out.1 (by rw [outL_madeS HMADE.out]; decide) HR1.out.2.2).mono ?_
  rintro e w5 ⟨rfl, G5, hM5, hkk⟩
  have HS5 := mhid (And.intro hM5 (HS4.out.2.1.other HS4.out.1 HS4.out.2.2 hkk))
  clear hM5 hkk HS4
  go_wp2_with fail
  refine (sruns_any w w5 HT.out HR.out G2 O o o' HS5.out.2.1 1704 260 k2 (by decide) (by decide) HR2.out.2.1 HR2.out.1 (by rw [outL_madeS HMADEO.out]; decide) HR2.out.2.2).mono ?_
  rintro e w6 ⟨rfl, G6, hO6, hkk⟩
  have HS6 := mhid (And.intro (HS5.out.1.other HS5.out.2.1 HS5.out.2.2.symm hkk) hO6)
  clear hO6 hkk HS5
  go_wp2_with fail
  refine (mmem_any w6 G5 M m' HS6.out.1.1.at').mono ?_
  rintro e w' ⟨rfl, rfl⟩
  go_wp2_with fail
  refine (load_any w6 G5.mB G5.gB m'.mem HS6.out.1.1.at'.mem 128 4 (by decide) (by decide)).mono ?_
  rintro e w' ⟨rfl, rfl⟩
  rw [HF1.out.1]
  go_wp2_with fail
  refine (mmem_any w6 G5 M m' HS6.out.1.1.at').mono ?_
  rintro e w' ⟨rfl, rfl⟩
  go_wp2_with fail
  refine (load_any w6 G5.mB G5.gB m'.mem HS6.out.1.1.at'.mem 64 4 (by decide) (by decide)).mono ?_
  rintro e w' ⟨rfl, rfl⟩
  rw [HF1.out.2.1]
  go_wp2_with fail
  refine (mmem_any w6 G6 O o' HS6.out.2.at').mono ?_
  rintro e w' ⟨rfl, rfl⟩
  go_wp2_with fail
  refine (load_any w6 G6.mB G6.gB o'.mem HS6.out.2.at'.mem 76 4 (by decide) (by decide)).mono ?_
  rintro e w' ⟨rfl, rfl⟩
  rw [HF2.out]
  go_wp2_with fail
  refine (mfile_any w6 G5 M m' HS6.out.1.1.at').mono ?_
  rintro e w' ⟨rfl, rfl⟩
  go_wp2_with fail
  refine (fget_any w6 G5.F G5.Wb G5.wc m'.f HS6.out.1.1.at'.file 1 0 14).mono ?_
  rintro e w7 ⟨rfl, n7, hn7⟩
  subst hn7
  rw [HF1.out.2.2]
  have HM7 := mhid (HS6.out.1.1.drewN n7)
  clear HS6
  go_wp2_with fail
  refine (sframe_any 1000 (by decide) (w6.drewN n7)).mono ?_
  rintro e w' ⟨rfl, rfl⟩
  go_wp2_with fail
  refine (mwim_any (w6.drewN n7) G5 M m' HM7.out.at').mono ?_
  rintro e w' ⟨rfl, rfl⟩
  rw [HWI.out]
  have HB7 := mhid HM7.out.bel
  generalize w6.drewN n7 = w7 at *
  go_wp2_with fail
  refine (swall_nil w7 3).mono ?_
  rintro e w' ⟨rfl, rfl⟩
  go_wp2_with fail
  refine (new_lst w7 w7 (Below.refl _ _)).mono ?_
  rintro e w9 ⟨pa, S0, rfl, hl, hS0, hb9⟩
  have H0 := mhid (show BsAt w7 w9 pa S0 asm0 from ⟨hl, TabLo.start (HT.out.keep HB7.out) hb9, hb9⟩)
  have HB9 := mhid (HB7.out.trans (hb9.mono HB7.out.size))
  clear hl hS0 hb9
  go_wp2_with fail
  refine (swall_bad H0.out (by decide) 33 (by decide)).mono ?_
  rintro e w10 ⟨rfl, hb10⟩
  have HB10 := mhid (HB9.out.trans (hb10.mono HB9.out.size))
  clear hb10
  go_wp2_with fail
  first
    | go_ret2
    | go_ret
  exact ⟨rfl, HB10.out⟩
end Go.Proofs.YtajholbcpmjhiaaGreatDoor
