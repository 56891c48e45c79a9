/- The walk of muntinref14.Check. -/
import Derived.Test.YthahjnjkiljaaaaShapeCheck
import Derived.Test.YthahjnjkiljaaaaShapeRBlock
import Derived.Test.YthahjnjkiljaaaaShapeFunction
namespace Go.Proofs.Ythahjnjkiljaaaa
open Go.RowKit Go.Deep
set_option linter.unusedVariables false
set_option linter.unusedSimpArgs false
theorem topB_no {p : Prg} (h : ¬ (0 ≤ p.heap ∧ p.heap ≤ 1024 ∧ 1 ≤ p.funcs.length ∧ p.funcs.length ≤ 64 ∧ 1 ≤ p.threads.length ∧ p.threads.length ≤ 4)) : topB p = false := by unfold topB; rw [decide_eq_false h]; rfl
theorem topB_bad {p : Prg} {k : Nat} {t : Int} (h : p.threads[k]? = some t) (hb : badT p.funcs t = true) : topB p = false := by
  unfold topB
  have : p.threads.any (badT p.funcs) = true := List.any_eq_true.2 ⟨t, List.mem_of_getElem? h, hb⟩
  rw [this]; simp
theorem topB_yes {p : Prg} (h : 0 ≤ p.heap ∧ p.heap ≤ 1024 ∧ 1 ≤ p.funcs.length ∧ p.funcs.length ≤ 64 ∧ 1 ≤ p.threads.length ∧ p.threads.length ≤ 4) (hb : ∀ t ∈ p.threads, badT p.funcs t = false) : topB p = true := by
  unfold topB
  have : p.threads.any (badT p.funcs) = false := List.any_eq_false.2 fun t ht => by rw [hb t ht]; simp
  rw [this, decide_eq_true h]; rfl
theorem inforow : (Try.prog.info? 45).map (fun i => (i.zero, i.size, i.bytes)) = some (some (.slice none 0 0), 1, 24) := by kernel_rfl
/-- The lacks of the first registers, in a slice of one's own. -/
def LackRow (w : World) (B : Nat) (v : Value) (bs : List Blk) (A r : Nat) : Prop :=
  ∃ xs, w.ownsRow B 45 1 v r xs ∧ ∀ q, q < r → ∃ u g, xs[q]? = some u ∧ SetAt w g u (lacksL bs A q)
theorem LackRow.below {w w' : World} {B : Nat} {v : Value} {bs : List Blk} {A r : Nat} (h : LackRow w B v bs A r) (hb : Below w.heap.size w w') : LackRow w' B v bs A r := by
  obtain ⟨xs, h1, h2⟩ := h
  refine ⟨xs, ownsRow_below h1 hb, fun q hq => ?_⟩
  obtain ⟨u, g, h3, h4⟩ := h2 q hq
  exact ⟨u, g, h3, h4.below hb⟩
theorem LackRow.apart {w : World} {B n : Nat} {v : Value} {xs : List Value} (h : w.ownsRow B 45 1 v n xs) {g : Nat} {l : List Value} (hg : VRow w g 4 l) : v.ownBlock ≠ some g := by
  intro e
  rcases h.2 with ⟨rfl, _⟩ | ⟨k, cap, cur, rfl, h2, h3, _⟩
  · cases e
  · simp only [Value.ownBlock, Option.some.injEq] at e
    subst e
    obtain ⟨c2, h4, _⟩ := hg
    rw [h3] at h4
    simp at h4
theorem SetAt.grown {w w' : World} {row : Option Nat} {g : Nat} {v : Value} {l : List Bool} (h : SetAt w g v l) (hg : w.grownBy w' row) (hr : row ≠ some g) : SetAt w' g v l := ⟨h.1, h.2.of_block (hg.block g h.2.lt (fun e => hr e.symm))⟩
theorem LackRow.more {w w' : World} {B : Nat} {v v' : Value} {bs : List Blk} {A r : Nat} {xs : List Value} (h : w.ownsRow B 45 1 v r xs) (h2 : ∀ q, q < r → ∃ u g, xs[q]? = some u ∧ SetAt w g u (lacksL bs A q)) {u : Value} {g : Nat} (hu : SetAt w g u (lacksL bs A r))
    (hown : w'.ownsRow B 45 1 v' (r + 1) (xs ++ [u])) (hgr : w.grownBy w' v.ownBlock) : LackRow w' B v' bs A (r + 1) := by
  refine ⟨_, hown, fun q hq => ?_⟩
  have hl : xs.length = r := by have := h.1; omega
  rcases Nat.lt_or_ge q r with h1 | h1
  · obtain ⟨u', g', h3, h4⟩ := h2 q h1
    exact ⟨u', g', by rw [List.getElem?_append_left (by omega)]; exact h3, h4.grown hgr (LackRow.apart h h4.2)⟩
  · obtain rfl : q = r := by omega
    exact ⟨u, g, by rw [List.getElem?_append_right (by omega), hl]; simp, hu.grown hgr (LackRow.apart h hu.2)⟩
theorem LackRow.in {w : World} {B : Nat} {p : Option Addr} {c : Nat} {bs : List Blk} {A r : Nat} (h : LackRow w B (.slice p r c) bs A r) : LacksIn w p bs A r := by
  obtain ⟨xs, h1, h2⟩ := h
  rcases Nat.eq_zero_or_pos r with h0 | h0
  · exact ⟨0, fun h => by omega, fun q hq => by omega⟩
  · obtain ⟨g, c', hv, _, hr⟩ := VRow.of_own h1 (fun e => by cases e; omega)
    cases hv
    refine ⟨g, fun _ => rfl, fun q hq => ?_⟩
    obtain ⟨u, k, h3, h4⟩ := h2 q hq
    exact ⟨u, k, hr.cell h3, h4⟩
set_option maxRecDepth 100000 in
set_option maxHeartbeats 16000000 in
theorem rcheck_any (p : Prg) (pt : Option Addr) (ct : Nat) (pf : Option Addr) (cf : Nat) (w : World) (hT : IntsIn w (.slice pt p.threads.length ct) p.threads) (hF : FnsIn w (.slice pf p.funcs.length cf) p.funcs) :
    Calls Try.prog 10 #[.agg #[.int .i64 p.heap, .slice pt p.threads.length ct, .slice pf p.funcs.length cf]] w fun e w' => e = .returned (checkV p) ∧ Below w.heap.size w w' := by
  have hfl := hF.1
  have htl := hT.1
  obtain ⟨_, _, fb, fo, hfe, _, HFS⟩ := hF.hids
  cases hfe
  obtain ⟨_, _, tb, to, hte, _, HTS⟩ := hT.hids
  cases hte
  have HPF := shid HFS.out.1
  have HFN := shid hF
  have HTN := shid hT
  have HKF := shid (fun (W : World) (hb : Below w.heap.size w W) (k : Nat) (x : Fnx) (hk : p.funcs[k]? = some x) => (HFS.out.2 k x hk).keep hb)
  have HKT := shid (fun (W : World) (hb : Below w.heap.size w W) (k : Nat) (x : Int) (hk : p.threads[k]? = some x) => (HTS.out.2 k x hk).keep hb)
  have HPT := shid HTS.out.1
  have HPB := shid ((PBox.new w p.heap (.slice pt p.threads.length ct) (.slice pf p.funcs.length cf) 25).keep (al1 _ (.cells #[.int .i64 0, .int .i64 0] 29)))
  have HQ0 := shid (QBox.new (w.alloc (.cells #[.int .i64 p.heap, .slice pt p.threads.length ct, .slice pf p.funcs.length cf] 25)) (.int .i64 0) (.int .i64 0) 29)
  have HW0 := shid (al2 w (.cells #[.int .i64 p.heap, .slice pt p.threads.length ct, .slice pf p.funcs.length cf] 25) (.cells #[.int .i64 0, .int .i64 0] 29))
  simp only [World.size_alloc] at HQ0
  clear hF hT HFS HTS
  obtain ⟨_, k0, k1, k2⟩ := HPB.out
  by_cases z0 : p.heap < 0
  · have q0 := decide_eq_true z0
    have HTB := shid (topB_no (p := p) (fun h => by omega))
    clear z0
    go_enter Try.func10, Try.ntmps10
    go_wp2_with fail
    exact bodyPost_ret (v := .tuple #[.agg #[.int .i64 (-1), .int .i64 (-1)], .int .i64 140]) (by simp [results, Try.results10, go_sem]; try rfl) rfl ⟨by unfold checkV; rw [checkS_top HTB.out], al2 _ _ _⟩
  have q0 := decide_eq_false z0
  by_cases z1 : 1024 < p.heap
  · have q1 := decide_eq_true z1
    have HTB := shid (topB_no (p := p) (fun h => by omega))
    clear z1
    go_enter Try.func10, Try.ntmps10
    go_wp2_with fail
    exact bodyPost_ret (v := .tuple #[.agg #[.int .i64 (-1), .int .i64 (-1)], .int .i64 140]) (by simp [results, Try.results10, go_sem]; try rfl) rfl ⟨by unfold checkV; rw [checkS_top HTB.out], al2 _ _ _⟩
  have q1 := decide_eq_false z1
  by_cases z2 : (p.funcs.length : Int) < 1
  · have q2 := decide_eq_true z2
    have HTB := shid (topB_no (p := p) (fun h => by omega))
    clear z2
    go_enter Try.func10, Try.ntmps10
    go_wp2_with fail
    exact bodyPost_ret (v := .tuple #[.agg #[.int .i64 (-1), .int .i64 (-1)], .int .i64 140]) (by simp [results, Try.results10, go_sem]; try rfl) rfl ⟨by unfold checkV; rw [checkS_top HTB.out], al2 _ _ _⟩
  have q2 := decide_eq_false z2
  by_cases z3 : (64 : Int) < p.funcs.length
  · have q3 := decide_eq_true z3
    have HTB := shid (topB_no (p := p) (fun h => by omega))
    clear z3
    go_enter Try.func10, Try.ntmps10
    go_wp2_with fail
    exact bodyPost_ret (v := .tuple #[.agg #[.int .i64 (-1), .int .i64 (-1)], .int .i64 140]) (by simp [results, Try.results10, go_sem]; try rfl) rfl ⟨by unfold checkV; rw [checkS_top HTB.out], al2 _ _ _⟩
  have q3 := decide_eq_false z3
  by_cases z4 : (p.threads.length : Int) < 1
  · have q4 := decide_eq_true z4
    have HTB := shid (topB_no (p := p) (fun h => by omega))
    clear z4
    go_enter Try.func10, Try.ntmps10
    go_wp2_with fail
    exact bodyPost_ret (v := .tuple #[.agg #[.int .i64 (-1), .int .i64 (-1)], .int .i64 140]) (by simp [results, Try.results10, go_sem]; try rfl) rfl ⟨by unfold checkV; rw [checkS_top HTB.out], al2 _ _ _⟩
  have q4 := decide_eq_false z4
  by_cases z5 : (4 : Int) < p.threads.length
  · have q5 := decide_eq_true z5
    have HTB := shid (topB_no (p := p) (fun h => by omega))
    clear z5
    go_enter Try.func10, Try.ntmps10
    go_wp2_with fail
    exact bodyPost_ret (v := .tuple #[.agg #[.int .i64 (-1), .int .i64 (-1)], .int .i64 140]) (by simp [results, Try.results10, go_sem]; try rfl) rfl ⟨by unfold checkV; rw [checkS_top HTB.out], al2 _ _ _⟩
  have q5 := decide_eq_false z5
  have HHK := shid (show 0 ≤ p.heap ∧ p.heap ≤ 1024 ∧ 1 ≤ p.funcs.length ∧ p.funcs.length ≤ 64 ∧ 1 ≤ p.threads.length ∧ p.threads.length ≤ 4 by omega)
  obtain rfl := HPF.out (by omega)
  obtain rfl := HPT.out (by omega)
  go_enter Try.func10, Try.ntmps10
  go_wp2_with fail
  clear k0 k1 k2 q0 q1 q2 q3 q4 q5 z0 z1 z2 z3 z4 z5
  have hn64 := HHK.out.2.2.2.1
  generalize (w.alloc (.cells #[.int .i64 p.heap, .slice (some ⟨tb, to, none⟩) p.threads.length ct, .slice (some ⟨fb, fo, none⟩) p.funcs.length cf] 25)).alloc (.cells #[.int .i64 0, .int .i64 0] 29) = W0 at *
  have HPB1 := HPB
  have HQ1 := HQ0
  have HB1 := HW0
  clear HPB HQ0 HW0
  go_loopw [4] (fun i wr => ∃ k : Nat, k ≤ p.threads.length ∧ i = .int .i64 k ∧ (∀ m, m < k → ∀ t, p.threads[m]? = some t → badT p.funcs t = false) ∧ wr = W0) (fun i _ => p.threads.length - (intOf i).toNat)
  case atStart => exact ⟨0, Nat.zero_le _, rfl, fun m hm => by omega, rfl⟩
  case round =>
    obtain ⟨k, hk, rfl, hf, rfl⟩ := hrel
    have HF := shid hf
    clear hf
    obtain ⟨_, k0, k1, k2⟩ := HPB1.out
    by_cases hlt : k < p.threads.length
    · have h1 : (k : Int) < p.threads.length := by omega
      have HX := shid (List.getElem?_eq_getElem hlt)
      generalize p.threads[k] = t at HX
      have ht := HKT.out wr HB1.out k t HX.out
      have c0 := ht.1
      have hti := ht.2
      rw [Nat.mul_one] at c0
      have HNEXT := shid (show badT p.funcs t = false → ∀ m, m < k + 1 → ∀ t, p.threads[m]? = some t → badT p.funcs t = false from fun hb m hm u hu => by
        rcases Nat.lt_or_ge m k with h | h
        · exact HF.out m h u hu
        · obtain rfl : m = k := by omega
          rw [HX.out] at hu; cases hu; exact hb)
      by_cases z1 : t < 0
      · have HTB := shid (topB_bad HX.out (show badT p.funcs t = true by unfold badT; rw [decide_eq_false (by omega)]; rfl))
        have q1 := decide_eq_true z1
        clear z1 ht hti
        have HCS := shid (show checkS p = (-1, -1, 140) from checkS_top HTB.out)
        have HQS := shid (HQ1.out.set (.int .i64 (-1)) (.int .i64 (-1)))
        have HBE := shid ((HB1.out).trans (HQ1.out.sets (B := w.heap.size) (by omega) (.int .i64 (-1)) (.int .i64 (-1))))
        obtain ⟨_, y0, y1, y2, y3⟩ := HQ1.out
        go_wp2_with fail
        clear y0 y1 y2 y3
        generalize (wr.setCell ⟨w.heap.size + 1, 0, none⟩ (.int .i64 (-1))).setCell ⟨w.heap.size + 1, 1, none⟩ (.int .i64 (-1)) = W9 at *
        obtain ⟨_, s0, s1, _, _⟩ := HQS.out
        exact bodyPost_ret (v := .tuple #[.agg #[.int .i64 (-1), .int .i64 (-1)], .int .i64 140]) (by simp [results, Try.results10, go_sem, s0, s1]; try rfl) rfl ⟨by unfold checkV; rw [HCS.out], HBE.out⟩
      have q1 := decide_eq_false z1
      by_cases z2 : (p.funcs.length : Int) ≤ t
      · have HTB := shid (topB_bad HX.out (show badT p.funcs t = true by unfold badT; rw [decide_eq_false (by omega)]; rfl))
        have q2 := decide_eq_true z2
        clear z1 z2 ht hti
        have HCS := shid (show checkS p = (-1, -1, 140) from checkS_top HTB.out)
        have HQS := shid (HQ1.out.set (.int .i64 (-1)) (.int .i64 (-1)))
        have HBE := shid ((HB1.out).trans (HQ1.out.sets (B := w.heap.size) (by omega) (.int .i64 (-1)) (.int .i64 (-1))))
        obtain ⟨_, y0, y1, y2, y3⟩ := HQ1.out
        go_wp2_with fail
        clear y0 y1 y2 y3
        generalize (wr.setCell ⟨w.heap.size + 1, 0, none⟩ (.int .i64 (-1))).setCell ⟨w.heap.size + 1, 1, none⟩ (.int .i64 (-1)) = W9 at *
        obtain ⟨_, s0, s1, _, _⟩ := HQS.out
        exact bodyPost_ret (v := .tuple #[.agg #[.int .i64 (-1), .int .i64 (-1)], .int .i64 140]) (by simp [results, Try.results10, go_sem, s0, s1]; try rfl) rfl ⟨by unfold checkV; rw [HCS.out], HBE.out⟩
      have q2 := decide_eq_false z2
      have z0 : 0 ≤ t := by omega
      obtain ⟨tn, rfl⟩ := Int.eq_ofNat_of_zero_le z0
      have htl2 : tn < p.funcs.length := by omega
      have htl3 : (tn : Int) < p.funcs.length := by omega
      have hFn := FnsIn.keep HFN.out HB1.out
      obtain ⟨_, _, fb2, fo2, hfe2, _, HFS2⟩ := hFn.hids
      cases hfe2
      have hpf := HFS2.out.1 (by omega)
      cases hpf
      have c1 := fnargs_cell HFS2.out.2 tn htl2
      have HBD := shid (show badT p.funcs tn = decide (argsOf p.funcs tn ≠ 0) by unfold badT; rw [decide_eq_true (by omega)]; rfl)
      generalize argsOf p.funcs tn = a at c1 HBD
      clear z1 z2 z0 hFn ht hti HFS2
      by_cases ha : a = 0
      · have hb : (a != 0) = false := by simpa using ha
        have HN := shid (HNEXT.out (by rw [HBD.out]; exact decide_eq_false (fun h => h ha)))
        clear ha HNEXT
        go_wp2_with fail
        go_roundw
        case rel => exact ⟨k + 1, by omega, by go_num, HN.out, by first | rfl | trivial⟩
        case measure => simp [intOf]; omega
      · have hb : (a != 0) = true := by simpa using ha
        have HTB := shid (topB_bad HX.out (show badT p.funcs tn = true by rw [HBD.out]; exact decide_eq_true ha))
        clear ha HNEXT
        have HCS := shid (show checkS p = (-1, -1, 140) from checkS_top HTB.out)
        have HQS := shid (HQ1.out.set (.int .i64 (-1)) (.int .i64 (-1)))
        have HBE := shid ((HB1.out).trans (HQ1.out.sets (B := w.heap.size) (by omega) (.int .i64 (-1)) (.int .i64 (-1))))
        obtain ⟨_, y0, y1, y2, y3⟩ := HQ1.out
        go_wp2_with fail
        clear y0 y1 y2 y3
        generalize (wr.setCell ⟨w.heap.size + 1, 0, none⟩ (.int .i64 (-1))).setCell ⟨w.heap.size + 1, 1, none⟩ (.int .i64 (-1)) = W9 at *
        obtain ⟨_, s0, s1, _, _⟩ := HQS.out
        exact bodyPost_ret (v := .tuple #[.agg #[.int .i64 (-1), .int .i64 (-1)], .int .i64 140]) (by simp [results, Try.results10, go_sem, s0, s1]; try rfl) rfl ⟨by unfold checkV; rw [HCS.out], HBE.out⟩
    · obtain rfl : k = p.threads.length := by omega
      have HTB := shid (topB_yes HHK.out (fun t ht => by
        obtain ⟨m, hm⟩ := List.getElem?_of_mem ht
        exact HF.out m (List.getElem?_eq_some_iff.1 hm).1 t hm))
      clear hlt hk HF HHK
      go_wp2_with fail
      clear k0 k1 k2
      obtain ⟨W1, hw1⟩ : ∃ W1, W1 = wr := ⟨wr, rfl⟩
      subst hw1
      go_loopw [6] (fun i wr => ∃ k : Nat, k ≤ p.funcs.length ∧ i = .int .i64 k ∧ (∀ m, m < k → badHead p.funcs m = false) ∧ Below W1.heap.size W1 wr) (fun i _ => p.funcs.length - (intOf i).toNat)
      case atStart => exact ⟨0, Nat.zero_le _, rfl, fun m hm => by omega, Below.refl _ _⟩
      case round =>
        obtain ⟨k, hk, rfl, hf, hbw⟩ := hrel
        have HF := shid hf
        have HBW := shid hbw
        have HBB := shid (sbt HB1.out hbw)
        have HPB := shid (HPB1.out.keep hbw)
        have HQ := shid (HQ1.out.keep hbw)
        clear hf hbw
        obtain ⟨_, k0, k1, k2⟩ := HPB.out
        by_cases hlt : k < p.funcs.length
        · have h1 : (k : Int) < p.funcs.length := by omega
          have HX := shid (List.getElem?_eq_getElem hlt)
          generalize p.funcs[k] = x at HX
          have HHD := shid (function_any p.funcs p.heap (some ⟨tb, to, none⟩) p.threads.length ct (some ⟨fb, fo, none⟩) cf k x HX.out wr (FnsIn.keep HFN.out HBB.out))
          have HBH := shid (badHead_at HX.out)
          generalize headB p.funcs k x = hb at HHD HBH
          go_wp2_with fail
          refine HHD.out.mono ?_
          rintro e w2 ⟨rfl, hb2⟩
          have HB2 := shid (sbt HBW.out hb2)
          have HBB2 := shid (sbt HBB.out hb2)
          have HQ2 := shid (HQ.out.keep hb2)
          clear hb2 k0 k1 k2
          cases hb with
          | true =>
            have HN := shid (lt_succ_all HF.out (show badHead p.funcs k = false by rw [HBH.out]; rfl))
            go_wp2_with fail
            go_roundw
            case rel => exact ⟨k + 1, by omega, by go_num, HN.out, HB2.out⟩
            case measure => simp [intOf]; omega
          | false =>
            have HCS := shid (show checkS p = ((k : Int), -1, 140) from checkS_head HTB.out hlt HF.out (by rw [HBH.out]; rfl))
            have HQS := shid (HQ2.out.set (.int .i64 ((k : Int))) (.int .i64 (-1)))
            have HBE := shid ((HBB2.out).trans (HQ2.out.sets (B := w.heap.size) (by omega) (.int .i64 ((k : Int))) (.int .i64 (-1))))
            obtain ⟨_, y0, y1, y2, y3⟩ := HQ2.out
            go_wp2_with fail
            clear y0 y1 y2 y3
            generalize (w2.setCell ⟨w.heap.size + 1, 0, none⟩ (.int .i64 ((k : Int)))).setCell ⟨w.heap.size + 1, 1, none⟩ (.int .i64 (-1)) = W9 at *
            obtain ⟨_, s0, s1, _, _⟩ := HQS.out
            exact bodyPost_ret (v := .tuple #[.agg #[.int .i64 ((k : Int)), .int .i64 (-1)], .int .i64 140]) (by simp [results, Try.results10, go_sem, s0, s1]; try rfl) rfl ⟨by unfold checkV; rw [HCS.out], HBE.out⟩
        · obtain rfl : k = p.funcs.length := by omega
          have HHA := shid HF.out
          clear hlt hk HF
          go_wp2_with fail
          clear k0 k1 k2
          obtain ⟨W2, hw2⟩ : ∃ W2, W2 = wr := ⟨wr, rfl⟩
          subst hw2
          clear HQ1 HPB1 HB1 HBW
          have HQ1 := HQ
          have HPB1 := HPB
          have HB1 := HBB
          clear HQ HPB HBB
          go_loopw [7] (fun i wr => ∃ k : Nat, k ≤ p.funcs.length ∧ i = .int .i64 k ∧ (∀ m, m < k → ∀ q, q < nbOf p.funcs m → badBlock p.funcs m q = false) ∧ Below W2.heap.size W2 wr) (fun i _ => p.funcs.length - (intOf i).toNat)
          case atStart => exact ⟨0, Nat.zero_le _, rfl, fun m hm => by omega, Below.refl _ _⟩
          case round =>
            obtain ⟨k, hk, rfl, hf, hbw⟩ := hrel
            have HF := shid hf
            have HBW := shid hbw
            have HBB := shid (sbt HB1.out hbw)
            have HPB := shid (HPB1.out.keep hbw)
            clear hf hbw
            obtain ⟨_, k0, k1, k2⟩ := HPB.out
            by_cases hlt : k < p.funcs.length
            · have h1 : (k : Int) < p.funcs.length := by omega
              have HX := shid (List.getElem?_eq_getElem hlt)
              generalize p.funcs[k] = x at HX
              obtain ⟨c0, c1, c2, ⟨bv, c3, hbv⟩, hnm, _, _⟩ := HKF.out wr HBB.out k x HX.out
              obtain ⟨pb, cb, rfl⟩ := hbv.shape
              have hbl := hbv.1
              have HBV := shid hbv
              have HNB := shid (nbOf_at HX.out)
              have HFC := shid (And.intro c0 (And.intro c1 (And.intro c2 c3)))
              clear hbv hnm c0 c1 c2 c3
              go_wp2_with fail
              clear k0 k1 k2
              obtain ⟨W3, hw3⟩ : ∃ W3, W3 = wr := ⟨wr, rfl⟩
              subst hw3
              go_loopw [8] (fun i wr => ∃ j : Nat, j ≤ x.blocks.length ∧ i = .int .i64 j ∧ (∀ q, q < j → badBlock p.funcs k q = false) ∧ Below W3.heap.size W3 wr) (fun i _ => x.blocks.length - (intOf i).toNat)
              case atStart => exact ⟨0, Nat.zero_le _, rfl, fun m hm => by omega, Below.refl _ _⟩
              case round =>
                obtain ⟨j, hj, rfl, hfj, hb4⟩ := hrel
                have HFJ := shid hfj
                have HB4 := shid hb4
                have HBB4 := shid (sbt HBB.out hb4)
                have HBW4 := shid (sbt HBW.out hb4)
                have HPB4 := shid (HPB.out.keep hb4)
                have HFC4 := shid (And.intro ((hb4.cell (World.block_lt_of_cell? _ _ HFC.out.1)).trans HFC.out.1) (And.intro ((hb4.cell (World.block_lt_of_cell? _ _ HFC.out.2.1)).trans HFC.out.2.1) (And.intro ((hb4.cell (World.block_lt_of_cell? _ _ HFC.out.2.2.1)).trans HFC.out.2.2.1) ((hb4.cell (World.block_lt_of_cell? _ _ HFC.out.2.2.2)).trans HFC.out.2.2.2))))
                have HQ := shid (HQ1.out.keep HBW4.out)
                clear hfj hb4
                obtain ⟨_, k0, k1, k2⟩ := HPB4.out
                obtain ⟨f0, f1, f2, f3⟩ := HFC4.out
                by_cases hltj : j < x.blocks.length
                · have h2 : (j : Int) < x.blocks.length := by omega
                  have HY := shid (List.getElem?_eq_getElem hltj)
                  generalize x.blocks[j] = y at HY
                  have HBL := shid (fun (W : World) (hb : Below wr.heap.size wr W) => rblock_any p.funcs p.heap (some ⟨tb, to, none⟩) p.threads.length ct (some ⟨fb, fo, none⟩) cf x.name x.args x.regs x.blocks pb cb j y HY.out W (FnsIn.keep HFN.out (sbt HBB4.out hb)) (BlksIn.keep HBV.out (sbt HB4.out hb)))
                  have HBH := shid (badBlock_at HX.out HY.out)
                  generalize blockB p.funcs x.blocks j y = hb at HBL HBH
                  go_wp2_with fail
                  have HKS : Hid (∀ w', Below wr.heap.size wr w' → w'.cell? ⟨w.heap.size, 0, none⟩ = some (.int .i64 p.heap) ∧ w'.cell? ⟨w.heap.size, 1, none⟩ = some (.slice (some ⟨tb, to, none⟩) p.threads.length ct) ∧ w'.cell? ⟨w.heap.size, 2, none⟩ = some (.slice (some ⟨fb, fo, none⟩) p.funcs.length cf) ∧ w'.cell? ⟨fb, fo + k * 4, none⟩ = some (.string x.name) ∧ w'.cell? ⟨fb, fo + k * 4 + 1, none⟩ = some (.int .i64 x.args) ∧ w'.cell? ⟨fb, fo + k * 4 + 2, none⟩ = some (.int .i64 x.regs) ∧ w'.cell? ⟨fb, fo + k * 4 + 3, none⟩ = some (.slice pb x.blocks.length cb)) := shid fun w' hb => by
                    exact ⟨(hb.cell (World.block_lt_of_cell? _ _ k0)).trans k0, (hb.cell (World.block_lt_of_cell? _ _ k1)).trans k1, (hb.cell (World.block_lt_of_cell? _ _ k2)).trans k2, (hb.cell (World.block_lt_of_cell? _ _ f0)).trans f0, (hb.cell (World.block_lt_of_cell? _ _ f1)).trans f1, (hb.cell (World.block_lt_of_cell? _ _ f2)).trans f2, (hb.cell (World.block_lt_of_cell? _ _ f3)).trans f3⟩
                  have hle : wr.heap.size ≤ wr.heap.size := Nat.le_refl _
                  have hbd : Below wr.heap.size wr wr.drew := (Below.refl _ _).drew
                  clear k0 k1 k2 f0 f1 f2 f3
                  go_region_held3 (fun w' => w'.cell? ⟨w.heap.size, 0, none⟩ = some (.int .i64 p.heap) ∧ w'.cell? ⟨w.heap.size, 1, none⟩ = some (.slice (some ⟨tb, to, none⟩) p.threads.length ct) ∧ w'.cell? ⟨w.heap.size, 2, none⟩ = some (.slice (some ⟨fb, fo, none⟩) p.funcs.length cf) ∧ w'.cell? ⟨fb, fo + k * 4, none⟩ = some (.string x.name) ∧ w'.cell? ⟨fb, fo + k * 4 + 1, none⟩ = some (.int .i64 x.args) ∧ w'.cell? ⟨fb, fo + k * 4 + 2, none⟩ = some (.int .i64 x.regs) ∧ w'.cell? ⟨fb, fo + k * 4 + 3, none⟩ = some (.slice pb x.blocks.length cb)) (first | (with_reducible exact HKS.out _ hbd) | (with_reducible exact HKS.out _ hb5))
                    (first
                      | (go_at_call 23; (with_reducible refine (HBL.out _ hbd).mono ?_); rintro e w5 ⟨rfl, hb50⟩; have hb5 : Below wr.heap.size wr w5 := sbt hbd hb50))
                  have HB5 := shid (sbt HB4.out hb5)
                  have HBB5 := shid (sbt HBB4.out hb5)
                  have HQ5 := shid (HQ.out.keep hb5)
                  clear hb50 hb5 HKS hbd HBL
                  cases hb with
                  | true =>
                    have HN := shid (lt_succ_all HFJ.out (show badBlock p.funcs k j = false by rw [HBH.out]; rfl))
                    go_wp2_with fail
                    go_roundw
                    case rel => exact ⟨j + 1, by omega, by go_num, HN.out, HB5.out⟩
                    case measure => simp [intOf]; omega
                  | false =>
                    have HCS := shid (show checkS p = ((k : Int), (j : Int), 140) from checkS_block HTB.out HHA.out hlt (by rw [HNB.out]; exact hltj) HF.out HFJ.out (by rw [HBH.out]; rfl))
                    have HQS := shid (HQ5.out.set (.int .i64 ((k : Int))) (.int .i64 ((j : Int))))
                    have HBE := shid ((HBB5.out).trans (HQ5.out.sets (B := w.heap.size) (by omega) (.int .i64 ((k : Int))) (.int .i64 ((j : Int)))))
                    obtain ⟨_, y0, y1, y2, y3⟩ := HQ5.out
                    go_wp2_with fail
                    clear y0 y1 y2 y3
                    generalize (w5.setCell ⟨w.heap.size + 1, 0, none⟩ (.int .i64 ((k : Int)))).setCell ⟨w.heap.size + 1, 1, none⟩ (.int .i64 ((j : Int))) = W9 at *
                    obtain ⟨_, s0, s1, _, _⟩ := HQS.out
                    exact bodyPost_ret (v := .tuple #[.agg #[.int .i64 ((k : Int)), .int .i64 ((j : Int))], .int .i64 140]) (by simp [results, Try.results10, go_sem, s0, s1]; try rfl) rfl ⟨by unfold checkV; rw [HCS.out], HBE.out⟩
                · obtain rfl : j = x.blocks.length := by omega
                  have HN := shid (lt_succ_all2 HF.out (show ∀ q, q < nbOf p.funcs k → badBlock p.funcs k q = false by rw [HNB.out]; exact HFJ.out))
                  go_wp2_with fail
                  go_roundw
                  case rel => exact ⟨k + 1, by omega, by go_num, HN.out, HBW4.out⟩
                  case measure => simp [intOf]; omega
            · obtain rfl : k = p.funcs.length := by omega
              have HBA := shid HF.out
              have HQ := shid (HQ1.out.keep HBW.out)
              clear hlt hk HF
              go_wp2_with fail
              clear k0 k1 k2
              obtain ⟨W4, hw4⟩ : ∃ W4, W4 = wr := ⟨wr, rfl⟩
              subst hw4
              clear HQ1 HPB1 HB1 HBW
              have HQ1 := HQ
              have HPB1 := HPB
              have HB1 := HBB
              clear HQ HPB HBB
              obtain ⟨i0, hi, hz0, hz1, hz2⟩ := info_parts inforow
              go_loopw [9] (fun i wr => ∃ k : Nat, k ≤ p.funcs.length ∧ i = .int .i64 k ∧ (∀ m, m < k → ∀ q, q < nbOf p.funcs m → badMiss p.funcs m q = false) ∧ Below W4.heap.size W4 wr) (fun i _ => p.funcs.length - (intOf i).toNat)
              case atStart => exact ⟨0, Nat.zero_le _, rfl, fun m hm => by omega, Below.refl _ _⟩
              case round =>
                obtain ⟨k, hk, rfl, hf, hbw⟩ := hrel
                have HF := shid hf
                have HBW := shid hbw
                have HBB := shid (sbt HB1.out hbw)
                have HPB := shid (HPB1.out.keep hbw)
                clear hf hbw
                obtain ⟨_, k0, k1, k2⟩ := HPB.out
                by_cases hlt : k < p.funcs.length
                · have h1 : (k : Int) < p.funcs.length := by omega
                  have HX := shid (List.getElem?_eq_getElem hlt)
                  generalize p.funcs[k] = x at HX
                  obtain ⟨c0, c1, c2, ⟨bv, c3, hbv⟩, hnm, _, _⟩ := HKF.out wr HBB.out k x HX.out
                  obtain ⟨pb, cb, rfl⟩ := hbv.shape
                  have hbl := hbv.1
                  have HBV := shid hbv
                  have HNB := shid (nbOf_at HX.out)
                  have HBM := shid (fun i => badMiss_at (i := i) HX.out)
                  obtain ⟨A, R, hA, hR, hAR, hR4, hbk⟩ := blksOk_of (heads_of HHA.out) (blocks_of HBA.out) HX.out
                  have HBK := shid hbk
                  generalize x.args = xa at *
                  generalize x.regs = xr at *
                  subst hA
                  subst hR
                  have HFB := shid (FBox.new wr x.name A R (.slice pb x.blocks.length cb) 37)
                  have HW3 := shid (al1 wr (.cells #[.string x.name, .int .i64 A, .int .i64 R, .slice pb x.blocks.length cb] 37))
                  have HB3 := shid (sbt HBW.out HW3.out)
                  have HBB3 := shid (sbt HBB.out HW3.out)
                  have HBV3 := shid (BlksIn.keep HBV.out HW3.out)
                  clear hbv hnm hbk
                  go_wp2_with fail
                  clear c0 c1 c2 c3 k0 k1 k2
                  generalize wr.alloc (.cells #[.string x.name, .int .i64 A, .int .i64 R, .slice pb x.blocks.length cb] 37) = W3 at *
                  generalize wr.heap.size = G3 at *
                  clear HBW HW3 HBV
                  go_loopw [11, 12] (fun lv i wr => ∃ r : Nat, r ≤ R ∧ i = .int .i64 r ∧ LackRow wr W3.heap.size lv x.blocks A r ∧ Below W3.heap.size W3 wr) (fun _ i _ => R - (intOf i).toNat)
                  case atStart => exact ⟨0, Nat.zero_le _, rfl, ⟨[], World.ownsRow_nil _ _ _ _, fun q hq => by omega⟩, Below.refl _ _⟩
                  case round =>
                    obtain ⟨r, hr, rfl, hlr, hb4⟩ := hrel
                    obtain ⟨pl, cl, rfl, hlo⟩ := own_shape hlr.choose_spec.1
                    have HLR := shid hlr
                    have HLO := shid hlo
                    have HB4 := shid hb4
                    have HFB4 := shid (HFB.out.keep hb4)
                    clear hlr hb4 hlo
                    obtain ⟨_, f0, f1, f2, f3⟩ := HFB4.out
                    by_cases hltr : r < R
                    · have h2 : (r : Int) < R := by omega
                      have HLK := shid (lacks_any x.name A R hR4 x.blocks HBK.out pb cb r wr (BlksIn.keep HBV3.out HB4.out))
                      go_wp2_with fail
                      refine HLK.out.mono ?_
                      rintro e w5 ⟨v5, g5, rfl, hg5, hs5, hb5⟩
                      have HS5 := shid hs5
                      have HB5 := shid (sbt HB4.out hb5)
                      obtain ⟨xs, hx1, hx2⟩ := HLR.out.below hb5
                      have HX1 := shid hx1
                      have HX2 := shid hx2
                      obtain ⟨⟨c5, rfl⟩, _⟩ := hs5
                      have hz5 := hb5.size
                      clear hg5 hb5 hx1 hx2 HLK f0 f1 f2 f3
                      have HAL := shid (al1 w5 (.cells #[.slice (some ⟨g5, 0, none⟩) (lacksL x.blocks A r).length c5] 45))
                      have HNW := shid (show (w5.alloc (.cells #[.slice (some ⟨g5, 0, none⟩) (lacksL x.blocks A r).length c5] 45)).cell? ⟨w5.heap.size, 0, none⟩ = some (.slice (some ⟨g5, 0, none⟩) (lacksL x.blocks A r).length c5) from cell_of_obj (heap_alloc_new w5 _))
                      have HLL := shid (lacksL_length x.blocks A r)
                      have h3 := HB4.out.size
                      go_wp2_with (at_builtin; refine wpList_append_own _ rfl _ _ 62 rfl W3.heap.size 45 i0 _ 1 24 Try.underlying62 hi hz0 hz1 hz2 rfl (by decide) _ _ _ rfl (ownsRow_below HX1.out HAL.out) ⟨w5.heap.size, 0, none⟩ 1 1 [.slice (some ⟨g5, 0, none⟩) (lacksL x.blocks A r).length c5] rfl rfl (fun j u hj => by
                        match j, hj with
                        | 0, hj => simp at hj; subst hj; rw [addr_add0]; exact HNW.out) (by simp [Value.oneCell']) (by unfold maxLen; omega) (by omega) (by simp; omega) ?_; intro v' w6 hown hgrow hnil)
                      have HLR6 := shid (LackRow.more (ownsRow_below HX1.out HAL.out) (fun q hq => by
                        obtain ⟨u, g, e1, e2⟩ := HX2.out q hq
                        exact ⟨u, g, e1, e2.below HAL.out⟩) (HS5.out.below HAL.out) hown hgrow)
                      have HB6 := shid (grown_below (B := W3.heap.size) (sbt HB5.out HAL.out) hgrow (by intro kk hkk; exact (HLO.out kk hkk).1) (by simp; omega))
                      obtain ⟨p6, c6, rfl, _⟩ := own_shape hown
                      clear hown hgrow hnil
                      go_simp
                      go_wp2_with fail
                      go_roundw
                      case rel => exact ⟨r + 1, by omega, by go_num, HLR6.out, HB6.out⟩
                      case measure => simp [intOf]; omega
                    · obtain rfl : r = R := by omega
                      have HLI := shid (LackRow.in HLR.out)
                      clear hltr HLR HLO
                      go_wp2_with fail
                      clear f0 f1 f2 f3
                      obtain ⟨W5, hw5⟩ : ∃ W5, W5 = wr := ⟨wr, rfl⟩
                      subst hw5
                      go_loopw [13] (fun i wr => ∃ j : Nat, j ≤ x.blocks.length ∧ i = .int .i64 j ∧ (∀ q, q < j → badMiss p.funcs k q = false) ∧ Below W5.heap.size W5 wr) (fun i _ => x.blocks.length - (intOf i).toNat)
                      case atStart => exact ⟨0, Nat.zero_le _, rfl, fun m hm => by omega, Below.refl _ _⟩
                      case round =>
                        obtain ⟨j, hj, rfl, hfj, hb6⟩ := hrel
                        have HFJ := shid hfj
                        have HB6 := shid hb6
                        have HB36 := shid (sbt HB4.out hb6)
                        have HBW6 := shid (sbt HB3.out HB36.out)
                        have HBB6 := shid (sbt HBB3.out HB36.out)
                        have HLI6 := shid (HLI.out.below hb6)
                        have HFB6 := shid (HFB4.out.keep hb6)
                        have HQ := shid (HQ1.out.keep HBW6.out)
                        clear hfj hb6
                        obtain ⟨_, f0, f1, f2, f3⟩ := HFB6.out
                        by_cases hltj : j < x.blocks.length
                        · have h2 : (j : Int) < x.blocks.length := by omega
                          have HY := shid (List.getElem?_eq_getElem hltj)
                          generalize x.blocks[j] = y at HY
                          have HMS := shid (missing_any x.name A r hR4 x.blocks HBK.out pb cb pl cl j y HY.out wr (BlksIn.keep HBV3.out HB36.out) HLI6.out)
                          have HMJ := shid (show badMiss p.funcs k j = missB x.blocks A j by rw [HBM.out])
                          generalize missB x.blocks A j = mb at HMS HMJ
                          go_wp2_with fail
                          refine HMS.out.mono ?_
                          rintro e w7 ⟨rfl, hb7⟩
                          have HB7 := shid (sbt HB6.out hb7)
                          have HBB7 := shid (sbt HBB6.out hb7)
                          have HQ7 := shid (HQ.out.keep hb7)
                          clear hb7 f0 f1 f2 f3
                          cases mb with
                          | false =>
                            have HN := shid (lt_succ_all HFJ.out (show badMiss p.funcs k j = false from HMJ.out))
                            go_wp2_with fail
                            go_roundw
                            case rel => exact ⟨j + 1, by omega, by go_num, HN.out, HB7.out⟩
                            case measure => simp [intOf]; omega
                          | true =>
                            have HCS := shid (show checkS p = ((k : Int), (j : Int), 140) from checkS_miss HTB.out HHA.out HBA.out hlt (by rw [HNB.out]; exact hltj) HF.out HFJ.out HMJ.out)
                            have HQS := shid (HQ7.out.set (.int .i64 ((k : Int))) (.int .i64 ((j : Int))))
                            have HBE := shid ((HBB7.out).trans (HQ7.out.sets (B := w.heap.size) (by omega) (.int .i64 ((k : Int))) (.int .i64 ((j : Int)))))
                            obtain ⟨_, y0, y1, y2, y3⟩ := HQ7.out
                            go_wp2_with fail
                            clear y0 y1 y2 y3
                            generalize (w7.setCell ⟨w.heap.size + 1, 0, none⟩ (.int .i64 ((k : Int)))).setCell ⟨w.heap.size + 1, 1, none⟩ (.int .i64 ((j : Int))) = W9 at *
                            obtain ⟨_, s0, s1, _, _⟩ := HQS.out
                            exact bodyPost_ret (v := .tuple #[.agg #[.int .i64 ((k : Int)), .int .i64 ((j : Int))], .int .i64 140]) (by simp [results, Try.results10, go_sem, s0, s1]; try rfl) rfl ⟨by unfold checkV; rw [HCS.out], HBE.out⟩
                        · obtain rfl : j = x.blocks.length := by omega
                          have HN := shid (lt_succ_all2 HF.out (show ∀ q, q < nbOf p.funcs k → badMiss p.funcs k q = false by rw [HNB.out]; exact HFJ.out))
                          clear HFB6
                          go_wp2_with fail
                          go_roundw
                          case rel => exact ⟨k + 1, by omega, by go_num, HN.out, HBW6.out⟩
                          case measure => simp [intOf]; omega
                · obtain rfl : k = p.funcs.length := by omega
                  have HQ := shid (HQ1.out.keep HBW.out)
                  have HCS := shid (show checkS p = (0, 0, 0) from checkS_ok HTB.out HHA.out HBA.out HF.out)
                  have HQS := shid (HQ.out.set (.int .i64 (0)) (.int .i64 (0)))
                  have HBE := shid ((HBB.out).trans (HQ.out.sets (B := w.heap.size) (by omega) (.int .i64 (0)) (.int .i64 (0))))
                  obtain ⟨_, y0, y1, y2, y3⟩ := HQ.out
                  go_wp2_with fail
                  clear y0 y1 y2 y3
                  generalize (wr.setCell ⟨w.heap.size + 1, 0, none⟩ (.int .i64 (0))).setCell ⟨w.heap.size + 1, 1, none⟩ (.int .i64 (0)) = W9 at *
                  obtain ⟨_, s0, s1, _, _⟩ := HQS.out
                  exact bodyPost_ret (v := .tuple #[.agg #[.int .i64 (0), .int .i64 (0)], .int .i64 0]) (by simp [results, Try.results10, go_sem, s0, s1]; try rfl) rfl ⟨by unfold checkV; rw [HCS.out], HBE.out⟩
end Go.Proofs.Ythahjnjkiljaaaa
