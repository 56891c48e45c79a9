/- Walks of the package lower: all, whole. -/
import Derived.Test.YtfbbodaapkfbdaaDoorG20
namespace Go.Proofs.YtfbbodaapkfbdaaDoor
open Go.RowKit
set_option linter.unusedVariables false
set_option linter.unusedSimpArgs false
theorem ldrewN {B : Nat} {a w : World} (h : Below B a w) (n : Nat) : Below B a (w.drewN n) := ⟨h.os, h.tape, h.output, h.size, h.block⟩
theorem within_quiet (f n : Int) {b : Bool} (hb : decide (0 ≤ f ∧ f < n) = b) (w : World) (m : Nat) : Calls Tryd.prog 34 #[.int .i64 f, .int .i64 n] (w.drewN m) fun e w' => e = .returned (.bool b) ∧ ∃ q, w' = w.drewN q :=
  (within_any f n (w.drewN m)).mono fun e w' ⟨h1, h2⟩ => ⟨by rw [h1, hb], m, h2.symm⟩
set_option maxRecDepth 100000 in
set_option maxHeartbeats 4000000 in
theorem all_far {g : Nat} {f : Int} {w : World} {pf : Option Addr} {nf cf : Nat} (k3 : w.cell? ⟨g, 3, none⟩ = some (.slice pf nf cf)) (k4 : w.cell? ⟨g, 4, none⟩ = some (.int .i64 f)) (hf : ¬ (0 ≤ f ∧ f < nf)) :
    Calls Tryd.prog 24 #[.pointer (some ⟨g, 0, none⟩)] w fun e w' => e = .returned (.bool false) ∧ Below w.heap.size w w' := by
  obtain ⟨w1, hw1⟩ : ∃ w1, w1 = w.alloc (.cells #[.pointer (some ⟨g, 0, none⟩)] 82) := ⟨_, rfl⟩
  have hb1 : Below w.heap.size w w1 := by rw [hw1]; exact (Below.refl _ w).alloc (Nat.le_refl _) _
  have c1 : w1.cell? ⟨w.heap.size, 0, none⟩ = some (.pointer (some ⟨g, 0, none⟩)) := by rw [hw1]; simp [go_sem]
  replace k3 := (hb1.cell (World.block_lt_of_cell? _ _ k3)).trans k3
  replace k4 := (hb1.cell (World.block_lt_of_cell? _ _ k4)).trans k4
  have HB := ahid hb1
  have HW := ahid (fun m => within_quiet f nf (decide_eq_false hf) w1 m)
  clear hb1 hf
  go_enter Tryd.func24, Tryd.ntmps24
  go_wp2_with fail
  rw [← hw1]
  clear hw1
  go_quiet ((go_at_call 34; exact HW.out _))
  go_wp2_with fail
  go_ret
  exact ⟨rfl, ldrewN HB.out _⟩
set_option maxRecDepth 100000 in
set_option maxHeartbeats 4000000 in
theorem all_odd {g f : Nat} {w : World} {nf cf nb cb nx cx bf of : Nat} {pb px : Option Addr} (k3 : w.cell? ⟨g, 3, none⟩ = some (.slice (some ⟨bf, of, none⟩) nf cf)) (k4 : w.cell? ⟨g, 4, none⟩ = some (.int .i64 f)) (k8 : w.cell? ⟨g, 8, none⟩ = some (.slice px nx cx)) (kb : w.cell? ⟨bf, of + f * 4 + 3, none⟩ = some (.slice pb nb cb)) (hf : f < nf) (hn : ¬ nx = nb) :
    Calls Tryd.prog 24 #[.pointer (some ⟨g, 0, none⟩)] w fun e w' => e = .returned (.bool false) ∧ Below w.heap.size w w' := by
  obtain ⟨w1, hw1⟩ : ∃ w1, w1 = w.alloc (.cells #[.pointer (some ⟨g, 0, none⟩)] 82) := ⟨_, rfl⟩
  have hb1 : Below w.heap.size w w1 := by rw [hw1]; exact (Below.refl _ w).alloc (Nat.le_refl _) _
  have c1 : w1.cell? ⟨w.heap.size, 0, none⟩ = some (.pointer (some ⟨g, 0, none⟩)) := by rw [hw1]; simp [go_sem]
  replace k3 := (hb1.cell (World.block_lt_of_cell? _ _ k3)).trans k3
  replace k4 := (hb1.cell (World.block_lt_of_cell? _ _ k4)).trans k4
  replace k8 := (hb1.cell (World.block_lt_of_cell? _ _ k8)).trans k8
  replace kb := (hb1.cell (World.block_lt_of_cell? _ _ kb)).trans kb
  have HB := ahid hb1
  have HW := ahid (fun m => within_quiet f nf (decide_eq_true ⟨by omega, by omega⟩) w1 m)
  have hne : ((nx : Int) != (nb : Int)) = true := by simp; omega
  have hf0 : (0 : Int) ≤ (f : Int) := by omega
  have hf1 : (f : Int) < (nf : Int) := by omega
  clear hb1
  go_enter Tryd.func24, Tryd.ntmps24
  go_wp2_with fail
  rw [← hw1]
  clear hw1
  go_quiet ((go_at_call 34; exact HW.out _))
  go_wp2_with fail
  go_ret
  exact ⟨rfl, ldrewN HB.out _⟩
set_option maxRecDepth 100000 in
set_option maxHeartbeats 4000000 in
theorem all_in {g f : Nat} {w : World} {sl : Int} (hs : sl < 1000000000000) {nf cf : Nat} {pf : Option Addr} {vx ve : Value} {fs : List Fnx} {fn : Fnx} (k3 : w.cell? ⟨g, 3, none⟩ = some (.slice pf nf cf)) (k4 : w.cell? ⟨g, 4, none⟩ = some (.int .i64 f)) (k6 : w.cell? ⟨g, 6, none⟩ = some (.int .i64 sl)) (k7 : w.cell? ⟨g, 7, none⟩ = some ve) (k8 : w.cell? ⟨g, 8, none⟩ = some vx)
    (hF : FnsIn w (.slice pf nf cf) fs) (hf : fs[f]? = some fn) {en : List Acx} (hE : AcsIn w ve en) {bl : List (List Acx)} (hB : AbsIn w vx bl) :
    Calls Tryd.prog 24 #[.pointer (some ⟨g, 0, none⟩)] w fun e w' => e = .returned (.bool (en.all (fun c => decide (c.kind = 0 ∧ moveP sl c)) && blocksB fs.length fn.blocks.length sl fn.blocks bl)) ∧ Below w.heap.size w w' := by
  obtain ⟨bf, of, rfl, hnf, hfl, hfa⟩ := hF.in hf
  obtain ⟨vb, kb, hbk⟩ := hfa.c3
  obtain ⟨pb, cb, rfl⟩ := hbk.shape
  obtain ⟨px, cx, rfl⟩ := hB.shape
  obtain ⟨pe, ce, rfl⟩ := hE.shape
  by_cases hn : bl.length = fn.blocks.length
  rotate_left
  · have e : (en.all (fun c => decide (c.kind = 0 ∧ moveP sl c)) && blocksB fs.length fn.blocks.length sl fn.blocks bl) = false := by
      rw [Bool.and_eq_false_iff]
      exact .inr (Bool.eq_false_iff.2 fun h => hn ((blocksB_iff _ _ _ _ _).1 h).1.symm)
    rw [e]
    exact all_odd k3 k4 k8 kb (by omega) hn
  obtain ⟨w1, hw1⟩ : ∃ w1, w1 = w.alloc (.cells #[.pointer (some ⟨g, 0, none⟩)] 82) := ⟨_, rfl⟩
  have hb1 : Below w.heap.size w w1 := by rw [hw1]; exact (Below.refl _ w).alloc (Nat.le_refl _) _
  have c1 : w1.cell? ⟨w.heap.size, 0, none⟩ = some (.pointer (some ⟨g, 0, none⟩)) := by rw [hw1]; simp [go_sem]
  replace k3 := (hb1.cell (World.block_lt_of_cell? _ _ k3)).trans k3
  replace k4 := (hb1.cell (World.block_lt_of_cell? _ _ k4)).trans k4
  replace k6 := (hb1.cell (World.block_lt_of_cell? _ _ k6)).trans k6
  replace k7 := (hb1.cell (World.block_lt_of_cell? _ _ k7)).trans k7
  replace k8 := (hb1.cell (World.block_lt_of_cell? _ _ k8)).trans k8
  replace kb := (hb1.cell (World.block_lt_of_cell? _ _ kb)).trans kb
  replace hF := hF.keep fun _ _ _ _ hh => FnAt.keep hh hb1
  replace hE := hE.keep hb1
  replace hB := hB.keep hb1
  have HW := ahid (fun m => within_quiet f nf (decide_eq_true ⟨by omega, by omega⟩) w1 m)
  have hne : ((bl.length : Int) != (fn.blocks.length : Int)) = false := by simp; omega
  have hf0 : (0 : Int) ≤ (f : Int) := by omega
  have hf1 : (f : Int) < (nf : Int) := by omega
  -- what holds in every world above
  have HU := ahid (show ∀ w', Below w1.heap.size w1 w' → ∀ (k : Nat) (x : Acx), en[k]? = some x → ∀ (w2 : World) (u : Value), Below w'.heap.size w' w2 → AcV w2 u x → Calls Tryd.prog 48 #[u, .pointer (some ⟨w.heap.size, 0, none⟩)] w2 fun e w3 => e = .returned (.bool (!decide (x.kind = 0 ∧ moveP sl x))) ∧ Below w2.heap.size w2 w3 from fun w' hd k x _ w2 u hd2 hu => by
    have hd3 : Below w1.heap.size w1 w2 := hd.trans (hd2.mono hd.size)
    exact all1_any hs ((hd3.cell (p := ⟨w.heap.size, 0, none⟩) (World.block_lt_of_cell? _ _ c1)).trans c1) ((hd3.cell (p := ⟨g, 6, none⟩) (World.block_lt_of_cell? _ _ k6)).trans k6) hu)
  have HC1 := ahid (fun w' (hd : Below w1.heap.size w1 w') => contains_ac1 w' _ en (hE.keep hd) (fun x => !decide (x.kind = 0 ∧ moveP sl x)) (HU.out w' hd))
  have HV := ahid (show ∀ w', Below w1.heap.size w1 w' → ∀ (m2 b : Nat) (bk : Blk), w'.cell? ⟨m2, 0, none⟩ = some (.int .i64 b) → fn.blocks[b]? = some bk → ∀ (l : List Acx) (v : Value), AcsIn w' v l → Calls Tryd.prog 47 #[v, .func (.func 50) #[] #[.pointer (some ⟨w.heap.size, 0, none⟩), .pointer (some ⟨m2, 0, none⟩)]] w' fun e w2 => e = .returned (.bool (l.any (fun x => !cellB fs.length fn.blocks.length sl bk.ins x))) ∧ Below w'.heap.size w' w2 from fun w' hd m2 b bk hm hb l v hv => by
    refine contains_ac2 w' v l hv _ fun k x _ w2 u hd2 hu => ?_
    have hd3 : Below w1.heap.size w1 w2 := hd.trans (hd2.mono hd.size)
    exact all2_any hs ((hd3.cell (p := ⟨g, 3, none⟩) (World.block_lt_of_cell? _ _ k3)).trans k3) ((hd3.cell (p := ⟨g, 4, none⟩) (World.block_lt_of_cell? _ _ k4)).trans k4) ((hd3.cell (p := ⟨g, 6, none⟩) (World.block_lt_of_cell? _ _ k6)).trans k6) (hF.keep fun _ _ _ _ hh => FnAt.keep hh hd3) hf ((hd3.cell (p := ⟨w.heap.size, 0, none⟩) (World.block_lt_of_cell? _ _ c1)).trans c1) ((hd2.cell (World.block_lt_of_cell? _ _ hm)).trans hm) hb hu)
  have HB := ahid hb1
  have HE : Hid (∀ b : Bool, (b = true ↔ (∀ x ∈ en, (x.kind = 0 ∧ moveP sl x)) ∧ blocksB fs.length fn.blocks.length sl fn.blocks bl = true) → (en.all (fun c => decide (c.kind = 0 ∧ moveP sl c)) && blocksB fs.length fn.blocks.length sl fn.blocks bl) = b) := ahid fun b hb => by
    rw [Bool.eq_iff_iff, hb, Bool.and_eq_true, List.all_eq_true]
    simp only [decide_eq_true_iff]
  have HBI := ahid (blocksB_iff fs.length fn.blocks.length sl fn.blocks bl)
  obtain ⟨px', cx', bx, ox, hpx, hlx, HX⟩ := hB.lhids
  injection hpx with e1 _ e3
  subst e1 e3
  generalize (en.all (fun c => decide (c.kind = 0 ∧ moveP sl c)) && blocksB fs.length fn.blocks.length sl fn.blocks bl) = R at HE ⊢
  have HN := ahid hn
  clear hb1 hF hE hB hf hfa hbk hnf hfl hn k6
  go_enter Tryd.func24, Tryd.ntmps24
  go_wp2_with fail
  rw [← hw1]
  clear hw1
  go_quiet ((go_at_call 34; exact HW.out _))
  clear HW
  go_wp2_with fail
  refine (HC1.out _ (ldrewN (Below.refl _ _) _)).mono ?_
  rintro e w3 ⟨rfl, hb3⟩
  have hb4 : Below w1.heap.size w1 w3 := (ldrewN (Below.refl _ w1) _).trans hb3
  replace c1 := (hb4.cell (World.block_lt_of_cell? _ _ c1)).trans c1
  replace k8 := (hb4.cell (World.block_lt_of_cell? _ _ k8)).trans k8
  have HB4 := ahid hb4
  have HAN := ahid (show (en.any fun x => !decide (x.kind = 0 ∧ moveP sl x)) = true ↔ ¬ ∀ x ∈ en, (x.kind = 0 ∧ moveP sl x) by
    rw [List.any_eq_true]
    simp only [Bool.not_eq_true', decide_eq_false_iff_not]
    constructor
    · rintro ⟨x, hx, h⟩ h2; exact h (h2 x hx)
    · intro h
      refine Classical.byContradiction fun h3 => h fun x hx => Classical.byContradiction fun h4 => h3 ⟨x, hx, h4⟩)
  clear hb3 hb4 k3 k4 k7 kb HC1 HU
  generalize (en.any fun x => !decide (x.kind = 0 ∧ moveP sl x)) = A at HAN ⊢
  cases A with
  | true =>
    go_wp2_with fail
    go_ret
    exact ⟨lret_val (congrArg Value.bool (HE.out false ⟨fun h => (by cases h), fun h => absurd h.1 (HAN.out.1 (by trivial))⟩).symm), HB.out.trans (HB4.out.mono HB.out.size)⟩
  | false =>
    have HAL : Hid (∀ x ∈ en, (x.kind = 0 ∧ moveP sl x)) := ahid (Classical.byContradiction fun h => by have := HAN.out.2 h; cases this)
    clear HAN
    go_wp2_with fail
    go_loopw [52] (fun i wr => ∃ k : Nat, k ≤ bl.length ∧ i = .int .i64 k ∧ (∀ (j : Nat) (b : Blk) (l : List Acx), j < k → fn.blocks[j]? = some b → bl[j]? = some l → l.all (cellB fs.length fn.blocks.length sl b.ins) = true) ∧ Below w1.heap.size w1 wr) (fun i _ => bl.length - (intOf i).toNat)
    case atStart => exact ⟨0, Nat.zero_le _, rfl, fun j b l hj => by omega, HB4.out⟩
    case round =>
      obtain ⟨k, hk, rfl, hpre, hbr⟩ := hrel
      have HBR := ahid hbr
      have HPR := ahid hpre
      clear hbr hpre
      by_cases hlt : k < bl.length
      · obtain rfl := HX.out.1 (by omega)
        obtain ⟨v, c5, hv⟩ := (HX.out.2 k bl[k] (List.getElem?_eq_getElem hlt)).keep HBR.out
        rw [Nat.mul_one] at c5
        have hbk : fn.blocks[k]? = some (fn.blocks[k]'(by have := HN.out; omega)) := List.getElem?_eq_getElem _
        have HL := ahid (List.getElem?_eq_getElem hlt)
        have HK := ahid hbk
        clear hbk
        generalize bl[k] = l at c5 hv HL
        generalize fn.blocks[k]'(by have := HN.out; omega) = bk at HK
        obtain ⟨pv, cv, rfl⟩ := hv.shape
        have HVV := ahid hv
        clear hv
        obtain ⟨W2, hW2⟩ : ∃ W2, W2 = ((wr.alloc (.cells #[.int .i64 k] 3)).alloc (.cells #[.slice pv l.length cv] 43)) := ⟨_, rfl⟩
        have hb2 : Below wr.heap.size wr W2 := by rw [hW2]; exact ((Below.refl _ wr).alloc (Nat.le_refl _) _).alloc (by simp [go_sem]) _
        have q2 : W2.cell? ⟨wr.heap.size, 0, none⟩ = some (.int .i64 k) := by rw [hW2]; simp [go_sem]
        have HB2 := ahid (HBR.out.trans (hb2.mono HBR.out.size))
        have HCC := ahid (HV.out W2 HB2.out wr.heap.size k bk q2 HK.out l _ (HVV.out.keep hb2))
        rw [hW2] at HCC
        clear hb2 q2
        have HAY := ahid (show (l.any fun x => !cellB fs.length fn.blocks.length sl bk.ins x) = true ↔ ¬ l.all (cellB fs.length fn.blocks.length sl bk.ins) = true by
          rw [List.any_eq_true, List.all_eq_true]
          constructor
          · rintro ⟨x, hx, h⟩ h2
            rw [h2 x hx] at h; cases h
          · intro h
            refine Classical.byContradiction fun h3 => h fun x hx => Classical.byContradiction fun h4 => h3 ⟨x, hx, by simpa using h4⟩)
        generalize (l.any fun x => !cellB fs.length fn.blocks.length sl bk.ins x) = Y at HAY HCC
        go_wp2_with fail
        refine HCC.out.mono ?_
        rintro e w4 ⟨rfl, hb4⟩
        rw [← hW2] at hb4
        have HB4 := ahid (HB2.out.trans (hb4.mono HB2.out.size))
        clear hb4 hW2 HCC
        cases Y with
        | true =>
          go_wp2_with fail
          go_ret
          exact ⟨lret_val (congrArg Value.bool (HE.out false ⟨fun h => (by cases h), fun h => absurd ((HBI.out.1 h.2).2 k bk l HK.out HL.out) (HAY.out.1 (by trivial))⟩).symm), HB.out.trans (HB4.out.mono HB.out.size)⟩
        | false =>
          have HOK := ahid (Classical.byContradiction fun h => (by have := HAY.out.2 h; cases this) : l.all (cellB fs.length fn.blocks.length sl bk.ins) = true)
          clear HAY
          go_wp2_with fail
          go_round
          case rel => exact ⟨k + 1, by omega, by go_num, fun j b l' hj hb hl => by
            by_cases hjk : j < k
            · exact HPR.out j b l' hjk hb hl
            · obtain rfl : j = k := by omega
              rw [HK.out] at hb
              rw [HL.out] at hl
              injection hb with hb
              injection hl with hl
              subst hb hl
              exact HOK.out, HB4.out⟩
          case measure => simp [intOf]; omega
      · go_wp2_with fail
        go_ret
        exact ⟨lret_val (congrArg Value.bool (HE.out true ⟨fun _ => ⟨HAL.out, HBI.out.2 ⟨HN.out.symm, fun j b l hb hl => HPR.out j b l (by have := (List.getElem?_eq_some_iff.1 hl).1; omega) hb hl⟩⟩, fun _ => rfl⟩).symm), HB.out.trans (HBR.out.mono HB.out.size)⟩
theorem all_any {g : Nat} {f : Int} {w : World} {p : Prg} {x : Afx} (hs : x.slots < 1000000000000) {vf ve vx : Value} (k3 : w.cell? ⟨g, 3, none⟩ = some vf) (k4 : w.cell? ⟨g, 4, none⟩ = some (.int .i64 f)) (k6 : w.cell? ⟨g, 6, none⟩ = some (.int .i64 x.slots)) (k7 : w.cell? ⟨g, 7, none⟩ = some ve) (k8 : w.cell? ⟨g, 8, none⟩ = some vx)
    (hF : FnsIn w vf p.funcs) (hE : AcsIn w ve x.entry) (hB : AbsIn w vx x.blocks) :
    Calls Tryd.prog 24 #[.pointer (some ⟨g, 0, none⟩)] w fun e w' => e = .returned (.bool (lowB p f x)) ∧ Below w.heap.size w w' := by
  obtain ⟨pf, cf, rfl⟩ := hF.shape
  by_cases h0 : 0 ≤ f ∧ f < p.funcs.length
  · obtain ⟨n, rfl⟩ : ∃ n : Nat, f = n := ⟨f.toNat, by omega⟩
    have hn : n < p.funcs.length := by omega
    have e : lowB p n x = (x.entry.all (fun c => decide (c.kind = 0 ∧ moveP x.slots c)) && blocksB p.funcs.length (p.funcs[n]).blocks.length x.slots (p.funcs[n]).blocks x.blocks) := by
      unfold lowB
      simp only [Int.toNat_natCast, List.getElem?_eq_getElem hn]
      rw [decide_eq_true (show (0 : Int) ≤ n by omega), Bool.true_and]
    rw [e]
    exact all_in hs k3 k4 k6 k7 k8 hF (List.getElem?_eq_getElem hn) hE hB
  · have e : lowB p f x = false := by
      unfold lowB
      by_cases h1 : 0 ≤ f
      · rw [List.getElem?_eq_none (by omega)]; simp
      · rw [decide_eq_false h1]; rfl
    rw [e]
    exact all_far k3 k4 h0
end Go.Proofs.YtfbbodaapkfbdaaDoor
