/- Several texts in one: WindRuns, SwapRuns, SwapRun, SwapFlush. -/
import Derived.Test.YtajholbcpmjhiaaGreatDoorH29
set_option linter.unusedVariables false
set_option linter.unusedSimpArgs false
namespace Go.Proofs.YtajholbcpmjhiaaGreatDoor
open Go.RowKit
theorem MKeeps.trans {w w1 w2 : World} {G G1 G2 : MG} (h1 : MKeeps w w1 G G1) (h2 : MKeeps w1 w2 G1 G2) : MKeeps w w2 G G2 := by
  have hs := h1.1.size
  obtain ⟨a1, a2, a3, a4, a5⟩ := h1.1
  obtain ⟨b1, b2, b3, b4, b5⟩ := h2.1
  refine ⟨⟨b1.trans a1, b2.trans a2, b3.trans a3, Nat.le_trans a4 b4, fun k hk hn => ?_⟩, fun k hk e => h2.2 k (Nat.lt_of_lt_of_le hk hs) (h1.2 k hk e)⟩
  have e : G.R k = .none := by
    by_cases e : G.R k = .none
    · exact e
    · exact absurd e hn
  exact (b5 k (Nat.lt_of_lt_of_le hk hs) (fun hh => hh (h1.2 k hk e))).trans (a5 k hk hn)
theorem MKeeps.of_below {w w' : World} {G : MG} (h : Below w.heap.size w w') : MKeeps w w' G G := ⟨(Only.of_below (S := fun _ => False) h).mono (fun _ _ h => h.elim), fun _ _ e => e⟩
def Rest (c : Int) (k : Nat) (m m' : Mx) : Prop := Path (Not4 c) k m m' ∧ m'.kind = 0 ∧ m'.pc = c ∧ m'.p.bank = 0
end Go.Proofs.YtajholbcpmjhiaaGreatDoor
namespace Go.Proofs.YtajholbcpmjhiaaGreatDoor
open Go.RowKit
theorem sfield_stop (a b : Value) (w : World) : (Instr.field 89 (.agg #[a, b]) 0).run Tryz.prog w = .ok a w := by kernel_rfl
theorem sfield_bank (a b c d : Value) (w : World) : (Instr.field 47 (.agg #[a, b, c, d]) 2).run Tryz.prog w = .ok c w := by kernel_rfl
set_option maxRecDepth 100000 in
set_option maxHeartbeats 4000000 in
theorem sruns_any (w0 w : World) (ht : Tab w0) (hbr : Bru w0) (G : MG) (M : Nat) (m m' : Mx) (h : MIs w0 w G M m) (c most n : Nat) (hc : c < 4294967296) (hmost : most < 1000000) (hn : n ≤ most) (hn1 : 1 ≤ n) (hol : outL m < 1000000) (hp : Rest c n m m') :
    Calls Tryz.prog 36 #[.pointer (some ⟨M, 0, none⟩), .int .u32 c, .int .i64 most] w fun e w' => e = .returned (.bool true) ∧ MTo w0 w w' G M m' := by
  have HM := mhid h
  have HT := mhid ht
  have HR := mhid hbr
  have HP := mhid hp
  clear h ht hbr hp
  go_enter Tryz.func36, Tryz.ntmps36
  go_wp2_with fail
  go_loopw [7] (fun i wr => ∃ (k : Nat) (G' : MG) (mk : Mx), i = .int .i64 (k : Int) ∧ k < n ∧ Hid (MIs w0 wr G' M mk) ∧ Hid (MKeeps w wr G G') ∧ Hid (Rest c (n - k) mk m') ∧ Hid (outL mk ≤ outL m + k)) (fun i _ => n - (intOf i).toNat)
  case atStart => exact ⟨0, G, m, rfl, by omega, HM, mhid (MKeeps.of_below (Below.refl _ _)), HP, mhid (Nat.le_refl _)⟩
  case round =>
    clear HM HP
    obtain ⟨k, G', mk, rfl, hk, HM, HK, HP, HO⟩ := hrel
    have c1 : (k : Int) < (most : Int) := by omega
    have c4 : IntKind.i64.wrap ((k : Int) + 1) = ((k + 1 : Nat) : Int) := by rw [IntWalk.i64_in _ (by omega)]; omega
    have fs := sfield_stop
    have fb := sfield_bank
    obtain ⟨j, hj⟩ : ∃ j, n - k = j + 1 := ⟨n - k - 1, by omega⟩
    have HP2 := mhid (show Path (Not4 c) j (stepM mk 0) m' ∧ m'.kind = 0 ∧ m'.pc = (c : Int) ∧ m'.p.bank = 0 from by
      have := HP.out
      rw [hj] at this
      exact ⟨this.1.2, this.2⟩)
    have hkind : (stepM mk 0).kind = 0 := by
      cases j with
      | zero => rw [show stepM mk 0 = m' from HP2.out.1]; exact HP2.out.2.1
      | succ j => exact HP2.out.1.1.1
    have hs1 := mw_step w0 wr G' M mk HM.out (HT.out) (HR.out) 0 (by omega) (by omega) (by have := HO.out; show outL mk < 4294967296; omega)
    rw [hkind] at hs1
    have HS := mhid hs1
    have HO2 := mhid (show outL (stepM mk 0) ≤ outL m + (k + 1) from by have := outL_step mk 0; have := HO.out; omega)
    have HKD := mhid hkind
    clear HP hs1 hkind HO
    go_wp2_with fail
    refine HS.out.mono ?_
    rintro e w1 ⟨rfl, G1, hM1, hk1⟩
    have HM := mhid hM1
    have HK := mhid (HK.out.trans hk1)
    clear hM1 hk1 HS
    generalize stepM mk 0 = m1 at *
    have hok1 := HM.out.at'.ok
    have hpc1 : 0 ≤ m1.pc ∧ m1.pc < 4294967296 := ⟨hok1.pc0, hok1.pc1⟩
    clear hok1
    go_wp2_with fail
    refine (mpc_any w1 G1 M m1 HM.out.at').mono ?_
    rintro e w' ⟨rfl, rfl⟩
    have HPS := mhid (show Calls Tryz.prog 19 #[.pointer (some ⟨M, 0, none⟩)] w1 fun e w' => e = .returned (.agg #[.int .u8 m1.p.cwp, .int .u8 m1.p.pil, .int .u8 m1.p.bank, .int .u8 m1.p.flags]) ∧ Below w1.heap.size w1 w' from mpsr_any w1 G1 M m1 HM.out.at')
    have hbb : 0 ≤ m1.p.bank ∧ m1.p.bank < 256 := HM.out.at'.ok.pb.2.2.1
    by_cases hd : j = 0
    · subst hd
      obtain rfl : m1 = m' := HP2.out.1
      have hpc : m1.pc = (c : Int) := HP2.out.2.2.1
      have hbk : m1.p.bank = 0 := HP2.out.2.2.2
      go_wp2_with fail
      refine HPS.out.mono ?_
      rintro e w2 ⟨rfl, hb2⟩
      have HM := mhid (HM.out.keepb hb2)
      have HK := mhid (HK.out.trans (MKeeps.of_below hb2))
      clear hb2 HPS
      go_wp2_with fail
      first
        | go_ret2
        | go_ret
      exact ⟨rfl, G1, HM.out, HK.out⟩
    · obtain ⟨j', rfl⟩ : ∃ j', j = j' + 1 := ⟨j - 1, by omega⟩
      have HN := mhid (show ¬ (m1.pc = (c : Int) ∧ m1.p.bank = 0) from HP2.out.1.1.2)
      have HR2 := mhid (show Rest c (n - (k + 1)) m1 m' from by
        rw [show n - (k + 1) = j' + 1 by omega]; exact HP2.out)
      by_cases hpc : m1.pc = (c : Int)
      · have hbk : ¬ (m1.p.bank = 0) := fun e => HN.out ⟨hpc, e⟩
        go_wp2_with fail
        refine HPS.out.mono ?_
        rintro e w2 ⟨rfl, hb2⟩
        have HM := mhid (HM.out.keepb hb2)
        have HK := mhid (HK.out.trans (MKeeps.of_below hb2))
        clear hb2 HPS
        go_wp2_with fail
        exact ⟨⟨k + 1, G1, m1, by go_num, by omega, HM, HK, HR2, HO2⟩, by simp only [intOf]; omega⟩
      · go_wp2_with fail
        exact ⟨⟨k + 1, G1, m1, by go_num, by omega, HM, HK, HR2, HO2⟩, by simp only [intOf]; omega⟩
end Go.Proofs.YtajholbcpmjhiaaGreatDoor
/- Plain law: the two handlers of package swap, run whole up to their RETT. No program in sight. -/
namespace Go.Proofs.YtajholbcpmjhiaaGreatDoor
open Go.RowKit
def swA : List Ix := [ldI 1 0 128, aluI 8 1 1 4, stI 0 1 76, ⟨17, 0, 0, 0, true, 39⟩, ⟨28, 1, 0, 0, false, 0⟩, ⟨26, 3, 0, 0, false, 0⟩, aluI 5 4 3 31, aluI 0 6 4 0, aluI 5 5 3 (-32), bothI 6 2 5 4, ⟨27, 0, 2, 0, false, 0⟩]
def swB (nw : Nat) : List Ix := [aluI 0 4 4 1, cmpI 4 nw, ⟨17, 2, 0, 0, true, 2⟩, aluI 0 4 0 0, bothI 9 2 1 4, aluI 5 2 2 1, cmpI 2 1, ⟨17, 2, 0, 0, true, -25⟩, bothI 6 2 5 6, ⟨27, 0, 2, 0, false, 0⟩,
  ldI 1 0 128, aluI 8 1 1 4, ⟨30, 2, 0, 0, true, 0⟩, stI 2 1 64, stI 14 1 68,
  ⟨34, 1, 0, 0, false, 0⟩, ldI 3 0 132, aluI 0 2 0 0, aluI 0 4 0 0,
  aluI 8 5 4 4, ldI 5 5 76, bothI 0 2 2 5, aluI 0 4 4 1, ⟨16, 0, 4, 3, false, 0⟩, ⟨17, 2, 0, 0, true, -5⟩,
  aluI 9 5 1 16, bothI 4 5 5 2, aluI 8 5 5 16, aluI 8 1 1 16, aluI 9 1 1 16, bothI 0 1 1 5, bothI 4 1 1 2, aluI 0 4 0 0,
  aluI 8 5 4 4, ldI 6 5 76, cmpI 6 1, ⟨17, 2, 0, 0, true, 4⟩, cmpI 1 0, ⟨17, 1, 0, 0, true, 4⟩, aluI 1 1 1 1, aluI 0 4 4 1, ⟨17, 0, 0, 0, true, -8⟩,
  stI 4 0 128, ldI 1 5 72, stI 1 0 136, ldI 1 5 64, ⟨31, 0, 1, 0, true, 0⟩, ldI 14 5 68, ⟨26, 3, 0, 0, false, 0⟩, aluI 5 4 3 31, aluI 0 4 4 1, cmpI 4 nw, ⟨17, 2, 0, 0, true, 2⟩, aluI 0 4 0 0, aluI 0 1 0 1, bothI 8 1 1 4, ⟨29, 0, 1, 0, false, 0⟩]
def swC : List Ix := [⟨32, 0, 0, 0, false, 0⟩]
def swapI (nw : Nat) : List Ix := swA ++ (eachL 23 ++ (swB nw ++ (eachL 22 ++ swC)))
theorem eachL_len (op : Int) : (eachL op).length = 16 := by unfold eachL; simp
theorem swapI_len (nw : Nat) : (swapI nw).length = 101 := by
  unfold swapI; simp only [List.length_append, eachL_len]; rfl
theorem sw_each (nw j : Nat) (h : j < 16) : (swapI nw)[11 + j]? = some (eachI 23 j) := by
  unfold swapI
  rw [mid_at (A := swA) j 11 rfl, List.getElem?_append_left (by rw [eachL_len]; exact h)]
  exact each_at 23 j h
theorem sw_mid (nw j : Nat) : (swapI nw)[27 + j]? = (swB nw ++ (eachL 22 ++ swC))[j]? := by
  unfold swapI
  rw [← List.append_assoc, List.getElem?_append_right (by rw [List.length_append, eachL_len]; show 11 + 16 ≤ 27 + j; omega), List.length_append, eachL_len]
  show _[27 + j - (11 + 16)]? = _
  rw [show 27 + j - (11 + 16) = j by omega]
theorem sw_load (nw j : Nat) (h : j < 16) : (swapI nw)[84 + j]? = some (eachI 22 j) := by
  rw [show 84 + j = 27 + (57 + j) by omega, sw_mid, List.getElem?_append_right (by show 57 ≤ _; omega)]
  show (_ : List Ix)[57 + j - 57]? = _
  rw [show 57 + j - 57 = j by omega, List.getElem?_append_left (by rw [eachL_len]; exact h)]
  exact each_at 22 j h
theorem sw_end (nw : Nat) : (swapI nw)[100]? = some ⟨32, 0, 0, 0, false, 0⟩ := by
  rw [show 100 = 27 + 73 by omega, sw_mid, List.getElem?_append_right (by show 57 ≤ _; omega)]
  show (_ : List Ix)[73 - 57]? = _
  rw [List.getElem?_append_right (by rw [eachL_len]; decide), eachL_len]
  rfl
def cntL (al : Nat → Nat) : Nat → Nat → Nat
  | 0, _ => 0
  | f + 1, t => al t + cntL al f (t + 1)
def seekL (al : Nat → Nat) : Nat → Nat → Nat → Nat
  | 0, t, _ => t
  | f + 1, t, r => if al t = 1 then (if r = 0 then t else seekL al f (t + 1) (r - 1)) else seekL al f (t + 1) r
theorem seek_lt (al : Nat → Nat) : ∀ f t r, r < cntL al f t → (∀ i, al i ≤ 1) → seekL al f t r < t + f ∧ t ≤ seekL al f t r ∧ al (seekL al f t r) = 1 := by
  intro f
  induction f with
  | zero => intro t r h; exact absurd h (by unfold cntL; omega)
  | succ f ih =>
    intro t r h ha
    have h1 := ha t
    unfold cntL at h
    unfold seekL
    by_cases e : al t = 1
    · rw [if_pos e]
      by_cases e0 : r = 0
      · rw [if_pos e0]; exact ⟨by omega, by omega, e⟩
      · rw [if_neg e0]
        have := ih (t + 1) (r - 1) (by omega) ha
        exact ⟨by omega, by omega, this.2.2⟩
    · rw [if_neg e]
      have := ih (t + 1) r (by omega) ha
      exact ⟨by omega, by omega, this.2.2⟩
theorem cnt_le (al : Nat → Nat) (ha : ∀ i, al i ≤ 1) : ∀ f t, cntL al f t ≤ f := by
  intro f
  induction f with
  | zero => intro t; exact Nat.le_refl _
  | succ f ih => intro t; have := ih (t + 1); have := ha t; unfold cntL; omega
structure Tcb (d : List Int) (T : Nat) (al : Nat → Nat) : Prop where
  len : 2048 ≤ d.length
  max : d.length ≤ 4194304
  n : 1 ≤ T ∧ T ≤ 4
  th : loadS d 132 4 = (T : Int)
  av : ∀ t, t < T → loadS d (16 * t + 76) 4 = (al t : Int)
  one : ∀ t, al t ≤ 1
theorem shl4 : ∀ t : Nat, t < 5 → doW 8 (t : Int) (u32 4) = ((16 * t : Nat) : Int) := by decide
theorem add1 {t : Nat} (h : t < 1000) : doW 0 (t : Int) (u32 1) = ((t + 1 : Nat) : Int) := by
  show u32 ((t : Int) + u32 1) = _
  unfold u32; omega
theorem add76 {t : Nat} (h : t < 5) (k : Nat) (hk : k < 1000) : u32 (((16 * t : Nat) : Int) + u32 (k : Int)) = ((16 * t + k : Nat) : Int) := by
  unfold u32; omega
section
variable {E : He} {win mem tpc ch : List Int} {cwp : Nat} {wim fl : Int}
theorem count_run (hL : E.L = swapI E.nw) {T : Nat} {al : Nat → Nat} (hT : Tcb mem T al) :
    ∀ f t s : Nat, t + (f + 1) = T → s ≤ t → ∀ (fl x0 x1 x5 x6 x7 : Int), ∃ y5 fl', Hp E (6 * (f + 1)) ⟨win, [x0, x1, (s : Int), (T : Int), (t : Int), x5, x6, x7], mem, 46, wim, cwp, fl, tpc, ch⟩ ⟨win, [x0, x1, ((s + cntL al (f + 1) t : Nat) : Int), (T : Int), (T : Int), y5, x6, x7], mem, 52, wim, cwp, fl', tpc, ch⟩ := by
  have h4 := hT.n.2
  have hlen := hT.len
  have hpre : ∀ (t s n : Nat) (fl x0 x1 x5 x6 x7 : Int) (s' : Hn), t < T → s ≤ t → Hp E n ⟨win, [x0, x1, ((s + al t : Nat) : Int), (T : Int), ((t + 1 : Nat) : Int), (al t : Int), x6, x7], mem, 51, wim, cwp, flagsS ((t + 1 : Nat) : Int) (T : Int), tpc, ch⟩ s' → Hp E (n + 5) ⟨win, [x0, x1, (s : Int), (T : Int), (t : Int), x5, x6, x7], mem, 46, wim, cwp, fl, tpc, ch⟩ s' := by
    intro t s n fl x0 x1 x5 x6 x7 s' ht hs h
    refine Hp.alui 8 5 4 4 (v := ((16 * t : Nat) : Int)) (by rw [hL]; kernel_rfl) (by decide) (by decide) (by decide) (by decide) rfl (shl4 t (by omega)) ?_
    refine Hp.ld 5 5 76 (A := 16 * t + 76) (v := (al t : Int)) (by rw [hL]; kernel_rfl) (by decide) (by decide) (by decide) (add76 (by omega) 76 (by decide)) ⟨by omega, by omega, by omega⟩ (hT.av t ht) ?_
    have ho := hT.one t
    refine Hp.both 0 2 2 5 (v := ((s + al t : Nat) : Int)) (by rw [hL]; kernel_rfl) (by decide) (by decide) (by decide) (by decide) (by decide) rfl (by show u32 ((s : Int) + (al t : Int)) = _; unfold u32; omega) ?_
    refine Hp.alui 0 4 4 1 (v := ((t + 1 : Nat) : Int)) (by rw [hL]; kernel_rfl) (by decide) (by decide) (by decide) (by decide) rfl (add1 (by omega)) ?_
    refine Hp.cmpr 4 3 (by rw [hL]; kernel_rfl) (by decide) (by decide) rfl ?_
    exact h
  intro f
  induction f with
  | zero =>
    intro t s ht hs fl x0 x1 x5 x6 x7
    refine ⟨al t, flagsS (T : Int) (T : Int), ?_⟩
    have e : s + cntL al (0 + 1) t = s + al t := rfl
    rw [e]
    refine hpre t s 1 fl x0 x1 x5 x6 x7 _ (by omega) hs ?_
    rw [show ((t + 1 : Nat) : Int) = (T : Int) by omega]
    refine Hp.stay 2 (-5) (by rw [hL]; kernel_rfl) ?_ (by omega) (by rw [hL, swapI_len]; omega) (Hp.refl _ _)
    rw [(flag_eq _ _).2]; simp
  | succ f ih =>
    intro t s ht hs fl x0 x1 x5 x6 x7
    have ho := hT.one t
    obtain ⟨y5, fl', h⟩ := ih (t + 1) (s + al t) (by omega) (by omega) (flagsS ((t + 1 : Nat) : Int) (T : Int)) x0 x1 (al t) x6 x7
    refine ⟨y5, fl', ?_⟩
    have e : s + cntL al (f + 1 + 1) t = s + al t + cntL al (f + 1) (t + 1) := by show s + (al t + cntL al (f + 1) (t + 1)) = _; omega
    rw [e, show 6 * (f + 1 + 1) = (6 * (f + 1) + 1) + 5 by omega]
    refine hpre t s _ fl x0 x1 x5 x6 x7 _ (by omega) hs ?_
    refine Hp.jump 2 (-5) (j := 46) (by rw [hL]; kernel_rfl) ?_ (by omega) (by rw [hL, swapI_len]; decide) h
    rw [(flag_eq _ _).2, decide_eq_false (by omega)]; rfl
theorem sub1 {r : Nat} (h : 0 < r) (h2 : r < 1000) : doW 1 (r : Int) (u32 1) = ((r - 1 : Nat) : Int) := by
  show u32 ((r : Int) - u32 1) = _
  unfold u32; omega
theorem each_run (hL : E.L = swapI E.nw) {T : Nat} {al : Nat → Nat} (hT : Tcb mem T al) :
    ∀ f t r : Nat, t + f = T → r < cntL al f t → ∀ (fl x0 x2 x3 x5 x6 x7 : Int), ∃ n fl', n ≤ 9 * f ∧ (0 ≤ fl' ∧ fl' < 16) ∧ Hp E n ⟨win, [x0, (r : Int), x2, x3, (t : Int), x5, x6, x7], mem, 60, wim, cwp, fl, tpc, ch⟩ ⟨win, [x0, 0, x2, x3, (seekL al f t r : Nat), ((16 * seekL al f t r : Nat) : Int), 1, x7], mem, 69, wim, cwp, fl', tpc, ch⟩ := by
  have h4 := hT.n.2
  have hlen := hT.len
  intro f
  induction f with
  | zero => intro t r _ h; exact absurd h (by unfold cntL; omega)
  | succ f ih =>
    intro t r ht hr fl x0 x2 x3 x5 x6 x7
    have ho := hT.one t
    have hcl := cnt_le al hT.one (f + 1) t
    have hr1000 : r < 1000 := by omega
    have hpre : ∀ (n : Nat) (s' : Hn), Hp E n ⟨win, [x0, (r : Int), x2, x3, (t : Int), ((16 * t : Nat) : Int), (al t : Int), x7], mem, 63, wim, cwp, flagsS (al t : Int) (u32 1), tpc, ch⟩ s' → Hp E (n + 3) ⟨win, [x0, (r : Int), x2, x3, (t : Int), x5, x6, x7], mem, 60, wim, cwp, fl, tpc, ch⟩ s' := by
      intro n s' h
      refine Hp.alui 8 5 4 4 (v := ((16 * t : Nat) : Int)) (by rw [hL]; kernel_rfl) (by decide) (by decide) (by decide) (by decide) rfl (shl4 t (by omega)) ?_
      refine Hp.ld 6 5 76 (A := 16 * t + 76) (v := (al t : Int)) (by rw [hL]; kernel_rfl) (by decide) (by decide) (by decide) (add76 (by omega) 76 (by decide)) ⟨by omega, by omega, by omega⟩ (hT.av t (by omega)) ?_
      exact Hp.cmpi 6 1 (by rw [hL]; kernel_rfl) (by decide) rfl h
    have hnot : ∀ (r' : Nat) (fl x5 x6 : Int), r' < cntL al f (t + 1) → ∃ n fl', n ≤ 9 * f ∧ (0 ≤ fl' ∧ fl' < 16) ∧ Hp E (n + 2) ⟨win, [x0, (r' : Int), x2, x3, (t : Int), x5, x6, x7], mem, 67, wim, cwp, fl, tpc, ch⟩ ⟨win, [x0, 0, x2, x3, (seekL al f (t + 1) r' : Nat), ((16 * seekL al f (t + 1) r' : Nat) : Int), 1, x7], mem, 69, wim, cwp, fl', tpc, ch⟩ := by
      intro r' fl x5 x6 h
      obtain ⟨n, fl', h1, hb, h2⟩ := ih (t + 1) r' (by omega) h fl x0 x2 x3 x5 x6 x7
      refine ⟨n, fl', h1, hb, ?_⟩
      refine Hp.alui 0 4 4 1 (v := ((t + 1 : Nat) : Int)) (by rw [hL]; kernel_rfl) (by decide) (by decide) (by decide) (by decide) rfl (add1 (by omega)) ?_
      exact Hp.jump 0 (-8) (j := 60) (by rw [hL]; kernel_rfl) rfl (by omega) (by rw [hL, swapI_len]; decide) h2
    unfold cntL at hr
    unfold seekL
    by_cases e : al t = 1
    · rw [if_pos e]
      by_cases e0 : r = 0
      · rw [if_pos e0]
        subst e0
        refine ⟨1 + 1 + 1 + 3, flagsS ((0 : Nat) : Int) (u32 0), by omega, flagsS_bd _ _, hpre _ _ ?_⟩
        rw [e]
        refine Hp.stay 2 4 (by rw [hL]; kernel_rfl) (by rfl) (by omega) (by rw [hL, swapI_len]; omega) ?_
        refine Hp.cmpi 1 0 (by rw [hL]; kernel_rfl) (by decide) rfl ?_
        refine Hp.jump 1 4 (j := 69) (by rw [hL]; kernel_rfl) (by rfl) (by omega) (by rw [hL, swapI_len]; decide) ?_
        exact Hp.refl _ _
      · rw [if_neg e0]
        obtain ⟨n, fl', h1, hb, h2⟩ := hnot (r - 1) (flagsS (r : Int) (u32 0)) ((16 * t : Nat) : Int) 1 (by omega)
        refine ⟨n + 2 + 1 + 1 + 1 + 1 + 3, fl', by omega, hb, hpre _ _ ?_⟩
        rw [e]
        refine Hp.stay 2 4 (by rw [hL]; kernel_rfl) (by rfl) (by omega) (by rw [hL, swapI_len]; omega) ?_
        refine Hp.cmpi 1 0 (by rw [hL]; kernel_rfl) (by decide) rfl ?_
        refine Hp.stay 1 4 (by rw [hL]; kernel_rfl) ?_ (by omega) (by rw [hL, swapI_len]; omega) ?_
        · rw [(flag_eq _ _).1]
          exact decide_eq_false (by show ¬ ((r : Int) = u32 0); unfold u32; omega)
        exact Hp.alui 1 1 1 1 (v := ((r - 1 : Nat) : Int)) (by rw [hL]; kernel_rfl) (by decide) (by decide) (by decide) (by decide) rfl (sub1 (by omega) hr1000) h2
    · rw [if_neg e]
      have e0 : al t = 0 := by omega
      obtain ⟨n, fl', h1, hb, h2⟩ := hnot r (flagsS (0 : Int) (u32 1)) ((16 * t : Nat) : Int) 0 (by omega)
      refine ⟨n + 2 + 1 + 3, fl', by omega, hb, hpre _ _ ?_⟩
      rw [e0]
      exact Hp.jump 2 4 (j := 67) (by rw [hL]; kernel_rfl) (by rfl) (by omega) (by rw [hL, swapI_len]; decide) h2
theorem rem_small {a b : Nat} (ha : a < 2147483648) (hb : 0 < b) (hb2 : b ≤ 4) : doW 4 (a : Int) (b : Int) = ((a % b : Nat) : Int) := by
  show (if (b : Int) = 0 then 0 else u32 ((s32 a).tmod (s32 b))) = _
  have e1 : s32 (a : Int) = a := by unfold s32; omega
  have e2 : s32 (b : Int) = b := by unfold s32; omega
  rw [if_neg (by omega), e1, e2, Int.tmod_eq_emod_of_nonneg (by omega), ← Int.natCast_emod]
  have := Nat.mod_lt a hb
  unfold u32; omega
theorem shr16 (c : Nat) : doW 9 (c : Int) (u32 16) = ((c / 65536 : Nat) : Int) := by
  show (c : Int) / 2 ^ shS (u32 16) = _
  rw [show shS (u32 16) = 16 from rfl]; omega
theorem shl16 (c : Nat) : doW 8 (c : Int) (u32 16) = ((c * 65536 % 4294967296 : Nat) : Int) := by
  show u32 ((c : Int) * 2 ^ shS (u32 16)) = _
  rw [show shS (u32 16) = 16 from rfl]; unfold u32; omega
theorem rem_two {c n : Nat} (hc : c < 4294967296) (hn : 0 < n) (hn4 : n ≤ 4) : (c * 65536 % 4294967296 / 65536 + c / 65536 % n * 65536 % 4294967296) % n = c % n := by
  have e1 : c * 65536 % 4294967296 / 65536 = c % 65536 := by omega
  have hm := Nat.mod_lt (c / 65536) hn
  have e2 : c / 65536 % n * 65536 % 4294967296 = c / 65536 % n * 65536 := Nat.mod_eq_of_lt (by omega)
  have e3 : c = c / 65536 * 65536 + c % 65536 := by omega
  rw [e1, e2]
  generalize c / 65536 = q at *
  generalize c % 65536 = r at *
  subst e3
  rw [Nat.add_comm r, Nat.add_mod, Nat.mod_mul_mod, ← Nat.add_mod]
theorem choose_run (hL : E.L = swapI E.nw) {T : Nat} {al : Nat → Nat} (hT : Tcb mem T al) {c : Nat} (hc : c < 4294967296) (hch : ch.headD 0 = (c : Int)) (hn : 0 < cntL al T 0) {g : List Int} (hg : g.length = 8) :
    ∃ n g' fl', n ≤ 12 + 15 * T ∧ (0 ≤ fl' ∧ fl' < 16) ∧ g'.length = 8 ∧ gr g' 4 = ((seekL al T 0 (c % cntL al T 0) : Nat) : Int) ∧ gr g' 5 = ((16 * seekL al T 0 (c % cntL al T 0) : Nat) : Int) ∧ Hp E n ⟨win, g, mem, 42, wim, cwp, fl, tpc, ch⟩ ⟨win, g', mem, 69, wim, cwp, fl', tpc, ch.tail⟩ := by
  obtain ⟨x0, x1, x2, x3, x4, x5, x6, x7, rfl⟩ := eight hg
  obtain ⟨f, rfl⟩ : ∃ f, T = f + 1 := ⟨T - 1, by have := hT.n.1; omega⟩
  have h4 := hT.n.2
  have hlen := hT.len
  have hcl := cnt_le al hT.one (f + 1) 0
  obtain ⟨y5, fl1, hc1⟩ := count_run (E := E) (win := win) (mem := mem) (tpc := tpc) (ch := ch.tail) (cwp := cwp) (wim := wim) hL hT f 0 0 (by omega) (Nat.le_refl _) fl x0 c x5 x6 x7
  rw [Nat.zero_add] at hc1
  obtain ⟨n2, fl2, hn2, hb2, he1⟩ := each_run (E := E) (win := win) (mem := mem) (tpc := tpc) (ch := ch.tail) (cwp := cwp) (wim := wim) hL hT (f + 1) 0 (c % cntL al (f + 1) 0) (by omega) (Nat.mod_lt _ hn) fl1 x0 (cntL al (f + 1) 0 : Nat) ((f + 1 : Nat) : Int) ((c / 65536 % cntL al (f + 1) 0 * 65536 % 4294967296 : Nat) : Int) x6 x7
  generalize hN : cntL al (f + 1) 0 = N at *
  refine ⟨(6 * (f + 1) + (n2 + 8)) + 4, [x0, 0, (N : Int), ((f + 1 : Nat) : Int), (seekL al (f + 1) 0 (c % N) : Nat), ((16 * seekL al (f + 1) 0 (c % N) : Nat) : Int), 1, x7], fl2, by omega, hb2, rfl, rfl, rfl, ?_⟩
  · refine Hp.choice 1 (by rw [hL]; kernel_rfl) (by decide) (by decide) ?_
    rw [hch]
    refine Hp.ld 3 0 132 (A := 132) (v := ((f + 1 : Nat) : Int)) (by rw [hL]; kernel_rfl) (by decide) (by decide) (by decide) rfl ⟨by omega, by omega, by omega⟩ hT.th ?_
    refine Hp.alui 0 2 0 0 (v := ((0 : Nat) : Int)) (by rw [hL]; kernel_rfl) (by decide) (by decide) (by decide) (by decide) rfl rfl ?_
    refine Hp.alui 0 4 0 0 (v := ((0 : Nat) : Int)) (by rw [hL]; kernel_rfl) (by decide) (by decide) (by decide) (by decide) rfl rfl ?_
    refine Hp.trans hc1 ?_
    refine Hp.alui 9 5 1 16 (v := ((c / 65536 : Nat) : Int)) (by rw [hL]; kernel_rfl) (by decide) (by decide) (by decide) (by decide) rfl (shr16 c) ?_
    have hb : doB 4 (N : Int) = true := by show (!decide ((N : Int) = 0)) = true; rw [decide_eq_false (by omega)]; rfl
    have hc16 : c / 65536 < 65536 := by omega
    have hm1 := Nat.mod_lt (c / 65536) hn
    refine Hp.both 4 5 5 2 (v := ((c / 65536 % N : Nat) : Int)) (by rw [hL]; kernel_rfl) (by decide) (by decide) (by decide) (by decide) (by decide) hb (rem_small (by omega) hn (by omega)) ?_
    refine Hp.alui 8 5 5 16 (v := ((c / 65536 % N * 65536 % 4294967296 : Nat) : Int)) (by rw [hL]; kernel_rfl) (by decide) (by decide) (by decide) (by decide) rfl (shl16 _) ?_
    refine Hp.alui 8 1 1 16 (v := ((c * 65536 % 4294967296 : Nat) : Int)) (by rw [hL]; kernel_rfl) (by decide) (by decide) (by decide) (by decide) rfl (shl16 _) ?_
    refine Hp.alui 9 1 1 16 (v := ((c * 65536 % 4294967296 / 65536 : Nat) : Int)) (by rw [hL]; kernel_rfl) (by decide) (by decide) (by decide) (by decide) rfl (shr16 _) ?_
    have hsum : c * 65536 % 4294967296 / 65536 + c / 65536 % N * 65536 % 4294967296 < 2147483648 := by omega
    refine Hp.both 0 1 1 5 (v := ((c * 65536 % 4294967296 / 65536 + c / 65536 % N * 65536 % 4294967296 : Nat) : Int)) (by rw [hL]; kernel_rfl) (by decide) (by decide) (by decide) (by decide) (by decide) rfl ?_ ?_
    · have e : ∀ a b : Nat, a + b < 2147483648 → doW 0 (a : Int) (b : Int) = ((a + b : Nat) : Int) := fun a b h => by show u32 ((a : Int) + (b : Int)) = _; unfold u32; omega
      exact e _ _ hsum
    refine Hp.both 4 1 1 2 (v := ((c % N : Nat) : Int)) (by rw [hL]; kernel_rfl) (by decide) (by decide) (by decide) (by decide) (by decide) hb ?_ ?_
    · rw [← rem_two hc hn (show N ≤ 4 by omega)]
      exact rem_small hsum hn (by omega)
    refine Hp.alui 0 4 0 0 (v := ((0 : Nat) : Int)) (by rw [hL]; kernel_rfl) (by decide) (by decide) (by decide) (by decide) rfl rfl ?_
    exact he1
end
end Go.Proofs.YtajholbcpmjhiaaGreatDoor
/- Plain law: swap's handlers, from the trap's vector up to their RETT. No program in sight. -/
namespace Go.Proofs.YtajholbcpmjhiaaGreatDoor
open Go.RowKit
def frW (win : List Int) (nw w : Nat) : Nat := (win.getD (16 * ((w + nw - 1) % nw) + 14) 0).toNat
def rowW (win : List Int) (w : Nat) : List Int := (win.drop (16 * w)).take 16
def flushS (win : List Int) (nw cwp : Nat) : Nat → List Int → List Int
  | 0, d => d
  | k + 1, d => putS (flushS win nw cwp k d) (frW win nw ((cwp + k) % nw)) (rowW win ((cwp + k) % nw))
theorem flushS_len (win : List Int) (nw cwp : Nat) (d : List Int) : ∀ k, (flushS win nw cwp k d).length = d.length
  | 0 => rfl
  | k + 1 => by unfold flushS; rw [putS_len, flushS_len]
def FramesW (win : List Int) (nw room : Nat) : Prop := ∀ w, w < nw → ∃ A : Nat, win.getD (16 * ((w + nw - 1) % nw) + 14) 0 = A ∧ 2048 ≤ A ∧ A % 4 = 0 ∧ A + 64 ≤ room
theorem FramesW.at {win : List Int} {nw room w : Nat} (h : FramesW win nw room) (hw : w < nw) : win.getD (16 * ((w + nw - 1) % nw) + 14) 0 = (frW win nw w : Int) ∧ 2048 ≤ frW win nw w ∧ frW win nw w % 4 = 0 ∧ frW win nw w + 64 ≤ room := by
  obtain ⟨A, h1, h2⟩ := h w hw
  have e : frW win nw w = A := by unfold frW; rw [h1]; rfl
  rw [e]; exact ⟨h1, h2⟩
theorem bit_at : ∀ i : Nat, i < 32 → ∀ w : Nat, w < 32 → doW 5 (doW 9 ((2 : Int) ^ i) (w : Int)) (u32 1) = if w = i then 1 else 0 := by decide +kernel
theorem pow_at : ∀ w : Nat, w < 32 → doW 8 (u32 (0 + u32 1)) (w : Int) = 2 ^ w := by decide +kernel
section
variable {E : He} {win mem tpc ch : List Int} {cwp : Nat} {wim fl : Int}
theorem go_run {t : Nat} (r : Nat) (hr : r = 4 ∨ r = 6) {c : Nat} {f : Int} (c0 : Nat) (f0 : Int) (x0 x1 x2 x3 x4 x6 x7 : Int) (hx0 : E.L[t]? = some (bothI 6 2 5 r)) (hx1 : E.L[t + 1]? = some ⟨27, 0, 2, 0, false, 0⟩) (hc : c < E.nw) (hcw : cwp < E.nw) (hnw : E.nw ≤ 32) (hp : 0 ≤ E.pil ∧ E.pil < 16) (hf : 0 ≤ f ∧ f < 16)
    (hv : gr [x0, x1, x2, x3, x4, 32 * (packW ⟨cwp, E.pil, 16, f⟩ / 32), x6, x7] r = (c : Int)) {d : List Int} :
    Hp E 2 ⟨win, [x0, x1, x2, x3, x4, 32 * (packW ⟨cwp, E.pil, 16, f⟩ / 32), x6, x7], d, t, wim, c0, f0, tpc, ch⟩ ⟨win, [x0, x1, packW ⟨c, E.pil, 16, f⟩, x3, x4, 32 * (packW ⟨cwp, E.pil, 16, f⟩ / 32), x6, x7], d, t + 2, wim, c, f, tpc, ch⟩ := by
  refine Hp.both 6 2 5 r (v := packW ⟨c, E.pil, 16, f⟩) hx0 (by decide) (by decide) (by decide) (by decide) (by omega) rfl ?_ ?_
  · rw [hv]
    have e : orS (32 * (packW ⟨cwp, E.pil, 16, f⟩ / 32)) c = packW ⟨c, E.pil, 16, f⟩ := by
      rw [orLow (by unfold packW; simp only; omega) (by omega) (by omega)]
      unfold packW; simp only; omega
    exact e
  refine Hp.wrpsr 2 (c := c) (f := f) hx1 (by decide) rfl hc hnw hp hf ?_
  exact Hp.refl _ _
theorem next_run {t : Nat} {w : Nat} (hw : w < E.nw) (h32 : E.nw ≤ 32) (hx0 : E.L[t]? = some (aluI 0 4 4 1)) (hx1 : E.L[t + 1]? = some (cmpI 4 E.nw)) (hx2 : E.L[t + 2]? = some ⟨17, 2, 0, 0, true, 2⟩) (hx3 : E.L[t + 3]? = some (aluI 0 4 0 0)) (hl : t + 4 ≤ E.L.length) (c0 : Nat) (f0 : Int) (x0 x1 x2 x3 x5 x6 x7 : Int) {d : List Int} :
    ∃ n f', n ≤ 4 ∧ Hp E n ⟨win, [x0, x1, x2, x3, (w : Int), x5, x6, x7], d, t, wim, c0, f0, tpc, ch⟩ ⟨win, [x0, x1, x2, x3, (((w + 1) % E.nw : Nat) : Int), x5, x6, x7], d, t + 4, wim, c0, f', tpc, ch⟩ := by
  have e32 : u32 (E.nw : Int) = (E.nw : Int) := by unfold u32; omega
  by_cases h : w + 1 = E.nw
  · refine ⟨4, flagsS ((w + 1 : Nat) : Int) (u32 (E.nw : Int)), by omega, ?_⟩
    refine Hp.alui 0 4 4 1 (v := ((w + 1 : Nat) : Int)) hx0 (by decide) (by decide) (by decide) (by decide) rfl (add1 (by omega)) ?_
    refine Hp.cmpi 4 E.nw hx1 (by decide) rfl ?_
    refine Hp.stay 2 2 hx2 ?_ (by omega) (by omega) ?_
    · rw [(flag_eq _ _).2, decide_eq_true]; rfl
      show ((w + 1 : Nat) : Int) = _
      rw [e32]; omega
    rw [h, Nat.mod_self]
    exact Hp.alui 0 4 0 0 (v := ((0 : Nat) : Int)) hx3 (by decide) (by decide) (by decide) (by decide) rfl rfl (Hp.refl _ _)
  · refine ⟨3, flagsS ((w + 1 : Nat) : Int) (u32 (E.nw : Int)), by omega, ?_⟩
    refine Hp.alui 0 4 4 1 (v := ((w + 1 : Nat) : Int)) hx0 (by decide) (by decide) (by decide) (by decide) rfl (add1 (by omega)) ?_
    refine Hp.cmpi 4 E.nw hx1 (by decide) rfl ?_
    rw [Nat.mod_eq_of_lt (by omega)]
    refine Hp.jump 2 2 (j := t + 4) hx2 ?_ (by omega) hl (Hp.refl _ _)
    rw [(flag_eq _ _).2, decide_eq_false]; rfl
    show ¬ ((w + 1 : Nat) : Int) = _
    rw [e32]; omega
theorem flush_run (hL : E.L = swapI E.nw) (hlo : E.lo = 768) (h2 : 2 ≤ E.nw) (h32 : E.nw ≤ 32) (hp : 0 ≤ E.pil ∧ E.pil < 16) {f : Int} (hf : 0 ≤ f ∧ f < 16) (hcw : cwp < E.nw) (hwl : win.length = 16 * E.nw) {room : Nat} (hroom : room ≤ 4194304) (hfr : FramesW win E.nw room)
    {inv n : Nat} (hinv : inv < E.nw) (hn : (cwp + n) % E.nw = inv) (hno : ∀ j, 0 < j → j < n → (cwp + j) % E.nw ≠ inv) {d0 : List Int} (hd : d0.length = room) :
    ∀ m k : Nat, k + (m + 1) = n → ∀ (c0 : Nat) (f0 x0 x2 x3 x6 x7 : Int), ∃ N c' f' y2, N ≤ 26 * (m + 1) ∧ Hp E N ⟨win, [x0, 2 ^ inv, x2, x3, (((cwp + k) % E.nw : Nat) : Int), 32 * (packW ⟨cwp, E.pil, 16, f⟩ / 32), x6, x7], flushS win E.nw cwp k d0, 9, wim, c0, f0, tpc, ch⟩ ⟨win, [x0, 2 ^ inv, y2, x3, (inv : Int), 32 * (packW ⟨cwp, E.pil, 16, f⟩ / 32), x6, x7], flushS win E.nw cwp n d0, 35, wim, c', f', tpc, ch⟩ := by
  have hone : ∀ (k : Nat) (c0 : Nat) (f0 x0 x2 x3 x6 x7 : Int), ∃ N : Nat, N ≤ 25 ∧ Hp E N ⟨win, [x0, 2 ^ inv, x2, x3, (((cwp + k) % E.nw : Nat) : Int), 32 * (packW ⟨cwp, E.pil, 16, f⟩ / 32), x6, x7], flushS win E.nw cwp k d0, 9, wim, c0, f0, tpc, ch⟩ ⟨win, [x0, 2 ^ inv, if (cwp + (k + 1)) % E.nw = inv then 1 else 0, x3, (((cwp + (k + 1)) % E.nw : Nat) : Int), 32 * (packW ⟨cwp, E.pil, 16, f⟩ / 32), x6, x7], flushS win E.nw cwp (k + 1) d0, 34, wim, (cwp + k) % E.nw, flagsS (if (cwp + (k + 1)) % E.nw = inv then 1 else 0) (u32 1), tpc, ch⟩ := by
    intro k c0 f0 x0 x2 x3 x6 x7
    have hwk : (cwp + k) % E.nw < E.nw := Nat.mod_lt _ (by omega)
    have hwk1 : (cwp + (k + 1)) % E.nw < E.nw := Nat.mod_lt _ (by omega)
    have esucc : ((cwp + k) % E.nw + 1) % E.nw = (cwp + (k + 1)) % E.nw := by rw [Nat.mod_add_mod, Nat.add_assoc]
    obtain ⟨a1, a2, a3, a4⟩ := hfr.at hwk
    have hlen : (flushS win E.nw cwp k d0).length = room := by rw [flushS_len]; exact hd
    have hgo := go_run (E := E) (win := win) (tpc := tpc) (ch := ch) (cwp := cwp) (wim := wim) (t := 9) 4 (.inl rfl) (c := (cwp + k) % E.nw) (f := f) c0 f0 x0 (2 ^ inv) x2 x3 (((cwp + k) % E.nw : Nat) : Int) x6 x7 (by rw [hL]; kernel_rfl) (by rw [hL]; kernel_rfl) hwk hcw h32 hp hf rfl (d := flushS win E.nw cwp k d0)
    have hst := store_run (E := E) (win := win) (g := [x0, 2 ^ inv, packW ⟨((cwp + k) % E.nw : Nat), E.pil, 16, f⟩, x3, (((cwp + k) % E.nw : Nat) : Int), 32 * (packW ⟨cwp, E.pil, 16, f⟩ / 32), x6, x7]) (mem := flushS win E.nw cwp k d0) (tpc := tpc) (ch := ch) (cwp := (cwp + k) % E.nw) (wim := wim) (fl := f) 11 (fun j hj => by rw [hL]; exact sw_each _ _ hj) a1 ⟨by omega, a3, by rw [hlen]; exact a4⟩ (by rw [hlen]; exact hroom) (by rw [hL, swapI_len, hlo]; omega) (by rw [hwl]; omega) 16 (Nat.le_refl _)
    rw [List.take_take] at hst
    obtain ⟨n1, f1, hn1, hnx⟩ := next_run (E := E) (win := win) (tpc := tpc) (ch := ch) (wim := wim) (t := 27) (w := (cwp + k) % E.nw) hwk h32 (by rw [hL]; kernel_rfl) (by rw [hL]; kernel_rfl) (by rw [hL]; kernel_rfl) (by rw [hL]; kernel_rfl) (by rw [hL, swapI_len]; decide) ((cwp + k) % E.nw) f x0 (2 ^ inv) (packW ⟨((cwp + k) % E.nw : Nat), E.pil, 16, f⟩) x3 (32 * (packW ⟨cwp, E.pil, 16, f⟩ / 32)) x6 x7 (d := flushS win E.nw cwp (k + 1) d0)
    rw [esucc] at hnx
    have hbit := bit_at inv (by omega) ((cwp + (k + 1)) % E.nw) (by omega)
    refine ⟨2 + (16 + (n1 + 3)), by omega, hgo.trans (hst.trans (hnx.trans ?_))⟩
    refine Hp.both 9 2 1 4 (v := doW 9 ((2 : Int) ^ inv) (((cwp + (k + 1)) % E.nw : Nat) : Int)) (by rw [hL]; kernel_rfl) (by decide) (by decide) (by decide) (by decide) (by decide) rfl rfl ?_
    refine Hp.alui 5 2 2 1 (v := if (cwp + (k + 1)) % E.nw = inv then 1 else 0) (by rw [hL]; kernel_rfl) (by decide) (by decide) (by decide) (by decide) rfl hbit ?_
    refine Hp.cmpi 2 1 (by rw [hL]; kernel_rfl) (by decide) rfl ?_
    exact Hp.refl _ _
  intro m
  induction m with
  | zero =>
    intro k hk c0 f0 x0 x2 x3 x6 x7
    obtain ⟨N, hN, h1⟩ := hone k c0 f0 x0 x2 x3 x6 x7
    obtain rfl : n = k + 1 := by omega
    rw [hn, if_pos rfl] at h1
    refine ⟨N + 1, _, _, _, by omega, h1.trans (Hp.stay 2 (-25) (by rw [hL]; kernel_rfl) (by rfl) (by omega) (by rw [hL, swapI_len]; omega) (Hp.refl _ _))⟩
  | succ m ih =>
    intro k hk c0 f0 x0 x2 x3 x6 x7
    obtain ⟨N, hN, h1⟩ := hone k c0 f0 x0 x2 x3 x6 x7
    rw [if_neg (hno (k + 1) (by omega) (by omega))] at h1
    obtain ⟨N2, c', f2, y2, hN2, h2'⟩ := ih (k + 1) (by omega) ((cwp + k) % E.nw) (flagsS 0 (u32 1)) x0 0 x3 x6 x7
    refine ⟨N + (N2 + 1), c', f2, y2, by omega, h1.trans (Hp.jump 2 (-25) (j := 9) (by rw [hL]; kernel_rfl) (by rfl) (by omega) (by rw [hL, swapI_len]; decide) h2')⟩
def keepS (d : List Int) (t : Nat) (pc sp : Int) : List Int := storeS (storeS d (16 * t + 64) 4 pc) (16 * t + 68) 4 sp
theorem yield_run (hL : E.L = swapI E.nw) (hlo : E.lo = 768) (h2 : 2 ≤ E.nw) (h32 : E.nw ≤ 32) (hp : 0 ≤ E.pil ∧ E.pil < 16) (hf : 0 ≤ fl ∧ fl < 16) (hcw : cwp < E.nw) (hwl : win.length = 16 * E.nw) (hroom : mem.length ≤ 4194304) (hfr : FramesW win E.nw mem.length)
    {inv n : Nat} (hn0 : 0 < n) (hnn : n < E.nw) (hinv : inv < E.nw) (hn : (cwp + n) % E.nw = inv) (hno : ∀ j, 0 < j → j < n → (cwp + j) % E.nw ≠ inv) {t : Nat} (ht : t < 4) (hcur : loadS (flushS win E.nw cwp n mem) 128 4 = (t : Int)) (hl : 2048 ≤ mem.length) {pc : Int} (hpc : tpc.getD 16 0 = pc) {g : List Int} (hg : g.length = 8) :
    ∃ N g', N ≤ 26 * n + 12 ∧ g'.length = 8 ∧ Hp E N ⟨win, g, mem, 4, 2 ^ inv, cwp, fl, tpc, ch⟩ ⟨win, g', keepS (flushS win E.nw cwp n mem) t pc (frW win E.nw cwp), 42, 2 ^ inv, cwp, fl, tpc, ch⟩ := by
  obtain ⟨x0, x1, x2, x3, x4, x5, x6, x7, rfl⟩ := eight hg
  obtain ⟨m, rfl⟩ : ∃ m, n = m + 1 := ⟨n - 1, by omega⟩
  obtain ⟨N, c', f', y2, hN, hfl⟩ := flush_run (E := E) (win := win) (tpc := tpc) (ch := ch) (cwp := cwp) (wim := 2 ^ inv) hL hlo h2 h32 hp hf hcw hwl hroom hfr hinv hn hno (d0 := mem) rfl m 0 (by omega) cwp fl x0 x2 (packW ⟨cwp, E.pil, 16, fl⟩) cwp x7
  rw [Nat.add_zero, Nat.mod_eq_of_lt hcw] at hfl
  obtain ⟨a1, a2, a3, a4⟩ := hfr.at hcw
  have hlen : (flushS win E.nw cwp (m + 1) mem).length = mem.length := flushS_len _ _ _ _ _
  have hgo := go_run (E := E) (win := win) (tpc := tpc) (ch := ch) (cwp := cwp) (wim := 2 ^ inv) (t := 35) 6 (.inr rfl) (c := cwp) (f := fl) c' f' x0 (2 ^ inv) y2 (packW ⟨cwp, E.pil, 16, fl⟩) inv cwp x7 (by rw [hL]; kernel_rfl) (by rw [hL]; kernel_rfl) hcw hcw h32 hp hf rfl (d := flushS win E.nw cwp (m + 1) mem)
  have e128 : u32 (0 + u32 128) = ((128 : Nat) : Int) := by unfold u32; omega
  refine ⟨(N + (2 + 5)) + 5, [x0, ((16 * t : Nat) : Int), pc, packW ⟨cwp, E.pil, 16, fl⟩, inv, 32 * (packW ⟨cwp, E.pil, 16, fl⟩ / 32), cwp, x7], by omega, rfl, ?_⟩
  · refine Hp.rdwim 1 (by rw [hL]; kernel_rfl) (by decide) (by decide) ?_
    refine Hp.rdpsr 3 (by rw [hL]; kernel_rfl) (by decide) (by decide) rfl ?_
    refine Hp.alui 5 4 3 31 (v := cwp) (by rw [hL]; kernel_rfl) (by decide) (by decide) (by decide) (by decide) rfl (pack31 (by omega) (by omega) hp.1 hf.1) ?_
    refine Hp.alui 0 6 4 0 (v := cwp) (by rw [hL]; kernel_rfl) (by decide) (by decide) (by decide) (by decide) rfl (by show u32 ((cwp : Int) + u32 0) = _; unfold u32; omega) ?_
    refine Hp.alui 5 5 3 (-32) (v := 32 * (packW ⟨cwp, E.pil, 16, fl⟩ / 32)) (by rw [hL]; kernel_rfl) (by decide) (by decide) (by decide) (by decide) rfl ?_ ?_
    · have e : ∀ n : Int, n = packW ⟨cwp, E.pil, 16, fl⟩ → andS n 4294967264 = 32 * (packW ⟨cwp, E.pil, 16, fl⟩ / 32) := fun n hn => by
        subst hn; exact andBelow (by unfold packW; simp only; omega) (by unfold packW; simp only; omega)
      exact e _ rfl
    refine Hp.trans hfl (show Hp E (2 + 5) _ _ from Hp.trans hgo ?_)
    generalize flushS win E.nw cwp (m + 1) mem = d at *
    refine Hp.ld 1 0 128 (A := 128) (v := (t : Int)) (by rw [hL]; kernel_rfl) (by decide) (by decide) (by decide) e128 ⟨by omega, by omega, by omega⟩ hcur ?_
    refine Hp.alui 8 1 1 4 (v := ((16 * t : Nat) : Int)) (by rw [hL]; kernel_rfl) (by decide) (by decide) (by decide) (by decide) rfl (shl4 t (by omega)) ?_
    refine Hp.rdt 2 (by rw [hL]; kernel_rfl) (by decide) (by decide) hpc ?_
    refine Hp.st 2 1 64 (A := 16 * t + 64) (v := pc) (by rw [hL]; kernel_rfl) (by decide) (add76 (by omega) 64 (by decide)) ⟨by omega, by omega, by omega⟩ (by rw [hlo]; omega) rfl ?_
    refine Hp.st 14 1 68 (A := 16 * t + 68) (v := (frW win E.nw cwp : Int)) (by rw [hL]; kernel_rfl) (by decide) (add76 (by omega) 68 (by decide)) ⟨by omega, by omega, by rw [storeS_len]; omega⟩ (by rw [hlo]; omega) ?_ ?_
    · exact a1
    exact Hp.refl _ _
theorem end_run (hL : E.L = swapI E.nw) (hlo : E.lo = 768) (hl : 2048 ≤ mem.length) {t : Nat} (ht : t < 4) (hcur : loadS mem 128 4 = (t : Int)) {g : List Int} (hg : g.length = 8) :
    ∃ g', g'.length = 8 ∧ Hp E 4 ⟨win, g, mem, 0, wim, cwp, fl, tpc, ch⟩ ⟨win, g', storeS mem (16 * t + 76) 4 0, 42, wim, cwp, fl, tpc, ch⟩ := by
  obtain ⟨x0, x1, x2, x3, x4, x5, x6, x7, rfl⟩ := eight hg
  have e128 : u32 (0 + u32 128) = ((128 : Nat) : Int) := by unfold u32; omega
  refine ⟨[x0, ((16 * t : Nat) : Int), x2, x3, x4, x5, x6, x7], rfl, ?_⟩
  · refine Hp.ld 1 0 128 (A := 128) (v := (t : Int)) (by rw [hL]; kernel_rfl) (by decide) (by decide) (by decide) e128 ⟨by omega, by omega, by omega⟩ hcur ?_
    refine Hp.alui 8 1 1 4 (v := ((16 * t : Nat) : Int)) (by rw [hL]; kernel_rfl) (by decide) (by decide) (by decide) (by decide) rfl (shl4 t (by omega)) ?_
    refine Hp.st 0 1 76 (A := 16 * t + 76) (v := 0) (by rw [hL]; kernel_rfl) (by decide) (add76 (by omega) 76 (by decide)) ⟨by omega, by omega, by omega⟩ (by rw [hlo]; omega) rfl ?_
    exact Hp.jump 0 39 (j := 42) (by rw [hL]; kernel_rfl) rfl (by omega) (by rw [hL, swapI_len]; decide) (Hp.refl _ _)
def nextS (d : List Int) (t : Nat) : List Int := storeS (storeS d 128 4 t) 136 4 (loadS (storeS d 128 4 t) (16 * t + 72) 4)
theorem nextS_len (d : List Int) (t : Nat) : (nextS d t).length = d.length := by unfold nextS; rw [storeS_len, storeS_len]
theorem resume_run (hL : E.L = swapI E.nw) (hlo : E.lo = 768) (h2 : 2 ≤ E.nw) (h32 : E.nw ≤ 32) (hp : 0 ≤ E.pil ∧ E.pil < 16) (hf : 0 ≤ fl ∧ fl < 16) (hcw : cwp < E.nw) (hwl : win.length = 16 * E.nw) (hm : mem.length ≤ 4194304) (hl : 2048 ≤ mem.length)
    {t : Nat} (ht : t < 4) {sp : Nat} {pc : Int} (hsp : loadS (nextS mem t) (16 * t + 68) 4 = (sp : Int)) (hpc : loadS (nextS mem t) (16 * t + 64) 4 = pc) (hs : 64 ≤ sp ∧ sp % 4 = 0 ∧ sp + 64 ≤ mem.length) {g : List Int} (hg : g.length = 8) (h4 : gr g 4 = (t : Int)) (h5 : gr g 5 = ((16 * t : Nat) : Int)) :
    ∃ N g' fl', N ≤ 31 ∧ g'.length = 8 ∧ Hp E N ⟨win, g, mem, 69, wim, cwp, fl, tpc, ch⟩ ⟨setW (win.set (16 * ((cwp + E.nw - 1) % E.nw) + 14) sp) cwp (wordsS (nextS mem t) sp 16), g', nextS mem t, 100, 2 ^ ((cwp + 1) % E.nw), cwp, fl', tpc.set 16 pc, ch⟩ := by
  obtain ⟨x0, x1, x2, x3, x4, x5, x6, x7, rfl⟩ := eight hg
  obtain rfl : x4 = (t : Int) := h4
  obtain rfl : x5 = ((16 * t : Nat) : Int) := h5
  have e128 : u32 (0 + u32 128) = ((128 : Nat) : Int) := by unfold u32; omega
  have e136 : u32 (0 + u32 136) = ((136 : Nat) : Int) := by unfold u32; omega
  have hml := Nat.mod_lt (cwp + E.nw - 1) (show 0 < E.nw by omega)
  have hnx : (cwp + 1) % E.nw < E.nw := Nat.mod_lt _ (by omega)
  obtain ⟨n1, f1, hn1, hnext⟩ := next_run (E := E) (win := win.set (16 * ((cwp + E.nw - 1) % E.nw) + 14) sp) (tpc := tpc.set 16 pc) (ch := ch) (wim := wim) (t := 77) (w := cwp) hcw h32 (by rw [hL]; kernel_rfl) (by rw [hL]; kernel_rfl) (by rw [hL]; kernel_rfl) (by rw [hL]; kernel_rfl) (by rw [hL, swapI_len]; decide) cwp fl x0 pc x2 (packW ⟨cwp, E.pil, 16, fl⟩) ((16 * t : Nat) : Int) x6 x7 (d := nextS mem t)
  have hne : (cwp + E.nw - 1) % E.nw ≠ cwp := by
    intro h
    rcases Nat.lt_or_ge 0 cwp with h0 | h0
    · rw [show cwp + E.nw - 1 = (cwp - 1) + E.nw by omega, Nat.add_mod_right, Nat.mod_eq_of_lt (by omega)] at h; omega
    · rw [show cwp = 0 by omega, Nat.zero_add, Nat.mod_eq_of_lt (by omega)] at h; omega
  have hwl2 : (win.set (16 * ((cwp + E.nw - 1) % E.nw) + 14) (sp : Int)).length = 16 * E.nw := by rw [List.length_set]; exact hwl
  have hA : (win.set (16 * ((cwp + E.nw - 1) % E.nw) + 14) (sp : Int)).getD (16 * ((cwp + E.nw - 1) % E.nw) + 14) 0 = (sp : Int) := by
    rw [List.getD_eq_getElem?_getD, List.getElem?_set_self (by rw [hwl]; omega)]; rfl
  have hld := load_run (E := E) (win := win.set (16 * ((cwp + E.nw - 1) % E.nw) + 14) sp) (g := [x0, 2 ^ ((cwp + 1) % E.nw), x2, packW ⟨cwp, E.pil, 16, fl⟩, (((cwp + 1) % E.nw : Nat) : Int), ((16 * t : Nat) : Int), x6, x7]) (mem := nextS mem t) (tpc := tpc.set 16 pc) (ch := ch) (cwp := cwp) (wim := 2 ^ ((cwp + 1) % E.nw)) (fl := f1) 84 (fun j hj => by rw [hL]; exact sw_load _ _ hj) hA ⟨hs.1, hs.2.1, by rw [nextS_len]; exact hs.2.2⟩ (by rw [nextS_len]; exact hm) hwl2 hcw h2 16 (Nat.le_refl _)
  refine ⟨(n1 + (16 + 3)) + 8, [x0, 2 ^ ((cwp + 1) % E.nw), x2, packW ⟨cwp, E.pil, 16, fl⟩, (((cwp + 1) % E.nw : Nat) : Int), ((16 * t : Nat) : Int), x6, x7], f1, by omega, rfl, ?_⟩
  · refine Hp.st 4 0 128 (A := 128) (v := (t : Int)) (by rw [hL]; kernel_rfl) (by decide) e128 ⟨by omega, by omega, by omega⟩ (by rw [hlo]; omega) rfl ?_
    refine Hp.ld 1 5 72 (A := 16 * t + 72) (v := loadS (storeS mem 128 4 t) (16 * t + 72) 4) (by rw [hL]; kernel_rfl) (by decide) (by decide) (by decide) (add76 (by omega) 72 (by decide)) ⟨by omega, by omega, by rw [storeS_len]; omega⟩ rfl ?_
    refine Hp.st 1 0 136 (A := 136) (v := loadS (storeS mem 128 4 t) (16 * t + 72) 4) (by rw [hL]; kernel_rfl) (by decide) e136 ⟨by omega, by omega, by rw [storeS_len]; omega⟩ (by rw [hlo]; omega) rfl ?_
    refine Hp.ld 1 5 64 (A := 16 * t + 64) (v := pc) (by rw [hL]; kernel_rfl) (by decide) (by decide) (by decide) (add76 (by omega) 64 (by decide)) ⟨by omega, by omega, by rw [storeS_len, storeS_len]; omega⟩ hpc ?_
    refine Hp.wrt 1 (v := pc) (by rw [hL]; kernel_rfl) (by decide) rfl ?_
    refine Hp.ldsp 5 68 (A := 16 * t + 68) (v := (sp : Int)) (by rw [hL]; kernel_rfl) (by decide) (add76 (by omega) 68 (by decide)) ⟨by omega, by omega, by rw [storeS_len, storeS_len]; omega⟩ hsp ?_
    refine Hp.rdpsr 3 (by rw [hL]; kernel_rfl) (by decide) (by decide) rfl ?_
    refine Hp.alui 5 4 3 31 (v := cwp) (by rw [hL]; kernel_rfl) (by decide) (by decide) (by decide) (by decide) rfl (pack31 (by omega) (by omega) hp.1 hf.1) ?_
    refine Hp.trans hnext ?_
    refine Hp.alui 0 1 0 1 (v := u32 (0 + u32 1)) (by rw [hL]; kernel_rfl) (by decide) (by decide) (by decide) (by decide) rfl rfl ?_
    refine Hp.both 8 1 1 4 (v := 2 ^ ((cwp + 1) % E.nw)) (by rw [hL]; kernel_rfl) (by decide) (by decide) (by decide) (by decide) (by decide) rfl (pow_at _ (by omega)) ?_
    refine Hp.wrwim 1 (v := 2 ^ ((cwp + 1) % E.nw)) (by rw [hL]; kernel_rfl) (by decide) rfl (Int.pow_nonneg (by decide)) (wim_lt h32 hnx) (inv_pow h2 h32 hnx) ?_
    exact hld
end
end Go.Proofs.YtajholbcpmjhiaaGreatDoor
