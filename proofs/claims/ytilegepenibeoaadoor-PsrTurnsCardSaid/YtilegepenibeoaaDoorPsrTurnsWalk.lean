/- The walk of muntinlaw04.PsrTurns. -/
import Derived.Test.YtilegepenibeoaaDoorPsrHead
import Derived.Test.YtilegepenibeoaaDoorPsrCircleLaw
namespace Go.Proofs.YtilegepenibeoaaDoor
open Go.RowKit
set_option linter.unusedVariables false
set_option linter.unusedSimpArgs false
/-- The first of a row. -/
theorem ReadsI.take {w : World} {p : Option Addr} {c : Nat} {l : List Int} (h : ReadsI w (.slice p l.length c) l) (m : Nat) (hm : m ≤ l.length) (c' : Nat) : ReadsI w (.slice p m c') (l.take m) := by
  obtain ⟨h1, p', c2, h2, h3⟩ := h
  cases h2
  have hl : (l.take m).length = m := by rw [List.length_take]; omega
  refine ⟨by omega, p, c', by rw [hl], fun h0 => ?_⟩
  rw [hl] at h0
  obtain ⟨b, o, rfl, h4⟩ := h3 (by omega)
  refine ⟨b, o, rfl, fun k hk => ?_⟩
  rw [hl] at hk
  rw [h4 k (by omega)]
  simp [List.getD_eq_getElem?_getD, List.getElem?_take, hk]
theorem resK_take (x n : Int) (k m : Nat) (h : m ≤ k) : (resK x n k).take m = resK x n m := by
  unfold resK
  rw [← List.map_take, List.take_range, Nat.min_eq_left h]
/-- What turning the invalid window on leaves. -/
theorem turn_facts {x v n : Int} (hw : winP n) (hx : 0 ≤ x ∧ x < n) (hv : 0 ≤ v ∧ v < n) :
    0 ≤ (v + 1) % n ∧ (v + 1) % n < n ∧ (v - x + n) % n = (v - x) % n ∧ ((v + 1) % n - x + n) % n = ((v + 1) % n - x) % n ∧ 0 ≤ v - x + n ∧ v - x + n < 64 ∧ 0 ≤ (v + 1) % n - x + n ∧ (v + 1) % n - x + n < 64 ∧ 0 ≤ (v - x) % n ∧ 0 ≤ ((v + 1) % n - x) % n ∧
    ((((v + 1) % n - x) % n = (v - x) % n + 1) ∨ (((v + 1) % n - x) % n = 0 ∧ (v + 1) % n = x ∧ (v - x) % n + 1 ≠ 0)) := by
  obtain ⟨a1, a2⟩ := circ_next hw hv
  have hw' := hw
  obtain ⟨h1, h2⟩ := hw
  have hnx : (v + 1) % n = v + 1 ∧ v + 1 < n ∨ (v + 1) % n = 0 ∧ v + 1 = n := by
    by_cases h : v + 1 < n
    · exact .inl ⟨a1 h, h⟩
    · exact .inr ⟨a2 (by omega), by omega⟩
  have hb : 0 ≤ (v + 1) % n ∧ (v + 1) % n < n := by omega
  have c1 := circ_far hw' hx hv
  have c2 := circ_far hw' hx hb
  have d1 : (v - x) % n = v - x ∧ x ≤ v ∨ (v - x) % n = v - x + n ∧ v < x := by
    by_cases h : x ≤ v
    · exact .inl ⟨c1.1 h, h⟩
    · exact .inr ⟨c1.2 (by omega), by omega⟩
  have d2 : ((v + 1) % n - x) % n = (v + 1) % n - x ∧ x ≤ (v + 1) % n ∨ ((v + 1) % n - x) % n = (v + 1) % n - x + n ∧ (v + 1) % n < x := by
    by_cases h : x ≤ (v + 1) % n
    · exact .inl ⟨c2.1 h, h⟩
    · exact .inr ⟨c2.2 (by omega), by omega⟩
  refine ⟨hb.1, hb.2, Int.add_emod_right _ _, Int.add_emod_right _ _, by omega, by omega, by omega, by omega, by omega, by omega, ?_⟩
  omega
set_option maxRecDepth 100000 in
set_option maxHeartbeats 4000000 in
theorem walk_PsrTurns (a b c : Int) (ha : 0 ≤ a ∧ a < 256) (hb : 0 ≤ b ∧ b < 256) (hc : 0 ≤ c ∧ c < 256) (w : World) (ht : Bru w) : Calls Tryd.prog 9 #[.int .u8 a, .int .u8 b, .int .u8 c] w fun e w' => e = .returned (.bool true) ∧ Below w.heap.size w w' := by
  have T := phid ht
  clear ht
  have n0 : 0 ≤ a % 31 ∧ a % 31 < 31 := by omega
  have n1 : (0 : Int) < 2 + a % 31 := by omega
  go_enter Tryd.func9, Tryd.ntmps9
  go_wp2_with fail
  go_quiet (fail)
  have hn : winP (2 + a % 31) := ⟨by omega, by omega⟩
  have hx : 0 ≤ b % (2 + a % 31) ∧ b % (2 + a % 31) < 2 + a % 31 := ⟨Int.emod_nonneg _ (by omega), Int.emod_lt_of_pos _ n1⟩
  have hv : 0 ≤ c % (2 + a % 31) ∧ c % (2 + a % 31) < 2 + a % 31 := ⟨Int.emod_nonneg _ (by omega), Int.emod_lt_of_pos _ n1⟩
  have HB0 := phid (pdrew (Below.refl w.heap.size w) nq)
  generalize 2 + a % 31 = n at n1 hn hx hv ⊢
  generalize b % n = x at hx ⊢
  generalize c % n = v at hv ⊢
  obtain ⟨t1, t2, t3, t4, t5, t6, t7, t8, t9, t10, t11⟩ := turn_facts hn hx hv
  have okx : okW x n := ⟨hn, hx⟩
  have okv : okW v n := ⟨hn, hv⟩
  have oknx : okW ((v + 1) % n) n := ⟨hn, t1, t2⟩
  have k1 := wim_any v n
  rw [show wimV v n = 2 ^ v.toNat from if_pos okv, show okE v n = 0 from if_pos okv] at k1
  have k2 := next_any v n
  rw [show stepV v 1 n = (v + 1) % n from if_pos okv, show okE v n = 0 from if_pos okv] at k2
  have k3 := wim_any ((v + 1) % n) n
  rw [show wimV ((v + 1) % n) n = 2 ^ ((v + 1) % n).toNat from if_pos oknx, show okE ((v + 1) % n) n = 0 from if_pos oknx] at k3
  have pw : ∀ y : Int, 0 ≤ y → y < n → (0 : Int) ≤ 2 ^ y.toNat ∧ (2 : Int) ^ y.toNat < 4294967296 ∧ invV (2 ^ y.toNat) n = y ∧ invE (2 ^ y.toNat) n = 0 := by
    intro y h0 h1
    have hinv := inv_some (wim := 2 ^ y.toNat) (nw := n) (k := y.toNat) rfl (by omega)
    refine ⟨?_, ?_, by unfold invV; rw [if_pos hn, hinv]; simp only; omega, by unfold invE; rw [if_pos hn, hinv]⟩
    all_goals
      have g1 : 2 ^ y.toNat ≤ 2 ^ 31 := Nat.pow_le_pow_right (by omega) (by have := hn.2; omega)
      have g2 : (2 : Int) ^ y.toNat = ((2 ^ y.toNat : Nat) : Int) := by simp
      rw [g2]
      generalize 2 ^ y.toNat = p at g1 ⊢
      omega
  have pv := pw v hv.1 hv.2
  have pn := pw ((v + 1) % n) t1 t2
  have k4 := resident_any x (2 ^ v.toNat) n pv.1 pv.2.1
  rw [show resV x (2 ^ v.toNat) n = resK x n ((v - x) % n).toNat from by unfold resV; rw [if_pos ⟨okx, pv.2.2.2⟩, pv.2.2.1]; rfl, show resE x (2 ^ v.toNat) n = 0 from by unfold resE; rw [if_pos okx, pv.2.2.2]] at k4
  have k5 := resident_any x (2 ^ ((v + 1) % n).toNat) n pn.1 pn.2.1
  rw [show resV x (2 ^ ((v + 1) % n).toNat) n = resK x n (((v + 1) % n - x) % n).toNat from by unfold resV; rw [if_pos ⟨okx, pn.2.2.2⟩, pn.2.2.1]; rfl, show resE x (2 ^ ((v + 1) % n).toNat) n = 0 from by unfold resE; rw [if_pos okx, pn.2.2.2]] at k5
  have hend := (res_step hn hv hx 0).2.1
  have e1 : (((v - x) % n).toNat : Int) = (v - x) % n := Int.toNat_of_nonneg t9
  have e2 : ((((v + 1) % n - x) % n).toNat : Int) = ((v + 1) % n - x) % n := Int.toNat_of_nonneg t10
  rw [← e1] at t3 t11
  rw [← e2] at t4 t11
  have K1 := phid k1
  have K2 := phid k2
  have K3 := phid k3
  have K4 := phid k4
  have K5 := phid k5
  have HE := phid hend
  have hn32 := hn.2
  clear k1 k2 k3 k4 k5 hend e1 e2 pw pv pn okx okv oknx t9 t10 n0
  generalize ((v - x) % n).toNat = N1 at t3 t11 K4 HE
  generalize (((v + 1) % n - x) % n).toNat = N2 at t4 t11 K5
  generalize (2 : Int) ^ v.toNat = wim at K1 K4
  generalize (2 : Int) ^ ((v + 1) % n).toNat = wim2 at K3 K5
  generalize (v + 1) % n = nx at *
  have b1 : -32 ≤ v - x ∧ v - x ≤ 32 := by omega
  have b2 : -32 ≤ nx - x ∧ nx - x ≤ 32 := by omega
  have hN1 : N1 < 64 := by
    have := Int.emod_lt_of_pos (v - x + n) n1
    rw [t3] at this; omega
  have T11 := phid t11
  replace T := phid (T.out.keep HB0.out)
  clear t11 hn
  go_wp2_with fail
  refine (K1.out _).mono ?_
  rintro e w1 ⟨rfl, bl⟩
  replace T := phid (T.out.keep bl)
  have B := phid (pbt HB0.out bl)
  clear bl HB0
  go_wp2_with fail
  refine (K2.out _).mono ?_
  rintro e w2 ⟨rfl, bl⟩
  replace T := phid (T.out.keep bl)
  replace B := phid (pbt B.out bl)
  clear bl
  go_wp2_with fail
  refine (K3.out _).mono ?_
  rintro e w3 ⟨rfl, bl⟩
  replace T := phid (T.out.keep bl)
  replace B := phid (pbt B.out bl)
  clear bl
  go_wp2_with fail
  refine (K4.out _ T.out).mono ?_
  rintro e w4 ⟨s1, rfl, hown1, bl⟩
  replace T := phid (T.out.keep bl)
  replace B := phid (pbt B.out bl)
  have R1 := ReadsI.of_own hown1
  clear bl hown1
  go_wp2_with fail
  refine (K5.out _ T.out).mono ?_
  rintro e w5 ⟨s2, rfl, hown2, bl⟩
  replace T := phid (T.out.keep bl)
  replace B := phid (pbt B.out bl)
  replace R1 := R1.keep bl
  have R2 := ReadsI.of_own hown2
  obtain ⟨p1, c1, hs1, hs2⟩ := R1.2
  rw [resK_len] at hs1
  clear bl hs2
  subst hs1
  rcases T11.out with hcase | ⟨hc0, hc1, hc2⟩
  · have hNN : N2 = N1 + 1 := by omega
    subst hNN
    rcases hown2.2 with ⟨h1, h2⟩ | ⟨g, cap, cur, h1, hg, hh, hcap, hmx, hsz, htk⟩
    · rw [resK_len] at h2; omega
    · rw [resK_len] at h1 hcap
      subst h1
      have hl1 := resK_len x n N1
      have hl2 := resK_len x n (N1 + 1)
      have hcell := R2.2
      have R3 : ReadsI w5 (.slice (some ⟨g, 0, none⟩) N1 cap) (resK x n N1) := by
        rw [← resK_take x n (N1 + 1) N1 (by omega)]
        have R2' : ReadsI w5 (.slice (some ⟨g, 0, none⟩) (resK x n (N1 + 1)).length cap) (resK x n (N1 + 1)) := by
          rw [hl2]; exact R2
        exact R2'.take N1 (by rw [hl2]; omega) cap
      have cN : w5.cell? ⟨g, N1, none⟩ = some (.int .i64 v) := by
        obtain ⟨p, c2, hp, hr⟩ := hcell
        rw [hl2] at hp hr
        obtain ⟨bb, oo, hbo, hr2⟩ := hr (by omega)
        cases hp
        cases hbo
        have := hr2 N1 (by omega)
        rw [Nat.zero_add] at this
        rw [this]
        have hgl : (resK x n (N1 + 1)).getD N1 0 = (x + (N1 : Int)) % n := by simp [resK, List.getD_eq_getElem?_getD]
        rw [hgl, HE.out]
      have q1 : ((N1 : Int) + 1 == (N1 : Int) + 1) = true := by simp
      have q2 : (N1 : Int) ≤ cap := by omega
      have q3 : (N1 : Int) < (N1 : Int) + 1 := by omega
      have q4 : decide ((N1 : Int) ≤ cap) = true := by simpa using q2
      have RR1 := phid R1
      have RR3 := phid R3
      have HCN := phid cN
      clear R1 R2 R3 cN hown2 hcell hl1 hl2 hh hsz htk hcase T11
      go_wp2_with fail
      refine (psame_any _ _ _ (resK x n N1) (resK x n N1) RR3.out RR1.out).mono ?_
      rw [show decide (resK x n N1 = resK x n N1) = true from decide_eq_true rfl]
      rintro e w8 ⟨rfl, bl⟩
      replace T := phid (T.out.keep bl)
      replace B := phid (pbt B.out bl)
      have c8 := (bl.cell (p := ⟨g, N1, none⟩) (World.block_lt_of_cell? _ _ HCN.out)).trans HCN.out
      clear bl
      go_wp2_with fail
      refine (phead_any _ T.out).mono ?_
      rintro e w9 ⟨rfl, bl⟩
      replace B := phid (pbt B.out bl)
      clear bl
      go_wp2_with fail
      go_ret
      exact ⟨rfl, B.out⟩
  · have hne : ((N2 : Int) == (N1 : Int) + 1) = false := by simp; omega
    have hN20 : N2 = 0 := by omega
    subst hN20
    subst hc1
    obtain ⟨p2, c2, hs3, _⟩ := R2.2
    rw [resK_len] at hs3
    subst hs3
    clear R1 R2 hown2 hc0 hc2 T11 HE
    go_wp2_with fail
    refine (phead_any _ T.out).mono ?_
    rintro e w8 ⟨rfl, bl⟩
    replace B := phid (pbt B.out bl)
    clear bl
    go_wp2_with fail
    go_ret
    exact ⟨rfl, B.out⟩
end Go.Proofs.YtilegepenibeoaaDoor
