/- The walk of muntinlaw04.PsrCircle. -/
import Derived.Test.YtilegepenibeoaaDoorPsrHead
import Derived.Test.YtilegepenibeoaaDoorPsrCircleLaw
namespace Go.Proofs.YtilegepenibeoaaDoor
open Go.RowKit
set_option linter.unusedVariables false
set_option linter.unusedSimpArgs false
set_option maxRecDepth 100000 in
set_option maxHeartbeats 4000000 in
theorem walk_PsrCircle (a b c : Int) (ha : 0 ≤ a ∧ a < 256) (hb : 0 ≤ b ∧ b < 256) (hc : 0 ≤ c ∧ c < 256) (w : World) (ht : Bru w) : Calls Tryd.prog 8 #[.int .u8 a, .int .u8 b, .int .u8 c] w fun e w' => e = .returned (.bool true) ∧ Below w.heap.size w w' := by
  have T := phid ht
  clear ht
  have n0 : 0 ≤ a % 31 ∧ a % 31 < 31 := by omega
  have n1 : (0 : Int) < 2 + a % 31 := by omega
  go_enter Tryd.func8, Tryd.ntmps8
  go_wp2_with fail
  go_quiet (fail)
  have hn : winP (2 + a % 31) := ⟨by omega, by omega⟩
  have hx : 0 ≤ b % (2 + a % 31) ∧ b % (2 + a % 31) < 2 + a % 31 := ⟨Int.emod_nonneg _ (by omega), Int.emod_lt_of_pos _ n1⟩
  have hv : 0 ≤ c % (2 + a % 31) ∧ c % (2 + a % 31) < 2 + a % 31 := ⟨Int.emod_nonneg _ (by omega), Int.emod_lt_of_pos _ n1⟩
  have HB0 := phid (pdrew (Below.refl w.heap.size w) nq)
  generalize 2 + a % 31 = n at n1 hn hx hv ⊢
  generalize b % n = x at hx ⊢
  generalize c % n = v at hv ⊢
  obtain ⟨f1, f2, f3, f4, f5, f6, f7, f8⟩ := circ_facts hn hx hv
  have okx : okW x n := ⟨hn, hx⟩
  have oknx : okW ((x + 1) % n) n := ⟨hn, f1, f2⟩
  have okv : okW v n := ⟨hn, hv⟩
  have k1 := next_any x n
  rw [show stepV x 1 n = (x + 1) % n from if_pos okx, show okE x n = 0 from if_pos okx] at k1
  have k2 := ahead_any ((x + 1) % n) n
  rw [show stepV ((x + 1) % n) (n - 1) n = x from (if_pos oknx).trans f3, show okE ((x + 1) % n) n = 0 from if_pos oknx] at k2
  have k3 : ∀ (k : Nat) (W : World), Calls Tryd.prog 23 #[.int .i64 ((x + (k : Int)) % n), .int .i64 n] W fun e w' => e = .returned (.tuple #[.int .i64 ((x + ((k + 1 : Nat) : Int)) % n), .int .i64 0]) ∧ Below W.heap.size W w' := by
    intro k W
    obtain ⟨_, _, _, s4, s5, s6⟩ := res_step hn hv hx k
    have ok : okW ((x + (k : Int)) % n) n := ⟨hn, s5, s6⟩
    have h := next_any ((x + (k : Int)) % n) n W
    rw [show stepV ((x + (k : Int)) % n) 1 n = (x + ((k + 1 : Nat) : Int)) % n from (if_pos ok).trans s4, show okE ((x + (k : Int)) % n) n = 0 from if_pos ok] at h
    exact h
  have k4 := wim_any v n
  rw [show wimV v n = 2 ^ v.toNat from if_pos okv, show okE v n = 0 from if_pos okv] at k4
  have hpow : (0 : Int) ≤ 2 ^ v.toNat ∧ (2 : Int) ^ v.toNat < 4294967296 := by
    have h1 : 2 ^ v.toNat ≤ 2 ^ 31 := Nat.pow_le_pow_right (by omega) (by have := hn.2; omega)
    have h2 : (2 : Int) ^ v.toNat = ((2 ^ v.toNat : Nat) : Int) := by simp
    rw [h2]
    generalize 2 ^ v.toNat = p at h1 ⊢
    omega
  have hinv := inv_some (wim := 2 ^ v.toNat) (nw := n) (k := v.toNat) rfl (by omega)
  have hiv : invV (2 ^ v.toNat) n = v := by unfold invV; rw [if_pos hn, hinv]; simp only; omega
  have hie : invE (2 ^ v.toNat) n = 0 := by unfold invE; rw [if_pos hn, hinv]
  have k5 := invalid_any (2 ^ v.toNat) n hpow.1 hpow.2
  rw [hiv, hie] at k5
  have k6 := resident_any x (2 ^ v.toNat) n hpow.1 hpow.2
  rw [show resV x (2 ^ v.toNat) n = resK x n ((v - x) % n).toNat from by unfold resV; rw [if_pos ⟨okx, hie⟩, hiv]; rfl, show resE x (2 ^ v.toNat) n = 0 from by unfold resE; rw [if_pos okx, hie]] at k6
  have k7 := ahead_any x n
  rw [show stepV x (n - 1) n = (x + (n - 1)) % n from if_pos okx, show okE x n = 0 from if_pos okx] at k7
  have hrs := fun k => res_step hn hv hx k
  have HRS := phid hrs
  have hN : (((v - x) % n).toNat : Int) = (v - x) % n := Int.toNat_of_nonneg f5
  have hback : (x + n) % n = x := by rw [Int.add_emod_right]; exact Int.emod_eq_of_lt hx.1 hx.2
  have HBK := phid hback
  have K1 := phid k1
  have K2 := phid k2
  have K3 := phid k3
  have K4 := phid k4
  have K5 := phid k5
  have K6 := phid k6
  have K7 := phid k7
  rw [← hN] at f5 f6 f7 f8
  generalize ((v - x) % n).toNat = N at f5 f6 f7 f8 HRS K6
  generalize (2 : Int) ^ v.toNat = wim at K4 K5 K6
  have hn32 := hn.2
  have F7 := phid f7
  have F8 := phid f8
  have d0 : ((x + 1) % n == x) = false := by simpa using f4
  have d1 : decide (n - 1 < (N : Int)) = false := by simp; omega
  clear k1 k2 k3 k4 k5 k6 k7 hrs hN hback hinv hiv hie hpow f3 f4 f7 f8 okx oknx okv n0
  generalize (x + 1) % n = nx at f1 f2 d0 K1 K2
  generalize (x + (n - 1)) % n = ah at F8 K7
  clear hn
  replace T := phid (T.out.keep HB0.out)
  go_wp2_with fail
  refine (K1.out _).mono ?_
  rintro e w1 ⟨rfl, bl⟩
  replace T := phid (T.out.keep bl)
  have B := phid (pbt HB0.out bl)
  clear bl HB0
  go_wp2_with fail
  refine (K2.out _).mono ?_
  rintro e w2 ⟨rfl, bl⟩
  replace T := phid (T.out.keep bl)
  replace B := phid (pbt B.out bl)
  clear bl
  go_wp2_with fail
  have HX0 := phid (show x = (x + ((0 : Nat) : Int)) % n by rw [show x + ((0 : Nat) : Int) = x by omega]; exact (Int.emod_eq_of_lt hx.1 hx.2).symm)
  go_loopw [14, 15] (fun y i wr => ∃ k : Nat, (k : Int) ≤ n ∧ i = .int .i64 k ∧ y = .int .i64 ((x + (k : Int)) % n) ∧ Bru wr ∧ Below w.heap.size w wr) (fun _ i _ => n.toNat - (intOf i).toNat)
  case atStart => exact ⟨0, by omega, rfl, congrArg _ HX0.out, T.out, B.out⟩
  case round =>
    obtain ⟨k, hk, rfl, rfl, hbr, hbl⟩ := hrel
    have T := phid hbr
    have B := phid hbl
    clear hbr hbl
    by_cases hlt : (k : Int) < n
    · go_wp2_with fail
      refine (K3.out k _).mono ?_
      rintro e w3 ⟨rfl, bl⟩
      replace T := phid (T.out.keep bl)
      replace B := phid (pbt B.out bl)
      clear bl
      go_wp2_with fail
      go_roundw
      case rel => exact ⟨k + 1, by omega, by go_num, rfl, T.out, B.out⟩
      case measure => simp [intOf] <;> omega
    · have hkn : (k : Int) = n := by omega
      have e0 : (x + (k : Int)) % n = x := by rw [hkn]; exact HBK.out
      rw [e0]
      clear e0 hkn
      have hge : n ≤ (k : Int) := by omega
      clear hlt
      go_wp2_with fail
      refine (K4.out _).mono ?_
      rintro e w4 ⟨rfl, bl⟩
      replace T := phid (T.out.keep bl)
      replace B := phid (pbt B.out bl)
      clear bl
      go_wp2_with fail
      refine (K5.out _ T.out).mono ?_
      rintro e w5 ⟨rfl, bl⟩
      replace T := phid (T.out.keep bl)
      replace B := phid (pbt B.out bl)
      clear bl
      go_wp2_with fail
      refine (K6.out _ T.out).mono ?_
      rintro e w6 ⟨sl, rfl, hown, bl⟩
      replace T := phid (T.out.keep bl)
      replace B := phid (pbt B.out bl)
      obtain ⟨sb, so, sp, sc, hsl, hlm, hsp, hcell⟩ := (ReadsI.of_own hown).shape
      rw [resK_len] at hsl hsp hcell
      subst hsl
      have HC := phid (And.intro hsp hcell)
      clear bl hown hsp hcell hlm
      have hN0 : ((N : Int) == 0) = (x == v) := by
        rw [Bool.eq_iff_iff]; simpa using F7.out
      have hxv : ((N : Int) == 0) = true ∧ (x == v) = true ∨ ((N : Int) == 0) = false ∧ (x == v) = false := by
        cases h : (x == v)
        · right; exact ⟨hN0.trans h, rfl⟩
        · left; exact ⟨hN0.trans h, rfl⟩
      clear hN0
      rcases hxv with ⟨g1, g2⟩ | ⟨g1, g2⟩
      all_goals
        go_wp2_with fail
        go_loopw [22] (fun i wr => ∃ j : Nat, j ≤ N ∧ i = .int .i64 j ∧ Bru wr ∧ Below w6.heap.size w6 wr) (fun i _ => N - (intOf i).toNat)
        case atStart => exact ⟨0, Nat.zero_le _, rfl, T.out, Below.refl _ _⟩
        case round =>
          obtain ⟨j, hj, rfl, hbr, hbl⟩ := hrel
          have T := phid hbr
          have B6 := phid hbl
          clear hbr hbl
          by_cases hlj : j < N
          · have hljj : (j : Int) < N := by omega
            obtain rfl := HC.out.1 (by omega)
            have c0 := HC.out.2 j hlj
            have hgl : (resK x n N).getD j 0 = (x + (j : Int)) % n := by simp [resK, List.getD_eq_getElem?_getD, hlj]
            rw [hgl] at c0
            have cw := (B6.out.cell (p := ⟨sb, so + j, none⟩) (World.block_lt_of_cell? _ _ c0)).trans c0
            obtain ⟨s1, s2, _, _, s5, s6⟩ := HRS.out j
            have k3 := K3.out j
            have ey : j = 0 → (((x + (j : Int)) % n != x) = false) := fun h => by subst h; rw [← HX0.out]; simp
            have ez : j + 1 = N → (((x + ((j + 1 : Nat) : Int)) % n != v) = false) := fun h => by rw [h]; simpa using s2
            have c1 : j + 1 < N → wr.cell? ⟨sb, so + (j + 1), none⟩ = some (.int .i64 ((x + ((j + 1 : Nat) : Int)) % n)) := fun h => by
              have c := HC.out.2 (j + 1) h
              have hgl : (resK x n N).getD (j + 1) 0 = (x + ((j + 1 : Nat) : Int)) % n := by simp [resK, List.getD_eq_getElem?_getD, h]
              rw [hgl] at c
              exact (B6.out.cell (p := ⟨sb, so + (j + 1), none⟩) (World.block_lt_of_cell? _ _ c)).trans c
            have C1 := phid c1
            have EY := phid ey
            have EZ := phid ez
            have KK := phid k3
            clear s1 s2 hgl c0 k3 ey ez c1
            generalize (x + (j : Int)) % n = y at cw EY KK s5 s6
            generalize (x + ((j + 1 : Nat) : Int)) % n = z at EZ KK C1
            have f9 : (0 : Int) ≤ (j : Int) + 1 := by omega
            have f10 : ((j : Int) + 1).toNat = j + 1 := by omega
            go_wp2_with fail
            refine (KK.out _).mono ?_
            rintro e w7 ⟨rfl, bl⟩
            have cw7 := (bl.cell (p := ⟨sb, so + j, none⟩) (World.block_lt_of_cell? _ _ cw)).trans cw
            replace T := phid (T.out.keep bl)
            have C7 := phid (show j + 1 < N → w7.cell? ⟨sb, so + (j + 1), none⟩ = some (.int .i64 z) from fun h => (bl.cell (p := ⟨sb, so + (j + 1), none⟩) (World.block_lt_of_cell? _ _ (C1.out h))).trans (C1.out h))
            replace B6 := phid (pbt B6.out bl)
            clear bl cw C1
            by_cases hj0 : j = 0
            · have q0 : ((j : Int) == 0) = true := by simpa using hj0
              have q1 := EY.out hj0
              clear hj0
              by_cases hjn : j + 1 = N
              · have q2 : decide ((j : Int) + 1 < N) = false := by simp; omega
                have q3 : ((j : Int) + 1 == N) = true := by simp; omega
                have q4 := EZ.out hjn
                clear hjn
                go_wp2_with fail
                go_roundw
                case rel => exact ⟨j + 1, by omega, by go_num, T.out, B6.out⟩
                case measure => simp [intOf] <;> omega
              · have q2 : decide ((j : Int) + 1 < N) = true := by simp; omega
                have q3 : ((j : Int) + 1 == N) = false := by simp; omega
                have c8 := C7.out (by omega)
                have q5 : (j : Int) + 1 < N := by omega
                clear hjn
                go_wp2_with fail
                go_roundw
                case rel => exact ⟨j + 1, by omega, by go_num, T.out, B6.out⟩
                case measure => simp [intOf] <;> omega
            · have q0 : ((j : Int) == 0) = false := by simpa using hj0
              clear hj0
              by_cases hjn : j + 1 = N
              · have q2 : decide ((j : Int) + 1 < N) = false := by simp; omega
                have q3 : ((j : Int) + 1 == N) = true := by simp; omega
                have q4 := EZ.out hjn
                clear hjn
                go_wp2_with fail
                go_roundw
                case rel => exact ⟨j + 1, by omega, by go_num, T.out, B6.out⟩
                case measure => simp [intOf] <;> omega
              · have q2 : decide ((j : Int) + 1 < N) = true := by simp; omega
                have q3 : ((j : Int) + 1 == N) = false := by simp; omega
                have c8 := C7.out (by omega)
                have q5 : (j : Int) + 1 < N := by omega
                clear hjn
                go_wp2_with fail
                go_roundw
                case rel => exact ⟨j + 1, by omega, by go_num, T.out, B6.out⟩
                case measure => simp [intOf] <;> omega
          · obtain rfl : j = N := by omega
            clear HC HRS
            go_wp2_with fail
            refine (K7.out _).mono ?_
            rintro e w7 ⟨rfl, bl⟩
            replace T := phid (T.out.keep bl)
            replace B := phid (pbt (pbt B.out B6.out) bl)
            clear bl
            by_cases hav : ah = v
            · have q1 : (ah != v) = false := by simpa using hav
              have q2 : ((j : Int) == n - 1) = true := by have := F8.out hav; simpa using this
              clear hav
              go_wp2_with fail
              refine (phead_any _ T.out).mono ?_
              rintro e w8 ⟨rfl, bl⟩
              replace B := phid (pbt B.out bl)
              clear bl
              go_wp2_with fail
              go_ret
              exact ⟨rfl, B.out⟩
            · have q1 : (ah != v) = true := by simpa using hav
              clear hav
              go_wp2_with fail
              refine (phead_any _ T.out).mono ?_
              rintro e w8 ⟨rfl, bl⟩
              replace B := phid (pbt B.out bl)
              clear bl
              go_wp2_with fail
              go_ret
              exact ⟨rfl, B.out⟩
end Go.Proofs.YtilegepenibeoaaDoor
