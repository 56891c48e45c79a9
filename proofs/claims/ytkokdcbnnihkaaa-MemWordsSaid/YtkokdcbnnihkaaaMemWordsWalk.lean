/- The walk of muntinlaw05.MemWords: rows of words. -/
import Derived.Test.YtkokdcbnnihkaaaMemRowsLaw
namespace Go.Proofs.Ytkokdcbnnihkaaa
open Go.RowKit
set_option linter.unusedVariables false
set_option linter.unusedSimpArgs false
set_option maxRecDepth 100000 in
set_option maxHeartbeats 4000000 in
theorem walk_MemWords (a1 a2 : Int) (w1 : (Lit.int .u8 a1).wf = true) (w2 : (Lit.int .u8 a2).wf = true) (p : Option Addr) (c : Nat) (l : List Int) (w : World) (hlm : l.length ≤ maxLen) (hcap : l.length ≤ c) (hv : U32s (fun k => w.heap.size ≤ k) w (.slice p l.length c) l) :
    Calls Try.prog 4 #[.slice p l.length c, .int .u8 a1, .int .u8 a2] w fun e w' => e = .returned (.bool true) ∧ Below w.heap.size w w' := by
  have hb1 := bounds_u8 w1
  have hb2 := bounds_u8 w2
  obtain ⟨A, rfl⟩ := Int.eq_ofNat_of_zero_le hb1.1
  obtain ⟨F, rfl⟩ := Int.eq_ofNat_of_zero_le hb2.1
  have hw := hv.1
  have HV := mhid hv
  unfold maxLen at hlm
  clear hv w1 w2
  by_cases h60 : 60 < l.length
  · have h60' : (60 : Int) < l.length := by omega
    go_enter Try.func4, Try.ntmps4
    go_wp2_with fail
    refine (mhead_any _).mono ?_
    rintro e w' ⟨rfl, B⟩
    go_wp2_with fail
    go_ret
    exact ⟨rfl, B⟩
  · have h60' : ¬ (60 : Int) < l.length := by omega
    have eN : 4 * ((A : Int) + (l.length : Int)) = ((4 * (A + l.length) : Nat) : Int) := by omega
    have EN := mhid eN
    clear eN
    go_enter Try.func4, Try.ntmps4
    go_wp2_with fail
    rw [EN.out]
    refine (new_ok (4 * (A + l.length)) w (by omega) (by omega)).mono ?_
    rintro e w1 ⟨m, g, rfl, hm, hg, H, B⟩
    rw [← EN.out]
    have HV1 : Hid (U32s (· = g) w1 (.slice p l.length c) l) := mhid ((HV.out.keep (Only.of_below (S := fun _ => False) B) (fun _ h => h.elim)).mono (fun k hk => hk ▸ hg))
    have K := mhid (And.intro H B)
    clear H B EN
    go_wp2_with fail
    have hs0 : spanE (4 * (A + l.length)) (4 * (A : Int)) l.length 4 = 0 := by unfold spanE; rw [if_neg (by omega), if_neg (by omega), if_neg (by omega)]
    have hzl : (List.replicate (4 * (A + l.length)) (0 : Int)).length = 4 * (A + l.length) := List.length_replicate
    refine (put_any _ m g _ K.out.1 (4 * (A : Int)) (by omega) (by omega) _ l (by unfold maxLen; omega) HV1.out).mono ?_
    rintro e w2 ⟨he, H2, O, -⟩
    rw [hzl, hs0] at he
    subst he
    have hput : putV (List.replicate (4 * (A + l.length)) (0 : Int)) (4 * (A : Int)) l = putS (List.replicate (4 * (A + l.length)) (0 : Int)) (4 * A) l := by
      unfold putV; rw [hzl, if_pos hs0, show (4 * (A : Int)).toNat = 4 * A by omega]
    rw [hput] at H2
    have HV2 : Hid (U32s (fun k => w.heap.size ≤ k) w2 (.slice p l.length c) l) := mhid ((HV.out.keep (Only.of_below (S := fun _ => False) K.out.2) (fun _ h => h.elim)).keep O (fun k hk _ => hk ▸ hg))
    have B2 := mbo K.out.2 O hg
    have hwp : ∀ k, k ≤ l.length → wordsS (putS (List.replicate (4 * (A + l.length)) (0 : Int)) (4 * A) l) (4 * A + 4 * k) (l.length - k) = l.drop k := fun k hk => words_put l _ (4 * A) k hw (by rw [hzl]; omega) hk
    have hlp : ∀ k, k < l.length → loadS (putS (List.replicate (4 * (A + l.length)) (0 : Int)) (4 * A) l) (4 * A + 4 * k) 4 = l.getD k 0 := fun k hk => load_put l _ (4 * A) k hw (by rw [hzl]; omega) hk
    have hDl : (putS (List.replicate (4 * (A + l.length)) (0 : Int)) (4 * A) l).length = 4 * (A + l.length) := by rw [putS_len, hzl]
    generalize putS (List.replicate (4 * (A + l.length)) (0 : Int)) (4 * A) l = D at H2 hwp hlp hDl
    have WP := mhid (And.intro hwp (And.intro hlp hs0))
    have K := mhid (And.intro H2 (And.intro B2 hDl))
    clear hput hzl O HV1 HV hwp hlp hs0 H2 B2 hDl
    by_cases h0 : 0 < l.length
    · have h0' : (0 : Int) < l.length := by omega
      obtain ⟨k, hk, hk2⟩ : ∃ k : Nat, (F : Int) % (l.length : Int) = (k : Int) ∧ k < l.length := ⟨((F : Int) % (l.length : Int)).toNat, by have := Int.emod_nonneg (F : Int) (show (l.length : Int) ≠ 0 by omega); omega, by have := Int.emod_nonneg (F : Int) (show (l.length : Int) ≠ 0 by omega); have := Int.emod_lt_of_pos (F : Int) h0'; omega⟩
      have hne : ¬ (l.length : Int) = 0 := by omega
      have hck : ¬ c = k := by omega
      obtain ⟨b, o, rfl, -⟩ : ∃ b o, p = some ⟨b, o, none⟩ ∧ True := by
        obtain ⟨_, p', c', hp, h3⟩ := HV2.out
        obtain ⟨b, o, rfl, _⟩ := h3 h0
        cases hp; exact ⟨b, o, rfl, trivial⟩
      have hcl : c ≤ c := Nat.le_refl _
      go_wp2_with fail
      rw [hk]
      have hs1 : spanE (4 * (A + l.length)) (4 * ((A : Int) + (k : Int))) ((l.length : Int) - (k : Int)) 4 = 0 := by unfold spanE; rw [if_neg (by omega), if_neg (by omega), if_neg (by omega)]
      refine (words_any _ m g D K.out.1 (4 * ((A : Int) + (k : Int))) (by omega) (by omega) ((l.length : Int) - (k : Int)) (by omega)).mono ?_
      rintro e w3 ⟨va, l', he, hl, hown, O⟩
      rw [K.out.2.2, hs1] at he hl
      subst he
      rw [if_pos rfl, show (4 * ((A : Int) + (k : Int))).toNat = 4 * A + 4 * k by omega, show ((l.length : Int) - (k : Int)).toNat = l.length - k by omega, WP.out.1 k (by omega)] at hl
      subst hl
      have R1 := Reads32.of_own hown
      have HV3 : Hid (U32s (fun k => w.heap.size ≤ k) w3 (.slice (some ⟨b, o, none⟩) l.length c) l) := mhid (HV2.out.keep (Only.of_below (S := fun _ => False) O) (fun _ h => h.elim))
      have K3 := mhid (And.intro (K.out.1.keep (Only.of_below (S := fun _ => False) O) id id) (And.intro (mbt K.out.2.1 O) K.out.2.2))
      have R1 := mhid R1
      clear hown O hs1 HV2 K hk hne
      go_wp2_with fail
      have R2 : Reads32 w3 (.slice (some ⟨b, o + k, none⟩) (l.length - k) (c - k)) (l.drop k) := by
        obtain ⟨_, p', c', hp, h3⟩ := HV3.out
        obtain ⟨b', o', rfl, _, _, h4⟩ := h3 h0
        cases hp
        refine ⟨by rw [List.length_drop]; unfold maxLen; omega, some ⟨b, o + k, none⟩, c - k, by rw [List.length_drop], fun _ => ⟨b, o + k, rfl, fun j hj => ?_⟩⟩
        rw [List.length_drop] at hj
        rw [Nat.add_assoc, h4 (k + j) (by omega)]
        simp [List.getD_eq_getElem?_getD]
      refine (same_any _ va _ (l.drop k) (l.drop k) R1.out R2).mono ?_
      rw [decide_eq_true rfl]
      rintro e w4 ⟨rfl, O⟩
      have HV4 : Hid (U32s (fun k => w.heap.size ≤ k) w4 (.slice (some ⟨b, o, none⟩) l.length c) l) := mhid (HV3.out.keep (Only.of_below (S := fun _ => False) O) (fun _ h => h.elim))
      have K4 := mhid (And.intro (K3.out.1.keep (Only.of_below (S := fun _ => False) O) id id) (And.intro (mbt K3.out.2.1 O) K3.out.2.2))
      clear R1 R2 O HV3 K3 hck hcl
      go_wp2_with fail
      go_loop [13, 14, 15, 16, 17] (fun i _ _ _ _ => ∃ j : Nat, j ≤ l.length ∧ i = .int .i64 j) (fun i _ _ _ _ => l.length - (intOf i).toNat)
      case atStart => exact ⟨0, Nat.zero_le _, rfl⟩
      case round =>
        obtain ⟨j, hj, rfl⟩ := hrel
        by_cases hlt : j < l.length
        · have hjn : (j : Int) < l.length := by omega
          go_wp2_with fail
          go_loop [14, 15, 16, 17] (fun x q _ _ => ∃ q' : Nat, q' ≤ 4 ∧ q = .int .i64 q' ∧ x = .int .u32 (beS D (4 * A + 4 * j) q')) (fun _ q _ _ => 4 - (intOf q).toNat)
          case atStart => exact ⟨0, Nat.zero_le _, rfl, rfl⟩
          case round =>
            obtain ⟨q, hq, rfl, rfl⟩ := hrel
            by_cases hq4 : q < 4
            · have hqn : (q : Int) < 4 := by omega
              have L := load_any w4 m g D K4.out.1 (4 * (A : Int) + (4 * (j : Int) + (q : Int))) 1 (by omega) (by omega)
              have e1 : (4 * (A : Int) + (4 * (j : Int) + (q : Int))) = ((4 * A + 4 * j + q : Nat) : Int) := by omega
              rw [K4.out.2.2, show spanE (4 * (A + l.length)) (4 * (A : Int) + (4 * (j : Int) + (q : Int))) 1 1 = 0 by rw [e1]; exact spanE_byte _ _ (by omega),
                show loadV D (4 * (A : Int) + (4 * (j : Int) + (q : Int))) 1 = D.getD (4 * A + 4 * j + q) 0 by rw [e1]; exact loadV_byte _ _ (by rw [K4.out.2.2]; omega)] at L
              have hbb := beS_bd K4.out.1.bytes (4 * A + 4 * j) q (by omega)
              have hb3 := hbb.2.2 (by omega)
              have hby := K4.out.1.bytes.at (4 * A + 4 * j + q)
              have hsu : beS D (4 * A + 4 * j) (q + 1) = beS D (4 * A + 4 * j) q * 256 + D.getD (4 * A + 4 * j + q) 0 := rfl
              have L := mhid L
              have SU := mhid hsu
              clear hsu e1
              generalize beS D (4 * A + 4 * j) q = x at hbb hb3 SU ⊢
              generalize D.getD (4 * A + 4 * j + q) 0 = y at hby L SU
              go_wp2_with fail
              refine L.out.mono ?_
              rintro e w' ⟨rfl, rfl⟩
              go_wp2_with fail
              exact ⟨⟨q + 1, by omega, by go_num, by rw [SU.out]; congr 1; omega⟩, by simp [intOf] <;> omega⟩
            · obtain rfl : q = 4 := by omega
              have hv : beS D (4 * A + 4 * j) 4 = l.getD j 0 := by rw [beS_four, WP.out.2.1 j hlt]
              have hcell : w4.cell? ⟨b, o + j, none⟩ = some (.int .u32 (l.getD j 0)) := by
                obtain ⟨_, p', c', hp, h3⟩ := HV4.out
                obtain ⟨b', o', rfl, _, _, h4⟩ := h3 h0
                cases hp
                exact h4 j hlt
              rw [hv]
              clear hv
              generalize l.getD j 0 = y at hcell ⊢
              go_wp2_with fail
              exact ⟨⟨j + 1, by omega, by go_num⟩, by simp [intOf] <;> omega⟩
        · obtain rfl : j = l.length := by omega
          go_wp2_with fail
          have hs5 : spanE (4 * (A + l.length)) (4 * (A : Int) + 4) (l.length : Int) 4 = 50 := by unfold spanE; rw [if_neg (by omega), if_neg (by omega), if_pos (by omega)]
          refine (put_any _ m g D K4.out.1 (4 * (A : Int) + 4) (by omega) (by omega) _ l (by unfold maxLen; omega) (HV4.out.mono (fun k hk => hk ▸ hg))).mono ?_
          rintro e w5 ⟨he, H5, O, -⟩
          rw [K4.out.2.2, hs5] at he
          subst he
          rw [show putV D (4 * (A : Int) + 4) l = D from by unfold putV; rw [K4.out.2.2, hs5, if_neg (by omega)]] at H5
          have HV5 := mhid (HV4.out.keep O (fun k hk _ => hk ▸ hg))
          have K5 := mhid (And.intro H5 (And.intro (mbo K4.out.2.1 O hg) K4.out.2.2))
          have K5S := WP.out.2.2
          have W5 := mhid K5S
          clear H5 O hs5 K4 HV4 K5S
          go_wp2_with fail
          have hs1 : spanE (4 * (A + l.length)) (4 * (A : Int)) (l.length : Int) 4 = 0 := W5.out
          refine (words_any _ m g D K5.out.1 (4 * (A : Int)) (by omega) (by omega) (l.length : Int) (by omega)).mono ?_
          rintro e w6 ⟨vb, l', he, hl, hown, O⟩
          rw [K5.out.2.2, hs1] at he hl
          subst he
          rw [if_pos rfl, show (4 * (A : Int)).toNat = 4 * A + 4 * 0 by omega, show (l.length : Int).toNat = l.length - 0 by omega, WP.out.1 0 (by omega)] at hl
          have hl : l' = l := hl
          subst l'
          have R1 := mhid (Reads32.of_own hown)
          have HV6 := mhid (HV5.out.keep (Only.of_below (S := fun _ => False) O) (fun _ h => h.elim))
          have K6 := mhid (And.intro (K5.out.1.keep (Only.of_below (S := fun _ => False) O) id id) (And.intro (mbt K5.out.2.1 O) K5.out.2.2))
          clear hown O hs1
          go_wp2_with fail
          have hs2 : spanE (4 * (A + l.length)) (4 * (A : Int)) ((l.length : Int) + 1) 4 = 50 := by unfold spanE; rw [if_neg (by omega), if_neg (by omega), if_pos (by omega)]
          refine (words_any _ m g D K6.out.1 (4 * (A : Int)) (by omega) (by omega) ((l.length : Int) + 1) (by omega)).mono ?_
          rintro e w7 ⟨vc, l'', he, hl, hown, O⟩
          rw [K6.out.2.2, hs2] at he hl
          subst he
          replace R1 := mhid (R1.out.keep O)
          have HV7 := mhid (HV6.out.keep (Only.of_below (S := fun _ => False) O) (fun _ h => h.elim))
          have B7 := mhid (mbt K6.out.2.1 O)
          clear hl hown O hs2 K6 HV6
          go_wp2_with fail
          have R2 : Reads32 w7 (.slice (some ⟨b, o, none⟩) l.length c) l := by
            obtain ⟨_, p', c', hp, h3⟩ := HV7.out
            refine ⟨by unfold maxLen; omega, p', c', hp, fun h0 => ?_⟩
            obtain ⟨b', o', rfl, _, _, h4⟩ := h3 h0
            exact ⟨b', o', rfl, h4⟩
          refine (same_any _ vb _ l l R1.out R2).mono ?_
          rw [decide_eq_true rfl]
          rintro e w8 ⟨rfl, O8⟩
          go_wp2_with fail
          refine (mhead_any _).mono ?_
          rintro e w9 ⟨rfl, O9⟩
          go_wp2_with fail
          go_ret
          exact ⟨rfl, mbt (mbt B7.out O8) O9⟩
    · obtain rfl : l = [] := List.length_eq_zero_iff.1 (by omega)
      have h0n : ¬ (0 : Int) < (([] : List Int).length : Int) := by simp
      clear h0
      go_wp2_with fail
      have hs1 : spanE (4 * (A + ([] : List Int).length)) (4 * (A : Int)) 0 4 = 0 := by unfold spanE; rw [if_neg (by omega), if_neg (by omega), if_neg (by simp)]
      have S1 := mhid hs1
      clear hs1
      have nilR : ∀ (W : World) (P : Option Addr) (C : Nat), Reads32 W (.slice P 0 C) [] := fun W P C => ⟨by unfold maxLen; simp, P, C, rfl, fun h => by simp at h⟩
      have NR := mhid nilR
      clear nilR
      refine (words_any _ m g D K.out.1 (4 * (A : Int)) (by omega) (by omega) 0 (by omega)).mono ?_
      rintro e w3 ⟨va, l', he, hl, hown, O⟩
      rw [K.out.2.2, S1.out] at he hl
      subst he
      obtain rfl : l' = [] := hl
      have R1 := mhid (Reads32.of_own hown)
      have K3 := mhid (And.intro (K.out.1.keep (Only.of_below (S := fun _ => False) O) id id) (And.intro (mbt K.out.2.1 O) K.out.2.2))
      clear hown O K WP HV2
      go_wp2_with fail
      refine (same_any _ va _ [] [] R1.out (NR.out _ _ _)).mono ?_
      rw [decide_eq_true rfl]
      rintro e w4 ⟨rfl, O⟩
      have K4 := mhid (And.intro (K3.out.1.keep (Only.of_below (S := fun _ => False) O) id id) (And.intro (mbt K3.out.2.1 O) K3.out.2.2))
      clear R1 O K3
      go_wp2_with fail
      refine wp_loop_rounds 1 ?_
      rw [rounds_succ]
      go_wp2_with fail
      refine (words_any _ m g D K4.out.1 (4 * (A : Int)) (by omega) (by omega) 0 (by omega)).mono ?_
      rintro e w6 ⟨vb, l', he, hl, hown, O⟩
      rw [K4.out.2.2, S1.out] at he hl
      subst he
      obtain rfl : l' = [] := hl
      have R1 := mhid (Reads32.of_own hown)
      have K6 := mhid (And.intro (K4.out.1.keep (Only.of_below (S := fun _ => False) O) id id) (And.intro (mbt K4.out.2.1 O) K4.out.2.2))
      clear hown O K4
      go_wp2_with fail
      refine (words_any _ m g D K6.out.1 (4 * (A : Int)) (by omega) (by omega) 1 (by omega)).mono ?_
      rintro e w7 ⟨vc, l'', he, hl, hown, O⟩
      rw [K6.out.2.2, show spanE (4 * (A + ([] : List Int).length)) (4 * (A : Int)) 1 4 = 50 by unfold spanE; rw [if_neg (by omega), if_neg (by omega), if_pos (by simp)]] at he hl
      subst he
      replace R1 := mhid (R1.out.keep O)
      have B7 := mhid (mbt K6.out.2.1 O)
      clear hl hown O K6
      go_wp2_with fail
      refine (same_any _ vb _ [] [] R1.out (NR.out _ _ _)).mono ?_
      rw [decide_eq_true rfl]
      rintro e w8 ⟨rfl, O8⟩
      go_wp2_with fail
      refine (mhead_any _).mono ?_
      rintro e w9 ⟨rfl, O9⟩
      go_wp2_with fail
      go_ret
      exact ⟨rfl, mbt (mbt B7.out O8) O9⟩
end Go.Proofs.Ytkokdcbnnihkaaa
