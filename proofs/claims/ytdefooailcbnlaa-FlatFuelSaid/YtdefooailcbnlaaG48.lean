/- The walk of muntinlaw16.FlatFuel. -/
import Derived.Test.YtdefooailcbnlaaG46
import Derived.Test.YtdefooailcbnlaaG47
import Derived.Test.YtdefooailcbnlaaG28
import Derived.Test.YtdefooailcbnlaaG43
import Derived.Deep.CutBlock
import Derived.Deep.RegionHeld3
namespace Go.Proofs.Ytdefooailcbnlaa
open Go.RowKit Go.Deep
set_option linter.unusedVariables false
set_option linter.unusedSimpArgs false
theorem reads_take {w : World} {p : Option Addr} {c : Nat} {l : List Int} (h : Reads32 w (.slice p l.length c) l) {n : Nat} (hn : n ≤ l.length) : Reads32 w (.slice p n c) (l.take n) := by
  obtain ⟨h1, p', c', e, h2⟩ := h
  cases e
  have hl : (l.take n).length = n := by rw [List.length_take]; omega
  refine ⟨by omega, p, c, by rw [hl], fun h0 => ?_⟩
  obtain ⟨b, o, rfl, h3⟩ := h2 (by omega)
  refine ⟨b, o, rfl, fun k hk => ?_⟩
  rw [h3 k (by omega), List.getD_eq_getElem?_getD, List.getD_eq_getElem?_getD, List.getElem?_take_of_lt (by omega)]
set_option maxRecDepth 100000 in
set_option maxHeartbeats 8000000 in
theorem walk_FlatFuel (p : Prg) (hh : I64 p.heap) (v cv : Value) (ch : List Int) (x y : Int) (hx : 0 ≤ x ∧ x < 256) (hy : 0 ≤ y ∧ y < 256) (w : World) (hv : PrgV w v p) (hc : WordsIn w cv ch) :
    Calls Try.prog 6 #[v, cv, .agg #[.int .u8 x, .int .u8 y]] w fun e w' => e = .returned (.bool true) ∧ Below w.heap.size w w' := by
  obtain ⟨pt, ct, pf, cf, rfl, hT, hF⟩ := hv
  obtain ⟨hrd, hcw, hnl⟩ := hc.reads
  obtain ⟨pc, cc, hce⟩ := hc.shape
  obtain ⟨N, rfl⟩ := Int.eq_ofNat_of_zero_le hx.1
  obtain ⟨K, rfl⟩ := Int.eq_ofNat_of_zero_le hy.1
  have hN : N < 256 := by omega
  have hK : K < 256 := by omega
  subst hce
  have hb : Below w.heap.size w ((w.alloc (.cells #[.int .i64 p.heap, .slice pt p.threads.length ct, .slice pf p.funcs.length cf] 25)).alloc (.cells #[.int .u8 N, .int .u8 K] 57)) := ((Below.refl _ _).alloc (Nat.le_refl _) _).alloc (by simp) _
  have hP := (vrow_new w #[.int .i64 p.heap, .slice pt p.threads.length ct, .slice pf p.funcs.length cf] 25).alloc (.cells #[.int .u8 N, .int .u8 K] 57)
  have hU := vrow_new (w.alloc (.cells #[.int .i64 p.heap, .slice pt p.threads.length ct, .slice pf p.funcs.length cf] 25)) #[.int .u8 N, .int .u8 K] 57
  rw [World.size_alloc] at hU
  have hsz : ((w.alloc (.cells #[.int .i64 p.heap, .slice pt p.threads.length ct, .slice pf p.funcs.length cf] 25)).alloc (.cells #[.int .u8 N, .int .u8 K] 57)).heap.size = w.heap.size + 2 := by simp
  have HB := fhid hb
  have HP := fhid hP
  have HU := fhid hU
  have HSZ := fhid hsz
  have HA := fhid (And.intro hT (And.intro hF (And.intro hrd (And.intro hcw hnl))))
  have HN := fhid (And.intro hN hK)
  clear hb hP hU hsz hT hF hrd hcw hnl hc hx hy hN hK hh
  go_enter Try.func6, Try.ntmps6
  go_wp2_with fail
  generalize ((w.alloc (.cells #[.int .i64 p.heap, .slice pt p.threads.length ct, .slice pf p.funcs.length cf] 25)).alloc (.cells #[.int .u8 N, .int .u8 K] 57)) = W0 at *
  have HG := fhid (great16_any p pt ct pf cf W0 (FnsIn.keep HA.out.2.1 HB.out))
  have c0 := HP.out.cell (k := 0) rfl
  have c1 := HP.out.cell (k := 1) rfl
  have c2 := HP.out.cell (k := 2) rfl
  go_wp2_with fail
  refine HG.out.mono ?_
  rintro e w1 ⟨g, rfl, _, hb1⟩
  have HHEAD := fhid (fun (W : World) (hW : Below w.heap.size w W) => (show Calls Try.prog 9 #[] W fun e w' => e = .returned (.bool true) ∧ Below w.heap.size w w' from by
    refine (head16_any W).mono ?_
    rintro e w' ⟨rfl, hb'⟩
    exact ⟨rfl, hW.trans (hb'.mono hW.size)⟩))
  have HB1 := fhid hb1
  have HBW := fhid (HB.out.trans (hb1.mono HB.out.size))
  clear hb1 c0 c1 c2 HG
  cases g with
  | true =>
    go_wp2_with fail
    refine (HHEAD.out _ HBW.out).mono ?_
    rintro e w9 ⟨rfl, hb9⟩
    go_wp2_with fail
    go_ret
    exact ⟨rfl, hb9⟩
  | false =>
    by_cases hgr : 200 < ch.length
    · have hg1 : decide ((ch.length : Int) > 200) = true := decide_eq_true (by omega)
      have hg2 : (ch.length : Int) > 200 := by omega
      go_wp2_with fail
      refine (HHEAD.out _ HBW.out).mono ?_
      rintro e w9 ⟨rfl, hb9⟩
      go_wp2_with fail
      go_ret
      exact ⟨rfl, hb9⟩
    · have hg1 : decide ((ch.length : Int) > 200) = false := decide_eq_false (by omega)
      have hg2 : ¬ (ch.length : Int) > 200 := by omega
      have c0 := (HP.out.below HB1.out).cell (k := 0) rfl
      have c1 := (HP.out.below HB1.out).cell (k := 1) rfl
      have c2 := (HP.out.below HB1.out).cell (k := 2) rfl
      have HCL := fhid (show ch.length ≤ 1048576 by omega)
      go_wp2_with fail
      clear hg1 hg2 hgr
      rcases Classical.em ((checkS p).2.2 = 0) with he | he
      · have HE := fhid he
        clear he
        have HNA := fhid (fun (W : World) (hW : Below w.heap.size w W) => new_any W p pt ct pf cf (.slice pc ch.length cc) ch (IntsIn.keep HA.out.1 hW) (FnsIn.keep HA.out.2.1 hW) (HA.out.2.2.1.keepb hW) HCL.out HA.out.2.2.2.2 HE.out)
        refine (HNA.out w1 HBW.out).mono ?_
        rintro e w2 ⟨m1, G1, rfl, hM1, hlo1, hb2⟩
        have hbw2 := HBW.out.trans (hb2.mono HBW.out.size)
        have HM1 := fhid (And.intro hM1 (And.intro hlo1 hb2))
        have HBW2 := fhid hbw2
        clear c0 c1 c2 hM1 hlo1
        have c0 := ((HP.out.below HB1.out).below hb2).cell (k := 0) rfl
        have c1 := ((HP.out.below HB1.out).below hb2).cell (k := 1) rfl
        have c2 := ((HP.out.below HB1.out).below hb2).cell (k := 2) rfl
        clear hbw2 hb2
        go_wp2_with fail
        refine (HNA.out w2 HBW2.out).mono ?_
        rintro e w3 ⟨m2, G2, rfl, hM2, hlo2, hb3⟩
        have hboth : Both w3 p G1 G2 w3 G1 m1 (newS p ch) G2 m2 (newS p ch) := Both.start (HM1.out.1.keepb hb3) hM2 (fun k => by
          rcases Nat.lt_or_ge k w2.heap.size with hk | hk
          · refine .inr ?_
            cases hq : G2.R k with
            | none => rfl
            | _ => exact absurd (hlo2 k (by rw [hq]; simp)) (by omega)
          · exact .inl (role_none HM1.out.1 hk))
        have hlow : ∀ k, k < w1.heap.size → G1.R k = .none ∧ G2.R k = .none := fun k hk => by
          have hs2 := HM1.out.2.2.size
          refine ⟨?_, ?_⟩
          · cases hq : G1.R k with
            | none => rfl
            | _ => exact absurd (HM1.out.2.1 k (by rw [hq]; simp)) (by omega)
          · cases hq : G2.R k with
            | none => rfl
            | _ => exact absurd (hlo2 k (by rw [hq]; simp)) (by omega)
        have hb13 : Below w1.heap.size w1 w3 := HM1.out.2.2.trans (hb3.mono HM1.out.2.2.size)
        have HBO := fhid (And.intro hboth hlow)
        have HB3 := fhid hb13
        have u0 := ((HU.out.below HB1.out).below hb13).cell (k := 0) rfl
        have u1 := ((HU.out.below HB1.out).below hb13).cell (k := 1) rfl
        clear c0 c1 c2 hboth hlow hM2 hlo2 hb3 hb13
        have wN : IntKind.i64.wrap (N : Int) = N := IntWalk.i64_in _ (by have := HN.out; omega)
        have wK : IntKind.i64.wrap (K : Int) = K := IntWalk.i64_in _ (by have := HN.out; omega)
        go_wp2_with fail
        go_quiet (fail)
        have hd := below_drewN (Below.refl w3.heap.size w3) nq
        have hboth := HBO.out.1.below hd
        have HPO := fhid (prgOk_of HA.out.2.1 HE.out)
        have HOK := fhid (fun (n : Nat) => mrun_ok HPO.out.good HPO.out.words (mnew_ok HPO.out.good HA.out.2.2.2.1) n)
        have HS34 := fhid (show w3.heap.size ≤ (w3.drewN nq).heap.size from hd.size)
        generalize w3.drewN nq = w4 at *
        clear hd u0 u1
        go_wp2_with fail
        refine (mrun_any HPO.out (mnew_ok HPO.out.good HA.out.2.2.2.1) N (by have := HN.out; omega) w4 G1 m1 hboth.l).mono ?_
        rintro e w5 ⟨rfl, hgo⟩
        obtain ⟨A1, hb5⟩ := hboth.left hgo
        have HB5 := fhid hb5
        have HS35 := fhid hb5.o.size
        clear hgo hboth hb5
        go_wp2_with fail
        refine (outcome_any w5 p A1 m1 _ HB5.out.l (by have := (HOK.out N).ol; have := HN.out; omega) (by have := (HOK.out N).heap; have := HPO.out.good.heap; omega)).mono ?_
        rintro e w6 ⟨v14, rfl, hov, hb6⟩
        have HOV6 := fhid hov
        obtain ⟨p1, n1, q1, p2, n2, q2, rfl, _, _⟩ := hov.here
        have HB6 := fhid hb6
        have HB6S := fhid hb6.size
        clear hov hb6
        go_wp2_with fail
        have hal : Below w6.heap.size w6 (w6.alloc (.cells #[.slice p1 n1 q1, .int .u8 (run p N (newS p ch)).kind, .int .u32 (run p N (newS p ch)).v, .slice p2 n2 q2] 35)) := (Below.refl _ _).alloc (Nat.le_refl _) _
        have hv14 := vrow_new w6 #[.slice p1 n1 q1, .int .u8 (run p N (newS p ch)).kind, .int .u32 (run p N (newS p ch)).v, .slice p2 n2 q2] 35
        have hb7 := (HB5.out.below HB6.out).below hal
        have HS14 := fhid (fun (W : World) (o : Only (fun k => k < w5.heap.size) (w6.alloc (.cells #[.slice p1 n1 q1, .int .u8 (run p N (newS p ch)).kind, .int .u32 (run p N (newS p ch)).v, .slice p2 n2 q2] 35)) W) => HOV6.out.1 W ((Only.of_below (S := fun k => k < w5.heap.size) hal).trans o))
        have HB7 := fhid (Both.start hb7.l hb7.r hb7.d)
        have HV14 := fhid (And.intro hv14 (show w6.heap.size < (w6.alloc (.cells #[.slice p1 n1 q1, .int .u8 (run p N (newS p ch)).kind, .int .u32 (run p N (newS p ch)).v, .slice p2 n2 q2] 35)).heap.size by simp))
        have HAL7 := fhid hal.size
        have HF7 := fhid (show (∀ k, w5.heap.size ≤ k → A1.R k = .none ∧ G2.R k = .none) ∧ ∀ k, k < w1.heap.size → A1.R k = .none ∧ G2.R k = .none from ⟨fun k hk => ⟨role_none HB5.out.l hk, role_none HB5.out.r hk⟩, fun k hk => by
          have hk3 := Nat.lt_of_lt_of_le hk HB3.out.size
          obtain ⟨e1, e2⟩ := HB5.out.e k hk3
          obtain ⟨f1, f2⟩ := HBO.out.2 k hk
          exact ⟨e1.trans f1, e2.trans f2⟩⟩)
        have HY7 := fhid (show Below w1.heap.size w1 (w6.alloc (.cells #[.slice p1 n1 q1, .int .u8 (run p N (newS p ch)).kind, .int .u32 (run p N (newS p ch)).v, .slice p2 n2 q2] 35)) from by
          have h1 : Below w1.heap.size w1 w5 := HB3.out.trans (HB5.out.old HB3.out.size HBO.out.2)
          have h2 := h1.trans (HB6.out.mono h1.size)
          exact h2.trans (hal.mono h2.size))
        clear hal hv14 hb7
        generalize w6.alloc (.cells #[.slice p1 n1 q1, .int .u8 (run p N (newS p ch)).kind, .int .u32 (run p N (newS p ch)).v, .slice p2 n2 q2] 35) = w7 at *
        refine (mrun_any HPO.out (HOK.out N) K (by have := HN.out; omega) w7 A1 m1 HB7.out.l).mono ?_
        rintro e w8 ⟨rfl, hgo⟩
        obtain ⟨A2, hb8⟩ := HB7.out.left hgo
        rw [← run_add] at hb8
        have HB8 := fhid hb8
        have hxr : IntKind.i64.wrap ((ran p N (newS p ch) : Int) + (ran p K (run p N (newS p ch)) : Int)) = ((ran p (N + K) (newS p ch) : Nat) : Int) := by
          have h1 := ran_le p N (newS p ch)
          have h2 := ran_le p K (run p N (newS p ch))
          have := HN.out
          rw [ran_add, IntWalk.i64_in _ (by omega)]; omega
        have hNK : IntKind.i64.wrap ((N : Int) + (K : Int)) = ((N + K : Nat) : Int) := by
          have := HN.out
          rw [IntWalk.i64_in _ (by omega)]; omega
        clear hgo hb8 HNA HB5 HB6 HBO
        go_upto_block 0 with fail
        go_cut [15] from 75 (fun i w' => ∃ B', i = .int .i64 ((ran p (N + K) (newS p ch) : Nat) : Int) ∧ Both w7 p A1 G2 w' A2 m1 (run p (N + K) (newS p ch)) B' m2 (run p (N + K) (newS p ch)))
        case first =>
          go_wp2_with fail
          go_loopw [15] (fun i wr => ∃ (Y : Nat) (B' : Gh), Y ≤ N + K ∧ i = .int .i64 Y ∧ ran p Y (newS p ch) = Y ∧ Both w7 p A1 G2 wr A2 m1 (run p (N + K) (newS p ch)) B' m2 (run p Y (newS p ch))) (fun i _ => N + K - (intOf i).toNat)
          case atStart => exact ⟨0, G2, Nat.zero_le _, rfl, rfl, HB8.out⟩
          case round =>
            obtain ⟨Y, B', hY, rfl, hrY, hbb⟩ := hrel
            have HBB := fhid hbb
            have HRY := fhid hrY
            clear hbb hrY
            by_cases hlt : Y < N + K
            · have hlt2 : (Y : Int) < ((N + K : Nat) : Int) := by omega
              have hst := mstep_any HPO.out (HOK.out Y) (by have := HN.out; omega) wr B' m2 HBB.out.r
              by_cases hkd : (run p Y (newS p ch)).kind = 0
              · rw [decide_eq_true hkd, if_pos hkd] at hst
                have HST := fhid hst
                have HY1 := fhid (show run p (Y + 1) (newS p ch) = step p (run p Y (newS p ch)) ∧ ran p (Y + 1) (newS p ch) = Y + 1 from ⟨by rw [run_succ, if_pos hkd], by rw [ran_succ, if_pos hkd, HRY.out]⟩)
                have e1 : IntKind.i64.wrap ((Y : Int) + 1) = ((Y + 1 : Nat) : Int) := by have := HN.out; rw [IntWalk.i64_in _ (by omega)]; omega
                clear hst hkd
                go_wp2_with fail
                refine HST.out.mono ?_
                rintro e w9 ⟨rfl, hgo⟩
                obtain ⟨B2, hb9⟩ := HBB.out.right hgo
                have HB9 := fhid hb9
                clear hgo hb9
                go_wp2_with fail
                refine ⟨⟨Y + 1, B2, by omega, by go_num, HY1.out.2, ?_⟩, by simp [intOf]; omega⟩
                rw [HY1.out.1]; exact HB9.out
              · rw [decide_eq_false hkd, if_neg hkd] at hst
                have HST := fhid hst
                have HE2 := fhid (mrun_same hY HRY.out hkd)
                clear hst hkd
                go_wp2_with fail
                refine HST.out.mono ?_
                rintro e w9 ⟨rfl, hgo⟩
                obtain ⟨B2, hb9⟩ := HBB.out.right hgo
                have HB9 := fhid hb9
                clear hgo hb9
                go_wp2_with fail
                go_meet
                refine ⟨B2, by rw [HE2.out.2], ?_⟩
                rw [HE2.out.1]
                rw [HE2.out.1] at HB9
                exact HB9.out
            · obtain rfl : Y = N + K := by omega
              go_wp2_with fail
              go_meet
              exact ⟨B', by rw [HRY.out], HBB.out⟩
        case rest =>
          obtain ⟨B3, rfl, hb10⟩ := hcut
          have HB10 := fhid hb10
          clear hb10
          have hpre := out_take p N K (newS p ch)
          have HKD := fhid (ran_of_run p (N + K) (newS p ch))
          have hok := HOK.out (N + K)
          go_wp2_with fail
          refine (outcome_any wc p B3 m2 _ HB10.out.r (by have := hok.ol; have := HN.out; omega) (by have := hok.heap; have := HPO.out.good.heap; omega)).mono ?_
          rintro e w11 ⟨v16, rfl, hov, hb11⟩
          have HOV11 := fhid hov
          obtain ⟨p3, n3, q3, p4, n4, q4, rfl, hr16, _⟩ := hov.here
          have hcap := hov.2 _ _ _ _ _ _ rfl
          obtain ⟨_, _, _, e16, _⟩ := hr16
          cases e16
          obtain ⟨_, _, _, _, _, _, e14v, hr14, _⟩ := HOV6.out.here
          cases e14v
          obtain ⟨_, _, _, e14, _⟩ := hr14
          cases e14
          clear hov
          go_wp2_with fail
          have hal : Below w11.heap.size w11 (w11.alloc (.cells #[.slice p3 (run p (N + K) (newS p ch)).out.length q3, .int .u8 (run p (N + K) (newS p ch)).kind, .int .u32 (run p (N + K) (newS p ch)).v, .slice p4 n4 q4] 35)) := (Below.refl _ _).alloc (Nat.le_refl _) _
          have hv16 := vrow_new w11 #[.slice p3 (run p (N + K) (newS p ch)).out.length q3, .int .u8 (run p (N + K) (newS p ch)).kind, .int .u32 (run p (N + K) (newS p ch)).v, .slice p4 n4 q4] 35
          have hb12 := (HB10.out.below hb11).below hal
          have hbc := hb11.trans (hal.mono hb11.size)
          have ho12 : Only (fun k => k < w5.heap.size) w7 (w11.alloc (.cells #[.slice p3 (run p (N + K) (newS p ch)).out.length q3, .int .u8 (run p (N + K) (newS p ch)).kind, .int .u32 (run p (N + K) (newS p ch)).v, .slice p4 n4 q4] 35)) := hb12.o.mono (fun k hk hc => by
            rcases Nat.lt_or_ge k w5.heap.size with h | h
            · exact h
            · rcases hc with e | e
              · exact absurd (HF7.out.1 k h).1 e
              · exact absurd (HF7.out.1 k h).2 e)
          have hq14 := HV14.out.1.of_block (ho12.block _ HV14.out.2 (by have := HB6S.out; omega))
          have hy12 : Below w1.heap.size w1 (w11.alloc (.cells #[.slice p3 (run p (N + K) (newS p ch)).out.length q3, .int .u8 (run p (N + K) (newS p ch)).kind, .int .u32 (run p (N + K) (newS p ch)).v, .slice p4 n4 q4] 35)) := by
            have h1 : Below w1.heap.size w7 wc := HB10.out.old HY7.out.size HF7.out.2
            have h2 := HY7.out.trans h1
            exact h2.trans (hbc.mono h2.size)
          have hx12 : Below w.heap.size w (w11.alloc (.cells #[.slice p3 (run p (N + K) (newS p ch)).out.length q3, .int .u8 (run p (N + K) (newS p ch)).kind, .int .u32 (run p (N + K) (newS p ch)).v, .slice p4 n4 q4] 35)) := by
            have h2 := HBW.out.trans (hy12.mono HBW.out.size)
            exact h2
          have HB12 := fhid hb12
          have HX12 := fhid hx12
          have HV14b := fhid hq14
          have HV16 := fhid hv16
          have HOKS := fhid hok
          have HR14 := fhid (fun (W : World) (hW : Below (w11.alloc (.cells #[.slice p3 (run p (N + K) (newS p ch)).out.length q3, .int .u8 (run p (N + K) (newS p ch)).kind, .int .u32 (run p (N + K) (newS p ch)).v, .slice p4 n4 q4] 35)).heap.size (w11.alloc (.cells #[.slice p3 (run p (N + K) (newS p ch)).out.length q3, .int .u8 (run p (N + K) (newS p ch)).kind, .int .u32 (run p (N + K) (newS p ch)).v, .slice p4 n4 q4] 35)) W) => HS14.out W (ho12.trans (Only.of_below hW)))
          have HR16 := fhid (fun (W : World) (hW : Below (w11.alloc (.cells #[.slice p3 (run p (N + K) (newS p ch)).out.length q3, .int .u8 (run p (N + K) (newS p ch)).kind, .int .u32 (run p (N + K) (newS p ch)).v, .slice p4 n4 q4] 35)).heap.size (w11.alloc (.cells #[.slice p3 (run p (N + K) (newS p ch)).out.length q3, .int .u8 (run p (N + K) (newS p ch)).kind, .int .u32 (run p (N + K) (newS p ch)).v, .slice p4 n4 q4] 35)) W) => HOV11.out.1 W ((Only.of_below hal).trans (Only.of_below hW)))
          have HPRE := fhid hpre
          have HO1 := fhid (fun (W : World) (hW : Below (w11.alloc (.cells #[.slice p3 (run p (N + K) (newS p ch)).out.length q3, .int .u8 (run p (N + K) (newS p ch)).kind, .int .u32 (run p (N + K) (newS p ch)).v, .slice p4 n4 q4] 35)).heap.size (w11.alloc (.cells #[.slice p3 (run p (N + K) (newS p ch)).out.length q3, .int .u8 (run p (N + K) (newS p ch)).kind, .int .u32 (run p (N + K) (newS p ch)).v, .slice p4 n4 q4] 35)) W) => (show Calls Try.prog 14 #[.pointer (some ⟨m1, 0, none⟩)] W (fun e w' => ∃ po no co ph nh ch', e = .returned (.agg #[.slice po no co, .int .u8 (run p (N + K) (newS p ch)).kind, .int .u32 (run p (N + K) (newS p ch)).v, .slice ph nh ch']) ∧ OutV w' (.agg #[.slice po no co, .int .u8 (run p (N + K) (newS p ch)).kind, .int .u32 (run p (N + K) (newS p ch)).v, .slice ph nh ch']) (run p (N + K) (newS p ch)).out (run p (N + K) (newS p ch)).kind (run p (N + K) (newS p ch)).v (run p (N + K) (newS p ch)).heap ∧ Below (w11.alloc (.cells #[.slice p3 (run p (N + K) (newS p ch)).out.length q3, .int .u8 (run p (N + K) (newS p ch)).kind, .int .u32 (run p (N + K) (newS p ch)).v, .slice p4 n4 q4] 35)).heap.size (w11.alloc (.cells #[.slice p3 (run p (N + K) (newS p ch)).out.length q3, .int .u8 (run p (N + K) (newS p ch)).kind, .int .u32 (run p (N + K) (newS p ch)).v, .slice p4 n4 q4] 35)) w') from by
            refine (outcome_any W p A2 m1 _ (hb12.below hW).l (by have := hok.ol; have := HN.out; omega) (by have := hok.heap; have := HPO.out.good.heap; omega)).mono ?_
            rintro e w' ⟨u, rfl, ho, hb'⟩
            have h := ho.here
            obtain ⟨a1, a2, a3, a4, a5, a6, rfl, _, _⟩ := ho.here
            exact ⟨_, _, _, _, _, _, rfl, h, hW.trans (hb'.mono hW.size)⟩))
          have HO1b := fhid (fun (W : World) (hW : Below (w11.alloc (.cells #[.slice p3 (run p (N + K) (newS p ch)).out.length q3, .int .u8 (run p (N + K) (newS p ch)).kind, .int .u32 (run p (N + K) (newS p ch)).v, .slice p4 n4 q4] 35)).heap.size (w11.alloc (.cells #[.slice p3 (run p (N + K) (newS p ch)).out.length q3, .int .u8 (run p (N + K) (newS p ch)).kind, .int .u32 (run p (N + K) (newS p ch)).v, .slice p4 n4 q4] 35)) W) => (show Calls Try.prog 14 #[.pointer (some ⟨m2, 0, none⟩)] W (fun e w' => ∃ po no co ph nh ch', e = .returned (.agg #[.slice po no co, .int .u8 (run p (N + K) (newS p ch)).kind, .int .u32 (run p (N + K) (newS p ch)).v, .slice ph nh ch']) ∧ OutV w' (.agg #[.slice po no co, .int .u8 (run p (N + K) (newS p ch)).kind, .int .u32 (run p (N + K) (newS p ch)).v, .slice ph nh ch']) (run p (N + K) (newS p ch)).out (run p (N + K) (newS p ch)).kind (run p (N + K) (newS p ch)).v (run p (N + K) (newS p ch)).heap ∧ Below (w11.alloc (.cells #[.slice p3 (run p (N + K) (newS p ch)).out.length q3, .int .u8 (run p (N + K) (newS p ch)).kind, .int .u32 (run p (N + K) (newS p ch)).v, .slice p4 n4 q4] 35)).heap.size (w11.alloc (.cells #[.slice p3 (run p (N + K) (newS p ch)).out.length q3, .int .u8 (run p (N + K) (newS p ch)).kind, .int .u32 (run p (N + K) (newS p ch)).v, .slice p4 n4 q4] 35)) w') from by
            refine (outcome_any W p B3 m2 _ (hb12.below hW).r (by have := hok.ol; have := HN.out; omega) (by have := hok.heap; have := HPO.out.good.heap; omega)).mono ?_
            rintro e w' ⟨u, rfl, ho, hb'⟩
            have h := ho.here
            obtain ⟨a1, a2, a3, a4, a5, a6, rfl, _, _⟩ := ho.here
            exact ⟨_, _, _, _, _, _, rfl, h, hW.trans (hb'.mono hW.size)⟩))
          have HFR := fhid (fun (W : World) (hW : Below (w11.alloc (.cells #[.slice p3 (run p (N + K) (newS p ch)).out.length q3, .int .u8 (run p (N + K) (newS p ch)).kind, .int .u32 (run p (N + K) (newS p ch)).v, .slice p4 n4 q4] 35)).heap.size (w11.alloc (.cells #[.slice p3 (run p (N + K) (newS p ch)).out.length q3, .int .u8 (run p (N + K) (newS p ch)).kind, .int .u32 (run p (N + K) (newS p ch)).v, .slice p4 n4 q4] 35)) W) => (show Calls Try.prog 10 #[.agg #[.int .i64 p.heap, .slice pt p.threads.length ct, .slice pf p.funcs.length cf], .slice pc ch.length cc, .int .i64 ((N + K : Nat) : Int)] W (fun e w' => ∃ po no co ph nh ch', e = .returned (.tuple #[.agg #[.slice po no co, .int .u8 (run p (N + K) (newS p ch)).kind, .int .u32 (run p (N + K) (newS p ch)).v, .slice ph nh ch'], .int .i64 0]) ∧ OutV w' (.agg #[.slice po no co, .int .u8 (run p (N + K) (newS p ch)).kind, .int .u32 (run p (N + K) (newS p ch)).v, .slice ph nh ch']) (run p (N + K) (newS p ch)).out (run p (N + K) (newS p ch)).kind (run p (N + K) (newS p ch)).v (run p (N + K) (newS p ch)).heap ∧ Below (w11.alloc (.cells #[.slice p3 (run p (N + K) (newS p ch)).out.length q3, .int .u8 (run p (N + K) (newS p ch)).kind, .int .u32 (run p (N + K) (newS p ch)).v, .slice p4 n4 q4] 35)).heap.size (w11.alloc (.cells #[.slice p3 (run p (N + K) (newS p ch)).out.length q3, .int .u8 (run p (N + K) (newS p ch)).kind, .int .u32 (run p (N + K) (newS p ch)).v, .slice p4 n4 q4] 35)) w') from by
            have hxW := hx12.trans (hW.mono hx12.size)
            have h := frun_any W p pt ct pf cf (.slice pc ch.length cc) ch (IntsIn.keep HA.out.1 hxW) (FnsIn.keep HA.out.2.1 hxW) (HA.out.2.2.1.keepb hxW) HA.out.2.2.2.1 HCL.out HA.out.2.2.2.2 (N + K) (by have := HN.out; omega)
            rw [HE.out, fin_yes HE.out] at h
            refine h.mono ?_
            rintro e w' ⟨u, rfl, ho, hb'⟩
            have h9 := ho.here
            obtain ⟨a1, a2, a3, a4, a5, a6, rfl, _, _⟩ := ho.here
            exact ⟨_, _, _, _, _, _, rfl, h9, hW.trans (hb'.mono hW.size)⟩))
          have HPV := fhid (fun (W : World) (hW : Below (w11.alloc (.cells #[.slice p3 (run p (N + K) (newS p ch)).out.length q3, .int .u8 (run p (N + K) (newS p ch)).kind, .int .u32 (run p (N + K) (newS p ch)).v, .slice p4 n4 q4] 35)).heap.size (w11.alloc (.cells #[.slice p3 (run p (N + K) (newS p ch)).out.length q3, .int .u8 (run p (N + K) (newS p ch)).kind, .int .u32 (run p (N + K) (newS p ch)).v, .slice p4 n4 q4] 35)) W) => (show W.cell? ⟨w.heap.size, 0, none⟩ = some (.int .i64 p.heap) ∧ W.cell? ⟨w.heap.size, 1, none⟩ = some (.slice pt p.threads.length ct) ∧ W.cell? ⟨w.heap.size, 2, none⟩ = some (.slice pf p.funcs.length cf) from by
            have h1 := HP.out.below HB1.out
            have h2 := (h1.below hy12).below hW
            exact ⟨h2.cell (k := 0) rfl, h2.cell (k := 1) rfl, h2.cell (k := 2) rfl⟩))
          have HST := fhid (fun (W : World) (hW : Below (w11.alloc (.cells #[.slice p3 (run p (N + K) (newS p ch)).out.length q3, .int .u8 (run p (N + K) (newS p ch)).kind, .int .u32 (run p (N + K) (newS p ch)).v, .slice p4 n4 q4] 35)).heap.size (w11.alloc (.cells #[.slice p3 (run p (N + K) (newS p ch)).out.length q3, .int .u8 (run p (N + K) (newS p ch)).kind, .int .u32 (run p (N + K) (newS p ch)).v, .slice p4 n4 q4] 35)) W) (hk : (run p (N + K) (newS p ch)).kind ≠ 0) => And.intro (mstep_stop (by have := hok.tl; have := HPO.out.good.nt; omega) hk W B3 m2 (hb12.below hW).r) (mrun_stop (by have := hok.tl; have := HPO.out.good.nt; omega) hk 5 (by omega) W B3 m2 (hb12.below hW).r))
          have HC12 := fhid (fun (W : World) (hW : Below (w11.alloc (.cells #[.slice p3 (run p (N + K) (newS p ch)).out.length q3, .int .u8 (run p (N + K) (newS p ch)).kind, .int .u32 (run p (N + K) (newS p ch)).v, .slice p4 n4 q4] 35)).heap.size (w11.alloc (.cells #[.slice p3 (run p (N + K) (newS p ch)).out.length q3, .int .u8 (run p (N + K) (newS p ch)).kind, .int .u32 (run p (N + K) (newS p ch)).v, .slice p4 n4 q4] 35)) W) => (show W.cell? ⟨w6.heap.size, 0, none⟩ = some (.slice p1 (run p N (newS p ch)).out.length q1) ∧ W.cell? ⟨w11.heap.size, 0, none⟩ = some (.slice p3 (run p (N + K) (newS p ch)).out.length q3) ∧ W.cell? ⟨w11.heap.size, 1, none⟩ = some (.int .u8 (run p (N + K) (newS p ch)).kind) ∧ W.cell? ⟨w11.heap.size, 2, none⟩ = some (.int .u32 (run p (N + K) (newS p ch)).v) ∧ W.cell? ⟨w11.heap.size, 3, none⟩ = some (.slice p4 n4 q4) from
            ⟨(HV14b.out.below hW).cell (k := 0) rfl, (HV16.out.below hW).cell (k := 0) rfl, (HV16.out.below hW).cell (k := 1) rfl, (HV16.out.below hW).cell (k := 2) rfl, (HV16.out.below hW).cell (k := 3) rfl⟩))
          have h12 : w11.heap.size < (w11.alloc (.cells #[.slice p3 (run p (N + K) (newS p ch)).out.length q3, .int .u8 (run p (N + K) (newS p ch)).kind, .int .u32 (run p (N + K) (newS p ch)).v, .slice p4 n4 q4] 35)).heap.size := by simp
          clear hpre hok hal hv16 hb12 hbc ho12 hq14 hx12 HOV11 HOV6 HS14 HB10 HB7 HB8
          generalize w11.alloc (.cells #[.slice p3 (run p (N + K) (newS p ch)).out.length q3, .int .u8 (run p (N + K) (newS p ch)).kind, .int .u32 (run p (N + K) (newS p ch)).v, .slice p4 n4 q4] 35) = w12 at *
          generalize run p (N + K) (newS p ch) = S at *
          generalize run p N (newS p ch) = S1 at *
          generalize ran p (N + K) (newS p ch) = X at *
          have HSAME := fhid (fun (W : World) (hW : Below w12.heap.size w12 W) (po : Option Addr) (no co : Nat) (ph : Option Addr) (nh ch' : Nat) (hu : OutV W (.agg #[.slice po no co, .int .u8 S.kind, .int .u32 S.v, .slice ph nh ch']) S.out S.kind S.v S.heap) => (show Calls Try.prog 11 #[.agg #[.slice po no co, .int .u8 S.kind, .int .u32 S.v, .slice ph nh ch'], .agg #[.slice p3 S.out.length q3, .int .u8 S.kind, .int .u32 S.v, .slice p4 n4 q4]] W (fun e w' => e = .returned (.bool true) ∧ Below w12.heap.size w12 w') from by
            refine (osame_any W _ _ S.out S.out S.heap S.heap S.kind S.v S.kind S.v hu (HR16.out W hW)).mono ?_
            rintro e w' ⟨rfl, hb'⟩
            exact ⟨by simp, hW.trans (hb'.mono hW.size)⟩))
          have HWORDS := fhid (fun (W : World) (hW : Below w12.heap.size w12 W) => (show Calls Try.prog 17 #[.slice p1 S1.out.length q1, .slice p3 S1.out.length q3] W (fun e w' => e = .returned (.bool true) ∧ Below w12.heap.size w12 w') from by
            obtain ⟨_, _, _, _, _, _, e1, r1, _⟩ := HR14.out W hW
            cases e1
            obtain ⟨_, _, _, _, _, _, e2, r2, _⟩ := HR16.out W hW
            cases e2
            have r3 := reads_take r2 HPRE.out.2
            rw [HPRE.out.1] at r3
            refine (swords_any W _ _ S1.out S1.out r1 r3).mono ?_
            rintro e w' ⟨rfl, hb'⟩
            exact ⟨by simp, hW.trans (hb'.mono hW.size)⟩))
          have hlg : ¬ (S1.out.length : Int) > (S.out.length : Int) := by have := HPRE.out.2; omega
          have hlg2 : decide ((S1.out.length : Int) > (S.out.length : Int)) = false := decide_eq_false hlg
          have hlg3 : decide ((S.out.length : Int) < (S1.out.length : Int)) = false := decide_eq_false (by omega)
          have hlg4 : decide (S.out.length < S1.out.length) = false := decide_eq_false (by omega)
          have hlg5 : ¬ S.out.length < S1.out.length := by omega
          have hlg6 : S1.out.length ≤ S.out.length := by omega
          have hs0 : (0 : Int) ≤ (S1.out.length : Int) := by omega
          have hs1 : (S1.out.length : Int) ≤ (q3 : Int) := by have := HPRE.out.2; have := hcap.1; omega
          have hle : w12.heap.size ≤ w12.heap.size := Nat.le_refl _
          have HCAP := fhid hcap
          clear hcap
          go_region_held3? (fun W => W.cell? ⟨w6.heap.size, 0, none⟩ = some (.slice p1 S1.out.length q1) ∧ W.cell? ⟨w11.heap.size, 0, none⟩ = some (.slice p3 S.out.length q3) ∧ W.cell? ⟨w11.heap.size, 1, none⟩ = some (.int .u8 S.kind) ∧ W.cell? ⟨w11.heap.size, 2, none⟩ = some (.int .u32 S.v) ∧ W.cell? ⟨w11.heap.size, 3, none⟩ = some (.slice p4 n4 q4)) (first | (refine HC12.out _ ?_; go_grown; done))
            (first
              | (go_at_call 14; (with_reducible refine (HO1.out _ ?hb).mono ?_); (case hb => go_grown; done); rintro e V1 ⟨po, no, co, ph, nh, ch1, rfl, hu1, hv1⟩; have hl1 : w12.heap.size ≤ V1.heap.size := hv1.size)
              | (go_at_call 11; (with_reducible refine (HSAME.out _ ?hb _ _ _ _ _ _ ?hu).mono ?_); (case hb => go_grown; done); (case hu => exact hu1); rintro e V2 ⟨rfl, hv2⟩; have hl2 : w12.heap.size ≤ V2.heap.size := hv2.size)
              | (go_at_call 17; (with_reducible refine (HWORDS.out _ ?hb).mono ?_); (case hb => go_grown; done); rintro e V3 ⟨rfl, hv3⟩; have hl3 : w12.heap.size ≤ V3.heap.size := hv3.size))
          have HV3 := fhid hv3
          obtain ⟨c0, c1, c2⟩ := HPV.out V3 hv3
          clear hv1 hv2 hv3 hl1 hl2 hl3 hu1 HO1 HWORDS hlg hlg2 hlg3 hlg4 hlg5 hlg6 hs0 hs1 hxr
          go_wp2_with fail
          refine (HFR.out V3 HV3.out).mono ?_
          rintro e w13 ⟨p5, n5, q5, p6, n6, q6, rfl, hu5, hb13⟩
          clear c0 c1 c2
          have hb14 : Below w12.heap.size w12 (w13.alloc (.cells #[.slice p5 n5 q5, .int .u8 S.kind, .int .u32 S.v, .slice p6 n6 q6] 35)) := hb13.alloc hb13.size _
          have hu14 : OutV (w13.alloc (.cells #[.slice p5 n5 q5, .int .u8 S.kind, .int .u32 S.v, .slice p6 n6 q6] 35)) _ S.out S.kind S.v S.heap := OutV.keep hu5 ((Below.refl _ _).alloc (Nat.le_refl _) _)
          have HSM := fhid (HSAME.out _ hb14 _ _ _ _ _ _ hu14)
          have HB14 := fhid hb14
          obtain ⟨_, d0, d1, d2, d3⟩ := HC12.out _ hb14
          have q17 := vrow_new w13 #[.slice p5 n5 q5, .int .u8 S.kind, .int .u32 S.v, .slice p6 n6 q6] 35
          have e0 := q17.cell (k := 0) rfl
          have e1 := q17.cell (k := 1) rfl
          have e2 := q17.cell (k := 2) rfl
          have e3 := q17.cell (k := 3) rfl
          clear hb13 hb14 hu14 hu5 q17
          by_cases hkd : S.kind = 0
          · have hX : X = N + K := HKD.out hkd
            subst hX
            have k0 : (S.kind == 0) = true := by simpa using hkd
            have k1 : (S.kind != 0) = false := by simpa using hkd
            clear hkd
            go_wp2_with fail
            generalize w13.alloc (.cells #[.slice p5 n5 q5, .int .u8 S.kind, .int .u32 S.v, .slice p6 n6 q6] 35) = w14 at *
            refine HSM.out.mono ?_
            rintro e w15 ⟨rfl, hb15⟩
            obtain ⟨_, d0', d1', d2', d3'⟩ := HC12.out _ hb15
            have HB15 := fhid hb15
            clear d0 d1 d2 d3 e0 e1 e2 e3 hb15
            go_wp2_with fail
            refine (HHEAD.out _ (HX12.out.trans (HB15.out.mono HX12.out.size))).mono ?_
            rintro e w99 ⟨rfl, hb99⟩
            go_wp2_with fail
            go_ret
            exact ⟨rfl, hb99⟩
          · have k0 : (S.kind == 0) = false := by simpa using hkd
            have k1 : (S.kind != 0) = true := by simpa using hkd
            have HKN := fhid hkd
            clear hkd
            go_wp2_with fail
            generalize w13.alloc (.cells #[.slice p5 n5 q5, .int .u8 S.kind, .int .u32 S.v, .slice p6 n6 q6] 35) = w14 at *
            refine HSM.out.mono ?_
            rintro e w15 ⟨rfl, hb15⟩
            obtain ⟨_, d0', d1', d2', d3'⟩ := HC12.out _ hb15
            have HB15 := fhid hb15
            have HST5 := fhid (fun (W : World) (hW : Below w12.heap.size w12 W) => (show Calls Try.prog 16 #[.pointer (some ⟨m2, 0, none⟩)] W (fun e w' => e = .returned (.bool false) ∧ Below w12.heap.size w12 w') from by
              refine (HST.out W hW HKN.out).1.mono ?_
              rintro e w' ⟨rfl, rfl⟩
              exact ⟨rfl, hW⟩))
            have HRN5 := fhid (fun (W : World) (hW : Below w12.heap.size w12 W) => (show Calls Try.prog 13 #[.pointer (some ⟨m2, 0, none⟩), .int .i64 5] W (fun e w' => e = .returned (.int .i64 0) ∧ Below w12.heap.size w12 w') from by
              refine (HST.out W hW HKN.out).2.mono ?_
              rintro e w' ⟨rfl, hb'⟩
              exact ⟨rfl, hW.trans (hb'.mono hW.size)⟩))
            have HHD5 := fhid (fun (W : World) (hW : Below w12.heap.size w12 W) => (show Calls Try.prog 9 #[] W (fun e w' => e = .returned (.bool true) ∧ Below w12.heap.size w12 w') from by
              refine (head16_any W).mono ?_
              rintro e w' ⟨rfl, hb'⟩
              exact ⟨rfl, hW.trans (hb'.mono hW.size)⟩))
            have hd15 : Below w12.heap.size w12 w15 := hb15
            have hle15 : w12.heap.size ≤ w15.heap.size := hb15.size
            clear d0 d1 d2 d3 e0 e1 e2 e3 hb15
            go_wp2_with fail
            all_goals go_region_held3 (fun W => W.cell? ⟨w11.heap.size, 0, none⟩ = some (.slice p3 S.out.length q3) ∧ W.cell? ⟨w11.heap.size, 1, none⟩ = some (.int .u8 S.kind) ∧ W.cell? ⟨w11.heap.size, 2, none⟩ = some (.int .u32 S.v) ∧ W.cell? ⟨w11.heap.size, 3, none⟩ = some (.slice p4 n4 q4)) (first | (exact (HC12.out _ (by go_grown)).2; done) | (refine (HC12.out _ ?_).2; go_grown; done))
              (first
                | (go_at_call 16; (with_reducible refine (HST5.out _ ?hb).mono ?_); (case hb => go_grown; done); rintro e V1 ⟨rfl, hv1⟩; have hl1 : w12.heap.size ≤ V1.heap.size := hv1.size)
                | (go_at_call 13; (with_reducible refine (HRN5.out _ ?hb).mono ?_); (case hb => go_grown; done); rintro e V2 ⟨rfl, hv2⟩; have hl2 : w12.heap.size ≤ V2.heap.size := hv2.size)
                | (go_at_call 14; (with_reducible refine (HO1b.out _ ?hb).mono ?_); (case hb => go_grown; done); rintro e V3 ⟨po, no, co, ph, nh, ch1, rfl, hu3, hv3⟩; have hl3 : w12.heap.size ≤ V3.heap.size := hv3.size)
                | (go_at_call 11; (with_reducible refine (HSAME.out _ ?hb _ _ _ _ _ _ ?hu).mono ?_); (case hb => go_grown; done); (case hu => exact hu3); rintro e V4 ⟨rfl, hv4⟩; have hl4 : w12.heap.size ≤ V4.heap.size := hv4.size)
                | (go_at_call 9; (with_reducible refine (HHD5.out _ ?hb).mono ?_); (case hb => go_grown; done); rintro e V5 ⟨rfl, hv5⟩; have hl5 : w12.heap.size ≤ V5.heap.size := hv5.size))
            all_goals
              have HFIN := fhid (HX12.out.trans (hv5.mono HX12.out.size))
              clear hv1 hv2 hv3 hv4 hv5 HO1b HSAME HST5 HRN5 HHD5 HC12
              go_wp2_with fail
              go_ret
              exact ⟨rfl, HFIN.out⟩
      · have HE := fhid (checkS_err he)
        have HNA := fhid (fun (W : World) (hW : Below w.heap.size w W) => new_bad W p pt ct pf cf (.slice pc ch.length cc) (IntsIn.keep HA.out.1 hW) (FnsIn.keep HA.out.2.1 hW) HE.out)
        clear he
        refine (HNA.out w1 HBW.out).mono ?_
        rintro e w2 ⟨rfl, hb2⟩
        have HBW2 := fhid (HBW.out.trans (hb2.mono HBW.out.size))
        clear c0 c1 c2
        have c0 := ((HP.out.below HB1.out).below hb2).cell (k := 0) rfl
        have c1 := ((HP.out.below HB1.out).below hb2).cell (k := 1) rfl
        have c2 := ((HP.out.below HB1.out).below hb2).cell (k := 2) rfl
        clear hb2
        go_wp2_with fail
        refine (HNA.out w2 HBW2.out).mono ?_
        rintro e w3 ⟨rfl, hb3⟩
        have HBW3 := fhid (HBW2.out.trans (hb3.mono HBW2.out.size))
        clear c0 c1 c2 hb3
        go_wp2_with fail
        refine (HHEAD.out _ HBW3.out).mono ?_
        rintro e w9 ⟨rfl, hb9⟩
        go_wp2_with fail
        go_ret
        exact ⟨rfl, hb9⟩
end Go.Proofs.Ytdefooailcbnlaa
