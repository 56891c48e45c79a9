/- Several texts in one: TickCountsWalk. -/
import Derived.Test.YtajholbcpmjhiaaGreatDoorH29
set_option linter.unusedVariables false
set_option linter.unusedSimpArgs false
/- The walk of muntinlaw09.TickCounts. -/
namespace Go.Proofs.YtajholbcpmjhiaaGreatDoor
open Go.RowKit Go.Maps
set_option maxRecDepth 100000 in
theorem counts_no (w : World) (ht : Tab w) (p : Option Addr) (n c : Nat) (pil : Int) (h : ¬ (n ≤ 100 ∧ pil ≤ 15)) :
    Calls Tryz.prog 8 #[.slice p n c, .int .u8 pil] w fun e w' => e = .returned (.bool true) ∧ Below w.heap.size w w' := by
  have HH := mhid (ahead_any9 w ht)
  have hor : (n : Int) > 100 ∨ (¬ (n : Int) > 100 ∧ pil > 15) := by omega
  clear ht h
  go_enter Tryz.func8, Tryz.ntmps8
  rcases hor with q | ⟨q1, q2⟩
  all_goals go_wp2_with fail
  all_goals refine HH.out.mono ?_
  all_goals rintro e w' ⟨rfl, hb⟩
  all_goals go_wp2_with fail
  all_goals first
    | go_ret2
    | go_ret
  all_goals exact ⟨rfl, hb⟩
set_option maxRecDepth 100000 in
set_option maxHeartbeats 8000000 in
theorem counts_yes (w : World) (ht : Tab w) (hbr : Bru w) (p : Option Addr) (c : Nat) (vs : List Int) (hv : LevelsIn w (.slice p vs.length c) vs) (pil : Int) (hp : 0 ≤ pil ∧ pil ≤ 15) (hn : vs.length ≤ 100) :
    Calls Tryz.prog 8 #[.slice p vs.length c, .int .u8 pil] w fun e w' => e = .returned (.bool true) ∧ Below w.heap.size w w' := by
  have HT := mhid ht
  have HR := mhid hbr
  have HV := mhid hv
  have HP := mhid hp
  obtain ⟨n, hnl⟩ : ∃ n, n = vs.length := ⟨_, rfl⟩
  rw [← hnl] at hn HV ⊢
  have q1 : ¬ (n : Int) > 100 := by omega
  have q2 : ¬ pil > 15 := by omega
  have HN := mhid (And.intro hnl hn)
  clear ht hbr hv hp hnl hn
  go_enter Tryz.func8, Tryz.ntmps8
  go_wp2_with fail
  clear q1 q2
  refine (tmade_any w HT.out HR.out pil HP.out).mono ?_
  rintro e w1 ⟨M, G, m, rfl, hM, hMd⟩
  have HM1 := mhid hM
  have HMD := mhid hMd
  clear hM hMd
  go_wp2_with fail
  refine (tmade_any w1 (HT.out.keep HM1.out.bel) (HR.out.keep HM1.out.bel) pil HP.out).mono ?_
  rintro e w2 ⟨O, G2, o, rfl, hO, hOd⟩
  have HS := mhid (show Two9 w w2 G M m G2 O o from ⟨HM1.out.keepb hO.bel, ⟨hO.at', fun k hk => Nat.le_trans HM1.out.bel.size (hO.lo k hk), HM1.out.bel.trans (hO.bel.mono HM1.out.bel.size)⟩, Apart.fresh HM1.out.at' hO.lo⟩)
  have HTM := mhid (And.intro (HMD.out.tk2 HS.out.m.at'.ok) (outL_made9 HMD.out))
  have HTO := mhid (And.intro (hOd.tk2 HS.out.o.at'.ok) (outL_made9 hOd))
  have HD := mhid HMD.out.mem2
  clear hO hOd HM1 HMD
  go_wp2_with fail
  go_loopw [7] (fun i wr => ∃ (k : Nat) (Gk : MG) (mk : Mx) (s : Tk), k ≤ n ∧ i = .int .i64 (k : Int) ∧ Hid (Two9 w wr Gk M mk G2 O o) ∧ Hid (s = Tk.run pil Tk.zero ((vs.take k).map Int.toNat)) ∧ Hid (TkOk pil k s) ∧ Hid (TkM (mainD 128) pil s.c s.st s.cnt mk) ∧ Hid (outL mk ≤ k)) (fun i _ => n - (intOf i).toNat)
  case atStart => exact ⟨0, G, m, Tk.zero, Nat.zero_le _, rfl, HS, mhid rfl, mhid (TkOk.zero pil), mhid HTM.out.1, mhid (by rw [HTM.out.2]; exact Nat.le_refl _)⟩
  case round =>
    clear HS HTM
    obtain ⟨k, Gk, mk, s, hk, rfl, HS, HRUN, HOK, HTK, HOL⟩ := hrel
    by_cases hlt : k < n
    · have c1 : (k : Int) < (n : Int) := by omega
      have c2 : ¬ (k : Int) < 0 := by omega
      have c4 : IntKind.i64.wrap ((k : Int) + 1) = ((k + 1 : Nat) : Int) := by rw [IntWalk.i64_in _ (by have := HN.out; omega)]; omega
      obtain ⟨-, hb8, p', c', b, off, hve, hpp, hcc⟩ := HV.out
      have hkl : k < vs.length := by have := HN.out; omega
      cases hve
      obtain rfl := hpp (by omega)
      obtain ⟨x, hx⟩ : ∃ x, vs[k]? = some x := ⟨_, List.getElem?_eq_getElem hkl⟩
      have hxb := hb8 x (List.mem_of_getElem? hx)
      obtain ⟨lv, rfl⟩ := Int.eq_ofNat_of_zero_le hxb.1
      have hc : wr.cell? ⟨b, off + k, none⟩ = some (.int .u8 (lv : Int)) := (HS.out.bel.cell (World.block_lt_of_cell? _ _ (hcc k _ hx))).trans (hcc k _ hx)
      have HNX := mhid (show s.step pil lv = Tk.run pil Tk.zero ((vs.take (k + 1)).map Int.toNat) from by
        rw [List.take_add_one, hx, List.map_append, show (Option.toList (some (lv : Int))).map Int.toNat = [lv] from rfl, run_snoc, ← show s = _ from HRUN.out])
      have HOX := mhid (HOK.out.step lv)
      have HTX := mhid (tk_step HD.out ⟨HP.out.1, by have := HP.out; omega⟩ HTK.out (by have := HOK.out.c; have := HN.out; omega) (fun j => by have := HOK.out.cnt j; have := HN.out; omega) lv)
      have HOLX := mhid (show outL (stepM mk lv) ≤ k + 1 from by have := outL_step mk lv; have := HOL.out; omega)
      have hs1 := mw_step w wr Gk M mk HS.out.m (HT.out) (HR.out) lv (by omega) (by omega) (by have := HOL.out; have := HN.out; show outL mk < 4294967296; omega)
      rw [show (stepM mk lv).kind = 0 from HTX.out.kind] at hs1
      have HS1 := mhid hs1
      have fk := tfield_kind
      clear hs1 hcc hx hxb hb8 hkl hpp HRUN HOK HTK HOL
      go_wp2_with fail
      refine HS1.out.mono ?_
      rintro e w3 ⟨rfl, hto⟩
      obtain ⟨G3, hS3, -⟩ := HS.out.first hto
      have HS3 := mhid hS3
      clear hS3 hto HS1 HS hc
      generalize stepM mk lv = m3 at *
      go_wp2_with fail
      exact ⟨⟨k + 1, G3, m3, s.step pil lv, by omega, by go_num, HS3, HNX, HOX, HTX, HOLX⟩, by simp [intOf] <;> omega⟩
    · obtain rfl : k = n := by omega
      have HLL := mhid (tk_left HP.out.1 HTK.out.saved)
      have HRUN2 := mhid (show s = Tk.run pil Tk.zero (vs.map Int.toNat) from by
        have := HRUN.out
        rwa [List.take_of_length_le (by have := HN.out; omega)] at this)
      have HCC := mhid HOK.out.c
      clear hlt hk HRUN
      go_wp2_with fail
      go_loopw [8] (fun i wr => ∃ (j : Nat) (Gj : MG) (mj : Mx) (t : Tk), j ≤ 75 ∧ i = .int .i64 (j : Int) ∧ Hid (Two9 w wr Gj M mj G2 O o) ∧ Hid (leftL t.st + j ≤ 75) ∧ Hid (TkOk pil (k + j) t) ∧ Hid (t.c = s.c ∧ t.out = s.out) ∧ Hid (TkM (mainD 128) pil t.c t.st t.cnt mj) ∧ Hid (outL mj ≤ k + j)) (fun i _ => 90 - (intOf i).toNat)
      case atStart => exact ⟨0, Gk, mk, s, by omega, rfl, HS, HLL, HOK, mhid ⟨rfl, rfl⟩, HTK, HOL⟩
      case round =>
        clear HS HLL HOK HTK HOL
        obtain ⟨j, Gj, mj, t, hj, rfl, HS, HLF, HOK, HSM, HTK, HOL⟩ := hrel
        have c1 : (j : Int) < 90 := by omega
        have fb := tfield_bank
        by_cases hst : t.st = []
        · have HPX := mhid (show mj.p = ⟨0, pil, 0, 0⟩ from by rw [HTK.out.p, hst]; rfl)
          obtain ⟨cc, hcc⟩ : ∃ cc, cc = t.c := ⟨_, rfl⟩
          have hc100 : cc ≤ 100 := by have h1 : t.c = s.c := HSM.out.1; have := HCC.out; have := HN.out; omega
          have HTM := mhid (show TkM (mainD 128) pil cc [] t.cnt mj from by rw [hcc, ← hst]; exact HTK.out)
          have HEQ := mhid (tk_done HOK.out hst)
          have HOV := mhid (show outV (Tk.run pil Tk.zero (vs.map Int.toNat)).out = outV t.out from by rw [HSM.out.2, ← HRUN2.out])
          clear hcc hst HLF HOK HSM HTK HOL HCC HRUN2
          go_wp2_with fail
          refine (psr_at HS.out.m HPX.out).mono ?_
          rintro e w3 ⟨rfl, hb3⟩
          have HS3 := mhid (HS.out.keepb hb3)
          clear HS hb3
          go_wp2_with fail
          refine (psr_at HS3.out.m HPX.out).mono ?_
          rintro e w4 ⟨rfl, hb4⟩
          have HS4 := mhid (HS3.out.keepb hb4)
          clear HS3 hb4
          have d1 : ¬ ((1536 + 4 * cc : Nat) : Int) < 1536 := by omega
          go_wp2_with fail
          refine (pc_at HS4.out.m (end_pc HTM.out)).mono ?_
          rintro e w' ⟨rfl, rfl⟩
          go_wp2_with fail
          clear d1 c1
          go_loopw [9] (fun i wr => ∃ (q : Nat) (Gq : MG) (oq : Mx), q ≤ cc ∧ i = .int .i64 (q : Int) ∧ Hid (Two9 w wr Gj M mj Gq O oq) ∧ Hid (TkM (mainD 128) pil q [] (fun _ => 0) oq) ∧ Hid (outL oq ≤ q)) (fun i _ => 130 - (intOf i).toNat)
          case atStart => exact ⟨0, G2, o, Nat.zero_le _, rfl, HS4, mhid HTO.out.1, mhid (by rw [HTO.out.2]; exact Nat.le_refl _)⟩
          case round =>
            clear HS4 HTO
            obtain ⟨q, Gq, oq, hq, rfl, HS, HTQ, HOQ⟩ := hrel
            have c1 : (q : Int) < 130 := by omega
            by_cases hqc : q < cc
            · have hne : ¬ ((1536 + 4 * q : Nat) : Int) = ((1536 + 4 * cc : Nat) : Int) := by omega
              have c4 : IntKind.i64.wrap ((q : Int) + 1) = ((q + 1 : Nat) : Int) := by rw [IntWalk.i64_in _ (by omega)]; omega
              have HTX := mhid (alone_step HD.out ⟨HP.out.1, by have := HP.out; omega⟩ HTQ.out (by omega))
              have HOX := mhid (show outL (stepM oq 0) ≤ q + 1 from by have := outL_step oq 0; have := HOQ.out; omega)
              have HSTP := mhid (mw_step w wr Gq O oq HS.out.o (HT.out) (HR.out) 0 (by omega) (by omega) (by have := HOQ.out; show outL oq < 4294967296; omega))
              go_wp2_with fail
              refine (pc_at HS.out.o (end_pc HTQ.out)).mono ?_
              rintro e w' ⟨rfl, rfl⟩
              go_wp2_with fail
              refine (pc_at HS.out.m (end_pc HTM.out)).mono ?_
              rintro e w' ⟨rfl, rfl⟩
              go_wp2_with fail
              refine HSTP.out.mono ?_
              rintro e w5 ⟨rfl, hto⟩
              obtain ⟨G5, hS5, -⟩ := HS.out.second hto
              have HS5 := mhid hS5
              clear hS5 hto HSTP HS hne HTQ HOQ
              generalize stepM oq 0 = o5 at *
              go_wp2_with fail
              exact ⟨⟨q + 1, G5, o5, by omega, by go_num, HS5, HTX, HOX⟩, by simp [intOf] <;> omega⟩
            · obtain rfl : q = cc := by omega
              clear hqc hq
              go_wp2_with fail
              refine (pc_at HS.out.o (end_pc HTQ.out)).mono ?_
              rintro e w' ⟨rfl, rfl⟩
              go_wp2_with fail
              refine (pc_at HS.out.m (end_pc HTM.out)).mono ?_
              rintro e w' ⟨rfl, rfl⟩
              have HTA := mhid (taken_any wr _ vs (HV.out.keepb HS.out.bel) pil HP.out (by have := HN.out; omega))
              go_wp2_with fail
              refine HTA.out.mono ?_
              rintro e w5 ⟨g, rfl, hg, hrd, hb5⟩
              rw [HOV.out] at hrd
              have HROW := mhid (show MRow w5 Gj (.slice (some ⟨g, 0, none⟩) 16 16) (outV t.out) from ⟨hrd, fun x hx => by
                cases hx
                obtain ⟨-, p5, c5, he5, h5⟩ := hrd
                obtain ⟨b5, o5, e5, hc5⟩ := h5 (by rw [outV_len]; decide)
                cases he5
                cases e5
                refine ⟨?_, World.block_lt_of_cell? _ _ (hc5 0 (by rw [outV_len]; decide))⟩
                by_cases e : Gj.R g = .none
                · exact e
                · have := HS.out.m.at'.lt g e; omega⟩)
              have HS5 := mhid (HS.out.keepb hb5)
              have HZ0 := mhid (ZeroAt.start HTM.out)
              clear HTA hrd hb5 HS hg c1 HV HOV HOQ
              go_wp2_with fail
              go_loopw [11] (fun i wr => ∃ (k6 : Nat) (G6 : MG) (e6 : List Int), k6 ≤ 16 ∧ i = .int .i64 (k6 : Int) ∧ Hid (Two9 w wr G6 M { mj with mem := e6 } Gq O oq) ∧ Hid (ZeroAt (mainD 128) t.cnt k6 e6) ∧ Hid (MRow wr G6 (.slice (some ⟨g, 0, none⟩) 16 16) (outV t.out))) (fun i _ => 16 - (intOf i).toNat)
              case atStart => exact ⟨0, Gj, mj.mem, by omega, rfl, HS5, HZ0, HROW⟩
              case round =>
                clear HS5 HZ0 HROW
                obtain ⟨k6, G6, e6, h6, rfl, HS, HZ, HRW⟩ := hrel
                by_cases hlt : k6 < 16
                · have c1 : (k6 : Int) < 16 := by omega
                  have c2 : ¬ (k6 : Int) < 0 := by omega
                  have c4 : IntKind.i64.wrap ((k6 : Int) + 1) = ((k6 + 1 : Nat) : Int) := by rw [IntWalk.i64_in _ (by omega)]; omega
                  have a1 : IntKind.i64.wrap (4 * (k6 : Int)) = 4 * (k6 : Int) := IntWalk.i64_in _ (by omega)
                  have a2 : IntKind.u32.wrap (4 * (k6 : Int)) = 4 * (k6 : Int) := IntWalk.u32_in _ (by omega)
                  obtain ⟨cn, hcn⟩ : ∃ cn : Int, cn = (t.cnt k6 : Int) := ⟨_, rfl⟩
                  have hcell : wr.cell? ⟨g, k6, none⟩ = some (.int .u32 cn) := by
                    obtain ⟨-, p5, c5, he5, h5⟩ := HRW.out.1
                    obtain ⟨b5, o5, e5, hc5⟩ := h5 (by rw [outV_len]; decide)
                    cases he5
                    cases e5
                    have := hc5 k6 (by rw [outV_len]; exact hlt)
                    rw [Nat.zero_add, outV_at _ hlt, HEQ.out k6, ← hcn] at this
                    exact this
                  have HLD := mhid (show loadV e6 (4 * (k6 : Int)) 4 = cn from (HZ.out.load hlt).trans hcn.symm)
                  have HLT := mhid hlt
                  clear hcn hlt
                  go_wp2_with fail
                  refine (mmem_any wr G6 M _ HS.out.m.at').mono ?_
                  rintro e w' ⟨rfl, rfl⟩
                  go_wp2_with fail
                  refine (load_any wr G6.mB G6.gB e6 HS.out.m.at'.mem (4 * (k6 : Int)) 4 (by omega) (by omega)).mono ?_
                  rintro e w' ⟨rfl, rfl⟩
                  rw [HLD.out]
                  go_wp2_with fail
                  refine (mmem_any wr G6 M _ HS.out.m.at').mono ?_
                  rintro e w' ⟨rfl, rfl⟩
                  go_wp2_with fail
                  refine (mw_store w wr G6 M _ HS.out.m (4 * (k6 : Int)) 0 (by omega) (by decide)).mono ?_
                  rintro e w7 ⟨rfl, hto⟩
                  obtain ⟨G7, hS7, hkp⟩ := HS.out.first hto
                  have HS7 := mhid (show Two9 w w7 G7 M { mj with mem := storeV e6 (4 * (k6 : Int)) 4 0 } Gq O oq from hS7)
                  have HZ7 := mhid (HZ.out.step HLT.out)
                  have HR7 := mhid (HRW.out.keep hkp)
                  clear hS7 hto hkp HS HZ HRW hcell HLD
                  go_wp2_with fail
                  exact ⟨⟨k6 + 1, G7, _, by omega, by go_num, HS7, HZ7, HR7⟩, by simp [intOf] <;> omega⟩
                · obtain rfl : k6 = 16 := by omega
                  clear hlt h6 HRW HEQ
                  have HEW := mhid (show (if spanE ({ mj with mem := e6 } : Mx).mem.length 0 512 4 = 0 then wordsS ({ mj with mem := e6 } : Mx).mem 0 (512 : Int).toNat else []) = (if spanE oq.mem.length 0 512 4 = 0 then wordsS oq.mem 0 (512 : Int).toNat else []) from by
                    show (if spanE e6.length 0 512 4 = 0 then wordsS e6 0 512 else []) = (if spanE oq.mem.length 0 512 4 = 0 then wordsS oq.mem 0 512 else [])
                    rw [HZ.out.len, HTQ.out.len, end_words HZ.out HTQ.out])
                  have HEI := mhid (fun (wi : Int) => (show winV ({ mj with mem := e6 } : Mx).f wi = winV oq.f wi from end_win HTM.out HTQ.out wi))
                  have HPM := mhid (show ({ mj with mem := e6 } : Mx).p = ⟨0, pil, 0, 0⟩ from (show mj.p = ⟨0, pil, 0, 0⟩ from HPX.out))
                  have HCM := mhid (show ({ mj with mem := e6 } : Mx).pc = ((1536 + 4 * q : Nat) : Int) from (show mj.pc = ((1536 + 4 * q : Nat) : Int) from end_pc HTM.out))
                  have HPO := mhid (show oq.p = ⟨0, pil, 0, 0⟩ from end_p HTQ.out)
                  have HCO := mhid (show oq.pc = ((1536 + 4 * q : Nat) : Int) from end_pc HTQ.out)
                  clear HZ HTQ HTM HPX
                  generalize ({ mj with mem := e6 } : Mx) = mf at *
                  go_wp2_with fail
                  refine (mmem_any wr G6 M _ HS.out.m.at').mono ?_
                  rintro e w' ⟨rfl, rfl⟩
                  go_wp2_with fail
                  refine (mw_words w wr G6 M _ HS.out.m 512 (by omega)).mono ?_
                  rintro e w8 ⟨vx, lx, rfl, hlx, hrx, hb8⟩
                  have HRX := mhid hrx.1
                  have HS8 := mhid (HS.out.keepb hb8)
                  rw [HEW.out] at hlx
                  have HLX := mhid hlx
                  clear hlx hrx hb8 HS HEW
                  go_wp2_with fail
                  refine (mmem_any w8 Gq O _ HS8.out.o.at').mono ?_
                  rintro e w' ⟨rfl, rfl⟩
                  go_wp2_with fail
                  refine (mw_words w w8 Gq O _ HS8.out.o 512 (by omega)).mono ?_
                  rintro e w9 ⟨vy, ly, rfl, hly, hry, hb9⟩
                  rw [← HLX.out] at hly
                  subst hly
                  have HRY := mhid hry.1
                  have HRX9 := mhid (HRX.out.keepb hb9)
                  have HS9 := mhid (HS8.out.keepb hb9)
                  clear hry hb9 HS8 HRX HLX
                  go_wp2_with fail
                  go_loopw [18] (fun i wr => ∃ (k7 : Nat), k7 ≤ 2 ∧ i = .int .i64 (k7 : Int) ∧ Hid (Two9 w wr G6 M mf Gq O oq) ∧ Hid (Reads32 wr vx ly) ∧ Hid (Reads32 wr vy ly)) (fun i _ => 2 - (intOf i).toNat)
                  case atStart => exact ⟨0, by omega, rfl, HS9, HRX9, HRY⟩
                  case round =>
                    clear HS9 HRX9 HRY
                    obtain ⟨k7, h7, rfl, HS, HX, HY⟩ := hrel
                    by_cases hlt : k7 < 2
                    · have c1 : (k7 : Int) < 2 := by omega
                      have c4 : IntKind.i64.wrap ((k7 : Int) + 1) = ((k7 + 1 : Nat) : Int) := by rw [IntWalk.i64_in _ (by omega)]; omega
                      go_wp2_with fail
                      refine (mfile_any wr G6 M _ HS.out.m.at').mono ?_
                      rintro e w' ⟨rfl, rfl⟩
                      go_wp2_with fail
                      refine (mw_win w wr G6 M _ HS.out.m (k7 : Int)).mono ?_
                      rintro e wa ⟨va, rfl, hra, hba⟩
                      rw [HEI.out] at hra
                      have HRA := mhid hra.1
                      have HSa := mhid (HS.out.keepb hba)
                      have HXa := mhid (HX.out.keepb hba)
                      have HYa := mhid (HY.out.keepb hba)
                      clear hra hba HS HX HY
                      go_wp2_with fail
                      refine (mfile_any wa Gq O _ HSa.out.o.at').mono ?_
                      rintro e w' ⟨rfl, rfl⟩
                      go_wp2_with fail
                      refine (mw_win w wa Gq O _ HSa.out.o (k7 : Int)).mono ?_
                      rintro e wb ⟨vb, rfl, hrb, hbb⟩
                      have HRB := mhid hrb.1
                      have HRA2 := mhid (HRA.out.keepb hbb)
                      have HSb := mhid (HSa.out.keepb hbb)
                      have HXb := mhid (HXa.out.keepb hbb)
                      have HYb := mhid (HYa.out.keepb hbb)
                      clear hrb hbb HSa HXa HYa HRA
                      go_wp2_with fail
                      refine (same_any wb _ _ _ _ HRA2.out HRB.out).mono ?_
                      rw [decide_eq_true rfl]
                      rintro e wc ⟨rfl, hbc⟩
                      have HSc := mhid (HSb.out.keepb hbc)
                      have HXc := mhid (HXb.out.keepb hbc)
                      have HYc := mhid (HYb.out.keepb hbc)
                      clear hbc HSb HXb HYb HRA2 HRB
                      go_wp2_with fail
                      exact ⟨⟨k7 + 1, by omega, by go_num, HSc, HXc, HYc⟩, by simp [intOf] <;> omega⟩
                    · obtain rfl : k7 = 2 := by omega
                      clear hlt h7
                      go_wp2_with fail
                      refine (pc_at HS.out.m HCM.out).mono ?_
                      rintro e w' ⟨rfl, rfl⟩
                      go_wp2_with fail
                      refine (pc_at HS.out.o HCO.out).mono ?_
                      rintro e w' ⟨rfl, rfl⟩
                      go_wp2_with fail
                      refine (psr_at HS.out.m HPM.out).mono ?_
                      rintro e wa ⟨rfl, hba⟩
                      have HSa := mhid (HS.out.keepb hba)
                      have HXa := mhid (HX.out.keepb hba)
                      have HYa := mhid (HY.out.keepb hba)
                      clear hba HS HX HY
                      go_wp2_with fail
                      refine (psr_at HSa.out.o HPO.out).mono ?_
                      rintro e wb ⟨rfl, hbb⟩
                      have HSb := mhid (HSa.out.keepb hbb)
                      have HXb := mhid (HXa.out.keepb hbb)
                      have HYb := mhid (HYa.out.keepb hbb)
                      clear hbb HSa HXa HYa
                      go_wp2_with fail
                      refine (same_any wb _ _ _ _ HXb.out HYb.out).mono ?_
                      rw [decide_eq_true rfl]
                      rintro e wc ⟨rfl, hbc⟩
                      have HBC := mhid (HSb.out.keepb hbc).bel
                      clear hbc HSb HXb HYb
                      go_wp2_with fail
                      refine (ahead_any9 wc (HT.out.keep HBC.out)).mono ?_
                      rintro e wd ⟨rfl, hbd⟩
                      go_wp2_with fail
                      first
                        | go_ret2
                        | go_ret
                      exact ⟨rfl, HBC.out.trans (hbd.mono HBC.out.size)⟩
        · obtain ⟨l, k5, r, hlr⟩ : ∃ l k5 r, t.st = (l, k5) :: r := by
            cases h : t.st with
            | nil => exact absurd h hst
            | cons e r => exact ⟨e.1, e.2, r, rfl⟩
          have hpx : mj.p = ⟨0, l, l, 0⟩ := by rw [HTK.out.p, hlr]; rfl
          have hl1 : 1 ≤ l := by have := HTK.out.saved; rw [hlr] at this; exact this.1.1
          have hlne : ¬ (l : Int) = 0 := by omega
          have c4 : IntKind.i64.wrap ((j : Int) + 1) = ((j + 1 : Nat) : Int) := by rw [IntWalk.i64_in _ (by omega)]; omega
          have hdr := tk_drain HOK.out (HOK.out.mask HP.out).1 hst
          have HLF2 := mhid (show leftL (t.step pil 0).st + (j + 1) ≤ 75 from by have := HLF.out; omega)
          have HSM2 := mhid (show (t.step pil 0).c = s.c ∧ (t.step pil 0).out = s.out from ⟨hdr.2.1.trans HSM.out.1, hdr.2.2.trans HSM.out.2⟩)
          have HOK2 := mhid (show TkOk pil (k + (j + 1)) (t.step pil 0) from HOK.out.step 0)
          have HTX := mhid (show TkM (mainD 128) pil (t.step pil 0).c (t.step pil 0).st (t.step pil 0).cnt (stepM mj 0) from tk_step HD.out ⟨HP.out.1, by have := HP.out; omega⟩ HTK.out (by have h1 : t.c = s.c := HSM.out.1; have := HCC.out; have := HN.out; omega) (fun i => by have := HOK.out.cnt i; have := HN.out; omega) 0)
          have HOLX := mhid (show outL (stepM mj 0) ≤ k + (j + 1) from by have := outL_step mj 0; have := HOL.out; omega)
          have HPX := mhid hpx
          clear hdr hpx hlr hl1 HLF HSM HOK HTK
          go_wp2_with fail
          refine (psr_at HS.out.m HPX.out).mono ?_
          rintro e w3 ⟨rfl, hb3⟩
          have HS3 := mhid (HS.out.keepb hb3)
          have HSTP := mhid (mw_step w w3 Gj M mj HS3.out.m (HT.out) (HR.out) 0 (by omega) (by omega) (by have := HOL.out; have := HN.out; show outL mj < 4294967296; omega))
          clear HS hb3 HOL
          go_wp2_with fail
          refine HSTP.out.mono ?_
          rintro e w4 ⟨rfl, hto⟩
          obtain ⟨G4, hS4, -⟩ := HS3.out.first hto
          have HS4 := mhid hS4
          clear hS4 hto HSTP HS3 HPX
          generalize stepM mj 0 = m4 at *
          go_wp2_with fail
          exact ⟨⟨j + 1, G4, m4, t.step pil 0, by have := HLF2.out; omega, by go_num, HS4, HLF2, HOK2, HSM2, HTX, HOLX⟩, by simp [intOf] <;> omega⟩
theorem tcounts_any (w : World) (ht : Tab w) (hbr : Bru w) (v : Value) (vs : List Int) (hv : LevelsIn w v vs) (pil : Int) (hp : 0 ≤ pil) :
    Calls Tryz.prog 8 #[v, .int .u8 pil] w fun e w' => e = .returned (.bool true) ∧ Below w.heap.size w w' := by
  obtain ⟨p, c, rfl⟩ : ∃ p c, v = .slice p vs.length c := by obtain ⟨-, -, p, c, -, -, h, -⟩ := hv; exact ⟨p, c, h⟩
  by_cases hb : vs.length ≤ 100 ∧ pil ≤ 15
  · exact counts_yes w ht hbr p c vs hv pil ⟨hp, hb.2⟩ hb.1
  · exact counts_no w ht p _ c pil hb
end Go.Proofs.YtajholbcpmjhiaaGreatDoor
