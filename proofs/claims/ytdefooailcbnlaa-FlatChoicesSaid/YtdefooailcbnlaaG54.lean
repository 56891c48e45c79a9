/- The walk of muntinlaw16.FlatChoices. -/
import Derived.Test.YtdefooailcbnlaaG52
import Derived.Test.YtdefooailcbnlaaG46
import Derived.Test.YtdefooailcbnlaaG47
import Derived.Test.YtdefooailcbnlaaG28
import Derived.Test.YtdefooailcbnlaaG41
import Derived.Test.YtdefooailcbnlaaG53
import Derived.Deep.CutBlock
import Derived.Deep.RegionHeld3
namespace Go.Proofs.Ytdefooailcbnlaa
open Go.RowKit Go.Deep
set_option linter.unusedVariables false
set_option linter.unusedSimpArgs false
/-- None of these yields. -/
def NoY (l : List Insx) : Prop := ∀ x ∈ l, x.op ≠ 7
def NoYB (l : List Blk) : Prop := ∀ b ∈ l, NoY b.ins
def NoYF (l : List Fnx) : Prop := ∀ f ∈ l, NoYB f.blocks
theorem NoYF.no {p : Prg} (h : NoYF p.funcs) : NoYield p := by
  intro f x hx
  obtain ⟨fn, b, h1, h2, h3⟩ := insOf_some hx
  exact h fn (List.mem_of_getElem? h1) b (List.mem_of_getElem? h2) x (List.mem_of_getElem? h3)
theorem take_snoc {α : Type} {l : List α} {k : Nat} {x : α} (h : l[k]? = some x) : l.take (k + 1) = l.take k ++ [x] := by
  obtain ⟨hk, rfl⟩ := List.getElem?_eq_some_iff.1 h
  exact List.take_succ_eq_append_getElem hk
theorem NoY.snoc {l : List Insx} {k : Nat} {x : Insx} (h : NoY (l.take k)) (hx : l[k]? = some x) (h7 : x.op ≠ 7) : NoY (l.take (k + 1)) := by
  rw [take_snoc hx]
  intro y hy
  rcases List.mem_append.1 hy with h1 | h1
  · exact h y h1
  · rw [List.mem_singleton] at h1; subst h1; exact h7
theorem NoYB.snoc {l : List Blk} {k : Nat} {x : Blk} (h : NoYB (l.take k)) (hx : l[k]? = some x) (h7 : NoY (x.ins.take x.ins.length)) : NoYB (l.take (k + 1)) := by
  rw [take_snoc hx]
  intro y hy
  rcases List.mem_append.1 hy with h1 | h1
  · exact h y h1
  · rw [List.mem_singleton] at h1; subst h1; rw [List.take_length] at h7; exact h7
theorem NoYF.snoc {l : List Fnx} {k : Nat} {x : Fnx} (h : NoYF (l.take k)) (hx : l[k]? = some x) (h7 : NoYB (x.blocks.take x.blocks.length)) : NoYF (l.take (k + 1)) := by
  rw [take_snoc hx]
  intro y hy
  rcases List.mem_append.1 hy with h1 | h1
  · exact h y h1
  · rw [List.mem_singleton] at h1; subst h1; rw [List.take_length] at h7; exact h7
set_option maxRecDepth 100000 in
set_option maxHeartbeats 8000000 in
theorem walk_FlatChoices (p : Prg) (hh : I64 p.heap) (v cv : Value) (ch : List Int) (mv : Value) (more : List Int) (w : World) (hv : PrgV w v p) (hc : WordsIn w cv ch) (hcp : ∀ a n c, cv = .slice a n c → n ≤ c) (hm : WordsIn w mv more) :
    Calls Try.prog 5 #[v, cv, mv] w fun e w' => e = .returned (.bool true) ∧ Below w.heap.size w w' := by
  obtain ⟨pt, ct, pf, cf, rfl, hT, hF⟩ := hv
  obtain ⟨hrd, hcw, hnl⟩ := hc.reads
  obtain ⟨hrdm, hcwm, hnlm⟩ := hm.reads
  obtain ⟨pc, cc, hce⟩ := hc.shape
  obtain ⟨pm, cm, hme⟩ := hm.shape
  subst hce
  subst hme
  have HCP := fhid (hcp _ _ _ rfl)
  clear hcp
  have hb : Below w.heap.size w (w.alloc (.cells #[.int .i64 p.heap, .slice pt p.threads.length ct, .slice pf p.funcs.length cf] 25)) := (Below.refl _ _).alloc (Nat.le_refl _) _
  have hP := vrow_new w #[.int .i64 p.heap, .slice pt p.threads.length ct, .slice pf p.funcs.length cf] 25
  have HB := fhid hb
  have HP := fhid hP
  have HA := fhid (And.intro hT (And.intro hF (And.intro hrd (And.intro hcw hnl))))
  have HAM := fhid (And.intro hrdm (And.intro hcwm hnlm))
  clear hb hP hT hF hrd hcw hnl hc hh hrdm hcwm hnlm hm
  go_enter Try.func5, Try.ntmps5
  go_wp2_with fail
  generalize w.alloc (.cells #[.int .i64 p.heap, .slice pt p.threads.length ct, .slice pf p.funcs.length cf] 25) = W0 at *
  have HG := fhid (great16_any p pt ct pf cf W0 (FnsIn.keep HA.out.2.1 HB.out))
  have c0 := HP.out.cell (k := 0) rfl
  have c1 := HP.out.cell (k := 1) rfl
  have c2 := HP.out.cell (k := 2) rfl
  go_wp2_with fail
  refine HG.out.mono ?_
  rintro e w1 ⟨g, rfl, _, hb1⟩
  have HHEAD := fhid (fun (W : World) (hW : Below w.heap.size w W) => (show Calls Try.prog 9 #[] W fun e w' => e = .returned (.bool true) ∧ Below w.heap.size w w' from by
    refine (head16_any W).mono ?_
    rintro e w' ⟨rfl, hb'⟩
    exact ⟨rfl, hW.trans (hb'.mono hW.size)⟩))
  have HB1 := fhid hb1
  have HBW := fhid (HB.out.trans (hb1.mono HB.out.size))
  clear hb1 c0 c1 c2 HG
  cases g with
  | true =>
    go_wp2_with fail
    refine (HHEAD.out _ HBW.out).mono ?_
    rintro e w9 ⟨rfl, hb9⟩
    go_wp2_with fail
    go_ret
    exact ⟨rfl, hb9⟩
  | false =>
    by_cases hgr : 100 < ch.length
    · have hg1 : decide ((ch.length : Int) > 100) = true := decide_eq_true (by omega)
      have hg2 : (ch.length : Int) > 100 := by omega
      go_wp2_with fail
      refine (HHEAD.out _ HBW.out).mono ?_
      rintro e w9 ⟨rfl, hb9⟩
      go_wp2_with fail
      go_ret
      exact ⟨rfl, hb9⟩
    by_cases hgm : 100 < more.length
    · have hg1 : decide ((ch.length : Int) > 100) = false := decide_eq_false (by omega)
      have hg2 : ¬ (ch.length : Int) > 100 := by omega
      have hg3 : decide ((more.length : Int) > 100) = true := decide_eq_true (by omega)
      have hg4 : (more.length : Int) > 100 := by omega
      go_wp2_with fail
      refine (HHEAD.out _ HBW.out).mono ?_
      rintro e w9 ⟨rfl, hb9⟩
      go_wp2_with fail
      go_ret
      exact ⟨rfl, hb9⟩
    have hg1 : decide ((ch.length : Int) > 100) = false := decide_eq_false (by omega)
    have hg2 : ¬ (ch.length : Int) > 100 := by omega
    have hg3 : decide ((more.length : Int) > 100) = false := decide_eq_false (by omega)
    have hg4 : ¬ (more.length : Int) > 100 := by omega
    have c0 := (HP.out.below HB1.out).cell (k := 0) rfl
    have c1 := (HP.out.below HB1.out).cell (k := 1) rfl
    have c2 := (HP.out.below HB1.out).cell (k := 2) rfl
    have HCL := fhid (show ch.length ≤ 100 by omega)
    have HML := fhid (show more.length ≤ 100 by omega)
    go_wp2_with fail
    clear hg1 hg2 hg3 hg4 hgr hgm
    rcases Classical.em ((checkS p).2.2 = 0) with he | he
    · have HE := fhid he
      clear he
      refine (new_any w1 p pt ct pf cf (.slice pc ch.length cc) ch (IntsIn.keep HA.out.1 HBW.out) (FnsIn.keep HA.out.2.1 HBW.out) (HA.out.2.2.1.keepb HBW.out) (by have := HCL.out; omega) HA.out.2.2.2.2 HE.out).mono ?_
      rintro e w2 ⟨m1, G1, rfl, hM1, hlo1, hb2⟩
      have HM1 := fhid (And.intro hM1 (And.intro hlo1 hb2))
      have HPO := fhid (prgOk_of HA.out.2.1 HE.out)
      have HOK := fhid (fun (n : Nat) => mrun_ok HPO.out.good HPO.out.words (mnew_ok HPO.out.good HA.out.2.2.2.1) n)
      clear c0 c1 c2 hM1 hlo1 hb2
      go_wp2_with fail
      refine (mrun_any HPO.out (mnew_ok HPO.out.good HA.out.2.2.2.1) 200 (by omega) w2 G1 m1 HM1.out.1).mono ?_
      rintro e w3 ⟨rfl, hgo⟩
      obtain ⟨A1, hM3, hlo3, hb3⟩ := hgo.lo HM1.out.2.2.size HM1.out.2.1
      have HM3 := fhid (And.intro hM3 hlo3)
      have HB3 := fhid (HM1.out.2.2.trans hb3)
      clear hgo hM3 hlo3 hb3
      go_wp2_with fail
      refine (outcome_any w3 p A1 m1 _ HM3.out.1 (by have := (HOK.out 200).ol; omega) (by have := (HOK.out 200).heap; have := HPO.out.good.heap; omega)).mono ?_
      rintro e w4 ⟨v14, rfl, hov, hb4⟩
      have HOV := fhid hov.here
      obtain ⟨p1, n1, q1, p2, n2, q2, rfl, _, _⟩ := hov.here
      have HB4 := fhid hb4
      clear hov hb4
      have hal : Below w4.heap.size w4 (w4.alloc (.cells #[.slice p1 n1 q1, .int .u8 (run p 200 (newS p ch)).kind, .int .u32 (run p 200 (newS p ch)).v, .slice p2 n2 q2] 35)) := (Below.refl _ _).alloc (Nat.le_refl _) _
      have hv5 := vrow_new w4 #[.slice p1 n1 q1, .int .u8 (run p 200 (newS p ch)).kind, .int .u32 (run p 200 (newS p ch)).v, .slice p2 n2 q2] 35
      have hb15 := HB3.out.trans (HB4.out.mono HB3.out.size)
      have hbw5 : Below w1.heap.size w1 (w4.alloc (.cells #[.slice p1 n1 q1, .int .u8 (run p 200 (newS p ch)).kind, .int .u32 (run p 200 (newS p ch)).v, .slice p2 n2 q2] 35)) := hb15.trans (hal.mono hb15.size)
      have HV5 := fhid hv5
      have HW5 := fhid (HBW.out.trans (hbw5.mono HBW.out.size))
      have HP5 := fhid ((HP.out.below HB1.out).below hbw5)
      have HM5 := fhid ((HM3.out.1.keepb HB4.out).keepb hal)
      have HO5 := fhid (OutV.keep HOV.out hal)
      have HS := fhid (show (run p 200 (newS p ch)).ch.length ≤ ch.length from run_chlen p 200 (newS p ch))
      have HNO := fhid (fun (hn : NoYF p.funcs) => run_cur hn.no 200 (newS p ch) rfl)
      have HMO := fhid (run_more p more 200 (newS p ch))
      have hSZ : w4.heap.size < (w4.alloc (.cells #[.slice p1 n1 q1, .int .u8 (run p 200 (newS p ch)).kind, .int .u32 (run p 200 (newS p ch)).v, .slice p2 n2 q2] 35)).heap.size := by simp
      have HSZ := fhid hSZ
      clear hal hv5 hb15 hbw5 hSZ HM1 HM3 HB3 HB4 HOV HP HB HOK
      have c0 := HP5.out.cell (k := 0) rfl
      have c1 := HP5.out.cell (k := 1) rfl
      have c2 := HP5.out.cell (k := 2) rfl
      go_wp2_with fail
      generalize w4.alloc (.cells #[.slice p1 n1 q1, .int .u8 (run p 200 (newS p ch)).kind, .int .u32 (run p 200 (newS p ch)).v, .slice p2 n2 q2] 35) = W5 at *
      have HNP := fhid (fun (c : List Int) => (show newS p c = { newS p ch with ch := c } from rfl))
      have HS0 := fhid (show (newS p ch).ch = ch from rfl)
      generalize newS p ch = s0 at *
      generalize run p 200 s0 = S at *
      have HFR := fhid (fun (W : World) (hW : Below W5.heap.size W5 W) (v : Value) (l : List Int) (hr : Reads32 W v l) (hw : Words l) (hl : l.length ≤ 1048576) (hn : ∀ c n, v = .slice none n c → c = 0) (hS : ∃ c, run p 200 (newS p l) = { S with ch := c }) => (show Calls Try.prog 10 #[.agg #[.int .i64 p.heap, .slice pt p.threads.length ct, .slice pf p.funcs.length cf], v, .int .i64 200] W (fun e w' => ∃ po no co ph nh ch', e = .returned (.tuple #[.agg #[.slice po no co, .int .u8 S.kind, .int .u32 S.v, .slice ph nh ch'], .int .i64 0]) ∧ OutV w' (.agg #[.slice po no co, .int .u8 S.kind, .int .u32 S.v, .slice ph nh ch']) S.out S.kind S.v S.heap ∧ Below W5.heap.size W5 w') from by
        have hxW := HW5.out.trans (hW.mono HW5.out.size)
        have h := frun_any W p pt ct pf cf v l (IntsIn.keep HA.out.1 hxW) (FnsIn.keep HA.out.2.1 hxW) hr hw hl hn 200 (by omega)
        obtain ⟨c, hS⟩ := hS
        rw [HE.out, fin_yes HE.out, hS] at h
        refine h.mono ?_
        rintro e w' ⟨u, rfl, ho, hb'⟩
        have h9 := ho.here
        obtain ⟨a1, a2, a3, a4, a5, a6, rfl, _, _⟩ := ho.here
        exact ⟨_, _, _, _, _, _, rfl, h9, hW.trans (hb'.mono hW.size)⟩))
      have HSAME := fhid (fun (W : World) (hW : Below W5.heap.size W5 W) (po : Option Addr) (no co : Nat) (ph : Option Addr) (nh ch' : Nat) (hu : OutV W (.agg #[.slice po no co, .int .u8 S.kind, .int .u32 S.v, .slice ph nh ch']) S.out S.kind S.v S.heap) => (show Calls Try.prog 11 #[.agg #[.slice po no co, .int .u8 S.kind, .int .u32 S.v, .slice ph nh ch'], .agg #[.slice p1 n1 q1, .int .u8 S.kind, .int .u32 S.v, .slice p2 n2 q2]] W (fun e w' => e = .returned (.bool true) ∧ Below w.heap.size w w') from by
        refine (osame_any W _ _ S.out S.out S.heap S.heap S.kind S.v S.kind S.v hu (OutV.keep HO5.out hW)).mono ?_
        rintro e w' ⟨rfl, hb'⟩
        have hxW := HW5.out.trans (hW.mono HW5.out.size)
        exact ⟨by simp, hxW.trans (hb'.mono hxW.size)⟩))
      have HLF := fhid (fun (W : World) (hW : Below W5.heap.size W5 W) => left_any W p A1 m1 S (HM5.out.keepb hW))
      have HF5 := fhid (FnsIn.keep HA.out.2.1 HW5.out)
      have hfl := HF5.out.1
      obtain ⟨_, _, fb, fo, hbe, _, HBS⟩ := HF5.out.hids
      cases hbe
      have HPF := fhid HBS.out.1
      have HKF := fhid HBS.out.2
      clear HBS
      go_loop [10, 11] (fun y i => ∃ (k : Nat) (b : Bool), k ≤ p.funcs.length ∧ y = .bool b ∧ i = .int .i64 k ∧ (b = false → NoYF (p.funcs.take k))) (fun _ i => p.funcs.length - (intOf i).toNat)
      case atStart => exact ⟨0, _, Nat.zero_le _, rfl, rfl, fun _ f hf => by simp at hf⟩
      case round =>
        obtain ⟨k, b, hk, rfl, rfl, hno⟩ := hrel
        have HN := fhid hno
        clear hno
        by_cases hlt : k < p.funcs.length
        · obtain rfl := HPF.out (by omega)
          have HX := fhid (List.getElem?_eq_getElem hlt)
          generalize p.funcs[k] = x at HX
          obtain ⟨d0, d1, d2, ⟨bv, d3, hbv⟩, hnm, _, _⟩ := HKF.out k x HX.out
          obtain ⟨pb, cb, rfl⟩ := hbv.shape
          have hbl := hbv.1
          obtain ⟨_, _, b2, o2, hbe2, _, HB2⟩ := hbv.hids
          cases hbe2
          have HPB2 := fhid HB2.out.1
          have HKB := fhid HB2.out.2
          have h1 : (k : Int) < p.funcs.length := by omega
          have e1 : IntKind.i64.wrap ((k : Int) + 1) = ((k + 1 : Nat) : Int) := by rw [IntWalk.i64_in _ (by omega)]; omega
          clear hbv HB2
          go_wp2_with fail
          go_loop [10, 12] (fun y i => ∃ (j : Nat) (b : Bool), j ≤ x.blocks.length ∧ y = .bool b ∧ i = .int .i64 j ∧ (b = false → NoYF (p.funcs.take k) ∧ NoYB (x.blocks.take j))) (fun _ i => x.blocks.length - (intOf i).toNat)
          case atStart => exact ⟨0, b, Nat.zero_le _, rfl, rfl, fun h => ⟨HN.out h, fun f hf => by simp at hf⟩⟩
          case round =>
            obtain ⟨j, b1, hj, rfl, rfl, hno⟩ := hrel
            have HN1 := fhid hno
            clear hno
            by_cases hltj : j < x.blocks.length
            · obtain rfl := HPB2.out (by omega)
              have HY := fhid (List.getElem?_eq_getElem hltj)
              generalize x.blocks[j] = y at HY
              obtain ⟨g0, ⟨iv, g1, hiv⟩, hnm2⟩ := HKB.out j y HY.out
              obtain ⟨pi, ci, rfl⟩ := hiv.shape
              have hil := hiv.1
              obtain ⟨_, _, b3, o3, hbe3, _, HB3⟩ := hiv.hids
              cases hbe3
              have HPB3 := fhid HB3.out.1
              have HKI := fhid HB3.out.2
              have h3 : (j : Int) < x.blocks.length := by omega
              have e2 : IntKind.i64.wrap ((j : Int) + 1) = ((j + 1 : Nat) : Int) := by rw [IntWalk.i64_in _ (by omega)]; omega
              clear hiv HB3
              go_wp2_with fail
              go_loop [10, 13] (fun y' i => ∃ (q : Nat) (b : Bool), q ≤ y.ins.length ∧ y' = .bool b ∧ i = .int .i64 q ∧ (b = false → (NoYF (p.funcs.take k) ∧ NoYB (x.blocks.take j)) ∧ NoY (y.ins.take q))) (fun _ i => y.ins.length - (intOf i).toNat)
              case atStart => exact ⟨0, b1, Nat.zero_le _, rfl, rfl, fun h => ⟨HN1.out h, fun f hf => by simp at hf⟩⟩
              case round =>
                obtain ⟨q, b2', hq, rfl, rfl, hno⟩ := hrel
                have HN2 := fhid hno
                clear hno
                by_cases hltq : q < y.ins.length
                · obtain rfl := HPB3.out (by omega)
                  have HZ := fhid (List.getElem?_eq_getElem hltq)
                  generalize y.ins[q] = z at HZ
                  have hz0 := (HKI.out q z HZ.out).c0
                  have h5 : (q : Int) < y.ins.length := by omega
                  have e3 : IntKind.i64.wrap ((q : Int) + 1) = ((q + 1 : Nat) : Int) := by rw [IntWalk.i64_in _ (by omega)]; omega
                  cases b2' with
                  | true =>
                    go_wp2_with fail
                    go_round
                    case rel => exact ⟨q + 1, true, by omega, rfl, by go_num, fun h => by simp at h⟩
                    case measure => simp [intOf]; omega
                  | false =>
                    go_wp2_with fail
                    go_round
                    case rel => exact ⟨q + 1, _, by omega, rfl, by go_num, fun h => ⟨(HN2.out rfl).1, (HN2.out rfl).2.snoc HZ.out (by simpa using h)⟩⟩
                    case measure => simp [intOf]; omega
                · obtain rfl : q = y.ins.length := by omega
                  go_wp2_with fail
                  go_round
                  case rel => exact ⟨j + 1, b2', by omega, rfl, by go_num, fun h => ⟨(HN2.out h).1.1, (HN2.out h).1.2.snoc HY.out (HN2.out h).2⟩⟩
                  case measure => simp [intOf]; omega
            · obtain rfl : j = x.blocks.length := by omega
              go_wp2_with fail
              go_round
              case rel => exact ⟨k + 1, b1, by omega, rfl, by go_num, fun h => (HN1.out h).1.snoc HX.out (HN1.out h).2⟩
              case measure => simp [intOf]; omega
        · obtain rfl : k = p.funcs.length := by omega
          have HNF := fhid (fun (h : b = false) => (show NoYF p.funcs from by have h2 := HN.out h; rw [List.take_length] at h2; exact h2))
          clear HN hlt hk HKF HPF
          cases b with
          | false =>
            obtain ⟨hch, hany⟩ := HNO.out (HNF.out rfl)
            have HL2 := fhid (show ∃ c, run p 200 (newS p more) = { S with ch := c } from ⟨more, by rw [HNP.out more]; exact hany more⟩)
            have hln : S.ch.length = ch.length := by rw [hch, HS0.out]
            have hlb : ((S.ch.length : Int) == (ch.length : Int)) = true := by rw [hln]; simp
            clear hch hany
            go_wp2_with fail
            refine (HFR.out W5 (Below.refl _ _) (.slice pm more.length cm) more (HAM.out.1.keepb HW5.out) HAM.out.2.1 (by have := HML.out; omega) HAM.out.2.2 HL2.out).mono ?_
            rintro e w6 ⟨po, no, co, ph, nh, ch', rfl, hu, hb6⟩
            have hal : Below w6.heap.size w6 (w6.alloc (.cells #[.slice po no co, .int .u8 S.kind, .int .u32 S.v, .slice ph nh ch'] 35)) := (Below.refl _ _).alloc (Nat.le_refl _) _
            have hb7 : Below W5.heap.size W5 (w6.alloc (.cells #[.slice po no co, .int .u8 S.kind, .int .u32 S.v, .slice ph nh ch'] 35)) := hb6.trans (hal.mono hb6.size)
            have HSM := fhid (HSAME.out _ hb7 _ _ _ _ _ _ (OutV.keep hu hal))
            have hq9 := HV5.out.below hb7
            have q7 := vrow_new w6 #[.slice po no co, .int .u8 S.kind, .int .u32 S.v, .slice ph nh ch'] 35
            have e0 := q7.cell (k := 0) rfl
            have e1 := q7.cell (k := 1) rfl
            have e2 := q7.cell (k := 2) rfl
            have e3 := q7.cell (k := 3) rfl
            have d0 := hq9.cell (k := 0) rfl
            have d1 := hq9.cell (k := 1) rfl
            have d2 := hq9.cell (k := 2) rfl
            have d3 := hq9.cell (k := 3) rfl
            have HLC := fhid (HLF.out _ hb7)
            clear hq9 q7 hu hb6 hal c0 c1 c2
            go_wp2_with fail
            generalize w6.alloc (.cells #[.slice po no co, .int .u8 S.kind, .int .u32 S.v, .slice ph nh ch'] 35) = W7 at *
            refine HLC.out.mono ?_
            rintro e w8 ⟨rfl, rfl⟩
            go_wp2_with fail
            refine HSM.out.mono ?_
            rintro e w9 ⟨rfl, hb9⟩
            go_wp2_with fail
            refine (HHEAD.out _ hb9).mono ?_
            rintro e w99 ⟨rfl, hb99⟩
            go_wp2_with fail
            go_ret
            exact ⟨rfl, hb99⟩
          | true =>
            go_wp2_with fail
            refine (HLF.out W5 (Below.refl _ _)).mono ?_
            rintro e w6 ⟨rfl, rfl⟩
            by_cases hL : S.ch.length = 0
            · have hl0 : ((S.ch.length : Int) == 0) = true := by rw [hL]; rfl
              go_wp2_with fail
              refine (HHEAD.out _ HW5.out).mono ?_
              rintro e w99 ⟨rfl, hb99⟩
              go_wp2_with fail
              go_ret
              exact ⟨rfl, hb99⟩
            have hl0 : ((S.ch.length : Int) == 0) = false := by simpa using hL
            go_wp2_with fail
            refine (HLF.out W5 (Below.refl _ _)).mono ?_
            rintro e w7 ⟨rfl, rfl⟩
            have hS := HS.out
            have hcl := HCL.out
            have hml := HML.out
            have e1 : IntKind.i64.wrap ((ch.length : Int) - (S.ch.length : Int)) = ((ch.length - S.ch.length : Nat) : Int) := by rw [IntWalk.i64_in _ (by omega)]; omega
            have HU := fhid (show ∃ c, run p 200 (newS p (ch.take (ch.length - S.ch.length) ++ more)) = { S with ch := c } from ⟨more, by
              have h := HMO.out (by omega)
              have h2 := HNP.out (ch.take (ch.length - S.ch.length) ++ more)
              have h3 : s0.ch = ch := HS0.out
              rw [h2, ← h, h3]⟩)
            have hu0 : ¬ ((ch.length - S.ch.length : Nat) : Int) < 0 := by omega
            have hu1 : decide (((ch.length - S.ch.length : Nat) : Int) < 0) = false := decide_eq_false hu0
            have hu2 : ¬ ((ch.length - S.ch.length : Nat) : Int) > (ch.length : Int) := by omega
            have hu3 : decide (((ch.length - S.ch.length : Nat) : Int) > (ch.length : Int)) = false := decide_eq_false hu2
            have hu4 : decide ((ch.length : Int) < ((ch.length - S.ch.length : Nat) : Int)) = false := decide_eq_false (by omega)
            obtain ⟨_, pc', cc', hce, hpc⟩ := HA.out.2.2.1
            cases hce
            obtain ⟨cb, co, rfl, hcells⟩ := hpc (by omega)
            have hcap : ch.length ≤ cc := HCP.out
            have hcc : ((ch.length - S.ch.length : Nat) : Int) ≤ (cc : Int) := by omega
            generalize hUd : ch.length - S.ch.length = U at *
            have hUl : U ≤ ch.length := by omega
            obtain ⟨i0, hi0, hz0, hz1, hz2⟩ := info_parts info_u32
            have HKS := fhid (fun (W : World) (hW : Below W5.heap.size W5 W) => (show W.cell? ⟨w.heap.size, 0, none⟩ = some (.int .i64 p.heap) ∧ W.cell? ⟨w.heap.size, 1, none⟩ = some (.slice pt p.threads.length ct) ∧ W.cell? ⟨w.heap.size, 2, none⟩ = some (.slice pf p.funcs.length cf) from ⟨(HP5.out.below hW).cell (k := 0) rfl, (HP5.out.below hW).cell (k := 1) rfl, (HP5.out.below hW).cell (k := 2) rfl⟩))
            have hlT : (ch.take U).length = U := by rw [List.length_take]; omega
            have HE1 := fhid (show (W5.alloc (.cells #[] 31)).ownsRow 0 31 1 (.slice (some ⟨W5.heap.size, 0, none⟩) 0 0) 0 [] from World.ownsRow_made W5 #[] 0 (Nat.zero_le _) (Nat.zero_le _) rfl)
            have he2 := World.ownsRow_made (base := 0) (e := 31) (size := 1) (W5.alloc (.cells #[.slice none 0 0, .int .u8 0, .int .u32 0, .slice none 0 0] 35)) #[] 0 (Nat.zero_le _) (Nat.zero_le _) rfl
            rw [World.size_alloc] at he2
            have HE2 := fhid he2
            clear he2
            have HB1 := fhid (Bx.one W5 35 [.slice none 0 0, .int .u8 0, .int .u32 0, .slice none 0 0] (.cells #[] 31))
            have HB2 := fhid (Bx.two W5 35 [.slice none 0 0, .int .u8 0, .int .u32 0, .slice none 0 0] (cs := #[.slice none 0 0, .int .u8 0, .int .u32 0, .slice none 0 0]) rfl (.cells #[] 31))
            have hb3 := (Bx.one W5 35 [.slice none 0 0, .int .u8 0, .int .u32 0, .slice none 0 0] (.cells #[] 31)).box (cs := #[.slice none 0 0, .int .u8 0, .int .u32 0, .slice none 0 0]) rfl
            rw [World.size_alloc] at hb3
            have HB3 := fhid hb3
            clear hb3
            have HN1 := fhid (fun (W : World) (hW : Below W5.heap.size W5 W) => (show ∀ ad, (some ⟨cb, co, none⟩ : Option Addr) = some ad → ∀ (j : Nat) u, (u32s (ch.take U))[j]? = some u → W.cell? (ad.add j) = some u from fun ad had j u hu => by
              cases had
              have hj : j < U := by
                have := (List.getElem?_eq_some_iff.1 hu).1
                simp only [u32s, List.length_map] at this
                omega
              rw [words_at (by rw [hlT]; exact hj)] at hu
              cases hu
              rw [show (⟨cb, co, none⟩ : Addr).add j = ⟨cb, co + j, none⟩ from by unfold Addr.add; split <;> simp [*]]
              have h1 := hcells j (by omega)
              have hxW := HW5.out.trans (hW.mono HW5.out.size)
              rw [List.getD_eq_getElem?_getD, List.getElem?_take_of_lt hj, ← List.getD_eq_getElem?_getD]
              exact (hxW.cell (World.block_lt_of_cell? _ _ h1)).trans h1))
            have HN2 := fhid (fun (W : World) (hW : Below W5.heap.size W5 W) => (show ∀ ad, pm = some ad → ∀ (j : Nat) u, (u32s more)[j]? = some u → W.cell? (ad.add j) = some u from fun ad had j u hu => by
              obtain ⟨_, pm', cm', em, hpm⟩ := HAM.out.1
              cases em
              have hj : j < more.length := by
                have := (List.getElem?_eq_some_iff.1 hu).1
                simpa [u32s] using this
              obtain ⟨mb, mo, em2, hmc⟩ := hpm (by omega)
              rw [em2] at had
              cases had
              rw [words_at hj] at hu
              cases hu
              rw [show (⟨mb, mo, none⟩ : Addr).add j = ⟨mb, mo + j, none⟩ from by unfold Addr.add; split <;> simp [*]]
              have h1 := hmc j hj
              have hxW := HW5.out.trans (hW.mono HW5.out.size)
              exact (hxW.cell (World.block_lt_of_cell? _ _ h1)).trans h1))
            have HNM := fhid (show pm = none → more.length = 0 ∧ cm = 0 from fun h => by
              obtain ⟨_, pm', cm', em, hpm⟩ := HAM.out.1
              cases em
              refine ⟨Nat.eq_zero_of_not_pos (fun h0 => by obtain ⟨_, _, e, _⟩ := hpm h0; rw [h] at e; cases e), HAM.out.2.2 cm more.length (by rw [h])⟩)
            have hl1 : (u32s (ch.take U)).length = U * 1 := by simp only [u32s, List.length_map, hlT]; omega
            have hl2 : (u32s more).length = more.length * 1 := by simp [u32s]
            have hk1 : 0 + U ≤ maxLen := by unfold maxLen; omega
            have hk2 : (0 + U) * 4 ≤ 140737488355328 := by omega
            have hk3 : U + more.length ≤ maxLen := by unfold maxLen; omega
            have hk4 : (U + more.length) * 4 ≤ 140737488355328 := by omega
            have hk5 : 0 + U = U := Nat.zero_add _
            have hle : W5.heap.size ≤ W5.heap.size := Nat.le_refl _
            have HWS := fhid (show Words (ch.take U ++ more) from fun x hx => by
              rcases List.mem_append.1 hx with h | h
              · exact HA.out.2.2.2.1 x (List.mem_of_mem_take h)
              · exact HAM.out.2.1 x h)
            have HRD := fhid (fun (W : World) (g cap : Nat) (h : W.ownsRow 0 31 1 (.slice (some ⟨g, 0, none⟩) (U + more.length) cap) (U + more.length) ([] ++ u32s (ch.take U) ++ u32s more)) => (show Reads32 W (.slice (some ⟨g, 0, none⟩) (U + more.length) cap) (ch.take U ++ more) from by
              have e1 : (ch.take U ++ more).length = U + more.length := by rw [List.length_append, hlT]
              refine Reads32.of_own (base := 0) ?_
              rw [e1]
              have e2 : u32s (ch.take U ++ more) = [] ++ u32s (ch.take U) ++ u32s more := by simp [u32s]
              rw [e2]; exact h))
            have HFC := fhid (fun (W : World) (hW : Below W5.heap.size W5 W) (g cap : Nat) (h : W.ownsRow 0 31 1 (.slice (some ⟨g, 0, none⟩) (U + more.length) cap) (U + more.length) ([] ++ u32s (ch.take U) ++ u32s more)) => (show Calls Try.prog 10 #[.agg #[.int .i64 p.heap, .slice pt p.threads.length ct, .slice pf p.funcs.length cf], .slice (some ⟨g, 0, none⟩) (U + more.length) cap, .int .i64 200] W (fun e w' => ∃ po no co ph nh ch', e = .returned (.tuple #[.agg #[.slice po no co, .int .u8 S.kind, .int .u32 S.v, .slice ph nh ch'], .int .i64 0]) ∧ (∀ W', Only (fun k => k < W.heap.size) w' W' → OutV W' (.agg #[.slice po no co, .int .u8 S.kind, .int .u32 S.v, .slice ph nh ch']) S.out S.kind S.v S.heap) ∧ Below W.heap.size W w') from by
              have hxW := HW5.out.trans (hW.mono HW5.out.size)
              have h9 := frun_any W p pt ct pf cf _ _ (IntsIn.keep HA.out.1 hxW) (FnsIn.keep HA.out.2.1 hxW) (HRD.out W g cap h) HWS.out (by rw [List.length_append, hlT]; omega) (fun c n e => by cases e) 200 (by omega)
              obtain ⟨c, hS⟩ := HU.out
              rw [HE.out, fin_yes HE.out, hS] at h9
              refine h9.mono ?_
              rintro e w' ⟨u, rfl, ho, hb'⟩
              obtain ⟨a1, a2, a3, a4, a5, a6, rfl, _, _⟩ := ho.here
              exact ⟨_, _, _, _, _, _, rfl, ho.1, hb'⟩))
            have bxz : ∀ {W : World} {g : Nat}, Bx W5 35 [.slice none 0 0, .int .u8 0, .int .u32 0, .slice none 0 0] W g none → Bx W5 35 [.slice none 0 0, .int .u8 0, .int .u32 0, .slice none 0 0] (W.alloc (.cells #[.slice none 0 0, .int .u8 0, .int .u32 0, .slice none 0 0] 35)) g (some W.heap.size) := fun h => h.box rfl
            clear hcells hpc
            go_wp2_with fail
            go_cut [17, 18] from 19 (fun a e w' => ∃ g po no co ph nh ch', a = .pointer (some ⟨g, 0, none⟩) ∧ e = .int .i64 0 ∧ VRow w' g 35 [.slice po no co, .int .u8 S.kind, .int .u32 S.v, .slice ph nh ch'] ∧ OutV w' (.agg #[.slice po no co, .int .u8 S.kind, .int .u32 S.v, .slice ph nh ch']) S.out S.kind S.v S.heap ∧ Below W5.heap.size W5 w')
            case first =>
              go_region_held3 (fun W => W.cell? ⟨w.heap.size, 0, none⟩ = some (.int .i64 p.heap) ∧ W.cell? ⟨w.heap.size, 1, none⟩ = some (.slice pt p.threads.length ct) ∧ W.cell? ⟨w.heap.size, 2, none⟩ = some (.slice pf p.funcs.length cf)) (first | (with_reducible exact HKS.out _ hxA.hb) | (with_reducible exact HKS.out _ hxB.hb) | (with_reducible exact HKS.out _ hx6.hb) | (with_reducible exact HKS.out _ (bxz hxA).hb) | (with_reducible exact HKS.out _ (bxz hxB).hb) | (with_reducible exact HKS.out _ (hx6.hb.alloc hle6 _)) | (with_reducible exact HKS.out _ (Bx.fill hx6.hb hq1 hq _ _ _ _).2.1) | (with_reducible exact HKS.out _ (Bx.fill (hx6.hb.alloc hle6 _) hle6 (vrow_new' w6 #[.slice none 0 0, .int .u8 0, .int .u32 0, .slice none 0 0] 35) _ _ _ _).2.1) | (refine HKS.out _ ?_; go_grown; done))
                (first
                  | (refine step_append_plus _ (by rfl) (.tmp 148) (.tmp 151) 26 (by rfl) 31 i0 _ 4 Try.underlying26 hi0 hz0 hz1 hz2 rfl _ 0 _ [] (by rfl) (by first | (with_reducible exact HE1.out) | (with_reducible exact HE1.out.drew) | (with_reducible exact HE2.out) | (with_reducible exact HE2.out.drew) | (with_reducible exact HE1.out.alloc _) | (with_reducible exact (HE1.out.alloc _).drew)) (some ⟨cb, co, none⟩) U cc (u32s (ch.take U)) (by rfl) hl1 (fun h => by cases h) (HN1.out _ (by go_grown)) (u32s_one _) hk1 hk2 U hk5 ?_; intro gA capA wA hownA hgA hpA; have hltA := (hownA.lt _ rfl).2; (first | (have hxA := (Bx.drew HB1.out).app hgA hpA hltA) | (have hxA := (Bx.drew HB2.out).app hgA hpA hltA) | (have hxA := (Bx.drew HB3.out).app hgA hpA hltA)); have hleA : W5.heap.size ≤ wA.heap.size := hxA.hb.size; clear hgA hpA)
                  | (refine step_append_plus _ (by rfl) (.tmp 152) (.tmp 153) 26 (by rfl) 31 i0 _ 4 Try.underlying26 hi0 hz0 hz1 hz2 rfl gA U capA _ (by rfl) (by first | (with_reducible exact hownA) | (with_reducible exact hownA.alloc _)) pm more.length cm (u32s more) (by rfl) hl2 HNM.out (HN2.out _ (by first | (with_reducible exact hxA.hb) | (with_reducible exact (bxz hxA).hb))) (u32s_one _) hk3 hk4 (U + more.length) rfl ?_; intro gB capB wB hownB hgB hpB; have hltB := (hownB.lt _ rfl).2; (first | (have hxB := hxA.app hgB hpB hltB) | (have hxB := (bxz hxA).app hgB hpB hltB)); have hleB : W5.heap.size ≤ wB.heap.size := hxB.hb.size; clear hgB hpB)
                  | (go_at_call 10; (first | ((with_reducible refine (HFC.out _ hxB.hb _ _ hownB).mono ?_); rintro e w6 ⟨po, no, co', ph, nh, ch', rfl, hu, hb6⟩; have hx6 := hxB.call hb6; have hyB := hxB.bx) | ((with_reducible refine (HFC.out _ (bxz hxB).hb _ _ (hownB.alloc _)).mono ?_); rintro e w6 ⟨po, no, co', ph, nh, ch', rfl, hu, hb6⟩; have hx6 := (bxz hxB).call hb6; have hyB := (bxz hxB).bx)); have hle6 : W5.heap.size ≤ w6.heap.size := hx6.hb.size; (try (obtain ⟨hq1, hq2, hq⟩ := hx6.bx _ rfl; have hqB := (hyB _ rfl).2.2.lt; have z0 := hq.cell (k := 0) rfl; have z1 := hq.cell (k := 1) rfl; have z2 := hq.cell (k := 2) rfl; have z3 := hq.cell (k := 3) rfl; have y0 := hq.frozen 0; have y1 := hq.frozen 1; have y2 := hq.frozen 2; have y3 := hq.frozen 3))))
              all_goals go_wp2_with fail
              all_goals go_meet
              all_goals
                first
                  | (have hf := Bx.fill hx6.hb hq1 hq (.slice po no co') (.int .u8 S.kind) (.int .u32 S.v) (.slice ph nh ch')
                     exact ⟨_, _, _, _, _, _, _, rfl, rfl, hf.1, hu _ (hf.2.2.mono (fun k _ e => by subst e; exact hqB)), hf.2.1⟩)
                  | exact ⟨_, _, _, _, _, _, _, rfl, rfl, vrow_new' w6 _ _, OutV.keep (hu w6 (Only.refl _ _)) ((Below.refl _ _).alloc (Nat.le_refl _) _), hx6.hb.alloc hle6 _⟩
            case rest =>
              obtain ⟨g9, po, no, co', ph, nh, ch', rfl, rfl, q7, hu, hb7⟩ := hcut
              have HSM := fhid (HSAME.out _ hb7 _ _ _ _ _ _ hu)
              have hq9 := HV5.out.below hb7
              have z0 := q7.cell (k := 0) rfl
              have z1 := q7.cell (k := 1) rfl
              have z2 := q7.cell (k := 2) rfl
              have z3 := q7.cell (k := 3) rfl
              have d0 := hq9.cell (k := 0) rfl
              have d1 := hq9.cell (k := 1) rfl
              have d2 := hq9.cell (k := 2) rfl
              have d3 := hq9.cell (k := 3) rfl
              clear hq9 q7 hu
              go_wp2_with fail
              refine HSM.out.mono ?_
              rintro e w9 ⟨rfl, hb9⟩
              go_wp2_with fail
              refine (HHEAD.out _ hb9).mono ?_
              rintro e w99 ⟨rfl, hb99⟩
              go_wp2_with fail
              go_ret
              exact ⟨rfl, hb99⟩
    · have h140 : (checkS p).2.2 = 140 := checkS_err he
      refine (new_bad w1 p pt ct pf cf (.slice pc ch.length cc) (IntsIn.keep HA.out.1 HBW.out) (FnsIn.keep HA.out.2.1 HBW.out) h140).mono ?_
      rintro e w2 ⟨rfl, hb2⟩
      have hb02 := HBW.out.trans (hb2.mono HBW.out.size)
      clear c0 c1 c2
      go_wp2_with fail
      refine (HHEAD.out _ hb02).mono ?_
      rintro e w9 ⟨rfl, hb9⟩
      go_wp2_with fail
      go_ret
      exact ⟨rfl, hb9⟩
end Go.Proofs.Ytdefooailcbnlaa
