/- The walk of muntinlaw16.FlatMore. -/
import Derived.Test.YtdefooailcbnlaaG49
import Derived.Test.YtdefooailcbnlaaG31
import Derived.Test.YtdefooailcbnlaaG47
import Derived.Test.YtdefooailcbnlaaG28
namespace Go.Proofs.Ytdefooailcbnlaa
open Go.RowKit Go.Deep
set_option linter.unusedVariables false
set_option linter.unusedSimpArgs false
theorem FBoxW.set2 {w : World} {g : Nat} {nm : ByteArray} {a r : Int} {bv : Value} (h : FBoxW w g nm a r bv) (u : Int) : FBoxW (w.setCell ⟨g, 2, none⟩ (.int .i64 u)) g nm a u bv := by
  obtain ⟨⟨lt, c0, c1, c2, c3⟩, f⟩ := h
  exact ⟨⟨by simpa [World.setCell] using lt, (World.cell?_setCell_other _ _ _ _ (by simp)).trans c0, (World.cell?_setCell_other _ _ _ _ (by simp)).trans c1, World.cell?_setCell_same _ _ _ c2, (World.cell?_setCell_other _ _ _ _ (by simp)).trans c3⟩, fun i => by simpa using f i⟩
set_option maxRecDepth 100000 in
set_option maxHeartbeats 16000000 in
theorem walk_FlatMore (p : Prg) (hh : I64 p.heap) (htf : ∀ x ∈ p.funcs, ∀ b ∈ x.blocks, b.ins.length * 88 ≤ 140737488351232) (v cv : Value) (ch : List Int) (a b c : Int) (ha : 0 ≤ a ∧ a < 65536) (hb : 0 ≤ b ∧ b < 65536) (hc : 0 ≤ c ∧ c < 65536) (w : World) (hv : PrgV w v p) (hcv : WordsIn w cv ch) :
    Calls Try.prog 3 #[v, cv, .agg #[.int .u16 a, .int .u16 b, .int .u16 c]] w fun e w' => e = .returned (.bool true) ∧ Below w.heap.size w w' := by
  obtain ⟨pt, ct, pf, cf, rfl, hT, hF⟩ := hv
  obtain ⟨hrd, hcw, hnl⟩ := hcv.reads
  obtain ⟨pc, cc, hce⟩ := hcv.shape
  subst hce
  obtain ⟨an, rfl⟩ := Int.eq_ofNat_of_zero_le ha.1
  obtain ⟨bn, rfl⟩ := Int.eq_ofNat_of_zero_le hb.1
  obtain ⟨cn, rfl⟩ := Int.eq_ofNat_of_zero_le hc.1
  have ha1 : an < 65536 := by omega
  have hb1 : bn < 65536 := by omega
  have hc1 : cn < 65536 := by omega
  have HTF := shid htf
  have HCH0 := shid (And.intro hrd (And.intro hcw hnl))
  have hfl := hF.1
  have HTN0 := shid hT
  have HFN0 := shid hF
  have HPB := shid ((PBox.new w p.heap (.slice pt p.threads.length ct) (.slice pf p.funcs.length cf) 25).keep (al1 _ (.cells #[.int .u16 an, .int .u16 bn, .int .u16 cn] 28)))
  have hat := vrow_new (w.alloc (.cells #[.int .i64 p.heap, .slice pt p.threads.length ct, .slice pf p.funcs.length cf] 25)) #[.int .u16 an, .int .u16 bn, .int .u16 cn] 28
  rw [World.size_alloc] at hat
  have HAT := shid hat
  have HW0 := shid (al2 w (.cells #[.int .i64 p.heap, .slice pt p.threads.length ct, .slice pf p.funcs.length cf] 25) (.cells #[.int .u16 an, .int .u16 bn, .int .u16 cn] 28))
  clear hT hF htf hat hrd hcw hnl hcv ha hb hc hh
  obtain ⟨_, k0, k1, k2⟩ := HPB.out
  go_enter Try.func3, Try.ntmps3
  go_wp2_with fail
  generalize (w.alloc (.cells #[.int .i64 p.heap, .slice pt p.threads.length ct, .slice pf p.funcs.length cf] 25)).alloc (.cells #[.int .u16 an, .int .u16 bn, .int .u16 cn] 28) = W0 at *
  clear k0 k1 k2
  refine (great16_any p pt ct pf cf W0 (FnsIn.keep HFN0.out HW0.out)).mono ?_
  rintro e W1 ⟨gb, rfl, h60, hb1'⟩
  have HW1 := shid (sbt HW0.out hb1')
  have HP1 := shid (HPB.out.keep hb1')
  have HA1 := shid (HAT.out.below hb1')
  have H60 := shid h60
  clear hb1' h60 HPB HAT HW0
  obtain ⟨_, k0, k1, k2⟩ := HP1.out
  by_cases hgo : gb = false ∧ ch.length ≤ 200 ∧ 0 < p.funcs.length
  case neg =>
    cases gb with
    | true =>
      go_wp2_with fail
      refine (head16_any _).mono ?_
      rintro e W9 ⟨rfl, hb9⟩
      go_wp2_with fail
      go_ret
      exact ⟨rfl, sbt HW1.out hb9⟩
    | false =>
      by_cases z1 : 200 < ch.length
      · have hg1 : decide ((ch.length : Int) > 200) = true := decide_eq_true (by omega)
        have hg2 : (ch.length : Int) > 200 := by omega
        clear z1 hgo
        go_wp2_with fail
        refine (head16_any _).mono ?_
        rintro e W9 ⟨rfl, hb9⟩
        go_wp2_with fail
        go_ret
        exact ⟨rfl, sbt HW1.out hb9⟩
      · have hg1 : decide ((ch.length : Int) > 200) = false := decide_eq_false (by omega)
        have hg2 : ¬ (ch.length : Int) > 200 := by omega
        have hz : p.funcs.length = 0 := by
          rcases Nat.eq_zero_or_pos p.funcs.length with h | h
          · exact h
          · exact absurd ⟨rfl, by omega, h⟩ hgo
        have hg3 : ((p.funcs.length : Int) == 0) = true := by rw [hz]; rfl
        clear z1 hgo hz
        go_wp2_with fail
        refine (head16_any _).mono ?_
        rintro e W9 ⟨rfl, hb9⟩
        go_wp2_with fail
        go_ret
        exact ⟨rfl, sbt HW1.out hb9⟩
  obtain ⟨rfl, hcl, hnf⟩ := hgo
  have hg1 : decide ((ch.length : Int) > 200) = false := decide_eq_false (by omega)
  have hg2 : ¬ (ch.length : Int) > 200 := by omega
  have hg3 : ((p.funcs.length : Int) == 0) = false := by rw [beq_eq_false_iff_ne]; omega
  have HCL := shid hcl
  clear hcl
  go_wp2_with fail
  clear k0 k1 k2 hg1 hg2 hg3
  have hrun := frun_any W1 p pt ct pf cf (.slice pc ch.length cc) ch (IntsIn.keep HTN0.out HW1.out) (FnsIn.keep HFN0.out HW1.out) (HCH0.out.1.keepb HW1.out) HCH0.out.2.1 (by have := HCL.out; omega) HCH0.out.2.2 200 (by omega)
  rcases Classical.em ((checkS p).2.2 = 0) with he | he
  case inr =>
    rw [checkS_err he, fin_no he] at hrun
    refine hrun.mono ?_
    rintro e W2 ⟨v2, rfl, hov, hb2⟩
    obtain ⟨p1, n1, q1, p2, n2, q2, rfl, _, _⟩ := hov.here
    have HX3 := shid (sbt (sbt HW1.out hb2) (al1 W2 (.cells #[.slice p1 n1 q1, .int .u8 0, .int .u32 0, .slice p2 n2 q2] 35)))
    clear hov hb2
    go_wp2_with fail
    refine (head16_any _).mono ?_
    rintro e W99 ⟨rfl, hb99⟩
    go_wp2_with fail
    go_ret
    exact ⟨by first | rfl | simp, sbt HX3.out hb99⟩
  rw [he, fin_yes he] at hrun
  have HE := shid he
  refine hrun.mono ?_
  rintro e W2 ⟨v2, rfl, hov, hb2⟩
  have hov2 := hov.here
  obtain ⟨p1, n1, q1, p2, n2, q2, rfl, _, _⟩ := hov.here
  have HMR := shid (fun (n k : Nat) (x : Fnx) (b : Blk) (c : Int) (hx : p.funcs[n]? = some x) (hb : x.blocks[k]? = some b) (hk : (run p 200 (newS p ch)).kind ≠ 0) => more_run (c := c) (prgOk_of HFN0.out HE.out).good (prgOk_of HFN0.out HE.out).words hx hb HCH0.out.2.1 200 hk 401 (by omega))
  have HCO := shid (fun (n k : Nat) (x : Fnx) (b : Blk) (c : Int) (hx : p.funcs[n]? = some x) (hb : x.blocks[k]? = some b) => (show checkS (moreP p n k x b c) = (0, 0, 0) from more_ok (c := c) HE.out hx hb rfl (H60.out (by first | rfl | trivial) x (List.mem_of_getElem? hx))))
  have hnf64 : p.funcs.length ≤ 64 := (good_of he).nf.2
  have hcm := checkS_may he
  generalize run p 200 (newS p ch) = S at *
  have HA2 := shid (al1 W2 (.cells #[.slice p1 n1 q1, .int .u8 S.kind, .int .u32 S.v, .slice p2 n2 q2] 35))
  have HX3 := shid (sbt (sbt HW1.out hb2) HA2.out)
  have HP3 := shid ((HP1.out.keep hb2).keep HA2.out)
  have HA3 := shid ((HA1.out.below hb2).below HA2.out)
  have HO3 := shid (OutV.keep hov2 HA2.out)
  have HV3 := shid (vrow_new W2 #[.slice p1 n1 q1, .int .u8 S.kind, .int .u32 S.v, .slice p2 n2 q2] 35)
  clear hb2 hov hov2 HP1 HA1 he hrun
  obtain ⟨_, k0, k1, k2⟩ := HP3.out
  have o1 := HV3.out.cell (k := 1) rfl
  by_cases hkd : S.kind = 0
  case pos =>
    have q3 : (S.kind == 0) = true := by simpa using hkd
    clear hkd
    go_wp2_with fail
    refine (head16_any _).mono ?_
    rintro e W99 ⟨rfl, hb99⟩
    go_wp2_with fail
    go_ret
    exact ⟨by first | rfl | simp, sbt HX3.out hb99⟩
  have q3 : (S.kind == 0) = false := by simpa using hkd
  have HKD := shid hkd
  clear hkd
  have t0 := HA3.out.cell (k := 0) rfl
  have t1 := HA3.out.cell (k := 1) rfl
  have hnf1 : (p.funcs.length : Int) ≠ 0 := by omega
  have hnf2 : ((p.funcs.length : Int) == 0) = false := by rw [beq_eq_false_iff_ne]; omega
  have hnf3 : IntKind.i64.wrap (an : Int) = an := IntWalk.i64_in _ (by omega)
  go_upto_region 7 with (fail)
  clear HA2 o1 q3 hnf1 hnf2 k0 k1 k2 t0 t1 hnf3
  generalize W2.alloc (.cells #[.slice p1 n1 q1, .int .u8 S.kind, .int .u32 S.v, .slice p2 n2 q2] 35) = W3 at *
  generalize W2.heap.size = gO at *
  have hmf : an % p.funcs.length < p.funcs.length := Nat.mod_lt _ hnf
  have hme : (an : Int) % (p.funcs.length : Int) = ((an % p.funcs.length : Nat) : Int) := by omega
  rw [hme]
  clear hme
  generalize an % p.funcs.length = m at *
  have HTN := shid (IntsIn.keep HTN0.out HX3.out)
  have HFN := shid (FnsIn.keep HFN0.out HX3.out)
  have HCH := shid (HCH0.out.1.keepb HX3.out)
  obtain ⟨_, _, fb, fo, hfe, _, HFS⟩ := HFN.out.hids
  cases hfe
  have HPF := shid HFS.out.1
  have HKF := shid HFS.out.2
  clear HFS
  obtain rfl := HPF.out (by omega)
  have HX := shid (List.getElem?_eq_getElem hmf)
  generalize p.funcs[m] = x at HX
  obtain ⟨c0, c1, c2, ⟨bv, c3, hbv⟩, hnm, hia, hir⟩ := HKF.out m x HX.out
  obtain ⟨pb, cb, rfl⟩ := hbv.shape
  have hbl := hbv.1
  have HBV := shid hbv
  obtain ⟨A, R, hA, hR, hAR, hR4, hbk⟩ := blksOk_of hcm.2.1 hcm.2.2.1 HX.out
  have hbs := hbk.some
  have HBI := shid (hcm.2.2.1 m x HX.out)
  have HR60 := shid (show R ≤ 60 by have := H60.out (by first | rfl | trivial) x (List.mem_of_getElem? HX.out); omega)
  clear hcm hbk hbv hnm H60
  generalize hrr : x.regs = xr at *
  generalize haa : x.args = xa at *
  have HRA := shid (And.intro hrr haa)
  clear hrr haa
  subst hA hR
  have HFX := shid (FBoxW.new W3 x.name A R (.slice pb x.blocks.length cb) 41)
  have HAF := shid (al1 W3 (.cells #[.string x.name, .int .i64 A, .int .i64 R, .slice pb x.blocks.length cb] 41))
  have HW4 := shid HAF.out
  obtain ⟨_, k0, k1, k2⟩ := HP3.out
  have hmI0 : (m : Int) < p.funcs.length := by omega
  have hnb : (x.blocks.length : Int) ≠ 0 := by omega
  have hnb2 : ((x.blocks.length : Int) == 0) = false := by rw [beq_eq_false_iff_ne]; omega
  have HA4 := shid (HA3.out.below HAF.out)
  have HP4 := shid (HP3.out.keep HAF.out)
  have t1 := HA4.out.cell (k := 1) rfl
  have hwG2 := HA3.out.lt
  have hwP := HP3.out.lt
  go_upto_region 9 with (fail)
  clear c0 c1 c2 c3 k0 k1 k2 t1 HA3 HP3 HAF
  generalize W3.alloc (.cells #[.string x.name, .int .i64 A, .int .i64 R, .slice pb x.blocks.length cb] 41) = W4 at *
  have hkl : bn % x.blocks.length < x.blocks.length := Nat.mod_lt _ hbs
  have hke : (bn : Int) % (x.blocks.length : Int) = ((bn % x.blocks.length : Nat) : Int) := by omega
  rw [hke]
  clear hke
  generalize bn % x.blocks.length = k at *
  obtain ⟨_, _, bb, bo, hbe, _, HBS⟩ := HBV.out.hids
  cases hbe
  obtain rfl := HBS.out.1 hbs
  obtain ⟨i1, z1, hi, hz, hsz, hby, hzc⟩ := info3_parts infoblk3
  have HNB := shid (rowCells_news flat_blk HBS.out.2)
  have HRL := shid (rowCells_length W3 bb bo (x.blocks.length * 2))
  have HNC := shid (fun (j : Nat) (hj : j < x.blocks.length * 2) => rowCells_get (w := W3) (b := bb) (o := bo) hj)
  generalize rowCells W3 bb bo (x.blocks.length * 2) = news at *
  obtain ⟨_, f0, f1, f2, f3⟩ := HFX.out.b
  have ff := HFX.out.f 3
  have h63 : x.blocks.length ≤ maxLen := by unfold maxLen; omega
  go_upto_region 10 with (at_builtin; refine wpList_append_own _ rfl _ _ 39 rfl W4.heap.size 46 i1 z1 2 40 Try.underlying39 hi hz hsz hby hzc (by decide) (.slice (some ⟨W4.heap.size, 0, none⟩) 0 0) _ _ rfl (World.ownsRow_made W4 #[] 0 (Nat.le_refl _) (Nat.zero_le _) (by simp)) ⟨bb, bo, none⟩ x.blocks.length cb news rfl HRL.out (fun j u hj => by
    have h1 := HNB.out.1 j u hj
    rw [show (⟨bb, bo, none⟩ : Addr).add j = ⟨bb, bo + j, none⟩ from by unfold Addr.add; split <;> simp [*]]
    exact ((sbt HW4.out (al1 _ _)).cell (World.block_lt_of_cell? _ _ h1)).trans h1) HNB.out.2 (by omega) (by omega) (by simp) ?_; intro v5 w5 hown hgrow hnil; rw [Nat.zero_add, List.nil_append] at hown; have hb5 : Below W4.heap.size W4 w5 := ((Below.refl _ W4).alloc (Nat.le_refl _) _).grown hgrow (by simp) (by intro k hk; simp [Value.ownBlock] at hk; omega); obtain ⟨gB, cB, rfl, hgB, hgB2, hvB⟩ := VRow.of_own' hown (fun h => by have := (hnil.1 h).1; cases this); have HFX5 := shid (HFX.out.keep hb5); obtain ⟨_, g0, g1, g2, g3⟩ := HFX5.out.b; have gg := HFX5.out.f 3; clear hown hgrow hnil)
  have HVB := shid hvB
  have hG1 : W3.heap.size < W4.heap.size := HFX.out.b.lt
  have HFX6 := shid (HFX5.out.set3 (.slice (some ⟨gB, 0, none⟩) x.blocks.length cB))
  have HVB6 := shid (show VRow (w5.setCell ⟨W3.heap.size, 3, none⟩ (.slice (some ⟨gB, 0, none⟩) x.blocks.length cB)) gB 46 news from HVB.out.other (by show gB ≠ W3.heap.size; omega) _)
  have HW6 := shid (show Below W3.heap.size W3 (w5.setCell ⟨W3.heap.size, 3, none⟩ (.slice (some ⟨gB, 0, none⟩) x.blocks.length cB)) from (sbt HW4.out hb5).setCell (by show W3.heap.size ≤ W3.heap.size; omega) _)
  have HP6 := shid (show PBox (w5.setCell ⟨W3.heap.size, 3, none⟩ (.slice (some ⟨gB, 0, none⟩) x.blocks.length cB)) w.heap.size _ _ _ from (HP4.out.keep hb5).far (by show W3.heap.size ≠ w.heap.size; omega) _)
  have HA6 := shid (show VRow (w5.setCell ⟨W3.heap.size, 3, none⟩ (.slice (some ⟨gB, 0, none⟩) x.blocks.length cB)) (w.heap.size + 1) 28 _ from (HA4.out.below hb5).other (by show w.heap.size + 1 ≠ W3.heap.size; omega) _)
  have hW6 : W4.heap.size ≤ (w5.setCell ⟨W3.heap.size, 3, none⟩ (.slice (some ⟨gB, 0, none⟩) x.blocks.length cB)).heap.size := by have := hb5.size; simpa [World.setCell] using this
  clear g0 g1 g2 g3 gg f0 f1 f2 f3 ff
  generalize w5.setCell ⟨W3.heap.size, 3, none⟩ (.slice (some ⟨gB, 0, none⟩) x.blocks.length cB) = W6 at *
  have HY := shid (List.getElem?_eq_getElem hkl)
  generalize x.blocks[k] = y at HY
  obtain ⟨e0, ⟨iv, e1, hiv⟩, hnm⟩ := HBS.out.2 k y HY.out
  have hil := hiv.1
  have HIV := shid hiv
  have HE := shid (And.intro e0 e1)
  obtain ⟨_, ci_, ib, io, rfl, _, HIS⟩ := hiv.hids
  have hyl : 0 < y.ins.length := (block_ins HY.out (HBI.out k y HY.out)).1
  obtain rfl := HIS.out.1 hyl
  have HCK := shid (show news[k * 2 + 1]? = some (.slice (some ⟨ib, io, none⟩) y.ins.length ci_) by
    rw [HNC.out (k * 2 + 1) (by omega)]
    have h : W3.cell? ⟨bb, bo + (k * 2 + 1), none⟩ = some (.slice (some ⟨ib, io, none⟩) y.ins.length ci_) := by rw [← Nat.add_assoc]; exact HE.out.2
    rw [h]; rfl)
  obtain ⟨i2, z2, hi2, hz2, hsz2, hby2, hzc2⟩ := info3_parts infoins3
  have HNI := shid (rowCells_news flat_ins HIS.out.2)
  have HIL := shid (rowCells_length W3 ib io (y.ins.length * 9))
  have HIC := shid (fun (j : Nat) (hj : j < y.ins.length * 9) => rowCells_get (w := W3) (b := ib) (o := io) hj)
  generalize rowCells W3 ib io (y.ins.length * 9) = inews at *
  have hgB6 := HVB6.out.lt
  have hm1 : IntKind.u32.wrap (cn : Int) = cn := IntWalk.u32_in _ (by omega)
  have hkI : (k : Int) < x.blocks.length := by omega
  obtain ⟨_, f0, f1, f2, f3⟩ := HFX6.out.b
  have t2 := HA6.out.cell (k := 2) rfl
  have b1 := HVB6.out.cell HCK.out
  have bf := HVB6.out.frozen (k * 2 + 1)
  have HOW := shid (own_new W6 W6.heap.size #[.int .u8 0, .int .i64 (R : Int), .int .i64 0, .int .i64 0, .int .u32 (cn : Int), .int .i64 0, .slice none 0 0, .int .i64 0, .int .i64 0] 44 1 9 rfl (by simp [maxLen]) (Nat.le_refl _))
  have HCI := shid (fun (j : Nat) u (hu : inews[j]? = some u) => show (W6.alloc (.cells #[.int .u8 0, .int .i64 (R : Int), .int .i64 0, .int .i64 0, .int .u32 (cn : Int), .int .i64 0, .slice none 0 0, .int .i64 0, .int .i64 0] 44)).cell? ((⟨ib, io, none⟩ : Addr).add j) = some u from by
    have h1 := HNI.out.1 j u hu
    rw [show (⟨ib, io, none⟩ : Addr).add j = ⟨ib, io + j, none⟩ from by unfold Addr.add; split <;> simp [*]]
    exact ((sbt HW6.out (al1 _ _)).cell (World.block_lt_of_cell? _ _ h1)).trans h1)
  have h64 : 1 + y.ins.length ≤ maxLen := by unfold maxLen; omega
  clear e0 e1 hiv hnm
  go_wp2_with fail
  go_cut [] from 15 (fun w' => ∃ gI cI, W6.heap.size ≤ gI ∧ VRow w' gI 44 ([.int .u8 0, .int .i64 (R : Int), .int .i64 0, .int .i64 0, .int .u32 (cn : Int), .int .i64 0, .slice none 0 0, .int .i64 0, .int .i64 0] ++ inews) ∧ VRow w' gB 46 (news.set (k * 2 + 1) (.slice (some ⟨gI, 0, none⟩) (1 + y.ins.length) cI)) ∧ FBoxW w' (W3.heap.size) x.name A R (.slice (some ⟨gB, 0, none⟩) x.blocks.length cB) ∧ PBox w' w.heap.size p.heap (.slice pt p.threads.length ct) (.slice (some ⟨fb, fo, none⟩) p.funcs.length cf) ∧ Below W3.heap.size W3 w')
  case first =>
    have HNE := shid (show gB ≠ W3.heap.size ∧ gB ≠ w.heap.size + 1 from ⟨by omega, by omega⟩)
    have HNE2 := shid (show gB ≠ w.heap.size from by omega)
    have HNE3 := shid (show W3.heap.size ≤ gB from by omega)
    have HKS : Hid (∀ w', Below W6.heap.size W6 w' → w'.cell? ⟨W3.heap.size, 2, none⟩ = some (.int .i64 R) ∧ w'.cell? ⟨W3.heap.size, 3, none⟩ = some (.slice (some ⟨gB, 0, none⟩) x.blocks.length cB) ∧ w'.cell? ⟨w.heap.size + 1, 2, none⟩ = some (.int .u16 cn)) := shid fun w' hb => by
      obtain ⟨_, h0, h1, h2, h3⟩ := (HFX6.out.keep hb).b
      have a2 := (HA6.out.below hb).cell (k := 2) rfl
      exact ⟨h2, h3, a2⟩
    have hbd : Below W6.heap.size W6 W6.drew := (Below.refl _ _).drew
    have hba : Below W6.heap.size W6 (W6.alloc (.cells #[.int .u8 0, .int .i64 (R : Int), .int .i64 0, .int .i64 0, .int .u32 (cn : Int), .int .i64 0, .slice none 0 0, .int .i64 0, .int .i64 0] 44)).drew := ((Below.refl _ _).alloc (Nat.le_refl _) _).drew
    refine wp_region_held_drew (S := fun w' => w'.cell? ⟨W3.heap.size, 2, none⟩ = some (.int .i64 R) ∧ w'.cell? ⟨W3.heap.size, 3, none⟩ = some (.slice (some ⟨gB, 0, none⟩) x.blocks.length cB) ∧ w'.cell? ⟨w.heap.size + 1, 2, none⟩ = some (.int .u16 cn)) (by kernel_rfl) (HKS.out _ hbd) (fun hHeld => ?_)
    refine wpAnyH_take (i := 0) (v := ?vz0) rfl (by kernel_rfl) (by kernel_rfl) (by kernel_rfl) (fun _ _ _ h => h) (Or.inl ⟨by rfl, ?yz0⟩) (by assumption) ?rz0
    case yz0 => (intro w hSw; (try dsimp only at hSw); go_simp; try with_reducible rfl)
    try simp only [Act.put, List.getElem_toArray, List.getElem_cons_zero, List.getElem_cons_succ, List.setIfInBounds_toArray, List.set_cons_zero, List.set_cons_succ]
    refine wpAnyH_take (i := 1) (v := ?vz1) rfl (by kernel_rfl) (by kernel_rfl) (by kernel_rfl) (fun _ _ _ h => h) (Or.inl ⟨by rfl, ?yz1⟩) (by assumption) ?rz1
    case yz1 => (intro w hSw; (try dsimp only at hSw); go_simp; try with_reducible rfl)
    try simp only [Act.put, List.getElem_toArray, List.getElem_cons_zero, List.getElem_cons_succ, List.setIfInBounds_toArray, List.set_cons_zero, List.set_cons_succ]
    refine wpAnyH_take (i := 2) (v := ?vz2) rfl (by kernel_rfl) (by kernel_rfl) (by kernel_rfl) (fun _ _ _ h => h) (Or.inl ⟨by rfl, ?yz2⟩) (by assumption) ?rz2
    case yz2 => (intro w hSw; (try dsimp only at hSw); go_simp; try with_reducible rfl)
    try simp only [Act.put, List.getElem_toArray, List.getElem_cons_zero, List.getElem_cons_succ, List.setIfInBounds_toArray, List.set_cons_zero, List.set_cons_succ]
    refine wpAnyH_take (i := 3) (v := ?vz3) rfl (by kernel_rfl) (by kernel_rfl) (by kernel_rfl) (fun _ _ _ h => h) (Or.inl ⟨by rfl, ?yz3⟩) (by assumption) ?rz3
    case yz3 => (intro w hSw; (try dsimp only at hSw); go_simp; try with_reducible rfl)
    try simp only [Act.put, List.getElem_toArray, List.getElem_cons_zero, List.getElem_cons_succ, List.setIfInBounds_toArray, List.set_cons_zero, List.set_cons_succ]
    refine wpAnyH_take (i := 4) (v := ?vz4) rfl (by kernel_rfl) (by kernel_rfl) (by kernel_rfl) (fun _ _ _ h => h) (Or.inl ⟨by rfl, ?yz4⟩) (by assumption) ?rz4
    case yz4 => (intro w hSw; (try dsimp only at hSw); go_simp; try with_reducible rfl)
    try simp only [Act.put, List.getElem_toArray, List.getElem_cons_zero, List.getElem_cons_succ, List.setIfInBounds_toArray, List.set_cons_zero, List.set_cons_succ]
    refine wpAnyH_take (i := 5) (v := ?vz5) rfl (by kernel_rfl) (by kernel_rfl) (by kernel_rfl) (fun _ _ _ h => h) (Or.inl ⟨by rfl, ?yz5⟩) (by assumption) ?rz5
    case yz5 => (intro w hSw; (try dsimp only at hSw); go_simp; try with_reducible rfl)
    try simp only [Act.put, List.getElem_toArray, List.getElem_cons_zero, List.getElem_cons_succ, List.setIfInBounds_toArray, List.set_cons_zero, List.set_cons_succ]
    refine wpAnyH_take (i := 6) (v := ?vz6) rfl (by kernel_rfl) (by kernel_rfl) (by kernel_rfl) (fun _ _ _ h => h) (Or.inl ⟨by rfl, ?yz6⟩) (by assumption) ?rz6
    case yz6 => (intro w hSw; (try dsimp only at hSw); go_simp; try with_reducible rfl)
    try simp only [Act.put, List.getElem_toArray, List.getElem_cons_zero, List.getElem_cons_succ, List.setIfInBounds_toArray, List.set_cons_zero, List.set_cons_succ]
    refine wpAnyH_take (i := 7) (v := ?vz7) rfl (by kernel_rfl) (by kernel_rfl) (by kernel_rfl) (fun _ _ _ h => h) (Or.inl ⟨by rfl, ?yz7⟩) (by assumption) ?rz7
    case yz7 => (intro w hSw; (try dsimp only at hSw); go_simp; try with_reducible rfl)
    try simp only [Act.put, List.getElem_toArray, List.getElem_cons_zero, List.getElem_cons_succ, List.setIfInBounds_toArray, List.set_cons_zero, List.set_cons_succ]
    refine wpAnyH_take (i := 8) (v := ?vz8) rfl (by kernel_rfl) (by kernel_rfl) (by kernel_rfl) (fun _ _ _ h => h) (Or.inl ⟨by rfl, ?yz8⟩) (by assumption) ?rz8
    case yz8 => (intro w hSw; (try dsimp only at hSw); go_simp; try with_reducible rfl)
    try simp only [Act.put, List.getElem_toArray, List.getElem_cons_zero, List.getElem_cons_succ, List.setIfInBounds_toArray, List.set_cons_zero, List.set_cons_succ]
    refine wpAnyH_take (i := 10) (v := ?vz10) rfl (by kernel_rfl) (by kernel_rfl) (by kernel_rfl) (fun _ _ _ h => h) (Or.inl ⟨by rfl, ?yz10⟩) (by assumption) ?rz10
    case yz10 => (intro w hSw; (try dsimp only at hSw); go_simp; try with_reducible rfl)
    try simp only [Act.put, List.getElem_toArray, List.getElem_cons_zero, List.getElem_cons_succ, List.setIfInBounds_toArray, List.set_cons_zero, List.set_cons_succ]
    refine wpAnyH_take (i := 11) (v := ?vz11) rfl (by kernel_rfl) (by kernel_rfl) (by kernel_rfl) (fun _ _ _ h => h) (Or.inl ⟨by rfl, ?yz11⟩) (by assumption) ?rz11
    case yz11 => (intro w hSw; (try dsimp only at hSw); go_simp; try with_reducible rfl)
    try simp only [Act.put, List.getElem_toArray, List.getElem_cons_zero, List.getElem_cons_succ, List.setIfInBounds_toArray, List.set_cons_zero, List.set_cons_succ]
    refine wpAnyH_take (i := 12) (v := ?vz12) rfl (by kernel_rfl) (by kernel_rfl) (by kernel_rfl) (fun _ _ _ h => h) (Or.inl ⟨by rfl, ?yz12⟩) (by assumption) ?rz12
    case yz12 => (intro w hSw; (try dsimp only at hSw); go_simp; try with_reducible rfl)
    try simp only [Act.put, List.getElem_toArray, List.getElem_cons_zero, List.getElem_cons_succ, List.setIfInBounds_toArray, List.set_cons_zero, List.set_cons_succ]
    refine wpAnyH_take (i := 13) (v := ?vz13) rfl (by kernel_rfl) (by kernel_rfl) (by kernel_rfl) (fun _ _ _ h => h) (Or.inl ⟨by rfl, ?yz13⟩) (by assumption) ?rz13
    case yz13 => (intro w hSw; (try dsimp only at hSw); go_simp; try with_reducible rfl)
    try simp only [Act.put, List.getElem_toArray, List.getElem_cons_zero, List.getElem_cons_succ, List.setIfInBounds_toArray, List.set_cons_zero, List.set_cons_succ]
    refine wpAnyH_take (i := 14) (v := ?vz14) rfl (by kernel_rfl) (by kernel_rfl) (by kernel_rfl) (fun _ _ _ h => h) (Or.inl ⟨by rfl, ?yz14⟩) (by assumption) ?rz14
    case yz14 => (intro w hSw; (try dsimp only at hSw); go_simp; try with_reducible rfl)
    try simp only [Act.put, List.getElem_toArray, List.getElem_cons_zero, List.getElem_cons_succ, List.setIfInBounds_toArray, List.set_cons_zero, List.set_cons_succ]
    refine wpAnyH_ready (rs := [9, 15]) (by kernel_rfl) (by simp) ?_
    refine AllReadyH.cons rfl (fun K hK => ?_) (AllReadyH.cons rfl (fun K hK => ?_) AllReadyH.nil)
    · go_simp
      refine hK.out _ _ (HKS.out _ hba) (fun hHelda2 => ?_)
      clear hK K
      try simp only [Act.put, List.getElem_toArray, List.getElem_cons_zero, List.getElem_cons_succ, List.setIfInBounds_toArray, List.set_cons_zero, List.set_cons_succ]
      refine wpAnyH_ready (rs := [15]) (by kernel_rfl) (by simp) ?_
      refine AllReadyH.cons rfl (fun K hK => ?_) AllReadyH.nil
      have c7 := (HVB6.out.below hba).cell HCK.out
      go_simp
      refine hK.out _ _ (HKS.out _ hba) (fun hHelda3 => ?_)
      clear hK K c7
      try simp only [Act.put, List.getElem_toArray, List.getElem_cons_zero, List.getElem_cons_succ, List.setIfInBounds_toArray, List.set_cons_zero, List.set_cons_succ]
      refine wpAnyH_ready (rs := [16]) (by kernel_rfl) (by simp) ?_
      refine AllReadyH.cons rfl (fun K hK => ?_) AllReadyH.nil
      refine step_append_some _ (by rfl) (.tmp 77) (.tmp 83) 42 (by rfl) W6.heap.size 44 i2 z2 9 88 Try.underlying42 hi2 hz2 hsz2 hby2 hzc2 (by decide) W6.heap.size 1 1 [.int .u8 0, .int .i64 (R : Int), .int .i64 0, .int .i64 0, .int .u32 (cn : Int), .int .i64 0, .slice none 0 0, .int .i64 0, .int .i64 0] (by rfl) HOW.out.drew ⟨ib, io, none⟩ y.ins.length ci_ inews (by rfl) HIL.out (fun j u hu => HCI.out j u hu) HNI.out.2 h64 (by omega) (by simp) ?_
      intro gI cI w7 hown hgrow
      have hb7 : Below W6.heap.size W6 w7 := Below.grown (((Below.refl _ W6).alloc (Nat.le_refl _) _).drew) hgrow (by simp) (by intro kk hkk; cases hkk; exact Nat.le_refl _)
      refine hK.out _ _ (HKS.out _ hb7) (fun hHelda4 => ?_)
      clear hK K
      try simp only [Act.put, List.getElem_toArray, List.getElem_cons_zero, List.getElem_cons_succ, List.setIfInBounds_toArray, List.set_cons_zero, List.set_cons_succ]
      refine wpAnyH_take (i := 17) (v := ?vza17) rfl (by kernel_rfl) (by kernel_rfl) (by kernel_rfl) (fun _ _ _ h => h) (Or.inl ⟨by rfl, ?yza17⟩) (by assumption) ?rza17
      case yza17 => (intro w hSw; (try dsimp only at hSw); go_simp; try with_reducible rfl)
      try simp only [Act.put, List.getElem_toArray, List.getElem_cons_zero, List.getElem_cons_succ, List.setIfInBounds_toArray, List.set_cons_zero, List.set_cons_succ]
      refine wpAnyH_take (i := 18) (v := ?vza18) rfl (by kernel_rfl) (by kernel_rfl) (by kernel_rfl) (fun _ _ _ h => h) (Or.inl ⟨by rfl, ?yza18⟩) (by assumption) ?rza18
      case yza18 => (intro w hSw; (try dsimp only at hSw); go_simp; try with_reducible rfl)
      try simp only [Act.put, List.getElem_toArray, List.getElem_cons_zero, List.getElem_cons_succ, List.setIfInBounds_toArray, List.set_cons_zero, List.set_cons_succ]
      refine wpAnyH_ready (rs := [19]) (by kernel_rfl) (by simp) ?_
      refine AllReadyH.cons rfl (fun K hK => ?_) AllReadyH.nil
      have c7 := (HVB6.out.below hb7).cell HCK.out
      have f7 := (HVB6.out.below hb7).frozen (k * 2 + 1)
      go_simp
      refine hK.out _ _ ?_ (fun hHelda5 => ?_)
      · obtain ⟨j0, j1, j2⟩ := HKS.out _ hb7
        exact ⟨(World.cell?_setCell_other _ _ _ _ (fun e => HNE.out.1 (congrArg Addr.block e))).trans j0, (World.cell?_setCell_other _ _ _ _ (fun e => HNE.out.1 (congrArg Addr.block e))).trans j1, (World.cell?_setCell_other _ _ _ _ (fun e => HNE.out.2 (congrArg Addr.block e))).trans j2⟩
      clear hK K c7 f7
      try simp only [Act.put, List.getElem_toArray, List.getElem_cons_zero, List.getElem_cons_succ, List.setIfInBounds_toArray, List.set_cons_zero, List.set_cons_succ]
      refine wpAnyH_done (by kernel_rfl) ?_ _
      go_wp2_with fail
      go_meet
      case rel =>
        obtain ⟨gI', cI', hve, hgI, hgI2, hvI⟩ := VRow.of_own' hown (fun h => by cases h)
        cases hve
        refine ⟨gI, cI, hgI, hvI.other (by show gI ≠ gB; omega) _, ?_, (HFX6.out.keep hb7).far (by show gB ≠ W3.heap.size; exact HNE.out.1) _, (HP6.out.keep hb7).far (by show gB ≠ w.heap.size; exact HNE2.out) _, (HW6.out.trans (hb7.mono HW6.out.size)).setCell (by show W3.heap.size ≤ gB; exact HNE3.out) _⟩
        have h := (HVB6.out.below hb7).set (k := k * 2 + 1) (by rw [HRL.out]; omega) (.slice (some ⟨gI, 0, none⟩) (1 + y.ins.length) cI)
        exact h
    · go_simp
      refine hK.out _ _ (HKS.out _ hbd) (fun hHeldb2 => ?_)
      clear hK K
      try simp only [Act.put, List.getElem_toArray, List.getElem_cons_zero, List.getElem_cons_succ, List.setIfInBounds_toArray, List.set_cons_zero, List.set_cons_succ]
      refine wpAnyH_ready (rs := [9]) (by kernel_rfl) (by simp) ?_
      refine AllReadyH.cons rfl (fun K hK => ?_) AllReadyH.nil
      go_simp
      refine hK.out _ _ (HKS.out _ hba) (fun hHeldb3 => ?_)
      clear hK K
      try simp only [Act.put, List.getElem_toArray, List.getElem_cons_zero, List.getElem_cons_succ, List.setIfInBounds_toArray, List.set_cons_zero, List.set_cons_succ]
      refine wpAnyH_ready (rs := [16]) (by kernel_rfl) (by simp) ?_
      refine AllReadyH.cons rfl (fun K hK => ?_) AllReadyH.nil
      refine step_append_some _ (by rfl) (.tmp 77) (.tmp 83) 42 (by rfl) W6.heap.size 44 i2 z2 9 88 Try.underlying42 hi2 hz2 hsz2 hby2 hzc2 (by decide) W6.heap.size 1 1 [.int .u8 0, .int .i64 (R : Int), .int .i64 0, .int .i64 0, .int .u32 (cn : Int), .int .i64 0, .slice none 0 0, .int .i64 0, .int .i64 0] (by rfl) HOW.out.drew ⟨ib, io, none⟩ y.ins.length ci_ inews (by rfl) HIL.out (fun j u hu => HCI.out j u hu) HNI.out.2 h64 (by omega) (by simp) ?_
      intro gI cI w7 hown hgrow
      have hb7 : Below W6.heap.size W6 w7 := Below.grown (((Below.refl _ W6).alloc (Nat.le_refl _) _).drew) hgrow (by simp) (by intro kk hkk; cases hkk; exact Nat.le_refl _)
      refine hK.out _ _ (HKS.out _ hb7) (fun hHeldb4 => ?_)
      clear hK K
      try simp only [Act.put, List.getElem_toArray, List.getElem_cons_zero, List.getElem_cons_succ, List.setIfInBounds_toArray, List.set_cons_zero, List.set_cons_succ]
      refine wpAnyH_take (i := 17) (v := ?vzb17) rfl (by kernel_rfl) (by kernel_rfl) (by kernel_rfl) (fun _ _ _ h => h) (Or.inl ⟨by rfl, ?yzb17⟩) (by assumption) ?rzb17
      case yzb17 => (intro w hSw; (try dsimp only at hSw); go_simp; try with_reducible rfl)
      try simp only [Act.put, List.getElem_toArray, List.getElem_cons_zero, List.getElem_cons_succ, List.setIfInBounds_toArray, List.set_cons_zero, List.set_cons_succ]
      refine wpAnyH_take (i := 18) (v := ?vzb18) rfl (by kernel_rfl) (by kernel_rfl) (by kernel_rfl) (fun _ _ _ h => h) (Or.inl ⟨by rfl, ?yzb18⟩) (by assumption) ?rzb18
      case yzb18 => (intro w hSw; (try dsimp only at hSw); go_simp; try with_reducible rfl)
      try simp only [Act.put, List.getElem_toArray, List.getElem_cons_zero, List.getElem_cons_succ, List.setIfInBounds_toArray, List.set_cons_zero, List.set_cons_succ]
      refine wpAnyH_ready (rs := [19]) (by kernel_rfl) (by simp) ?_
      refine AllReadyH.cons rfl (fun K hK => ?_) AllReadyH.nil
      have c7 := (HVB6.out.below hb7).cell HCK.out
      have f7 := (HVB6.out.below hb7).frozen (k * 2 + 1)
      go_simp
      refine hK.out _ _ ?_ (fun hHeldb5 => ?_)
      · obtain ⟨j0, j1, j2⟩ := HKS.out _ hb7
        exact ⟨(World.cell?_setCell_other _ _ _ _ (fun e => HNE.out.1 (congrArg Addr.block e))).trans j0, (World.cell?_setCell_other _ _ _ _ (fun e => HNE.out.1 (congrArg Addr.block e))).trans j1, (World.cell?_setCell_other _ _ _ _ (fun e => HNE.out.2 (congrArg Addr.block e))).trans j2⟩
      clear hK K c7 f7
      try simp only [Act.put, List.getElem_toArray, List.getElem_cons_zero, List.getElem_cons_succ, List.setIfInBounds_toArray, List.set_cons_zero, List.set_cons_succ]
      refine wpAnyH_done (by kernel_rfl) ?_ _
      go_wp2_with fail
      go_meet
      case rel =>
        obtain ⟨gI', cI', hve, hgI, hgI2, hvI⟩ := VRow.of_own' hown (fun h => by cases h)
        cases hve
        refine ⟨gI, cI, hgI, hvI.other (by show gI ≠ gB; omega) _, ?_, (HFX6.out.keep hb7).far (by show gB ≠ W3.heap.size; exact HNE.out.1) _, (HP6.out.keep hb7).far (by show gB ≠ w.heap.size; exact HNE2.out) _, (HW6.out.trans (hb7.mono HW6.out.size)).setCell (by show W3.heap.size ≤ gB; exact HNE3.out) _⟩
        have h := (HVB6.out.below hb7).set (k := k * 2 + 1) (by rw [HRL.out]; omega) (.slice (some ⟨gI, 0, none⟩) (1 + y.ins.length) cI)
        exact h
  case rest =>
    obtain ⟨gI, cI, hgI, hvI, hvB7, hfx7, hp7, hb7⟩ := hcut
    have HVI := shid hvI
    have HVB7 := shid hvB7
    have HFX7 := shid hfx7
    have HP7 := shid hp7
    have HB7 := shid hb7
    have HGI := shid (And.intro hgI hvI.lt)
    clear hgI hvI hvB7 hfx7 hp7 hb7 f0 f1 f2 f3 t2 b1 bf hm1
    obtain ⟨_, k0, k1, k2⟩ := HP7.out
    obtain ⟨i3, z3, hi3, hz3, hsz3, hby3, hzc3⟩ := info3_parts infofn3
    have HNF := shid (rowCells_news flat_fn HKF.out)
    have HFL := shid (rowCells_length W3 fb fo (p.funcs.length * 4))
    have HFC := shid (fun (j : Nat) (hj : j < p.funcs.length * 4) => rowCells_get (w := W3) (b := fb) (o := fo) hj)
    generalize rowCells W3 fb fo (p.funcs.length * 4) = fnews at *
    obtain ⟨_, f0, f1, f2, f3⟩ := HFX7.out.b
    have ff2 := HFX7.out.f 2
    have hR1 : IntKind.i64.wrap ((R : Int) + 1) = (R : Int) + 1 := IntWalk.i64_in _ (by omega)
    go_upto_region 12 with (fail)
    try rw [hR1]
    have HVI7 := shid (HVI.out.other (a := ⟨W3.heap.size, 2, none⟩) (by show gI ≠ W3.heap.size; have := HGI.out; omega) (.int .i64 ((R : Int) + 1)))
    have HVB7' := shid (HVB7.out.other (a := ⟨W3.heap.size, 2, none⟩) (by show gB ≠ W3.heap.size; omega) (.int .i64 ((R : Int) + 1)))
    have HFX7' := shid (HFX7.out.set2 ((R : Int) + 1))
    have HP7' := shid (HP7.out.far (p := ⟨W3.heap.size, 2, none⟩) (by show W3.heap.size ≠ w.heap.size; omega) (.int .i64 ((R : Int) + 1)))
    have HB7' := shid (HB7.out.setCell (p := ⟨W3.heap.size, 2, none⟩) (by show W3.heap.size ≤ W3.heap.size; omega) (.int .i64 ((R : Int) + 1)))
    have HSZ7 := shid (show (wc.setCell ⟨W3.heap.size, 2, none⟩ (.int .i64 ((R : Int) + 1))).heap.size = wc.heap.size by simp [World.setCell])
    clear f0 f1 f2 f3 ff2 k0 k1 k2 HVB7 HFX7 HP7 HB7 HVI
    have HVI := HVI7
    have HVB7 := HVB7'
    have HFX7 := HFX7'
    have HP7 := HP7'
    have HB7 := HB7'
    clear HVI7 HVB7' HFX7' HP7' HB7'
    rw [← HSZ7.out] at HGI
    generalize wc.setCell ⟨W3.heap.size, 2, none⟩ (.int .i64 ((R : Int) + 1)) = wd at *
    obtain ⟨_, k0, k1, k2⟩ := HP7.out
    have HQB := shid (TBox.new wd (.int .i64 p.heap) (.slice pt p.threads.length ct) (.slice (some ⟨fb, fo, none⟩) p.funcs.length cf) 25)
    go_upto_region 13 with (fail)
    clear k0 k1 k2
    have HW8 := shid (al1 wd (.cells #[.int .i64 p.heap, .slice pt p.threads.length ct, .slice (some ⟨fb, fo, none⟩) p.funcs.length cf] 25))
    have HFX7lt := shid HFX7.out.b.lt
    have HZ8 := shid (show (wd.alloc (.cells #[.int .i64 p.heap, .slice pt p.threads.length ct, .slice (some ⟨fb, fo, none⟩) p.funcs.length cf] 25)).heap.size = wd.heap.size + 1 by simp)
    have HVI8 := shid (HVI.out.below HW8.out)
    have HVB8 := shid (HVB7.out.below HW8.out)
    have HFX8 := shid (HFX7.out.keep HW8.out)
    have HP8 := shid (HP7.out.keep HW8.out)
    have HB8 := shid (sbt HB7.out HW8.out)
    clear HVB7 HFX7 HP7 HB7 HVI HW8
    generalize wd.alloc (.cells #[.int .i64 p.heap, .slice pt p.threads.length ct, .slice (some ⟨fb, fo, none⟩) p.funcs.length cf] 25) = W8 at *
    generalize wd.heap.size = G8 at *
    obtain ⟨_, k0, k1, k2⟩ := HP8.out
    obtain ⟨q0, q1, q2, qf0, qf1, qf2⟩ := HQB.out
    have hGG : W3.heap.size < G8 := by have := HFX7lt.out; omega
    go_upto_region 14 with (at_builtin; refine wpList_append_own _ rfl _ _ 23 rfl W8.heap.size 41 i3 z3 4 56 Try.underlying23 hi3 hz3 hsz3 hby3 hzc3 (by decide) (.slice (some ⟨W8.heap.size, 0, none⟩) 0 0) _ _ rfl (World.ownsRow_made W8 #[] 0 (Nat.le_refl _) (Nat.zero_le _) (by simp)) ⟨fb, fo, none⟩ p.funcs.length cf fnews rfl HFL.out (fun j u hj => by
      have h1 := HNF.out.1 j u hj
      rw [show (⟨fb, fo, none⟩ : Addr).add j = ⟨fb, fo + j, none⟩ from by unfold Addr.add; split <;> simp [*]]
      exact ((sbt HB8.out (al1 _ _)).cell (World.block_lt_of_cell? _ _ h1)).trans h1) HNF.out.2 (by unfold maxLen; omega) (by omega) (by simp) ?_; intro v9 w9 hown hgrow hnil; rw [Nat.zero_add, List.nil_append] at hown; have hb9 : Below W8.heap.size W8 w9 := ((Below.refl _ W8).alloc (Nat.le_refl _) _).grown hgrow (by simp) (by intro k hk; simp [Value.ownBlock] at hk; omega); obtain ⟨gF, cF, rfl, hgF, hgF2, hvF⟩ := VRow.of_own' hown (fun h => by have := (hnil.1 h).1; cases this); obtain ⟨s0, s1, s2, sf0, sf1, sf2⟩ := HQB.out.keep hb9; obtain ⟨_, g0, g1, g2, g3⟩ := (HFX8.out.keep hb9).b; have HVF := shid hvF; clear hown hgrow hnil)
    have hG8 : G8 < W8.heap.size := HQB.out.lt
    have hW9 : W8.heap.size ≤ w9.heap.size := hb9.size
    have HQ10 := shid (show TBox (w9.setCell ⟨G8, 2, none⟩ (.slice (some ⟨gF, 0, none⟩) p.funcs.length cF)) G8 (.int .i64 p.heap) (.slice pt p.threads.length ct) (.slice (some ⟨gF, 0, none⟩) p.funcs.length cF) from ((HQB.out.keep hb9).set2 _))
    have HVF10 := shid (show VRow (w9.setCell ⟨G8, 2, none⟩ (.slice (some ⟨gF, 0, none⟩) p.funcs.length cF)) gF 41 fnews from HVF.out.other (by show gF ≠ G8; omega) _)
    have HVI10 := shid (show VRow (w9.setCell ⟨G8, 2, none⟩ (.slice (some ⟨gF, 0, none⟩) p.funcs.length cF)) gI 44 _ from (HVI8.out.below hb9).other (by show gI ≠ G8; have := HGI.out; omega) _)
    have HVB10 := shid (show VRow (w9.setCell ⟨G8, 2, none⟩ (.slice (some ⟨gF, 0, none⟩) p.funcs.length cF)) gB 46 _ from (HVB8.out.below hb9).other (by show gB ≠ G8; have := HGI.out; omega) _)
    have HFX10 := shid (show FBoxW (w9.setCell ⟨G8, 2, none⟩ (.slice (some ⟨gF, 0, none⟩) p.funcs.length cF)) (W3.heap.size) _ _ _ _ from (HFX8.out.keep hb9).far (by show G8 ≠ W3.heap.size; omega) _)
    have HB10 := shid (show Below W3.heap.size W3 (w9.setCell ⟨G8, 2, none⟩ (.slice (some ⟨gF, 0, none⟩) p.funcs.length cF)) from (sbt HB8.out hb9).setCell (by show W3.heap.size ≤ G8; omega) _)
    clear s0 s1 s2 sf0 sf1 sf2 g0 g1 g2 g3 q0 q1 q2 qf0 qf1 qf2 k0 k1 k2
    generalize (w9.setCell ⟨G8, 2, none⟩ (.slice (some ⟨gF, 0, none⟩) p.funcs.length cF)) = W10 at *
    have hm4 : m * 4 + 3 < p.funcs.length * 4 := by omega
    obtain ⟨u0, hu0⟩ : ∃ u, fnews[m * 4]? = some u := ⟨_, HFC.out _ (by omega)⟩
    obtain ⟨u1, hu1⟩ : ∃ u, fnews[m * 4 + 1]? = some u := ⟨_, HFC.out _ (by omega)⟩
    obtain ⟨u2, hu2⟩ : ∃ u, fnews[m * 4 + 2]? = some u := ⟨_, HFC.out _ (by omega)⟩
    obtain ⟨u3, hu3⟩ : ∃ u, fnews[m * 4 + 3]? = some u := ⟨_, HFC.out _ (by omega)⟩
    have s0 := HVF10.out.cell hu0
    have s1 := HVF10.out.cell hu1
    have s2 := HVF10.out.cell hu2
    have s3 := HVF10.out.cell hu3
    have sf0 := HVF10.out.frozen (m * 4)
    have sf1 := HVF10.out.frozen (m * 4 + 1)
    have sf2 := HVF10.out.frozen (m * 4 + 2)
    have sf3 := HVF10.out.frozen (m * 4 + 3)
    have hmI : (m : Int) < p.funcs.length := by omega
    obtain ⟨_, g0, g1, g2, g3⟩ := HFX10.out.b
    obtain ⟨q0, q1, q2, _, _, _⟩ := HQ10.out
    have hne1 : ¬ gF = G8 := by omega
    have hne2 : ¬ G8 = gF := by omega
    clear hu0 hu1 hu2 hu3
    go_wp2_with fail
    have hgFB : gB ≠ gF := by have := HGI.out; omega
    have hgFI : gI ≠ gF := by have := HGI.out; omega
    have HVF11 := shid (show VRow ((((W10.setCell ⟨gF, m * 4, none⟩ (.string x.name)).setCell ⟨gF, m * 4 + 1, none⟩ (.int .i64 A)).setCell ⟨gF, m * 4 + 2, none⟩ (.int .i64 ((R : Int) + 1))).setCell ⟨gF, m * 4 + 3, none⟩ (.slice (some ⟨gB, 0, none⟩) x.blocks.length cB)) gF 41 ((((fnews.set (m * 4) (.string x.name)).set (m * 4 + 1) (.int .i64 A)).set (m * 4 + 2) (.int .i64 ((R : Int) + 1))).set (m * 4 + 3) (.slice (some ⟨gB, 0, none⟩) x.blocks.length cB)) from (((HVF10.out.set (by rw [HFL.out]; omega) _).set (by rw [List.length_set, HFL.out]; omega) _).set (by rw [List.length_set, List.length_set, HFL.out]; omega) _).set (by rw [List.length_set, List.length_set, List.length_set, HFL.out]; omega) _)
    have HVI11 := shid (show VRow ((((W10.setCell ⟨gF, m * 4, none⟩ (.string x.name)).setCell ⟨gF, m * 4 + 1, none⟩ (.int .i64 A)).setCell ⟨gF, m * 4 + 2, none⟩ (.int .i64 ((R : Int) + 1))).setCell ⟨gF, m * 4 + 3, none⟩ (.slice (some ⟨gB, 0, none⟩) x.blocks.length cB)) gI 44 _ from (((HVI10.out.other hgFI _).other hgFI _).other hgFI _).other hgFI _)
    have HVB11 := shid (show VRow ((((W10.setCell ⟨gF, m * 4, none⟩ (.string x.name)).setCell ⟨gF, m * 4 + 1, none⟩ (.int .i64 A)).setCell ⟨gF, m * 4 + 2, none⟩ (.int .i64 ((R : Int) + 1))).setCell ⟨gF, m * 4 + 3, none⟩ (.slice (some ⟨gB, 0, none⟩) x.blocks.length cB)) gB 46 _ from (((HVB10.out.other hgFB _).other hgFB _).other hgFB _).other hgFB _)
    have hwF : W3.heap.size ≤ gF := by have := HB8.out.size; omega
    have HB11 := shid (show Below W3.heap.size W3 ((((W10.setCell ⟨gF, m * 4, none⟩ (.string x.name)).setCell ⟨gF, m * 4 + 1, none⟩ (.int .i64 A)).setCell ⟨gF, m * 4 + 2, none⟩ (.int .i64 ((R : Int) + 1))).setCell ⟨gF, m * 4 + 3, none⟩ (.slice (some ⟨gB, 0, none⟩) x.blocks.length cB)) from (((HB10.out.setCell (p := ⟨gF, m * 4, none⟩) hwF _).setCell (p := ⟨gF, m * 4 + 1, none⟩) hwF _).setCell (p := ⟨gF, m * 4 + 2, none⟩) hwF _).setCell (p := ⟨gF, m * 4 + 3, none⟩) hwF _)
    clear s0 s1 s2 s3 sf0 sf1 sf2 sf3 g0 g1 g2 g3 q0 q1 q2 HVF10 HVI10 HVB10 HB10 HFX10
    generalize ((((W10.setCell ⟨gF, m * 4, none⟩ (.string x.name)).setCell ⟨gF, m * 4 + 1, none⟩ (.int .i64 A)).setCell ⟨gF, m * 4 + 2, none⟩ (.int .i64 ((R : Int) + 1))).setCell ⟨gF, m * 4 + 3, none⟩ (.slice (some ⟨gB, 0, none⟩) x.blocks.length cB)) = W11 at *
    have hins : InsxIn W11 (.slice (some ⟨gI, 0, none⟩) (1 + y.ins.length) cI) (mIns R cn :: y.ins) := by
      refine rowIn_cons flat_ins HIS.out.2 (by have := HTF.out x (List.mem_of_getElem? HX.out) y (List.mem_of_getElem? HY.out); omega) HB11.out (fun j i hj hi => ?_) (by omega) ?_
      · have hq : j * 9 + i < y.ins.length * 9 := by omega
        obtain ⟨u, hu, _⟩ := row_cells flat_ins HIS.out.2 (j * 9 + i) hq
        rw [hu]
        refine HVI11.out.cell ?_
        rw [List.getElem?_append_right (by simp; omega)]
        show inews[(j + 1) * 9 + i - 9]? = some u
        rw [show (j + 1) * 9 + i - 9 = j * 9 + i by omega]
        rw [HIC.out _ hq, hu]; rfl
      · have hcv : ∀ j u, [Value.int .u8 0, .int .i64 R, .int .i64 0, .int .i64 0, .int .u32 (cn : Int), .int .i64 0, .slice none 0 0, .int .i64 0, .int .i64 0][j]? = some u → W11.cell? ⟨gI, 0 + j, none⟩ = some u := fun j u hu => by
          rw [Nat.zero_add]
          refine HVI11.out.cell ?_
          rw [List.getElem?_append_left (List.getElem?_eq_some_iff.1 hu).1]; exact hu
        refine insxAt_new (x := mIns R cn) rfl ?_ hcv
        unfold Insx.bd mIns I64
        simp only
        refine ⟨by omega, by omega, by omega, by omega, by omega, by omega, by simp, by omega, by omega⟩
    have hblk : BlksIn W11 (.slice (some ⟨gB, 0, none⟩) x.blocks.length cB) (x.blocks.set k (mddB y R cn)) := by
      refine rowIn_upd flat_blk HBS.out.2 hbl HB11.out (fun j i hj hne hi => ?_) hkl ?_
      · have hq : j * 2 + i < x.blocks.length * 2 := by omega
        obtain ⟨u, hu, _⟩ := row_cells flat_blk HBS.out.2 (j * 2 + i) hq
        rw [hu]
        refine HVB11.out.cell ?_
        rw [List.getElem?_set_ne (by omega), HNC.out _ hq, hu]; rfl
      · have hb := HBS.out.2 k y HY.out
        refine ⟨?_, ⟨_, ?_, hins⟩, hb.nm⟩
        · refine HVB11.out.cell ?_
          rw [List.getElem?_set_ne (by omega), HNC.out _ (by omega), hb.c0]; rfl
        · refine HVB11.out.cell ?_
          exact List.getElem?_set_self (by rw [HRL.out]; omega)
    have hfns : FnsIn W11 (.slice (some ⟨gF, 0, none⟩) p.funcs.length cF) (p.funcs.set m (mddF x k y R cn)) := by
      refine rowIn_upd flat_fn HKF.out hfl HB11.out (fun j i hj hne hi => ?_) hmf ?_
      · have hq : j * 4 + i < p.funcs.length * 4 := by omega
        obtain ⟨u, hu, _⟩ := row_cells flat_fn HKF.out (j * 4 + i) hq
        rw [hu]
        refine HVF11.out.cell ?_
        rw [List.getElem?_set_ne (by omega), List.getElem?_set_ne (by omega), List.getElem?_set_ne (by omega), List.getElem?_set_ne (by omega), HFC.out _ hq, hu]; rfl
      · have hf := HKF.out m x HX.out
        refine ⟨?_, ?_, ?_, ⟨_, ?_, hblk⟩, hf.nm, hf.ba, by show I64 (x.regs + 1); rw [HRA.out.1]; unfold I64; omega⟩
        · refine HVF11.out.cell ?_
          rw [List.getElem?_set_ne (by omega), List.getElem?_set_ne (by omega), List.getElem?_set_ne (by omega), List.getElem?_set_self (by rw [HFL.out]; omega)]; rfl
        · refine HVF11.out.cell ?_
          rw [List.getElem?_set_ne (by omega), List.getElem?_set_ne (by omega), List.getElem?_set_self (by rw [List.length_set, HFL.out]; omega)]
          show some (Value.int .i64 (A : Int)) = some (.int .i64 x.args)
          rw [HRA.out.2]
        · refine HVF11.out.cell ?_
          rw [List.getElem?_set_ne (by omega), List.getElem?_set_self (by rw [List.length_set, List.length_set, HFL.out]; omega)]
          show some (Value.int .i64 ((R : Int) + 1)) = some (.int .i64 (x.regs + 1))
          rw [HRA.out.1]
        · refine HVF11.out.cell ?_
          exact List.getElem?_set_self (by rw [List.length_set, List.length_set, List.length_set, HFL.out]; omega)
    have hfnsP : FnsIn W11 (.slice (some ⟨gF, 0, none⟩) p.funcs.length cF) (moreP p m k x y cn).funcs := by
      show FnsIn W11 _ (p.funcs.set m (mddF x k y x.regs cn))
      rw [HRA.out.1]
      exact hfns
    have hxW := HX3.out.trans (HB11.out.mono HX3.out.size)
    have hlen : (moreP p m k x y cn).funcs.length = p.funcs.length := by show (p.funcs.set m _).length = _; rw [List.length_set]
    have hck := frun_any W11 (moreP p m k x y cn) pt ct (some ⟨gF, 0, none⟩) cF (.slice pc ch.length cc) ch (IntsIn.keep HTN.out HB11.out) (by rw [hlen]; exact hfnsP) (HCH.out.keepb HB11.out) HCH0.out.2.1 (by have := HCL.out; omega) HCH0.out.2.2 401 (by omega)
    have hok : (checkS (moreP p m k x y cn)).2.2 = 0 := by rw [HCO.out m k x y cn HX.out HY.out]
    obtain ⟨e1, e2, e3, e4⟩ := HMR.out m k x y cn HX.out HY.out HKD.out
    rw [hok, fin_yes hok, e1, e2, e3, e4, hlen] at hck
    have HCK := shid hck
    have HDD := shid HB11.out
    clear hck hok hfnsP hins hblk hfns HVF11 HVI11 HVB11 hlen e1 e2 e3 e4
    refine HCK.out.mono ?_
    rintro e W12 ⟨v12, rfl, hov, hb12⟩
    have hov2 := hov.here
    obtain ⟨p3, n3, q3, p4, n4, q4, rfl, _, _⟩ := hov.here
    clear hov
    have hal := al1 W12 (.cells #[.slice p3 n3 q3, .int .u8 S.kind, .int .u32 S.v, .slice p4 n4 q4] 35)
    have HX13 := shid (sbt (hxW.trans (hb12.mono hxW.size)) hal)
    have HD13 := shid (sbt (sbt HDD.out hb12) hal)
    have hq7 := HV3.out.below HD13.out
    have q12 := vrow_new W12 #[.slice p3 n3 q3, .int .u8 S.kind, .int .u32 S.v, .slice p4 n4 q4] 35
    have HSM := shid (osame_any (W12.alloc (.cells #[.slice p3 n3 q3, .int .u8 S.kind, .int .u32 S.v, .slice p4 n4 q4] 35)) _ _ _ _ _ _ _ _ _ _ (OutV.keep hov2 hal) (OutV.keep HO3.out HD13.out))
    have d0 := hq7.cell (k := 0) rfl
    have d1 := hq7.cell (k := 1) rfl
    have d2 := hq7.cell (k := 2) rfl
    have d3 := hq7.cell (k := 3) rfl
    have e0 := q12.cell (k := 0) rfl
    have e1 := q12.cell (k := 1) rfl
    have e2 := q12.cell (k := 2) rfl
    have e3 := q12.cell (k := 3) rfl
    clear hal hq7 q12 hov2 hb12 hxW
    go_wp2_with fail
    refine HSM.out.mono ?_
    rintro e W14 ⟨rfl, hb14⟩
    have HX14 := shid (sbt HX13.out hb14)
    clear hb14
    go_wp2_with fail
    refine (head16_any _).mono ?_
    rintro e W99 ⟨rfl, hb99⟩
    go_wp2_with fail
    go_ret
    exact ⟨by first | rfl | simp, sbt HX14.out hb99⟩
end Go.Proofs.Ytdefooailcbnlaa
