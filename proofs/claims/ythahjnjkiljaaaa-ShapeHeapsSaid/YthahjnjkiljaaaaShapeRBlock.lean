/- The walk of muntinref14.block. -/
import Derived.Test.YthahjnjkiljaaaaShapeBlock
import Derived.Test.YthahjnjkiljaaaaShapeOne
namespace Go.Proofs.Ythahjnjkiljaaaa
open Go.RowKit
set_option linter.unusedVariables false
set_option linter.unusedSimpArgs false
set_option maxRecDepth 100000 in
set_option maxHeartbeats 40000000 in
theorem rblock_any (fs : List Fnx) (hp : Int) (pt : Option Addr) (nt ct : Nat) (pf : Option Addr) (cf : Nat) (fnm : ByteArray) (fa fr : Int) (bs : List Blk) (pb : Option Addr) (cb : Nat) (n : Nat) (x : Blk) (hx : bs[n]? = some x) (w : World) (hF : FnsIn w (.slice pf fs.length cf) fs) (hB : BlksIn w (.slice pb bs.length cb) bs) :
    Calls Try.prog 23 #[.agg #[.int .i64 hp, .slice pt nt ct, .slice pf fs.length cf], .agg #[.string fnm, .int .i64 fa, .int .i64 fr, .slice pb bs.length cb], .int .i64 n] w fun e w' => e = .returned (.bool (blockB fs bs n x)) ∧ Below w.heap.size w w' := by
  have hn : n < bs.length := (List.getElem?_eq_some_iff.1 hx).1
  have hbl := hB.1
  have hfl := hF.1
  have HX := shid hx
  have HFN := shid hF
  have HBN := shid hB
  obtain ⟨pbb, cbb, b, o, hbe, _, HBS⟩ := hB.hids
  cases hbe
  obtain rfl := HBS.out.1 (by omega)
  have HW0 := shid (al2 w (.cells #[.int .i64 hp, .slice pt nt ct, .slice pf fs.length cf] 25) (.cells #[.string fnm, .int .i64 fa, .int .i64 fr, .slice (some ⟨b, o, none⟩) bs.length cb] 37))
  obtain ⟨c0, ⟨iv, c1, hiv⟩, hnm⟩ := (HBS.out.2 n x hx).keep HW0.out
  obtain ⟨pi, ci, rfl⟩ := hiv.shape
  have HIB := shid hiv.bds
  have hil := hiv.1
  have HNM := shid hnm
  obtain ⟨_, _, ib, io, hie, _, HIS⟩ := hiv.hids
  cases hie
  have HPI := shid HIS.out.1
  have HBF := shid (FBox.new (w.alloc (.cells #[.int .i64 hp, .slice pt nt ct, .slice pf fs.length cf] 25)) fnm fa fr (.slice (some ⟨b, o, none⟩) bs.length cb) 37)
  have HBP := shid ((PBox.new w hp (.slice pt nt ct) (.slice pf fs.length cf) 25).keep (al1 _ (.cells #[.string fnm, .int .i64 fa, .int .i64 fr, .slice (some ⟨b, o, none⟩) bs.length cb] 37)))
  have HBK := shid (BBox.new ((w.alloc (.cells #[.int .i64 hp, .slice pt nt ct, .slice pf fs.length cf] 25)).alloc (.cells #[.string fnm, .int .i64 fa, .int .i64 fr, .slice (some ⟨b, o, none⟩) bs.length cb] 37)) x.name (.slice pi x.ins.length ci) 40)
  have HWK := shid (al1 ((w.alloc (.cells #[.int .i64 hp, .slice pt nt ct, .slice pf fs.length cf] 25)).alloc (.cells #[.string fnm, .int .i64 fa, .int .i64 fr, .slice (some ⟨b, o, none⟩) bs.length cb] 37)) (.cells #[.string x.name, .slice pi x.ins.length ci] 40))
  have HWW := shid (sbt HW0.out HWK.out)
  have HKI := shid (fun (W : World) (hb : Below (((w.alloc (.cells #[.int .i64 hp, .slice pt nt ct, .slice pf fs.length cf] 25)).alloc (.cells #[.string fnm, .int .i64 fa, .int .i64 fr, .slice (some ⟨b, o, none⟩) bs.length cb] 37)).alloc (.cells #[.string x.name, .slice pi x.ins.length ci] 40)).heap.size (((w.alloc (.cells #[.int .i64 hp, .slice pt nt ct, .slice pf fs.length cf] 25)).alloc (.cells #[.string fnm, .int .i64 fa, .int .i64 fr, .slice (some ⟨b, o, none⟩) bs.length cb] 37)).alloc (.cells #[.string x.name, .slice pi x.ins.length ci] 40)) W) (j : Nat) (y : Insx) (hy : x.ins[j]? = some y) => (HIS.out.2 j y hy).keep (sbt HWK.out hb))
  have HBB := shid (show blockB fs bs n x = (!twiceB (blkNames bs) n && decide (0 < x.ins.length) && (List.range x.ins.length).all (okAt fs bs.length x.ins)) from rfl)
  have HTB := shid (show twiceB (blkNames bs) n = (((List.range n).any fun i => blkNames bs i == blkNames bs n) || !nameB (blkNames bs n).data.toList) from rfl)
  have HNX := shid (blkNames_at hx)
  have HNA := shid (fun W => rname_any x.name hnm W)
  have HKN := shid (fun (i : Nat) (y : Blk) (hy : bs[i]? = some y) => ((HWW.out).cell (p := ⟨b, o + i * 2, none⟩) (World.block_lt_of_cell? _ _ (HBS.out.2 i y hy).c0)).trans (HBS.out.2 i y hy).c0)
  have h1 : (n : Int) < bs.length := by omega
  simp only [World.size_alloc] at HBF HBK
  have HBF1 := shid (HBF.out.keep HWK.out)
  have HBP1 := shid (HBP.out.keep HWK.out)
  clear hiv hx hF hB hnm HIS HBF HBP HBS
  go_enter Try.func23, Try.ntmps23
  go_wp2_with fail
  generalize (((w.alloc (.cells #[.int .i64 hp, .slice pt nt ct, .slice pf fs.length cf] 25)).alloc (.cells #[.string fnm, .int .i64 fa, .int .i64 fr, .slice (some ⟨b, o, none⟩) bs.length cb] 37)).alloc (.cells #[.string x.name, .slice pi x.ins.length ci] 40)) = W0 at *
  clear c0 c1 HW0
  go_loopw [8] (fun i wr => ∃ k : Nat, k ≤ n ∧ i = .int .i64 k ∧ ((List.range k).any fun i => blkNames bs i == blkNames bs n) = false ∧ (∃ d, wr = W0.drewN d)) (fun i _ => n - (intOf i).toNat)
  case atStart => exact ⟨0, Nat.zero_le _, rfl, by simp, 0, rfl⟩
  case round =>
    obtain ⟨k, hk, rfl, hf, d, rfl⟩ := hrel
    have HFA := shid hf
    clear hf
    obtain ⟨_, f0, f1, f2, f3⟩ := HBF1.out
    obtain ⟨_, k0, k1⟩ := HBK.out
    by_cases hlt : k < n
    · have hkf : k < bs.length := by omega
      have HY := shid (List.getElem?_eq_getElem hkf)
      generalize bs[k] = y at HY
      have e0 := HKN.out k y HY.out
      have h2 : (k : Int) < bs.length := by omega
      cases hts : (y.name == x.name)
      case false =>
        have htl : (y.name.toList == x.name.toList) = false := by rw [← beq_toListBytes]; exact hts
        have HE := shid (show ((List.range (k + 1)).any fun i => blkNames bs i == blkNames bs n) = false from range_any_no HFA.out (by rw [blkNames_at HY.out, HNX.out]; exact hts))
        clear hts
        go_wp2_with fail
        go_quiet (fail)
        go_wp2_with fail
        exact ⟨⟨k + 1, by omega, by go_num, HE.out, _, rfl⟩, by simp [intOf] <;> omega⟩
      case true =>
        have htl : (y.name.toList == x.name.toList) = true := by rw [← beq_toListBytes]; exact hts
        have HE := shid (show blockB fs bs n x = false by
          rw [HBB.out, HTB.out]
          have : ((List.range n).any fun i => blkNames bs i == blkNames bs n) = true := List.any_eq_true.2 ⟨k, List.mem_range.2 hlt, by rw [blkNames_at HY.out, HNX.out]; exact hts⟩
          rw [this]; rfl)
        clear hts
        go_wp2_with fail
        go_quiet (fail)
        go_wp2_with fail
        go_ret
        exact ⟨sret_val (by rw [HE.out]; rfl), sbt HWW.out (sdrewN (sdrewN (Below.refl _ _) d) _)⟩
    obtain rfl : k = n := by omega
    have HT2 := shid (show twiceB (blkNames bs) k = !nameB x.name.data.toList by rw [HTB.out, HFA.out, HNX.out]; rfl)
    have HH2 : Hid (blockB fs bs k x = (nameB x.name.data.toList && decide (0 < x.ins.length) && (List.range x.ins.length).all (okAt fs bs.length x.ins))) := shid (by rw [HBB.out, HT2.out, Bool.not_not])
    have HWd := shid (show Below W0.heap.size W0 (W0.drewN d) from sdrewN (Below.refl _ _) d)
    have HW1 := shid (sbt HWW.out HWd.out)
    have HBF3 := shid (HBF1.out.keep HWd.out)
    have HBP3 := shid (HBP1.out.keep HWd.out)
    have HBK3 := shid (HBK.out.keep HWd.out)
    have HKI3 := shid (fun (W : World) (hb : Below (W0.drewN d).heap.size (W0.drewN d) W) => HKI.out W (sbt HWd.out hb))
    clear f0 f1 f2 f3 k0 k1 HFA HBB HTB HT2 HKN HNX HBF1 HBP1 HBK HKI HWK HWd
    generalize W0.drewN d = W1 at *
    obtain ⟨_, k0, k1⟩ := HBK3.out
    generalize nameB x.name.data.toList = nbv at *
    cases nbv
    case false =>
      have HR := shid (show blockB fs bs k x = false from HH2.out)
      go_wp2_with (go_at_call 43; (with_reducible refine (HNA.out _).mono ?_); rintro e w7 ⟨rfl, rfl⟩)
      go_ret
      exact ⟨sret_val (by rw [HR.out]; rfl), HW1.out⟩
    by_cases h0 : 0 < x.ins.length
    case neg =>
      have q0 : ((x.ins.length : Int) == 0) = true := by rw [beq_iff_eq]; omega
      have HR := shid (show blockB fs bs k x = false by rw [HH2.out, decide_eq_false h0]; rfl)
      clear h0
      go_wp2_with (go_at_call 43; (with_reducible refine (HNA.out _).mono ?_); rintro e w7 ⟨rfl, rfl⟩)
      go_ret
      exact ⟨sret_val (by rw [HR.out]; rfl), HW1.out⟩
    have q0 : ((x.ins.length : Int) == 0) = false := by rw [beq_eq_false_iff_ne]; omega
    have HB3 : Hid (blockB fs bs k x = (List.range x.ins.length).all (okAt fs bs.length x.ins)) := shid (by rw [HH2.out, decide_eq_true h0]; rfl)
    clear HH2
    go_wp2_with (go_at_call 43; (with_reducible refine (HNA.out _).mono ?_); rintro e w7 ⟨rfl, rfl⟩)
    clear k0 k1

    obtain rfl := HPI.out h0
    go_loopw [9] (fun i wr => ∃ j : Nat, j ≤ x.ins.length ∧ i = .int .i64 j ∧ (List.range j).all (okAt fs bs.length x.ins) = true ∧ Below W1.heap.size W1 wr) (fun i _ => x.ins.length - (intOf i).toNat)
    case atStart => exact ⟨0, Nat.zero_le _, rfl, by simp, Below.refl _ _⟩
    case round =>
      obtain ⟨j, hj, rfl, hf, hbw⟩ := hrel
      have HFA := shid hf
      have HBW := shid hbw
      clear hf hbw
      obtain ⟨_, k0, k1⟩ := HBK3.out.keep HBW.out
      by_cases hlt : j < x.ins.length
      · have HY := shid (List.getElem?_eq_getElem hlt)
        generalize x.ins[j] = y at HY
        obtain ⟨d0, d1, d2, d3, d4, d5, ⟨va, d6, hva⟩, d7, d8, hybd⟩ := HKI3.out _ HBW.out j y HY.out
        obtain ⟨pa, ca, rfl⟩ := hva.shape
        have h2 : (j : Int) < x.ins.length := by omega
        have HOK := shid (okAt_some (fs := fs) (nb := bs.length) HY.out)
        have HXB := shid (fun (W : World) (hb : Below wr.heap.size wr W) => And.intro ((hb.cell (World.block_lt_of_cell? _ _ d0)).trans d0) (And.intro ((hb.cell (World.block_lt_of_cell? _ _ d1)).trans d1) (And.intro ((hb.cell (World.block_lt_of_cell? _ _ d2)).trans d2) (And.intro ((hb.cell (World.block_lt_of_cell? _ _ d3)).trans d3) (And.intro ((hb.cell (World.block_lt_of_cell? _ _ d4)).trans d4) (And.intro ((hb.cell (World.block_lt_of_cell? _ _ d5)).trans d5) (And.intro ((hb.cell (World.block_lt_of_cell? _ _ d6)).trans d6) (And.intro ((hb.cell (World.block_lt_of_cell? _ _ d7)).trans d7) ((hb.cell (World.block_lt_of_cell? _ _ d8)).trans d8)))))))))
        have HW2 := shid (sbt HW1.out HBW.out)
        have HVA := shid hva
        have HEN := shid (fun W => rends_any y hybd pa y.args.length ca W)
        have HIN := shid (fun (W : World) (hb : Below wr.heap.size wr W) => one_any y.op hybd.1.1 hybd.1.2 fs bs.length hbl y.d y.a y.b y.n y.f y.args y.l1 y.l2 hp pt nt ct pf cf fnm fa fr (some ⟨b, o, none⟩) cb pa ca W (FnsIn.keep HFN.out (sbt HW2.out hb)) (IntsIn.keep HVA.out hb))
        have HINX := shid (show decide (insF fs bs.length y.op y.d y.a y.b y.n y.f y.args y.l1 y.l2) = insX fs bs.length y from rfl)
        generalize decide (insF fs bs.length y.op y.d y.a y.b y.n y.f y.args y.l1 y.l2) = ibb at HIN HINX
        generalize insX fs bs.length y = ibv at HINX HOK
        obtain rfl := HINX.out
        unfold Insx.agg at HEN
        generalize endsB y = eb at HEN HOK
        clear hva hybd HINX
        go_wp2_with fail
        clear d0 d1 d2 d3 d4 d5 d6 d7 d8 k0 k1
        have HKS : Hid (∀ w', Below wr.heap.size wr w' → w'.cell? ⟨ib, io + j * 9, none⟩ = some (.int .u8 y.op) ∧ w'.cell? ⟨ib, io + j * 9 + 1, none⟩ = some (.int .i64 y.d) ∧ w'.cell? ⟨ib, io + j * 9 + 2, none⟩ = some (.int .i64 y.a) ∧ w'.cell? ⟨ib, io + j * 9 + 3, none⟩ = some (.int .i64 y.b) ∧ w'.cell? ⟨ib, io + j * 9 + 4, none⟩ = some (.int .u32 y.n) ∧ w'.cell? ⟨ib, io + j * 9 + 5, none⟩ = some (.int .i64 y.f) ∧ w'.cell? ⟨ib, io + j * 9 + 6, none⟩ = some (.slice pa y.args.length ca) ∧ w'.cell? ⟨ib, io + j * 9 + 7, none⟩ = some (.int .i64 y.l1) ∧ w'.cell? ⟨ib, io + j * 9 + 8, none⟩ = some (.int .i64 y.l2) ∧ w'.cell? ⟨w.heap.size, 0, none⟩ = some (.int .i64 hp) ∧ w'.cell? ⟨w.heap.size, 1, none⟩ = some (.slice pt nt ct) ∧ w'.cell? ⟨w.heap.size, 2, none⟩ = some (.slice pf fs.length cf) ∧ w'.cell? ⟨w.heap.size + 1, 0, none⟩ = some (.string fnm) ∧ w'.cell? ⟨w.heap.size + 1, 1, none⟩ = some (.int .i64 fa) ∧ w'.cell? ⟨w.heap.size + 1, 2, none⟩ = some (.int .i64 fr) ∧ w'.cell? ⟨w.heap.size + 1, 3, none⟩ = some (.slice (some ⟨b, o, none⟩) bs.length cb) ∧ w'.cell? ⟨w.heap.size + 1 + 1, 0, none⟩ = some (.string x.name) ∧ w'.cell? ⟨w.heap.size + 1 + 1, 1, none⟩ = some (.slice (some ⟨ib, io, none⟩) x.ins.length ci)) := shid fun w' hb => by
          obtain ⟨b0, b1, b2, b3, b4, b5, b6, b7, b8⟩ := HXB.out w' hb
          obtain ⟨_, p0, p1, p2⟩ := HBP3.out.keep (sbt HBW.out hb)
          obtain ⟨_, f0, f1, f2, f3⟩ := HBF3.out.keep (sbt HBW.out hb)
          obtain ⟨_, k0, k1⟩ := HBK3.out.keep (sbt HBW.out hb)
          exact ⟨b0, b1, b2, b3, b4, b5, b6, b7, b8, p0, p1, p2, f0, f1, f2, f3, k0, k1⟩
        have hle : wr.heap.size ≤ wr.heap.size := Nat.le_refl _
        have hbd : Below wr.heap.size wr wr.drew := (Below.refl _ _).drew
        have HEQ : Hid (((j : Int) + 1 == (x.ins.length : Int)) = decide (j + 1 = x.ins.length)) := shid (by rw [Bool.eq_iff_iff]; simp; omega)
        generalize decide (j + 1 = x.ins.length) = bl at HEQ HOK
        have q5 := HEQ.out
        have q6 : IntKind.i64.wrap ((j : Int) + 1) = (j : Int) + 1 := IntWalk.i64_in _ (by omega)
        cases eb <;> cases bl
        case false.false =>
          cases ibb
          case false =>
            have HR := shid (show blockB fs bs k x = false by rw [HB3.out]; exact range_all_no hlt (by rw [HOK.out]; rfl))
            first | (go_region_held3 (fun w' => w'.cell? ⟨ib, io + j * 9, none⟩ = some (.int .u8 y.op) ∧ w'.cell? ⟨ib, io + j * 9 + 1, none⟩ = some (.int .i64 y.d) ∧ w'.cell? ⟨ib, io + j * 9 + 2, none⟩ = some (.int .i64 y.a) ∧ w'.cell? ⟨ib, io + j * 9 + 3, none⟩ = some (.int .i64 y.b) ∧ w'.cell? ⟨ib, io + j * 9 + 4, none⟩ = some (.int .u32 y.n) ∧ w'.cell? ⟨ib, io + j * 9 + 5, none⟩ = some (.int .i64 y.f) ∧ w'.cell? ⟨ib, io + j * 9 + 6, none⟩ = some (.slice pa y.args.length ca) ∧ w'.cell? ⟨ib, io + j * 9 + 7, none⟩ = some (.int .i64 y.l1) ∧ w'.cell? ⟨ib, io + j * 9 + 8, none⟩ = some (.int .i64 y.l2) ∧ w'.cell? ⟨w.heap.size, 0, none⟩ = some (.int .i64 hp) ∧ w'.cell? ⟨w.heap.size, 1, none⟩ = some (.slice pt nt ct) ∧ w'.cell? ⟨w.heap.size, 2, none⟩ = some (.slice pf fs.length cf) ∧ w'.cell? ⟨w.heap.size + 1, 0, none⟩ = some (.string fnm) ∧ w'.cell? ⟨w.heap.size + 1, 1, none⟩ = some (.int .i64 fa) ∧ w'.cell? ⟨w.heap.size + 1, 2, none⟩ = some (.int .i64 fr) ∧ w'.cell? ⟨w.heap.size + 1, 3, none⟩ = some (.slice (some ⟨b, o, none⟩) bs.length cb) ∧ w'.cell? ⟨w.heap.size + 1 + 1, 0, none⟩ = some (.string x.name) ∧ w'.cell? ⟨w.heap.size + 1 + 1, 1, none⟩ = some (.slice (some ⟨ib, io, none⟩) x.ins.length ci)) (first | (with_reducible exact HKS.out _ hbd) | (with_reducible exact HKS.out _ hb4) | (with_reducible exact HKS.out _ hb5) | (refine HKS.out _ ?_; first | assumption | (go_grown; done)))
              (first
                | (go_at_call 29; (with_reducible refine (HEN.out _).mono ?_); rintro e w4 ⟨rfl, hb40⟩; have hb4 : Below wr.heap.size wr w4 := sbt hbd hb40; have hle4 : wr.heap.size ≤ w4.heap.size := hb4.size)
                | (go_at_call 45; (with_reducible refine (HIN.out _ hb4).mono ?_); rintro e w5 ⟨rfl, hb50⟩; have hb5 : Below wr.heap.size wr w5 := sbt hb4 hb50; have hle5 : wr.heap.size ≤ w5.heap.size := hb5.size))) | fail
            clear q6
            all_goals go_wp2_with fail
            all_goals
              go_ret
              exact ⟨sret_val (by rw [HR.out]; rfl), sbt HW2.out hb5⟩
          case true =>
            have HR := shid (show (List.range (j + 1)).all (okAt fs bs.length x.ins) = true from range_all_ok HFA.out (by rw [HOK.out]; rfl))
            first | (go_region_held3 (fun w' => w'.cell? ⟨ib, io + j * 9, none⟩ = some (.int .u8 y.op) ∧ w'.cell? ⟨ib, io + j * 9 + 1, none⟩ = some (.int .i64 y.d) ∧ w'.cell? ⟨ib, io + j * 9 + 2, none⟩ = some (.int .i64 y.a) ∧ w'.cell? ⟨ib, io + j * 9 + 3, none⟩ = some (.int .i64 y.b) ∧ w'.cell? ⟨ib, io + j * 9 + 4, none⟩ = some (.int .u32 y.n) ∧ w'.cell? ⟨ib, io + j * 9 + 5, none⟩ = some (.int .i64 y.f) ∧ w'.cell? ⟨ib, io + j * 9 + 6, none⟩ = some (.slice pa y.args.length ca) ∧ w'.cell? ⟨ib, io + j * 9 + 7, none⟩ = some (.int .i64 y.l1) ∧ w'.cell? ⟨ib, io + j * 9 + 8, none⟩ = some (.int .i64 y.l2) ∧ w'.cell? ⟨w.heap.size, 0, none⟩ = some (.int .i64 hp) ∧ w'.cell? ⟨w.heap.size, 1, none⟩ = some (.slice pt nt ct) ∧ w'.cell? ⟨w.heap.size, 2, none⟩ = some (.slice pf fs.length cf) ∧ w'.cell? ⟨w.heap.size + 1, 0, none⟩ = some (.string fnm) ∧ w'.cell? ⟨w.heap.size + 1, 1, none⟩ = some (.int .i64 fa) ∧ w'.cell? ⟨w.heap.size + 1, 2, none⟩ = some (.int .i64 fr) ∧ w'.cell? ⟨w.heap.size + 1, 3, none⟩ = some (.slice (some ⟨b, o, none⟩) bs.length cb) ∧ w'.cell? ⟨w.heap.size + 1 + 1, 0, none⟩ = some (.string x.name) ∧ w'.cell? ⟨w.heap.size + 1 + 1, 1, none⟩ = some (.slice (some ⟨ib, io, none⟩) x.ins.length ci)) (first | (with_reducible exact HKS.out _ hbd) | (with_reducible exact HKS.out _ hb4) | (with_reducible exact HKS.out _ hb5) | (refine HKS.out _ ?_; first | assumption | (go_grown; done)))
              (first
                | (go_at_call 29; (with_reducible refine (HEN.out _).mono ?_); rintro e w4 ⟨rfl, hb40⟩; have hb4 : Below wr.heap.size wr w4 := sbt hbd hb40; have hle4 : wr.heap.size ≤ w4.heap.size := hb4.size)
                | (go_at_call 45; (with_reducible refine (HIN.out _ hb4).mono ?_); rintro e w5 ⟨rfl, hb50⟩; have hb5 : Below wr.heap.size wr w5 := sbt hb4 hb50; have hle5 : wr.heap.size ≤ w5.heap.size := hb5.size))) | fail
            clear q6
            all_goals go_wp2_with fail
            all_goals
              go_roundw
              case rel => exact ⟨j + 1, by omega, by go_num, HR.out, sbt HBW.out hb5⟩
              case measure => simp [intOf]; omega
        case false.true =>
          have HR := shid (show blockB fs bs k x = false by rw [HB3.out]; exact range_all_no hlt (by rw [HOK.out]; rfl))
          refine wp_region_held_drew (S := fun w' => w'.cell? ⟨ib, io + j * 9, none⟩ = some (.int .u8 y.op) ∧ w'.cell? ⟨ib, io + j * 9 + 1, none⟩ = some (.int .i64 y.d) ∧ w'.cell? ⟨ib, io + j * 9 + 2, none⟩ = some (.int .i64 y.a) ∧ w'.cell? ⟨ib, io + j * 9 + 3, none⟩ = some (.int .i64 y.b) ∧ w'.cell? ⟨ib, io + j * 9 + 4, none⟩ = some (.int .u32 y.n) ∧ w'.cell? ⟨ib, io + j * 9 + 5, none⟩ = some (.int .i64 y.f) ∧ w'.cell? ⟨ib, io + j * 9 + 6, none⟩ = some (.slice pa y.args.length ca) ∧ w'.cell? ⟨ib, io + j * 9 + 7, none⟩ = some (.int .i64 y.l1) ∧ w'.cell? ⟨ib, io + j * 9 + 8, none⟩ = some (.int .i64 y.l2) ∧ w'.cell? ⟨w.heap.size, 0, none⟩ = some (.int .i64 hp) ∧ w'.cell? ⟨w.heap.size, 1, none⟩ = some (.slice pt nt ct) ∧ w'.cell? ⟨w.heap.size, 2, none⟩ = some (.slice pf fs.length cf) ∧ w'.cell? ⟨w.heap.size + 1, 0, none⟩ = some (.string fnm) ∧ w'.cell? ⟨w.heap.size + 1, 1, none⟩ = some (.int .i64 fa) ∧ w'.cell? ⟨w.heap.size + 1, 2, none⟩ = some (.int .i64 fr) ∧ w'.cell? ⟨w.heap.size + 1, 3, none⟩ = some (.slice (some ⟨b, o, none⟩) bs.length cb) ∧ w'.cell? ⟨w.heap.size + 1 + 1, 0, none⟩ = some (.string x.name) ∧ w'.cell? ⟨w.heap.size + 1 + 1, 1, none⟩ = some (.slice (some ⟨ib, io, none⟩) x.ins.length ci)) (by kernel_rfl) (HKS.out _ hbd) (fun hHeld => ?_)
          refine wpAnyH_take (i := 0) (v := ?vft0) rfl (by kernel_rfl) (by kernel_rfl) (by kernel_rfl) (fun _ _ _ h => h) (Or.inl ⟨by rfl, ?yft0⟩) (by assumption) ?rft0
          case yft0 => (intro w hSw; (try dsimp only at hSw); go_simp; try with_reducible rfl)
          try simp only [Act.put, List.getElem_toArray, List.getElem_cons_zero, List.getElem_cons_succ, List.setIfInBounds_toArray, List.set_cons_zero, List.set_cons_succ]
          refine wpAnyH_take (i := 1) (v := ?vft1) rfl (by kernel_rfl) (by kernel_rfl) (by kernel_rfl) (fun _ _ _ h => h) (Or.inl ⟨by rfl, ?yft1⟩) (by assumption) ?rft1
          case yft1 => (intro w hSw; (try dsimp only at hSw); go_simp; try with_reducible rfl)
          try simp only [Act.put, List.getElem_toArray, List.getElem_cons_zero, List.getElem_cons_succ, List.setIfInBounds_toArray, List.set_cons_zero, List.set_cons_succ]
          refine wpAnyH_take (i := 2) (v := ?vft2) rfl (by kernel_rfl) (by kernel_rfl) (by kernel_rfl) (fun _ _ _ h => h) (Or.inl ⟨by rfl, ?yft2⟩) (by assumption) ?rft2
          case yft2 => (intro w hSw; (try dsimp only at hSw); go_simp; try with_reducible rfl)
          try simp only [Act.put, List.getElem_toArray, List.getElem_cons_zero, List.getElem_cons_succ, List.setIfInBounds_toArray, List.set_cons_zero, List.set_cons_succ]
          refine wpAnyH_take (i := 3) (v := ?vft3) rfl (by kernel_rfl) (by kernel_rfl) (by kernel_rfl) (fun _ _ _ h => h) (Or.inl ⟨by rfl, ?yft3⟩) (by assumption) ?rft3
          case yft3 => (intro w hSw; (try dsimp only at hSw); go_simp; try with_reducible rfl)
          try simp only [Act.put, List.getElem_toArray, List.getElem_cons_zero, List.getElem_cons_succ, List.setIfInBounds_toArray, List.set_cons_zero, List.set_cons_succ]
          refine wpAnyH_take (i := 4) (v := ?vft4) rfl (by kernel_rfl) (by kernel_rfl) (by kernel_rfl) (fun _ _ _ h => h) (Or.inl ⟨by rfl, ?yft4⟩) (by assumption) ?rft4
          case yft4 => (intro w hSw; (try dsimp only at hSw); go_simp; try with_reducible rfl)
          try simp only [Act.put, List.getElem_toArray, List.getElem_cons_zero, List.getElem_cons_succ, List.setIfInBounds_toArray, List.set_cons_zero, List.set_cons_succ]
          refine wpAnyH_take (i := 6) (v := ?vft6) rfl (by kernel_rfl) (by kernel_rfl) (by kernel_rfl) (fun _ _ _ h => h) (Or.inl ⟨by rfl, ?yft6⟩) (by assumption) ?rft6
          case yft6 => (intro w hSw; (try dsimp only at hSw); go_simp; try with_reducible rfl)
          try simp only [Act.put, List.getElem_toArray, List.getElem_cons_zero, List.getElem_cons_succ, List.setIfInBounds_toArray, List.set_cons_zero, List.set_cons_succ]
          refine wpAnyH_take (i := 7) (v := ?vft7) rfl (by kernel_rfl) (by kernel_rfl) (by kernel_rfl) (fun _ _ _ h => h) (Or.inl ⟨by rfl, ?yft7⟩) (by assumption) ?rft7
          case yft7 => (intro w hSw; (try dsimp only at hSw); go_simp; try with_reducible rfl)
          try simp only [Act.put, List.getElem_toArray, List.getElem_cons_zero, List.getElem_cons_succ, List.setIfInBounds_toArray, List.set_cons_zero, List.set_cons_succ]
          refine wpAnyH_take (i := 8) (v := ?vft8) rfl (by kernel_rfl) (by kernel_rfl) (by kernel_rfl) (fun _ _ _ h => h) (Or.inl ⟨by rfl, ?yft8⟩) (by assumption) ?rft8
          case yft8 => (intro w hSw; (try dsimp only at hSw); go_simp; try with_reducible rfl)
          try simp only [Act.put, List.getElem_toArray, List.getElem_cons_zero, List.getElem_cons_succ, List.setIfInBounds_toArray, List.set_cons_zero, List.set_cons_succ]
          refine wpAnyH_take (i := 9) (v := ?vft9) rfl (by kernel_rfl) (by kernel_rfl) (by kernel_rfl) (fun _ _ _ h => h) (Or.inl ⟨by rfl, ?yft9⟩) (by assumption) ?rft9
          case yft9 => (intro w hSw; (try dsimp only at hSw); go_simp; try with_reducible rfl)
          try simp only [Act.put, List.getElem_toArray, List.getElem_cons_zero, List.getElem_cons_succ, List.setIfInBounds_toArray, List.set_cons_zero, List.set_cons_succ]
          refine wpAnyH_take (i := 10) (v := ?vft10) rfl (by kernel_rfl) (by kernel_rfl) (by kernel_rfl) (fun _ _ _ h => h) (Or.inl ⟨by rfl, ?yft10⟩) (by assumption) ?rft10
          case yft10 => (intro w hSw; (try dsimp only at hSw); go_simp; try with_reducible rfl)
          try simp only [Act.put, List.getElem_toArray, List.getElem_cons_zero, List.getElem_cons_succ, List.setIfInBounds_toArray, List.set_cons_zero, List.set_cons_succ]
          refine wpAnyH_take (i := 11) (v := ?vft11) rfl (by kernel_rfl) (by kernel_rfl) (by kernel_rfl) (fun _ _ _ h => h) (Or.inl ⟨by rfl, ?yft11⟩) (by assumption) ?rft11
          case yft11 => (intro w hSw; (try dsimp only at hSw); go_simp; try with_reducible rfl)
          try simp only [Act.put, List.getElem_toArray, List.getElem_cons_zero, List.getElem_cons_succ, List.setIfInBounds_toArray, List.set_cons_zero, List.set_cons_succ]
          refine wpAnyH_ready (rs := [5]) (by kernel_rfl) (by simp) ?_
          refine AllReadyH.cons rfl (fun K hK => ?_) AllReadyH.nil
          go_simp
          go_at_call 29
          (with_reducible refine (HEN.out _).mono ?_)
          rintro e w4 ⟨rfl, hb40⟩
          have hb4 : Below wr.heap.size wr w4 := sbt hbd hb40
          go_wp2_with fail
          refine hK.out _ _ (HKS.out _ hb4) (fun hHeld2 => ?_)
          clear hK K hHeld
          try simp only [Act.put, List.getElem_toArray, List.getElem_cons_zero, List.getElem_cons_succ, List.setIfInBounds_toArray, List.set_cons_zero, List.set_cons_succ]
          refine wpAnyH_take (i := 12) (v := ?vft12) rfl (by kernel_rfl) (by kernel_rfl) (by kernel_rfl) (fun _ _ _ h => h) (Or.inl ⟨by rfl, ?yft12⟩) (by assumption) ?rft12
          case yft12 => (intro w hSw; (try dsimp only at hSw); go_simp; try with_reducible rfl)
          try simp only [Act.put, List.getElem_toArray, List.getElem_cons_zero, List.getElem_cons_succ, List.setIfInBounds_toArray, List.set_cons_zero, List.set_cons_succ]
          refine wpAnyH_take (i := 13) (v := ?vft13) rfl (by kernel_rfl) (by kernel_rfl) (by kernel_rfl) (fun _ _ _ h => h) (Or.inl ⟨by rfl, ?yft13⟩) (by assumption) ?rft13
          case yft13 => (intro w hSw; (try dsimp only at hSw); go_simp; try with_reducible rfl)
          try simp only [Act.put, List.getElem_toArray, List.getElem_cons_zero, List.getElem_cons_succ, List.setIfInBounds_toArray, List.set_cons_zero, List.set_cons_succ]
          refine wpAnyH_take (i := 14) (v := undef) rfl (by kernel_rfl) (by kernel_rfl) (by kernel_rfl) (fun _ _ _ h => h) (Or.inr ⟨by kernel_rfl, rfl⟩) (by assumption) ?_
          try simp only [Act.put, List.getElem_toArray, List.getElem_cons_zero, List.getElem_cons_succ, List.setIfInBounds_toArray, List.set_cons_zero, List.set_cons_succ]
          refine wpAnyH_take (i := 15) (v := undef) rfl (by kernel_rfl) (by kernel_rfl) (by kernel_rfl) (fun _ _ _ h => h) (Or.inr ⟨by kernel_rfl, rfl⟩) (by assumption) ?_
          try simp only [Act.put, List.getElem_toArray, List.getElem_cons_zero, List.getElem_cons_succ, List.setIfInBounds_toArray, List.set_cons_zero, List.set_cons_succ]
          refine wpAnyH_take (i := 16) (v := undef) rfl (by kernel_rfl) (by kernel_rfl) (by kernel_rfl) (fun _ _ _ h => h) (Or.inr ⟨by kernel_rfl, rfl⟩) (by assumption) ?_
          try simp only [Act.put, List.getElem_toArray, List.getElem_cons_zero, List.getElem_cons_succ, List.setIfInBounds_toArray, List.set_cons_zero, List.set_cons_succ]
          refine wpAnyH_take (i := 17) (v := undef) rfl (by kernel_rfl) (by kernel_rfl) (by kernel_rfl) (fun _ _ _ h => h) (Or.inr ⟨by kernel_rfl, rfl⟩) (by assumption) ?_
          try simp only [Act.put, List.getElem_toArray, List.getElem_cons_zero, List.getElem_cons_succ, List.setIfInBounds_toArray, List.set_cons_zero, List.set_cons_succ]
          refine wpAnyH_take (i := 18) (v := undef) rfl (by kernel_rfl) (by kernel_rfl) (by kernel_rfl) (fun _ _ _ h => h) (Or.inr ⟨by kernel_rfl, rfl⟩) (by assumption) ?_
          try simp only [Act.put, List.getElem_toArray, List.getElem_cons_zero, List.getElem_cons_succ, List.setIfInBounds_toArray, List.set_cons_zero, List.set_cons_succ]
          refine wpAnyH_take (i := 19) (v := undef) rfl (by kernel_rfl) (by kernel_rfl) (by kernel_rfl) (fun _ _ _ h => h) (Or.inr ⟨by kernel_rfl, rfl⟩) (by assumption) ?_
          try simp only [Act.put, List.getElem_toArray, List.getElem_cons_zero, List.getElem_cons_succ, List.setIfInBounds_toArray, List.set_cons_zero, List.set_cons_succ]
          refine wpAnyH_take (i := 20) (v := undef) rfl (by kernel_rfl) (by kernel_rfl) (by kernel_rfl) (fun _ _ _ h => h) (Or.inr ⟨by kernel_rfl, rfl⟩) (by assumption) ?_
          try simp only [Act.put, List.getElem_toArray, List.getElem_cons_zero, List.getElem_cons_succ, List.setIfInBounds_toArray, List.set_cons_zero, List.set_cons_succ]
          refine wpAnyH_take (i := 21) (v := undef) rfl (by kernel_rfl) (by kernel_rfl) (by kernel_rfl) (fun _ _ _ h => h) (Or.inr ⟨by kernel_rfl, rfl⟩) (by assumption) ?_
          try simp only [Act.put, List.getElem_toArray, List.getElem_cons_zero, List.getElem_cons_succ, List.setIfInBounds_toArray, List.set_cons_zero, List.set_cons_succ]
          refine wpAnyH_take (i := 22) (v := undef) rfl (by kernel_rfl) (by kernel_rfl) (by kernel_rfl) (fun _ _ _ h => h) (Or.inr ⟨by kernel_rfl, rfl⟩) (by assumption) ?_
          try simp only [Act.put, List.getElem_toArray, List.getElem_cons_zero, List.getElem_cons_succ, List.setIfInBounds_toArray, List.set_cons_zero, List.set_cons_succ]
          refine wpAnyH_take (i := 23) (v := ?vft23) rfl (by kernel_rfl) (by kernel_rfl) (by kernel_rfl) (fun _ _ _ h => h) (Or.inl ⟨by rfl, ?yft23⟩) (by assumption) ?rft23
          case yft23 => (intro w hSw; (try dsimp only at hSw); go_simp; try with_reducible rfl)
          try simp only [Act.put, List.getElem_toArray, List.getElem_cons_zero, List.getElem_cons_succ, List.setIfInBounds_toArray, List.set_cons_zero, List.set_cons_succ]
          refine wpAnyH_done (by kernel_rfl) ?_ _
          clear q6
          all_goals go_wp2_with fail
          all_goals
            go_ret
            exact ⟨sret_val (by rw [HR.out]; rfl), sbt HW2.out hb4⟩
        case true.false =>
          have HR := shid (show blockB fs bs k x = false by rw [HB3.out]; exact range_all_no hlt (by rw [HOK.out]; rfl))
          refine wp_region_held_drew (S := fun w' => w'.cell? ⟨ib, io + j * 9, none⟩ = some (.int .u8 y.op) ∧ w'.cell? ⟨ib, io + j * 9 + 1, none⟩ = some (.int .i64 y.d) ∧ w'.cell? ⟨ib, io + j * 9 + 2, none⟩ = some (.int .i64 y.a) ∧ w'.cell? ⟨ib, io + j * 9 + 3, none⟩ = some (.int .i64 y.b) ∧ w'.cell? ⟨ib, io + j * 9 + 4, none⟩ = some (.int .u32 y.n) ∧ w'.cell? ⟨ib, io + j * 9 + 5, none⟩ = some (.int .i64 y.f) ∧ w'.cell? ⟨ib, io + j * 9 + 6, none⟩ = some (.slice pa y.args.length ca) ∧ w'.cell? ⟨ib, io + j * 9 + 7, none⟩ = some (.int .i64 y.l1) ∧ w'.cell? ⟨ib, io + j * 9 + 8, none⟩ = some (.int .i64 y.l2) ∧ w'.cell? ⟨w.heap.size, 0, none⟩ = some (.int .i64 hp) ∧ w'.cell? ⟨w.heap.size, 1, none⟩ = some (.slice pt nt ct) ∧ w'.cell? ⟨w.heap.size, 2, none⟩ = some (.slice pf fs.length cf) ∧ w'.cell? ⟨w.heap.size + 1, 0, none⟩ = some (.string fnm) ∧ w'.cell? ⟨w.heap.size + 1, 1, none⟩ = some (.int .i64 fa) ∧ w'.cell? ⟨w.heap.size + 1, 2, none⟩ = some (.int .i64 fr) ∧ w'.cell? ⟨w.heap.size + 1, 3, none⟩ = some (.slice (some ⟨b, o, none⟩) bs.length cb) ∧ w'.cell? ⟨w.heap.size + 1 + 1, 0, none⟩ = some (.string x.name) ∧ w'.cell? ⟨w.heap.size + 1 + 1, 1, none⟩ = some (.slice (some ⟨ib, io, none⟩) x.ins.length ci)) (by kernel_rfl) (HKS.out _ hbd) (fun hHeld => ?_)
          refine wpAnyH_take (i := 0) (v := ?vtf0) rfl (by kernel_rfl) (by kernel_rfl) (by kernel_rfl) (fun _ _ _ h => h) (Or.inl ⟨by rfl, ?ytf0⟩) (by assumption) ?rtf0
          case ytf0 => (intro w hSw; (try dsimp only at hSw); go_simp; try with_reducible rfl)
          try simp only [Act.put, List.getElem_toArray, List.getElem_cons_zero, List.getElem_cons_succ, List.setIfInBounds_toArray, List.set_cons_zero, List.set_cons_succ]
          refine wpAnyH_take (i := 1) (v := ?vtf1) rfl (by kernel_rfl) (by kernel_rfl) (by kernel_rfl) (fun _ _ _ h => h) (Or.inl ⟨by rfl, ?ytf1⟩) (by assumption) ?rtf1
          case ytf1 => (intro w hSw; (try dsimp only at hSw); go_simp; try with_reducible rfl)
          try simp only [Act.put, List.getElem_toArray, List.getElem_cons_zero, List.getElem_cons_succ, List.setIfInBounds_toArray, List.set_cons_zero, List.set_cons_succ]
          refine wpAnyH_take (i := 2) (v := ?vtf2) rfl (by kernel_rfl) (by kernel_rfl) (by kernel_rfl) (fun _ _ _ h => h) (Or.inl ⟨by rfl, ?ytf2⟩) (by assumption) ?rtf2
          case ytf2 => (intro w hSw; (try dsimp only at hSw); go_simp; try with_reducible rfl)
          try simp only [Act.put, List.getElem_toArray, List.getElem_cons_zero, List.getElem_cons_succ, List.setIfInBounds_toArray, List.set_cons_zero, List.set_cons_succ]
          refine wpAnyH_take (i := 3) (v := ?vtf3) rfl (by kernel_rfl) (by kernel_rfl) (by kernel_rfl) (fun _ _ _ h => h) (Or.inl ⟨by rfl, ?ytf3⟩) (by assumption) ?rtf3
          case ytf3 => (intro w hSw; (try dsimp only at hSw); go_simp; try with_reducible rfl)
          try simp only [Act.put, List.getElem_toArray, List.getElem_cons_zero, List.getElem_cons_succ, List.setIfInBounds_toArray, List.set_cons_zero, List.set_cons_succ]
          refine wpAnyH_take (i := 4) (v := ?vtf4) rfl (by kernel_rfl) (by kernel_rfl) (by kernel_rfl) (fun _ _ _ h => h) (Or.inl ⟨by rfl, ?ytf4⟩) (by assumption) ?rtf4
          case ytf4 => (intro w hSw; (try dsimp only at hSw); go_simp; try with_reducible rfl)
          try simp only [Act.put, List.getElem_toArray, List.getElem_cons_zero, List.getElem_cons_succ, List.setIfInBounds_toArray, List.set_cons_zero, List.set_cons_succ]
          refine wpAnyH_take (i := 6) (v := ?vtf6) rfl (by kernel_rfl) (by kernel_rfl) (by kernel_rfl) (fun _ _ _ h => h) (Or.inl ⟨by rfl, ?ytf6⟩) (by assumption) ?rtf6
          case ytf6 => (intro w hSw; (try dsimp only at hSw); go_simp; try with_reducible rfl)
          try simp only [Act.put, List.getElem_toArray, List.getElem_cons_zero, List.getElem_cons_succ, List.setIfInBounds_toArray, List.set_cons_zero, List.set_cons_succ]
          refine wpAnyH_take (i := 7) (v := ?vtf7) rfl (by kernel_rfl) (by kernel_rfl) (by kernel_rfl) (fun _ _ _ h => h) (Or.inl ⟨by rfl, ?ytf7⟩) (by assumption) ?rtf7
          case ytf7 => (intro w hSw; (try dsimp only at hSw); go_simp; try with_reducible rfl)
          try simp only [Act.put, List.getElem_toArray, List.getElem_cons_zero, List.getElem_cons_succ, List.setIfInBounds_toArray, List.set_cons_zero, List.set_cons_succ]
          refine wpAnyH_take (i := 8) (v := ?vtf8) rfl (by kernel_rfl) (by kernel_rfl) (by kernel_rfl) (fun _ _ _ h => h) (Or.inl ⟨by rfl, ?ytf8⟩) (by assumption) ?rtf8
          case ytf8 => (intro w hSw; (try dsimp only at hSw); go_simp; try with_reducible rfl)
          try simp only [Act.put, List.getElem_toArray, List.getElem_cons_zero, List.getElem_cons_succ, List.setIfInBounds_toArray, List.set_cons_zero, List.set_cons_succ]
          refine wpAnyH_take (i := 9) (v := ?vtf9) rfl (by kernel_rfl) (by kernel_rfl) (by kernel_rfl) (fun _ _ _ h => h) (Or.inl ⟨by rfl, ?ytf9⟩) (by assumption) ?rtf9
          case ytf9 => (intro w hSw; (try dsimp only at hSw); go_simp; try with_reducible rfl)
          try simp only [Act.put, List.getElem_toArray, List.getElem_cons_zero, List.getElem_cons_succ, List.setIfInBounds_toArray, List.set_cons_zero, List.set_cons_succ]
          refine wpAnyH_take (i := 10) (v := ?vtf10) rfl (by kernel_rfl) (by kernel_rfl) (by kernel_rfl) (fun _ _ _ h => h) (Or.inl ⟨by rfl, ?ytf10⟩) (by assumption) ?rtf10
          case ytf10 => (intro w hSw; (try dsimp only at hSw); go_simp; try with_reducible rfl)
          try simp only [Act.put, List.getElem_toArray, List.getElem_cons_zero, List.getElem_cons_succ, List.setIfInBounds_toArray, List.set_cons_zero, List.set_cons_succ]
          refine wpAnyH_take (i := 11) (v := ?vtf11) rfl (by kernel_rfl) (by kernel_rfl) (by kernel_rfl) (fun _ _ _ h => h) (Or.inl ⟨by rfl, ?ytf11⟩) (by assumption) ?rtf11
          case ytf11 => (intro w hSw; (try dsimp only at hSw); go_simp; try with_reducible rfl)
          try simp only [Act.put, List.getElem_toArray, List.getElem_cons_zero, List.getElem_cons_succ, List.setIfInBounds_toArray, List.set_cons_zero, List.set_cons_succ]
          refine wpAnyH_ready (rs := [5]) (by kernel_rfl) (by simp) ?_
          refine AllReadyH.cons rfl (fun K hK => ?_) AllReadyH.nil
          go_simp
          go_at_call 29
          (with_reducible refine (HEN.out _).mono ?_)
          rintro e w4 ⟨rfl, hb40⟩
          have hb4 : Below wr.heap.size wr w4 := sbt hbd hb40
          go_wp2_with fail
          refine hK.out _ _ (HKS.out _ hb4) (fun hHeld2 => ?_)
          clear hK K hHeld
          try simp only [Act.put, List.getElem_toArray, List.getElem_cons_zero, List.getElem_cons_succ, List.setIfInBounds_toArray, List.set_cons_zero, List.set_cons_succ]
          refine wpAnyH_take (i := 12) (v := ?vtf12) rfl (by kernel_rfl) (by kernel_rfl) (by kernel_rfl) (fun _ _ _ h => h) (Or.inl ⟨by rfl, ?ytf12⟩) (by assumption) ?rtf12
          case ytf12 => (intro w hSw; (try dsimp only at hSw); go_simp; try with_reducible rfl)
          try simp only [Act.put, List.getElem_toArray, List.getElem_cons_zero, List.getElem_cons_succ, List.setIfInBounds_toArray, List.set_cons_zero, List.set_cons_succ]
          refine wpAnyH_take (i := 13) (v := ?vtf13) rfl (by kernel_rfl) (by kernel_rfl) (by kernel_rfl) (fun _ _ _ h => h) (Or.inl ⟨by rfl, ?ytf13⟩) (by assumption) ?rtf13
          case ytf13 => (intro w hSw; (try dsimp only at hSw); go_simp; try with_reducible rfl)
          try simp only [Act.put, List.getElem_toArray, List.getElem_cons_zero, List.getElem_cons_succ, List.setIfInBounds_toArray, List.set_cons_zero, List.set_cons_succ]
          refine wpAnyH_take (i := 14) (v := undef) rfl (by kernel_rfl) (by kernel_rfl) (by kernel_rfl) (fun _ _ _ h => h) (Or.inr ⟨by kernel_rfl, rfl⟩) (by assumption) ?_
          try simp only [Act.put, List.getElem_toArray, List.getElem_cons_zero, List.getElem_cons_succ, List.setIfInBounds_toArray, List.set_cons_zero, List.set_cons_succ]
          refine wpAnyH_take (i := 15) (v := undef) rfl (by kernel_rfl) (by kernel_rfl) (by kernel_rfl) (fun _ _ _ h => h) (Or.inr ⟨by kernel_rfl, rfl⟩) (by assumption) ?_
          try simp only [Act.put, List.getElem_toArray, List.getElem_cons_zero, List.getElem_cons_succ, List.setIfInBounds_toArray, List.set_cons_zero, List.set_cons_succ]
          refine wpAnyH_take (i := 16) (v := undef) rfl (by kernel_rfl) (by kernel_rfl) (by kernel_rfl) (fun _ _ _ h => h) (Or.inr ⟨by kernel_rfl, rfl⟩) (by assumption) ?_
          try simp only [Act.put, List.getElem_toArray, List.getElem_cons_zero, List.getElem_cons_succ, List.setIfInBounds_toArray, List.set_cons_zero, List.set_cons_succ]
          refine wpAnyH_take (i := 17) (v := undef) rfl (by kernel_rfl) (by kernel_rfl) (by kernel_rfl) (fun _ _ _ h => h) (Or.inr ⟨by kernel_rfl, rfl⟩) (by assumption) ?_
          try simp only [Act.put, List.getElem_toArray, List.getElem_cons_zero, List.getElem_cons_succ, List.setIfInBounds_toArray, List.set_cons_zero, List.set_cons_succ]
          refine wpAnyH_take (i := 18) (v := undef) rfl (by kernel_rfl) (by kernel_rfl) (by kernel_rfl) (fun _ _ _ h => h) (Or.inr ⟨by kernel_rfl, rfl⟩) (by assumption) ?_
          try simp only [Act.put, List.getElem_toArray, List.getElem_cons_zero, List.getElem_cons_succ, List.setIfInBounds_toArray, List.set_cons_zero, List.set_cons_succ]
          refine wpAnyH_take (i := 19) (v := undef) rfl (by kernel_rfl) (by kernel_rfl) (by kernel_rfl) (fun _ _ _ h => h) (Or.inr ⟨by kernel_rfl, rfl⟩) (by assumption) ?_
          try simp only [Act.put, List.getElem_toArray, List.getElem_cons_zero, List.getElem_cons_succ, List.setIfInBounds_toArray, List.set_cons_zero, List.set_cons_succ]
          refine wpAnyH_take (i := 20) (v := undef) rfl (by kernel_rfl) (by kernel_rfl) (by kernel_rfl) (fun _ _ _ h => h) (Or.inr ⟨by kernel_rfl, rfl⟩) (by assumption) ?_
          try simp only [Act.put, List.getElem_toArray, List.getElem_cons_zero, List.getElem_cons_succ, List.setIfInBounds_toArray, List.set_cons_zero, List.set_cons_succ]
          refine wpAnyH_take (i := 21) (v := undef) rfl (by kernel_rfl) (by kernel_rfl) (by kernel_rfl) (fun _ _ _ h => h) (Or.inr ⟨by kernel_rfl, rfl⟩) (by assumption) ?_
          try simp only [Act.put, List.getElem_toArray, List.getElem_cons_zero, List.getElem_cons_succ, List.setIfInBounds_toArray, List.set_cons_zero, List.set_cons_succ]
          refine wpAnyH_take (i := 22) (v := undef) rfl (by kernel_rfl) (by kernel_rfl) (by kernel_rfl) (fun _ _ _ h => h) (Or.inr ⟨by kernel_rfl, rfl⟩) (by assumption) ?_
          try simp only [Act.put, List.getElem_toArray, List.getElem_cons_zero, List.getElem_cons_succ, List.setIfInBounds_toArray, List.set_cons_zero, List.set_cons_succ]
          refine wpAnyH_take (i := 23) (v := ?vtf23) rfl (by kernel_rfl) (by kernel_rfl) (by kernel_rfl) (fun _ _ _ h => h) (Or.inl ⟨by rfl, ?ytf23⟩) (by assumption) ?rtf23
          case ytf23 => (intro w hSw; (try dsimp only at hSw); go_simp; try with_reducible rfl)
          try simp only [Act.put, List.getElem_toArray, List.getElem_cons_zero, List.getElem_cons_succ, List.setIfInBounds_toArray, List.set_cons_zero, List.set_cons_succ]
          refine wpAnyH_done (by kernel_rfl) ?_ _
          clear q6
          all_goals go_wp2_with fail
          all_goals
            go_ret
            exact ⟨sret_val (by rw [HR.out]; rfl), sbt HW2.out hb4⟩
        case true.true =>
          cases ibb
          case false =>
            have HR := shid (show blockB fs bs k x = false by rw [HB3.out]; exact range_all_no hlt (by rw [HOK.out]; rfl))
            first | (go_region_held3 (fun w' => w'.cell? ⟨ib, io + j * 9, none⟩ = some (.int .u8 y.op) ∧ w'.cell? ⟨ib, io + j * 9 + 1, none⟩ = some (.int .i64 y.d) ∧ w'.cell? ⟨ib, io + j * 9 + 2, none⟩ = some (.int .i64 y.a) ∧ w'.cell? ⟨ib, io + j * 9 + 3, none⟩ = some (.int .i64 y.b) ∧ w'.cell? ⟨ib, io + j * 9 + 4, none⟩ = some (.int .u32 y.n) ∧ w'.cell? ⟨ib, io + j * 9 + 5, none⟩ = some (.int .i64 y.f) ∧ w'.cell? ⟨ib, io + j * 9 + 6, none⟩ = some (.slice pa y.args.length ca) ∧ w'.cell? ⟨ib, io + j * 9 + 7, none⟩ = some (.int .i64 y.l1) ∧ w'.cell? ⟨ib, io + j * 9 + 8, none⟩ = some (.int .i64 y.l2) ∧ w'.cell? ⟨w.heap.size, 0, none⟩ = some (.int .i64 hp) ∧ w'.cell? ⟨w.heap.size, 1, none⟩ = some (.slice pt nt ct) ∧ w'.cell? ⟨w.heap.size, 2, none⟩ = some (.slice pf fs.length cf) ∧ w'.cell? ⟨w.heap.size + 1, 0, none⟩ = some (.string fnm) ∧ w'.cell? ⟨w.heap.size + 1, 1, none⟩ = some (.int .i64 fa) ∧ w'.cell? ⟨w.heap.size + 1, 2, none⟩ = some (.int .i64 fr) ∧ w'.cell? ⟨w.heap.size + 1, 3, none⟩ = some (.slice (some ⟨b, o, none⟩) bs.length cb) ∧ w'.cell? ⟨w.heap.size + 1 + 1, 0, none⟩ = some (.string x.name) ∧ w'.cell? ⟨w.heap.size + 1 + 1, 1, none⟩ = some (.slice (some ⟨ib, io, none⟩) x.ins.length ci)) (first | (with_reducible exact HKS.out _ hbd) | (with_reducible exact HKS.out _ hb4) | (with_reducible exact HKS.out _ hb5) | (refine HKS.out _ ?_; first | assumption | (go_grown; done)))
              (first
                | (go_at_call 29; (with_reducible refine (HEN.out _).mono ?_); rintro e w4 ⟨rfl, hb40⟩; have hb4 : Below wr.heap.size wr w4 := sbt hbd hb40; have hle4 : wr.heap.size ≤ w4.heap.size := hb4.size)
                | (go_at_call 45; (with_reducible refine (HIN.out _ hb4).mono ?_); rintro e w5 ⟨rfl, hb50⟩; have hb5 : Below wr.heap.size wr w5 := sbt hb4 hb50; have hle5 : wr.heap.size ≤ w5.heap.size := hb5.size))) | fail
            clear q6
            all_goals go_wp2_with fail
            all_goals
              go_ret
              exact ⟨sret_val (by rw [HR.out]; rfl), sbt HW2.out hb5⟩
          case true =>
            have HR := shid (show (List.range (j + 1)).all (okAt fs bs.length x.ins) = true from range_all_ok HFA.out (by rw [HOK.out]; rfl))
            first | (go_region_held3 (fun w' => w'.cell? ⟨ib, io + j * 9, none⟩ = some (.int .u8 y.op) ∧ w'.cell? ⟨ib, io + j * 9 + 1, none⟩ = some (.int .i64 y.d) ∧ w'.cell? ⟨ib, io + j * 9 + 2, none⟩ = some (.int .i64 y.a) ∧ w'.cell? ⟨ib, io + j * 9 + 3, none⟩ = some (.int .i64 y.b) ∧ w'.cell? ⟨ib, io + j * 9 + 4, none⟩ = some (.int .u32 y.n) ∧ w'.cell? ⟨ib, io + j * 9 + 5, none⟩ = some (.int .i64 y.f) ∧ w'.cell? ⟨ib, io + j * 9 + 6, none⟩ = some (.slice pa y.args.length ca) ∧ w'.cell? ⟨ib, io + j * 9 + 7, none⟩ = some (.int .i64 y.l1) ∧ w'.cell? ⟨ib, io + j * 9 + 8, none⟩ = some (.int .i64 y.l2) ∧ w'.cell? ⟨w.heap.size, 0, none⟩ = some (.int .i64 hp) ∧ w'.cell? ⟨w.heap.size, 1, none⟩ = some (.slice pt nt ct) ∧ w'.cell? ⟨w.heap.size, 2, none⟩ = some (.slice pf fs.length cf) ∧ w'.cell? ⟨w.heap.size + 1, 0, none⟩ = some (.string fnm) ∧ w'.cell? ⟨w.heap.size + 1, 1, none⟩ = some (.int .i64 fa) ∧ w'.cell? ⟨w.heap.size + 1, 2, none⟩ = some (.int .i64 fr) ∧ w'.cell? ⟨w.heap.size + 1, 3, none⟩ = some (.slice (some ⟨b, o, none⟩) bs.length cb) ∧ w'.cell? ⟨w.heap.size + 1 + 1, 0, none⟩ = some (.string x.name) ∧ w'.cell? ⟨w.heap.size + 1 + 1, 1, none⟩ = some (.slice (some ⟨ib, io, none⟩) x.ins.length ci)) (first | (with_reducible exact HKS.out _ hbd) | (with_reducible exact HKS.out _ hb4) | (with_reducible exact HKS.out _ hb5) | (refine HKS.out _ ?_; first | assumption | (go_grown; done)))
              (first
                | (go_at_call 29; (with_reducible refine (HEN.out _).mono ?_); rintro e w4 ⟨rfl, hb40⟩; have hb4 : Below wr.heap.size wr w4 := sbt hbd hb40; have hle4 : wr.heap.size ≤ w4.heap.size := hb4.size)
                | (go_at_call 45; (with_reducible refine (HIN.out _ hb4).mono ?_); rintro e w5 ⟨rfl, hb50⟩; have hb5 : Below wr.heap.size wr w5 := sbt hb4 hb50; have hle5 : wr.heap.size ≤ w5.heap.size := hb5.size))) | fail
            clear q6
            all_goals go_wp2_with fail
            all_goals
              go_roundw
              case rel => exact ⟨j + 1, by omega, by go_num, HR.out, sbt HBW.out hb5⟩
              case measure => simp [intOf]; omega
      · obtain rfl : j = x.ins.length := by omega
        have HR := shid (show blockB fs bs k x = true by rw [HB3.out]; exact HFA.out)
        go_wp2_with fail
        go_ret
        exact ⟨sret_val (by rw [HR.out]; rfl), sbt HW1.out HBW.out⟩
end Go.Proofs.Ythahjnjkiljaaaa
