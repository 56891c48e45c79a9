/- The walk of shape.block. -/
import Derived.Test.YtdefooailcbnlaaG17
import Derived.Test.YtdefooailcbnlaaG14
import Derived.Deep.RegionLaw
import Derived.IntWalk
namespace Go.Proofs.Ytdefooailcbnlaa
open Go.RowKit
set_option linter.unusedVariables false
set_option linter.unusedSimpArgs false
def insX (fs : List Fnx) (nb : Nat) (y : Insx) : Bool := decide (insF fs nb y.op y.d y.a y.b y.n y.f y.args y.l1 y.l2)
/-- Whether an instruction may be where it stands. -/
def okAt (fs : List Fnx) (nb : Nat) (l : List Insx) (i : Nat) : Bool :=
  match l[i]? with
  | some y => (endsB y == decide (i + 1 = l.length)) && insX fs nb y
  | none => true
theorem okAt_some {fs : List Fnx} {nb : Nat} {l : List Insx} {i : Nat} {y : Insx} (h : l[i]? = some y) : okAt fs nb l i = ((endsB y == decide (i + 1 = l.length)) && insX fs nb y) := by simp [okAt, h]
def blockB (fs : List Fnx) (bs : List Blk) (n : Nat) (x : Blk) : Bool :=
  !twiceB (blkNames bs) n && decide (0 < x.ins.length) && (List.range x.ins.length).all (okAt fs bs.length x.ins)
theorem range_all_ok {k : Nat} {f : Nat → Bool} (h : (List.range k).all f = true) (hk : f k = true) : (List.range (k + 1)).all f = true := by
  rw [List.range_succ, List.all_append, h]; simp [hk]
theorem range_all_no {n k : Nat} {f : Nat → Bool} (h : k < n) (hk : f k = false) : (List.range n).all f = false :=
  List.all_eq_false.2 ⟨k, List.mem_range.2 h, by simp [hk]⟩
set_option maxRecDepth 100000 in
set_option maxHeartbeats 4000000 in
theorem block_any (fs : List Fnx) (hp : Int) (pt : Option Addr) (nt ct : Nat) (pf : Option Addr) (cf : Nat) (fnm : ByteArray) (fa fr : Int) (bs : List Blk) (pb : Option Addr) (cb : Nat) (n : Nat) (x : Blk) (hx : bs[n]? = some x) (w : World) (hF : FnsIn w (.slice pf fs.length cf) fs) (hB : BlksIn w (.slice pb bs.length cb) bs) :
    Calls Try.prog 35 #[.agg #[.int .i64 hp, .slice pt nt ct, .slice pf fs.length cf], .agg #[.string fnm, .int .i64 fa, .int .i64 fr, .slice pb bs.length cb], .int .i64 n] w fun e w' => e = .returned (.bool (blockB fs bs n x)) ∧ Below w.heap.size w w' := by
  have hn : n < bs.length := (List.getElem?_eq_some_iff.1 hx).1
  have hbl := hB.1
  have hfl := hF.1
  have HX := shid hx
  have HFN := shid hF
  have HBN := shid hB
  obtain ⟨pbb, cbb, b, o, hbe, _, HBS⟩ := hB.hids
  cases hbe
  obtain rfl := HBS.out.1 (by omega)
  have HW0 := shid (al2 w (.cells #[.int .i64 hp, .slice pt nt ct, .slice pf fs.length cf] 25) (.cells #[.string fnm, .int .i64 fa, .int .i64 fr, .slice (some ⟨b, o, none⟩) bs.length cb] 41))
  obtain ⟨c0, ⟨iv, c1, hiv⟩, hnm⟩ := (HBS.out.2 n x hx).keep HW0.out
  obtain ⟨pi, ci, rfl⟩ := hiv.shape
  have HIB := shid hiv.bds
  have hil := hiv.1
  have HNM := shid hnm
  obtain ⟨_, _, ib, io, hie, _, HIS⟩ := hiv.hids
  cases hie
  have HPI := shid HIS.out.1
  have HBF := shid (FBox.new (w.alloc (.cells #[.int .i64 hp, .slice pt nt ct, .slice pf fs.length cf] 25)) fnm fa fr (.slice (some ⟨b, o, none⟩) bs.length cb) 41)
  have HBP := shid ((PBox.new w hp (.slice pt nt ct) (.slice pf fs.length cf) 25).keep (al1 _ (.cells #[.string fnm, .int .i64 fa, .int .i64 fr, .slice (some ⟨b, o, none⟩) bs.length cb] 41)))
  have HBK := shid (BBox.new ((w.alloc (.cells #[.int .i64 hp, .slice pt nt ct, .slice pf fs.length cf] 25)).alloc (.cells #[.string fnm, .int .i64 fa, .int .i64 fr, .slice (some ⟨b, o, none⟩) bs.length cb] 41)) x.name (.slice pi x.ins.length ci) 46)
  have HWK := shid (al1 ((w.alloc (.cells #[.int .i64 hp, .slice pt nt ct, .slice pf fs.length cf] 25)).alloc (.cells #[.string fnm, .int .i64 fa, .int .i64 fr, .slice (some ⟨b, o, none⟩) bs.length cb] 41)) (.cells #[.string x.name, .slice pi x.ins.length ci] 46))
  have HWW := shid (sbt HW0.out HWK.out)
  have HKI := shid (fun (W : World) (hb : Below (((w.alloc (.cells #[.int .i64 hp, .slice pt nt ct, .slice pf fs.length cf] 25)).alloc (.cells #[.string fnm, .int .i64 fa, .int .i64 fr, .slice (some ⟨b, o, none⟩) bs.length cb] 41)).alloc (.cells #[.string x.name, .slice pi x.ins.length ci] 46)).heap.size (((w.alloc (.cells #[.int .i64 hp, .slice pt nt ct, .slice pf fs.length cf] 25)).alloc (.cells #[.string fnm, .int .i64 fa, .int .i64 fr, .slice (some ⟨b, o, none⟩) bs.length cb] 41)).alloc (.cells #[.string x.name, .slice pi x.ins.length ci] 46)) W) (j : Nat) (y : Insx) (hy : x.ins[j]? = some y) => (HIS.out.2 j y hy).keep (sbt HWK.out hb))
  have HBB := shid (show blockB fs bs n x = (!twiceB (blkNames bs) n && decide (0 < x.ins.length) && (List.range x.ins.length).all (okAt fs bs.length x.ins)) from rfl)
  have HTW := shid (twice_block (blkNames bs) n bs.length hn (by omega) (by rw [blkNames_at hx]; exact hnm) (w.heap.size + 1) (((w.alloc (.cells #[.int .i64 hp, .slice pt nt ct, .slice pf fs.length cf] 25)).alloc (.cells #[.string fnm, .int .i64 fa, .int .i64 fr, .slice (some ⟨b, o, none⟩) bs.length cb] 41)).alloc (.cells #[.string x.name, .slice pi x.ins.length ci] 46)) (shid fun i hi => blockf_any fnm fa fr bs _ cb (w.heap.size + 1) _ (by have h := HBF.out.keep HWK.out; simp only [World.size_alloc] at h; exact h) (BlksIn.keep HBN.out HWW.out) i hi))
  have h1 : (n : Int) < bs.length := by omega
  simp only [World.size_alloc] at HBF HBK HTW
  have HBF1 := shid (HBF.out.keep HWK.out)
  have HBP1 := shid (HBP.out.keep HWK.out)
  clear hiv hx hF hB hnm HIS HBF HBP HBS
  generalize twiceB (blkNames bs) n = tw at *
  cases tw
  case true =>
    have HR := shid (show blockB fs bs n x = false from HBB.out)
    go_enter Try.func35, Try.ntmps35
    go_wp2_with (go_at_call 57; (with_reducible refine HTW.out.mono ?_); rintro e w7 ⟨rfl, rfl⟩)
    go_ret
    exact ⟨sret_val (by rw [HR.out]; rfl), HWW.out⟩
  have HB2 : Hid (blockB fs bs n x = (decide (0 < x.ins.length) && (List.range x.ins.length).all (okAt fs bs.length x.ins))) := shid HBB.out
  clear HBB
  by_cases h0 : 0 < x.ins.length
  case neg =>
    have q0 : ((x.ins.length : Int) == 0) = true := by rw [beq_iff_eq]; omega
    have HR := shid (show blockB fs bs n x = false by rw [HB2.out, decide_eq_false h0]; rfl)
    clear h0
    obtain ⟨_, k0, k1⟩ := HBK.out
    go_enter Try.func35, Try.ntmps35
    go_wp2_with (go_at_call 57; (with_reducible refine HTW.out.mono ?_); rintro e w7 ⟨rfl, rfl⟩)
    go_ret
    exact ⟨sret_val (by rw [HR.out]; rfl), HWW.out⟩
  have q0 : ((x.ins.length : Int) == 0) = false := by rw [beq_eq_false_iff_ne]; omega
  have HB3 : Hid (blockB fs bs n x = (List.range x.ins.length).all (okAt fs bs.length x.ins)) := shid (by rw [HB2.out, decide_eq_true h0]; rfl)
  obtain ⟨_, k0, k1⟩ := HBK.out
  go_enter Try.func35, Try.ntmps35
  go_wp2_with (go_at_call 57; (with_reducible refine HTW.out.mono ?_); rintro e w7 ⟨rfl, rfl⟩)
  generalize (((w.alloc (.cells #[.int .i64 hp, .slice pt nt ct, .slice pf fs.length cf] 25)).alloc (.cells #[.string fnm, .int .i64 fa, .int .i64 fr, .slice (some ⟨b, o, none⟩) bs.length cb] 41)).alloc (.cells #[.string x.name, .slice pi x.ins.length ci] 46)) = W1 at *
  clear c0 c1 k0 k1 HB2 HTW HWK HW0
  obtain rfl := HPI.out h0
  go_loopw [27] (fun i wr => ∃ k : Nat, k ≤ x.ins.length ∧ i = .int .i64 k ∧ (List.range k).all (okAt fs bs.length x.ins) = true ∧ Below W1.heap.size W1 wr) (fun i _ => x.ins.length - (intOf i).toNat)
  case atStart => exact ⟨0, Nat.zero_le _, rfl, by simp, Below.refl _ _⟩
  case round =>
    obtain ⟨k, hk, rfl, hf, hbw⟩ := hrel
    have HFA := shid hf
    have HBW := shid hbw
    clear hf hbw
    by_cases hlt : k < x.ins.length
    · have HY := shid (List.getElem?_eq_getElem hlt)
      generalize x.ins[k] = y at HY
      obtain ⟨d0, d1, d2, d3, d4, d5, ⟨va, d6, hva⟩, d7, d8, hybd⟩ := HKI.out _ HBW.out k y HY.out
      obtain ⟨pa, ca, rfl⟩ := hva.shape
      have h2 : (k : Int) < x.ins.length := by omega
      have HOK := shid (okAt_some (fs := fs) (nb := bs.length) HY.out)
      have HXB := shid (IBox.new wr y (.slice pa y.args.length ca) 44)
      have HWY := shid (al1 wr (.cells #[.int .u8 y.op, .int .i64 y.d, .int .i64 y.a, .int .i64 y.b, .int .u32 y.n, .int .i64 y.f, .slice pa y.args.length ca, .int .i64 y.l1, .int .i64 y.l2] 44))
      have HBF2 := shid (HBF1.out.keep (sbt HBW.out HWY.out))
      have HBP2 := shid (HBP1.out.keep (sbt HBW.out HWY.out))
      have HBK2 := shid (HBK.out.keep (sbt HBW.out HWY.out))
      have HW2 := shid (sbt HWW.out (sbt HBW.out HWY.out))
      have HB12 := shid (sbt HBW.out HWY.out)
      have HVA := shid hva
      have HYB := shid hybd
      have HZ := shid (show w.heap.size + 1 + 1 < wr.heap.size from Nat.lt_of_lt_of_le HBK.out.lt HBW.out.size)
      have HEN := shid (fun W => ends_any y hybd pa y.args.length ca W)
      have HIN := shid (fun (W : World) (hb : Below (wr.alloc (.cells #[.int .u8 y.op, .int .i64 y.d, .int .i64 y.a, .int .i64 y.b, .int .u32 y.n, .int .i64 y.f, .slice pa y.args.length ca, .int .i64 y.l1, .int .i64 y.l2] 44)).heap.size (wr.alloc (.cells #[.int .u8 y.op, .int .i64 y.d, .int .i64 y.a, .int .i64 y.b, .int .u32 y.n, .int .i64 y.f, .slice pa y.args.length ca, .int .i64 y.l1, .int .i64 y.l2] 44)) W) => ins_any y.op hybd.1.1 y.d y.a y.b y.n y.f y.l1 y.l2 fs bs.length (by omega) y.args hp pt nt ct pf cf fnm fa fr (some ⟨b, o, none⟩) cb pa ca W (FnsIn.keep HFN.out (sbt HW2.out hb)) (IntsIn.keep HVA.out (sbt HWY.out hb)))
      have HINX := shid (show decide (insF fs bs.length y.op y.d y.a y.b y.n y.f y.args y.l1 y.l2) = insX fs bs.length y from rfl)
      generalize decide (insF fs bs.length y.op y.d y.a y.b y.n y.f y.args y.l1 y.l2) = ibb at HIN HINX
      generalize insX fs bs.length y = ibv at HINX HOK
      obtain rfl := HINX.out
      unfold Insx.agg at HEN
      generalize endsB y = eb at HEN HOK
      clear hva hybd HINX
      go_wp2_with fail
      clear d0 d1 d2 d3 d4 d5 d6 d7 d8
      generalize wr.alloc (.cells #[.int .u8 y.op, .int .i64 y.d, .int .i64 y.a, .int .i64 y.b, .int .u32 y.n, .int .i64 y.f, .slice pa y.args.length ca, .int .i64 y.l1, .int .i64 y.l2] 44) = W2 at *
      generalize wr.heap.size = G at *
      have HKS : Hid (∀ w', Below W2.heap.size W2 w' → w'.cell? ⟨G, 0, none⟩ = some (.int .u8 y.op) ∧ w'.cell? ⟨G, 1, none⟩ = some (.int .i64 y.d) ∧ w'.cell? ⟨G, 2, none⟩ = some (.int .i64 y.a) ∧ w'.cell? ⟨G, 3, none⟩ = some (.int .i64 y.b) ∧ w'.cell? ⟨G, 4, none⟩ = some (.int .u32 y.n) ∧ w'.cell? ⟨G, 5, none⟩ = some (.int .i64 y.f) ∧ w'.cell? ⟨G, 6, none⟩ = some (.slice pa y.args.length ca) ∧ w'.cell? ⟨G, 7, none⟩ = some (.int .i64 y.l1) ∧ w'.cell? ⟨G, 8, none⟩ = some (.int .i64 y.l2) ∧ w'.cell? ⟨w.heap.size, 0, none⟩ = some (.int .i64 hp) ∧ w'.cell? ⟨w.heap.size, 1, none⟩ = some (.slice pt nt ct) ∧ w'.cell? ⟨w.heap.size, 2, none⟩ = some (.slice pf fs.length cf) ∧ w'.cell? ⟨w.heap.size + 1, 0, none⟩ = some (.string fnm) ∧ w'.cell? ⟨w.heap.size + 1, 1, none⟩ = some (.int .i64 fa) ∧ w'.cell? ⟨w.heap.size + 1, 2, none⟩ = some (.int .i64 fr) ∧ w'.cell? ⟨w.heap.size + 1, 3, none⟩ = some (.slice (some ⟨b, o, none⟩) bs.length cb) ∧ w'.cell? ⟨w.heap.size + 1 + 1, 0, none⟩ = some (.string x.name) ∧ w'.cell? ⟨w.heap.size + 1 + 1, 1, none⟩ = some (.slice (some ⟨ib, io, none⟩) x.ins.length ci)) := shid fun w' hb => by
        obtain ⟨_, b0, b1, b2, b3, b4, b5, b6, b7, b8⟩ := HXB.out.keep hb
        obtain ⟨_, p0, p1, p2⟩ := HBP2.out.keep hb
        obtain ⟨_, f0, f1, f2, f3⟩ := HBF2.out.keep hb
        obtain ⟨_, k0, k1⟩ := HBK2.out.keep hb
        exact ⟨b0, b1, b2, b3, b4, b5, b6, b7, b8, p0, p1, p2, f0, f1, f2, f3, k0, k1⟩
      have hle : W2.heap.size ≤ W2.heap.size := Nat.le_refl _
      have hbd : Below W2.heap.size W2 W2.drew := (Below.refl _ _).drew
      have HEQ : Hid (((k : Int) == (x.ins.length : Int) - 1) = decide (k + 1 = x.ins.length)) := shid (by rw [Bool.eq_iff_iff]; simp; omega)
      generalize decide (k + 1 = x.ins.length) = bl at HEQ HOK
      have q5 := HEQ.out
      have q6 : IntKind.i64.wrap ((x.ins.length : Int) - 1) = (x.ins.length : Int) - 1 := IntWalk.i64_in _ (by omega)
      cases eb <;> cases bl
      case false.false =>
        cases ibb
        case false =>
          have HR := shid (show blockB fs bs n x = false by rw [HB3.out]; exact range_all_no hlt (by rw [HOK.out]; rfl))
          first | (go_region_held3 (fun w' => w'.cell? ⟨G, 0, none⟩ = some (.int .u8 y.op) ∧ w'.cell? ⟨G, 1, none⟩ = some (.int .i64 y.d) ∧ w'.cell? ⟨G, 2, none⟩ = some (.int .i64 y.a) ∧ w'.cell? ⟨G, 3, none⟩ = some (.int .i64 y.b) ∧ w'.cell? ⟨G, 4, none⟩ = some (.int .u32 y.n) ∧ w'.cell? ⟨G, 5, none⟩ = some (.int .i64 y.f) ∧ w'.cell? ⟨G, 6, none⟩ = some (.slice pa y.args.length ca) ∧ w'.cell? ⟨G, 7, none⟩ = some (.int .i64 y.l1) ∧ w'.cell? ⟨G, 8, none⟩ = some (.int .i64 y.l2) ∧ w'.cell? ⟨w.heap.size, 0, none⟩ = some (.int .i64 hp) ∧ w'.cell? ⟨w.heap.size, 1, none⟩ = some (.slice pt nt ct) ∧ w'.cell? ⟨w.heap.size, 2, none⟩ = some (.slice pf fs.length cf) ∧ w'.cell? ⟨w.heap.size + 1, 0, none⟩ = some (.string fnm) ∧ w'.cell? ⟨w.heap.size + 1, 1, none⟩ = some (.int .i64 fa) ∧ w'.cell? ⟨w.heap.size + 1, 2, none⟩ = some (.int .i64 fr) ∧ w'.cell? ⟨w.heap.size + 1, 3, none⟩ = some (.slice (some ⟨b, o, none⟩) bs.length cb) ∧ w'.cell? ⟨w.heap.size + 1 + 1, 0, none⟩ = some (.string x.name) ∧ w'.cell? ⟨w.heap.size + 1 + 1, 1, none⟩ = some (.slice (some ⟨ib, io, none⟩) x.ins.length ci)) (first | (with_reducible exact HKS.out _ hbd) | (with_reducible exact HKS.out _ hb4) | (with_reducible exact HKS.out _ hb5) | (refine HKS.out _ ?_; first | assumption | (go_grown; done)))
            (first
              | (go_at_call 61; (with_reducible refine (HEN.out _).mono ?_); rintro e w4 ⟨rfl, hb40⟩; have hb4 : Below W2.heap.size W2 w4 := sbt hbd hb40; have hle4 : W2.heap.size ≤ w4.heap.size := hb4.size)
              | (go_at_call 62; (with_reducible refine (HIN.out _ hb4).mono ?_); rintro e w5 ⟨rfl, hb50⟩; have hb5 : Below W2.heap.size W2 w5 := sbt hb4 hb50; have hle5 : W2.heap.size ≤ w5.heap.size := hb5.size))) | fail
          clear q6
          all_goals go_wp2_with fail
          all_goals
            go_ret
            exact ⟨sret_val (by rw [HR.out]; rfl), sbt HW2.out hb5⟩
        case true =>
          have HR := shid (show (List.range (k + 1)).all (okAt fs bs.length x.ins) = true from range_all_ok HFA.out (by rw [HOK.out]; rfl))
          first | (go_region_held3 (fun w' => w'.cell? ⟨G, 0, none⟩ = some (.int .u8 y.op) ∧ w'.cell? ⟨G, 1, none⟩ = some (.int .i64 y.d) ∧ w'.cell? ⟨G, 2, none⟩ = some (.int .i64 y.a) ∧ w'.cell? ⟨G, 3, none⟩ = some (.int .i64 y.b) ∧ w'.cell? ⟨G, 4, none⟩ = some (.int .u32 y.n) ∧ w'.cell? ⟨G, 5, none⟩ = some (.int .i64 y.f) ∧ w'.cell? ⟨G, 6, none⟩ = some (.slice pa y.args.length ca) ∧ w'.cell? ⟨G, 7, none⟩ = some (.int .i64 y.l1) ∧ w'.cell? ⟨G, 8, none⟩ = some (.int .i64 y.l2) ∧ w'.cell? ⟨w.heap.size, 0, none⟩ = some (.int .i64 hp) ∧ w'.cell? ⟨w.heap.size, 1, none⟩ = some (.slice pt nt ct) ∧ w'.cell? ⟨w.heap.size, 2, none⟩ = some (.slice pf fs.length cf) ∧ w'.cell? ⟨w.heap.size + 1, 0, none⟩ = some (.string fnm) ∧ w'.cell? ⟨w.heap.size + 1, 1, none⟩ = some (.int .i64 fa) ∧ w'.cell? ⟨w.heap.size + 1, 2, none⟩ = some (.int .i64 fr) ∧ w'.cell? ⟨w.heap.size + 1, 3, none⟩ = some (.slice (some ⟨b, o, none⟩) bs.length cb) ∧ w'.cell? ⟨w.heap.size + 1 + 1, 0, none⟩ = some (.string x.name) ∧ w'.cell? ⟨w.heap.size + 1 + 1, 1, none⟩ = some (.slice (some ⟨ib, io, none⟩) x.ins.length ci)) (first | (with_reducible exact HKS.out _ hbd) | (with_reducible exact HKS.out _ hb4) | (with_reducible exact HKS.out _ hb5) | (refine HKS.out _ ?_; first | assumption | (go_grown; done)))
            (first
              | (go_at_call 61; (with_reducible refine (HEN.out _).mono ?_); rintro e w4 ⟨rfl, hb40⟩; have hb4 : Below W2.heap.size W2 w4 := sbt hbd hb40; have hle4 : W2.heap.size ≤ w4.heap.size := hb4.size)
              | (go_at_call 62; (with_reducible refine (HIN.out _ hb4).mono ?_); rintro e w5 ⟨rfl, hb50⟩; have hb5 : Below W2.heap.size W2 w5 := sbt hb4 hb50; have hle5 : W2.heap.size ≤ w5.heap.size := hb5.size))) | fail
          clear q6
          all_goals go_wp2_with fail
          all_goals
            go_roundw
            case rel => exact ⟨k + 1, by omega, by go_num, HR.out, sbt HB12.out hb5⟩
            case measure => simp [intOf]; omega
      case false.true =>
        have HR := shid (show blockB fs bs n x = false by rw [HB3.out]; exact range_all_no hlt (by rw [HOK.out]; rfl))
        obtain ⟨b0, b1, b2, b3, b4, b5, b6, b7, b8, p0, p1, p2, f0, f1, f2, f3, k0, k1⟩ := HKS.out W2 (Below.refl _ _)
        first
          | (go_region_law (first
              | (go_simp; go_at_call 61; (with_reducible refine (HEN.out _).mono ?_); rintro e w4 ⟨rfl, hb40⟩; have hb4 : Below W2.heap.size W2 w4 := sbt hbd hb40; obtain ⟨z0, z1, z2, z3, z4, z5, z6, z7, z8, y0, y1, y2, t0, t1, t2, t3, s0, s1⟩ := HKS.out w4 hb4)))
          | fail
        clear q6
        all_goals go_wp2_with fail
        all_goals
          go_ret
          exact ⟨sret_val (by rw [HR.out]; rfl), sbt HW2.out hb4⟩
      case true.false =>
        have HR := shid (show blockB fs bs n x = false by rw [HB3.out]; exact range_all_no hlt (by rw [HOK.out]; rfl))
        obtain ⟨b0, b1, b2, b3, b4, b5, b6, b7, b8, p0, p1, p2, f0, f1, f2, f3, k0, k1⟩ := HKS.out W2 (Below.refl _ _)
        first
          | (go_region_law (first
              | (go_simp; go_at_call 61; (with_reducible refine (HEN.out _).mono ?_); rintro e w4 ⟨rfl, hb40⟩; have hb4 : Below W2.heap.size W2 w4 := sbt hbd hb40; obtain ⟨z0, z1, z2, z3, z4, z5, z6, z7, z8, y0, y1, y2, t0, t1, t2, t3, s0, s1⟩ := HKS.out w4 hb4)))
          | fail
        clear q6
        all_goals go_wp2_with fail
        all_goals
          go_ret
          exact ⟨sret_val (by rw [HR.out]; rfl), sbt HW2.out hb4⟩
      case true.true =>
        cases ibb
        case false =>
          have HR := shid (show blockB fs bs n x = false by rw [HB3.out]; exact range_all_no hlt (by rw [HOK.out]; rfl))
          first | (go_region_held3 (fun w' => w'.cell? ⟨G, 0, none⟩ = some (.int .u8 y.op) ∧ w'.cell? ⟨G, 1, none⟩ = some (.int .i64 y.d) ∧ w'.cell? ⟨G, 2, none⟩ = some (.int .i64 y.a) ∧ w'.cell? ⟨G, 3, none⟩ = some (.int .i64 y.b) ∧ w'.cell? ⟨G, 4, none⟩ = some (.int .u32 y.n) ∧ w'.cell? ⟨G, 5, none⟩ = some (.int .i64 y.f) ∧ w'.cell? ⟨G, 6, none⟩ = some (.slice pa y.args.length ca) ∧ w'.cell? ⟨G, 7, none⟩ = some (.int .i64 y.l1) ∧ w'.cell? ⟨G, 8, none⟩ = some (.int .i64 y.l2) ∧ w'.cell? ⟨w.heap.size, 0, none⟩ = some (.int .i64 hp) ∧ w'.cell? ⟨w.heap.size, 1, none⟩ = some (.slice pt nt ct) ∧ w'.cell? ⟨w.heap.size, 2, none⟩ = some (.slice pf fs.length cf) ∧ w'.cell? ⟨w.heap.size + 1, 0, none⟩ = some (.string fnm) ∧ w'.cell? ⟨w.heap.size + 1, 1, none⟩ = some (.int .i64 fa) ∧ w'.cell? ⟨w.heap.size + 1, 2, none⟩ = some (.int .i64 fr) ∧ w'.cell? ⟨w.heap.size + 1, 3, none⟩ = some (.slice (some ⟨b, o, none⟩) bs.length cb) ∧ w'.cell? ⟨w.heap.size + 1 + 1, 0, none⟩ = some (.string x.name) ∧ w'.cell? ⟨w.heap.size + 1 + 1, 1, none⟩ = some (.slice (some ⟨ib, io, none⟩) x.ins.length ci)) (first | (with_reducible exact HKS.out _ hbd) | (with_reducible exact HKS.out _ hb4) | (with_reducible exact HKS.out _ hb5) | (refine HKS.out _ ?_; first | assumption | (go_grown; done)))
            (first
              | (go_at_call 61; (with_reducible refine (HEN.out _).mono ?_); rintro e w4 ⟨rfl, hb40⟩; have hb4 : Below W2.heap.size W2 w4 := sbt hbd hb40; have hle4 : W2.heap.size ≤ w4.heap.size := hb4.size)
              | (go_at_call 62; (with_reducible refine (HIN.out _ hb4).mono ?_); rintro e w5 ⟨rfl, hb50⟩; have hb5 : Below W2.heap.size W2 w5 := sbt hb4 hb50; have hle5 : W2.heap.size ≤ w5.heap.size := hb5.size))) | fail
          clear q6
          all_goals go_wp2_with fail
          all_goals
            go_ret
            exact ⟨sret_val (by rw [HR.out]; rfl), sbt HW2.out hb5⟩
        case true =>
          have HR := shid (show (List.range (k + 1)).all (okAt fs bs.length x.ins) = true from range_all_ok HFA.out (by rw [HOK.out]; rfl))
          first | (go_region_held3 (fun w' => w'.cell? ⟨G, 0, none⟩ = some (.int .u8 y.op) ∧ w'.cell? ⟨G, 1, none⟩ = some (.int .i64 y.d) ∧ w'.cell? ⟨G, 2, none⟩ = some (.int .i64 y.a) ∧ w'.cell? ⟨G, 3, none⟩ = some (.int .i64 y.b) ∧ w'.cell? ⟨G, 4, none⟩ = some (.int .u32 y.n) ∧ w'.cell? ⟨G, 5, none⟩ = some (.int .i64 y.f) ∧ w'.cell? ⟨G, 6, none⟩ = some (.slice pa y.args.length ca) ∧ w'.cell? ⟨G, 7, none⟩ = some (.int .i64 y.l1) ∧ w'.cell? ⟨G, 8, none⟩ = some (.int .i64 y.l2) ∧ w'.cell? ⟨w.heap.size, 0, none⟩ = some (.int .i64 hp) ∧ w'.cell? ⟨w.heap.size, 1, none⟩ = some (.slice pt nt ct) ∧ w'.cell? ⟨w.heap.size, 2, none⟩ = some (.slice pf fs.length cf) ∧ w'.cell? ⟨w.heap.size + 1, 0, none⟩ = some (.string fnm) ∧ w'.cell? ⟨w.heap.size + 1, 1, none⟩ = some (.int .i64 fa) ∧ w'.cell? ⟨w.heap.size + 1, 2, none⟩ = some (.int .i64 fr) ∧ w'.cell? ⟨w.heap.size + 1, 3, none⟩ = some (.slice (some ⟨b, o, none⟩) bs.length cb) ∧ w'.cell? ⟨w.heap.size + 1 + 1, 0, none⟩ = some (.string x.name) ∧ w'.cell? ⟨w.heap.size + 1 + 1, 1, none⟩ = some (.slice (some ⟨ib, io, none⟩) x.ins.length ci)) (first | (with_reducible exact HKS.out _ hbd) | (with_reducible exact HKS.out _ hb4) | (with_reducible exact HKS.out _ hb5) | (refine HKS.out _ ?_; first | assumption | (go_grown; done)))
            (first
              | (go_at_call 61; (with_reducible refine (HEN.out _).mono ?_); rintro e w4 ⟨rfl, hb40⟩; have hb4 : Below W2.heap.size W2 w4 := sbt hbd hb40; have hle4 : W2.heap.size ≤ w4.heap.size := hb4.size)
              | (go_at_call 62; (with_reducible refine (HIN.out _ hb4).mono ?_); rintro e w5 ⟨rfl, hb50⟩; have hb5 : Below W2.heap.size W2 w5 := sbt hb4 hb50; have hle5 : W2.heap.size ≤ w5.heap.size := hb5.size))) | fail
          clear q6
          all_goals go_wp2_with fail
          all_goals
            go_roundw
            case rel => exact ⟨k + 1, by omega, by go_num, HR.out, sbt HB12.out hb5⟩
            case measure => simp [intOf]; omega
    · obtain rfl : k = x.ins.length := by omega
      have HR := shid (show blockB fs bs n x = true by rw [HB3.out]; exact HFA.out)
      go_wp2_with fail
      go_ret
      exact ⟨sret_val (by rw [HR.out]; rfl), sbt HWW.out HBW.out⟩
end Go.Proofs.Ytdefooailcbnlaa
