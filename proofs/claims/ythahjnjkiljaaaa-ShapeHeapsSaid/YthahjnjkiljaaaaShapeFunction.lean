/- The walk of muntinref14.function. -/
import Derived.Test.YthahjnjkiljaaaaShapeHead
import Derived.Deep.RegionLaw
namespace Go.Proofs.Ythahjnjkiljaaaa
open Go.RowKit
set_option linter.unusedVariables false
set_option linter.unusedSimpArgs false
set_option maxRecDepth 100000 in
set_option maxHeartbeats 4000000 in
theorem function_any (fs : List Fnx) (hp : Int) (pt : Option Addr) (nt ct : Nat) (pf : Option Addr) (cf : Nat) (n : Nat) (x : Fnx) (hx : fs[n]? = some x) (w : World) (hF : FnsIn w (.slice pf fs.length cf) fs) :
    Calls Try.prog 22 #[.agg #[.int .i64 hp, .slice pt nt ct, .slice pf fs.length cf], .int .i64 n] w fun e w' => e = .returned (.bool (headB fs n x)) ∧ Below w.heap.size w w' := by
  have hn : n < fs.length := (List.getElem?_eq_some_iff.1 hx).1
  have HX := shid hx
  have HF := shid hF
  obtain ⟨pbb, cbb, b, o, hbe, hbl, HBS⟩ := hF.hids
  cases hbe
  obtain rfl := HBS.out.1 (by omega)
  have HW0 := shid (al1 w (.cells #[.int .i64 hp, .slice pt nt ct, .slice (some ⟨b, o, none⟩) fs.length cf] 25))
  obtain ⟨d0, d1, d2, ⟨bv, d3, hbv⟩, hnm, _, _⟩ := HBS.out.2 n x hx
  have c0 := (HW0.out.cell (p := ⟨b, o + n * 4, none⟩) (World.block_lt_of_cell? _ _ d0)).trans d0
  have c1 := (HW0.out.cell (p := ⟨b, o + n * 4 + 1, none⟩) (World.block_lt_of_cell? _ _ d1)).trans d1
  have c2 := (HW0.out.cell (p := ⟨b, o + n * 4 + 2, none⟩) (World.block_lt_of_cell? _ _ d2)).trans d2
  have c3 := (HW0.out.cell (p := ⟨b, o + n * 4 + 3, none⟩) (World.block_lt_of_cell? _ _ d3)).trans d3
  clear d0 d1 d2 d3
  obtain ⟨pb, cb, rfl⟩ := hbv.shape
  have HBV := shid hbv
  have HNM := shid hnm
  have hbl2 := hbv.1
  have HPB := shid (PBox.new w hp (.slice pt nt ct) (.slice (some ⟨b, o, none⟩) fs.length cf) 25)
  have h1 : (n : Int) < fs.length := by omega
  have HGB := shid (greatest_bd hbv.bds)
  have HHB := shid (show headB fs n x = (!twiceB (fnNames fs) n && decide (0 ≤ x.args ∧ x.args ≤ 6 ∧ x.regs = max x.args (greatestS x.blocks) ∧ x.regs ≤ 4096 ∧ 0 < x.blocks.length)) from rfl)
  have HGR := shid (fun (W : World) (hb : Below w.heap.size w W) => rregs_any x.name x.args x.regs x.blocks pb cb W (BlksIn.keep HBV.out hb))
  clear hx hF hbv hnm
  have HNA := shid (fun W => rname_any x.name HNM.out W)
  have HKN := shid (fun (i : Nat) (y : Fnx) (hy : fs[i]? = some y) => (HW0.out.cell (p := ⟨b, o + i * 4, none⟩) (World.block_lt_of_cell? _ _ (HBS.out.2 i y hy).c0)).trans (HBS.out.2 i y hy).c0)
  have HBF := shid (FBox.new (w.alloc (.cells #[.int .i64 hp, .slice pt nt ct, .slice (some ⟨b, o, none⟩) fs.length cf] 25)) x.name x.args x.regs (.slice pb x.blocks.length cb) 37)
  have HBP := shid (HPB.out.keep (al1 _ (.cells #[.string x.name, .int .i64 x.args, .int .i64 x.regs, .slice pb x.blocks.length cb] 37)))
  have HW1 := shid (sbt HW0.out (al1 (w.alloc (.cells #[.int .i64 hp, .slice pt nt ct, .slice (some ⟨b, o, none⟩) fs.length cf] 25)) (.cells #[.string x.name, .int .i64 x.args, .int .i64 x.regs, .slice pb x.blocks.length cb] 37)))
  have HKN1 := shid (fun (i : Nat) (y : Fnx) (hy : fs[i]? = some y) => ((al1 (w.alloc (.cells #[.int .i64 hp, .slice pt nt ct, .slice (some ⟨b, o, none⟩) fs.length cf] 25)) (.cells #[.string x.name, .int .i64 x.args, .int .i64 x.regs, .slice pb x.blocks.length cb] 37)).cell (p := ⟨b, o + i * 4, none⟩) (World.block_lt_of_cell? _ _ (HKN.out i y hy))).trans (HKN.out i y hy))
  simp only [World.size_alloc] at HBF
  have HTB := shid (show twiceB (fnNames fs) n = (((List.range n).any fun i => fnNames fs i == fnNames fs n) || !nameB (fnNames fs n).data.toList) from rfl)
  have HNX := shid (fnNames_at HX.out)
  go_enter Try.func22, Try.ntmps22
  go_wp2_with fail
  generalize ((w.alloc (.cells #[.int .i64 hp, .slice pt nt ct, .slice (some ⟨b, o, none⟩) fs.length cf] 25)).alloc (.cells #[.string x.name, .int .i64 x.args, .int .i64 x.regs, .slice pb x.blocks.length cb] 37)) = W1 at *
  clear c0 c1 c2 c3
  go_loopw [6] (fun i wr => ∃ k : Nat, k ≤ n ∧ i = .int .i64 k ∧ ((List.range k).any fun i => fnNames fs i == fnNames fs n) = false ∧ (∃ d, wr = W1.drewN d)) (fun i _ => n - (intOf i).toNat)
  case atStart => exact ⟨0, Nat.zero_le _, rfl, by simp, 0, rfl⟩
  case round =>
    obtain ⟨k, hk, rfl, hf, d, rfl⟩ := hrel
    have HFA := shid hf
    clear hf
    obtain ⟨_, f0, f1, f2, f3⟩ := HBF.out
    obtain ⟨_, p0, p1, p2⟩ := HBP.out
    by_cases hlt : k < n
    · have hkf : k < fs.length := by omega
      have HY := shid (List.getElem?_eq_getElem hkf)
      generalize fs[k] = y at HY
      have e0 := HKN1.out k y HY.out
      have h2 : (k : Int) < fs.length := by omega
      cases hts : (y.name == x.name)
      case false =>
        have htl : (y.name.toList == x.name.toList) = false := by rw [← beq_toListBytes]; exact hts
        have HE := shid (show ((List.range (k + 1)).any fun i => fnNames fs i == fnNames fs n) = false from range_any_no HFA.out (by rw [fnNames_at HY.out, HNX.out]; exact hts))
        clear hts
        go_wp2_with fail
        go_quiet (fail)
        go_wp2_with fail
        exact ⟨⟨k + 1, by omega, by go_num, HE.out, _, rfl⟩, by simp [intOf] <;> omega⟩
      case true =>
        have htl : (y.name.toList == x.name.toList) = true := by rw [← beq_toListBytes]; exact hts
        have HE := shid (show headB fs n x = false by
          rw [HHB.out, HTB.out]
          have : ((List.range n).any fun i => fnNames fs i == fnNames fs n) = true := List.any_eq_true.2 ⟨k, List.mem_range.2 hlt, by rw [fnNames_at HY.out, HNX.out]; exact hts⟩
          rw [this]; rfl)
        clear hts
        go_wp2_with fail
        go_quiet (fail)
        go_wp2_with fail
        go_ret
        exact ⟨sret_val (by rw [HE.out]; rfl), sbt HW1.out (sdrewN (sdrewN (Below.refl _ _) d) _)⟩
    · obtain rfl : k = n := by omega
      have HT2 := shid (show twiceB (fnNames fs) k = !nameB x.name.data.toList by rw [HTB.out, HFA.out, HNX.out]; rfl)
      have HH2 : Hid (headB fs k x = (nameB x.name.data.toList && decide (0 ≤ x.args ∧ x.args ≤ 6 ∧ x.regs = max x.args (greatestS x.blocks) ∧ x.regs ≤ 4096 ∧ 0 < x.blocks.length))) := shid (by rw [HHB.out, HT2.out, Bool.not_not])
      have HW2 := shid (sbt HW1.out (sdrewN (Below.refl _ _) d))
      have HWd := shid (show Below W1.heap.size W1 (W1.drewN d) from sdrewN (Below.refl _ _) d)
      have HBF2 := shid (HBF.out.keep HWd.out)
      clear f0 f1 f2 f3 p0 p1 p2 HFA HHB HTB HT2 HKN HKN1 HBP HNX
      generalize W1.drewN d = W2 at *
      obtain ⟨_, f0, f1, f2, f3⟩ := HBF2.out
      generalize nameB x.name.data.toList = nb at *
      generalize greatestS x.blocks = g at *
      cases nb
      case false =>
        have HR := shid (show headB fs k x = false from HH2.out)
        go_wp2_with (go_at_call 43; (with_reducible refine (HNA.out _).mono ?_); rintro e w7 ⟨rfl, rfl⟩)
        go_ret
        exact ⟨sret_val (by rw [HR.out]; rfl), HW2.out⟩
      case true =>
        by_cases k1 : 0 ≤ x.args ∧ x.args ≤ 6 ∧ 0 < x.blocks.length
        case neg =>
          have HR := shid (show headB fs k x = false by rw [HH2.out]; exact decide_eq_false (by omega))
          go_wp2_with (go_at_call 43; (with_reducible refine (HNA.out _).mono ?_); rintro e w7 ⟨rfl, rfl⟩)
          all_goals first | (go_ret; exact ⟨sret_val (by rw [HR.out]; rfl), HW2.out⟩) | (exfalso; simp at *; omega)
        obtain ⟨k1, k2, k5⟩ := k1
        have q1 : decide (x.args < 0) = false := decide_eq_false (by omega)
        have q2 : decide (6 < x.args) = false := decide_eq_false (by omega)
        have q5 : ((x.blocks.length : Int) == 0) = false := by rw [beq_eq_false_iff_ne]; omega
        have HGR2 : Hid (∀ W : World, Below W2.heap.size W2 W → Calls Try.prog 44 #[.agg #[.string x.name, .int .i64 x.args, .int .i64 x.regs, .slice pb x.blocks.length cb]] W fun e w' => e = .returned (.int .i64 g) ∧ Below W.heap.size W w') := shid fun W hb => HGR.out W (sbt HW2.out hb)
        have HKS : Hid (∀ w', Below W2.heap.size W2 w' →  w'.cell? ⟨w.heap.size + 1, 0, none⟩ = some (.string x.name) ∧ w'.cell? ⟨w.heap.size + 1, 1, none⟩ = some (.int .i64 x.args) ∧ w'.cell? ⟨w.heap.size + 1, 2, none⟩ = some (.int .i64 x.regs) ∧ w'.cell? ⟨w.heap.size + 1, 3, none⟩ = some (.slice pb x.blocks.length cb)) := shid fun w' hb => by
          obtain ⟨_, b0, b1, b2, b3⟩ := HBF2.out.keep hb
          exact ⟨b0, b1, b2, b3⟩
        have hle : W2.heap.size ≤ W2.heap.size := Nat.le_refl _
        have hbd : Below W2.heap.size W2 W2.drew := (Below.refl _ _).drew
        clear HGR HBF HBF2
        by_cases k3 : x.regs = max x.args g
        case neg =>
          have HR := shid (show headB fs k x = false by rw [HH2.out]; exact decide_eq_false (by omega))
          have q3 : (x.regs == (if x.args < g then g else x.args)) = false := by rw [beq_eq_false_iff_ne]; intro e; apply k3; rw [e]; split <;> omega
          clear k3
          go_wp2_with (go_at_call 43; (with_reducible refine (HNA.out _).mono ?_); rintro e w7 ⟨rfl, rfl⟩)
          obtain ⟨b0, b1, b2, b3⟩ := HKS.out W2 (Below.refl _ _)
          first
            | (go_region_law (first
                | (go_simp; go_at_call 44; (with_reducible refine (HGR2.out _ hbd).mono ?_); rintro e w4 ⟨rfl, hb40⟩; have hb4 : Below W2.heap.size W2 w4 := sbt hbd hb40; obtain ⟨z0, z1, z2, z3⟩ := HKS.out w4 hb4)))
            | fail
          all_goals go_wp2_with fail
          all_goals
            go_ret
            exact ⟨sret_val (by rw [HR.out]; rfl), sbt HW2.out hb4⟩
        have q3 : (x.regs == (if x.args < g then g else x.args)) = true := by rw [beq_iff_eq, k3]; split <;> omega
        by_cases k4 : x.regs ≤ 4096
        case neg =>
          have HR := shid (show headB fs k x = false by rw [HH2.out]; exact decide_eq_false (by omega))
          have q4 : decide (x.regs ≤ 4096) = false := decide_eq_false k4
          clear k4 k3
          go_wp2_with (go_at_call 43; (with_reducible refine (HNA.out _).mono ?_); rintro e w7 ⟨rfl, rfl⟩)
          first
            | (go_region_held3 (fun w' => w'.cell? ⟨w.heap.size + 1, 0, none⟩ = some (.string x.name) ∧ w'.cell? ⟨w.heap.size + 1, 1, none⟩ = some (.int .i64 x.args) ∧ w'.cell? ⟨w.heap.size + 1, 2, none⟩ = some (.int .i64 x.regs) ∧ w'.cell? ⟨w.heap.size + 1, 3, none⟩ = some (.slice pb x.blocks.length cb)) (first | (with_reducible exact HKS.out _ hbd) | (with_reducible exact HKS.out _ hb4) | (refine HKS.out _ ?_; first | assumption | (go_grown; done)))
                (first
                  | (go_at_call 44; (with_reducible refine (HGR2.out _ hbd).mono ?_); rintro e w4 ⟨rfl, hb40⟩; have hb4 : Below W2.heap.size W2 w4 := sbt hbd hb40; have hle4 : W2.heap.size ≤ w4.heap.size := hb4.size)))
            | fail
          all_goals go_wp2_with fail
          all_goals
            go_ret
            exact ⟨sret_val (by rw [HR.out]; rfl), sbt HW2.out hb4⟩
        have q4 : decide (x.regs ≤ 4096) = true := decide_eq_true k4
        have HR := shid (show headB fs k x = true by rw [HH2.out]; exact decide_eq_true ⟨k1, k2, k3, k4, k5⟩)
        clear k3
        go_wp2_with (go_at_call 43; (with_reducible refine (HNA.out _).mono ?_); rintro e w7 ⟨rfl, rfl⟩)
        first
          | (go_region_held3 (fun w' => w'.cell? ⟨w.heap.size + 1, 0, none⟩ = some (.string x.name) ∧ w'.cell? ⟨w.heap.size + 1, 1, none⟩ = some (.int .i64 x.args) ∧ w'.cell? ⟨w.heap.size + 1, 2, none⟩ = some (.int .i64 x.regs) ∧ w'.cell? ⟨w.heap.size + 1, 3, none⟩ = some (.slice pb x.blocks.length cb)) (first | (with_reducible exact HKS.out _ hbd) | (with_reducible exact HKS.out _ hb4) | (refine HKS.out _ ?_; first | assumption | (go_grown; done)))
              (first
                | (go_at_call 44; (with_reducible refine (HGR2.out _ hbd).mono ?_); rintro e w4 ⟨rfl, hb40⟩; have hb4 : Below W2.heap.size W2 w4 := sbt hbd hb40; have hle4 : W2.heap.size ≤ w4.heap.size := hb4.size)))
          | fail
        all_goals go_wp2_with fail
        all_goals
          go_ret
          exact ⟨sret_val (by rw [HR.out]; rfl), sbt HW2.out hb4⟩
end Go.Proofs.Ythahjnjkiljaaaa
