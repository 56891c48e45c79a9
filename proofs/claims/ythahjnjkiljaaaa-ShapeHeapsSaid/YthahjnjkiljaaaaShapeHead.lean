/- The walks of shape.head and of its function. -/
import Derived.Test.YthahjnjkiljaaaaShapeTwice
import Derived.Deep.RegionHeld3
import Derived.Deep.RegionLaw
namespace Go.Proofs.Ythahjnjkiljaaaa
open Go.RowKit
set_option linter.unusedVariables false
set_option linter.unusedSimpArgs false
theorem squiet_left {P : Program} {f : FuncId} {args : Array Value} {w : World} {n : Nat} {v : Value}
    (h : Calls P f args (w.drewN n) fun e w' => e = .returned v ∧ w.drewN n = w') : Calls P f args (w.drewN n) fun e w'' => e = .returned v ∧ ∃ m, w'' = w.drewN m :=
  h.mono fun _ _ ⟨he, hm⟩ => ⟨he, n, hm.symm⟩
def fnNames (fs : List Fnx) (i : Nat) : ByteArray := (fs[i]?.map Fnx.name).getD ⟨#[]⟩
def blkNames (bs : List Blk) (i : Nat) : ByteArray := (bs[i]?.map Blk.name).getD ⟨#[]⟩
theorem fnNames_at {fs : List Fnx} {i : Nat} {x : Fnx} (h : fs[i]? = some x) : fnNames fs i = x.name := by simp [fnNames, h]
theorem blkNames_at {fs : List Blk} {i : Nat} {x : Blk} (h : fs[i]? = some x) : blkNames fs i = x.name := by simp [blkNames, h]
/-- Whether a function may be, but for its blocks. -/
def headB (fs : List Fnx) (n : Nat) (x : Fnx) : Bool :=
  !twiceB (fnNames fs) n && decide (0 ≤ x.args ∧ x.args ≤ 6 ∧ x.regs = max x.args (greatestS x.blocks) ∧ x.regs ≤ 4096 ∧ 0 < x.blocks.length)
set_option maxHeartbeats 1000000 in
theorem headf_any (fs : List Fnx) (hp : Int) (tv : Value) (pf : Option Addr) (cf : Nat) (B : Nat) (w : World) (hB : PBox w B hp tv (.slice pf fs.length cf)) (hF : FnsIn w (.slice pf fs.length cf) fs) (i : Nat) (hi : i < fs.length) :
    Calls Try.prog 36 #[.int .i64 i, .pointer (some ⟨B, 0, none⟩)] w fun e w' => e = .returned (.string (fnNames fs i)) ∧ w = w' := by
  obtain ⟨pbb, cbb, b, o, hbe, hbl, HBS⟩ := hF.hids
  cases hbe
  obtain rfl := HBS.out.1 (by omega)
  have HX := shid (List.getElem?_eq_getElem hi)
  generalize fs[i] = x at HX
  have c0 := (HBS.out.2 i x HX.out).c0
  have HN := shid (fnNames_at HX.out)
  obtain ⟨_, p0, p1, p2⟩ := hB
  have h1 : (i : Int) < fs.length := by omega
  rw [HN.out]
  clear hF
  go_enter Try.func36, Try.ntmps36
  go_wp2_with fail
  go_ret
  exact ⟨rfl, rfl⟩
set_option maxHeartbeats 1000000 in
theorem blockf_any (nm : ByteArray) (fa fr : Int) (bs : List Blk) (pb : Option Addr) (cb : Nat) (B : Nat) (w : World) (hB : FBox w B nm fa fr (.slice pb bs.length cb)) (hF : BlksIn w (.slice pb bs.length cb) bs) (i : Nat) (hi : i < bs.length) :
    Calls Try.prog 38 #[.int .i64 i, .pointer (some ⟨B, 0, none⟩)] w fun e w' => e = .returned (.string (blkNames bs i)) ∧ w = w' := by
  obtain ⟨pbb, cbb, b, o, hbe, hbl, HBS⟩ := hF.hids
  cases hbe
  obtain rfl := HBS.out.1 (by omega)
  have HX := shid (List.getElem?_eq_getElem hi)
  generalize bs[i] = x at HX
  have c0 := (HBS.out.2 i x HX.out).c0
  have HN := shid (blkNames_at HX.out)
  obtain ⟨_, p0, p1, p2, p3⟩ := hB
  have h1 : (i : Int) < bs.length := by omega
  rw [HN.out]
  clear hF
  go_enter Try.func38, Try.ntmps38
  go_wp2_with fail
  go_ret
  exact ⟨rfl, rfl⟩
set_option maxRecDepth 100000 in
set_option maxHeartbeats 4000000 in
theorem head_any (fs : List Fnx) (hp : Int) (pt : Option Addr) (nt ct : Nat) (pf : Option Addr) (cf : Nat) (n : Nat) (x : Fnx) (hx : fs[n]? = some x) (w : World) (hF : FnsIn w (.slice pf fs.length cf) fs) :
    Calls Try.prog 18 #[.agg #[.int .i64 hp, .slice pt nt ct, .slice pf fs.length cf], .int .i64 n] w fun e w' => e = .returned (.bool (headB fs n x)) ∧ Below w.heap.size w w' := by
  have hn : n < fs.length := (List.getElem?_eq_some_iff.1 hx).1
  have HX := shid hx
  have HF := shid hF
  obtain ⟨pbb, cbb, b, o, hbe, hbl, HBS⟩ := hF.hids
  cases hbe
  obtain rfl := HBS.out.1 (by omega)
  have HW0 := shid (al1 w (.cells #[.int .i64 hp, .slice pt nt ct, .slice (some ⟨b, o, none⟩) fs.length cf] 25))
  obtain ⟨d0, d1, d2, ⟨bv, d3, hbv⟩, hnm, _, _⟩ := HBS.out.2 n x hx
  have c0 := (HW0.out.cell (p := ⟨b, o + n * 4, none⟩) (World.block_lt_of_cell? _ _ d0)).trans d0
  have c1 := (HW0.out.cell (p := ⟨b, o + n * 4 + 1, none⟩) (World.block_lt_of_cell? _ _ d1)).trans d1
  have c2 := (HW0.out.cell (p := ⟨b, o + n * 4 + 2, none⟩) (World.block_lt_of_cell? _ _ d2)).trans d2
  have c3 := (HW0.out.cell (p := ⟨b, o + n * 4 + 3, none⟩) (World.block_lt_of_cell? _ _ d3)).trans d3
  clear d0 d1 d2 d3
  obtain ⟨pb, cb, rfl⟩ := hbv.shape
  have HBV := shid hbv
  have HNM := shid hnm
  have hbl2 := hbv.1
  have HPB := shid (PBox.new w hp (.slice pt nt ct) (.slice (some ⟨b, o, none⟩) fs.length cf) 25)
  have h1 : (n : Int) < fs.length := by omega
  have HGB := shid (greatest_bd hbv.bds)
  have HHB := shid (show headB fs n x = (!twiceB (fnNames fs) n && decide (0 ≤ x.args ∧ x.args ≤ 6 ∧ x.regs = max x.args (greatestS x.blocks) ∧ x.regs ≤ 4096 ∧ 0 < x.blocks.length)) from rfl)
  have HCF := shid (fun (W : World) (hP : PBox W w.heap.size hp (.slice pt nt ct) (.slice (some ⟨b, o, none⟩) fs.length cf)) (hb : Below w.heap.size w W) => twice_head (fnNames fs) n fs.length hn (by omega) (by rw [fnNames_at HX.out]; exact HNM.out) w.heap.size W (shid fun i hi => headf_any fs hp (.slice pt nt ct) _ cf w.heap.size W hP (FnsIn.keep HF.out hb) i hi))
  have HGR := shid (fun (W : World) (hb : Below w.heap.size w W) => greatest_any x.name x.args x.regs x.blocks pb cb W (BlksIn.keep HBV.out hb))
  clear hx hF hbv hnm
  generalize twiceB (fnNames fs) n = tw at *
  generalize greatestS x.blocks = g at *
  cases tw with
  | true =>
    have HR := shid (show headB fs n x = false from HHB.out)
    have HBF := shid (FBox.new (w.alloc (.cells #[.int .i64 hp, .slice pt nt ct, .slice (some ⟨b, o, none⟩) fs.length cf] 25)) x.name x.args x.regs (.slice pb x.blocks.length cb) 37)
    have HBP := shid (HPB.out.keep (al1 _ (.cells #[.string x.name, .int .i64 x.args, .int .i64 x.regs, .slice pb x.blocks.length cb] 37)))
    have HW1 := shid (sbt HW0.out (al1 (w.alloc (.cells #[.int .i64 hp, .slice pt nt ct, .slice (some ⟨b, o, none⟩) fs.length cf] 25)) (.cells #[.string x.name, .int .i64 x.args, .int .i64 x.regs, .slice pb x.blocks.length cb] 37)))
    simp only [World.size_alloc] at HBF
    go_enter Try.func18, Try.ntmps18
    go_wp2_with fail
    generalize ((w.alloc (.cells #[.int .i64 hp, .slice pt nt ct, .slice (some ⟨b, o, none⟩) fs.length cf] 25)).alloc (.cells #[.string x.name, .int .i64 x.args, .int .i64 x.regs, .slice pb x.blocks.length cb] 37)) = W1 at *
    have HT2 : Hid (∀ W : World, Below W1.heap.size W1 W → Calls Try.prog 35 #[.int .i64 n, .func (.func 36) #[] #[.pointer (some ⟨w.heap.size, 0, none⟩)]] W fun e w' => e = .returned (.bool true) ∧ W = w') := shid fun W hb => HCF.out W (HBP.out.keep hb) (sbt HW1.out hb)
    have HGR2 : Hid (∀ W : World, Below W1.heap.size W1 W → Calls Try.prog 37 #[.agg #[.string x.name, .int .i64 x.args, .int .i64 x.regs, .slice pb x.blocks.length cb]] W fun e w' => e = .returned (.int .i64 g) ∧ Below W.heap.size W w') := shid fun W hb => HGR.out W (sbt HW1.out hb)
    have HKS : Hid (∀ w', Below W1.heap.size W1 w' →  w'.cell? ⟨w.heap.size + 1, 0, none⟩ = some (.string x.name) ∧ w'.cell? ⟨w.heap.size + 1, 1, none⟩ = some (.int .i64 x.args) ∧ w'.cell? ⟨w.heap.size + 1, 2, none⟩ = some (.int .i64 x.regs) ∧ w'.cell? ⟨w.heap.size + 1, 3, none⟩ = some (.slice pb x.blocks.length cb)) := shid fun w' hb => by
      obtain ⟨_, b0, b1, b2, b3⟩ := HBF.out.keep hb
      exact ⟨b0, b1, b2, b3⟩
    have hle : W1.heap.size ≤ W1.heap.size := Nat.le_refl _
    have hbd : Below W1.heap.size W1 W1.drew := (Below.refl _ _).drew
    clear c0 c1 c2 c3 HBF HBP HCF HGR
    obtain ⟨b0, b1, b2, b3⟩ := HKS.out W1 (Below.refl _ _)
    have HTQ := shid (fun m => squiet_left (HT2.out (W1.drewN m) (sdrewN (Below.refl _ _) m)))
    go_quiet ((go_at_call 35; exact HTQ.out _))
    go_wp2_with fail
    go_ret
    exact ⟨sret_val (by rw [HR.out]; rfl), sbt HW1.out (sdrewN (Below.refl _ _) _)⟩
  | false =>
    have HH2 : Hid (headB fs n x = decide (0 ≤ x.args ∧ x.args ≤ 6 ∧ x.regs = max x.args g ∧ x.regs ≤ 4096 ∧ 0 < x.blocks.length)) := shid (HHB.out.trans (Bool.true_and _))
    clear HHB
    by_cases k1 : 0 ≤ x.args
    case neg =>
      have HR := shid (show headB fs n x = false by rw [HH2.out]; exact decide_eq_false (by omega))
      have q1 : decide (0 ≤ x.args) = false := decide_eq_false k1
      clear k1
      have HBF := shid (FBox.new (w.alloc (.cells #[.int .i64 hp, .slice pt nt ct, .slice (some ⟨b, o, none⟩) fs.length cf] 25)) x.name x.args x.regs (.slice pb x.blocks.length cb) 37)
      have HBP := shid (HPB.out.keep (al1 _ (.cells #[.string x.name, .int .i64 x.args, .int .i64 x.regs, .slice pb x.blocks.length cb] 37)))
      have HW1 := shid (sbt HW0.out (al1 (w.alloc (.cells #[.int .i64 hp, .slice pt nt ct, .slice (some ⟨b, o, none⟩) fs.length cf] 25)) (.cells #[.string x.name, .int .i64 x.args, .int .i64 x.regs, .slice pb x.blocks.length cb] 37)))
      simp only [World.size_alloc] at HBF
      go_enter Try.func18, Try.ntmps18
      go_wp2_with fail
      generalize ((w.alloc (.cells #[.int .i64 hp, .slice pt nt ct, .slice (some ⟨b, o, none⟩) fs.length cf] 25)).alloc (.cells #[.string x.name, .int .i64 x.args, .int .i64 x.regs, .slice pb x.blocks.length cb] 37)) = W1 at *
      have HT2 : Hid (∀ W : World, Below W1.heap.size W1 W → Calls Try.prog 35 #[.int .i64 n, .func (.func 36) #[] #[.pointer (some ⟨w.heap.size, 0, none⟩)]] W fun e w' => e = .returned (.bool false) ∧ W = w') := shid fun W hb => HCF.out W (HBP.out.keep hb) (sbt HW1.out hb)
      have HGR2 : Hid (∀ W : World, Below W1.heap.size W1 W → Calls Try.prog 37 #[.agg #[.string x.name, .int .i64 x.args, .int .i64 x.regs, .slice pb x.blocks.length cb]] W fun e w' => e = .returned (.int .i64 g) ∧ Below W.heap.size W w') := shid fun W hb => HGR.out W (sbt HW1.out hb)
      have HKS : Hid (∀ w', Below W1.heap.size W1 w' →  w'.cell? ⟨w.heap.size + 1, 0, none⟩ = some (.string x.name) ∧ w'.cell? ⟨w.heap.size + 1, 1, none⟩ = some (.int .i64 x.args) ∧ w'.cell? ⟨w.heap.size + 1, 2, none⟩ = some (.int .i64 x.regs) ∧ w'.cell? ⟨w.heap.size + 1, 3, none⟩ = some (.slice pb x.blocks.length cb)) := shid fun w' hb => by
        obtain ⟨_, b0, b1, b2, b3⟩ := HBF.out.keep hb
        exact ⟨b0, b1, b2, b3⟩
      have hle : W1.heap.size ≤ W1.heap.size := Nat.le_refl _
      have hbd : Below W1.heap.size W1 W1.drew := (Below.refl _ _).drew
      clear c0 c1 c2 c3 HBF HBP HCF HGR
      obtain ⟨b0, b1, b2, b3⟩ := HKS.out W1 (Below.refl _ _)
      have HTQ := shid (fun m => squiet_left (HT2.out (W1.drewN m) (sdrewN (Below.refl _ _) m)))
      go_quiet ((go_at_call 35; exact HTQ.out _))
      go_wp2_with fail
      go_ret
      exact ⟨sret_val (by rw [HR.out]; rfl), sbt HW1.out (sdrewN (Below.refl _ _) _)⟩
    have q1 : decide (0 ≤ x.args) = true := decide_eq_true k1
    by_cases k2 : x.args ≤ 6
    case neg =>
      have HR := shid (show headB fs n x = false by rw [HH2.out]; exact decide_eq_false (by omega))
      have q2 : decide (x.args ≤ 6) = false := decide_eq_false k2
      clear k2
      have HBF := shid (FBox.new (w.alloc (.cells #[.int .i64 hp, .slice pt nt ct, .slice (some ⟨b, o, none⟩) fs.length cf] 25)) x.name x.args x.regs (.slice pb x.blocks.length cb) 37)
      have HBP := shid (HPB.out.keep (al1 _ (.cells #[.string x.name, .int .i64 x.args, .int .i64 x.regs, .slice pb x.blocks.length cb] 37)))
      have HW1 := shid (sbt HW0.out (al1 (w.alloc (.cells #[.int .i64 hp, .slice pt nt ct, .slice (some ⟨b, o, none⟩) fs.length cf] 25)) (.cells #[.string x.name, .int .i64 x.args, .int .i64 x.regs, .slice pb x.blocks.length cb] 37)))
      simp only [World.size_alloc] at HBF
      go_enter Try.func18, Try.ntmps18
      go_wp2_with fail
      generalize ((w.alloc (.cells #[.int .i64 hp, .slice pt nt ct, .slice (some ⟨b, o, none⟩) fs.length cf] 25)).alloc (.cells #[.string x.name, .int .i64 x.args, .int .i64 x.regs, .slice pb x.blocks.length cb] 37)) = W1 at *
      have HT2 : Hid (∀ W : World, Below W1.heap.size W1 W → Calls Try.prog 35 #[.int .i64 n, .func (.func 36) #[] #[.pointer (some ⟨w.heap.size, 0, none⟩)]] W fun e w' => e = .returned (.bool false) ∧ W = w') := shid fun W hb => HCF.out W (HBP.out.keep hb) (sbt HW1.out hb)
      have HGR2 : Hid (∀ W : World, Below W1.heap.size W1 W → Calls Try.prog 37 #[.agg #[.string x.name, .int .i64 x.args, .int .i64 x.regs, .slice pb x.blocks.length cb]] W fun e w' => e = .returned (.int .i64 g) ∧ Below W.heap.size W w') := shid fun W hb => HGR.out W (sbt HW1.out hb)
      have HKS : Hid (∀ w', Below W1.heap.size W1 w' →  w'.cell? ⟨w.heap.size + 1, 0, none⟩ = some (.string x.name) ∧ w'.cell? ⟨w.heap.size + 1, 1, none⟩ = some (.int .i64 x.args) ∧ w'.cell? ⟨w.heap.size + 1, 2, none⟩ = some (.int .i64 x.regs) ∧ w'.cell? ⟨w.heap.size + 1, 3, none⟩ = some (.slice pb x.blocks.length cb)) := shid fun w' hb => by
        obtain ⟨_, b0, b1, b2, b3⟩ := HBF.out.keep hb
        exact ⟨b0, b1, b2, b3⟩
      have hle : W1.heap.size ≤ W1.heap.size := Nat.le_refl _
      have hbd : Below W1.heap.size W1 W1.drew := (Below.refl _ _).drew
      clear c0 c1 c2 c3 HBF HBP HCF HGR
      obtain ⟨b0, b1, b2, b3⟩ := HKS.out W1 (Below.refl _ _)
      have HTQ := shid (fun m => squiet_left (HT2.out (W1.drewN m) (sdrewN (Below.refl _ _) m)))
      go_quiet ((go_at_call 35; exact HTQ.out _))
      go_wp2_with fail
      go_ret
      exact ⟨sret_val (by rw [HR.out]; rfl), sbt HW1.out (sdrewN (Below.refl _ _) _)⟩
    have q2 : decide (x.args ≤ 6) = true := decide_eq_true k2
    by_cases k3 : x.regs = max x.args g
    case neg =>
      have HR := shid (show headB fs n x = false by rw [HH2.out]; exact decide_eq_false (by omega))
      have q3 : (x.regs == (if x.args < g then g else x.args)) = false := by rw [beq_eq_false_iff_ne]; intro e; apply k3; rw [e]; split <;> omega
      clear k3
      have HBF := shid (FBox.new (w.alloc (.cells #[.int .i64 hp, .slice pt nt ct, .slice (some ⟨b, o, none⟩) fs.length cf] 25)) x.name x.args x.regs (.slice pb x.blocks.length cb) 37)
      have HBP := shid (HPB.out.keep (al1 _ (.cells #[.string x.name, .int .i64 x.args, .int .i64 x.regs, .slice pb x.blocks.length cb] 37)))
      have HW1 := shid (sbt HW0.out (al1 (w.alloc (.cells #[.int .i64 hp, .slice pt nt ct, .slice (some ⟨b, o, none⟩) fs.length cf] 25)) (.cells #[.string x.name, .int .i64 x.args, .int .i64 x.regs, .slice pb x.blocks.length cb] 37)))
      simp only [World.size_alloc] at HBF
      go_enter Try.func18, Try.ntmps18
      go_wp2_with fail
      generalize ((w.alloc (.cells #[.int .i64 hp, .slice pt nt ct, .slice (some ⟨b, o, none⟩) fs.length cf] 25)).alloc (.cells #[.string x.name, .int .i64 x.args, .int .i64 x.regs, .slice pb x.blocks.length cb] 37)) = W1 at *
      have HT2 : Hid (∀ W : World, Below W1.heap.size W1 W → Calls Try.prog 35 #[.int .i64 n, .func (.func 36) #[] #[.pointer (some ⟨w.heap.size, 0, none⟩)]] W fun e w' => e = .returned (.bool false) ∧ W = w') := shid fun W hb => HCF.out W (HBP.out.keep hb) (sbt HW1.out hb)
      have HGR2 : Hid (∀ W : World, Below W1.heap.size W1 W → Calls Try.prog 37 #[.agg #[.string x.name, .int .i64 x.args, .int .i64 x.regs, .slice pb x.blocks.length cb]] W fun e w' => e = .returned (.int .i64 g) ∧ Below W.heap.size W w') := shid fun W hb => HGR.out W (sbt HW1.out hb)
      have HKS : Hid (∀ w', Below W1.heap.size W1 w' →  w'.cell? ⟨w.heap.size + 1, 0, none⟩ = some (.string x.name) ∧ w'.cell? ⟨w.heap.size + 1, 1, none⟩ = some (.int .i64 x.args) ∧ w'.cell? ⟨w.heap.size + 1, 2, none⟩ = some (.int .i64 x.regs) ∧ w'.cell? ⟨w.heap.size + 1, 3, none⟩ = some (.slice pb x.blocks.length cb)) := shid fun w' hb => by
        obtain ⟨_, b0, b1, b2, b3⟩ := HBF.out.keep hb
        exact ⟨b0, b1, b2, b3⟩
      have hle : W1.heap.size ≤ W1.heap.size := Nat.le_refl _
      have hbd : Below W1.heap.size W1 W1.drew := (Below.refl _ _).drew
      clear c0 c1 c2 c3 HBF HBP HCF HGR
      obtain ⟨b0, b1, b2, b3⟩ := HKS.out W1 (Below.refl _ _)
      first
        | (go_region_law (first
            | (go_simp; go_at_call 35; (with_reducible refine (HT2.out _ hbd).mono ?_); rintro e w3 ⟨rfl, rfl⟩)
            | (go_simp; go_at_call 37; (with_reducible refine (HGR2.out _ hbd).mono ?_); rintro e w4 ⟨rfl, hb40⟩; have hb4 : Below W1.heap.size W1 w4 := sbt hbd hb40; obtain ⟨z0, z1, z2, z3⟩ := HKS.out w4 hb4)))
        | fail
      all_goals go_wp2_with fail
      all_goals
        go_ret
        exact ⟨sret_val (by rw [HR.out]; rfl), sbt HW1.out hb4⟩
    have q3 : (x.regs == (if x.args < g then g else x.args)) = true := by rw [beq_iff_eq, k3]; split <;> omega
    by_cases k4 : x.regs ≤ 4096
    case neg =>
      have HR := shid (show headB fs n x = false by rw [HH2.out]; exact decide_eq_false (by omega))
      have q4 : decide (x.regs ≤ 4096) = false := decide_eq_false k4
      clear k4 k3
      have HBF := shid (FBox.new (w.alloc (.cells #[.int .i64 hp, .slice pt nt ct, .slice (some ⟨b, o, none⟩) fs.length cf] 25)) x.name x.args x.regs (.slice pb x.blocks.length cb) 37)
      have HBP := shid (HPB.out.keep (al1 _ (.cells #[.string x.name, .int .i64 x.args, .int .i64 x.regs, .slice pb x.blocks.length cb] 37)))
      have HW1 := shid (sbt HW0.out (al1 (w.alloc (.cells #[.int .i64 hp, .slice pt nt ct, .slice (some ⟨b, o, none⟩) fs.length cf] 25)) (.cells #[.string x.name, .int .i64 x.args, .int .i64 x.regs, .slice pb x.blocks.length cb] 37)))
      simp only [World.size_alloc] at HBF
      go_enter Try.func18, Try.ntmps18
      go_wp2_with fail
      generalize ((w.alloc (.cells #[.int .i64 hp, .slice pt nt ct, .slice (some ⟨b, o, none⟩) fs.length cf] 25)).alloc (.cells #[.string x.name, .int .i64 x.args, .int .i64 x.regs, .slice pb x.blocks.length cb] 37)) = W1 at *
      have HT2 : Hid (∀ W : World, Below W1.heap.size W1 W → Calls Try.prog 35 #[.int .i64 n, .func (.func 36) #[] #[.pointer (some ⟨w.heap.size, 0, none⟩)]] W fun e w' => e = .returned (.bool false) ∧ W = w') := shid fun W hb => HCF.out W (HBP.out.keep hb) (sbt HW1.out hb)
      have HGR2 : Hid (∀ W : World, Below W1.heap.size W1 W → Calls Try.prog 37 #[.agg #[.string x.name, .int .i64 x.args, .int .i64 x.regs, .slice pb x.blocks.length cb]] W fun e w' => e = .returned (.int .i64 g) ∧ Below W.heap.size W w') := shid fun W hb => HGR.out W (sbt HW1.out hb)
      have HKS : Hid (∀ w', Below W1.heap.size W1 w' →  w'.cell? ⟨w.heap.size + 1, 0, none⟩ = some (.string x.name) ∧ w'.cell? ⟨w.heap.size + 1, 1, none⟩ = some (.int .i64 x.args) ∧ w'.cell? ⟨w.heap.size + 1, 2, none⟩ = some (.int .i64 x.regs) ∧ w'.cell? ⟨w.heap.size + 1, 3, none⟩ = some (.slice pb x.blocks.length cb)) := shid fun w' hb => by
        obtain ⟨_, b0, b1, b2, b3⟩ := HBF.out.keep hb
        exact ⟨b0, b1, b2, b3⟩
      have hle : W1.heap.size ≤ W1.heap.size := Nat.le_refl _
      have hbd : Below W1.heap.size W1 W1.drew := (Below.refl _ _).drew
      clear c0 c1 c2 c3 HBF HBP HCF HGR
      obtain ⟨b0, b1, b2, b3⟩ := HKS.out W1 (Below.refl _ _)
      first
        | (go_region_law (first
            | (go_simp; go_at_call 35; (with_reducible refine (HT2.out _ hbd).mono ?_); rintro e w3 ⟨rfl, rfl⟩)
            | (go_simp; go_at_call 37; (with_reducible refine (HGR2.out _ hbd).mono ?_); rintro e w4 ⟨rfl, hb40⟩; have hb4 : Below W1.heap.size W1 w4 := sbt hbd hb40; obtain ⟨z0, z1, z2, z3⟩ := HKS.out w4 hb4)))
        | fail
      all_goals go_wp2_with fail
      all_goals
        go_ret
        exact ⟨sret_val (by rw [HR.out]; rfl), sbt HW1.out hb4⟩
    have q4 : decide (x.regs ≤ 4096) = true := decide_eq_true k4
    by_cases k5 : 0 < x.blocks.length
    case neg =>
      have HR := shid (show headB fs n x = false by rw [HH2.out]; exact decide_eq_false (by omega))
      have q5 : decide (0 < x.blocks.length) = false := decide_eq_false k5
      clear k5 k3
      have HBF := shid (FBox.new (w.alloc (.cells #[.int .i64 hp, .slice pt nt ct, .slice (some ⟨b, o, none⟩) fs.length cf] 25)) x.name x.args x.regs (.slice pb x.blocks.length cb) 37)
      have HBP := shid (HPB.out.keep (al1 _ (.cells #[.string x.name, .int .i64 x.args, .int .i64 x.regs, .slice pb x.blocks.length cb] 37)))
      have HW1 := shid (sbt HW0.out (al1 (w.alloc (.cells #[.int .i64 hp, .slice pt nt ct, .slice (some ⟨b, o, none⟩) fs.length cf] 25)) (.cells #[.string x.name, .int .i64 x.args, .int .i64 x.regs, .slice pb x.blocks.length cb] 37)))
      simp only [World.size_alloc] at HBF
      go_enter Try.func18, Try.ntmps18
      go_wp2_with fail
      generalize ((w.alloc (.cells #[.int .i64 hp, .slice pt nt ct, .slice (some ⟨b, o, none⟩) fs.length cf] 25)).alloc (.cells #[.string x.name, .int .i64 x.args, .int .i64 x.regs, .slice pb x.blocks.length cb] 37)) = W1 at *
      have HT2 : Hid (∀ W : World, Below W1.heap.size W1 W → Calls Try.prog 35 #[.int .i64 n, .func (.func 36) #[] #[.pointer (some ⟨w.heap.size, 0, none⟩)]] W fun e w' => e = .returned (.bool false) ∧ W = w') := shid fun W hb => HCF.out W (HBP.out.keep hb) (sbt HW1.out hb)
      have HGR2 : Hid (∀ W : World, Below W1.heap.size W1 W → Calls Try.prog 37 #[.agg #[.string x.name, .int .i64 x.args, .int .i64 x.regs, .slice pb x.blocks.length cb]] W fun e w' => e = .returned (.int .i64 g) ∧ Below W.heap.size W w') := shid fun W hb => HGR.out W (sbt HW1.out hb)
      have HKS : Hid (∀ w', Below W1.heap.size W1 w' →  w'.cell? ⟨w.heap.size + 1, 0, none⟩ = some (.string x.name) ∧ w'.cell? ⟨w.heap.size + 1, 1, none⟩ = some (.int .i64 x.args) ∧ w'.cell? ⟨w.heap.size + 1, 2, none⟩ = some (.int .i64 x.regs) ∧ w'.cell? ⟨w.heap.size + 1, 3, none⟩ = some (.slice pb x.blocks.length cb)) := shid fun w' hb => by
        obtain ⟨_, b0, b1, b2, b3⟩ := HBF.out.keep hb
        exact ⟨b0, b1, b2, b3⟩
      have hle : W1.heap.size ≤ W1.heap.size := Nat.le_refl _
      have hbd : Below W1.heap.size W1 W1.drew := (Below.refl _ _).drew
      clear c0 c1 c2 c3 HBF HBP HCF HGR
      first
        | (go_region_held3 (fun w' => w'.cell? ⟨w.heap.size + 1, 0, none⟩ = some (.string x.name) ∧ w'.cell? ⟨w.heap.size + 1, 1, none⟩ = some (.int .i64 x.args) ∧ w'.cell? ⟨w.heap.size + 1, 2, none⟩ = some (.int .i64 x.regs) ∧ w'.cell? ⟨w.heap.size + 1, 3, none⟩ = some (.slice pb x.blocks.length cb)) (first | (with_reducible exact HKS.out _ hbd) | (with_reducible exact HKS.out _ hb4) | (refine HKS.out _ ?_; first | assumption | (go_grown; done)))
            (first
              | (go_at_call 35; (with_reducible refine (HT2.out _ hbd).mono ?_); rintro e w3 ⟨rfl, rfl⟩)
              | (go_at_call 37; (with_reducible refine (HGR2.out _ hbd).mono ?_); rintro e w4 ⟨rfl, hb40⟩; have hb4 : Below W1.heap.size W1 w4 := sbt hbd hb40; have hle4 : W1.heap.size ≤ w4.heap.size := hb4.size)))
        | fail
      all_goals go_wp2_with fail
      all_goals
        go_ret
        exact ⟨sret_val (by rw [HR.out]; rfl), sbt HW1.out (by first | exact hb4 | exact hbd)⟩
    have HR := shid (show headB fs n x = true by rw [HH2.out]; exact decide_eq_true ⟨k1, k2, k3, k4, k5⟩)
    have q5 : decide (0 < x.blocks.length) = true := decide_eq_true k5
    clear k5 k3
    have HBF := shid (FBox.new (w.alloc (.cells #[.int .i64 hp, .slice pt nt ct, .slice (some ⟨b, o, none⟩) fs.length cf] 25)) x.name x.args x.regs (.slice pb x.blocks.length cb) 37)
    have HBP := shid (HPB.out.keep (al1 _ (.cells #[.string x.name, .int .i64 x.args, .int .i64 x.regs, .slice pb x.blocks.length cb] 37)))
    have HW1 := shid (sbt HW0.out (al1 (w.alloc (.cells #[.int .i64 hp, .slice pt nt ct, .slice (some ⟨b, o, none⟩) fs.length cf] 25)) (.cells #[.string x.name, .int .i64 x.args, .int .i64 x.regs, .slice pb x.blocks.length cb] 37)))
    simp only [World.size_alloc] at HBF
    go_enter Try.func18, Try.ntmps18
    go_wp2_with fail
    generalize ((w.alloc (.cells #[.int .i64 hp, .slice pt nt ct, .slice (some ⟨b, o, none⟩) fs.length cf] 25)).alloc (.cells #[.string x.name, .int .i64 x.args, .int .i64 x.regs, .slice pb x.blocks.length cb] 37)) = W1 at *
    have HT2 : Hid (∀ W : World, Below W1.heap.size W1 W → Calls Try.prog 35 #[.int .i64 n, .func (.func 36) #[] #[.pointer (some ⟨w.heap.size, 0, none⟩)]] W fun e w' => e = .returned (.bool false) ∧ W = w') := shid fun W hb => HCF.out W (HBP.out.keep hb) (sbt HW1.out hb)
    have HGR2 : Hid (∀ W : World, Below W1.heap.size W1 W → Calls Try.prog 37 #[.agg #[.string x.name, .int .i64 x.args, .int .i64 x.regs, .slice pb x.blocks.length cb]] W fun e w' => e = .returned (.int .i64 g) ∧ Below W.heap.size W w') := shid fun W hb => HGR.out W (sbt HW1.out hb)
    have HKS : Hid (∀ w', Below W1.heap.size W1 w' →  w'.cell? ⟨w.heap.size + 1, 0, none⟩ = some (.string x.name) ∧ w'.cell? ⟨w.heap.size + 1, 1, none⟩ = some (.int .i64 x.args) ∧ w'.cell? ⟨w.heap.size + 1, 2, none⟩ = some (.int .i64 x.regs) ∧ w'.cell? ⟨w.heap.size + 1, 3, none⟩ = some (.slice pb x.blocks.length cb)) := shid fun w' hb => by
      obtain ⟨_, b0, b1, b2, b3⟩ := HBF.out.keep hb
      exact ⟨b0, b1, b2, b3⟩
    have hle : W1.heap.size ≤ W1.heap.size := Nat.le_refl _
    have hbd : Below W1.heap.size W1 W1.drew := (Below.refl _ _).drew
    clear c0 c1 c2 c3 HBF HBP HCF HGR
    first
      | (go_region_held3 (fun w' => w'.cell? ⟨w.heap.size + 1, 0, none⟩ = some (.string x.name) ∧ w'.cell? ⟨w.heap.size + 1, 1, none⟩ = some (.int .i64 x.args) ∧ w'.cell? ⟨w.heap.size + 1, 2, none⟩ = some (.int .i64 x.regs) ∧ w'.cell? ⟨w.heap.size + 1, 3, none⟩ = some (.slice pb x.blocks.length cb)) (first | (with_reducible exact HKS.out _ hbd) | (with_reducible exact HKS.out _ hb4) | (refine HKS.out _ ?_; first | assumption | (go_grown; done)))
          (first
            | (go_at_call 35; (with_reducible refine (HT2.out _ hbd).mono ?_); rintro e w3 ⟨rfl, rfl⟩)
            | (go_at_call 37; (with_reducible refine (HGR2.out _ hbd).mono ?_); rintro e w4 ⟨rfl, hb40⟩; have hb4 : Below W1.heap.size W1 w4 := sbt hbd hb40; have hle4 : W1.heap.size ≤ w4.heap.size := hb4.size)))
      | fail
    all_goals go_wp2_with fail
    all_goals
      go_ret
      exact ⟨sret_val (by rw [HR.out]; rfl), sbt HW1.out (by first | exact hb4 | exact hbd)⟩
end Go.Proofs.Ythahjnjkiljaaaa
