/- The walks of shape.head and of its function. -/
import Derived.Test.YtdefooailcbnlaaG16
import Derived.Deep.RegionHeld3
import Derived.Deep.RegionLaw
namespace Go.Proofs.Ytdefooailcbnlaa
open Go.RowKit
set_option linter.unusedVariables false
set_option linter.unusedSimpArgs false
theorem squiet_left {P : Program} {f : FuncId} {args : Array Value} {w : World} {n : Nat} {v : Value}
    (h : Calls P f args (w.drewN n) fun e w' => e = .returned v ∧ w.drewN n = w') : Calls P f args (w.drewN n) fun e w'' => e = .returned v ∧ ∃ m, w'' = w.drewN m :=
  h.mono fun _ _ ⟨he, hm⟩ => ⟨he, n, hm.symm⟩
def fnNames (fs : List Fnx) (i : Nat) : ByteArray := (fs[i]?.map Fnx.name).getD ⟨#[]⟩
def blkNames (bs : List Blk) (i : Nat) : ByteArray := (bs[i]?.map Blk.name).getD ⟨#[]⟩
theorem fnNames_at {fs : List Fnx} {i : Nat} {x : Fnx} (h : fs[i]? = some x) : fnNames fs i = x.name := by simp [fnNames, h]
theorem blkNames_at {fs : List Blk} {i : Nat} {x : Blk} (h : fs[i]? = some x) : blkNames fs i = x.name := by simp [blkNames, h]
/-- Whether a function may be, but for its blocks. -/
def headB (fs : List Fnx) (n : Nat) (x : Fnx) : Bool :=
  !twiceB (fnNames fs) n && decide (0 ≤ x.args ∧ x.args ≤ 6 ∧ x.regs = max x.args (greatestS x.blocks) ∧ x.regs ≤ 4096 ∧ 0 < x.blocks.length)
set_option maxHeartbeats 1000000 in
theorem headf_any (fs : List Fnx) (hp : Int) (tv : Value) (pf : Option Addr) (cf : Nat) (B : Nat) (w : World) (hB : PBox w B hp tv (.slice pf fs.length cf)) (hF : FnsIn w (.slice pf fs.length cf) fs) (i : Nat) (hi : i < fs.length) :
    Calls Try.prog 58 #[.int .i64 i, .pointer (some ⟨B, 0, none⟩)] w fun e w' => e = .returned (.string (fnNames fs i)) ∧ w = w' := by
  obtain ⟨pbb, cbb, b, o, hbe, hbl, HBS⟩ := hF.hids
  cases hbe
  obtain rfl := HBS.out.1 (by omega)
  have HX := shid (List.getElem?_eq_getElem hi)
  generalize fs[i] = x at HX
  have c0 := (HBS.out.2 i x HX.out).c0
  have HN := shid (fnNames_at HX.out)
  obtain ⟨_, p0, p1, p2⟩ := hB
  have h1 : (i : Int) < fs.length := by omega
  rw [HN.out]
  clear hF
  go_enter Try.func58, Try.ntmps58
  go_wp2_with fail
  go_ret
  exact ⟨rfl, rfl⟩
set_option maxHeartbeats 1000000 in
theorem blockf_any (nm : ByteArray) (fa fr : Int) (bs : List Blk) (pb : Option Addr) (cb : Nat) (B : Nat) (w : World) (hB : FBox w B nm fa fr (.slice pb bs.length cb)) (hF : BlksIn w (.slice pb bs.length cb) bs) (i : Nat) (hi : i < bs.length) :
    Calls Try.prog 60 #[.int .i64 i, .pointer (some ⟨B, 0, none⟩)] w fun e w' => e = .returned (.string (blkNames bs i)) ∧ w = w' := by
  obtain ⟨pbb, cbb, b, o, hbe, hbl, HBS⟩ := hF.hids
  cases hbe
  obtain rfl := HBS.out.1 (by omega)
  have HX := shid (List.getElem?_eq_getElem hi)
  generalize bs[i] = x at HX
  have c0 := (HBS.out.2 i x HX.out).c0
  have HN := shid (blkNames_at HX.out)
  obtain ⟨_, p0, p1, p2, p3⟩ := hB
  have h1 : (i : Int) < bs.length := by omega
  rw [HN.out]
  clear hF
  go_enter Try.func60, Try.ntmps60
  go_wp2_with fail
  go_ret
  exact ⟨rfl, rfl⟩
set_option maxRecDepth 100000 in
set_option maxHeartbeats 4000000 in
theorem head_any (fs : List Fnx) (hp : Int) (pt : Option Addr) (nt ct : Nat) (pf : Option Addr) (cf : Nat) (n : Nat) (x : Fnx) (hx : fs[n]? = some x) (w : World) (hF : FnsIn w (.slice pf fs.length cf) fs) :
    Calls Try.prog 34 #[.agg #[.int .i64 hp, .slice pt nt ct, .slice pf fs.length cf], .int .i64 n] w fun e w' => e = .returned (.bool (headB fs n x)) ∧ Below w.heap.size w w' := by
  have hn : n < fs.length := (List.getElem?_eq_some_iff.1 hx).1
  have HX := shid hx
  have HF := shid hF
  obtain ⟨pbb, cbb, b, o, hbe, hbl, HBS⟩ := hF.hids
  cases hbe
  obtain rfl := HBS.out.1 (by omega)
  have HW0 := shid (al1 w (.cells #[.int .i64 hp, .slice pt nt ct, .slice (some ⟨b, o, none⟩) fs.length cf] 25))
  obtain ⟨d0, d1, d2, ⟨bv, d3, hbv⟩, hnm, _, _⟩ := HBS.out.2 n x hx
  have c0 := (HW0.out.cell (p := ⟨b, o + n * 4, none⟩) (World.block_lt_of_cell? _ _ d0)).trans d0
  have c1 := (HW0.out.cell (p := ⟨b, o + n * 4 + 1, none⟩) (World.block_lt_of_cell? _ _ d1)).trans d1
  have c2 := (HW0.out.cell (p := ⟨b, o + n * 4 + 2, none⟩) (World.block_lt_of_cell? _ _ d2)).trans d2
  have c3 := (HW0.out.cell (p := ⟨b, o + n * 4 + 3, none⟩) (World.block_lt_of_cell? _ _ d3)).trans d3
  clear d0 d1 d2 d3
  obtain ⟨pb, cb, rfl⟩ := hbv.shape
  have HBV := shid hbv
  have HNM := shid hnm
  have hbl2 := hbv.1
  have HPB := shid (PBox.new w hp (.slice pt nt ct) (.slice (some ⟨b, o, none⟩) fs.length cf) 25)
  have h1 : (n : Int) < fs.length := by omega
  have HGB := shid (greatest_bd hbv.bds)
  have HHB := shid (show headB fs n x = (!twiceB (fnNames fs) n && decide (0 ≤ x.args ∧ x.args ≤ 6 ∧ x.regs = max x.args (greatestS x.blocks) ∧ x.regs ≤ 4096 ∧ 0 < x.blocks.length)) from rfl)
  have HCF := shid (fun (W : World) (hP : PBox W w.heap.size hp (.slice pt nt ct) (.slice (some ⟨b, o, none⟩) fs.length cf)) (hb : Below w.heap.size w W) => twice_head (fnNames fs) n fs.length hn (by omega) (by rw [fnNames_at HX.out]; exact HNM.out) w.heap.size W (shid fun i hi => headf_any fs hp (.slice pt nt ct) _ cf w.heap.size W hP (FnsIn.keep HF.out hb) i hi))
  have HGR := shid (fun (W : World) (hb : Below w.heap.size w W) => greatest_any x.name x.args x.regs x.blocks pb cb W (BlksIn.keep HBV.out hb))
  clear hx hF hbv hnm
  generalize twiceB (fnNames fs) n = tw at *
  generalize greatestS x.blocks = g at *
  cases tw with
  | true =>
    have HR := shid (show headB fs n x = false from HHB.out)
    have HBF := shid (FBox.new (w.alloc (.cells #[.int .i64 hp, .slice pt nt ct, .slice (some ⟨b, o, none⟩) fs.length cf] 25)) x.name x.args x.regs (.slice pb x.blocks.length cb) 41)
    have HBP := shid (HPB.out.keep (al1 _ (.cells #[.string x.name, .int .i64 x.args, .int .i64 x.regs, .slice pb x.blocks.length cb] 41)))
    have HW1 := shid (sbt HW0.out (al1 (w.alloc (.cells #[.int .i64 hp, .slice pt nt ct, .slice (some ⟨b, o, none⟩) fs.length cf] 25)) (.cells #[.string x.name, .int .i64 x.args, .int .i64 x.regs, .slice pb x.blocks.length cb] 41)))
    simp only [World.size_alloc] at HBF
    go_enter Try.func34, Try.ntmps34
    go_wp2_with fail
    generalize ((w.alloc (.cells #[.int .i64 hp, .slice pt nt ct, .slice (some ⟨b, o, none⟩) fs.length cf] 25)).alloc (.cells #[.string x.name, .int .i64 x.args, .int .i64 x.regs, .slice pb x.blocks.length cb] 41)) = W1 at *
    have HT2 : Hid (∀ W : World, Below W1.heap.size W1 W → Calls Try.prog 57 #[.int .i64 n, .func (.func 58) #[] #[.pointer (some ⟨w.heap.size, 0, none⟩)]] W fun e w' => e = .returned (.bool true) ∧ W = w') := shid fun W hb => HCF.out W (HBP.out.keep hb) (sbt HW1.out hb)
    have HGR2 : Hid (∀ W : World, Below W1.heap.size W1 W → Calls Try.prog 59 #[.agg #[.string x.name, .int .i64 x.args, .int .i64 x.regs, .slice pb x.blocks.length cb]] W fun e w' => e = .returned (.int .i64 g) ∧ Below W.heap.size W w') := shid fun W hb => HGR.out W (sbt HW1.out hb)
    have HKS : Hid (∀ w', Below W1.heap.size W1 w' →  w'.cell? ⟨w.heap.size + 1, 0, none⟩ = some (.string x.name) ∧ w'.cell? ⟨w.heap.size + 1, 1, none⟩ = some (.int .i64 x.args) ∧ w'.cell? ⟨w.heap.size + 1, 2, none⟩ = some (.int .i64 x.regs) ∧ w'.cell? ⟨w.heap.size + 1, 3, none⟩ = some (.slice pb x.blocks.length cb)) := shid fun w' hb => by
      obtain ⟨_, b0, b1, b2, b3⟩ := HBF.out.keep hb
      exact ⟨b0, b1, b2, b3⟩
    have hle : W1.heap.size ≤ W1.heap.size := Nat.le_refl _
    have hbd : Below W1.heap.size W1 W1.drew := (Below.refl _ _).drew
    clear c0 c1 c2 c3 HBF HBP HCF HGR
    obtain ⟨b0, b1, b2, b3⟩ := HKS.out W1 (Below.refl _ _)
    have HTQ := shid (fun m => squiet_left (HT2.out (W1.drewN m) (sdrewN (Below.refl _ _) m)))
    go_quiet ((go_at_call 57; exact HTQ.out _))
    go_wp2_with fail
    go_ret
    exact ⟨sret_val (by rw [HR.out]; rfl), sbt HW1.out (sdrewN (Below.refl _ _) _)⟩
  | false =>
    have HH2 : Hid (headB fs n x = decide (0 ≤ x.args ∧ x.args ≤ 6 ∧ x.regs = max x.args g ∧ x.regs ≤ 4096 ∧ 0 < x.blocks.length)) := shid (HHB.out.trans (Bool.true_and _))
    clear HHB
    by_cases k1 : 0 ≤ x.args
    case neg =>
      have HR := shid (show headB fs n x = false by rw [HH2.out]; exact decide_eq_false (by omega))
      have q1 : decide (0 ≤ x.args) = false := decide_eq_false k1
      clear k1
      have HBF := shid (FBox.new (w.alloc (.cells #[.int .i64 hp, .slice pt nt ct, .slice (some ⟨b, o, none⟩) fs.length cf] 25)) x.name x.args x.regs (.slice pb x.blocks.length cb) 41)
      have HBP := shid (HPB.out.keep (al1 _ (.cells #[.string x.name, .int .i64 x.args, .int .i64 x.regs, .slice pb x.blocks.length cb] 41)))
      have HW1 := shid (sbt HW0.out (al1 (w.alloc (.cells #[.int .i64 hp, .slice pt nt ct, .slice (some ⟨b, o, none⟩) fs.length cf] 25)) (.cells #[.string x.name, .int .i64 x.args, .int .i64 x.regs, .slice pb x.blocks.length cb] 41)))
      simp only [World.size_alloc] at HBF
      go_enter Try.func34, Try.ntmps34
      go_wp2_with fail
      generalize ((w.alloc (.cells #[.int .i64 hp, .slice pt nt ct, .slice (some ⟨b, o, none⟩) fs.length cf] 25)).alloc (.cells #[.string x.name, .int .i64 x.args, .int .i64 x.regs, .slice pb x.blocks.length cb] 41)) = W1 at *
      have HT2 : Hid (∀ W : World, Below W1.heap.size W1 W → Calls Try.prog 57 #[.int .i64 n, .func (.func 58) #[] #[.pointer (some ⟨w.heap.size, 0, none⟩)]] W fun e w' => e = .returned (.bool false) ∧ W = w') := shid fun W hb => HCF.out W (HBP.out.keep hb) (sbt HW1.out hb)
      have HGR2 : Hid (∀ W : World, Below W1.heap.size W1 W → Calls Try.prog 59 #[.agg #[.string x.name, .int .i64 x.args, .int .i64 x.regs, .slice pb x.blocks.length cb]] W fun e w' => e = .returned (.int .i64 g) ∧ Below W.heap.size W w') := shid fun W hb => HGR.out W (sbt HW1.out hb)
      have HKS : Hid (∀ w', Below W1.heap.size W1 w' →  w'.cell? ⟨w.heap.size + 1, 0, none⟩ = some (.string x.name) ∧ w'.cell? ⟨w.heap.size + 1, 1, none⟩ = some (.int .i64 x.args) ∧ w'.cell? ⟨w.heap.size + 1, 2, none⟩ = some (.int .i64 x.regs) ∧ w'.cell? ⟨w.heap.size + 1, 3, none⟩ = some (.slice pb x.blocks.length cb)) := shid fun w' hb => by
        obtain ⟨_, b0, b1, b2, b3⟩ := HBF.out.keep hb
        exact ⟨b0, b1, b2, b3⟩
      have hle : W1.heap.size ≤ W1.heap.size := Nat.le_refl _
      have hbd : Below W1.heap.size W1 W1.drew := (Below.refl _ _).drew
      clear c0 c1 c2 c3 HBF HBP HCF HGR
      obtain ⟨b0, b1, b2, b3⟩ := HKS.out W1 (Below.refl _ _)
      have HTQ := shid (fun m => squiet_left (HT2.out (W1.drewN m) (sdrewN (Below.refl _ _) m)))
      go_quiet ((go_at_call 57; exact HTQ.out _))
      go_wp2_with fail
      go_ret
      exact ⟨sret_val (by rw [HR.out]; rfl), sbt HW1.out (sdrewN (Below.refl _ _) _)⟩
    have q1 : decide (0 ≤ x.args) = true := decide_eq_true k1
    by_cases k2 : x.args ≤ 6
    case neg =>
      have HR := shid (show headB fs n x = false by rw [HH2.out]; exact decide_eq_false (by omega))
      have q2 : decide (x.args ≤ 6) = false := decide_eq_false k2
      clear k2
      have HBF := shid (FBox.new (w.alloc (.cells #[.int .i64 hp, .slice pt nt ct, .slice (some ⟨b, o, none⟩) fs.length cf] 25)) x.name x.args x.regs (.slice pb x.blocks.length cb) 41)
      have HBP := shid (HPB.out.keep (al1 _ (.cells #[.string x.name, .int .i64 x.args, .int .i64 x.regs, .slice pb x.blocks.length cb] 41)))
      have HW1 := shid (sbt HW0.out (al1 (w.alloc (.cells #[.int .i64 hp, .slice pt nt ct, .slice (some ⟨b, o, none⟩) fs.length cf] 25)) (.cells #[.string x.name, .int .i64 x.args, .int .i64 x.regs, .slice pb x.blocks.length cb] 41)))
      simp only [World.size_alloc] at HBF
      go_enter Try.func34, Try.ntmps34
      go_wp2_with fail
      generalize ((w.alloc (.cells #[.int .i64 hp, .slice pt nt ct, .slice (some ⟨b, o, none⟩) fs.length cf] 25)).alloc (.cells #[.string x.name, .int .i64 x.args, .int .i64 x.regs, .slice pb x.blocks.length cb] 41)) = W1 at *
      have HT2 : Hid (∀ W : World, Below W1.heap.size W1 W → Calls Try.prog 57 #[.int .i64 n, .func (.func 58) #[] #[.pointer (some ⟨w.heap.size, 0, none⟩)]] W fun e w' => e = .returned (.bool false) ∧ W = w') := shid fun W hb => HCF.out W (HBP.out.keep hb) (sbt HW1.out hb)
      have HGR2 : Hid (∀ W : World, Below W1.heap.size W1 W → Calls Try.prog 59 #[.agg #[.string x.name, .int .i64 x.args, .int .i64 x.regs, .slice pb x.blocks.length cb]] W fun e w' => e = .returned (.int .i64 g) ∧ Below W.heap.size W w') := shid fun W hb => HGR.out W (sbt HW1.out hb)
      have HKS : Hid (∀ w', Below W1.heap.size W1 w' →  w'.cell? ⟨w.heap.size + 1, 0, none⟩ = some (.string x.name) ∧ w'.cell? ⟨w.heap.size + 1, 1, none⟩ = some (.int .i64 x.args) ∧ w'.cell? ⟨w.heap.size + 1, 2, none⟩ = some (.int .i64 x.regs) ∧ w'.cell? ⟨w.heap.size + 1, 3, none⟩ = some (.slice pb x.blocks.length cb)) := shid fun w' hb => by
        obtain ⟨_, b0, b1, b2, b3⟩ := HBF.out.keep hb
        exact ⟨b0, b1, b2, b3⟩
      have hle : W1.heap.size ≤ W1.heap.size := Nat.le_refl _
      have hbd : Below W1.heap.size W1 W1.drew := (Below.refl _ _).drew
      clear c0 c1 c2 c3 HBF HBP HCF HGR
      obtain ⟨b0, b1, b2, b3⟩ := HKS.out W1 (Below.refl _ _)
      have HTQ := shid (fun m => squiet_left (HT2.out (W1.drewN m) (sdrewN (Below.refl _ _) m)))
      go_quiet ((go_at_call 57; exact HTQ.out _))
      go_wp2_with fail
      go_ret
      exact ⟨sret_val (by rw [HR.out]; rfl), sbt HW1.out (sdrewN (Below.refl _ _) _)⟩
    have q2 : decide (x.args ≤ 6) = true := decide_eq_true k2
    by_cases k3 : x.regs = max x.args g
    case neg =>
      have HR := shid (show headB fs n x = false by rw [HH2.out]; exact decide_eq_false (by omega))
      have q3 : (x.regs == (if x.args < g then g else x.args)) = false := by rw [beq_eq_false_iff_ne]; intro e; apply k3; rw [e]; split <;> omega
      clear k3
      have HBF := shid (FBox.new (w.alloc (.cells #[.int .i64 hp, .slice pt nt ct, .slice (some ⟨b, o, none⟩) fs.length cf] 25)) x.name x.args x.regs (.slice pb x.blocks.length cb) 41)
      have HBP := shid (HPB.out.keep (al1 _ (.cells #[.string x.name, .int .i64 x.args, .int .i64 x.regs, .slice pb x.blocks.length cb] 41)))
      have HW1 := shid (sbt HW0.out (al1 (w.alloc (.cells #[.int .i64 hp, .slice pt nt ct, .slice (some ⟨b, o, none⟩) fs.length cf] 25)) (.cells #[.string x.name, .int .i64 x.args, .int .i64 x.regs, .slice pb x.blocks.length cb] 41)))
      simp only [World.size_alloc] at HBF
      go_enter Try.func34, Try.ntmps34
      go_wp2_with fail
      generalize ((w.alloc (.cells #[.int .i64 hp, .slice pt nt ct, .slice (some ⟨b, o, none⟩) fs.length cf] 25)).alloc (.cells #[.string x.name, .int .i64 x.args, .int .i64 x.regs, .slice pb x.blocks.length cb] 41)) = W1 at *
      have HT2 : Hid (∀ W : World, Below W1.heap.size W1 W → Calls Try.prog 57 #[.int .i64 n, .func (.func 58) #[] #[.pointer (some ⟨w.heap.size, 0, none⟩)]] W fun e w' => e = .returned (.bool false) ∧ W = w') := shid fun W hb => HCF.out W (HBP.out.keep hb) (sbt HW1.out hb)
      have HGR2 : Hid (∀ W : World, Below W1.heap.size W1 W → Calls Try.prog 59 #[.agg #[.string x.name, .int .i64 x.args, .int .i64 x.regs, .slice pb x.blocks.length cb]] W fun e w' => e = .returned (.int .i64 g) ∧ Below W.heap.size W w') := shid fun W hb => HGR.out W (sbt HW1.out hb)
      have HKS : Hid (∀ w', Below W1.heap.size W1 w' →  w'.cell? ⟨w.heap.size + 1, 0, none⟩ = some (.string x.name) ∧ w'.cell? ⟨w.heap.size + 1, 1, none⟩ = some (.int .i64 x.args) ∧ w'.cell? ⟨w.heap.size + 1, 2, none⟩ = some (.int .i64 x.regs) ∧ w'.cell? ⟨w.heap.size + 1, 3, none⟩ = some (.slice pb x.blocks.length cb)) := shid fun w' hb => by
        obtain ⟨_, b0, b1, b2, b3⟩ := HBF.out.keep hb
        exact ⟨b0, b1, b2, b3⟩
      have hle : W1.heap.size ≤ W1.heap.size := Nat.le_refl _
      have hbd : Below W1.heap.size W1 W1.drew := (Below.refl _ _).drew
      clear c0 c1 c2 c3 HBF HBP HCF HGR
      obtain ⟨b0, b1, b2, b3⟩ := HKS.out W1 (Below.refl _ _)
      refine wp_region_held_drew (S := fun w' => w'.cell? ⟨w.heap.size + 1, 0, none⟩ = some (.string x.name) ∧ w'.cell? ⟨w.heap.size + 1, 1, none⟩ = some (.int .i64 x.args) ∧ w'.cell? ⟨w.heap.size + 1, 2, none⟩ = some (.int .i64 x.regs) ∧ w'.cell? ⟨w.heap.size + 1, 3, none⟩ = some (.slice pb x.blocks.length cb)) (by kernel_rfl) (HKS.out _ hbd) (fun hHeld => ?_)
      refine wpAnyH_take (i := 0) (v := ?vh0) rfl (by kernel_rfl) (by kernel_rfl) (by kernel_rfl) (fun _ _ _ h => h) (Or.inl ⟨by rfl, ?yh0⟩) (by assumption) ?rh0
      case yh0 => (intro w hSw; (try dsimp only at hSw); go_simp; try with_reducible rfl)
      try simp only [Act.put, List.getElem_toArray, List.getElem_cons_zero, List.getElem_cons_succ, List.setIfInBounds_toArray, List.set_cons_zero, List.set_cons_succ]
      refine wpAnyH_take (i := 1) (v := ?vh1) rfl (by kernel_rfl) (by kernel_rfl) (by kernel_rfl) (fun _ _ _ h => h) (Or.inl ⟨by rfl, ?yh1⟩) (by assumption) ?rh1
      case yh1 => (intro w hSw; (try dsimp only at hSw); go_simp; try with_reducible rfl)
      try simp only [Act.put, List.getElem_toArray, List.getElem_cons_zero, List.getElem_cons_succ, List.setIfInBounds_toArray, List.set_cons_zero, List.set_cons_succ]
      refine wpAnyH_ready (rs := [2]) (by kernel_rfl) (by simp) ?_
      refine AllReadyH.cons rfl (fun K hK => ?_) AllReadyH.nil
      go_simp
      go_at_call 57
      (with_reducible refine (HT2.out _ hbd).mono ?_)
      rintro e w3 ⟨rfl, rfl⟩
      go_wp2_with fail
      refine hK.out _ _ (HKS.out _ hbd) (fun hHeld2 => ?_)
      clear hK K hHeld
      try simp only [Act.put, List.getElem_toArray, List.getElem_cons_zero, List.getElem_cons_succ, List.setIfInBounds_toArray, List.set_cons_zero, List.set_cons_succ]
      refine wpAnyH_take (i := 3) (v := ?vh3) rfl (by kernel_rfl) (by kernel_rfl) (by kernel_rfl) (fun _ _ _ h => h) (Or.inl ⟨by rfl, ?yh3⟩) (by assumption) ?rh3
      case yh3 => (intro w hSw; (try dsimp only at hSw); go_simp; try with_reducible rfl)
      try simp only [Act.put, List.getElem_toArray, List.getElem_cons_zero, List.getElem_cons_succ, List.setIfInBounds_toArray, List.set_cons_zero, List.set_cons_succ]
      refine wpAnyH_take (i := 4) (v := ?vh4) rfl (by kernel_rfl) (by kernel_rfl) (by kernel_rfl) (fun _ _ _ h => h) (Or.inl ⟨by rfl, ?yh4⟩) (by assumption) ?rh4
      case yh4 => (intro w hSw; (try dsimp only at hSw); go_simp; try with_reducible rfl)
      try simp only [Act.put, List.getElem_toArray, List.getElem_cons_zero, List.getElem_cons_succ, List.setIfInBounds_toArray, List.set_cons_zero, List.set_cons_succ]
      refine wpAnyH_take (i := 5) (v := ?vh5) rfl (by kernel_rfl) (by kernel_rfl) (by kernel_rfl) (fun _ _ _ h => h) (Or.inl ⟨by rfl, ?yh5⟩) (by assumption) ?rh5
      case yh5 => (intro w hSw; (try dsimp only at hSw); go_simp; try with_reducible rfl)
      try simp only [Act.put, List.getElem_toArray, List.getElem_cons_zero, List.getElem_cons_succ, List.setIfInBounds_toArray, List.set_cons_zero, List.set_cons_succ]
      refine wpAnyH_take (i := 6) (v := ?vh6) rfl (by kernel_rfl) (by kernel_rfl) (by kernel_rfl) (fun _ _ _ h => h) (Or.inl ⟨by rfl, ?yh6⟩) (by assumption) ?rh6
      case yh6 => (intro w hSw; (try dsimp only at hSw); go_simp; try with_reducible rfl)
      try simp only [Act.put, List.getElem_toArray, List.getElem_cons_zero, List.getElem_cons_succ, List.setIfInBounds_toArray, List.set_cons_zero, List.set_cons_succ]
      refine wpAnyH_take (i := 7) (v := ?vh7) rfl (by kernel_rfl) (by kernel_rfl) (by kernel_rfl) (fun _ _ _ h => h) (Or.inl ⟨by rfl, ?yh7⟩) (by assumption) ?rh7
      case yh7 => (intro w hSw; (try dsimp only at hSw); go_simp; try with_reducible rfl)
      try simp only [Act.put, List.getElem_toArray, List.getElem_cons_zero, List.getElem_cons_succ, List.setIfInBounds_toArray, List.set_cons_zero, List.set_cons_succ]
      refine wpAnyH_take (i := 8) (v := ?vh8) rfl (by kernel_rfl) (by kernel_rfl) (by kernel_rfl) (fun _ _ _ h => h) (Or.inl ⟨by rfl, ?yh8⟩) (by assumption) ?rh8
      case yh8 => (intro w hSw; (try dsimp only at hSw); go_simp; try with_reducible rfl)
      try simp only [Act.put, List.getElem_toArray, List.getElem_cons_zero, List.getElem_cons_succ, List.setIfInBounds_toArray, List.set_cons_zero, List.set_cons_succ]
      refine wpAnyH_take (i := 9) (v := ?vh9) rfl (by kernel_rfl) (by kernel_rfl) (by kernel_rfl) (fun _ _ _ h => h) (Or.inl ⟨by rfl, ?yh9⟩) (by assumption) ?rh9
      case yh9 => (intro w hSw; (try dsimp only at hSw); go_simp; try with_reducible rfl)
      try simp only [Act.put, List.getElem_toArray, List.getElem_cons_zero, List.getElem_cons_succ, List.setIfInBounds_toArray, List.set_cons_zero, List.set_cons_succ]
      refine wpAnyH_take (i := 10) (v := ?vh10) rfl (by kernel_rfl) (by kernel_rfl) (by kernel_rfl) (fun _ _ _ h => h) (Or.inl ⟨by rfl, ?yh10⟩) (by assumption) ?rh10
      case yh10 => (intro w hSw; (try dsimp only at hSw); go_simp; try with_reducible rfl)
      try simp only [Act.put, List.getElem_toArray, List.getElem_cons_zero, List.getElem_cons_succ, List.setIfInBounds_toArray, List.set_cons_zero, List.set_cons_succ]
      refine wpAnyH_take (i := 11) (v := ?vh11) rfl (by kernel_rfl) (by kernel_rfl) (by kernel_rfl) (fun _ _ _ h => h) (Or.inl ⟨by rfl, ?yh11⟩) (by assumption) ?rh11
      case yh11 => (intro w hSw; (try dsimp only at hSw); go_simp; try with_reducible rfl)
      try simp only [Act.put, List.getElem_toArray, List.getElem_cons_zero, List.getElem_cons_succ, List.setIfInBounds_toArray, List.set_cons_zero, List.set_cons_succ]
      refine wpAnyH_take (i := 12) (v := ?vh12) rfl (by kernel_rfl) (by kernel_rfl) (by kernel_rfl) (fun _ _ _ h => h) (Or.inl ⟨by rfl, ?yh12⟩) (by assumption) ?rh12
      case yh12 => (intro w hSw; (try dsimp only at hSw); go_simp; try with_reducible rfl)
      try simp only [Act.put, List.getElem_toArray, List.getElem_cons_zero, List.getElem_cons_succ, List.setIfInBounds_toArray, List.set_cons_zero, List.set_cons_succ]
      refine wpAnyH_take (i := 13) (v := ?vh13) rfl (by kernel_rfl) (by kernel_rfl) (by kernel_rfl) (fun _ _ _ h => h) (Or.inl ⟨by rfl, ?yh13⟩) (by assumption) ?rh13
      case yh13 => (intro w hSw; (try dsimp only at hSw); go_simp; try with_reducible rfl)
      try simp only [Act.put, List.getElem_toArray, List.getElem_cons_zero, List.getElem_cons_succ, List.setIfInBounds_toArray, List.set_cons_zero, List.set_cons_succ]
      refine wpAnyH_take (i := 14) (v := ?vh14) rfl (by kernel_rfl) (by kernel_rfl) (by kernel_rfl) (fun _ _ _ h => h) (Or.inl ⟨by rfl, ?yh14⟩) (by assumption) ?rh14
      case yh14 => (intro w hSw; (try dsimp only at hSw); go_simp; try with_reducible rfl)
      try simp only [Act.put, List.getElem_toArray, List.getElem_cons_zero, List.getElem_cons_succ, List.setIfInBounds_toArray, List.set_cons_zero, List.set_cons_succ]
      refine wpAnyH_take (i := 15) (v := ?vh15) rfl (by kernel_rfl) (by kernel_rfl) (by kernel_rfl) (fun _ _ _ h => h) (Or.inl ⟨by rfl, ?yh15⟩) (by assumption) ?rh15
      case yh15 => (intro w hSw; (try dsimp only at hSw); go_simp; try with_reducible rfl)
      try simp only [Act.put, List.getElem_toArray, List.getElem_cons_zero, List.getElem_cons_succ, List.setIfInBounds_toArray, List.set_cons_zero, List.set_cons_succ]
      refine wpAnyH_take (i := 16) (v := ?vh16) rfl (by kernel_rfl) (by kernel_rfl) (by kernel_rfl) (fun _ _ _ h => h) (Or.inl ⟨by rfl, ?yh16⟩) (by assumption) ?rh16
      case yh16 => (intro w hSw; (try dsimp only at hSw); go_simp; try with_reducible rfl)
      try simp only [Act.put, List.getElem_toArray, List.getElem_cons_zero, List.getElem_cons_succ, List.setIfInBounds_toArray, List.set_cons_zero, List.set_cons_succ]
      refine wpAnyH_take (i := 17) (v := ?vh17) rfl (by kernel_rfl) (by kernel_rfl) (by kernel_rfl) (fun _ _ _ h => h) (Or.inl ⟨by rfl, ?yh17⟩) (by assumption) ?rh17
      case yh17 => (intro w hSw; (try dsimp only at hSw); go_simp; try with_reducible rfl)
      try simp only [Act.put, List.getElem_toArray, List.getElem_cons_zero, List.getElem_cons_succ, List.setIfInBounds_toArray, List.set_cons_zero, List.set_cons_succ]
      refine wpAnyH_take (i := 18) (v := ?vh18) rfl (by kernel_rfl) (by kernel_rfl) (by kernel_rfl) (fun _ _ _ h => h) (Or.inl ⟨by rfl, ?yh18⟩) (by assumption) ?rh18
      case yh18 => (intro w hSw; (try dsimp only at hSw); go_simp; try with_reducible rfl)
      try simp only [Act.put, List.getElem_toArray, List.getElem_cons_zero, List.getElem_cons_succ, List.setIfInBounds_toArray, List.set_cons_zero, List.set_cons_succ]
      refine wpAnyH_take (i := 19) (v := ?vh19) rfl (by kernel_rfl) (by kernel_rfl) (by kernel_rfl) (fun _ _ _ h => h) (Or.inl ⟨by rfl, ?yh19⟩) (by assumption) ?rh19
      case yh19 => (intro w hSw; (try dsimp only at hSw); go_simp; try with_reducible rfl)
      try simp only [Act.put, List.getElem_toArray, List.getElem_cons_zero, List.getElem_cons_succ, List.setIfInBounds_toArray, List.set_cons_zero, List.set_cons_succ]
      refine wpAnyH_ready (rs := [20]) (by kernel_rfl) (by simp) ?_
      refine AllReadyH.cons rfl (fun K hK => ?_) AllReadyH.nil
      go_simp
      go_at_call 59
      (with_reducible refine (HGR2.out _ hbd).mono ?_)
      rintro e w4 ⟨rfl, hb40⟩
      have hb4 : Below W1.heap.size W1 w4 := sbt hbd hb40
      go_wp2_with fail
      refine hK.out _ _ (HKS.out _ hb4) (fun hHeld3 => ?_)
      clear hK K hHeld2
      try simp only [Act.put, List.getElem_toArray, List.getElem_cons_zero, List.getElem_cons_succ, List.setIfInBounds_toArray, List.set_cons_zero, List.set_cons_succ]
      refine wpAnyH_take (i := 21) (v := ?vh21) rfl (by kernel_rfl) (by kernel_rfl) (by kernel_rfl) (fun _ _ _ h => h) (Or.inl ⟨by rfl, ?yh21⟩) (by assumption) ?rh21
      case yh21 => (intro w hSw; (try dsimp only at hSw); go_simp; try with_reducible rfl)
      try simp only [Act.put, List.getElem_toArray, List.getElem_cons_zero, List.getElem_cons_succ, List.setIfInBounds_toArray, List.set_cons_zero, List.set_cons_succ]
      refine wpAnyH_take (i := 22) (v := ?vh22) rfl (by kernel_rfl) (by kernel_rfl) (by kernel_rfl) (fun _ _ _ h => h) (Or.inl ⟨by rfl, ?yh22⟩) (by assumption) ?rh22
      case yh22 => (intro w hSw; (try dsimp only at hSw); go_simp; try with_reducible rfl)
      try simp only [Act.put, List.getElem_toArray, List.getElem_cons_zero, List.getElem_cons_succ, List.setIfInBounds_toArray, List.set_cons_zero, List.set_cons_succ]
      refine wpAnyH_take (i := 23) (v := ?vh23) rfl (by kernel_rfl) (by kernel_rfl) (by kernel_rfl) (fun _ _ _ h => h) (Or.inl ⟨by rfl, ?yh23⟩) (by assumption) ?rh23
      case yh23 => (intro w hSw; (try dsimp only at hSw); go_simp; try with_reducible rfl)
      try simp only [Act.put, List.getElem_toArray, List.getElem_cons_zero, List.getElem_cons_succ, List.setIfInBounds_toArray, List.set_cons_zero, List.set_cons_succ]
      refine wpAnyH_take (i := 24) (v := ?vh24) rfl (by kernel_rfl) (by kernel_rfl) (by kernel_rfl) (fun _ _ _ h => h) (Or.inl ⟨by rfl, ?yh24⟩) (by assumption) ?rh24
      case yh24 => (intro w hSw; (try dsimp only at hSw); go_simp; try with_reducible rfl)
      try simp only [Act.put, List.getElem_toArray, List.getElem_cons_zero, List.getElem_cons_succ, List.setIfInBounds_toArray, List.set_cons_zero, List.set_cons_succ]
      refine wpAnyH_take (i := 25) (v := undef) rfl (by kernel_rfl) (by kernel_rfl) (by kernel_rfl) (fun _ _ _ h => h) (Or.inr ⟨by kernel_rfl, rfl⟩) (by assumption) ?_
      try simp only [Act.put, List.getElem_toArray, List.getElem_cons_zero, List.getElem_cons_succ, List.setIfInBounds_toArray, List.set_cons_zero, List.set_cons_succ]
      refine wpAnyH_take (i := 26) (v := undef) rfl (by kernel_rfl) (by kernel_rfl) (by kernel_rfl) (fun _ _ _ h => h) (Or.inr ⟨by kernel_rfl, rfl⟩) (by assumption) ?_
      try simp only [Act.put, List.getElem_toArray, List.getElem_cons_zero, List.getElem_cons_succ, List.setIfInBounds_toArray, List.set_cons_zero, List.set_cons_succ]
      refine wpAnyH_take (i := 27) (v := undef) rfl (by kernel_rfl) (by kernel_rfl) (by kernel_rfl) (fun _ _ _ h => h) (Or.inr ⟨by kernel_rfl, rfl⟩) (by assumption) ?_
      try simp only [Act.put, List.getElem_toArray, List.getElem_cons_zero, List.getElem_cons_succ, List.setIfInBounds_toArray, List.set_cons_zero, List.set_cons_succ]
      refine wpAnyH_take (i := 28) (v := ?vh28) rfl (by kernel_rfl) (by kernel_rfl) (by kernel_rfl) (fun _ _ _ h => h) (Or.inl ⟨by rfl, ?yh28⟩) (by assumption) ?rh28
      case yh28 => (intro w hSw; (try dsimp only at hSw); go_simp; try with_reducible rfl)
      try simp only [Act.put, List.getElem_toArray, List.getElem_cons_zero, List.getElem_cons_succ, List.setIfInBounds_toArray, List.set_cons_zero, List.set_cons_succ]
      refine wpAnyH_take (i := 29) (v := ?vh29) rfl (by kernel_rfl) (by kernel_rfl) (by kernel_rfl) (fun _ _ _ h => h) (Or.inl ⟨by rfl, ?yh29⟩) (by assumption) ?rh29
      case yh29 => (intro w hSw; (try dsimp only at hSw); go_simp; try with_reducible rfl)
      try simp only [Act.put, List.getElem_toArray, List.getElem_cons_zero, List.getElem_cons_succ, List.setIfInBounds_toArray, List.set_cons_zero, List.set_cons_succ]
      refine wpAnyH_take (i := 30) (v := undef) rfl (by kernel_rfl) (by kernel_rfl) (by kernel_rfl) (fun _ _ _ h => h) (Or.inr ⟨by kernel_rfl, rfl⟩) (by assumption) ?_
      try simp only [Act.put, List.getElem_toArray, List.getElem_cons_zero, List.getElem_cons_succ, List.setIfInBounds_toArray, List.set_cons_zero, List.set_cons_succ]
      refine wpAnyH_take (i := 31) (v := undef) rfl (by kernel_rfl) (by kernel_rfl) (by kernel_rfl) (fun _ _ _ h => h) (Or.inr ⟨by kernel_rfl, rfl⟩) (by assumption) ?_
      try simp only [Act.put, List.getElem_toArray, List.getElem_cons_zero, List.getElem_cons_succ, List.setIfInBounds_toArray, List.set_cons_zero, List.set_cons_succ]
      refine wpAnyH_take (i := 32) (v := undef) rfl (by kernel_rfl) (by kernel_rfl) (by kernel_rfl) (fun _ _ _ h => h) (Or.inr ⟨by kernel_rfl, rfl⟩) (by assumption) ?_
      try simp only [Act.put, List.getElem_toArray, List.getElem_cons_zero, List.getElem_cons_succ, List.setIfInBounds_toArray, List.set_cons_zero, List.set_cons_succ]
      refine wpAnyH_take (i := 33) (v := undef) rfl (by kernel_rfl) (by kernel_rfl) (by kernel_rfl) (fun _ _ _ h => h) (Or.inr ⟨by kernel_rfl, rfl⟩) (by assumption) ?_
      try simp only [Act.put, List.getElem_toArray, List.getElem_cons_zero, List.getElem_cons_succ, List.setIfInBounds_toArray, List.set_cons_zero, List.set_cons_succ]
      refine wpAnyH_take (i := 34) (v := ?vh34) rfl (by kernel_rfl) (by kernel_rfl) (by kernel_rfl) (fun _ _ _ h => h) (Or.inl ⟨by rfl, ?yh34⟩) (by assumption) ?rh34
      case yh34 => (intro w hSw; (try dsimp only at hSw); go_simp; try with_reducible rfl)
      try simp only [Act.put, List.getElem_toArray, List.getElem_cons_zero, List.getElem_cons_succ, List.setIfInBounds_toArray, List.set_cons_zero, List.set_cons_succ]
      refine wpAnyH_take (i := 35) (v := ?vh35) rfl (by kernel_rfl) (by kernel_rfl) (by kernel_rfl) (fun _ _ _ h => h) (Or.inl ⟨by rfl, ?yh35⟩) (by assumption) ?rh35
      case yh35 => (intro w hSw; (try dsimp only at hSw); go_simp; try with_reducible rfl)
      try simp only [Act.put, List.getElem_toArray, List.getElem_cons_zero, List.getElem_cons_succ, List.setIfInBounds_toArray, List.set_cons_zero, List.set_cons_succ]
      refine wpAnyH_done (by kernel_rfl) ?_ _
      all_goals go_wp2_with fail
      all_goals
        go_ret
        exact ⟨sret_val (by rw [HR.out]; rfl), sbt HW1.out hb4⟩
    have q3 : (x.regs == (if x.args < g then g else x.args)) = true := by rw [beq_iff_eq, k3]; split <;> omega
    by_cases k4 : x.regs ≤ 4096
    case neg =>
      have HR := shid (show headB fs n x = false by rw [HH2.out]; exact decide_eq_false (by omega))
      have q4 : decide (x.regs ≤ 4096) = false := decide_eq_false k4
      clear k4 k3
      have HBF := shid (FBox.new (w.alloc (.cells #[.int .i64 hp, .slice pt nt ct, .slice (some ⟨b, o, none⟩) fs.length cf] 25)) x.name x.args x.regs (.slice pb x.blocks.length cb) 41)
      have HBP := shid (HPB.out.keep (al1 _ (.cells #[.string x.name, .int .i64 x.args, .int .i64 x.regs, .slice pb x.blocks.length cb] 41)))
      have HW1 := shid (sbt HW0.out (al1 (w.alloc (.cells #[.int .i64 hp, .slice pt nt ct, .slice (some ⟨b, o, none⟩) fs.length cf] 25)) (.cells #[.string x.name, .int .i64 x.args, .int .i64 x.regs, .slice pb x.blocks.length cb] 41)))
      simp only [World.size_alloc] at HBF
      go_enter Try.func34, Try.ntmps34
      go_wp2_with fail
      generalize ((w.alloc (.cells #[.int .i64 hp, .slice pt nt ct, .slice (some ⟨b, o, none⟩) fs.length cf] 25)).alloc (.cells #[.string x.name, .int .i64 x.args, .int .i64 x.regs, .slice pb x.blocks.length cb] 41)) = W1 at *
      have HT2 : Hid (∀ W : World, Below W1.heap.size W1 W → Calls Try.prog 57 #[.int .i64 n, .func (.func 58) #[] #[.pointer (some ⟨w.heap.size, 0, none⟩)]] W fun e w' => e = .returned (.bool false) ∧ W = w') := shid fun W hb => HCF.out W (HBP.out.keep hb) (sbt HW1.out hb)
      have HGR2 : Hid (∀ W : World, Below W1.heap.size W1 W → Calls Try.prog 59 #[.agg #[.string x.name, .int .i64 x.args, .int .i64 x.regs, .slice pb x.blocks.length cb]] W fun e w' => e = .returned (.int .i64 g) ∧ Below W.heap.size W w') := shid fun W hb => HGR.out W (sbt HW1.out hb)
      have HKS : Hid (∀ w', Below W1.heap.size W1 w' →  w'.cell? ⟨w.heap.size + 1, 0, none⟩ = some (.string x.name) ∧ w'.cell? ⟨w.heap.size + 1, 1, none⟩ = some (.int .i64 x.args) ∧ w'.cell? ⟨w.heap.size + 1, 2, none⟩ = some (.int .i64 x.regs) ∧ w'.cell? ⟨w.heap.size + 1, 3, none⟩ = some (.slice pb x.blocks.length cb)) := shid fun w' hb => by
        obtain ⟨_, b0, b1, b2, b3⟩ := HBF.out.keep hb
        exact ⟨b0, b1, b2, b3⟩
      have hle : W1.heap.size ≤ W1.heap.size := Nat.le_refl _
      have hbd : Below W1.heap.size W1 W1.drew := (Below.refl _ _).drew
      clear c0 c1 c2 c3 HBF HBP HCF HGR
      obtain ⟨b0, b1, b2, b3⟩ := HKS.out W1 (Below.refl _ _)
      refine wp_region_held_drew (S := fun w' => w'.cell? ⟨w.heap.size + 1, 0, none⟩ = some (.string x.name) ∧ w'.cell? ⟨w.heap.size + 1, 1, none⟩ = some (.int .i64 x.args) ∧ w'.cell? ⟨w.heap.size + 1, 2, none⟩ = some (.int .i64 x.regs) ∧ w'.cell? ⟨w.heap.size + 1, 3, none⟩ = some (.slice pb x.blocks.length cb)) (by kernel_rfl) (HKS.out _ hbd) (fun hHeld => ?_)
      refine wpAnyH_take (i := 0) (v := ?vi0) rfl (by kernel_rfl) (by kernel_rfl) (by kernel_rfl) (fun _ _ _ h => h) (Or.inl ⟨by rfl, ?yi0⟩) (by assumption) ?ri0
      case yi0 => (intro w hSw; (try dsimp only at hSw); go_simp; try with_reducible rfl)
      try simp only [Act.put, List.getElem_toArray, List.getElem_cons_zero, List.getElem_cons_succ, List.setIfInBounds_toArray, List.set_cons_zero, List.set_cons_succ]
      refine wpAnyH_take (i := 1) (v := ?vi1) rfl (by kernel_rfl) (by kernel_rfl) (by kernel_rfl) (fun _ _ _ h => h) (Or.inl ⟨by rfl, ?yi1⟩) (by assumption) ?ri1
      case yi1 => (intro w hSw; (try dsimp only at hSw); go_simp; try with_reducible rfl)
      try simp only [Act.put, List.getElem_toArray, List.getElem_cons_zero, List.getElem_cons_succ, List.setIfInBounds_toArray, List.set_cons_zero, List.set_cons_succ]
      refine wpAnyH_ready (rs := [2]) (by kernel_rfl) (by simp) ?_
      refine AllReadyH.cons rfl (fun K hK => ?_) AllReadyH.nil
      go_simp
      go_at_call 57
      (with_reducible refine (HT2.out _ hbd).mono ?_)
      rintro e w3 ⟨rfl, rfl⟩
      go_wp2_with fail
      refine hK.out _ _ (HKS.out _ hbd) (fun hHeld2 => ?_)
      clear hK K hHeld
      try simp only [Act.put, List.getElem_toArray, List.getElem_cons_zero, List.getElem_cons_succ, List.setIfInBounds_toArray, List.set_cons_zero, List.set_cons_succ]
      refine wpAnyH_take (i := 3) (v := ?vi3) rfl (by kernel_rfl) (by kernel_rfl) (by kernel_rfl) (fun _ _ _ h => h) (Or.inl ⟨by rfl, ?yi3⟩) (by assumption) ?ri3
      case yi3 => (intro w hSw; (try dsimp only at hSw); go_simp; try with_reducible rfl)
      try simp only [Act.put, List.getElem_toArray, List.getElem_cons_zero, List.getElem_cons_succ, List.setIfInBounds_toArray, List.set_cons_zero, List.set_cons_succ]
      refine wpAnyH_take (i := 4) (v := ?vi4) rfl (by kernel_rfl) (by kernel_rfl) (by kernel_rfl) (fun _ _ _ h => h) (Or.inl ⟨by rfl, ?yi4⟩) (by assumption) ?ri4
      case yi4 => (intro w hSw; (try dsimp only at hSw); go_simp; try with_reducible rfl)
      try simp only [Act.put, List.getElem_toArray, List.getElem_cons_zero, List.getElem_cons_succ, List.setIfInBounds_toArray, List.set_cons_zero, List.set_cons_succ]
      refine wpAnyH_take (i := 5) (v := ?vi5) rfl (by kernel_rfl) (by kernel_rfl) (by kernel_rfl) (fun _ _ _ h => h) (Or.inl ⟨by rfl, ?yi5⟩) (by assumption) ?ri5
      case yi5 => (intro w hSw; (try dsimp only at hSw); go_simp; try with_reducible rfl)
      try simp only [Act.put, List.getElem_toArray, List.getElem_cons_zero, List.getElem_cons_succ, List.setIfInBounds_toArray, List.set_cons_zero, List.set_cons_succ]
      refine wpAnyH_take (i := 6) (v := ?vi6) rfl (by kernel_rfl) (by kernel_rfl) (by kernel_rfl) (fun _ _ _ h => h) (Or.inl ⟨by rfl, ?yi6⟩) (by assumption) ?ri6
      case yi6 => (intro w hSw; (try dsimp only at hSw); go_simp; try with_reducible rfl)
      try simp only [Act.put, List.getElem_toArray, List.getElem_cons_zero, List.getElem_cons_succ, List.setIfInBounds_toArray, List.set_cons_zero, List.set_cons_succ]
      refine wpAnyH_take (i := 7) (v := ?vi7) rfl (by kernel_rfl) (by kernel_rfl) (by kernel_rfl) (fun _ _ _ h => h) (Or.inl ⟨by rfl, ?yi7⟩) (by assumption) ?ri7
      case yi7 => (intro w hSw; (try dsimp only at hSw); go_simp; try with_reducible rfl)
      try simp only [Act.put, List.getElem_toArray, List.getElem_cons_zero, List.getElem_cons_succ, List.setIfInBounds_toArray, List.set_cons_zero, List.set_cons_succ]
      refine wpAnyH_take (i := 8) (v := ?vi8) rfl (by kernel_rfl) (by kernel_rfl) (by kernel_rfl) (fun _ _ _ h => h) (Or.inl ⟨by rfl, ?yi8⟩) (by assumption) ?ri8
      case yi8 => (intro w hSw; (try dsimp only at hSw); go_simp; try with_reducible rfl)
      try simp only [Act.put, List.getElem_toArray, List.getElem_cons_zero, List.getElem_cons_succ, List.setIfInBounds_toArray, List.set_cons_zero, List.set_cons_succ]
      refine wpAnyH_take (i := 9) (v := ?vi9) rfl (by kernel_rfl) (by kernel_rfl) (by kernel_rfl) (fun _ _ _ h => h) (Or.inl ⟨by rfl, ?yi9⟩) (by assumption) ?ri9
      case yi9 => (intro w hSw; (try dsimp only at hSw); go_simp; try with_reducible rfl)
      try simp only [Act.put, List.getElem_toArray, List.getElem_cons_zero, List.getElem_cons_succ, List.setIfInBounds_toArray, List.set_cons_zero, List.set_cons_succ]
      refine wpAnyH_take (i := 10) (v := ?vi10) rfl (by kernel_rfl) (by kernel_rfl) (by kernel_rfl) (fun _ _ _ h => h) (Or.inl ⟨by rfl, ?yi10⟩) (by assumption) ?ri10
      case yi10 => (intro w hSw; (try dsimp only at hSw); go_simp; try with_reducible rfl)
      try simp only [Act.put, List.getElem_toArray, List.getElem_cons_zero, List.getElem_cons_succ, List.setIfInBounds_toArray, List.set_cons_zero, List.set_cons_succ]
      refine wpAnyH_take (i := 11) (v := ?vi11) rfl (by kernel_rfl) (by kernel_rfl) (by kernel_rfl) (fun _ _ _ h => h) (Or.inl ⟨by rfl, ?yi11⟩) (by assumption) ?ri11
      case yi11 => (intro w hSw; (try dsimp only at hSw); go_simp; try with_reducible rfl)
      try simp only [Act.put, List.getElem_toArray, List.getElem_cons_zero, List.getElem_cons_succ, List.setIfInBounds_toArray, List.set_cons_zero, List.set_cons_succ]
      refine wpAnyH_take (i := 12) (v := ?vi12) rfl (by kernel_rfl) (by kernel_rfl) (by kernel_rfl) (fun _ _ _ h => h) (Or.inl ⟨by rfl, ?yi12⟩) (by assumption) ?ri12
      case yi12 => (intro w hSw; (try dsimp only at hSw); go_simp; try with_reducible rfl)
      try simp only [Act.put, List.getElem_toArray, List.getElem_cons_zero, List.getElem_cons_succ, List.setIfInBounds_toArray, List.set_cons_zero, List.set_cons_succ]
      refine wpAnyH_take (i := 13) (v := ?vi13) rfl (by kernel_rfl) (by kernel_rfl) (by kernel_rfl) (fun _ _ _ h => h) (Or.inl ⟨by rfl, ?yi13⟩) (by assumption) ?ri13
      case yi13 => (intro w hSw; (try dsimp only at hSw); go_simp; try with_reducible rfl)
      try simp only [Act.put, List.getElem_toArray, List.getElem_cons_zero, List.getElem_cons_succ, List.setIfInBounds_toArray, List.set_cons_zero, List.set_cons_succ]
      refine wpAnyH_take (i := 14) (v := ?vi14) rfl (by kernel_rfl) (by kernel_rfl) (by kernel_rfl) (fun _ _ _ h => h) (Or.inl ⟨by rfl, ?yi14⟩) (by assumption) ?ri14
      case yi14 => (intro w hSw; (try dsimp only at hSw); go_simp; try with_reducible rfl)
      try simp only [Act.put, List.getElem_toArray, List.getElem_cons_zero, List.getElem_cons_succ, List.setIfInBounds_toArray, List.set_cons_zero, List.set_cons_succ]
      refine wpAnyH_take (i := 15) (v := ?vi15) rfl (by kernel_rfl) (by kernel_rfl) (by kernel_rfl) (fun _ _ _ h => h) (Or.inl ⟨by rfl, ?yi15⟩) (by assumption) ?ri15
      case yi15 => (intro w hSw; (try dsimp only at hSw); go_simp; try with_reducible rfl)
      try simp only [Act.put, List.getElem_toArray, List.getElem_cons_zero, List.getElem_cons_succ, List.setIfInBounds_toArray, List.set_cons_zero, List.set_cons_succ]
      refine wpAnyH_take (i := 16) (v := ?vi16) rfl (by kernel_rfl) (by kernel_rfl) (by kernel_rfl) (fun _ _ _ h => h) (Or.inl ⟨by rfl, ?yi16⟩) (by assumption) ?ri16
      case yi16 => (intro w hSw; (try dsimp only at hSw); go_simp; try with_reducible rfl)
      try simp only [Act.put, List.getElem_toArray, List.getElem_cons_zero, List.getElem_cons_succ, List.setIfInBounds_toArray, List.set_cons_zero, List.set_cons_succ]
      refine wpAnyH_take (i := 17) (v := ?vi17) rfl (by kernel_rfl) (by kernel_rfl) (by kernel_rfl) (fun _ _ _ h => h) (Or.inl ⟨by rfl, ?yi17⟩) (by assumption) ?ri17
      case yi17 => (intro w hSw; (try dsimp only at hSw); go_simp; try with_reducible rfl)
      try simp only [Act.put, List.getElem_toArray, List.getElem_cons_zero, List.getElem_cons_succ, List.setIfInBounds_toArray, List.set_cons_zero, List.set_cons_succ]
      refine wpAnyH_take (i := 18) (v := ?vi18) rfl (by kernel_rfl) (by kernel_rfl) (by kernel_rfl) (fun _ _ _ h => h) (Or.inl ⟨by rfl, ?yi18⟩) (by assumption) ?ri18
      case yi18 => (intro w hSw; (try dsimp only at hSw); go_simp; try with_reducible rfl)
      try simp only [Act.put, List.getElem_toArray, List.getElem_cons_zero, List.getElem_cons_succ, List.setIfInBounds_toArray, List.set_cons_zero, List.set_cons_succ]
      refine wpAnyH_take (i := 19) (v := ?vi19) rfl (by kernel_rfl) (by kernel_rfl) (by kernel_rfl) (fun _ _ _ h => h) (Or.inl ⟨by rfl, ?yi19⟩) (by assumption) ?ri19
      case yi19 => (intro w hSw; (try dsimp only at hSw); go_simp; try with_reducible rfl)
      try simp only [Act.put, List.getElem_toArray, List.getElem_cons_zero, List.getElem_cons_succ, List.setIfInBounds_toArray, List.set_cons_zero, List.set_cons_succ]
      refine wpAnyH_ready (rs := [20]) (by kernel_rfl) (by simp) ?_
      refine AllReadyH.cons rfl (fun K hK => ?_) AllReadyH.nil
      go_simp
      go_at_call 59
      (with_reducible refine (HGR2.out _ hbd).mono ?_)
      rintro e w4 ⟨rfl, hb40⟩
      have hb4 : Below W1.heap.size W1 w4 := sbt hbd hb40
      go_wp2_with fail
      refine hK.out _ _ (HKS.out _ hb4) (fun hHeld3 => ?_)
      clear hK K hHeld2
      try simp only [Act.put, List.getElem_toArray, List.getElem_cons_zero, List.getElem_cons_succ, List.setIfInBounds_toArray, List.set_cons_zero, List.set_cons_succ]
      refine wpAnyH_take (i := 21) (v := ?vi21) rfl (by kernel_rfl) (by kernel_rfl) (by kernel_rfl) (fun _ _ _ h => h) (Or.inl ⟨by rfl, ?yi21⟩) (by assumption) ?ri21
      case yi21 => (intro w hSw; (try dsimp only at hSw); go_simp; try with_reducible rfl)
      try simp only [Act.put, List.getElem_toArray, List.getElem_cons_zero, List.getElem_cons_succ, List.setIfInBounds_toArray, List.set_cons_zero, List.set_cons_succ]
      refine wpAnyH_take (i := 22) (v := ?vi22) rfl (by kernel_rfl) (by kernel_rfl) (by kernel_rfl) (fun _ _ _ h => h) (Or.inl ⟨by rfl, ?yi22⟩) (by assumption) ?ri22
      case yi22 => (intro w hSw; (try dsimp only at hSw); go_simp; try with_reducible rfl)
      try simp only [Act.put, List.getElem_toArray, List.getElem_cons_zero, List.getElem_cons_succ, List.setIfInBounds_toArray, List.set_cons_zero, List.set_cons_succ]
      refine wpAnyH_take (i := 23) (v := ?vi23) rfl (by kernel_rfl) (by kernel_rfl) (by kernel_rfl) (fun _ _ _ h => h) (Or.inl ⟨by rfl, ?yi23⟩) (by assumption) ?ri23
      case yi23 => (intro w hSw; (try dsimp only at hSw); go_simp; try with_reducible rfl)
      try simp only [Act.put, List.getElem_toArray, List.getElem_cons_zero, List.getElem_cons_succ, List.setIfInBounds_toArray, List.set_cons_zero, List.set_cons_succ]
      refine wpAnyH_take (i := 24) (v := ?vi24) rfl (by kernel_rfl) (by kernel_rfl) (by kernel_rfl) (fun _ _ _ h => h) (Or.inl ⟨by rfl, ?yi24⟩) (by assumption) ?ri24
      case yi24 => (intro w hSw; (try dsimp only at hSw); go_simp; try with_reducible rfl)
      try simp only [Act.put, List.getElem_toArray, List.getElem_cons_zero, List.getElem_cons_succ, List.setIfInBounds_toArray, List.set_cons_zero, List.set_cons_succ]
      refine wpAnyH_take (i := 25) (v := ?vi25) rfl (by kernel_rfl) (by kernel_rfl) (by kernel_rfl) (fun _ _ _ h => h) (Or.inl ⟨by rfl, ?yi25⟩) (by assumption) ?ri25
      case yi25 => (intro w hSw; (try dsimp only at hSw); go_simp; try with_reducible rfl)
      try simp only [Act.put, List.getElem_toArray, List.getElem_cons_zero, List.getElem_cons_succ, List.setIfInBounds_toArray, List.set_cons_zero, List.set_cons_succ]
      refine wpAnyH_take (i := 26) (v := ?vi26) rfl (by kernel_rfl) (by kernel_rfl) (by kernel_rfl) (fun _ _ _ h => h) (Or.inl ⟨by rfl, ?yi26⟩) (by assumption) ?ri26
      case yi26 => (intro w hSw; (try dsimp only at hSw); go_simp; try with_reducible rfl)
      try simp only [Act.put, List.getElem_toArray, List.getElem_cons_zero, List.getElem_cons_succ, List.setIfInBounds_toArray, List.set_cons_zero, List.set_cons_succ]
      refine wpAnyH_take (i := 27) (v := ?vi27) rfl (by kernel_rfl) (by kernel_rfl) (by kernel_rfl) (fun _ _ _ h => h) (Or.inl ⟨by rfl, ?yi27⟩) (by assumption) ?ri27
      case yi27 => (intro w hSw; (try dsimp only at hSw); go_simp; try with_reducible rfl)
      try simp only [Act.put, List.getElem_toArray, List.getElem_cons_zero, List.getElem_cons_succ, List.setIfInBounds_toArray, List.set_cons_zero, List.set_cons_succ]
      refine wpAnyH_take (i := 28) (v := ?vi28) rfl (by kernel_rfl) (by kernel_rfl) (by kernel_rfl) (fun _ _ _ h => h) (Or.inl ⟨by rfl, ?yi28⟩) (by assumption) ?ri28
      case yi28 => (intro w hSw; (try dsimp only at hSw); go_simp; try with_reducible rfl)
      try simp only [Act.put, List.getElem_toArray, List.getElem_cons_zero, List.getElem_cons_succ, List.setIfInBounds_toArray, List.set_cons_zero, List.set_cons_succ]
      refine wpAnyH_take (i := 29) (v := ?vi29) rfl (by kernel_rfl) (by kernel_rfl) (by kernel_rfl) (fun _ _ _ h => h) (Or.inl ⟨by rfl, ?yi29⟩) (by assumption) ?ri29
      case yi29 => (intro w hSw; (try dsimp only at hSw); go_simp; try with_reducible rfl)
      try simp only [Act.put, List.getElem_toArray, List.getElem_cons_zero, List.getElem_cons_succ, List.setIfInBounds_toArray, List.set_cons_zero, List.set_cons_succ]
      refine wpAnyH_take (i := 30) (v := undef) rfl (by kernel_rfl) (by kernel_rfl) (by kernel_rfl) (fun _ _ _ h => h) (Or.inr ⟨by kernel_rfl, rfl⟩) (by assumption) ?_
      try simp only [Act.put, List.getElem_toArray, List.getElem_cons_zero, List.getElem_cons_succ, List.setIfInBounds_toArray, List.set_cons_zero, List.set_cons_succ]
      refine wpAnyH_take (i := 31) (v := undef) rfl (by kernel_rfl) (by kernel_rfl) (by kernel_rfl) (fun _ _ _ h => h) (Or.inr ⟨by kernel_rfl, rfl⟩) (by assumption) ?_
      try simp only [Act.put, List.getElem_toArray, List.getElem_cons_zero, List.getElem_cons_succ, List.setIfInBounds_toArray, List.set_cons_zero, List.set_cons_succ]
      refine wpAnyH_take (i := 32) (v := undef) rfl (by kernel_rfl) (by kernel_rfl) (by kernel_rfl) (fun _ _ _ h => h) (Or.inr ⟨by kernel_rfl, rfl⟩) (by assumption) ?_
      try simp only [Act.put, List.getElem_toArray, List.getElem_cons_zero, List.getElem_cons_succ, List.setIfInBounds_toArray, List.set_cons_zero, List.set_cons_succ]
      refine wpAnyH_take (i := 33) (v := undef) rfl (by kernel_rfl) (by kernel_rfl) (by kernel_rfl) (fun _ _ _ h => h) (Or.inr ⟨by kernel_rfl, rfl⟩) (by assumption) ?_
      try simp only [Act.put, List.getElem_toArray, List.getElem_cons_zero, List.getElem_cons_succ, List.setIfInBounds_toArray, List.set_cons_zero, List.set_cons_succ]
      refine wpAnyH_take (i := 34) (v := ?vi34) rfl (by kernel_rfl) (by kernel_rfl) (by kernel_rfl) (fun _ _ _ h => h) (Or.inl ⟨by rfl, ?yi34⟩) (by assumption) ?ri34
      case yi34 => (intro w hSw; (try dsimp only at hSw); go_simp; try with_reducible rfl)
      try simp only [Act.put, List.getElem_toArray, List.getElem_cons_zero, List.getElem_cons_succ, List.setIfInBounds_toArray, List.set_cons_zero, List.set_cons_succ]
      refine wpAnyH_take (i := 35) (v := ?vi35) rfl (by kernel_rfl) (by kernel_rfl) (by kernel_rfl) (fun _ _ _ h => h) (Or.inl ⟨by rfl, ?yi35⟩) (by assumption) ?ri35
      case yi35 => (intro w hSw; (try dsimp only at hSw); go_simp; try with_reducible rfl)
      try simp only [Act.put, List.getElem_toArray, List.getElem_cons_zero, List.getElem_cons_succ, List.setIfInBounds_toArray, List.set_cons_zero, List.set_cons_succ]
      refine wpAnyH_done (by kernel_rfl) ?_ _
      all_goals go_wp2_with fail
      all_goals
        go_ret
        exact ⟨sret_val (by rw [HR.out]; rfl), sbt HW1.out hb4⟩
    have q4 : decide (x.regs ≤ 4096) = true := decide_eq_true k4
    by_cases k5 : 0 < x.blocks.length
    case neg =>
      have HR := shid (show headB fs n x = false by rw [HH2.out]; exact decide_eq_false (by omega))
      have q5 : decide (0 < x.blocks.length) = false := decide_eq_false k5
      clear k5 k3
      have HBF := shid (FBox.new (w.alloc (.cells #[.int .i64 hp, .slice pt nt ct, .slice (some ⟨b, o, none⟩) fs.length cf] 25)) x.name x.args x.regs (.slice pb x.blocks.length cb) 41)
      have HBP := shid (HPB.out.keep (al1 _ (.cells #[.string x.name, .int .i64 x.args, .int .i64 x.regs, .slice pb x.blocks.length cb] 41)))
      have HW1 := shid (sbt HW0.out (al1 (w.alloc (.cells #[.int .i64 hp, .slice pt nt ct, .slice (some ⟨b, o, none⟩) fs.length cf] 25)) (.cells #[.string x.name, .int .i64 x.args, .int .i64 x.regs, .slice pb x.blocks.length cb] 41)))
      simp only [World.size_alloc] at HBF
      go_enter Try.func34, Try.ntmps34
      go_wp2_with fail
      generalize ((w.alloc (.cells #[.int .i64 hp, .slice pt nt ct, .slice (some ⟨b, o, none⟩) fs.length cf] 25)).alloc (.cells #[.string x.name, .int .i64 x.args, .int .i64 x.regs, .slice pb x.blocks.length cb] 41)) = W1 at *
      have HT2 : Hid (∀ W : World, Below W1.heap.size W1 W → Calls Try.prog 57 #[.int .i64 n, .func (.func 58) #[] #[.pointer (some ⟨w.heap.size, 0, none⟩)]] W fun e w' => e = .returned (.bool false) ∧ W = w') := shid fun W hb => HCF.out W (HBP.out.keep hb) (sbt HW1.out hb)
      have HGR2 : Hid (∀ W : World, Below W1.heap.size W1 W → Calls Try.prog 59 #[.agg #[.string x.name, .int .i64 x.args, .int .i64 x.regs, .slice pb x.blocks.length cb]] W fun e w' => e = .returned (.int .i64 g) ∧ Below W.heap.size W w') := shid fun W hb => HGR.out W (sbt HW1.out hb)
      have HKS : Hid (∀ w', Below W1.heap.size W1 w' →  w'.cell? ⟨w.heap.size + 1, 0, none⟩ = some (.string x.name) ∧ w'.cell? ⟨w.heap.size + 1, 1, none⟩ = some (.int .i64 x.args) ∧ w'.cell? ⟨w.heap.size + 1, 2, none⟩ = some (.int .i64 x.regs) ∧ w'.cell? ⟨w.heap.size + 1, 3, none⟩ = some (.slice pb x.blocks.length cb)) := shid fun w' hb => by
        obtain ⟨_, b0, b1, b2, b3⟩ := HBF.out.keep hb
        exact ⟨b0, b1, b2, b3⟩
      have hle : W1.heap.size ≤ W1.heap.size := Nat.le_refl _
      have hbd : Below W1.heap.size W1 W1.drew := (Below.refl _ _).drew
      clear c0 c1 c2 c3 HBF HBP HCF HGR
      first
        | (go_region_held3 (fun w' => w'.cell? ⟨w.heap.size + 1, 0, none⟩ = some (.string x.name) ∧ w'.cell? ⟨w.heap.size + 1, 1, none⟩ = some (.int .i64 x.args) ∧ w'.cell? ⟨w.heap.size + 1, 2, none⟩ = some (.int .i64 x.regs) ∧ w'.cell? ⟨w.heap.size + 1, 3, none⟩ = some (.slice pb x.blocks.length cb)) (first | (with_reducible exact HKS.out _ hbd) | (with_reducible exact HKS.out _ hb4) | (refine HKS.out _ ?_; first | assumption | (go_grown; done)))
            (first
              | (go_at_call 57; (with_reducible refine (HT2.out _ hbd).mono ?_); rintro e w3 ⟨rfl, rfl⟩)
              | (go_at_call 59; (with_reducible refine (HGR2.out _ hbd).mono ?_); rintro e w4 ⟨rfl, hb40⟩; have hb4 : Below W1.heap.size W1 w4 := sbt hbd hb40; have hle4 : W1.heap.size ≤ w4.heap.size := hb4.size)))
        | fail
      all_goals go_wp2_with fail
      all_goals
        go_ret
        exact ⟨sret_val (by rw [HR.out]; rfl), sbt HW1.out (by first | exact hb4 | exact hbd)⟩
    have HR := shid (show headB fs n x = true by rw [HH2.out]; exact decide_eq_true ⟨k1, k2, k3, k4, k5⟩)
    have q5 : decide (0 < x.blocks.length) = true := decide_eq_true k5
    clear k5 k3
    have HBF := shid (FBox.new (w.alloc (.cells #[.int .i64 hp, .slice pt nt ct, .slice (some ⟨b, o, none⟩) fs.length cf] 25)) x.name x.args x.regs (.slice pb x.blocks.length cb) 41)
    have HBP := shid (HPB.out.keep (al1 _ (.cells #[.string x.name, .int .i64 x.args, .int .i64 x.regs, .slice pb x.blocks.length cb] 41)))
    have HW1 := shid (sbt HW0.out (al1 (w.alloc (.cells #[.int .i64 hp, .slice pt nt ct, .slice (some ⟨b, o, none⟩) fs.length cf] 25)) (.cells #[.string x.name, .int .i64 x.args, .int .i64 x.regs, .slice pb x.blocks.length cb] 41)))
    simp only [World.size_alloc] at HBF
    go_enter Try.func34, Try.ntmps34
    go_wp2_with fail
    generalize ((w.alloc (.cells #[.int .i64 hp, .slice pt nt ct, .slice (some ⟨b, o, none⟩) fs.length cf] 25)).alloc (.cells #[.string x.name, .int .i64 x.args, .int .i64 x.regs, .slice pb x.blocks.length cb] 41)) = W1 at *
    have HT2 : Hid (∀ W : World, Below W1.heap.size W1 W → Calls Try.prog 57 #[.int .i64 n, .func (.func 58) #[] #[.pointer (some ⟨w.heap.size, 0, none⟩)]] W fun e w' => e = .returned (.bool false) ∧ W = w') := shid fun W hb => HCF.out W (HBP.out.keep hb) (sbt HW1.out hb)
    have HGR2 : Hid (∀ W : World, Below W1.heap.size W1 W → Calls Try.prog 59 #[.agg #[.string x.name, .int .i64 x.args, .int .i64 x.regs, .slice pb x.blocks.length cb]] W fun e w' => e = .returned (.int .i64 g) ∧ Below W.heap.size W w') := shid fun W hb => HGR.out W (sbt HW1.out hb)
    have HKS : Hid (∀ w', Below W1.heap.size W1 w' →  w'.cell? ⟨w.heap.size + 1, 0, none⟩ = some (.string x.name) ∧ w'.cell? ⟨w.heap.size + 1, 1, none⟩ = some (.int .i64 x.args) ∧ w'.cell? ⟨w.heap.size + 1, 2, none⟩ = some (.int .i64 x.regs) ∧ w'.cell? ⟨w.heap.size + 1, 3, none⟩ = some (.slice pb x.blocks.length cb)) := shid fun w' hb => by
      obtain ⟨_, b0, b1, b2, b3⟩ := HBF.out.keep hb
      exact ⟨b0, b1, b2, b3⟩
    have hle : W1.heap.size ≤ W1.heap.size := Nat.le_refl _
    have hbd : Below W1.heap.size W1 W1.drew := (Below.refl _ _).drew
    clear c0 c1 c2 c3 HBF HBP HCF HGR
    first
      | (go_region_held3 (fun w' => w'.cell? ⟨w.heap.size + 1, 0, none⟩ = some (.string x.name) ∧ w'.cell? ⟨w.heap.size + 1, 1, none⟩ = some (.int .i64 x.args) ∧ w'.cell? ⟨w.heap.size + 1, 2, none⟩ = some (.int .i64 x.regs) ∧ w'.cell? ⟨w.heap.size + 1, 3, none⟩ = some (.slice pb x.blocks.length cb)) (first | (with_reducible exact HKS.out _ hbd) | (with_reducible exact HKS.out _ hb4) | (refine HKS.out _ ?_; first | assumption | (go_grown; done)))
          (first
            | (go_at_call 57; (with_reducible refine (HT2.out _ hbd).mono ?_); rintro e w3 ⟨rfl, rfl⟩)
            | (go_at_call 59; (with_reducible refine (HGR2.out _ hbd).mono ?_); rintro e w4 ⟨rfl, hb40⟩; have hb4 : Below W1.heap.size W1 w4 := sbt hbd hb40; have hle4 : W1.heap.size ≤ w4.heap.size := hb4.size)))
      | fail
    all_goals go_wp2_with fail
    all_goals
      go_ret
      exact ⟨sret_val (by rw [HR.out]; rfl), sbt HW1.out (by first | exact hb4 | exact hbd)⟩
end Go.Proofs.Ytdefooailcbnlaa
