/- The walk of shape.ins, where an instruction has nothing that its operation has not. -/
import Derived.Test.YtdefooailcbnlaaG10
namespace Go.Proofs.Ytdefooailcbnlaa
open Go.RowKit
set_option linter.unusedVariables false
set_option linter.unusedSimpArgs false
set_option maxRecDepth 100000 in
set_option maxHeartbeats 4000000 in
theorem ins_good_8 (d a b n f l1 l2 : Int) (fs : List Fnx) (nb : Nat) (hnb : nb * 40 ≤ 140737488352000) (args : List Int) (hp : Int) (pt : Option Addr) (nt ct : Nat) (pf : Option Addr) (cf : Nat) (fnm : ByteArray) (fa fr : Int) (pb : Option Addr) (cb : Nat) (pa : Option Addr) (ca : Nat) (w : World) (hF : FnsIn w (.slice pf fs.length cf) fs) (hA : IntsIn w (.slice pa args.length ca) args) (hE : emptyF 8 d a b n f 0 l1 l2)
    (HBA : Hid (∀ W : World, Calls Try.prog 75 #[.agg #[.int .u8 8, .int .i64 d, .int .i64 a, .int .i64 b, .int .u32 n, .int .i64 f, .slice pa args.length ca, .int .i64 l1, .int .i64 l2]] W fun e w' => e = .returned (.agg #[.int .u8 8, .int .i64 d, .int .i64 a, .int .i64 b, .int .u32 n, .int .i64 f, .slice none 0 0, .int .i64 l1, .int .i64 l2]) ∧ Below W.heap.size W w')) :
    Calls Try.prog 62 #[.agg #[.int .i64 hp, .slice pt nt ct, .slice pf fs.length cf], .agg #[.string fnm, .int .i64 fa, .int .i64 fr, .slice pb nb cb], .agg #[.int .u8 8, .int .i64 d, .int .i64 a, .int .i64 b, .int .u32 n, .int .i64 f, .slice pa args.length ca, .int .i64 l1, .int .i64 l2]] w fun e w' => e = .returned (.bool (decide (insF fs nb 8 d a b n f args l1 l2))) ∧ Below w.heap.size w w' := by
  have HCN := shid (fun W (hb : Below w.heap.size w W) => contains_neg W _ args (IntsIn.keep hA hb))
  have HKF : Hid ((0 < fs.length → ∃ bf of, pf = some ⟨bf, of, none⟩ ∧ ∀ W, Below w.heap.size w W → ∀ k, k < fs.length → W.cell? ⟨bf, of + k * 4 + 1, none⟩ = some (.int .i64 (argsOf fs k)))) := shid fun h0 => by
    obtain ⟨p', c', bf, of, hfe, hfl, HFS⟩ := hF.hids
    cases hfe
    exact ⟨bf, of, HFS.out.1 h0, fun W hb k hk => (hb.cell (p := ⟨bf, of + k * 4 + 1, none⟩) (World.block_lt_of_cell? _ _ (fnargs_cell HFS.out.2 k hk))).trans (fnargs_cell HFS.out.2 k hk)⟩
  have hfl : fs.length * 56 ≤ 140737488352000 := hF.1
  have hal : args.length * 8 ≤ 140737488352000 := hA.1
  have HE := shid hE
  clear hF hA hE
  by_cases hmin : 0 ≤ d ∧ 0 ≤ a ∧ 0 ≤ b
  case neg =>
    have hm : decide ((if b < (if a < d then a else d) then b else (if a < d then a else d)) < 0) = true := decide_eq_true (by split <;> split at * <;> omega)
    have HM := shid hmin
    clear hmin HCN HKF
    have HWA := shid (al3 w (.cells #[.int .i64 hp, .slice pt nt ct, .slice pf fs.length cf] 25) (.cells #[.string fnm, .int .i64 fa, .int .i64 fr, .slice pb nb cb] 41) (.cells #[.int .u8 8, .int .i64 d, .int .i64 a, .int .i64 b, .int .u32 n, .int .i64 f, .slice pa args.length ca, .int .i64 l1, .int .i64 l2] 44))
    have HBI := shid (Ibox_of ((w.alloc (.cells #[.int .i64 hp, .slice pt nt ct, .slice pf fs.length cf] 25)).alloc (.cells #[.string fnm, .int .i64 fa, .int .i64 fr, .slice pb nb cb] 41)) 8 d a b n f (.slice pa args.length ca) l1 l2 44)
    have HBF := shid ((FBox.new (w.alloc (.cells #[.int .i64 hp, .slice pt nt ct, .slice pf fs.length cf] 25)) fnm fa fr (.slice pb nb cb) 41).keep (al1 _ (.cells #[.int .u8 8, .int .i64 d, .int .i64 a, .int .i64 b, .int .u32 n, .int .i64 f, .slice pa args.length ca, .int .i64 l1, .int .i64 l2] 44)))
    have HBP := shid ((PBox.new w hp (.slice pt nt ct) (.slice pf fs.length cf) 25).keep (al2 _ (.cells #[.string fnm, .int .i64 fa, .int .i64 fr, .slice pb nb cb] 41) (.cells #[.int .u8 8, .int .i64 d, .int .i64 a, .int .i64 b, .int .u32 n, .int .i64 f, .slice pa args.length ca, .int .i64 l1, .int .i64 l2] 44)))
    have HFZ := shid (show (((w.alloc (.cells #[.int .i64 hp, .slice pt nt ct, .slice pf fs.length cf] 25)).alloc (.cells #[.string fnm, .int .i64 fa, .int .i64 fr, .slice pb nb cb] 41)).alloc (.cells #[.int .u8 8, .int .i64 d, .int .i64 a, .int .i64 b, .int .u32 n, .int .i64 f, .slice pa args.length ca, .int .i64 l1, .int .i64 l2] 44)).frozen? ⟨((w.alloc (.cells #[.int .i64 hp, .slice pt nt ct, .slice pf fs.length cf] 25)).alloc (.cells #[.string fnm, .int .i64 fa, .int .i64 fr, .slice pb nb cb] 41)).heap.size, 6, none⟩ = false from free_of_obj (heap_alloc_new _ _))
    simp only [World.size_alloc] at HBI HBF HBP HFZ
    go_enter Try.func62, Try.ntmps62
    obtain ⟨blt, b0, _, _, _, _, _, _, _, _⟩ := HBI.out
    simp only at b0
    go_wp2_with fail
    clear blt b0
    generalize (((w.alloc (.cells #[.int .i64 hp, .slice pt nt ct, .slice pf fs.length cf] 25)).alloc (.cells #[.string fnm, .int .i64 fa, .int .i64 fr, .slice pb nb cb] 41)).alloc (.cells #[.int .u8 8, .int .i64 d, .int .i64 a, .int .i64 b, .int .u32 n, .int .i64 f, .slice pa args.length ca, .int .i64 l1, .int .i64 l2] 44)) = W at *
    have HKS : Hid (∀ w', Below W.heap.size W w' →  w'.cell? ⟨w.heap.size + 1 + 1, 0, none⟩ = some (.int .u8 8) ∧ w'.cell? ⟨w.heap.size + 1 + 1, 1, none⟩ = some (.int .i64 d) ∧ w'.cell? ⟨w.heap.size + 1 + 1, 2, none⟩ = some (.int .i64 a) ∧ w'.cell? ⟨w.heap.size + 1 + 1, 3, none⟩ = some (.int .i64 b) ∧ w'.cell? ⟨w.heap.size + 1 + 1, 4, none⟩ = some (.int .u32 n) ∧ w'.cell? ⟨w.heap.size + 1 + 1, 5, none⟩ = some (.int .i64 f) ∧ w'.cell? ⟨w.heap.size + 1 + 1, 6, none⟩ = some (.slice pa args.length ca) ∧ w'.cell? ⟨w.heap.size + 1 + 1, 7, none⟩ = some (.int .i64 l1) ∧ w'.cell? ⟨w.heap.size + 1 + 1, 8, none⟩ = some (.int .i64 l2)) := shid fun w' hb => by
      obtain ⟨_, b0, b1, b2, b3, b4, b5, b6, b7, b8⟩ := HBI.out.keep hb
      exact ⟨b0, b1, b2, b3, b4, b5, b6, b7, b8⟩
    have hle : W.heap.size ≤ W.heap.size := Nat.le_refl _
    have hwl := HBI.out.lt
    go_region_held3 (fun w' => w'.cell? ⟨w.heap.size + 1 + 1, 0, none⟩ = some (.int .u8 8) ∧ w'.cell? ⟨w.heap.size + 1 + 1, 1, none⟩ = some (.int .i64 d) ∧ w'.cell? ⟨w.heap.size + 1 + 1, 2, none⟩ = some (.int .i64 a) ∧ w'.cell? ⟨w.heap.size + 1 + 1, 3, none⟩ = some (.int .i64 b) ∧ w'.cell? ⟨w.heap.size + 1 + 1, 4, none⟩ = some (.int .u32 n) ∧ w'.cell? ⟨w.heap.size + 1 + 1, 5, none⟩ = some (.int .i64 f) ∧ w'.cell? ⟨w.heap.size + 1 + 1, 6, none⟩ = some (.slice pa args.length ca) ∧ w'.cell? ⟨w.heap.size + 1 + 1, 7, none⟩ = some (.int .i64 l1) ∧ w'.cell? ⟨w.heap.size + 1 + 1, 8, none⟩ = some (.int .i64 l2)) (first | (with_reducible exact HKS.out _ hb9) | (with_reducible exact HKS.out _ hb4) | (refine HKS.out _ ?_; first | assumption | (go_grown; done)))
      (first
        | (go_at_call 75; (with_reducible refine (HBA.out (W.alloc (.cells #[.int .u8 0, .int .i64 0, .int .i64 0, .int .i64 0, .int .u32 0, .int .i64 0, .slice none 0 0, .int .i64 0, .int .i64 0] 44)).drew).mono ?_); rintro e w4 ⟨rfl, hb40⟩; have hb4 : Below W.heap.size W w4 := sbt (al1 W (.cells #[.int .u8 0, .int .i64 0, .int .i64 0, .int .i64 0, .int .u32 0, .int .i64 0, .slice none 0 0, .int .i64 0, .int .i64 0] 44)).drew hb40; have hle4 : W.heap.size ≤ w4.heap.size := hb4.size; have hgz := zrow hb40; obtain ⟨zl, z0, z1, z2, z3, z4, z5, z6, z7, z8, y0, y1, y2, y3, y4, y5, y6, y7, y8⟩ := ((ZBox.new W 44).keep ((Below.refl _ _).drew)).keep hb40; have hb9 := (((((((((hb4.setCell (p := ⟨W.heap.size, 0, none⟩) (Nat.le_refl _) (.int .u8 8)).setCell (p := ⟨W.heap.size, 1, none⟩) (Nat.le_refl _) (.int .i64 d)).setCell (p := ⟨W.heap.size, 2, none⟩) (Nat.le_refl _) (.int .i64 a)).setCell (p := ⟨W.heap.size, 3, none⟩) (Nat.le_refl _) (.int .i64 b)).setCell (p := ⟨W.heap.size, 4, none⟩) (Nat.le_refl _) (.int .u32 n)).setCell (p := ⟨W.heap.size, 5, none⟩) (Nat.le_refl _) (.int .i64 f)).setCell (p := ⟨W.heap.size, 6, none⟩) (Nat.le_refl _) (.slice none 0 0)).setCell (p := ⟨W.heap.size, 7, none⟩) (Nat.le_refl _) (.int .i64 l1)).setCell (p := ⟨W.heap.size, 8, none⟩) (Nat.le_refl _) (.int .i64 l2)))
        | (go_at_call 75; (with_reducible refine (HBA.out _).mono ?_); rintro e w4 ⟨rfl, hb40⟩; have hb4 : Below W.heap.size W w4 := sbt ((Below.refl _ _).drew) hb40; have hle4 : W.heap.size ≤ w4.heap.size := hb4.size))
    · have HB5 := shid (IBox.of_obj (heap_alloc_new w4 (.cells #[.int .u8 8, .int .i64 d, .int .i64 a, .int .i64 b, .int .u32 n, .int .i64 f, .slice none 0 0, .int .i64 l1, .int .i64 l2] 44)))
      have HGT := shid (show w.heap.size + 1 + 1 < w4.heap.size from Nat.lt_of_lt_of_le HBI.out.lt hle4)
      have HBW := shid (sbt hb4 (al1 w4 (.cells #[.int .u8 8, .int .i64 d, .int .i64 a, .int .i64 b, .int .u32 n, .int .i64 f, .slice none 0 0, .int .i64 l1, .int .i64 l2] 44)))
      clear hb4 hb40 hle4 hwl
      generalize w4.alloc (.cells #[.int .u8 8, .int .i64 d, .int .i64 a, .int .i64 b, .int .u32 n, .int .i64 f, .slice none 0 0, .int .i64 l1, .int .i64 l2] 44) = W5 at *
      generalize hGg : w4.heap.size = G at HB5 HGT ⊢
      have HWE := shid ((sbt HWA.out HBW.out).setCell (p := ⟨w.heap.size + 1 + 1, 6, none⟩) (by show w.heap.size ≤ w.heap.size + 1 + 1; omega) (.slice none 0 0))
      have HI6 := shid ((HBI.out.keep HBW.out).nil (.slice none 0 0))
      have HF6 := shid ((HBF.out.keep HBW.out).far (p := ⟨w.heap.size + 1 + 1, 6, none⟩) (show w.heap.size + 1 + 1 ≠ w.heap.size + 1 by omega) (.slice none 0 0))
      have HP6 := shid ((HBP.out.keep HBW.out).far (p := ⟨w.heap.size + 1 + 1, 6, none⟩) (show w.heap.size + 1 + 1 ≠ w.heap.size by omega) (.slice none 0 0))
      have hgt := HGT.out
      have HB6 := shid (HB5.out.far (p := ⟨w.heap.size + 1 + 1, 6, none⟩) (show w.heap.size + 1 + 1 ≠ G by omega) (.slice none 0 0))
      have fz : W5.frozen? ⟨w.heap.size + 1 + 1, 6, none⟩ = false := (HBW.out.frozen (p := ⟨w.heap.size + 1 + 1, 6, none⟩) HBI.out.lt).trans HFZ.out
      have c6 := (HBI.out.keep HBW.out).c6
      clear HBI HBF HBP HFZ HKS hle HWA HBW hGg HB5
      obtain ⟨_, x0, x1, x2, x3, x4, x5, x6, x7, x8⟩ := HI6.out
      obtain ⟨_, g0, g1, g2, g3, g4, g5, g6, g7, g8⟩ := HB6.out
      simp only at x0 x1 x2 x3 x4 x5 x7 x8 g0 g1 g2 g3 g4 g5 g7 g8
      go_wp2_with fail
      all_goals
        go_ret
        refine ⟨congrArg (fun b => Ending.returned (.bool b)) (?_ : _ = decide (insF fs nb 8 d a b n f args l1 l2)), HWE.out⟩
        refine (decide_eq_false (fun hh => ?_)).symm
        exact HM.out ⟨hh.2.2.1, hh.2.2.2.1, hh.2.2.2.2.1⟩
    · have HB5 := shid (ZBox.put ⟨zl, z0, z1, z2, z3, z4, z5, z6, z7, z8, y0, y1, y2, y3, y4, y5, y6, y7, y8⟩ 8 d a b n f l1 l2)
      have HGT := shid (show w.heap.size + 1 + 1 < W.heap.size from HBI.out.lt)
      have HBW := shid hb9
      clear zl z0 z1 z2 z3 z4 z5 z6 z7 z8 y0 y1 y2 y3 y4 y5 y6 y7 y8 hb9 hgz hb4 hb40 hle4 hwl
      generalize (((((((((w4.setCell ⟨W.heap.size, 0, none⟩ (.int .u8 8)).setCell ⟨W.heap.size, 1, none⟩ (.int .i64 d)).setCell ⟨W.heap.size, 2, none⟩ (.int .i64 a)).setCell ⟨W.heap.size, 3, none⟩ (.int .i64 b)).setCell ⟨W.heap.size, 4, none⟩ (.int .u32 n)).setCell ⟨W.heap.size, 5, none⟩ (.int .i64 f)).setCell ⟨W.heap.size, 6, none⟩ (.slice none 0 0)).setCell ⟨W.heap.size, 7, none⟩ (.int .i64 l1)).setCell ⟨W.heap.size, 8, none⟩ (.int .i64 l2)) = W5 at *
      generalize hGg : W.heap.size = G at HB5 HGT ⊢
      have HWE := shid ((sbt HWA.out HBW.out).setCell (p := ⟨w.heap.size + 1 + 1, 6, none⟩) (by show w.heap.size ≤ w.heap.size + 1 + 1; omega) (.slice none 0 0))
      have HI6 := shid ((HBI.out.keep HBW.out).nil (.slice none 0 0))
      have HF6 := shid ((HBF.out.keep HBW.out).far (p := ⟨w.heap.size + 1 + 1, 6, none⟩) (show w.heap.size + 1 + 1 ≠ w.heap.size + 1 by omega) (.slice none 0 0))
      have HP6 := shid ((HBP.out.keep HBW.out).far (p := ⟨w.heap.size + 1 + 1, 6, none⟩) (show w.heap.size + 1 + 1 ≠ w.heap.size by omega) (.slice none 0 0))
      have hgt := HGT.out
      have HB6 := shid (HB5.out.far (p := ⟨w.heap.size + 1 + 1, 6, none⟩) (show w.heap.size + 1 + 1 ≠ G by omega) (.slice none 0 0))
      have fz : W5.frozen? ⟨w.heap.size + 1 + 1, 6, none⟩ = false := (HBW.out.frozen (p := ⟨w.heap.size + 1 + 1, 6, none⟩) HBI.out.lt).trans HFZ.out
      have c6 := (HBI.out.keep HBW.out).c6
      clear HBI HBF HBP HFZ HKS hle HWA HBW hGg HB5
      obtain ⟨_, x0, x1, x2, x3, x4, x5, x6, x7, x8⟩ := HI6.out
      obtain ⟨_, g0, g1, g2, g3, g4, g5, g6, g7, g8⟩ := HB6.out
      simp only at x0 x1 x2 x3 x4 x5 x7 x8 g0 g1 g2 g3 g4 g5 g7 g8
      go_wp2_with fail
      all_goals
        go_ret
        refine ⟨congrArg (fun b => Ending.returned (.bool b)) (?_ : _ = decide (insF fs nb 8 d a b n f args l1 l2)), HWE.out⟩
        refine (decide_eq_false (fun hh => ?_)).symm
        exact HM.out ⟨hh.2.2.1, hh.2.2.2.1, hh.2.2.2.2.1⟩
  have hm : decide ((if b < (if a < d then a else d) then b else (if a < d then a else d)) < 0) = false := decide_eq_false (by split <;> split at * <;> omega)
  have HM := shid hmin
  clear hmin
  by_cases hneg : anyNeg args = true
  case pos =>
    have HCN' := shid (fun W hb => by have h := HCN.out W hb; rw [hneg] at h; exact h)
    have HN : Hid (∃ y ∈ args, y < 0) := shid (by unfold anyNeg at hneg; simpa using hneg)
    clear hneg HCN HKF
    have HWA := shid (al3 w (.cells #[.int .i64 hp, .slice pt nt ct, .slice pf fs.length cf] 25) (.cells #[.string fnm, .int .i64 fa, .int .i64 fr, .slice pb nb cb] 41) (.cells #[.int .u8 8, .int .i64 d, .int .i64 a, .int .i64 b, .int .u32 n, .int .i64 f, .slice pa args.length ca, .int .i64 l1, .int .i64 l2] 44))
    have HBI := shid (Ibox_of ((w.alloc (.cells #[.int .i64 hp, .slice pt nt ct, .slice pf fs.length cf] 25)).alloc (.cells #[.string fnm, .int .i64 fa, .int .i64 fr, .slice pb nb cb] 41)) 8 d a b n f (.slice pa args.length ca) l1 l2 44)
    have HBF := shid ((FBox.new (w.alloc (.cells #[.int .i64 hp, .slice pt nt ct, .slice pf fs.length cf] 25)) fnm fa fr (.slice pb nb cb) 41).keep (al1 _ (.cells #[.int .u8 8, .int .i64 d, .int .i64 a, .int .i64 b, .int .u32 n, .int .i64 f, .slice pa args.length ca, .int .i64 l1, .int .i64 l2] 44)))
    have HBP := shid ((PBox.new w hp (.slice pt nt ct) (.slice pf fs.length cf) 25).keep (al2 _ (.cells #[.string fnm, .int .i64 fa, .int .i64 fr, .slice pb nb cb] 41) (.cells #[.int .u8 8, .int .i64 d, .int .i64 a, .int .i64 b, .int .u32 n, .int .i64 f, .slice pa args.length ca, .int .i64 l1, .int .i64 l2] 44)))
    have HFZ := shid (show (((w.alloc (.cells #[.int .i64 hp, .slice pt nt ct, .slice pf fs.length cf] 25)).alloc (.cells #[.string fnm, .int .i64 fa, .int .i64 fr, .slice pb nb cb] 41)).alloc (.cells #[.int .u8 8, .int .i64 d, .int .i64 a, .int .i64 b, .int .u32 n, .int .i64 f, .slice pa args.length ca, .int .i64 l1, .int .i64 l2] 44)).frozen? ⟨((w.alloc (.cells #[.int .i64 hp, .slice pt nt ct, .slice pf fs.length cf] 25)).alloc (.cells #[.string fnm, .int .i64 fa, .int .i64 fr, .slice pb nb cb] 41)).heap.size, 6, none⟩ = false from free_of_obj (heap_alloc_new _ _))
    simp only [World.size_alloc] at HBI HBF HBP HFZ
    go_enter Try.func62, Try.ntmps62
    obtain ⟨blt, b0, _, _, _, _, _, _, _, _⟩ := HBI.out
    simp only at b0
    go_wp2_with fail
    clear blt b0
    generalize (((w.alloc (.cells #[.int .i64 hp, .slice pt nt ct, .slice pf fs.length cf] 25)).alloc (.cells #[.string fnm, .int .i64 fa, .int .i64 fr, .slice pb nb cb] 41)).alloc (.cells #[.int .u8 8, .int .i64 d, .int .i64 a, .int .i64 b, .int .u32 n, .int .i64 f, .slice pa args.length ca, .int .i64 l1, .int .i64 l2] 44)) = W at *
    have HKS : Hid (∀ w', Below W.heap.size W w' →  w'.cell? ⟨w.heap.size + 1 + 1, 0, none⟩ = some (.int .u8 8) ∧ w'.cell? ⟨w.heap.size + 1 + 1, 1, none⟩ = some (.int .i64 d) ∧ w'.cell? ⟨w.heap.size + 1 + 1, 2, none⟩ = some (.int .i64 a) ∧ w'.cell? ⟨w.heap.size + 1 + 1, 3, none⟩ = some (.int .i64 b) ∧ w'.cell? ⟨w.heap.size + 1 + 1, 4, none⟩ = some (.int .u32 n) ∧ w'.cell? ⟨w.heap.size + 1 + 1, 5, none⟩ = some (.int .i64 f) ∧ w'.cell? ⟨w.heap.size + 1 + 1, 6, none⟩ = some (.slice pa args.length ca) ∧ w'.cell? ⟨w.heap.size + 1 + 1, 7, none⟩ = some (.int .i64 l1) ∧ w'.cell? ⟨w.heap.size + 1 + 1, 8, none⟩ = some (.int .i64 l2)) := shid fun w' hb => by
      obtain ⟨_, b0, b1, b2, b3, b4, b5, b6, b7, b8⟩ := HBI.out.keep hb
      exact ⟨b0, b1, b2, b3, b4, b5, b6, b7, b8⟩
    have hle : W.heap.size ≤ W.heap.size := Nat.le_refl _
    have hwl := HBI.out.lt
    go_region_held3 (fun w' => w'.cell? ⟨w.heap.size + 1 + 1, 0, none⟩ = some (.int .u8 8) ∧ w'.cell? ⟨w.heap.size + 1 + 1, 1, none⟩ = some (.int .i64 d) ∧ w'.cell? ⟨w.heap.size + 1 + 1, 2, none⟩ = some (.int .i64 a) ∧ w'.cell? ⟨w.heap.size + 1 + 1, 3, none⟩ = some (.int .i64 b) ∧ w'.cell? ⟨w.heap.size + 1 + 1, 4, none⟩ = some (.int .u32 n) ∧ w'.cell? ⟨w.heap.size + 1 + 1, 5, none⟩ = some (.int .i64 f) ∧ w'.cell? ⟨w.heap.size + 1 + 1, 6, none⟩ = some (.slice pa args.length ca) ∧ w'.cell? ⟨w.heap.size + 1 + 1, 7, none⟩ = some (.int .i64 l1) ∧ w'.cell? ⟨w.heap.size + 1 + 1, 8, none⟩ = some (.int .i64 l2)) (first | (with_reducible exact HKS.out _ hb9) | (with_reducible exact HKS.out _ hb4) | (refine HKS.out _ ?_; first | assumption | (go_grown; done)))
      (first
        | (go_at_call 75; (with_reducible refine (HBA.out (W.alloc (.cells #[.int .u8 0, .int .i64 0, .int .i64 0, .int .i64 0, .int .u32 0, .int .i64 0, .slice none 0 0, .int .i64 0, .int .i64 0] 44)).drew).mono ?_); rintro e w4 ⟨rfl, hb40⟩; have hb4 : Below W.heap.size W w4 := sbt (al1 W (.cells #[.int .u8 0, .int .i64 0, .int .i64 0, .int .i64 0, .int .u32 0, .int .i64 0, .slice none 0 0, .int .i64 0, .int .i64 0] 44)).drew hb40; have hle4 : W.heap.size ≤ w4.heap.size := hb4.size; have hgz := zrow hb40; obtain ⟨zl, z0, z1, z2, z3, z4, z5, z6, z7, z8, y0, y1, y2, y3, y4, y5, y6, y7, y8⟩ := ((ZBox.new W 44).keep ((Below.refl _ _).drew)).keep hb40; have hb9 := (((((((((hb4.setCell (p := ⟨W.heap.size, 0, none⟩) (Nat.le_refl _) (.int .u8 8)).setCell (p := ⟨W.heap.size, 1, none⟩) (Nat.le_refl _) (.int .i64 d)).setCell (p := ⟨W.heap.size, 2, none⟩) (Nat.le_refl _) (.int .i64 a)).setCell (p := ⟨W.heap.size, 3, none⟩) (Nat.le_refl _) (.int .i64 b)).setCell (p := ⟨W.heap.size, 4, none⟩) (Nat.le_refl _) (.int .u32 n)).setCell (p := ⟨W.heap.size, 5, none⟩) (Nat.le_refl _) (.int .i64 f)).setCell (p := ⟨W.heap.size, 6, none⟩) (Nat.le_refl _) (.slice none 0 0)).setCell (p := ⟨W.heap.size, 7, none⟩) (Nat.le_refl _) (.int .i64 l1)).setCell (p := ⟨W.heap.size, 8, none⟩) (Nat.le_refl _) (.int .i64 l2)))
        | (go_at_call 75; (with_reducible refine (HBA.out _).mono ?_); rintro e w4 ⟨rfl, hb40⟩; have hb4 : Below W.heap.size W w4 := sbt ((Below.refl _ _).drew) hb40; have hle4 : W.heap.size ≤ w4.heap.size := hb4.size))
    · have HB5 := shid (IBox.of_obj (heap_alloc_new w4 (.cells #[.int .u8 8, .int .i64 d, .int .i64 a, .int .i64 b, .int .u32 n, .int .i64 f, .slice none 0 0, .int .i64 l1, .int .i64 l2] 44)))
      have HGT := shid (show w.heap.size + 1 + 1 < w4.heap.size from Nat.lt_of_lt_of_le HBI.out.lt hle4)
      have HBW := shid (sbt hb4 (al1 w4 (.cells #[.int .u8 8, .int .i64 d, .int .i64 a, .int .i64 b, .int .u32 n, .int .i64 f, .slice none 0 0, .int .i64 l1, .int .i64 l2] 44)))
      clear hb4 hb40 hle4 hwl
      generalize w4.alloc (.cells #[.int .u8 8, .int .i64 d, .int .i64 a, .int .i64 b, .int .u32 n, .int .i64 f, .slice none 0 0, .int .i64 l1, .int .i64 l2] 44) = W5 at *
      generalize hGg : w4.heap.size = G at HB5 HGT ⊢
      have HWE := shid ((sbt HWA.out HBW.out).setCell (p := ⟨w.heap.size + 1 + 1, 6, none⟩) (by show w.heap.size ≤ w.heap.size + 1 + 1; omega) (.slice none 0 0))
      have HI6 := shid ((HBI.out.keep HBW.out).nil (.slice none 0 0))
      have HF6 := shid ((HBF.out.keep HBW.out).far (p := ⟨w.heap.size + 1 + 1, 6, none⟩) (show w.heap.size + 1 + 1 ≠ w.heap.size + 1 by omega) (.slice none 0 0))
      have HP6 := shid ((HBP.out.keep HBW.out).far (p := ⟨w.heap.size + 1 + 1, 6, none⟩) (show w.heap.size + 1 + 1 ≠ w.heap.size by omega) (.slice none 0 0))
      have hgt := HGT.out
      have HB6 := shid (HB5.out.far (p := ⟨w.heap.size + 1 + 1, 6, none⟩) (show w.heap.size + 1 + 1 ≠ G by omega) (.slice none 0 0))
      have fz : W5.frozen? ⟨w.heap.size + 1 + 1, 6, none⟩ = false := (HBW.out.frozen (p := ⟨w.heap.size + 1 + 1, 6, none⟩) HBI.out.lt).trans HFZ.out
      have c6 := (HBI.out.keep HBW.out).c6
      clear HBI HBF HBP HFZ HKS hle HWA HBW hGg HB5
      obtain ⟨_, x0, x1, x2, x3, x4, x5, x6, x7, x8⟩ := HI6.out
      obtain ⟨_, g0, g1, g2, g3, g4, g5, g6, g7, g8⟩ := HB6.out
      simp only at x0 x1 x2 x3 x4 x5 x7 x8 g0 g1 g2 g3 g4 g5 g7 g8
      go_wp2_with (go_at_call 54; (with_reducible refine (HCN'.out _ HWE.out).mono ?_); rintro e w6 ⟨rfl, rfl⟩)
      all_goals
        go_ret
        refine ⟨congrArg (fun b => Ending.returned (.bool b)) (?_ : _ = decide (insF fs nb 8 d a b n f args l1 l2)), HWE.out⟩
        refine (decide_eq_false (fun hh => ?_)).symm
        obtain ⟨y, hy, hn⟩ := HN.out
        have := hh.2.2.2.2.2.1 y hy
        omega
    · have HB5 := shid (ZBox.put ⟨zl, z0, z1, z2, z3, z4, z5, z6, z7, z8, y0, y1, y2, y3, y4, y5, y6, y7, y8⟩ 8 d a b n f l1 l2)
      have HGT := shid (show w.heap.size + 1 + 1 < W.heap.size from HBI.out.lt)
      have HBW := shid hb9
      clear zl z0 z1 z2 z3 z4 z5 z6 z7 z8 y0 y1 y2 y3 y4 y5 y6 y7 y8 hb9 hgz hb4 hb40 hle4 hwl
      generalize (((((((((w4.setCell ⟨W.heap.size, 0, none⟩ (.int .u8 8)).setCell ⟨W.heap.size, 1, none⟩ (.int .i64 d)).setCell ⟨W.heap.size, 2, none⟩ (.int .i64 a)).setCell ⟨W.heap.size, 3, none⟩ (.int .i64 b)).setCell ⟨W.heap.size, 4, none⟩ (.int .u32 n)).setCell ⟨W.heap.size, 5, none⟩ (.int .i64 f)).setCell ⟨W.heap.size, 6, none⟩ (.slice none 0 0)).setCell ⟨W.heap.size, 7, none⟩ (.int .i64 l1)).setCell ⟨W.heap.size, 8, none⟩ (.int .i64 l2)) = W5 at *
      generalize hGg : W.heap.size = G at HB5 HGT ⊢
      have HWE := shid ((sbt HWA.out HBW.out).setCell (p := ⟨w.heap.size + 1 + 1, 6, none⟩) (by show w.heap.size ≤ w.heap.size + 1 + 1; omega) (.slice none 0 0))
      have HI6 := shid ((HBI.out.keep HBW.out).nil (.slice none 0 0))
      have HF6 := shid ((HBF.out.keep HBW.out).far (p := ⟨w.heap.size + 1 + 1, 6, none⟩) (show w.heap.size + 1 + 1 ≠ w.heap.size + 1 by omega) (.slice none 0 0))
      have HP6 := shid ((HBP.out.keep HBW.out).far (p := ⟨w.heap.size + 1 + 1, 6, none⟩) (show w.heap.size + 1 + 1 ≠ w.heap.size by omega) (.slice none 0 0))
      have hgt := HGT.out
      have HB6 := shid (HB5.out.far (p := ⟨w.heap.size + 1 + 1, 6, none⟩) (show w.heap.size + 1 + 1 ≠ G by omega) (.slice none 0 0))
      have fz : W5.frozen? ⟨w.heap.size + 1 + 1, 6, none⟩ = false := (HBW.out.frozen (p := ⟨w.heap.size + 1 + 1, 6, none⟩) HBI.out.lt).trans HFZ.out
      have c6 := (HBI.out.keep HBW.out).c6
      clear HBI HBF HBP HFZ HKS hle HWA HBW hGg HB5
      obtain ⟨_, x0, x1, x2, x3, x4, x5, x6, x7, x8⟩ := HI6.out
      obtain ⟨_, g0, g1, g2, g3, g4, g5, g6, g7, g8⟩ := HB6.out
      simp only at x0 x1 x2 x3 x4 x5 x7 x8 g0 g1 g2 g3 g4 g5 g7 g8
      go_wp2_with (go_at_call 54; (with_reducible refine (HCN'.out _ HWE.out).mono ?_); rintro e w6 ⟨rfl, rfl⟩)
      all_goals
        go_ret
        refine ⟨congrArg (fun b => Ending.returned (.bool b)) (?_ : _ = decide (insF fs nb 8 d a b n f args l1 l2)), HWE.out⟩
        refine (decide_eq_false (fun hh => ?_)).symm
        obtain ⟨y, hy, hn⟩ := HN.out
        have := hh.2.2.2.2.2.1 y hy
        omega
  have HCN' := shid (fun W hb => by have h := HCN.out W hb; rw [Bool.eq_false_iff.2 hneg] at h; exact h)
  have HN : Hid (∀ y ∈ args, 0 ≤ y) := shid (by unfold anyNeg at hneg; simpa using hneg)
  clear hneg HCN
  have HWA := shid (al3 w (.cells #[.int .i64 hp, .slice pt nt ct, .slice pf fs.length cf] 25) (.cells #[.string fnm, .int .i64 fa, .int .i64 fr, .slice pb nb cb] 41) (.cells #[.int .u8 8, .int .i64 d, .int .i64 a, .int .i64 b, .int .u32 n, .int .i64 f, .slice pa args.length ca, .int .i64 l1, .int .i64 l2] 44))
  have HBI := shid (Ibox_of ((w.alloc (.cells #[.int .i64 hp, .slice pt nt ct, .slice pf fs.length cf] 25)).alloc (.cells #[.string fnm, .int .i64 fa, .int .i64 fr, .slice pb nb cb] 41)) 8 d a b n f (.slice pa args.length ca) l1 l2 44)
  have HBF := shid ((FBox.new (w.alloc (.cells #[.int .i64 hp, .slice pt nt ct, .slice pf fs.length cf] 25)) fnm fa fr (.slice pb nb cb) 41).keep (al1 _ (.cells #[.int .u8 8, .int .i64 d, .int .i64 a, .int .i64 b, .int .u32 n, .int .i64 f, .slice pa args.length ca, .int .i64 l1, .int .i64 l2] 44)))
  have HBP := shid ((PBox.new w hp (.slice pt nt ct) (.slice pf fs.length cf) 25).keep (al2 _ (.cells #[.string fnm, .int .i64 fa, .int .i64 fr, .slice pb nb cb] 41) (.cells #[.int .u8 8, .int .i64 d, .int .i64 a, .int .i64 b, .int .u32 n, .int .i64 f, .slice pa args.length ca, .int .i64 l1, .int .i64 l2] 44)))
  have HFZ := shid (show (((w.alloc (.cells #[.int .i64 hp, .slice pt nt ct, .slice pf fs.length cf] 25)).alloc (.cells #[.string fnm, .int .i64 fa, .int .i64 fr, .slice pb nb cb] 41)).alloc (.cells #[.int .u8 8, .int .i64 d, .int .i64 a, .int .i64 b, .int .u32 n, .int .i64 f, .slice pa args.length ca, .int .i64 l1, .int .i64 l2] 44)).frozen? ⟨((w.alloc (.cells #[.int .i64 hp, .slice pt nt ct, .slice pf fs.length cf] 25)).alloc (.cells #[.string fnm, .int .i64 fa, .int .i64 fr, .slice pb nb cb] 41)).heap.size, 6, none⟩ = false from free_of_obj (heap_alloc_new _ _))
  simp only [World.size_alloc] at HBI HBF HBP HFZ
  go_enter Try.func62, Try.ntmps62
  obtain ⟨blt, b0, _, _, _, _, _, _, _, _⟩ := HBI.out
  simp only at b0
  go_wp2_with fail
  clear blt b0
  generalize (((w.alloc (.cells #[.int .i64 hp, .slice pt nt ct, .slice pf fs.length cf] 25)).alloc (.cells #[.string fnm, .int .i64 fa, .int .i64 fr, .slice pb nb cb] 41)).alloc (.cells #[.int .u8 8, .int .i64 d, .int .i64 a, .int .i64 b, .int .u32 n, .int .i64 f, .slice pa args.length ca, .int .i64 l1, .int .i64 l2] 44)) = W at *
  have HKS : Hid (∀ w', Below W.heap.size W w' →  w'.cell? ⟨w.heap.size + 1 + 1, 0, none⟩ = some (.int .u8 8) ∧ w'.cell? ⟨w.heap.size + 1 + 1, 1, none⟩ = some (.int .i64 d) ∧ w'.cell? ⟨w.heap.size + 1 + 1, 2, none⟩ = some (.int .i64 a) ∧ w'.cell? ⟨w.heap.size + 1 + 1, 3, none⟩ = some (.int .i64 b) ∧ w'.cell? ⟨w.heap.size + 1 + 1, 4, none⟩ = some (.int .u32 n) ∧ w'.cell? ⟨w.heap.size + 1 + 1, 5, none⟩ = some (.int .i64 f) ∧ w'.cell? ⟨w.heap.size + 1 + 1, 6, none⟩ = some (.slice pa args.length ca) ∧ w'.cell? ⟨w.heap.size + 1 + 1, 7, none⟩ = some (.int .i64 l1) ∧ w'.cell? ⟨w.heap.size + 1 + 1, 8, none⟩ = some (.int .i64 l2)) := shid fun w' hb => by
    obtain ⟨_, b0, b1, b2, b3, b4, b5, b6, b7, b8⟩ := HBI.out.keep hb
    exact ⟨b0, b1, b2, b3, b4, b5, b6, b7, b8⟩
  have hle : W.heap.size ≤ W.heap.size := Nat.le_refl _
  have hwl := HBI.out.lt
  go_region_held3 (fun w' => w'.cell? ⟨w.heap.size + 1 + 1, 0, none⟩ = some (.int .u8 8) ∧ w'.cell? ⟨w.heap.size + 1 + 1, 1, none⟩ = some (.int .i64 d) ∧ w'.cell? ⟨w.heap.size + 1 + 1, 2, none⟩ = some (.int .i64 a) ∧ w'.cell? ⟨w.heap.size + 1 + 1, 3, none⟩ = some (.int .i64 b) ∧ w'.cell? ⟨w.heap.size + 1 + 1, 4, none⟩ = some (.int .u32 n) ∧ w'.cell? ⟨w.heap.size + 1 + 1, 5, none⟩ = some (.int .i64 f) ∧ w'.cell? ⟨w.heap.size + 1 + 1, 6, none⟩ = some (.slice pa args.length ca) ∧ w'.cell? ⟨w.heap.size + 1 + 1, 7, none⟩ = some (.int .i64 l1) ∧ w'.cell? ⟨w.heap.size + 1 + 1, 8, none⟩ = some (.int .i64 l2)) (first | (with_reducible exact HKS.out _ hb9) | (with_reducible exact HKS.out _ hb4) | (refine HKS.out _ ?_; first | assumption | (go_grown; done)))
    (first
      | (go_at_call 75; (with_reducible refine (HBA.out (W.alloc (.cells #[.int .u8 0, .int .i64 0, .int .i64 0, .int .i64 0, .int .u32 0, .int .i64 0, .slice none 0 0, .int .i64 0, .int .i64 0] 44)).drew).mono ?_); rintro e w4 ⟨rfl, hb40⟩; have hb4 : Below W.heap.size W w4 := sbt (al1 W (.cells #[.int .u8 0, .int .i64 0, .int .i64 0, .int .i64 0, .int .u32 0, .int .i64 0, .slice none 0 0, .int .i64 0, .int .i64 0] 44)).drew hb40; have hle4 : W.heap.size ≤ w4.heap.size := hb4.size; have hgz := zrow hb40; obtain ⟨zl, z0, z1, z2, z3, z4, z5, z6, z7, z8, y0, y1, y2, y3, y4, y5, y6, y7, y8⟩ := ((ZBox.new W 44).keep ((Below.refl _ _).drew)).keep hb40; have hb9 := (((((((((hb4.setCell (p := ⟨W.heap.size, 0, none⟩) (Nat.le_refl _) (.int .u8 8)).setCell (p := ⟨W.heap.size, 1, none⟩) (Nat.le_refl _) (.int .i64 d)).setCell (p := ⟨W.heap.size, 2, none⟩) (Nat.le_refl _) (.int .i64 a)).setCell (p := ⟨W.heap.size, 3, none⟩) (Nat.le_refl _) (.int .i64 b)).setCell (p := ⟨W.heap.size, 4, none⟩) (Nat.le_refl _) (.int .u32 n)).setCell (p := ⟨W.heap.size, 5, none⟩) (Nat.le_refl _) (.int .i64 f)).setCell (p := ⟨W.heap.size, 6, none⟩) (Nat.le_refl _) (.slice none 0 0)).setCell (p := ⟨W.heap.size, 7, none⟩) (Nat.le_refl _) (.int .i64 l1)).setCell (p := ⟨W.heap.size, 8, none⟩) (Nat.le_refl _) (.int .i64 l2)))
      | (go_at_call 75; (with_reducible refine (HBA.out _).mono ?_); rintro e w4 ⟨rfl, hb40⟩; have hb4 : Below W.heap.size W w4 := sbt ((Below.refl _ _).drew) hb40; have hle4 : W.heap.size ≤ w4.heap.size := hb4.size))
  · have HB5 := shid (IBox.of_obj (heap_alloc_new w4 (.cells #[.int .u8 8, .int .i64 d, .int .i64 a, .int .i64 b, .int .u32 n, .int .i64 f, .slice none 0 0, .int .i64 l1, .int .i64 l2] 44)))
    have HGT := shid (show w.heap.size + 1 + 1 < w4.heap.size from Nat.lt_of_lt_of_le HBI.out.lt hle4)
    have HBW := shid (sbt hb4 (al1 w4 (.cells #[.int .u8 8, .int .i64 d, .int .i64 a, .int .i64 b, .int .u32 n, .int .i64 f, .slice none 0 0, .int .i64 l1, .int .i64 l2] 44)))
    clear hb4 hb40 hle4 hwl
    generalize w4.alloc (.cells #[.int .u8 8, .int .i64 d, .int .i64 a, .int .i64 b, .int .u32 n, .int .i64 f, .slice none 0 0, .int .i64 l1, .int .i64 l2] 44) = W5 at *
    generalize hGg : w4.heap.size = G at HB5 HGT ⊢
    have HWE := shid ((sbt HWA.out HBW.out).setCell (p := ⟨w.heap.size + 1 + 1, 6, none⟩) (by show w.heap.size ≤ w.heap.size + 1 + 1; omega) (.slice none 0 0))
    have HI6 := shid ((HBI.out.keep HBW.out).nil (.slice none 0 0))
    have HF6 := shid ((HBF.out.keep HBW.out).far (p := ⟨w.heap.size + 1 + 1, 6, none⟩) (show w.heap.size + 1 + 1 ≠ w.heap.size + 1 by omega) (.slice none 0 0))
    have HP6 := shid ((HBP.out.keep HBW.out).far (p := ⟨w.heap.size + 1 + 1, 6, none⟩) (show w.heap.size + 1 + 1 ≠ w.heap.size by omega) (.slice none 0 0))
    have hgt := HGT.out
    have HB6 := shid (HB5.out.far (p := ⟨w.heap.size + 1 + 1, 6, none⟩) (show w.heap.size + 1 + 1 ≠ G by omega) (.slice none 0 0))
    have fz : W5.frozen? ⟨w.heap.size + 1 + 1, 6, none⟩ = false := (HBW.out.frozen (p := ⟨w.heap.size + 1 + 1, 6, none⟩) HBI.out.lt).trans HFZ.out
    have c6 := (HBI.out.keep HBW.out).c6
    clear HBI HBF HBP HFZ HKS hle HWA HBW hGg HB5
    obtain ⟨_, x0, x1, x2, x3, x4, x5, x6, x7, x8⟩ := HI6.out
    obtain ⟨_, g0, g1, g2, g3, g4, g5, g6, g7, g8⟩ := HB6.out
    simp only at x0 x1 x2 x3 x4 x5 x7 x8 g0 g1 g2 g3 g4 g5 g7 g8
    obtain ⟨_, p0, p1, p2⟩ := HP6.out
    obtain ⟨_, f0, f1, f2, f3⟩ := HF6.out
    by_cases ha0 : (args.length : Int) = 0
    · have hab : ((args.length : Int) == 0) = true := by simpa using ha0
      have HL := shid ha0
      clear ha0
      by_cases k1 : 0 ≤ l1 ∧ l1 < nb
      · have HH1 : Hid (∀ W : World, Calls Try.prog 56 #[.int .i64 l1, .int .i64 (nb : Int)] W fun e w' => e = .returned (.bool true) ∧ W = w') := shid fun W => by have h := has_any l1 nb W; unfold hasB at h; rw [decide_eq_true k1] at h; exact h
        have K1 := shid k1
        clear k1
        by_cases k2 : 0 ≤ l2 ∧ l2 < nb
        · have HH2 : Hid (∀ W : World, Calls Try.prog 56 #[.int .i64 l2, .int .i64 (nb : Int)] W fun e w' => e = .returned (.bool true) ∧ W = w') := shid fun W => by have h := has_any l2 nb W; unfold hasB at h; rw [decide_eq_true k2] at h; exact h
          have K2 := shid k2
          clear k2
          go_wp2_with (first | (go_at_call 54; (with_reducible refine (HCN'.out _ HWE.out).mono ?_); rintro e w6 ⟨rfl, rfl⟩) | (go_at_call 56; (with_reducible refine (HH1.out _).mono ?_); rintro e w7 ⟨rfl, rfl⟩) | (go_at_call 56; (with_reducible refine (HH2.out _).mono ?_); rintro e w7 ⟨rfl, rfl⟩))
          all_goals
            go_ret
            refine ⟨congrArg (fun b => Ending.returned (.bool b)) (?_ : _ = decide (insF fs nb 8 d a b n f args l1 l2)), HWE.out⟩
            have h2 := HM.out
            have h3 := HL.out
            have h5 := K1.out
            have h6 := K2.out
            exact (decide_eq_true ⟨by omega, by have h4 := HE.out; unfold emptyF at h4 ⊢; omega, h2.1, h2.2.1, h2.2.2, HN.out, fun h => by omega, fun h => by omega, fun h => ⟨h5.1, h5.2, h6.1, h6.2⟩⟩).symm
        · have HH2 : Hid (∀ W : World, Calls Try.prog 56 #[.int .i64 l2, .int .i64 (nb : Int)] W fun e w' => e = .returned (.bool false) ∧ W = w') := shid fun W => by have h := has_any l2 nb W; unfold hasB at h; rw [decide_eq_false k2] at h; exact h
          have K2 := shid k2
          clear k2
          go_wp2_with (first | (go_at_call 54; (with_reducible refine (HCN'.out _ HWE.out).mono ?_); rintro e w6 ⟨rfl, rfl⟩) | (go_at_call 56; (with_reducible refine (HH1.out _).mono ?_); rintro e w7 ⟨rfl, rfl⟩) | (go_at_call 56; (with_reducible refine (HH2.out _).mono ?_); rintro e w7 ⟨rfl, rfl⟩))
          all_goals
            go_ret
            refine ⟨congrArg (fun b => Ending.returned (.bool b)) (?_ : _ = decide (insF fs nb 8 d a b n f args l1 l2)), HWE.out⟩
            have h2 := HM.out
            have h6 := K2.out
            refine (decide_eq_false (fun hh => ?_)).symm
            have h7 := hh.2.2.2.2.2.2.2.2 (by omega)
            exact h6 ⟨h7.2.2.1, h7.2.2.2⟩
      · have HH1 : Hid (∀ W : World, Calls Try.prog 56 #[.int .i64 l1, .int .i64 (nb : Int)] W fun e w' => e = .returned (.bool false) ∧ W = w') := shid fun W => by have h := has_any l1 nb W; unfold hasB at h; rw [decide_eq_false k1] at h; exact h
        have K1 := shid k1
        clear k1
        go_wp2_with (first | (go_at_call 54; (with_reducible refine (HCN'.out _ HWE.out).mono ?_); rintro e w6 ⟨rfl, rfl⟩) | (go_at_call 56; (with_reducible refine (HH1.out _).mono ?_); rintro e w7 ⟨rfl, rfl⟩))
        all_goals
          go_ret
          refine ⟨congrArg (fun b => Ending.returned (.bool b)) (?_ : _ = decide (insF fs nb 8 d a b n f args l1 l2)), HWE.out⟩
          have h2 := HM.out
          have h5 := K1.out
          refine (decide_eq_false (fun hh => ?_)).symm
          have h7 := hh.2.2.2.2.2.2.2.2 (by omega)
          exact h5 ⟨h7.1, h7.2.1⟩
    · have hab : ((args.length : Int) == 0) = false := by simpa using ha0
      have HL := shid ha0
      clear ha0
      go_wp2_with (go_at_call 54; (with_reducible refine (HCN'.out _ HWE.out).mono ?_); rintro e w6 ⟨rfl, rfl⟩)
      all_goals
        go_ret
        refine ⟨congrArg (fun b => Ending.returned (.bool b)) (?_ : _ = decide (insF fs nb 8 d a b n f args l1 l2)), HWE.out⟩
        have h2 := HM.out
        have h3 := HL.out
        refine (decide_eq_false (fun hh => ?_)).symm
        obtain ⟨i1, i2, i3, i4, i5, i6, i7, i8, i9⟩ := hh
        have h4 := i2
        unfold emptyF at h4
        omega
    
  · have HB5 := shid (ZBox.put ⟨zl, z0, z1, z2, z3, z4, z5, z6, z7, z8, y0, y1, y2, y3, y4, y5, y6, y7, y8⟩ 8 d a b n f l1 l2)
    have HGT := shid (show w.heap.size + 1 + 1 < W.heap.size from HBI.out.lt)
    have HBW := shid hb9
    clear zl z0 z1 z2 z3 z4 z5 z6 z7 z8 y0 y1 y2 y3 y4 y5 y6 y7 y8 hb9 hgz hb4 hb40 hle4 hwl
    generalize (((((((((w4.setCell ⟨W.heap.size, 0, none⟩ (.int .u8 8)).setCell ⟨W.heap.size, 1, none⟩ (.int .i64 d)).setCell ⟨W.heap.size, 2, none⟩ (.int .i64 a)).setCell ⟨W.heap.size, 3, none⟩ (.int .i64 b)).setCell ⟨W.heap.size, 4, none⟩ (.int .u32 n)).setCell ⟨W.heap.size, 5, none⟩ (.int .i64 f)).setCell ⟨W.heap.size, 6, none⟩ (.slice none 0 0)).setCell ⟨W.heap.size, 7, none⟩ (.int .i64 l1)).setCell ⟨W.heap.size, 8, none⟩ (.int .i64 l2)) = W5 at *
    generalize hGg : W.heap.size = G at HB5 HGT ⊢
    have HWE := shid ((sbt HWA.out HBW.out).setCell (p := ⟨w.heap.size + 1 + 1, 6, none⟩) (by show w.heap.size ≤ w.heap.size + 1 + 1; omega) (.slice none 0 0))
    have HI6 := shid ((HBI.out.keep HBW.out).nil (.slice none 0 0))
    have HF6 := shid ((HBF.out.keep HBW.out).far (p := ⟨w.heap.size + 1 + 1, 6, none⟩) (show w.heap.size + 1 + 1 ≠ w.heap.size + 1 by omega) (.slice none 0 0))
    have HP6 := shid ((HBP.out.keep HBW.out).far (p := ⟨w.heap.size + 1 + 1, 6, none⟩) (show w.heap.size + 1 + 1 ≠ w.heap.size by omega) (.slice none 0 0))
    have hgt := HGT.out
    have HB6 := shid (HB5.out.far (p := ⟨w.heap.size + 1 + 1, 6, none⟩) (show w.heap.size + 1 + 1 ≠ G by omega) (.slice none 0 0))
    have fz : W5.frozen? ⟨w.heap.size + 1 + 1, 6, none⟩ = false := (HBW.out.frozen (p := ⟨w.heap.size + 1 + 1, 6, none⟩) HBI.out.lt).trans HFZ.out
    have c6 := (HBI.out.keep HBW.out).c6
    clear HBI HBF HBP HFZ HKS hle HWA HBW hGg HB5
    obtain ⟨_, x0, x1, x2, x3, x4, x5, x6, x7, x8⟩ := HI6.out
    obtain ⟨_, g0, g1, g2, g3, g4, g5, g6, g7, g8⟩ := HB6.out
    simp only at x0 x1 x2 x3 x4 x5 x7 x8 g0 g1 g2 g3 g4 g5 g7 g8
    obtain ⟨_, p0, p1, p2⟩ := HP6.out
    obtain ⟨_, f0, f1, f2, f3⟩ := HF6.out
    by_cases ha0 : (args.length : Int) = 0
    · have hab : ((args.length : Int) == 0) = true := by simpa using ha0
      have HL := shid ha0
      clear ha0
      by_cases k1 : 0 ≤ l1 ∧ l1 < nb
      · have HH1 : Hid (∀ W : World, Calls Try.prog 56 #[.int .i64 l1, .int .i64 (nb : Int)] W fun e w' => e = .returned (.bool true) ∧ W = w') := shid fun W => by have h := has_any l1 nb W; unfold hasB at h; rw [decide_eq_true k1] at h; exact h
        have K1 := shid k1
        clear k1
        by_cases k2 : 0 ≤ l2 ∧ l2 < nb
        · have HH2 : Hid (∀ W : World, Calls Try.prog 56 #[.int .i64 l2, .int .i64 (nb : Int)] W fun e w' => e = .returned (.bool true) ∧ W = w') := shid fun W => by have h := has_any l2 nb W; unfold hasB at h; rw [decide_eq_true k2] at h; exact h
          have K2 := shid k2
          clear k2
          go_wp2_with (first | (go_at_call 54; (with_reducible refine (HCN'.out _ HWE.out).mono ?_); rintro e w6 ⟨rfl, rfl⟩) | (go_at_call 56; (with_reducible refine (HH1.out _).mono ?_); rintro e w7 ⟨rfl, rfl⟩) | (go_at_call 56; (with_reducible refine (HH2.out _).mono ?_); rintro e w7 ⟨rfl, rfl⟩))
          all_goals
            go_ret
            refine ⟨congrArg (fun b => Ending.returned (.bool b)) (?_ : _ = decide (insF fs nb 8 d a b n f args l1 l2)), HWE.out⟩
            have h2 := HM.out
            have h3 := HL.out
            have h5 := K1.out
            have h6 := K2.out
            exact (decide_eq_true ⟨by omega, by have h4 := HE.out; unfold emptyF at h4 ⊢; omega, h2.1, h2.2.1, h2.2.2, HN.out, fun h => by omega, fun h => by omega, fun h => ⟨h5.1, h5.2, h6.1, h6.2⟩⟩).symm
        · have HH2 : Hid (∀ W : World, Calls Try.prog 56 #[.int .i64 l2, .int .i64 (nb : Int)] W fun e w' => e = .returned (.bool false) ∧ W = w') := shid fun W => by have h := has_any l2 nb W; unfold hasB at h; rw [decide_eq_false k2] at h; exact h
          have K2 := shid k2
          clear k2
          go_wp2_with (first | (go_at_call 54; (with_reducible refine (HCN'.out _ HWE.out).mono ?_); rintro e w6 ⟨rfl, rfl⟩) | (go_at_call 56; (with_reducible refine (HH1.out _).mono ?_); rintro e w7 ⟨rfl, rfl⟩) | (go_at_call 56; (with_reducible refine (HH2.out _).mono ?_); rintro e w7 ⟨rfl, rfl⟩))
          all_goals
            go_ret
            refine ⟨congrArg (fun b => Ending.returned (.bool b)) (?_ : _ = decide (insF fs nb 8 d a b n f args l1 l2)), HWE.out⟩
            have h2 := HM.out
            have h6 := K2.out
            refine (decide_eq_false (fun hh => ?_)).symm
            have h7 := hh.2.2.2.2.2.2.2.2 (by omega)
            exact h6 ⟨h7.2.2.1, h7.2.2.2⟩
      · have HH1 : Hid (∀ W : World, Calls Try.prog 56 #[.int .i64 l1, .int .i64 (nb : Int)] W fun e w' => e = .returned (.bool false) ∧ W = w') := shid fun W => by have h := has_any l1 nb W; unfold hasB at h; rw [decide_eq_false k1] at h; exact h
        have K1 := shid k1
        clear k1
        go_wp2_with (first | (go_at_call 54; (with_reducible refine (HCN'.out _ HWE.out).mono ?_); rintro e w6 ⟨rfl, rfl⟩) | (go_at_call 56; (with_reducible refine (HH1.out _).mono ?_); rintro e w7 ⟨rfl, rfl⟩))
        all_goals
          go_ret
          refine ⟨congrArg (fun b => Ending.returned (.bool b)) (?_ : _ = decide (insF fs nb 8 d a b n f args l1 l2)), HWE.out⟩
          have h2 := HM.out
          have h5 := K1.out
          refine (decide_eq_false (fun hh => ?_)).symm
          have h7 := hh.2.2.2.2.2.2.2.2 (by omega)
          exact h5 ⟨h7.1, h7.2.1⟩
    · have hab : ((args.length : Int) == 0) = false := by simpa using ha0
      have HL := shid ha0
      clear ha0
      go_wp2_with (go_at_call 54; (with_reducible refine (HCN'.out _ HWE.out).mono ?_); rintro e w6 ⟨rfl, rfl⟩)
      all_goals
        go_ret
        refine ⟨congrArg (fun b => Ending.returned (.bool b)) (?_ : _ = decide (insF fs nb 8 d a b n f args l1 l2)), HWE.out⟩
        have h2 := HM.out
        have h3 := HL.out
        refine (decide_eq_false (fun hh => ?_)).symm
        obtain ⟨i1, i2, i3, i4, i5, i6, i7, i8, i9⟩ := hh
        have h4 := i2
        unfold emptyF at h4
        omega
    

set_option maxRecDepth 100000 in
set_option maxHeartbeats 4000000 in
theorem ins_good_9 (d a b n f l1 l2 : Int) (fs : List Fnx) (nb : Nat) (hnb : nb * 40 ≤ 140737488352000) (args : List Int) (hp : Int) (pt : Option Addr) (nt ct : Nat) (pf : Option Addr) (cf : Nat) (fnm : ByteArray) (fa fr : Int) (pb : Option Addr) (cb : Nat) (pa : Option Addr) (ca : Nat) (w : World) (hF : FnsIn w (.slice pf fs.length cf) fs) (hA : IntsIn w (.slice pa args.length ca) args) (hE : emptyF 9 d a b n f 0 l1 l2)
    (HBA : Hid (∀ W : World, Calls Try.prog 75 #[.agg #[.int .u8 9, .int .i64 d, .int .i64 a, .int .i64 b, .int .u32 n, .int .i64 f, .slice pa args.length ca, .int .i64 l1, .int .i64 l2]] W fun e w' => e = .returned (.agg #[.int .u8 9, .int .i64 d, .int .i64 a, .int .i64 b, .int .u32 n, .int .i64 f, .slice none 0 0, .int .i64 l1, .int .i64 l2]) ∧ Below W.heap.size W w')) :
    Calls Try.prog 62 #[.agg #[.int .i64 hp, .slice pt nt ct, .slice pf fs.length cf], .agg #[.string fnm, .int .i64 fa, .int .i64 fr, .slice pb nb cb], .agg #[.int .u8 9, .int .i64 d, .int .i64 a, .int .i64 b, .int .u32 n, .int .i64 f, .slice pa args.length ca, .int .i64 l1, .int .i64 l2]] w fun e w' => e = .returned (.bool (decide (insF fs nb 9 d a b n f args l1 l2))) ∧ Below w.heap.size w w' := by
  have HCN := shid (fun W (hb : Below w.heap.size w W) => contains_neg W _ args (IntsIn.keep hA hb))
  have HKF : Hid ((0 < fs.length → ∃ bf of, pf = some ⟨bf, of, none⟩ ∧ ∀ W, Below w.heap.size w W → ∀ k, k < fs.length → W.cell? ⟨bf, of + k * 4 + 1, none⟩ = some (.int .i64 (argsOf fs k)))) := shid fun h0 => by
    obtain ⟨p', c', bf, of, hfe, hfl, HFS⟩ := hF.hids
    cases hfe
    exact ⟨bf, of, HFS.out.1 h0, fun W hb k hk => (hb.cell (p := ⟨bf, of + k * 4 + 1, none⟩) (World.block_lt_of_cell? _ _ (fnargs_cell HFS.out.2 k hk))).trans (fnargs_cell HFS.out.2 k hk)⟩
  have hfl : fs.length * 56 ≤ 140737488352000 := hF.1
  have hal : args.length * 8 ≤ 140737488352000 := hA.1
  have HE := shid hE
  clear hF hA hE
  by_cases hmin : 0 ≤ d ∧ 0 ≤ a ∧ 0 ≤ b
  case neg =>
    have hm : decide ((if b < (if a < d then a else d) then b else (if a < d then a else d)) < 0) = true := decide_eq_true (by split <;> split at * <;> omega)
    have HM := shid hmin
    clear hmin HCN HKF
    have HWA := shid (al3 w (.cells #[.int .i64 hp, .slice pt nt ct, .slice pf fs.length cf] 25) (.cells #[.string fnm, .int .i64 fa, .int .i64 fr, .slice pb nb cb] 41) (.cells #[.int .u8 9, .int .i64 d, .int .i64 a, .int .i64 b, .int .u32 n, .int .i64 f, .slice pa args.length ca, .int .i64 l1, .int .i64 l2] 44))
    have HBI := shid (Ibox_of ((w.alloc (.cells #[.int .i64 hp, .slice pt nt ct, .slice pf fs.length cf] 25)).alloc (.cells #[.string fnm, .int .i64 fa, .int .i64 fr, .slice pb nb cb] 41)) 9 d a b n f (.slice pa args.length ca) l1 l2 44)
    have HBF := shid ((FBox.new (w.alloc (.cells #[.int .i64 hp, .slice pt nt ct, .slice pf fs.length cf] 25)) fnm fa fr (.slice pb nb cb) 41).keep (al1 _ (.cells #[.int .u8 9, .int .i64 d, .int .i64 a, .int .i64 b, .int .u32 n, .int .i64 f, .slice pa args.length ca, .int .i64 l1, .int .i64 l2] 44)))
    have HBP := shid ((PBox.new w hp (.slice pt nt ct) (.slice pf fs.length cf) 25).keep (al2 _ (.cells #[.string fnm, .int .i64 fa, .int .i64 fr, .slice pb nb cb] 41) (.cells #[.int .u8 9, .int .i64 d, .int .i64 a, .int .i64 b, .int .u32 n, .int .i64 f, .slice pa args.length ca, .int .i64 l1, .int .i64 l2] 44)))
    have HFZ := shid (show (((w.alloc (.cells #[.int .i64 hp, .slice pt nt ct, .slice pf fs.length cf] 25)).alloc (.cells #[.string fnm, .int .i64 fa, .int .i64 fr, .slice pb nb cb] 41)).alloc (.cells #[.int .u8 9, .int .i64 d, .int .i64 a, .int .i64 b, .int .u32 n, .int .i64 f, .slice pa args.length ca, .int .i64 l1, .int .i64 l2] 44)).frozen? ⟨((w.alloc (.cells #[.int .i64 hp, .slice pt nt ct, .slice pf fs.length cf] 25)).alloc (.cells #[.string fnm, .int .i64 fa, .int .i64 fr, .slice pb nb cb] 41)).heap.size, 6, none⟩ = false from free_of_obj (heap_alloc_new _ _))
    simp only [World.size_alloc] at HBI HBF HBP HFZ
    go_enter Try.func62, Try.ntmps62
    obtain ⟨blt, b0, _, _, _, _, _, _, _, _⟩ := HBI.out
    simp only at b0
    go_wp2_with fail
    clear blt b0
    generalize (((w.alloc (.cells #[.int .i64 hp, .slice pt nt ct, .slice pf fs.length cf] 25)).alloc (.cells #[.string fnm, .int .i64 fa, .int .i64 fr, .slice pb nb cb] 41)).alloc (.cells #[.int .u8 9, .int .i64 d, .int .i64 a, .int .i64 b, .int .u32 n, .int .i64 f, .slice pa args.length ca, .int .i64 l1, .int .i64 l2] 44)) = W at *
    have HKS : Hid (∀ w', Below W.heap.size W w' →  w'.cell? ⟨w.heap.size + 1 + 1, 0, none⟩ = some (.int .u8 9) ∧ w'.cell? ⟨w.heap.size + 1 + 1, 1, none⟩ = some (.int .i64 d) ∧ w'.cell? ⟨w.heap.size + 1 + 1, 2, none⟩ = some (.int .i64 a) ∧ w'.cell? ⟨w.heap.size + 1 + 1, 3, none⟩ = some (.int .i64 b) ∧ w'.cell? ⟨w.heap.size + 1 + 1, 4, none⟩ = some (.int .u32 n) ∧ w'.cell? ⟨w.heap.size + 1 + 1, 5, none⟩ = some (.int .i64 f) ∧ w'.cell? ⟨w.heap.size + 1 + 1, 6, none⟩ = some (.slice pa args.length ca) ∧ w'.cell? ⟨w.heap.size + 1 + 1, 7, none⟩ = some (.int .i64 l1) ∧ w'.cell? ⟨w.heap.size + 1 + 1, 8, none⟩ = some (.int .i64 l2)) := shid fun w' hb => by
      obtain ⟨_, b0, b1, b2, b3, b4, b5, b6, b7, b8⟩ := HBI.out.keep hb
      exact ⟨b0, b1, b2, b3, b4, b5, b6, b7, b8⟩
    have hle : W.heap.size ≤ W.heap.size := Nat.le_refl _
    have hwl := HBI.out.lt
    go_region_held3 (fun w' => w'.cell? ⟨w.heap.size + 1 + 1, 0, none⟩ = some (.int .u8 9) ∧ w'.cell? ⟨w.heap.size + 1 + 1, 1, none⟩ = some (.int .i64 d) ∧ w'.cell? ⟨w.heap.size + 1 + 1, 2, none⟩ = some (.int .i64 a) ∧ w'.cell? ⟨w.heap.size + 1 + 1, 3, none⟩ = some (.int .i64 b) ∧ w'.cell? ⟨w.heap.size + 1 + 1, 4, none⟩ = some (.int .u32 n) ∧ w'.cell? ⟨w.heap.size + 1 + 1, 5, none⟩ = some (.int .i64 f) ∧ w'.cell? ⟨w.heap.size + 1 + 1, 6, none⟩ = some (.slice pa args.length ca) ∧ w'.cell? ⟨w.heap.size + 1 + 1, 7, none⟩ = some (.int .i64 l1) ∧ w'.cell? ⟨w.heap.size + 1 + 1, 8, none⟩ = some (.int .i64 l2)) (first | (with_reducible exact HKS.out _ hb9) | (with_reducible exact HKS.out _ hb4) | (refine HKS.out _ ?_; first | assumption | (go_grown; done)))
      (first
        | (go_at_call 75; (with_reducible refine (HBA.out (W.alloc (.cells #[.int .u8 0, .int .i64 0, .int .i64 0, .int .i64 0, .int .u32 0, .int .i64 0, .slice none 0 0, .int .i64 0, .int .i64 0] 44)).drew).mono ?_); rintro e w4 ⟨rfl, hb40⟩; have hb4 : Below W.heap.size W w4 := sbt (al1 W (.cells #[.int .u8 0, .int .i64 0, .int .i64 0, .int .i64 0, .int .u32 0, .int .i64 0, .slice none 0 0, .int .i64 0, .int .i64 0] 44)).drew hb40; have hle4 : W.heap.size ≤ w4.heap.size := hb4.size; have hgz := zrow hb40; obtain ⟨zl, z0, z1, z2, z3, z4, z5, z6, z7, z8, y0, y1, y2, y3, y4, y5, y6, y7, y8⟩ := ((ZBox.new W 44).keep ((Below.refl _ _).drew)).keep hb40; have hb9 := (((((((((hb4.setCell (p := ⟨W.heap.size, 0, none⟩) (Nat.le_refl _) (.int .u8 9)).setCell (p := ⟨W.heap.size, 1, none⟩) (Nat.le_refl _) (.int .i64 d)).setCell (p := ⟨W.heap.size, 2, none⟩) (Nat.le_refl _) (.int .i64 a)).setCell (p := ⟨W.heap.size, 3, none⟩) (Nat.le_refl _) (.int .i64 b)).setCell (p := ⟨W.heap.size, 4, none⟩) (Nat.le_refl _) (.int .u32 n)).setCell (p := ⟨W.heap.size, 5, none⟩) (Nat.le_refl _) (.int .i64 f)).setCell (p := ⟨W.heap.size, 6, none⟩) (Nat.le_refl _) (.slice none 0 0)).setCell (p := ⟨W.heap.size, 7, none⟩) (Nat.le_refl _) (.int .i64 l1)).setCell (p := ⟨W.heap.size, 8, none⟩) (Nat.le_refl _) (.int .i64 l2)))
        | (go_at_call 75; (with_reducible refine (HBA.out _).mono ?_); rintro e w4 ⟨rfl, hb40⟩; have hb4 : Below W.heap.size W w4 := sbt ((Below.refl _ _).drew) hb40; have hle4 : W.heap.size ≤ w4.heap.size := hb4.size))
    · have HB5 := shid (IBox.of_obj (heap_alloc_new w4 (.cells #[.int .u8 9, .int .i64 d, .int .i64 a, .int .i64 b, .int .u32 n, .int .i64 f, .slice none 0 0, .int .i64 l1, .int .i64 l2] 44)))
      have HGT := shid (show w.heap.size + 1 + 1 < w4.heap.size from Nat.lt_of_lt_of_le HBI.out.lt hle4)
      have HBW := shid (sbt hb4 (al1 w4 (.cells #[.int .u8 9, .int .i64 d, .int .i64 a, .int .i64 b, .int .u32 n, .int .i64 f, .slice none 0 0, .int .i64 l1, .int .i64 l2] 44)))
      clear hb4 hb40 hle4 hwl
      generalize w4.alloc (.cells #[.int .u8 9, .int .i64 d, .int .i64 a, .int .i64 b, .int .u32 n, .int .i64 f, .slice none 0 0, .int .i64 l1, .int .i64 l2] 44) = W5 at *
      generalize hGg : w4.heap.size = G at HB5 HGT ⊢
      have HWE := shid ((sbt HWA.out HBW.out).setCell (p := ⟨w.heap.size + 1 + 1, 6, none⟩) (by show w.heap.size ≤ w.heap.size + 1 + 1; omega) (.slice none 0 0))
      have HI6 := shid ((HBI.out.keep HBW.out).nil (.slice none 0 0))
      have HF6 := shid ((HBF.out.keep HBW.out).far (p := ⟨w.heap.size + 1 + 1, 6, none⟩) (show w.heap.size + 1 + 1 ≠ w.heap.size + 1 by omega) (.slice none 0 0))
      have HP6 := shid ((HBP.out.keep HBW.out).far (p := ⟨w.heap.size + 1 + 1, 6, none⟩) (show w.heap.size + 1 + 1 ≠ w.heap.size by omega) (.slice none 0 0))
      have hgt := HGT.out
      have HB6 := shid (HB5.out.far (p := ⟨w.heap.size + 1 + 1, 6, none⟩) (show w.heap.size + 1 + 1 ≠ G by omega) (.slice none 0 0))
      have fz : W5.frozen? ⟨w.heap.size + 1 + 1, 6, none⟩ = false := (HBW.out.frozen (p := ⟨w.heap.size + 1 + 1, 6, none⟩) HBI.out.lt).trans HFZ.out
      have c6 := (HBI.out.keep HBW.out).c6
      clear HBI HBF HBP HFZ HKS hle HWA HBW hGg HB5
      obtain ⟨_, x0, x1, x2, x3, x4, x5, x6, x7, x8⟩ := HI6.out
      obtain ⟨_, g0, g1, g2, g3, g4, g5, g6, g7, g8⟩ := HB6.out
      simp only at x0 x1 x2 x3 x4 x5 x7 x8 g0 g1 g2 g3 g4 g5 g7 g8
      go_wp2_with fail
      all_goals
        go_ret
        refine ⟨congrArg (fun b => Ending.returned (.bool b)) (?_ : _ = decide (insF fs nb 9 d a b n f args l1 l2)), HWE.out⟩
        refine (decide_eq_false (fun hh => ?_)).symm
        exact HM.out ⟨hh.2.2.1, hh.2.2.2.1, hh.2.2.2.2.1⟩
    · have HB5 := shid (ZBox.put ⟨zl, z0, z1, z2, z3, z4, z5, z6, z7, z8, y0, y1, y2, y3, y4, y5, y6, y7, y8⟩ 9 d a b n f l1 l2)
      have HGT := shid (show w.heap.size + 1 + 1 < W.heap.size from HBI.out.lt)
      have HBW := shid hb9
      clear zl z0 z1 z2 z3 z4 z5 z6 z7 z8 y0 y1 y2 y3 y4 y5 y6 y7 y8 hb9 hgz hb4 hb40 hle4 hwl
      generalize (((((((((w4.setCell ⟨W.heap.size, 0, none⟩ (.int .u8 9)).setCell ⟨W.heap.size, 1, none⟩ (.int .i64 d)).setCell ⟨W.heap.size, 2, none⟩ (.int .i64 a)).setCell ⟨W.heap.size, 3, none⟩ (.int .i64 b)).setCell ⟨W.heap.size, 4, none⟩ (.int .u32 n)).setCell ⟨W.heap.size, 5, none⟩ (.int .i64 f)).setCell ⟨W.heap.size, 6, none⟩ (.slice none 0 0)).setCell ⟨W.heap.size, 7, none⟩ (.int .i64 l1)).setCell ⟨W.heap.size, 8, none⟩ (.int .i64 l2)) = W5 at *
      generalize hGg : W.heap.size = G at HB5 HGT ⊢
      have HWE := shid ((sbt HWA.out HBW.out).setCell (p := ⟨w.heap.size + 1 + 1, 6, none⟩) (by show w.heap.size ≤ w.heap.size + 1 + 1; omega) (.slice none 0 0))
      have HI6 := shid ((HBI.out.keep HBW.out).nil (.slice none 0 0))
      have HF6 := shid ((HBF.out.keep HBW.out).far (p := ⟨w.heap.size + 1 + 1, 6, none⟩) (show w.heap.size + 1 + 1 ≠ w.heap.size + 1 by omega) (.slice none 0 0))
      have HP6 := shid ((HBP.out.keep HBW.out).far (p := ⟨w.heap.size + 1 + 1, 6, none⟩) (show w.heap.size + 1 + 1 ≠ w.heap.size by omega) (.slice none 0 0))
      have hgt := HGT.out
      have HB6 := shid (HB5.out.far (p := ⟨w.heap.size + 1 + 1, 6, none⟩) (show w.heap.size + 1 + 1 ≠ G by omega) (.slice none 0 0))
      have fz : W5.frozen? ⟨w.heap.size + 1 + 1, 6, none⟩ = false := (HBW.out.frozen (p := ⟨w.heap.size + 1 + 1, 6, none⟩) HBI.out.lt).trans HFZ.out
      have c6 := (HBI.out.keep HBW.out).c6
      clear HBI HBF HBP HFZ HKS hle HWA HBW hGg HB5
      obtain ⟨_, x0, x1, x2, x3, x4, x5, x6, x7, x8⟩ := HI6.out
      obtain ⟨_, g0, g1, g2, g3, g4, g5, g6, g7, g8⟩ := HB6.out
      simp only at x0 x1 x2 x3 x4 x5 x7 x8 g0 g1 g2 g3 g4 g5 g7 g8
      go_wp2_with fail
      all_goals
        go_ret
        refine ⟨congrArg (fun b => Ending.returned (.bool b)) (?_ : _ = decide (insF fs nb 9 d a b n f args l1 l2)), HWE.out⟩
        refine (decide_eq_false (fun hh => ?_)).symm
        exact HM.out ⟨hh.2.2.1, hh.2.2.2.1, hh.2.2.2.2.1⟩
  have hm : decide ((if b < (if a < d then a else d) then b else (if a < d then a else d)) < 0) = false := decide_eq_false (by split <;> split at * <;> omega)
  have HM := shid hmin
  clear hmin
  by_cases hneg : anyNeg args = true
  case pos =>
    have HCN' := shid (fun W hb => by have h := HCN.out W hb; rw [hneg] at h; exact h)
    have HN : Hid (∃ y ∈ args, y < 0) := shid (by unfold anyNeg at hneg; simpa using hneg)
    clear hneg HCN HKF
    have HWA := shid (al3 w (.cells #[.int .i64 hp, .slice pt nt ct, .slice pf fs.length cf] 25) (.cells #[.string fnm, .int .i64 fa, .int .i64 fr, .slice pb nb cb] 41) (.cells #[.int .u8 9, .int .i64 d, .int .i64 a, .int .i64 b, .int .u32 n, .int .i64 f, .slice pa args.length ca, .int .i64 l1, .int .i64 l2] 44))
    have HBI := shid (Ibox_of ((w.alloc (.cells #[.int .i64 hp, .slice pt nt ct, .slice pf fs.length cf] 25)).alloc (.cells #[.string fnm, .int .i64 fa, .int .i64 fr, .slice pb nb cb] 41)) 9 d a b n f (.slice pa args.length ca) l1 l2 44)
    have HBF := shid ((FBox.new (w.alloc (.cells #[.int .i64 hp, .slice pt nt ct, .slice pf fs.length cf] 25)) fnm fa fr (.slice pb nb cb) 41).keep (al1 _ (.cells #[.int .u8 9, .int .i64 d, .int .i64 a, .int .i64 b, .int .u32 n, .int .i64 f, .slice pa args.length ca, .int .i64 l1, .int .i64 l2] 44)))
    have HBP := shid ((PBox.new w hp (.slice pt nt ct) (.slice pf fs.length cf) 25).keep (al2 _ (.cells #[.string fnm, .int .i64 fa, .int .i64 fr, .slice pb nb cb] 41) (.cells #[.int .u8 9, .int .i64 d, .int .i64 a, .int .i64 b, .int .u32 n, .int .i64 f, .slice pa args.length ca, .int .i64 l1, .int .i64 l2] 44)))
    have HFZ := shid (show (((w.alloc (.cells #[.int .i64 hp, .slice pt nt ct, .slice pf fs.length cf] 25)).alloc (.cells #[.string fnm, .int .i64 fa, .int .i64 fr, .slice pb nb cb] 41)).alloc (.cells #[.int .u8 9, .int .i64 d, .int .i64 a, .int .i64 b, .int .u32 n, .int .i64 f, .slice pa args.length ca, .int .i64 l1, .int .i64 l2] 44)).frozen? ⟨((w.alloc (.cells #[.int .i64 hp, .slice pt nt ct, .slice pf fs.length cf] 25)).alloc (.cells #[.string fnm, .int .i64 fa, .int .i64 fr, .slice pb nb cb] 41)).heap.size, 6, none⟩ = false from free_of_obj (heap_alloc_new _ _))
    simp only [World.size_alloc] at HBI HBF HBP HFZ
    go_enter Try.func62, Try.ntmps62
    obtain ⟨blt, b0, _, _, _, _, _, _, _, _⟩ := HBI.out
    simp only at b0
    go_wp2_with fail
    clear blt b0
    generalize (((w.alloc (.cells #[.int .i64 hp, .slice pt nt ct, .slice pf fs.length cf] 25)).alloc (.cells #[.string fnm, .int .i64 fa, .int .i64 fr, .slice pb nb cb] 41)).alloc (.cells #[.int .u8 9, .int .i64 d, .int .i64 a, .int .i64 b, .int .u32 n, .int .i64 f, .slice pa args.length ca, .int .i64 l1, .int .i64 l2] 44)) = W at *
    have HKS : Hid (∀ w', Below W.heap.size W w' →  w'.cell? ⟨w.heap.size + 1 + 1, 0, none⟩ = some (.int .u8 9) ∧ w'.cell? ⟨w.heap.size + 1 + 1, 1, none⟩ = some (.int .i64 d) ∧ w'.cell? ⟨w.heap.size + 1 + 1, 2, none⟩ = some (.int .i64 a) ∧ w'.cell? ⟨w.heap.size + 1 + 1, 3, none⟩ = some (.int .i64 b) ∧ w'.cell? ⟨w.heap.size + 1 + 1, 4, none⟩ = some (.int .u32 n) ∧ w'.cell? ⟨w.heap.size + 1 + 1, 5, none⟩ = some (.int .i64 f) ∧ w'.cell? ⟨w.heap.size + 1 + 1, 6, none⟩ = some (.slice pa args.length ca) ∧ w'.cell? ⟨w.heap.size + 1 + 1, 7, none⟩ = some (.int .i64 l1) ∧ w'.cell? ⟨w.heap.size + 1 + 1, 8, none⟩ = some (.int .i64 l2)) := shid fun w' hb => by
      obtain ⟨_, b0, b1, b2, b3, b4, b5, b6, b7, b8⟩ := HBI.out.keep hb
      exact ⟨b0, b1, b2, b3, b4, b5, b6, b7, b8⟩
    have hle : W.heap.size ≤ W.heap.size := Nat.le_refl _
    have hwl := HBI.out.lt
    go_region_held3 (fun w' => w'.cell? ⟨w.heap.size + 1 + 1, 0, none⟩ = some (.int .u8 9) ∧ w'.cell? ⟨w.heap.size + 1 + 1, 1, none⟩ = some (.int .i64 d) ∧ w'.cell? ⟨w.heap.size + 1 + 1, 2, none⟩ = some (.int .i64 a) ∧ w'.cell? ⟨w.heap.size + 1 + 1, 3, none⟩ = some (.int .i64 b) ∧ w'.cell? ⟨w.heap.size + 1 + 1, 4, none⟩ = some (.int .u32 n) ∧ w'.cell? ⟨w.heap.size + 1 + 1, 5, none⟩ = some (.int .i64 f) ∧ w'.cell? ⟨w.heap.size + 1 + 1, 6, none⟩ = some (.slice pa args.length ca) ∧ w'.cell? ⟨w.heap.size + 1 + 1, 7, none⟩ = some (.int .i64 l1) ∧ w'.cell? ⟨w.heap.size + 1 + 1, 8, none⟩ = some (.int .i64 l2)) (first | (with_reducible exact HKS.out _ hb9) | (with_reducible exact HKS.out _ hb4) | (refine HKS.out _ ?_; first | assumption | (go_grown; done)))
      (first
        | (go_at_call 75; (with_reducible refine (HBA.out (W.alloc (.cells #[.int .u8 0, .int .i64 0, .int .i64 0, .int .i64 0, .int .u32 0, .int .i64 0, .slice none 0 0, .int .i64 0, .int .i64 0] 44)).drew).mono ?_); rintro e w4 ⟨rfl, hb40⟩; have hb4 : Below W.heap.size W w4 := sbt (al1 W (.cells #[.int .u8 0, .int .i64 0, .int .i64 0, .int .i64 0, .int .u32 0, .int .i64 0, .slice none 0 0, .int .i64 0, .int .i64 0] 44)).drew hb40; have hle4 : W.heap.size ≤ w4.heap.size := hb4.size; have hgz := zrow hb40; obtain ⟨zl, z0, z1, z2, z3, z4, z5, z6, z7, z8, y0, y1, y2, y3, y4, y5, y6, y7, y8⟩ := ((ZBox.new W 44).keep ((Below.refl _ _).drew)).keep hb40; have hb9 := (((((((((hb4.setCell (p := ⟨W.heap.size, 0, none⟩) (Nat.le_refl _) (.int .u8 9)).setCell (p := ⟨W.heap.size, 1, none⟩) (Nat.le_refl _) (.int .i64 d)).setCell (p := ⟨W.heap.size, 2, none⟩) (Nat.le_refl _) (.int .i64 a)).setCell (p := ⟨W.heap.size, 3, none⟩) (Nat.le_refl _) (.int .i64 b)).setCell (p := ⟨W.heap.size, 4, none⟩) (Nat.le_refl _) (.int .u32 n)).setCell (p := ⟨W.heap.size, 5, none⟩) (Nat.le_refl _) (.int .i64 f)).setCell (p := ⟨W.heap.size, 6, none⟩) (Nat.le_refl _) (.slice none 0 0)).setCell (p := ⟨W.heap.size, 7, none⟩) (Nat.le_refl _) (.int .i64 l1)).setCell (p := ⟨W.heap.size, 8, none⟩) (Nat.le_refl _) (.int .i64 l2)))
        | (go_at_call 75; (with_reducible refine (HBA.out _).mono ?_); rintro e w4 ⟨rfl, hb40⟩; have hb4 : Below W.heap.size W w4 := sbt ((Below.refl _ _).drew) hb40; have hle4 : W.heap.size ≤ w4.heap.size := hb4.size))
    · have HB5 := shid (IBox.of_obj (heap_alloc_new w4 (.cells #[.int .u8 9, .int .i64 d, .int .i64 a, .int .i64 b, .int .u32 n, .int .i64 f, .slice none 0 0, .int .i64 l1, .int .i64 l2] 44)))
      have HGT := shid (show w.heap.size + 1 + 1 < w4.heap.size from Nat.lt_of_lt_of_le HBI.out.lt hle4)
      have HBW := shid (sbt hb4 (al1 w4 (.cells #[.int .u8 9, .int .i64 d, .int .i64 a, .int .i64 b, .int .u32 n, .int .i64 f, .slice none 0 0, .int .i64 l1, .int .i64 l2] 44)))
      clear hb4 hb40 hle4 hwl
      generalize w4.alloc (.cells #[.int .u8 9, .int .i64 d, .int .i64 a, .int .i64 b, .int .u32 n, .int .i64 f, .slice none 0 0, .int .i64 l1, .int .i64 l2] 44) = W5 at *
      generalize hGg : w4.heap.size = G at HB5 HGT ⊢
      have HWE := shid ((sbt HWA.out HBW.out).setCell (p := ⟨w.heap.size + 1 + 1, 6, none⟩) (by show w.heap.size ≤ w.heap.size + 1 + 1; omega) (.slice none 0 0))
      have HI6 := shid ((HBI.out.keep HBW.out).nil (.slice none 0 0))
      have HF6 := shid ((HBF.out.keep HBW.out).far (p := ⟨w.heap.size + 1 + 1, 6, none⟩) (show w.heap.size + 1 + 1 ≠ w.heap.size + 1 by omega) (.slice none 0 0))
      have HP6 := shid ((HBP.out.keep HBW.out).far (p := ⟨w.heap.size + 1 + 1, 6, none⟩) (show w.heap.size + 1 + 1 ≠ w.heap.size by omega) (.slice none 0 0))
      have hgt := HGT.out
      have HB6 := shid (HB5.out.far (p := ⟨w.heap.size + 1 + 1, 6, none⟩) (show w.heap.size + 1 + 1 ≠ G by omega) (.slice none 0 0))
      have fz : W5.frozen? ⟨w.heap.size + 1 + 1, 6, none⟩ = false := (HBW.out.frozen (p := ⟨w.heap.size + 1 + 1, 6, none⟩) HBI.out.lt).trans HFZ.out
      have c6 := (HBI.out.keep HBW.out).c6
      clear HBI HBF HBP HFZ HKS hle HWA HBW hGg HB5
      obtain ⟨_, x0, x1, x2, x3, x4, x5, x6, x7, x8⟩ := HI6.out
      obtain ⟨_, g0, g1, g2, g3, g4, g5, g6, g7, g8⟩ := HB6.out
      simp only at x0 x1 x2 x3 x4 x5 x7 x8 g0 g1 g2 g3 g4 g5 g7 g8
      go_wp2_with (go_at_call 54; (with_reducible refine (HCN'.out _ HWE.out).mono ?_); rintro e w6 ⟨rfl, rfl⟩)
      all_goals
        go_ret
        refine ⟨congrArg (fun b => Ending.returned (.bool b)) (?_ : _ = decide (insF fs nb 9 d a b n f args l1 l2)), HWE.out⟩
        refine (decide_eq_false (fun hh => ?_)).symm
        obtain ⟨y, hy, hn⟩ := HN.out
        have := hh.2.2.2.2.2.1 y hy
        omega
    · have HB5 := shid (ZBox.put ⟨zl, z0, z1, z2, z3, z4, z5, z6, z7, z8, y0, y1, y2, y3, y4, y5, y6, y7, y8⟩ 9 d a b n f l1 l2)
      have HGT := shid (show w.heap.size + 1 + 1 < W.heap.size from HBI.out.lt)
      have HBW := shid hb9
      clear zl z0 z1 z2 z3 z4 z5 z6 z7 z8 y0 y1 y2 y3 y4 y5 y6 y7 y8 hb9 hgz hb4 hb40 hle4 hwl
      generalize (((((((((w4.setCell ⟨W.heap.size, 0, none⟩ (.int .u8 9)).setCell ⟨W.heap.size, 1, none⟩ (.int .i64 d)).setCell ⟨W.heap.size, 2, none⟩ (.int .i64 a)).setCell ⟨W.heap.size, 3, none⟩ (.int .i64 b)).setCell ⟨W.heap.size, 4, none⟩ (.int .u32 n)).setCell ⟨W.heap.size, 5, none⟩ (.int .i64 f)).setCell ⟨W.heap.size, 6, none⟩ (.slice none 0 0)).setCell ⟨W.heap.size, 7, none⟩ (.int .i64 l1)).setCell ⟨W.heap.size, 8, none⟩ (.int .i64 l2)) = W5 at *
      generalize hGg : W.heap.size = G at HB5 HGT ⊢
      have HWE := shid ((sbt HWA.out HBW.out).setCell (p := ⟨w.heap.size + 1 + 1, 6, none⟩) (by show w.heap.size ≤ w.heap.size + 1 + 1; omega) (.slice none 0 0))
      have HI6 := shid ((HBI.out.keep HBW.out).nil (.slice none 0 0))
      have HF6 := shid ((HBF.out.keep HBW.out).far (p := ⟨w.heap.size + 1 + 1, 6, none⟩) (show w.heap.size + 1 + 1 ≠ w.heap.size + 1 by omega) (.slice none 0 0))
      have HP6 := shid ((HBP.out.keep HBW.out).far (p := ⟨w.heap.size + 1 + 1, 6, none⟩) (show w.heap.size + 1 + 1 ≠ w.heap.size by omega) (.slice none 0 0))
      have hgt := HGT.out
      have HB6 := shid (HB5.out.far (p := ⟨w.heap.size + 1 + 1, 6, none⟩) (show w.heap.size + 1 + 1 ≠ G by omega) (.slice none 0 0))
      have fz : W5.frozen? ⟨w.heap.size + 1 + 1, 6, none⟩ = false := (HBW.out.frozen (p := ⟨w.heap.size + 1 + 1, 6, none⟩) HBI.out.lt).trans HFZ.out
      have c6 := (HBI.out.keep HBW.out).c6
      clear HBI HBF HBP HFZ HKS hle HWA HBW hGg HB5
      obtain ⟨_, x0, x1, x2, x3, x4, x5, x6, x7, x8⟩ := HI6.out
      obtain ⟨_, g0, g1, g2, g3, g4, g5, g6, g7, g8⟩ := HB6.out
      simp only at x0 x1 x2 x3 x4 x5 x7 x8 g0 g1 g2 g3 g4 g5 g7 g8
      go_wp2_with (go_at_call 54; (with_reducible refine (HCN'.out _ HWE.out).mono ?_); rintro e w6 ⟨rfl, rfl⟩)
      all_goals
        go_ret
        refine ⟨congrArg (fun b => Ending.returned (.bool b)) (?_ : _ = decide (insF fs nb 9 d a b n f args l1 l2)), HWE.out⟩
        refine (decide_eq_false (fun hh => ?_)).symm
        obtain ⟨y, hy, hn⟩ := HN.out
        have := hh.2.2.2.2.2.1 y hy
        omega
  have HCN' := shid (fun W hb => by have h := HCN.out W hb; rw [Bool.eq_false_iff.2 hneg] at h; exact h)
  have HN : Hid (∀ y ∈ args, 0 ≤ y) := shid (by unfold anyNeg at hneg; simpa using hneg)
  clear hneg HCN
  have HWA := shid (al3 w (.cells #[.int .i64 hp, .slice pt nt ct, .slice pf fs.length cf] 25) (.cells #[.string fnm, .int .i64 fa, .int .i64 fr, .slice pb nb cb] 41) (.cells #[.int .u8 9, .int .i64 d, .int .i64 a, .int .i64 b, .int .u32 n, .int .i64 f, .slice pa args.length ca, .int .i64 l1, .int .i64 l2] 44))
  have HBI := shid (Ibox_of ((w.alloc (.cells #[.int .i64 hp, .slice pt nt ct, .slice pf fs.length cf] 25)).alloc (.cells #[.string fnm, .int .i64 fa, .int .i64 fr, .slice pb nb cb] 41)) 9 d a b n f (.slice pa args.length ca) l1 l2 44)
  have HBF := shid ((FBox.new (w.alloc (.cells #[.int .i64 hp, .slice pt nt ct, .slice pf fs.length cf] 25)) fnm fa fr (.slice pb nb cb) 41).keep (al1 _ (.cells #[.int .u8 9, .int .i64 d, .int .i64 a, .int .i64 b, .int .u32 n, .int .i64 f, .slice pa args.length ca, .int .i64 l1, .int .i64 l2] 44)))
  have HBP := shid ((PBox.new w hp (.slice pt nt ct) (.slice pf fs.length cf) 25).keep (al2 _ (.cells #[.string fnm, .int .i64 fa, .int .i64 fr, .slice pb nb cb] 41) (.cells #[.int .u8 9, .int .i64 d, .int .i64 a, .int .i64 b, .int .u32 n, .int .i64 f, .slice pa args.length ca, .int .i64 l1, .int .i64 l2] 44)))
  have HFZ := shid (show (((w.alloc (.cells #[.int .i64 hp, .slice pt nt ct, .slice pf fs.length cf] 25)).alloc (.cells #[.string fnm, .int .i64 fa, .int .i64 fr, .slice pb nb cb] 41)).alloc (.cells #[.int .u8 9, .int .i64 d, .int .i64 a, .int .i64 b, .int .u32 n, .int .i64 f, .slice pa args.length ca, .int .i64 l1, .int .i64 l2] 44)).frozen? ⟨((w.alloc (.cells #[.int .i64 hp, .slice pt nt ct, .slice pf fs.length cf] 25)).alloc (.cells #[.string fnm, .int .i64 fa, .int .i64 fr, .slice pb nb cb] 41)).heap.size, 6, none⟩ = false from free_of_obj (heap_alloc_new _ _))
  simp only [World.size_alloc] at HBI HBF HBP HFZ
  go_enter Try.func62, Try.ntmps62
  obtain ⟨blt, b0, _, _, _, _, _, _, _, _⟩ := HBI.out
  simp only at b0
  go_wp2_with fail
  clear blt b0
  generalize (((w.alloc (.cells #[.int .i64 hp, .slice pt nt ct, .slice pf fs.length cf] 25)).alloc (.cells #[.string fnm, .int .i64 fa, .int .i64 fr, .slice pb nb cb] 41)).alloc (.cells #[.int .u8 9, .int .i64 d, .int .i64 a, .int .i64 b, .int .u32 n, .int .i64 f, .slice pa args.length ca, .int .i64 l1, .int .i64 l2] 44)) = W at *
  have HKS : Hid (∀ w', Below W.heap.size W w' →  w'.cell? ⟨w.heap.size + 1 + 1, 0, none⟩ = some (.int .u8 9) ∧ w'.cell? ⟨w.heap.size + 1 + 1, 1, none⟩ = some (.int .i64 d) ∧ w'.cell? ⟨w.heap.size + 1 + 1, 2, none⟩ = some (.int .i64 a) ∧ w'.cell? ⟨w.heap.size + 1 + 1, 3, none⟩ = some (.int .i64 b) ∧ w'.cell? ⟨w.heap.size + 1 + 1, 4, none⟩ = some (.int .u32 n) ∧ w'.cell? ⟨w.heap.size + 1 + 1, 5, none⟩ = some (.int .i64 f) ∧ w'.cell? ⟨w.heap.size + 1 + 1, 6, none⟩ = some (.slice pa args.length ca) ∧ w'.cell? ⟨w.heap.size + 1 + 1, 7, none⟩ = some (.int .i64 l1) ∧ w'.cell? ⟨w.heap.size + 1 + 1, 8, none⟩ = some (.int .i64 l2)) := shid fun w' hb => by
    obtain ⟨_, b0, b1, b2, b3, b4, b5, b6, b7, b8⟩ := HBI.out.keep hb
    exact ⟨b0, b1, b2, b3, b4, b5, b6, b7, b8⟩
  have hle : W.heap.size ≤ W.heap.size := Nat.le_refl _
  have hwl := HBI.out.lt
  go_region_held3 (fun w' => w'.cell? ⟨w.heap.size + 1 + 1, 0, none⟩ = some (.int .u8 9) ∧ w'.cell? ⟨w.heap.size + 1 + 1, 1, none⟩ = some (.int .i64 d) ∧ w'.cell? ⟨w.heap.size + 1 + 1, 2, none⟩ = some (.int .i64 a) ∧ w'.cell? ⟨w.heap.size + 1 + 1, 3, none⟩ = some (.int .i64 b) ∧ w'.cell? ⟨w.heap.size + 1 + 1, 4, none⟩ = some (.int .u32 n) ∧ w'.cell? ⟨w.heap.size + 1 + 1, 5, none⟩ = some (.int .i64 f) ∧ w'.cell? ⟨w.heap.size + 1 + 1, 6, none⟩ = some (.slice pa args.length ca) ∧ w'.cell? ⟨w.heap.size + 1 + 1, 7, none⟩ = some (.int .i64 l1) ∧ w'.cell? ⟨w.heap.size + 1 + 1, 8, none⟩ = some (.int .i64 l2)) (first | (with_reducible exact HKS.out _ hb9) | (with_reducible exact HKS.out _ hb4) | (refine HKS.out _ ?_; first | assumption | (go_grown; done)))
    (first
      | (go_at_call 75; (with_reducible refine (HBA.out (W.alloc (.cells #[.int .u8 0, .int .i64 0, .int .i64 0, .int .i64 0, .int .u32 0, .int .i64 0, .slice none 0 0, .int .i64 0, .int .i64 0] 44)).drew).mono ?_); rintro e w4 ⟨rfl, hb40⟩; have hb4 : Below W.heap.size W w4 := sbt (al1 W (.cells #[.int .u8 0, .int .i64 0, .int .i64 0, .int .i64 0, .int .u32 0, .int .i64 0, .slice none 0 0, .int .i64 0, .int .i64 0] 44)).drew hb40; have hle4 : W.heap.size ≤ w4.heap.size := hb4.size; have hgz := zrow hb40; obtain ⟨zl, z0, z1, z2, z3, z4, z5, z6, z7, z8, y0, y1, y2, y3, y4, y5, y6, y7, y8⟩ := ((ZBox.new W 44).keep ((Below.refl _ _).drew)).keep hb40; have hb9 := (((((((((hb4.setCell (p := ⟨W.heap.size, 0, none⟩) (Nat.le_refl _) (.int .u8 9)).setCell (p := ⟨W.heap.size, 1, none⟩) (Nat.le_refl _) (.int .i64 d)).setCell (p := ⟨W.heap.size, 2, none⟩) (Nat.le_refl _) (.int .i64 a)).setCell (p := ⟨W.heap.size, 3, none⟩) (Nat.le_refl _) (.int .i64 b)).setCell (p := ⟨W.heap.size, 4, none⟩) (Nat.le_refl _) (.int .u32 n)).setCell (p := ⟨W.heap.size, 5, none⟩) (Nat.le_refl _) (.int .i64 f)).setCell (p := ⟨W.heap.size, 6, none⟩) (Nat.le_refl _) (.slice none 0 0)).setCell (p := ⟨W.heap.size, 7, none⟩) (Nat.le_refl _) (.int .i64 l1)).setCell (p := ⟨W.heap.size, 8, none⟩) (Nat.le_refl _) (.int .i64 l2)))
      | (go_at_call 75; (with_reducible refine (HBA.out _).mono ?_); rintro e w4 ⟨rfl, hb40⟩; have hb4 : Below W.heap.size W w4 := sbt ((Below.refl _ _).drew) hb40; have hle4 : W.heap.size ≤ w4.heap.size := hb4.size))
  · have HB5 := shid (IBox.of_obj (heap_alloc_new w4 (.cells #[.int .u8 9, .int .i64 d, .int .i64 a, .int .i64 b, .int .u32 n, .int .i64 f, .slice none 0 0, .int .i64 l1, .int .i64 l2] 44)))
    have HGT := shid (show w.heap.size + 1 + 1 < w4.heap.size from Nat.lt_of_lt_of_le HBI.out.lt hle4)
    have HBW := shid (sbt hb4 (al1 w4 (.cells #[.int .u8 9, .int .i64 d, .int .i64 a, .int .i64 b, .int .u32 n, .int .i64 f, .slice none 0 0, .int .i64 l1, .int .i64 l2] 44)))
    clear hb4 hb40 hle4 hwl
    generalize w4.alloc (.cells #[.int .u8 9, .int .i64 d, .int .i64 a, .int .i64 b, .int .u32 n, .int .i64 f, .slice none 0 0, .int .i64 l1, .int .i64 l2] 44) = W5 at *
    generalize hGg : w4.heap.size = G at HB5 HGT ⊢
    have HWE := shid ((sbt HWA.out HBW.out).setCell (p := ⟨w.heap.size + 1 + 1, 6, none⟩) (by show w.heap.size ≤ w.heap.size + 1 + 1; omega) (.slice none 0 0))
    have HI6 := shid ((HBI.out.keep HBW.out).nil (.slice none 0 0))
    have HF6 := shid ((HBF.out.keep HBW.out).far (p := ⟨w.heap.size + 1 + 1, 6, none⟩) (show w.heap.size + 1 + 1 ≠ w.heap.size + 1 by omega) (.slice none 0 0))
    have HP6 := shid ((HBP.out.keep HBW.out).far (p := ⟨w.heap.size + 1 + 1, 6, none⟩) (show w.heap.size + 1 + 1 ≠ w.heap.size by omega) (.slice none 0 0))
    have hgt := HGT.out
    have HB6 := shid (HB5.out.far (p := ⟨w.heap.size + 1 + 1, 6, none⟩) (show w.heap.size + 1 + 1 ≠ G by omega) (.slice none 0 0))
    have fz : W5.frozen? ⟨w.heap.size + 1 + 1, 6, none⟩ = false := (HBW.out.frozen (p := ⟨w.heap.size + 1 + 1, 6, none⟩) HBI.out.lt).trans HFZ.out
    have c6 := (HBI.out.keep HBW.out).c6
    clear HBI HBF HBP HFZ HKS hle HWA HBW hGg HB5
    obtain ⟨_, x0, x1, x2, x3, x4, x5, x6, x7, x8⟩ := HI6.out
    obtain ⟨_, g0, g1, g2, g3, g4, g5, g6, g7, g8⟩ := HB6.out
    simp only at x0 x1 x2 x3 x4 x5 x7 x8 g0 g1 g2 g3 g4 g5 g7 g8
    obtain ⟨_, p0, p1, p2⟩ := HP6.out
    obtain ⟨_, f0, f1, f2, f3⟩ := HF6.out
    by_cases ha0 : (args.length : Int) = 0
    · have hab : ((args.length : Int) == 0) = true := by simpa using ha0
      have HL := shid ha0
      clear ha0
      by_cases k1 : 0 ≤ l1 ∧ l1 < nb
      · have HH1 : Hid (∀ W : World, Calls Try.prog 56 #[.int .i64 l1, .int .i64 (nb : Int)] W fun e w' => e = .returned (.bool true) ∧ W = w') := shid fun W => by have h := has_any l1 nb W; unfold hasB at h; rw [decide_eq_true k1] at h; exact h
        have K1 := shid k1
        clear k1
        by_cases k2 : 0 ≤ l2 ∧ l2 < nb
        · have HH2 : Hid (∀ W : World, Calls Try.prog 56 #[.int .i64 l2, .int .i64 (nb : Int)] W fun e w' => e = .returned (.bool true) ∧ W = w') := shid fun W => by have h := has_any l2 nb W; unfold hasB at h; rw [decide_eq_true k2] at h; exact h
          have K2 := shid k2
          clear k2
          go_wp2_with (first | (go_at_call 54; (with_reducible refine (HCN'.out _ HWE.out).mono ?_); rintro e w6 ⟨rfl, rfl⟩) | (go_at_call 56; (with_reducible refine (HH1.out _).mono ?_); rintro e w7 ⟨rfl, rfl⟩) | (go_at_call 56; (with_reducible refine (HH2.out _).mono ?_); rintro e w7 ⟨rfl, rfl⟩))
          all_goals
            go_ret
            refine ⟨congrArg (fun b => Ending.returned (.bool b)) (?_ : _ = decide (insF fs nb 9 d a b n f args l1 l2)), HWE.out⟩
            have h2 := HM.out
            have h3 := HL.out
            have h5 := K1.out
            have h6 := K2.out
            exact (decide_eq_true ⟨by omega, by have h4 := HE.out; unfold emptyF at h4 ⊢; omega, h2.1, h2.2.1, h2.2.2, HN.out, fun h => by omega, fun h => by omega, fun h => ⟨h5.1, h5.2, h6.1, h6.2⟩⟩).symm
        · have HH2 : Hid (∀ W : World, Calls Try.prog 56 #[.int .i64 l2, .int .i64 (nb : Int)] W fun e w' => e = .returned (.bool false) ∧ W = w') := shid fun W => by have h := has_any l2 nb W; unfold hasB at h; rw [decide_eq_false k2] at h; exact h
          have K2 := shid k2
          clear k2
          go_wp2_with (first | (go_at_call 54; (with_reducible refine (HCN'.out _ HWE.out).mono ?_); rintro e w6 ⟨rfl, rfl⟩) | (go_at_call 56; (with_reducible refine (HH1.out _).mono ?_); rintro e w7 ⟨rfl, rfl⟩) | (go_at_call 56; (with_reducible refine (HH2.out _).mono ?_); rintro e w7 ⟨rfl, rfl⟩))
          all_goals
            go_ret
            refine ⟨congrArg (fun b => Ending.returned (.bool b)) (?_ : _ = decide (insF fs nb 9 d a b n f args l1 l2)), HWE.out⟩
            have h2 := HM.out
            have h6 := K2.out
            refine (decide_eq_false (fun hh => ?_)).symm
            have h7 := hh.2.2.2.2.2.2.2.2 (by omega)
            exact h6 ⟨h7.2.2.1, h7.2.2.2⟩
      · have HH1 : Hid (∀ W : World, Calls Try.prog 56 #[.int .i64 l1, .int .i64 (nb : Int)] W fun e w' => e = .returned (.bool false) ∧ W = w') := shid fun W => by have h := has_any l1 nb W; unfold hasB at h; rw [decide_eq_false k1] at h; exact h
        have K1 := shid k1
        clear k1
        go_wp2_with (first | (go_at_call 54; (with_reducible refine (HCN'.out _ HWE.out).mono ?_); rintro e w6 ⟨rfl, rfl⟩) | (go_at_call 56; (with_reducible refine (HH1.out _).mono ?_); rintro e w7 ⟨rfl, rfl⟩))
        all_goals
          go_ret
          refine ⟨congrArg (fun b => Ending.returned (.bool b)) (?_ : _ = decide (insF fs nb 9 d a b n f args l1 l2)), HWE.out⟩
          have h2 := HM.out
          have h5 := K1.out
          refine (decide_eq_false (fun hh => ?_)).symm
          have h7 := hh.2.2.2.2.2.2.2.2 (by omega)
          exact h5 ⟨h7.1, h7.2.1⟩
    · have hab : ((args.length : Int) == 0) = false := by simpa using ha0
      have HL := shid ha0
      clear ha0
      go_wp2_with (go_at_call 54; (with_reducible refine (HCN'.out _ HWE.out).mono ?_); rintro e w6 ⟨rfl, rfl⟩)
      all_goals
        go_ret
        refine ⟨congrArg (fun b => Ending.returned (.bool b)) (?_ : _ = decide (insF fs nb 9 d a b n f args l1 l2)), HWE.out⟩
        have h2 := HM.out
        have h3 := HL.out
        refine (decide_eq_false (fun hh => ?_)).symm
        obtain ⟨i1, i2, i3, i4, i5, i6, i7, i8, i9⟩ := hh
        have h4 := i2
        unfold emptyF at h4
        omega
    
  · have HB5 := shid (ZBox.put ⟨zl, z0, z1, z2, z3, z4, z5, z6, z7, z8, y0, y1, y2, y3, y4, y5, y6, y7, y8⟩ 9 d a b n f l1 l2)
    have HGT := shid (show w.heap.size + 1 + 1 < W.heap.size from HBI.out.lt)
    have HBW := shid hb9
    clear zl z0 z1 z2 z3 z4 z5 z6 z7 z8 y0 y1 y2 y3 y4 y5 y6 y7 y8 hb9 hgz hb4 hb40 hle4 hwl
    generalize (((((((((w4.setCell ⟨W.heap.size, 0, none⟩ (.int .u8 9)).setCell ⟨W.heap.size, 1, none⟩ (.int .i64 d)).setCell ⟨W.heap.size, 2, none⟩ (.int .i64 a)).setCell ⟨W.heap.size, 3, none⟩ (.int .i64 b)).setCell ⟨W.heap.size, 4, none⟩ (.int .u32 n)).setCell ⟨W.heap.size, 5, none⟩ (.int .i64 f)).setCell ⟨W.heap.size, 6, none⟩ (.slice none 0 0)).setCell ⟨W.heap.size, 7, none⟩ (.int .i64 l1)).setCell ⟨W.heap.size, 8, none⟩ (.int .i64 l2)) = W5 at *
    generalize hGg : W.heap.size = G at HB5 HGT ⊢
    have HWE := shid ((sbt HWA.out HBW.out).setCell (p := ⟨w.heap.size + 1 + 1, 6, none⟩) (by show w.heap.size ≤ w.heap.size + 1 + 1; omega) (.slice none 0 0))
    have HI6 := shid ((HBI.out.keep HBW.out).nil (.slice none 0 0))
    have HF6 := shid ((HBF.out.keep HBW.out).far (p := ⟨w.heap.size + 1 + 1, 6, none⟩) (show w.heap.size + 1 + 1 ≠ w.heap.size + 1 by omega) (.slice none 0 0))
    have HP6 := shid ((HBP.out.keep HBW.out).far (p := ⟨w.heap.size + 1 + 1, 6, none⟩) (show w.heap.size + 1 + 1 ≠ w.heap.size by omega) (.slice none 0 0))
    have hgt := HGT.out
    have HB6 := shid (HB5.out.far (p := ⟨w.heap.size + 1 + 1, 6, none⟩) (show w.heap.size + 1 + 1 ≠ G by omega) (.slice none 0 0))
    have fz : W5.frozen? ⟨w.heap.size + 1 + 1, 6, none⟩ = false := (HBW.out.frozen (p := ⟨w.heap.size + 1 + 1, 6, none⟩) HBI.out.lt).trans HFZ.out
    have c6 := (HBI.out.keep HBW.out).c6
    clear HBI HBF HBP HFZ HKS hle HWA HBW hGg HB5
    obtain ⟨_, x0, x1, x2, x3, x4, x5, x6, x7, x8⟩ := HI6.out
    obtain ⟨_, g0, g1, g2, g3, g4, g5, g6, g7, g8⟩ := HB6.out
    simp only at x0 x1 x2 x3 x4 x5 x7 x8 g0 g1 g2 g3 g4 g5 g7 g8
    obtain ⟨_, p0, p1, p2⟩ := HP6.out
    obtain ⟨_, f0, f1, f2, f3⟩ := HF6.out
    by_cases ha0 : (args.length : Int) = 0
    · have hab : ((args.length : Int) == 0) = true := by simpa using ha0
      have HL := shid ha0
      clear ha0
      by_cases k1 : 0 ≤ l1 ∧ l1 < nb
      · have HH1 : Hid (∀ W : World, Calls Try.prog 56 #[.int .i64 l1, .int .i64 (nb : Int)] W fun e w' => e = .returned (.bool true) ∧ W = w') := shid fun W => by have h := has_any l1 nb W; unfold hasB at h; rw [decide_eq_true k1] at h; exact h
        have K1 := shid k1
        clear k1
        by_cases k2 : 0 ≤ l2 ∧ l2 < nb
        · have HH2 : Hid (∀ W : World, Calls Try.prog 56 #[.int .i64 l2, .int .i64 (nb : Int)] W fun e w' => e = .returned (.bool true) ∧ W = w') := shid fun W => by have h := has_any l2 nb W; unfold hasB at h; rw [decide_eq_true k2] at h; exact h
          have K2 := shid k2
          clear k2
          go_wp2_with (first | (go_at_call 54; (with_reducible refine (HCN'.out _ HWE.out).mono ?_); rintro e w6 ⟨rfl, rfl⟩) | (go_at_call 56; (with_reducible refine (HH1.out _).mono ?_); rintro e w7 ⟨rfl, rfl⟩) | (go_at_call 56; (with_reducible refine (HH2.out _).mono ?_); rintro e w7 ⟨rfl, rfl⟩))
          all_goals
            go_ret
            refine ⟨congrArg (fun b => Ending.returned (.bool b)) (?_ : _ = decide (insF fs nb 9 d a b n f args l1 l2)), HWE.out⟩
            have h2 := HM.out
            have h3 := HL.out
            have h5 := K1.out
            have h6 := K2.out
            exact (decide_eq_true ⟨by omega, by have h4 := HE.out; unfold emptyF at h4 ⊢; omega, h2.1, h2.2.1, h2.2.2, HN.out, fun h => by omega, fun h => by omega, fun h => ⟨h5.1, h5.2, h6.1, h6.2⟩⟩).symm
        · have HH2 : Hid (∀ W : World, Calls Try.prog 56 #[.int .i64 l2, .int .i64 (nb : Int)] W fun e w' => e = .returned (.bool false) ∧ W = w') := shid fun W => by have h := has_any l2 nb W; unfold hasB at h; rw [decide_eq_false k2] at h; exact h
          have K2 := shid k2
          clear k2
          go_wp2_with (first | (go_at_call 54; (with_reducible refine (HCN'.out _ HWE.out).mono ?_); rintro e w6 ⟨rfl, rfl⟩) | (go_at_call 56; (with_reducible refine (HH1.out _).mono ?_); rintro e w7 ⟨rfl, rfl⟩) | (go_at_call 56; (with_reducible refine (HH2.out _).mono ?_); rintro e w7 ⟨rfl, rfl⟩))
          all_goals
            go_ret
            refine ⟨congrArg (fun b => Ending.returned (.bool b)) (?_ : _ = decide (insF fs nb 9 d a b n f args l1 l2)), HWE.out⟩
            have h2 := HM.out
            have h6 := K2.out
            refine (decide_eq_false (fun hh => ?_)).symm
            have h7 := hh.2.2.2.2.2.2.2.2 (by omega)
            exact h6 ⟨h7.2.2.1, h7.2.2.2⟩
      · have HH1 : Hid (∀ W : World, Calls Try.prog 56 #[.int .i64 l1, .int .i64 (nb : Int)] W fun e w' => e = .returned (.bool false) ∧ W = w') := shid fun W => by have h := has_any l1 nb W; unfold hasB at h; rw [decide_eq_false k1] at h; exact h
        have K1 := shid k1
        clear k1
        go_wp2_with (first | (go_at_call 54; (with_reducible refine (HCN'.out _ HWE.out).mono ?_); rintro e w6 ⟨rfl, rfl⟩) | (go_at_call 56; (with_reducible refine (HH1.out _).mono ?_); rintro e w7 ⟨rfl, rfl⟩))
        all_goals
          go_ret
          refine ⟨congrArg (fun b => Ending.returned (.bool b)) (?_ : _ = decide (insF fs nb 9 d a b n f args l1 l2)), HWE.out⟩
          have h2 := HM.out
          have h5 := K1.out
          refine (decide_eq_false (fun hh => ?_)).symm
          have h7 := hh.2.2.2.2.2.2.2.2 (by omega)
          exact h5 ⟨h7.1, h7.2.1⟩
    · have hab : ((args.length : Int) == 0) = false := by simpa using ha0
      have HL := shid ha0
      clear ha0
      go_wp2_with (go_at_call 54; (with_reducible refine (HCN'.out _ HWE.out).mono ?_); rintro e w6 ⟨rfl, rfl⟩)
      all_goals
        go_ret
        refine ⟨congrArg (fun b => Ending.returned (.bool b)) (?_ : _ = decide (insF fs nb 9 d a b n f args l1 l2)), HWE.out⟩
        have h2 := HM.out
        have h3 := HL.out
        refine (decide_eq_false (fun hh => ?_)).symm
        obtain ⟨i1, i2, i3, i4, i5, i6, i7, i8, i9⟩ := hh
        have h4 := i2
        unfold emptyF at h4
        omega
    

end Go.Proofs.Ytdefooailcbnlaa
