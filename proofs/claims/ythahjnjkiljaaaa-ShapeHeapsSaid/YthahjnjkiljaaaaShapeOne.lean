/- The walk of muntinref14.one, a class of operations at a time. -/
import Derived.Test.YthahjnjkiljaaaaShapeOneLaw
namespace Go.Proofs.Ythahjnjkiljaaaa
open Go.RowKit
set_option linter.unusedVariables false
set_option linter.unusedSimpArgs false
set_option maxRecDepth 100000 in
set_option maxHeartbeats 2000000 in
theorem one_0 (fs : List Fnx) (nb : Nat) (hnb : nb * 40 ≤ 140737488352000) (d a b n f : Int) (args : List Int) (l1 l2 : Int) (hp : Int) (pt : Option Addr) (nt ct : Nat) (pf : Option Addr) (cf : Nat) (fnm : ByteArray) (fa fr : Int) (pb : Option Addr) (cb : Nat) (pa : Option Addr) (ca : Nat) (w : World) (hF : FnsIn w (.slice pf fs.length cf) fs) (hA : IntsIn w (.slice pa args.length ca) args) :
    Calls Try.prog 45 #[.agg #[.int .i64 hp, .slice pt nt ct, .slice pf fs.length cf], .agg #[.string fnm, .int .i64 fa, .int .i64 fr, .slice pb nb cb], .agg #[.int .u8 0, .int .i64 d, .int .i64 a, .int .i64 b, .int .u32 n, .int .i64 f, .slice pa args.length ca, .int .i64 l1, .int .i64 l2]] w fun e w' => e = .returned (.bool (decide (insF fs nb 0 d a b n f args l1 l2))) ∧ Below w.heap.size w w' := by
  obtain ⟨pfb, cfb, bf, of, hfe, hfl, HFS⟩ := hF.hids
  cases hfe
  obtain ⟨pab, cab, ba, oa, hae, hal, HAS⟩ := hA.hids
  cases hae
  clear hF hA
  have HKF := shid (fun (W : World) (hb : Below w.heap.size w W) (k : Nat) (hk : k < fs.length) => ((hb.cell (p := ⟨bf, of + k * 4 + 1, none⟩) (World.block_lt_of_cell? _ _ (fnargs_cell HFS.out.2 k hk))).trans (fnargs_cell HFS.out.2 k hk)))
  have HKA := shid (fun (W : World) (hb : Below w.heap.size w W) (k : Nat) (hk : k < args.length) => ((hb.cell (World.block_lt_of_cell? _ _ (HAS.out.2 k args[k] (List.getElem?_eq_getElem hk)).1)).trans (HAS.out.2 k args[k] (List.getElem?_eq_getElem hk)).1))
  have HNIL : Hid (args.length = 0 → args = []) := shid List.eq_nil_of_length_eq_zero
  have HWA := shid (show Below w.heap.size w (w.alloc (.cells #[.int .i64 hp, .slice pt nt ct, .slice pf fs.length cf] 25)) from (Below.refl _ _).alloc (Nat.le_refl _) _)
  have HBP := shid (PBox.new w hp (.slice pt nt ct) (.slice pf fs.length cf) 25)
  have HEM := shid (fun W => empty_any 0 d a b n f args.length l1 l2 (by omega) (by omega) pa ca W)
  by_cases hE : emptyF 0 d a b n f args.length l1 l2
  case neg =>
    have HNE := shid hE
    have HEM' := shid (fun W => by have h := HEM.out W; rw [decide_eq_false hE] at h; exact h)
    clear hE HEM
    have HWe : Hid True := shid trivial
    go_enter Try.func45, Try.ntmps45
    go_wp2_with (go_at_call 56; (with_reducible refine (HEM'.out _).mono ?_); rintro e w1 ⟨rfl, hb1⟩)
    go_ret
    refine ⟨congrArg (fun b => Ending.returned (.bool b)) (?_ : _ = decide (insF fs nb 0 d a b n f args l1 l2)), sbt (al3 _ _ _ _) hb1⟩
    refine (decide_eq_false (fun hh => ?_)).symm
    exact HNE.out hh.2.1
  have HE := shid hE
  have HEM' := shid (fun W => by have h := HEM.out W; rw [decide_eq_true hE] at h; exact h)
  clear hE HEM
  go_enter Try.func45, Try.ntmps45
  go_wp2_with fail
  (with_reducible refine (HEM'.out _).mono ?_)
  rintro e w1 ⟨rfl, hb1⟩
  have HW1 := shid (sbt (al3 _ _ _ _) hb1)
  have HBI := shid ((Ibox_of ((w.alloc (.cells #[.int .i64 hp, .slice pt nt ct, .slice pf fs.length cf] 25)).alloc (.cells #[.string fnm, .int .i64 fa, .int .i64 fr, .slice pb nb cb] 37)) 0 d a b n f (.slice pa args.length ca) l1 l2 44).keep hb1)
  have HBF := shid ((FBox.new (w.alloc (.cells #[.int .i64 hp, .slice pt nt ct, .slice pf fs.length cf] 25)) fnm fa fr (.slice pb nb cb) 37).keep (sbt (al1 _ _) hb1))
  have HBQ := shid (HBP.out.keep (sbt (al2 _ _ _) hb1))
  have HKF1 := shid (HKF.out w1 HW1.out)
  have HKA1 := shid (HKA.out w1 HW1.out)
  simp only [World.size_alloc] at HBI HBF HBQ
  have HPF := shid HFS.out.1
  have HPA := shid HAS.out.1
  clear hb1 HKF HKA HBP HWA HFS HAS
  obtain ⟨blt, b0, b1, b2, b3, b4, b5, b6, b7, b8⟩ := HBI.out
  obtain ⟨_, f0, f1, f2, f3⟩ := HBF.out
  obtain ⟨_, p0, p1, p2⟩ := HBQ.out
  simp only at b0 b1 b2 b3 b4 b5 b7 b8
  go_wp2_with fail
  all_goals try (go_ret; refine ⟨congrArg (fun b => Ending.returned (.bool b)) (?_ : _ = decide (insF fs nb 0 d a b n f args l1 l2)), HW1.out⟩; refine (decide_eq_false (fun hh => ?_)).symm; obtain ⟨i1, i2, i3, i4, i5, i6, i7, i8, i9⟩ := hh; omega; done)
  go_loop [7] (fun i => ∃ k : Nat, k ≤ args.length ∧ i = .int .i64 k ∧ ∀ y ∈ args.take k, 0 ≤ y) (fun i => args.length - (intOf i).toNat)
  case atStart => exact ⟨0, Nat.zero_le _, rfl, by simp⟩
  case round =>
    obtain ⟨k, hk, rfl, hf⟩ := hrel
    have HF := shid hf
    clear hf
    by_cases hlt : k < args.length
    · obtain rfl := HPA.out (by omega)
      have c1 := HKA1.out k hlt
      have HT := shid (List.take_succ_eq_append_getElem hlt)
      have HM := shid (List.getElem_mem hlt)
      rw [Nat.mul_one] at c1
      generalize args[k] = y at c1 HT HM
      have h1 : (k : Int) < args.length := by omega
      by_cases hy : y < 0
      · go_wp2_with fail
        go_ret
        refine ⟨congrArg (fun b => Ending.returned (.bool b)) (?_ : _ = decide (insF fs nb 0 d a b n f args l1 l2)), HW1.out⟩
        refine (decide_eq_false (fun hh => ?_)).symm
        have := hh.2.2.2.2.2.1 y HM.out
        omega
      · go_wp2_with fail
        go_round
        case rel => exact ⟨k + 1, by omega, by go_num, fun z hz => by
          rw [HT.out] at hz
          rcases List.mem_append.1 hz with h | h
          · exact HF.out z h
          · simp at h; omega⟩
        case measure => simp [intOf]; omega
    · have HG : Hid (∀ y ∈ args, 0 ≤ y) := shid (by have h := HF.out; rw [List.take_of_length_le (by omega)] at h; exact h)
      obtain rfl : k = args.length := by omega
      clear HF hlt hk HKA1 HPA
      go_wp2_with fail
      all_goals try (go_ret; refine ⟨congrArg (fun b => Ending.returned (.bool b)) (?_ : _ = decide (insF fs nb 0 d a b n f args l1 l2)), by first | exact HW1.out | exact sdrewN HW1.out _⟩; (refine (decide_eq_false (fun hh => ?_)).symm; obtain ⟨i1, i2, i3, i4, i5, i6, i7, i8, i9⟩ := hh; omega); done)
      go_quiet (fail)
      go_wp2_with fail
      all_goals
        go_ret
        refine ⟨congrArg (fun b => Ending.returned (.bool b)) (?_ : _ = decide (insF fs nb 0 d a b n f args l1 l2)), by first | exact HW1.out | exact sdrewN HW1.out _⟩
        first
          | exact (decide_eq_true ⟨by omega, HE.out, by omega, by omega, by omega, HG.out, by omega, by omega, by omega⟩).symm
          | (refine (decide_eq_false (fun hh => ?_)).symm; obtain ⟨i1, i2, i3, i4, i5, i6, i7, i8, i9⟩ := hh; omega)
          | (refine decide_eq_decide.2 ⟨fun hh => ⟨by omega, HE.out, by omega, by omega, by omega, HG.out, by omega, by omega, by omega⟩, fun hh => ?_⟩; obtain ⟨i1, i2, i3, i4, i5, i6, i7, i8, i9⟩ := hh; omega)
set_option maxRecDepth 100000 in
set_option maxHeartbeats 2000000 in
theorem one_1 (fs : List Fnx) (nb : Nat) (hnb : nb * 40 ≤ 140737488352000) (d a b n f : Int) (args : List Int) (l1 l2 : Int) (hp : Int) (pt : Option Addr) (nt ct : Nat) (pf : Option Addr) (cf : Nat) (fnm : ByteArray) (fa fr : Int) (pb : Option Addr) (cb : Nat) (pa : Option Addr) (ca : Nat) (w : World) (hF : FnsIn w (.slice pf fs.length cf) fs) (hA : IntsIn w (.slice pa args.length ca) args) :
    Calls Try.prog 45 #[.agg #[.int .i64 hp, .slice pt nt ct, .slice pf fs.length cf], .agg #[.string fnm, .int .i64 fa, .int .i64 fr, .slice pb nb cb], .agg #[.int .u8 1, .int .i64 d, .int .i64 a, .int .i64 b, .int .u32 n, .int .i64 f, .slice pa args.length ca, .int .i64 l1, .int .i64 l2]] w fun e w' => e = .returned (.bool (decide (insF fs nb 1 d a b n f args l1 l2))) ∧ Below w.heap.size w w' := by
  obtain ⟨pfb, cfb, bf, of, hfe, hfl, HFS⟩ := hF.hids
  cases hfe
  obtain ⟨pab, cab, ba, oa, hae, hal, HAS⟩ := hA.hids
  cases hae
  clear hF hA
  have HKF := shid (fun (W : World) (hb : Below w.heap.size w W) (k : Nat) (hk : k < fs.length) => ((hb.cell (p := ⟨bf, of + k * 4 + 1, none⟩) (World.block_lt_of_cell? _ _ (fnargs_cell HFS.out.2 k hk))).trans (fnargs_cell HFS.out.2 k hk)))
  have HKA := shid (fun (W : World) (hb : Below w.heap.size w W) (k : Nat) (hk : k < args.length) => ((hb.cell (World.block_lt_of_cell? _ _ (HAS.out.2 k args[k] (List.getElem?_eq_getElem hk)).1)).trans (HAS.out.2 k args[k] (List.getElem?_eq_getElem hk)).1))
  have HNIL : Hid (args.length = 0 → args = []) := shid List.eq_nil_of_length_eq_zero
  have HWA := shid (show Below w.heap.size w (w.alloc (.cells #[.int .i64 hp, .slice pt nt ct, .slice pf fs.length cf] 25)) from (Below.refl _ _).alloc (Nat.le_refl _) _)
  have HBP := shid (PBox.new w hp (.slice pt nt ct) (.slice pf fs.length cf) 25)
  have HEM := shid (fun W => empty_any 1 d a b n f args.length l1 l2 (by omega) (by omega) pa ca W)
  by_cases hE : emptyF 1 d a b n f args.length l1 l2
  case neg =>
    have HNE := shid hE
    have HEM' := shid (fun W => by have h := HEM.out W; rw [decide_eq_false hE] at h; exact h)
    clear hE HEM
    have HWe : Hid True := shid trivial
    go_enter Try.func45, Try.ntmps45
    go_wp2_with (go_at_call 56; (with_reducible refine (HEM'.out _).mono ?_); rintro e w1 ⟨rfl, hb1⟩)
    go_ret
    refine ⟨congrArg (fun b => Ending.returned (.bool b)) (?_ : _ = decide (insF fs nb 1 d a b n f args l1 l2)), sbt (al3 _ _ _ _) hb1⟩
    refine (decide_eq_false (fun hh => ?_)).symm
    exact HNE.out hh.2.1
  have HE := shid hE
  have HEM' := shid (fun W => by have h := HEM.out W; rw [decide_eq_true hE] at h; exact h)
  clear hE HEM
  go_enter Try.func45, Try.ntmps45
  go_wp2_with fail
  (with_reducible refine (HEM'.out _).mono ?_)
  rintro e w1 ⟨rfl, hb1⟩
  have HW1 := shid (sbt (al3 _ _ _ _) hb1)
  have HBI := shid ((Ibox_of ((w.alloc (.cells #[.int .i64 hp, .slice pt nt ct, .slice pf fs.length cf] 25)).alloc (.cells #[.string fnm, .int .i64 fa, .int .i64 fr, .slice pb nb cb] 37)) 1 d a b n f (.slice pa args.length ca) l1 l2 44).keep hb1)
  have HBF := shid ((FBox.new (w.alloc (.cells #[.int .i64 hp, .slice pt nt ct, .slice pf fs.length cf] 25)) fnm fa fr (.slice pb nb cb) 37).keep (sbt (al1 _ _) hb1))
  have HBQ := shid (HBP.out.keep (sbt (al2 _ _ _) hb1))
  have HKF1 := shid (HKF.out w1 HW1.out)
  have HKA1 := shid (HKA.out w1 HW1.out)
  simp only [World.size_alloc] at HBI HBF HBQ
  have HPF := shid HFS.out.1
  have HPA := shid HAS.out.1
  clear hb1 HKF HKA HBP HWA HFS HAS
  obtain ⟨blt, b0, b1, b2, b3, b4, b5, b6, b7, b8⟩ := HBI.out
  obtain ⟨_, f0, f1, f2, f3⟩ := HBF.out
  obtain ⟨_, p0, p1, p2⟩ := HBQ.out
  simp only at b0 b1 b2 b3 b4 b5 b7 b8
  go_wp2_with fail
  all_goals try (go_ret; refine ⟨congrArg (fun b => Ending.returned (.bool b)) (?_ : _ = decide (insF fs nb 1 d a b n f args l1 l2)), HW1.out⟩; refine (decide_eq_false (fun hh => ?_)).symm; obtain ⟨i1, i2, i3, i4, i5, i6, i7, i8, i9⟩ := hh; omega; done)
  go_loop [7] (fun i => ∃ k : Nat, k ≤ args.length ∧ i = .int .i64 k ∧ ∀ y ∈ args.take k, 0 ≤ y) (fun i => args.length - (intOf i).toNat)
  case atStart => exact ⟨0, Nat.zero_le _, rfl, by simp⟩
  case round =>
    obtain ⟨k, hk, rfl, hf⟩ := hrel
    have HF := shid hf
    clear hf
    by_cases hlt : k < args.length
    · obtain rfl := HPA.out (by omega)
      have c1 := HKA1.out k hlt
      have HT := shid (List.take_succ_eq_append_getElem hlt)
      have HM := shid (List.getElem_mem hlt)
      rw [Nat.mul_one] at c1
      generalize args[k] = y at c1 HT HM
      have h1 : (k : Int) < args.length := by omega
      by_cases hy : y < 0
      · go_wp2_with fail
        go_ret
        refine ⟨congrArg (fun b => Ending.returned (.bool b)) (?_ : _ = decide (insF fs nb 1 d a b n f args l1 l2)), HW1.out⟩
        refine (decide_eq_false (fun hh => ?_)).symm
        have := hh.2.2.2.2.2.1 y HM.out
        omega
      · go_wp2_with fail
        go_round
        case rel => exact ⟨k + 1, by omega, by go_num, fun z hz => by
          rw [HT.out] at hz
          rcases List.mem_append.1 hz with h | h
          · exact HF.out z h
          · simp at h; omega⟩
        case measure => simp [intOf]; omega
    · have HG : Hid (∀ y ∈ args, 0 ≤ y) := shid (by have h := HF.out; rw [List.take_of_length_le (by omega)] at h; exact h)
      obtain rfl : k = args.length := by omega
      clear HF hlt hk HKA1 HPA
      go_wp2_with fail
      all_goals try (go_ret; refine ⟨congrArg (fun b => Ending.returned (.bool b)) (?_ : _ = decide (insF fs nb 1 d a b n f args l1 l2)), by first | exact HW1.out | exact sdrewN HW1.out _⟩; (refine (decide_eq_false (fun hh => ?_)).symm; obtain ⟨i1, i2, i3, i4, i5, i6, i7, i8, i9⟩ := hh; omega); done)
      go_quiet (fail)
      go_wp2_with fail
      all_goals
        go_ret
        refine ⟨congrArg (fun b => Ending.returned (.bool b)) (?_ : _ = decide (insF fs nb 1 d a b n f args l1 l2)), by first | exact HW1.out | exact sdrewN HW1.out _⟩
        first
          | exact (decide_eq_true ⟨by omega, HE.out, by omega, by omega, by omega, HG.out, by omega, by omega, by omega⟩).symm
          | (refine (decide_eq_false (fun hh => ?_)).symm; obtain ⟨i1, i2, i3, i4, i5, i6, i7, i8, i9⟩ := hh; omega)
          | (refine decide_eq_decide.2 ⟨fun hh => ⟨by omega, HE.out, by omega, by omega, by omega, HG.out, by omega, by omega, by omega⟩, fun hh => ?_⟩; obtain ⟨i1, i2, i3, i4, i5, i6, i7, i8, i9⟩ := hh; omega)
set_option maxRecDepth 100000 in
set_option maxHeartbeats 2000000 in
theorem one_2 (fs : List Fnx) (nb : Nat) (hnb : nb * 40 ≤ 140737488352000) (d a b n f : Int) (args : List Int) (l1 l2 : Int) (hp : Int) (pt : Option Addr) (nt ct : Nat) (pf : Option Addr) (cf : Nat) (fnm : ByteArray) (fa fr : Int) (pb : Option Addr) (cb : Nat) (pa : Option Addr) (ca : Nat) (w : World) (hF : FnsIn w (.slice pf fs.length cf) fs) (hA : IntsIn w (.slice pa args.length ca) args) :
    Calls Try.prog 45 #[.agg #[.int .i64 hp, .slice pt nt ct, .slice pf fs.length cf], .agg #[.string fnm, .int .i64 fa, .int .i64 fr, .slice pb nb cb], .agg #[.int .u8 2, .int .i64 d, .int .i64 a, .int .i64 b, .int .u32 n, .int .i64 f, .slice pa args.length ca, .int .i64 l1, .int .i64 l2]] w fun e w' => e = .returned (.bool (decide (insF fs nb 2 d a b n f args l1 l2))) ∧ Below w.heap.size w w' := by
  obtain ⟨pfb, cfb, bf, of, hfe, hfl, HFS⟩ := hF.hids
  cases hfe
  obtain ⟨pab, cab, ba, oa, hae, hal, HAS⟩ := hA.hids
  cases hae
  clear hF hA
  have HKF := shid (fun (W : World) (hb : Below w.heap.size w W) (k : Nat) (hk : k < fs.length) => ((hb.cell (p := ⟨bf, of + k * 4 + 1, none⟩) (World.block_lt_of_cell? _ _ (fnargs_cell HFS.out.2 k hk))).trans (fnargs_cell HFS.out.2 k hk)))
  have HKA := shid (fun (W : World) (hb : Below w.heap.size w W) (k : Nat) (hk : k < args.length) => ((hb.cell (World.block_lt_of_cell? _ _ (HAS.out.2 k args[k] (List.getElem?_eq_getElem hk)).1)).trans (HAS.out.2 k args[k] (List.getElem?_eq_getElem hk)).1))
  have HNIL : Hid (args.length = 0 → args = []) := shid List.eq_nil_of_length_eq_zero
  have HWA := shid (show Below w.heap.size w (w.alloc (.cells #[.int .i64 hp, .slice pt nt ct, .slice pf fs.length cf] 25)) from (Below.refl _ _).alloc (Nat.le_refl _) _)
  have HBP := shid (PBox.new w hp (.slice pt nt ct) (.slice pf fs.length cf) 25)
  have HEM := shid (fun W => empty_any 2 d a b n f args.length l1 l2 (by omega) (by omega) pa ca W)
  by_cases hE : emptyF 2 d a b n f args.length l1 l2
  case neg =>
    have HNE := shid hE
    have HEM' := shid (fun W => by have h := HEM.out W; rw [decide_eq_false hE] at h; exact h)
    clear hE HEM
    have HWe : Hid True := shid trivial
    go_enter Try.func45, Try.ntmps45
    go_wp2_with (go_at_call 56; (with_reducible refine (HEM'.out _).mono ?_); rintro e w1 ⟨rfl, hb1⟩)
    go_ret
    refine ⟨congrArg (fun b => Ending.returned (.bool b)) (?_ : _ = decide (insF fs nb 2 d a b n f args l1 l2)), sbt (al3 _ _ _ _) hb1⟩
    refine (decide_eq_false (fun hh => ?_)).symm
    exact HNE.out hh.2.1
  have HE := shid hE
  have HEM' := shid (fun W => by have h := HEM.out W; rw [decide_eq_true hE] at h; exact h)
  clear hE HEM
  go_enter Try.func45, Try.ntmps45
  go_wp2_with fail
  (with_reducible refine (HEM'.out _).mono ?_)
  rintro e w1 ⟨rfl, hb1⟩
  have HW1 := shid (sbt (al3 _ _ _ _) hb1)
  have HBI := shid ((Ibox_of ((w.alloc (.cells #[.int .i64 hp, .slice pt nt ct, .slice pf fs.length cf] 25)).alloc (.cells #[.string fnm, .int .i64 fa, .int .i64 fr, .slice pb nb cb] 37)) 2 d a b n f (.slice pa args.length ca) l1 l2 44).keep hb1)
  have HBF := shid ((FBox.new (w.alloc (.cells #[.int .i64 hp, .slice pt nt ct, .slice pf fs.length cf] 25)) fnm fa fr (.slice pb nb cb) 37).keep (sbt (al1 _ _) hb1))
  have HBQ := shid (HBP.out.keep (sbt (al2 _ _ _) hb1))
  have HKF1 := shid (HKF.out w1 HW1.out)
  have HKA1 := shid (HKA.out w1 HW1.out)
  simp only [World.size_alloc] at HBI HBF HBQ
  have HPF := shid HFS.out.1
  have HPA := shid HAS.out.1
  clear hb1 HKF HKA HBP HWA HFS HAS
  obtain ⟨blt, b0, b1, b2, b3, b4, b5, b6, b7, b8⟩ := HBI.out
  obtain ⟨_, f0, f1, f2, f3⟩ := HBF.out
  obtain ⟨_, p0, p1, p2⟩ := HBQ.out
  simp only at b0 b1 b2 b3 b4 b5 b7 b8
  go_wp2_with fail
  all_goals try (go_ret; refine ⟨congrArg (fun b => Ending.returned (.bool b)) (?_ : _ = decide (insF fs nb 2 d a b n f args l1 l2)), HW1.out⟩; refine (decide_eq_false (fun hh => ?_)).symm; obtain ⟨i1, i2, i3, i4, i5, i6, i7, i8, i9⟩ := hh; omega; done)
  go_loop [7] (fun i => ∃ k : Nat, k ≤ args.length ∧ i = .int .i64 k ∧ ∀ y ∈ args.take k, 0 ≤ y) (fun i => args.length - (intOf i).toNat)
  case atStart => exact ⟨0, Nat.zero_le _, rfl, by simp⟩
  case round =>
    obtain ⟨k, hk, rfl, hf⟩ := hrel
    have HF := shid hf
    clear hf
    by_cases hlt : k < args.length
    · obtain rfl := HPA.out (by omega)
      have c1 := HKA1.out k hlt
      have HT := shid (List.take_succ_eq_append_getElem hlt)
      have HM := shid (List.getElem_mem hlt)
      rw [Nat.mul_one] at c1
      generalize args[k] = y at c1 HT HM
      have h1 : (k : Int) < args.length := by omega
      by_cases hy : y < 0
      · go_wp2_with fail
        go_ret
        refine ⟨congrArg (fun b => Ending.returned (.bool b)) (?_ : _ = decide (insF fs nb 2 d a b n f args l1 l2)), HW1.out⟩
        refine (decide_eq_false (fun hh => ?_)).symm
        have := hh.2.2.2.2.2.1 y HM.out
        omega
      · go_wp2_with fail
        go_round
        case rel => exact ⟨k + 1, by omega, by go_num, fun z hz => by
          rw [HT.out] at hz
          rcases List.mem_append.1 hz with h | h
          · exact HF.out z h
          · simp at h; omega⟩
        case measure => simp [intOf]; omega
    · have HG : Hid (∀ y ∈ args, 0 ≤ y) := shid (by have h := HF.out; rw [List.take_of_length_le (by omega)] at h; exact h)
      obtain rfl : k = args.length := by omega
      clear HF hlt hk HKA1 HPA
      go_wp2_with fail
      all_goals try (go_ret; refine ⟨congrArg (fun b => Ending.returned (.bool b)) (?_ : _ = decide (insF fs nb 2 d a b n f args l1 l2)), by first | exact HW1.out | exact sdrewN HW1.out _⟩; (refine (decide_eq_false (fun hh => ?_)).symm; obtain ⟨i1, i2, i3, i4, i5, i6, i7, i8, i9⟩ := hh; omega); done)
      go_quiet (fail)
      go_wp2_with fail
      all_goals
        go_ret
        refine ⟨congrArg (fun b => Ending.returned (.bool b)) (?_ : _ = decide (insF fs nb 2 d a b n f args l1 l2)), by first | exact HW1.out | exact sdrewN HW1.out _⟩
        first
          | exact (decide_eq_true ⟨by omega, HE.out, by omega, by omega, by omega, HG.out, by omega, by omega, by omega⟩).symm
          | (refine (decide_eq_false (fun hh => ?_)).symm; obtain ⟨i1, i2, i3, i4, i5, i6, i7, i8, i9⟩ := hh; omega)
          | (refine decide_eq_decide.2 ⟨fun hh => ⟨by omega, HE.out, by omega, by omega, by omega, HG.out, by omega, by omega, by omega⟩, fun hh => ?_⟩; obtain ⟨i1, i2, i3, i4, i5, i6, i7, i8, i9⟩ := hh; omega)
set_option maxRecDepth 100000 in
set_option maxHeartbeats 2000000 in
theorem one_3 (fs : List Fnx) (nb : Nat) (hnb : nb * 40 ≤ 140737488352000) (d a b n f : Int) (args : List Int) (l1 l2 : Int) (hp : Int) (pt : Option Addr) (nt ct : Nat) (pf : Option Addr) (cf : Nat) (fnm : ByteArray) (fa fr : Int) (pb : Option Addr) (cb : Nat) (pa : Option Addr) (ca : Nat) (w : World) (hF : FnsIn w (.slice pf fs.length cf) fs) (hA : IntsIn w (.slice pa args.length ca) args) :
    Calls Try.prog 45 #[.agg #[.int .i64 hp, .slice pt nt ct, .slice pf fs.length cf], .agg #[.string fnm, .int .i64 fa, .int .i64 fr, .slice pb nb cb], .agg #[.int .u8 3, .int .i64 d, .int .i64 a, .int .i64 b, .int .u32 n, .int .i64 f, .slice pa args.length ca, .int .i64 l1, .int .i64 l2]] w fun e w' => e = .returned (.bool (decide (insF fs nb 3 d a b n f args l1 l2))) ∧ Below w.heap.size w w' := by
  obtain ⟨pfb, cfb, bf, of, hfe, hfl, HFS⟩ := hF.hids
  cases hfe
  obtain ⟨pab, cab, ba, oa, hae, hal, HAS⟩ := hA.hids
  cases hae
  clear hF hA
  have HKF := shid (fun (W : World) (hb : Below w.heap.size w W) (k : Nat) (hk : k < fs.length) => ((hb.cell (p := ⟨bf, of + k * 4 + 1, none⟩) (World.block_lt_of_cell? _ _ (fnargs_cell HFS.out.2 k hk))).trans (fnargs_cell HFS.out.2 k hk)))
  have HKA := shid (fun (W : World) (hb : Below w.heap.size w W) (k : Nat) (hk : k < args.length) => ((hb.cell (World.block_lt_of_cell? _ _ (HAS.out.2 k args[k] (List.getElem?_eq_getElem hk)).1)).trans (HAS.out.2 k args[k] (List.getElem?_eq_getElem hk)).1))
  have HNIL : Hid (args.length = 0 → args = []) := shid List.eq_nil_of_length_eq_zero
  have HWA := shid (show Below w.heap.size w (w.alloc (.cells #[.int .i64 hp, .slice pt nt ct, .slice pf fs.length cf] 25)) from (Below.refl _ _).alloc (Nat.le_refl _) _)
  have HBP := shid (PBox.new w hp (.slice pt nt ct) (.slice pf fs.length cf) 25)
  have HEM := shid (fun W => empty_any 3 d a b n f args.length l1 l2 (by omega) (by omega) pa ca W)
  by_cases hE : emptyF 3 d a b n f args.length l1 l2
  case neg =>
    have HNE := shid hE
    have HEM' := shid (fun W => by have h := HEM.out W; rw [decide_eq_false hE] at h; exact h)
    clear hE HEM
    have HWe : Hid True := shid trivial
    go_enter Try.func45, Try.ntmps45
    go_wp2_with (go_at_call 56; (with_reducible refine (HEM'.out _).mono ?_); rintro e w1 ⟨rfl, hb1⟩)
    go_ret
    refine ⟨congrArg (fun b => Ending.returned (.bool b)) (?_ : _ = decide (insF fs nb 3 d a b n f args l1 l2)), sbt (al3 _ _ _ _) hb1⟩
    refine (decide_eq_false (fun hh => ?_)).symm
    exact HNE.out hh.2.1
  have HE := shid hE
  have HEM' := shid (fun W => by have h := HEM.out W; rw [decide_eq_true hE] at h; exact h)
  clear hE HEM
  go_enter Try.func45, Try.ntmps45
  go_wp2_with fail
  (with_reducible refine (HEM'.out _).mono ?_)
  rintro e w1 ⟨rfl, hb1⟩
  have HW1 := shid (sbt (al3 _ _ _ _) hb1)
  have HBI := shid ((Ibox_of ((w.alloc (.cells #[.int .i64 hp, .slice pt nt ct, .slice pf fs.length cf] 25)).alloc (.cells #[.string fnm, .int .i64 fa, .int .i64 fr, .slice pb nb cb] 37)) 3 d a b n f (.slice pa args.length ca) l1 l2 44).keep hb1)
  have HBF := shid ((FBox.new (w.alloc (.cells #[.int .i64 hp, .slice pt nt ct, .slice pf fs.length cf] 25)) fnm fa fr (.slice pb nb cb) 37).keep (sbt (al1 _ _) hb1))
  have HBQ := shid (HBP.out.keep (sbt (al2 _ _ _) hb1))
  have HKF1 := shid (HKF.out w1 HW1.out)
  have HKA1 := shid (HKA.out w1 HW1.out)
  simp only [World.size_alloc] at HBI HBF HBQ
  have HPF := shid HFS.out.1
  have HPA := shid HAS.out.1
  clear hb1 HKF HKA HBP HWA HFS HAS
  obtain ⟨blt, b0, b1, b2, b3, b4, b5, b6, b7, b8⟩ := HBI.out
  obtain ⟨_, f0, f1, f2, f3⟩ := HBF.out
  obtain ⟨_, p0, p1, p2⟩ := HBQ.out
  simp only at b0 b1 b2 b3 b4 b5 b7 b8
  go_wp2_with fail
  all_goals try (go_ret; refine ⟨congrArg (fun b => Ending.returned (.bool b)) (?_ : _ = decide (insF fs nb 3 d a b n f args l1 l2)), HW1.out⟩; refine (decide_eq_false (fun hh => ?_)).symm; obtain ⟨i1, i2, i3, i4, i5, i6, i7, i8, i9⟩ := hh; omega; done)
  go_loop [7] (fun i => ∃ k : Nat, k ≤ args.length ∧ i = .int .i64 k ∧ ∀ y ∈ args.take k, 0 ≤ y) (fun i => args.length - (intOf i).toNat)
  case atStart => exact ⟨0, Nat.zero_le _, rfl, by simp⟩
  case round =>
    obtain ⟨k, hk, rfl, hf⟩ := hrel
    have HF := shid hf
    clear hf
    by_cases hlt : k < args.length
    · obtain rfl := HPA.out (by omega)
      have c1 := HKA1.out k hlt
      have HT := shid (List.take_succ_eq_append_getElem hlt)
      have HM := shid (List.getElem_mem hlt)
      rw [Nat.mul_one] at c1
      generalize args[k] = y at c1 HT HM
      have h1 : (k : Int) < args.length := by omega
      by_cases hy : y < 0
      · go_wp2_with fail
        go_ret
        refine ⟨congrArg (fun b => Ending.returned (.bool b)) (?_ : _ = decide (insF fs nb 3 d a b n f args l1 l2)), HW1.out⟩
        refine (decide_eq_false (fun hh => ?_)).symm
        have := hh.2.2.2.2.2.1 y HM.out
        omega
      · go_wp2_with fail
        go_round
        case rel => exact ⟨k + 1, by omega, by go_num, fun z hz => by
          rw [HT.out] at hz
          rcases List.mem_append.1 hz with h | h
          · exact HF.out z h
          · simp at h; omega⟩
        case measure => simp [intOf]; omega
    · have HG : Hid (∀ y ∈ args, 0 ≤ y) := shid (by have h := HF.out; rw [List.take_of_length_le (by omega)] at h; exact h)
      obtain rfl : k = args.length := by omega
      clear HF hlt hk HKA1 HPA
      go_wp2_with fail
      all_goals try (go_ret; refine ⟨congrArg (fun b => Ending.returned (.bool b)) (?_ : _ = decide (insF fs nb 3 d a b n f args l1 l2)), by first | exact HW1.out | exact sdrewN HW1.out _⟩; (refine (decide_eq_false (fun hh => ?_)).symm; obtain ⟨i1, i2, i3, i4, i5, i6, i7, i8, i9⟩ := hh; omega); done)
      go_quiet (fail)
      go_wp2_with fail
      all_goals
        go_ret
        refine ⟨congrArg (fun b => Ending.returned (.bool b)) (?_ : _ = decide (insF fs nb 3 d a b n f args l1 l2)), by first | exact HW1.out | exact sdrewN HW1.out _⟩
        first
          | exact (decide_eq_true ⟨by omega, HE.out, by omega, by omega, by omega, HG.out, by omega, by omega, by omega⟩).symm
          | (refine (decide_eq_false (fun hh => ?_)).symm; obtain ⟨i1, i2, i3, i4, i5, i6, i7, i8, i9⟩ := hh; omega)
          | (refine decide_eq_decide.2 ⟨fun hh => ⟨by omega, HE.out, by omega, by omega, by omega, HG.out, by omega, by omega, by omega⟩, fun hh => ?_⟩; obtain ⟨i1, i2, i3, i4, i5, i6, i7, i8, i9⟩ := hh; omega)
set_option maxRecDepth 100000 in
set_option maxHeartbeats 2000000 in
theorem one_4 (fs : List Fnx) (nb : Nat) (hnb : nb * 40 ≤ 140737488352000) (d a b n f : Int) (args : List Int) (l1 l2 : Int) (hp : Int) (pt : Option Addr) (nt ct : Nat) (pf : Option Addr) (cf : Nat) (fnm : ByteArray) (fa fr : Int) (pb : Option Addr) (cb : Nat) (pa : Option Addr) (ca : Nat) (w : World) (hF : FnsIn w (.slice pf fs.length cf) fs) (hA : IntsIn w (.slice pa args.length ca) args) :
    Calls Try.prog 45 #[.agg #[.int .i64 hp, .slice pt nt ct, .slice pf fs.length cf], .agg #[.string fnm, .int .i64 fa, .int .i64 fr, .slice pb nb cb], .agg #[.int .u8 4, .int .i64 d, .int .i64 a, .int .i64 b, .int .u32 n, .int .i64 f, .slice pa args.length ca, .int .i64 l1, .int .i64 l2]] w fun e w' => e = .returned (.bool (decide (insF fs nb 4 d a b n f args l1 l2))) ∧ Below w.heap.size w w' := by
  obtain ⟨pfb, cfb, bf, of, hfe, hfl, HFS⟩ := hF.hids
  cases hfe
  obtain ⟨pab, cab, ba, oa, hae, hal, HAS⟩ := hA.hids
  cases hae
  clear hF hA
  have HKF := shid (fun (W : World) (hb : Below w.heap.size w W) (k : Nat) (hk : k < fs.length) => ((hb.cell (p := ⟨bf, of + k * 4 + 1, none⟩) (World.block_lt_of_cell? _ _ (fnargs_cell HFS.out.2 k hk))).trans (fnargs_cell HFS.out.2 k hk)))
  have HKA := shid (fun (W : World) (hb : Below w.heap.size w W) (k : Nat) (hk : k < args.length) => ((hb.cell (World.block_lt_of_cell? _ _ (HAS.out.2 k args[k] (List.getElem?_eq_getElem hk)).1)).trans (HAS.out.2 k args[k] (List.getElem?_eq_getElem hk)).1))
  have HNIL : Hid (args.length = 0 → args = []) := shid List.eq_nil_of_length_eq_zero
  have HWA := shid (show Below w.heap.size w (w.alloc (.cells #[.int .i64 hp, .slice pt nt ct, .slice pf fs.length cf] 25)) from (Below.refl _ _).alloc (Nat.le_refl _) _)
  have HBP := shid (PBox.new w hp (.slice pt nt ct) (.slice pf fs.length cf) 25)
  have HEM := shid (fun W => empty_any 4 d a b n f args.length l1 l2 (by omega) (by omega) pa ca W)
  by_cases hE : emptyF 4 d a b n f args.length l1 l2
  case neg =>
    have HNE := shid hE
    have HEM' := shid (fun W => by have h := HEM.out W; rw [decide_eq_false hE] at h; exact h)
    clear hE HEM
    have HWe : Hid True := shid trivial
    go_enter Try.func45, Try.ntmps45
    go_wp2_with (go_at_call 56; (with_reducible refine (HEM'.out _).mono ?_); rintro e w1 ⟨rfl, hb1⟩)
    go_ret
    refine ⟨congrArg (fun b => Ending.returned (.bool b)) (?_ : _ = decide (insF fs nb 4 d a b n f args l1 l2)), sbt (al3 _ _ _ _) hb1⟩
    refine (decide_eq_false (fun hh => ?_)).symm
    exact HNE.out hh.2.1
  have HE := shid hE
  have HEM' := shid (fun W => by have h := HEM.out W; rw [decide_eq_true hE] at h; exact h)
  clear hE HEM
  go_enter Try.func45, Try.ntmps45
  go_wp2_with fail
  (with_reducible refine (HEM'.out _).mono ?_)
  rintro e w1 ⟨rfl, hb1⟩
  have HW1 := shid (sbt (al3 _ _ _ _) hb1)
  have HBI := shid ((Ibox_of ((w.alloc (.cells #[.int .i64 hp, .slice pt nt ct, .slice pf fs.length cf] 25)).alloc (.cells #[.string fnm, .int .i64 fa, .int .i64 fr, .slice pb nb cb] 37)) 4 d a b n f (.slice pa args.length ca) l1 l2 44).keep hb1)
  have HBF := shid ((FBox.new (w.alloc (.cells #[.int .i64 hp, .slice pt nt ct, .slice pf fs.length cf] 25)) fnm fa fr (.slice pb nb cb) 37).keep (sbt (al1 _ _) hb1))
  have HBQ := shid (HBP.out.keep (sbt (al2 _ _ _) hb1))
  have HKF1 := shid (HKF.out w1 HW1.out)
  have HKA1 := shid (HKA.out w1 HW1.out)
  simp only [World.size_alloc] at HBI HBF HBQ
  have HPF := shid HFS.out.1
  have HPA := shid HAS.out.1
  clear hb1 HKF HKA HBP HWA HFS HAS
  obtain ⟨blt, b0, b1, b2, b3, b4, b5, b6, b7, b8⟩ := HBI.out
  obtain ⟨_, f0, f1, f2, f3⟩ := HBF.out
  obtain ⟨_, p0, p1, p2⟩ := HBQ.out
  simp only at b0 b1 b2 b3 b4 b5 b7 b8
  go_wp2_with fail
  all_goals try (go_ret; refine ⟨congrArg (fun b => Ending.returned (.bool b)) (?_ : _ = decide (insF fs nb 4 d a b n f args l1 l2)), HW1.out⟩; refine (decide_eq_false (fun hh => ?_)).symm; obtain ⟨i1, i2, i3, i4, i5, i6, i7, i8, i9⟩ := hh; omega; done)
  go_loop [7] (fun i => ∃ k : Nat, k ≤ args.length ∧ i = .int .i64 k ∧ ∀ y ∈ args.take k, 0 ≤ y) (fun i => args.length - (intOf i).toNat)
  case atStart => exact ⟨0, Nat.zero_le _, rfl, by simp⟩
  case round =>
    obtain ⟨k, hk, rfl, hf⟩ := hrel
    have HF := shid hf
    clear hf
    by_cases hlt : k < args.length
    · obtain rfl := HPA.out (by omega)
      have c1 := HKA1.out k hlt
      have HT := shid (List.take_succ_eq_append_getElem hlt)
      have HM := shid (List.getElem_mem hlt)
      rw [Nat.mul_one] at c1
      generalize args[k] = y at c1 HT HM
      have h1 : (k : Int) < args.length := by omega
      by_cases hy : y < 0
      · go_wp2_with fail
        go_ret
        refine ⟨congrArg (fun b => Ending.returned (.bool b)) (?_ : _ = decide (insF fs nb 4 d a b n f args l1 l2)), HW1.out⟩
        refine (decide_eq_false (fun hh => ?_)).symm
        have := hh.2.2.2.2.2.1 y HM.out
        omega
      · go_wp2_with fail
        go_round
        case rel => exact ⟨k + 1, by omega, by go_num, fun z hz => by
          rw [HT.out] at hz
          rcases List.mem_append.1 hz with h | h
          · exact HF.out z h
          · simp at h; omega⟩
        case measure => simp [intOf]; omega
    · have HG : Hid (∀ y ∈ args, 0 ≤ y) := shid (by have h := HF.out; rw [List.take_of_length_le (by omega)] at h; exact h)
      obtain rfl : k = args.length := by omega
      clear HF hlt hk HKA1 HPA
      go_wp2_with fail
      all_goals try (go_ret; refine ⟨congrArg (fun b => Ending.returned (.bool b)) (?_ : _ = decide (insF fs nb 4 d a b n f args l1 l2)), by first | exact HW1.out | exact sdrewN HW1.out _⟩; (refine (decide_eq_false (fun hh => ?_)).symm; obtain ⟨i1, i2, i3, i4, i5, i6, i7, i8, i9⟩ := hh; omega); done)
      go_quiet (fail)
      go_wp2_with fail
      all_goals
        go_ret
        refine ⟨congrArg (fun b => Ending.returned (.bool b)) (?_ : _ = decide (insF fs nb 4 d a b n f args l1 l2)), by first | exact HW1.out | exact sdrewN HW1.out _⟩
        first
          | exact (decide_eq_true ⟨by omega, HE.out, by omega, by omega, by omega, HG.out, by omega, by omega, by omega⟩).symm
          | (refine (decide_eq_false (fun hh => ?_)).symm; obtain ⟨i1, i2, i3, i4, i5, i6, i7, i8, i9⟩ := hh; omega)
          | (refine decide_eq_decide.2 ⟨fun hh => ⟨by omega, HE.out, by omega, by omega, by omega, HG.out, by omega, by omega, by omega⟩, fun hh => ?_⟩; obtain ⟨i1, i2, i3, i4, i5, i6, i7, i8, i9⟩ := hh; omega)
set_option maxRecDepth 100000 in
set_option maxHeartbeats 2000000 in
theorem one_5 (fs : List Fnx) (nb : Nat) (hnb : nb * 40 ≤ 140737488352000) (d a b n f : Int) (args : List Int) (l1 l2 : Int) (hp : Int) (pt : Option Addr) (nt ct : Nat) (pf : Option Addr) (cf : Nat) (fnm : ByteArray) (fa fr : Int) (pb : Option Addr) (cb : Nat) (pa : Option Addr) (ca : Nat) (w : World) (hF : FnsIn w (.slice pf fs.length cf) fs) (hA : IntsIn w (.slice pa args.length ca) args) :
    Calls Try.prog 45 #[.agg #[.int .i64 hp, .slice pt nt ct, .slice pf fs.length cf], .agg #[.string fnm, .int .i64 fa, .int .i64 fr, .slice pb nb cb], .agg #[.int .u8 5, .int .i64 d, .int .i64 a, .int .i64 b, .int .u32 n, .int .i64 f, .slice pa args.length ca, .int .i64 l1, .int .i64 l2]] w fun e w' => e = .returned (.bool (decide (insF fs nb 5 d a b n f args l1 l2))) ∧ Below w.heap.size w w' := by
  obtain ⟨pfb, cfb, bf, of, hfe, hfl, HFS⟩ := hF.hids
  cases hfe
  obtain ⟨pab, cab, ba, oa, hae, hal, HAS⟩ := hA.hids
  cases hae
  clear hF hA
  have HKF := shid (fun (W : World) (hb : Below w.heap.size w W) (k : Nat) (hk : k < fs.length) => ((hb.cell (p := ⟨bf, of + k * 4 + 1, none⟩) (World.block_lt_of_cell? _ _ (fnargs_cell HFS.out.2 k hk))).trans (fnargs_cell HFS.out.2 k hk)))
  have HKA := shid (fun (W : World) (hb : Below w.heap.size w W) (k : Nat) (hk : k < args.length) => ((hb.cell (World.block_lt_of_cell? _ _ (HAS.out.2 k args[k] (List.getElem?_eq_getElem hk)).1)).trans (HAS.out.2 k args[k] (List.getElem?_eq_getElem hk)).1))
  have HNIL : Hid (args.length = 0 → args = []) := shid List.eq_nil_of_length_eq_zero
  have HWA := shid (show Below w.heap.size w (w.alloc (.cells #[.int .i64 hp, .slice pt nt ct, .slice pf fs.length cf] 25)) from (Below.refl _ _).alloc (Nat.le_refl _) _)
  have HBP := shid (PBox.new w hp (.slice pt nt ct) (.slice pf fs.length cf) 25)
  have HEM := shid (fun W => empty_any 5 d a b n f args.length l1 l2 (by omega) (by omega) pa ca W)
  by_cases hE : emptyF 5 d a b n f args.length l1 l2
  case neg =>
    have HNE := shid hE
    have HEM' := shid (fun W => by have h := HEM.out W; rw [decide_eq_false hE] at h; exact h)
    clear hE HEM
    have HWe : Hid True := shid trivial
    go_enter Try.func45, Try.ntmps45
    go_wp2_with (go_at_call 56; (with_reducible refine (HEM'.out _).mono ?_); rintro e w1 ⟨rfl, hb1⟩)
    go_ret
    refine ⟨congrArg (fun b => Ending.returned (.bool b)) (?_ : _ = decide (insF fs nb 5 d a b n f args l1 l2)), sbt (al3 _ _ _ _) hb1⟩
    refine (decide_eq_false (fun hh => ?_)).symm
    exact HNE.out hh.2.1
  have HE := shid hE
  have HEM' := shid (fun W => by have h := HEM.out W; rw [decide_eq_true hE] at h; exact h)
  clear hE HEM
  go_enter Try.func45, Try.ntmps45
  go_wp2_with fail
  (with_reducible refine (HEM'.out _).mono ?_)
  rintro e w1 ⟨rfl, hb1⟩
  have HW1 := shid (sbt (al3 _ _ _ _) hb1)
  have HBI := shid ((Ibox_of ((w.alloc (.cells #[.int .i64 hp, .slice pt nt ct, .slice pf fs.length cf] 25)).alloc (.cells #[.string fnm, .int .i64 fa, .int .i64 fr, .slice pb nb cb] 37)) 5 d a b n f (.slice pa args.length ca) l1 l2 44).keep hb1)
  have HBF := shid ((FBox.new (w.alloc (.cells #[.int .i64 hp, .slice pt nt ct, .slice pf fs.length cf] 25)) fnm fa fr (.slice pb nb cb) 37).keep (sbt (al1 _ _) hb1))
  have HBQ := shid (HBP.out.keep (sbt (al2 _ _ _) hb1))
  have HKF1 := shid (HKF.out w1 HW1.out)
  have HKA1 := shid (HKA.out w1 HW1.out)
  simp only [World.size_alloc] at HBI HBF HBQ
  have HPF := shid HFS.out.1
  have HPA := shid HAS.out.1
  clear hb1 HKF HKA HBP HWA HFS HAS
  obtain ⟨blt, b0, b1, b2, b3, b4, b5, b6, b7, b8⟩ := HBI.out
  obtain ⟨_, f0, f1, f2, f3⟩ := HBF.out
  obtain ⟨_, p0, p1, p2⟩ := HBQ.out
  simp only at b0 b1 b2 b3 b4 b5 b7 b8
  go_wp2_with fail
  all_goals try (go_ret; refine ⟨congrArg (fun b => Ending.returned (.bool b)) (?_ : _ = decide (insF fs nb 5 d a b n f args l1 l2)), HW1.out⟩; refine (decide_eq_false (fun hh => ?_)).symm; obtain ⟨i1, i2, i3, i4, i5, i6, i7, i8, i9⟩ := hh; omega; done)
  go_loop [7] (fun i => ∃ k : Nat, k ≤ args.length ∧ i = .int .i64 k ∧ ∀ y ∈ args.take k, 0 ≤ y) (fun i => args.length - (intOf i).toNat)
  case atStart => exact ⟨0, Nat.zero_le _, rfl, by simp⟩
  case round =>
    obtain ⟨k, hk, rfl, hf⟩ := hrel
    have HF := shid hf
    clear hf
    by_cases hlt : k < args.length
    · obtain rfl := HPA.out (by omega)
      have c1 := HKA1.out k hlt
      have HT := shid (List.take_succ_eq_append_getElem hlt)
      have HM := shid (List.getElem_mem hlt)
      rw [Nat.mul_one] at c1
      generalize args[k] = y at c1 HT HM
      have h1 : (k : Int) < args.length := by omega
      by_cases hy : y < 0
      · go_wp2_with fail
        go_ret
        refine ⟨congrArg (fun b => Ending.returned (.bool b)) (?_ : _ = decide (insF fs nb 5 d a b n f args l1 l2)), HW1.out⟩
        refine (decide_eq_false (fun hh => ?_)).symm
        have := hh.2.2.2.2.2.1 y HM.out
        omega
      · go_wp2_with fail
        go_round
        case rel => exact ⟨k + 1, by omega, by go_num, fun z hz => by
          rw [HT.out] at hz
          rcases List.mem_append.1 hz with h | h
          · exact HF.out z h
          · simp at h; omega⟩
        case measure => simp [intOf]; omega
    · have HG : Hid (∀ y ∈ args, 0 ≤ y) := shid (by have h := HF.out; rw [List.take_of_length_le (by omega)] at h; exact h)
      obtain rfl : k = args.length := by omega
      clear HF hlt hk HKA1 HPA
      by_cases hf0 : f < 0
      case pos =>
        have d1 : decide (f < 0) = true := decide_eq_true hf0
        go_wp2_with fail
        go_quiet (fail)
        go_wp2_with fail
        go_ret
        refine ⟨congrArg (fun b => Ending.returned (.bool b)) (?_ : _ = decide (insF fs nb 5 d a b n f args l1 l2)), by first | exact HW1.out | exact sdrewN HW1.out _⟩
        (refine (decide_eq_false (fun hh => ?_)).symm; obtain ⟨i1, i2, i3, i4, i5, i6, i7, i8, i9⟩ := hh; omega)
      obtain ⟨j, rfl⟩ := Int.eq_ofNat_of_zero_le (Int.not_lt.1 hf0)
      have d1 : decide ((j : Int) < 0) = false := decide_eq_false hf0
      by_cases hf1 : j < fs.length
      case neg =>
        have d2 : decide (fs.length ≤ j) = true := decide_eq_true (by omega)
        go_wp2_with fail
        go_quiet (fail)
        go_wp2_with fail
        go_ret
        refine ⟨congrArg (fun b => Ending.returned (.bool b)) (?_ : _ = decide (insF fs nb 5 d a b n (j : Int) args l1 l2)), by first | exact HW1.out | exact sdrewN HW1.out _⟩
        (refine (decide_eq_false (fun hh => ?_)).symm; obtain ⟨i1, i2, i3, i4, i5, i6, i7, i8, i9⟩ := hh; omega)
      have d2 : decide (fs.length ≤ j) = false := decide_eq_false (by omega)
      have c1 := HKF1.out j hf1
      obtain rfl := HPF.out (by omega)
      have h3 : (j : Int) < fs.length := by omega
      have hj : (j : Int).toNat = j := by omega
      generalize hao : argsOf fs j = ao at c1
      have HAO := shid hao
      clear hao
      by_cases hq : (args.length : Int) = ao
      · have hne : ((args.length : Int) != ao) = false := by simpa using hq
        have HQ := shid hq
        clear hq
        go_wp2_with fail
        go_quiet (fail)
        go_wp2_with fail
        go_ret
        refine ⟨congrArg (fun b => Ending.returned (.bool b)) (?_ : _ = decide (insF fs nb 5 d a b n (j : Int) args l1 l2)), by first | exact HW1.out | exact sdrewN HW1.out _⟩
        refine (decide_eq_true ⟨by omega, HE.out, by omega, by omega, by omega, HG.out, by omega, fun _ => ⟨by omega, by omega, ?_⟩, by omega⟩).symm
        rw [hj, HAO.out]; exact HQ.out
      · have hne : ((args.length : Int) != ao) = true := by simpa using hq
        have HQ := shid hq
        clear hq
        go_wp2_with fail
        go_quiet (fail)
        go_wp2_with fail
        go_ret
        refine ⟨congrArg (fun b => Ending.returned (.bool b)) (?_ : _ = decide (insF fs nb 5 d a b n (j : Int) args l1 l2)), by first | exact HW1.out | exact sdrewN HW1.out _⟩
        refine (decide_eq_false (fun hh => ?_)).symm
        have h8 := (hh.2.2.2.2.2.2.2.1 rfl).2.2
        rw [hj, HAO.out] at h8
        exact HQ.out h8
set_option maxRecDepth 100000 in
set_option maxHeartbeats 2000000 in
theorem one_6 (fs : List Fnx) (nb : Nat) (hnb : nb * 40 ≤ 140737488352000) (d a b n f : Int) (args : List Int) (l1 l2 : Int) (hp : Int) (pt : Option Addr) (nt ct : Nat) (pf : Option Addr) (cf : Nat) (fnm : ByteArray) (fa fr : Int) (pb : Option Addr) (cb : Nat) (pa : Option Addr) (ca : Nat) (w : World) (hF : FnsIn w (.slice pf fs.length cf) fs) (hA : IntsIn w (.slice pa args.length ca) args) :
    Calls Try.prog 45 #[.agg #[.int .i64 hp, .slice pt nt ct, .slice pf fs.length cf], .agg #[.string fnm, .int .i64 fa, .int .i64 fr, .slice pb nb cb], .agg #[.int .u8 6, .int .i64 d, .int .i64 a, .int .i64 b, .int .u32 n, .int .i64 f, .slice pa args.length ca, .int .i64 l1, .int .i64 l2]] w fun e w' => e = .returned (.bool (decide (insF fs nb 6 d a b n f args l1 l2))) ∧ Below w.heap.size w w' := by
  obtain ⟨pfb, cfb, bf, of, hfe, hfl, HFS⟩ := hF.hids
  cases hfe
  obtain ⟨pab, cab, ba, oa, hae, hal, HAS⟩ := hA.hids
  cases hae
  clear hF hA
  have HKF := shid (fun (W : World) (hb : Below w.heap.size w W) (k : Nat) (hk : k < fs.length) => ((hb.cell (p := ⟨bf, of + k * 4 + 1, none⟩) (World.block_lt_of_cell? _ _ (fnargs_cell HFS.out.2 k hk))).trans (fnargs_cell HFS.out.2 k hk)))
  have HKA := shid (fun (W : World) (hb : Below w.heap.size w W) (k : Nat) (hk : k < args.length) => ((hb.cell (World.block_lt_of_cell? _ _ (HAS.out.2 k args[k] (List.getElem?_eq_getElem hk)).1)).trans (HAS.out.2 k args[k] (List.getElem?_eq_getElem hk)).1))
  have HNIL : Hid (args.length = 0 → args = []) := shid List.eq_nil_of_length_eq_zero
  have HWA := shid (show Below w.heap.size w (w.alloc (.cells #[.int .i64 hp, .slice pt nt ct, .slice pf fs.length cf] 25)) from (Below.refl _ _).alloc (Nat.le_refl _) _)
  have HBP := shid (PBox.new w hp (.slice pt nt ct) (.slice pf fs.length cf) 25)
  have HEM := shid (fun W => empty_any 6 d a b n f args.length l1 l2 (by omega) (by omega) pa ca W)
  by_cases hE : emptyF 6 d a b n f args.length l1 l2
  case neg =>
    have HNE := shid hE
    have HEM' := shid (fun W => by have h := HEM.out W; rw [decide_eq_false hE] at h; exact h)
    clear hE HEM
    have HWe : Hid True := shid trivial
    go_enter Try.func45, Try.ntmps45
    go_wp2_with (go_at_call 56; (with_reducible refine (HEM'.out _).mono ?_); rintro e w1 ⟨rfl, hb1⟩)
    go_ret
    refine ⟨congrArg (fun b => Ending.returned (.bool b)) (?_ : _ = decide (insF fs nb 6 d a b n f args l1 l2)), sbt (al3 _ _ _ _) hb1⟩
    refine (decide_eq_false (fun hh => ?_)).symm
    exact HNE.out hh.2.1
  have HE := shid hE
  have HEM' := shid (fun W => by have h := HEM.out W; rw [decide_eq_true hE] at h; exact h)
  clear hE HEM
  go_enter Try.func45, Try.ntmps45
  go_wp2_with fail
  (with_reducible refine (HEM'.out _).mono ?_)
  rintro e w1 ⟨rfl, hb1⟩
  have HW1 := shid (sbt (al3 _ _ _ _) hb1)
  have HBI := shid ((Ibox_of ((w.alloc (.cells #[.int .i64 hp, .slice pt nt ct, .slice pf fs.length cf] 25)).alloc (.cells #[.string fnm, .int .i64 fa, .int .i64 fr, .slice pb nb cb] 37)) 6 d a b n f (.slice pa args.length ca) l1 l2 44).keep hb1)
  have HBF := shid ((FBox.new (w.alloc (.cells #[.int .i64 hp, .slice pt nt ct, .slice pf fs.length cf] 25)) fnm fa fr (.slice pb nb cb) 37).keep (sbt (al1 _ _) hb1))
  have HBQ := shid (HBP.out.keep (sbt (al2 _ _ _) hb1))
  have HKF1 := shid (HKF.out w1 HW1.out)
  have HKA1 := shid (HKA.out w1 HW1.out)
  simp only [World.size_alloc] at HBI HBF HBQ
  have HPF := shid HFS.out.1
  have HPA := shid HAS.out.1
  clear hb1 HKF HKA HBP HWA HFS HAS
  obtain ⟨blt, b0, b1, b2, b3, b4, b5, b6, b7, b8⟩ := HBI.out
  obtain ⟨_, f0, f1, f2, f3⟩ := HBF.out
  obtain ⟨_, p0, p1, p2⟩ := HBQ.out
  simp only at b0 b1 b2 b3 b4 b5 b7 b8
  go_wp2_with fail
  all_goals try (go_ret; refine ⟨congrArg (fun b => Ending.returned (.bool b)) (?_ : _ = decide (insF fs nb 6 d a b n f args l1 l2)), HW1.out⟩; refine (decide_eq_false (fun hh => ?_)).symm; obtain ⟨i1, i2, i3, i4, i5, i6, i7, i8, i9⟩ := hh; omega; done)
  go_loop [7] (fun i => ∃ k : Nat, k ≤ args.length ∧ i = .int .i64 k ∧ ∀ y ∈ args.take k, 0 ≤ y) (fun i => args.length - (intOf i).toNat)
  case atStart => exact ⟨0, Nat.zero_le _, rfl, by simp⟩
  case round =>
    obtain ⟨k, hk, rfl, hf⟩ := hrel
    have HF := shid hf
    clear hf
    by_cases hlt : k < args.length
    · obtain rfl := HPA.out (by omega)
      have c1 := HKA1.out k hlt
      have HT := shid (List.take_succ_eq_append_getElem hlt)
      have HM := shid (List.getElem_mem hlt)
      rw [Nat.mul_one] at c1
      generalize args[k] = y at c1 HT HM
      have h1 : (k : Int) < args.length := by omega
      by_cases hy : y < 0
      · go_wp2_with fail
        go_ret
        refine ⟨congrArg (fun b => Ending.returned (.bool b)) (?_ : _ = decide (insF fs nb 6 d a b n f args l1 l2)), HW1.out⟩
        refine (decide_eq_false (fun hh => ?_)).symm
        have := hh.2.2.2.2.2.1 y HM.out
        omega
      · go_wp2_with fail
        go_round
        case rel => exact ⟨k + 1, by omega, by go_num, fun z hz => by
          rw [HT.out] at hz
          rcases List.mem_append.1 hz with h | h
          · exact HF.out z h
          · simp at h; omega⟩
        case measure => simp [intOf]; omega
    · have HG : Hid (∀ y ∈ args, 0 ≤ y) := shid (by have h := HF.out; rw [List.take_of_length_le (by omega)] at h; exact h)
      obtain rfl : k = args.length := by omega
      clear HF hlt hk HKA1 HPA
      go_wp2_with fail
      all_goals try (go_ret; refine ⟨congrArg (fun b => Ending.returned (.bool b)) (?_ : _ = decide (insF fs nb 6 d a b n f args l1 l2)), by first | exact HW1.out | exact sdrewN HW1.out _⟩; (refine (decide_eq_false (fun hh => ?_)).symm; obtain ⟨i1, i2, i3, i4, i5, i6, i7, i8, i9⟩ := hh; omega); done)
      go_quiet (fail)
      go_wp2_with fail
      all_goals
        go_ret
        refine ⟨congrArg (fun b => Ending.returned (.bool b)) (?_ : _ = decide (insF fs nb 6 d a b n f args l1 l2)), by first | exact HW1.out | exact sdrewN HW1.out _⟩
        first
          | exact (decide_eq_true ⟨by omega, HE.out, by omega, by omega, by omega, HG.out, by omega, by omega, by omega⟩).symm
          | (refine (decide_eq_false (fun hh => ?_)).symm; obtain ⟨i1, i2, i3, i4, i5, i6, i7, i8, i9⟩ := hh; omega)
          | (refine decide_eq_decide.2 ⟨fun hh => ⟨by omega, HE.out, by omega, by omega, by omega, HG.out, by omega, by omega, by omega⟩, fun hh => ?_⟩; obtain ⟨i1, i2, i3, i4, i5, i6, i7, i8, i9⟩ := hh; omega)
set_option maxRecDepth 100000 in
set_option maxHeartbeats 2000000 in
theorem one_7 (fs : List Fnx) (nb : Nat) (hnb : nb * 40 ≤ 140737488352000) (d a b n f : Int) (args : List Int) (l1 l2 : Int) (hp : Int) (pt : Option Addr) (nt ct : Nat) (pf : Option Addr) (cf : Nat) (fnm : ByteArray) (fa fr : Int) (pb : Option Addr) (cb : Nat) (pa : Option Addr) (ca : Nat) (w : World) (hF : FnsIn w (.slice pf fs.length cf) fs) (hA : IntsIn w (.slice pa args.length ca) args) :
    Calls Try.prog 45 #[.agg #[.int .i64 hp, .slice pt nt ct, .slice pf fs.length cf], .agg #[.string fnm, .int .i64 fa, .int .i64 fr, .slice pb nb cb], .agg #[.int .u8 7, .int .i64 d, .int .i64 a, .int .i64 b, .int .u32 n, .int .i64 f, .slice pa args.length ca, .int .i64 l1, .int .i64 l2]] w fun e w' => e = .returned (.bool (decide (insF fs nb 7 d a b n f args l1 l2))) ∧ Below w.heap.size w w' := by
  obtain ⟨pfb, cfb, bf, of, hfe, hfl, HFS⟩ := hF.hids
  cases hfe
  obtain ⟨pab, cab, ba, oa, hae, hal, HAS⟩ := hA.hids
  cases hae
  clear hF hA
  have HKF := shid (fun (W : World) (hb : Below w.heap.size w W) (k : Nat) (hk : k < fs.length) => ((hb.cell (p := ⟨bf, of + k * 4 + 1, none⟩) (World.block_lt_of_cell? _ _ (fnargs_cell HFS.out.2 k hk))).trans (fnargs_cell HFS.out.2 k hk)))
  have HKA := shid (fun (W : World) (hb : Below w.heap.size w W) (k : Nat) (hk : k < args.length) => ((hb.cell (World.block_lt_of_cell? _ _ (HAS.out.2 k args[k] (List.getElem?_eq_getElem hk)).1)).trans (HAS.out.2 k args[k] (List.getElem?_eq_getElem hk)).1))
  have HNIL : Hid (args.length = 0 → args = []) := shid List.eq_nil_of_length_eq_zero
  have HWA := shid (show Below w.heap.size w (w.alloc (.cells #[.int .i64 hp, .slice pt nt ct, .slice pf fs.length cf] 25)) from (Below.refl _ _).alloc (Nat.le_refl _) _)
  have HBP := shid (PBox.new w hp (.slice pt nt ct) (.slice pf fs.length cf) 25)
  have HEM := shid (fun W => empty_any 7 d a b n f args.length l1 l2 (by omega) (by omega) pa ca W)
  by_cases hE : emptyF 7 d a b n f args.length l1 l2
  case neg =>
    have HNE := shid hE
    have HEM' := shid (fun W => by have h := HEM.out W; rw [decide_eq_false hE] at h; exact h)
    clear hE HEM
    have HWe : Hid True := shid trivial
    go_enter Try.func45, Try.ntmps45
    go_wp2_with (go_at_call 56; (with_reducible refine (HEM'.out _).mono ?_); rintro e w1 ⟨rfl, hb1⟩)
    go_ret
    refine ⟨congrArg (fun b => Ending.returned (.bool b)) (?_ : _ = decide (insF fs nb 7 d a b n f args l1 l2)), sbt (al3 _ _ _ _) hb1⟩
    refine (decide_eq_false (fun hh => ?_)).symm
    exact HNE.out hh.2.1
  have HE := shid hE
  have HEM' := shid (fun W => by have h := HEM.out W; rw [decide_eq_true hE] at h; exact h)
  clear hE HEM
  go_enter Try.func45, Try.ntmps45
  go_wp2_with fail
  (with_reducible refine (HEM'.out _).mono ?_)
  rintro e w1 ⟨rfl, hb1⟩
  have HW1 := shid (sbt (al3 _ _ _ _) hb1)
  have HBI := shid ((Ibox_of ((w.alloc (.cells #[.int .i64 hp, .slice pt nt ct, .slice pf fs.length cf] 25)).alloc (.cells #[.string fnm, .int .i64 fa, .int .i64 fr, .slice pb nb cb] 37)) 7 d a b n f (.slice pa args.length ca) l1 l2 44).keep hb1)
  have HBF := shid ((FBox.new (w.alloc (.cells #[.int .i64 hp, .slice pt nt ct, .slice pf fs.length cf] 25)) fnm fa fr (.slice pb nb cb) 37).keep (sbt (al1 _ _) hb1))
  have HBQ := shid (HBP.out.keep (sbt (al2 _ _ _) hb1))
  have HKF1 := shid (HKF.out w1 HW1.out)
  have HKA1 := shid (HKA.out w1 HW1.out)
  simp only [World.size_alloc] at HBI HBF HBQ
  have HPF := shid HFS.out.1
  have HPA := shid HAS.out.1
  clear hb1 HKF HKA HBP HWA HFS HAS
  obtain ⟨blt, b0, b1, b2, b3, b4, b5, b6, b7, b8⟩ := HBI.out
  obtain ⟨_, f0, f1, f2, f3⟩ := HBF.out
  obtain ⟨_, p0, p1, p2⟩ := HBQ.out
  simp only at b0 b1 b2 b3 b4 b5 b7 b8
  go_wp2_with fail
  all_goals try (go_ret; refine ⟨congrArg (fun b => Ending.returned (.bool b)) (?_ : _ = decide (insF fs nb 7 d a b n f args l1 l2)), HW1.out⟩; refine (decide_eq_false (fun hh => ?_)).symm; obtain ⟨i1, i2, i3, i4, i5, i6, i7, i8, i9⟩ := hh; omega; done)
  go_loop [7] (fun i => ∃ k : Nat, k ≤ args.length ∧ i = .int .i64 k ∧ ∀ y ∈ args.take k, 0 ≤ y) (fun i => args.length - (intOf i).toNat)
  case atStart => exact ⟨0, Nat.zero_le _, rfl, by simp⟩
  case round =>
    obtain ⟨k, hk, rfl, hf⟩ := hrel
    have HF := shid hf
    clear hf
    by_cases hlt : k < args.length
    · obtain rfl := HPA.out (by omega)
      have c1 := HKA1.out k hlt
      have HT := shid (List.take_succ_eq_append_getElem hlt)
      have HM := shid (List.getElem_mem hlt)
      rw [Nat.mul_one] at c1
      generalize args[k] = y at c1 HT HM
      have h1 : (k : Int) < args.length := by omega
      by_cases hy : y < 0
      · go_wp2_with fail
        go_ret
        refine ⟨congrArg (fun b => Ending.returned (.bool b)) (?_ : _ = decide (insF fs nb 7 d a b n f args l1 l2)), HW1.out⟩
        refine (decide_eq_false (fun hh => ?_)).symm
        have := hh.2.2.2.2.2.1 y HM.out
        omega
      · go_wp2_with fail
        go_round
        case rel => exact ⟨k + 1, by omega, by go_num, fun z hz => by
          rw [HT.out] at hz
          rcases List.mem_append.1 hz with h | h
          · exact HF.out z h
          · simp at h; omega⟩
        case measure => simp [intOf]; omega
    · have HG : Hid (∀ y ∈ args, 0 ≤ y) := shid (by have h := HF.out; rw [List.take_of_length_le (by omega)] at h; exact h)
      obtain rfl : k = args.length := by omega
      clear HF hlt hk HKA1 HPA
      go_wp2_with fail
      all_goals try (go_ret; refine ⟨congrArg (fun b => Ending.returned (.bool b)) (?_ : _ = decide (insF fs nb 7 d a b n f args l1 l2)), by first | exact HW1.out | exact sdrewN HW1.out _⟩; (refine (decide_eq_false (fun hh => ?_)).symm; obtain ⟨i1, i2, i3, i4, i5, i6, i7, i8, i9⟩ := hh; omega); done)
      go_quiet (fail)
      go_wp2_with fail
      all_goals
        go_ret
        refine ⟨congrArg (fun b => Ending.returned (.bool b)) (?_ : _ = decide (insF fs nb 7 d a b n f args l1 l2)), by first | exact HW1.out | exact sdrewN HW1.out _⟩
        first
          | exact (decide_eq_true ⟨by omega, HE.out, by omega, by omega, by omega, HG.out, by omega, by omega, by omega⟩).symm
          | (refine (decide_eq_false (fun hh => ?_)).symm; obtain ⟨i1, i2, i3, i4, i5, i6, i7, i8, i9⟩ := hh; omega)
          | (refine decide_eq_decide.2 ⟨fun hh => ⟨by omega, HE.out, by omega, by omega, by omega, HG.out, by omega, by omega, by omega⟩, fun hh => ?_⟩; obtain ⟨i1, i2, i3, i4, i5, i6, i7, i8, i9⟩ := hh; omega)
set_option maxRecDepth 100000 in
set_option maxHeartbeats 2000000 in
theorem one_8 (fs : List Fnx) (nb : Nat) (hnb : nb * 40 ≤ 140737488352000) (d a b n f : Int) (args : List Int) (l1 l2 : Int) (hp : Int) (pt : Option Addr) (nt ct : Nat) (pf : Option Addr) (cf : Nat) (fnm : ByteArray) (fa fr : Int) (pb : Option Addr) (cb : Nat) (pa : Option Addr) (ca : Nat) (w : World) (hF : FnsIn w (.slice pf fs.length cf) fs) (hA : IntsIn w (.slice pa args.length ca) args) :
    Calls Try.prog 45 #[.agg #[.int .i64 hp, .slice pt nt ct, .slice pf fs.length cf], .agg #[.string fnm, .int .i64 fa, .int .i64 fr, .slice pb nb cb], .agg #[.int .u8 8, .int .i64 d, .int .i64 a, .int .i64 b, .int .u32 n, .int .i64 f, .slice pa args.length ca, .int .i64 l1, .int .i64 l2]] w fun e w' => e = .returned (.bool (decide (insF fs nb 8 d a b n f args l1 l2))) ∧ Below w.heap.size w w' := by
  obtain ⟨pfb, cfb, bf, of, hfe, hfl, HFS⟩ := hF.hids
  cases hfe
  obtain ⟨pab, cab, ba, oa, hae, hal, HAS⟩ := hA.hids
  cases hae
  clear hF hA
  have HKF := shid (fun (W : World) (hb : Below w.heap.size w W) (k : Nat) (hk : k < fs.length) => ((hb.cell (p := ⟨bf, of + k * 4 + 1, none⟩) (World.block_lt_of_cell? _ _ (fnargs_cell HFS.out.2 k hk))).trans (fnargs_cell HFS.out.2 k hk)))
  have HKA := shid (fun (W : World) (hb : Below w.heap.size w W) (k : Nat) (hk : k < args.length) => ((hb.cell (World.block_lt_of_cell? _ _ (HAS.out.2 k args[k] (List.getElem?_eq_getElem hk)).1)).trans (HAS.out.2 k args[k] (List.getElem?_eq_getElem hk)).1))
  have HNIL : Hid (args.length = 0 → args = []) := shid List.eq_nil_of_length_eq_zero
  have HWA := shid (show Below w.heap.size w (w.alloc (.cells #[.int .i64 hp, .slice pt nt ct, .slice pf fs.length cf] 25)) from (Below.refl _ _).alloc (Nat.le_refl _) _)
  have HBP := shid (PBox.new w hp (.slice pt nt ct) (.slice pf fs.length cf) 25)
  have HEM := shid (fun W => empty_any 8 d a b n f args.length l1 l2 (by omega) (by omega) pa ca W)
  by_cases hE : emptyF 8 d a b n f args.length l1 l2
  case neg =>
    have HNE := shid hE
    have HEM' := shid (fun W => by have h := HEM.out W; rw [decide_eq_false hE] at h; exact h)
    clear hE HEM
    have HWe : Hid True := shid trivial
    go_enter Try.func45, Try.ntmps45
    go_wp2_with (go_at_call 56; (with_reducible refine (HEM'.out _).mono ?_); rintro e w1 ⟨rfl, hb1⟩)
    go_ret
    refine ⟨congrArg (fun b => Ending.returned (.bool b)) (?_ : _ = decide (insF fs nb 8 d a b n f args l1 l2)), sbt (al3 _ _ _ _) hb1⟩
    refine (decide_eq_false (fun hh => ?_)).symm
    exact HNE.out hh.2.1
  have HE := shid hE
  have HEM' := shid (fun W => by have h := HEM.out W; rw [decide_eq_true hE] at h; exact h)
  clear hE HEM
  go_enter Try.func45, Try.ntmps45
  go_wp2_with fail
  (with_reducible refine (HEM'.out _).mono ?_)
  rintro e w1 ⟨rfl, hb1⟩
  have HW1 := shid (sbt (al3 _ _ _ _) hb1)
  have HBI := shid ((Ibox_of ((w.alloc (.cells #[.int .i64 hp, .slice pt nt ct, .slice pf fs.length cf] 25)).alloc (.cells #[.string fnm, .int .i64 fa, .int .i64 fr, .slice pb nb cb] 37)) 8 d a b n f (.slice pa args.length ca) l1 l2 44).keep hb1)
  have HBF := shid ((FBox.new (w.alloc (.cells #[.int .i64 hp, .slice pt nt ct, .slice pf fs.length cf] 25)) fnm fa fr (.slice pb nb cb) 37).keep (sbt (al1 _ _) hb1))
  have HBQ := shid (HBP.out.keep (sbt (al2 _ _ _) hb1))
  have HKF1 := shid (HKF.out w1 HW1.out)
  have HKA1 := shid (HKA.out w1 HW1.out)
  simp only [World.size_alloc] at HBI HBF HBQ
  have HPF := shid HFS.out.1
  have HPA := shid HAS.out.1
  clear hb1 HKF HKA HBP HWA HFS HAS
  obtain ⟨blt, b0, b1, b2, b3, b4, b5, b6, b7, b8⟩ := HBI.out
  obtain ⟨_, f0, f1, f2, f3⟩ := HBF.out
  obtain ⟨_, p0, p1, p2⟩ := HBQ.out
  simp only at b0 b1 b2 b3 b4 b5 b7 b8
  go_wp2_with fail
  all_goals try (go_ret; refine ⟨congrArg (fun b => Ending.returned (.bool b)) (?_ : _ = decide (insF fs nb 8 d a b n f args l1 l2)), HW1.out⟩; refine (decide_eq_false (fun hh => ?_)).symm; obtain ⟨i1, i2, i3, i4, i5, i6, i7, i8, i9⟩ := hh; omega; done)
  go_loop [7] (fun i => ∃ k : Nat, k ≤ args.length ∧ i = .int .i64 k ∧ ∀ y ∈ args.take k, 0 ≤ y) (fun i => args.length - (intOf i).toNat)
  case atStart => exact ⟨0, Nat.zero_le _, rfl, by simp⟩
  case round =>
    obtain ⟨k, hk, rfl, hf⟩ := hrel
    have HF := shid hf
    clear hf
    by_cases hlt : k < args.length
    · obtain rfl := HPA.out (by omega)
      have c1 := HKA1.out k hlt
      have HT := shid (List.take_succ_eq_append_getElem hlt)
      have HM := shid (List.getElem_mem hlt)
      rw [Nat.mul_one] at c1
      generalize args[k] = y at c1 HT HM
      have h1 : (k : Int) < args.length := by omega
      by_cases hy : y < 0
      · go_wp2_with fail
        go_ret
        refine ⟨congrArg (fun b => Ending.returned (.bool b)) (?_ : _ = decide (insF fs nb 8 d a b n f args l1 l2)), HW1.out⟩
        refine (decide_eq_false (fun hh => ?_)).symm
        have := hh.2.2.2.2.2.1 y HM.out
        omega
      · go_wp2_with fail
        go_round
        case rel => exact ⟨k + 1, by omega, by go_num, fun z hz => by
          rw [HT.out] at hz
          rcases List.mem_append.1 hz with h | h
          · exact HF.out z h
          · simp at h; omega⟩
        case measure => simp [intOf]; omega
    · have HG : Hid (∀ y ∈ args, 0 ≤ y) := shid (by have h := HF.out; rw [List.take_of_length_le (by omega)] at h; exact h)
      obtain rfl : k = args.length := by omega
      clear HF hlt hk HKA1 HPA
      go_wp2_with fail
      all_goals try (go_ret; refine ⟨congrArg (fun b => Ending.returned (.bool b)) (?_ : _ = decide (insF fs nb 8 d a b n f args l1 l2)), by first | exact HW1.out | exact sdrewN HW1.out _⟩; (refine (decide_eq_false (fun hh => ?_)).symm; obtain ⟨i1, i2, i3, i4, i5, i6, i7, i8, i9⟩ := hh; omega); done)
      go_quiet (fail)
      go_wp2_with fail
      all_goals
        go_ret
        refine ⟨congrArg (fun b => Ending.returned (.bool b)) (?_ : _ = decide (insF fs nb 8 d a b n f args l1 l2)), by first | exact HW1.out | exact sdrewN HW1.out _⟩
        first
          | exact (decide_eq_true ⟨by omega, HE.out, by omega, by omega, by omega, HG.out, by omega, by omega, by omega⟩).symm
          | (refine (decide_eq_false (fun hh => ?_)).symm; obtain ⟨i1, i2, i3, i4, i5, i6, i7, i8, i9⟩ := hh; omega)
          | (refine decide_eq_decide.2 ⟨fun hh => ⟨by omega, HE.out, by omega, by omega, by omega, HG.out, by omega, by omega, by omega⟩, fun hh => ?_⟩; obtain ⟨i1, i2, i3, i4, i5, i6, i7, i8, i9⟩ := hh; omega)
set_option maxRecDepth 100000 in
set_option maxHeartbeats 2000000 in
theorem one_9 (fs : List Fnx) (nb : Nat) (hnb : nb * 40 ≤ 140737488352000) (d a b n f : Int) (args : List Int) (l1 l2 : Int) (hp : Int) (pt : Option Addr) (nt ct : Nat) (pf : Option Addr) (cf : Nat) (fnm : ByteArray) (fa fr : Int) (pb : Option Addr) (cb : Nat) (pa : Option Addr) (ca : Nat) (w : World) (hF : FnsIn w (.slice pf fs.length cf) fs) (hA : IntsIn w (.slice pa args.length ca) args) :
    Calls Try.prog 45 #[.agg #[.int .i64 hp, .slice pt nt ct, .slice pf fs.length cf], .agg #[.string fnm, .int .i64 fa, .int .i64 fr, .slice pb nb cb], .agg #[.int .u8 9, .int .i64 d, .int .i64 a, .int .i64 b, .int .u32 n, .int .i64 f, .slice pa args.length ca, .int .i64 l1, .int .i64 l2]] w fun e w' => e = .returned (.bool (decide (insF fs nb 9 d a b n f args l1 l2))) ∧ Below w.heap.size w w' := by
  obtain ⟨pfb, cfb, bf, of, hfe, hfl, HFS⟩ := hF.hids
  cases hfe
  obtain ⟨pab, cab, ba, oa, hae, hal, HAS⟩ := hA.hids
  cases hae
  clear hF hA
  have HKF := shid (fun (W : World) (hb : Below w.heap.size w W) (k : Nat) (hk : k < fs.length) => ((hb.cell (p := ⟨bf, of + k * 4 + 1, none⟩) (World.block_lt_of_cell? _ _ (fnargs_cell HFS.out.2 k hk))).trans (fnargs_cell HFS.out.2 k hk)))
  have HKA := shid (fun (W : World) (hb : Below w.heap.size w W) (k : Nat) (hk : k < args.length) => ((hb.cell (World.block_lt_of_cell? _ _ (HAS.out.2 k args[k] (List.getElem?_eq_getElem hk)).1)).trans (HAS.out.2 k args[k] (List.getElem?_eq_getElem hk)).1))
  have HNIL : Hid (args.length = 0 → args = []) := shid List.eq_nil_of_length_eq_zero
  have HWA := shid (show Below w.heap.size w (w.alloc (.cells #[.int .i64 hp, .slice pt nt ct, .slice pf fs.length cf] 25)) from (Below.refl _ _).alloc (Nat.le_refl _) _)
  have HBP := shid (PBox.new w hp (.slice pt nt ct) (.slice pf fs.length cf) 25)
  have HEM := shid (fun W => empty_any 9 d a b n f args.length l1 l2 (by omega) (by omega) pa ca W)
  by_cases hE : emptyF 9 d a b n f args.length l1 l2
  case neg =>
    have HNE := shid hE
    have HEM' := shid (fun W => by have h := HEM.out W; rw [decide_eq_false hE] at h; exact h)
    clear hE HEM
    have HWe : Hid True := shid trivial
    go_enter Try.func45, Try.ntmps45
    go_wp2_with (go_at_call 56; (with_reducible refine (HEM'.out _).mono ?_); rintro e w1 ⟨rfl, hb1⟩)
    go_ret
    refine ⟨congrArg (fun b => Ending.returned (.bool b)) (?_ : _ = decide (insF fs nb 9 d a b n f args l1 l2)), sbt (al3 _ _ _ _) hb1⟩
    refine (decide_eq_false (fun hh => ?_)).symm
    exact HNE.out hh.2.1
  have HE := shid hE
  have HEM' := shid (fun W => by have h := HEM.out W; rw [decide_eq_true hE] at h; exact h)
  clear hE HEM
  go_enter Try.func45, Try.ntmps45
  go_wp2_with fail
  (with_reducible refine (HEM'.out _).mono ?_)
  rintro e w1 ⟨rfl, hb1⟩
  have HW1 := shid (sbt (al3 _ _ _ _) hb1)
  have HBI := shid ((Ibox_of ((w.alloc (.cells #[.int .i64 hp, .slice pt nt ct, .slice pf fs.length cf] 25)).alloc (.cells #[.string fnm, .int .i64 fa, .int .i64 fr, .slice pb nb cb] 37)) 9 d a b n f (.slice pa args.length ca) l1 l2 44).keep hb1)
  have HBF := shid ((FBox.new (w.alloc (.cells #[.int .i64 hp, .slice pt nt ct, .slice pf fs.length cf] 25)) fnm fa fr (.slice pb nb cb) 37).keep (sbt (al1 _ _) hb1))
  have HBQ := shid (HBP.out.keep (sbt (al2 _ _ _) hb1))
  have HKF1 := shid (HKF.out w1 HW1.out)
  have HKA1 := shid (HKA.out w1 HW1.out)
  simp only [World.size_alloc] at HBI HBF HBQ
  have HPF := shid HFS.out.1
  have HPA := shid HAS.out.1
  clear hb1 HKF HKA HBP HWA HFS HAS
  obtain ⟨blt, b0, b1, b2, b3, b4, b5, b6, b7, b8⟩ := HBI.out
  obtain ⟨_, f0, f1, f2, f3⟩ := HBF.out
  obtain ⟨_, p0, p1, p2⟩ := HBQ.out
  simp only at b0 b1 b2 b3 b4 b5 b7 b8
  go_wp2_with fail
  all_goals try (go_ret; refine ⟨congrArg (fun b => Ending.returned (.bool b)) (?_ : _ = decide (insF fs nb 9 d a b n f args l1 l2)), HW1.out⟩; refine (decide_eq_false (fun hh => ?_)).symm; obtain ⟨i1, i2, i3, i4, i5, i6, i7, i8, i9⟩ := hh; omega; done)
  go_loop [7] (fun i => ∃ k : Nat, k ≤ args.length ∧ i = .int .i64 k ∧ ∀ y ∈ args.take k, 0 ≤ y) (fun i => args.length - (intOf i).toNat)
  case atStart => exact ⟨0, Nat.zero_le _, rfl, by simp⟩
  case round =>
    obtain ⟨k, hk, rfl, hf⟩ := hrel
    have HF := shid hf
    clear hf
    by_cases hlt : k < args.length
    · obtain rfl := HPA.out (by omega)
      have c1 := HKA1.out k hlt
      have HT := shid (List.take_succ_eq_append_getElem hlt)
      have HM := shid (List.getElem_mem hlt)
      rw [Nat.mul_one] at c1
      generalize args[k] = y at c1 HT HM
      have h1 : (k : Int) < args.length := by omega
      by_cases hy : y < 0
      · go_wp2_with fail
        go_ret
        refine ⟨congrArg (fun b => Ending.returned (.bool b)) (?_ : _ = decide (insF fs nb 9 d a b n f args l1 l2)), HW1.out⟩
        refine (decide_eq_false (fun hh => ?_)).symm
        have := hh.2.2.2.2.2.1 y HM.out
        omega
      · go_wp2_with fail
        go_round
        case rel => exact ⟨k + 1, by omega, by go_num, fun z hz => by
          rw [HT.out] at hz
          rcases List.mem_append.1 hz with h | h
          · exact HF.out z h
          · simp at h; omega⟩
        case measure => simp [intOf]; omega
    · have HG : Hid (∀ y ∈ args, 0 ≤ y) := shid (by have h := HF.out; rw [List.take_of_length_le (by omega)] at h; exact h)
      obtain rfl : k = args.length := by omega
      clear HF hlt hk HKA1 HPA
      go_wp2_with fail
      all_goals try (go_ret; refine ⟨congrArg (fun b => Ending.returned (.bool b)) (?_ : _ = decide (insF fs nb 9 d a b n f args l1 l2)), by first | exact HW1.out | exact sdrewN HW1.out _⟩; (refine (decide_eq_false (fun hh => ?_)).symm; obtain ⟨i1, i2, i3, i4, i5, i6, i7, i8, i9⟩ := hh; omega); done)
      go_quiet (fail)
      go_wp2_with fail
      all_goals
        go_ret
        refine ⟨congrArg (fun b => Ending.returned (.bool b)) (?_ : _ = decide (insF fs nb 9 d a b n f args l1 l2)), by first | exact HW1.out | exact sdrewN HW1.out _⟩
        first
          | exact (decide_eq_true ⟨by omega, HE.out, by omega, by omega, by omega, HG.out, by omega, by omega, by omega⟩).symm
          | (refine (decide_eq_false (fun hh => ?_)).symm; obtain ⟨i1, i2, i3, i4, i5, i6, i7, i8, i9⟩ := hh; omega)
          | (refine decide_eq_decide.2 ⟨fun hh => ⟨by omega, HE.out, by omega, by omega, by omega, HG.out, by omega, by omega, by omega⟩, fun hh => ?_⟩; obtain ⟨i1, i2, i3, i4, i5, i6, i7, i8, i9⟩ := hh; omega)
set_option maxRecDepth 100000 in
set_option maxHeartbeats 2000000 in
theorem one_10 (fs : List Fnx) (nb : Nat) (hnb : nb * 40 ≤ 140737488352000) (d a b n f : Int) (args : List Int) (l1 l2 : Int) (hp : Int) (pt : Option Addr) (nt ct : Nat) (pf : Option Addr) (cf : Nat) (fnm : ByteArray) (fa fr : Int) (pb : Option Addr) (cb : Nat) (pa : Option Addr) (ca : Nat) (w : World) (hF : FnsIn w (.slice pf fs.length cf) fs) (hA : IntsIn w (.slice pa args.length ca) args) :
    Calls Try.prog 45 #[.agg #[.int .i64 hp, .slice pt nt ct, .slice pf fs.length cf], .agg #[.string fnm, .int .i64 fa, .int .i64 fr, .slice pb nb cb], .agg #[.int .u8 10, .int .i64 d, .int .i64 a, .int .i64 b, .int .u32 n, .int .i64 f, .slice pa args.length ca, .int .i64 l1, .int .i64 l2]] w fun e w' => e = .returned (.bool (decide (insF fs nb 10 d a b n f args l1 l2))) ∧ Below w.heap.size w w' := by
  obtain ⟨pfb, cfb, bf, of, hfe, hfl, HFS⟩ := hF.hids
  cases hfe
  obtain ⟨pab, cab, ba, oa, hae, hal, HAS⟩ := hA.hids
  cases hae
  clear hF hA
  have HKF := shid (fun (W : World) (hb : Below w.heap.size w W) (k : Nat) (hk : k < fs.length) => ((hb.cell (p := ⟨bf, of + k * 4 + 1, none⟩) (World.block_lt_of_cell? _ _ (fnargs_cell HFS.out.2 k hk))).trans (fnargs_cell HFS.out.2 k hk)))
  have HKA := shid (fun (W : World) (hb : Below w.heap.size w W) (k : Nat) (hk : k < args.length) => ((hb.cell (World.block_lt_of_cell? _ _ (HAS.out.2 k args[k] (List.getElem?_eq_getElem hk)).1)).trans (HAS.out.2 k args[k] (List.getElem?_eq_getElem hk)).1))
  have HNIL : Hid (args.length = 0 → args = []) := shid List.eq_nil_of_length_eq_zero
  have HWA := shid (show Below w.heap.size w (w.alloc (.cells #[.int .i64 hp, .slice pt nt ct, .slice pf fs.length cf] 25)) from (Below.refl _ _).alloc (Nat.le_refl _) _)
  have HBP := shid (PBox.new w hp (.slice pt nt ct) (.slice pf fs.length cf) 25)
  have HEM := shid (fun W => empty_any 10 d a b n f args.length l1 l2 (by omega) (by omega) pa ca W)
  by_cases hE : emptyF 10 d a b n f args.length l1 l2
  case neg =>
    have HNE := shid hE
    have HEM' := shid (fun W => by have h := HEM.out W; rw [decide_eq_false hE] at h; exact h)
    clear hE HEM
    have HWe : Hid True := shid trivial
    go_enter Try.func45, Try.ntmps45
    go_wp2_with (go_at_call 56; (with_reducible refine (HEM'.out _).mono ?_); rintro e w1 ⟨rfl, hb1⟩)
    go_ret
    refine ⟨congrArg (fun b => Ending.returned (.bool b)) (?_ : _ = decide (insF fs nb 10 d a b n f args l1 l2)), sbt (al3 _ _ _ _) hb1⟩
    refine (decide_eq_false (fun hh => ?_)).symm
    exact HNE.out hh.2.1
  have HE := shid hE
  have HEM' := shid (fun W => by have h := HEM.out W; rw [decide_eq_true hE] at h; exact h)
  clear hE HEM
  go_enter Try.func45, Try.ntmps45
  go_wp2_with fail
  (with_reducible refine (HEM'.out _).mono ?_)
  rintro e w1 ⟨rfl, hb1⟩
  have HW1 := shid (sbt (al3 _ _ _ _) hb1)
  have HBI := shid ((Ibox_of ((w.alloc (.cells #[.int .i64 hp, .slice pt nt ct, .slice pf fs.length cf] 25)).alloc (.cells #[.string fnm, .int .i64 fa, .int .i64 fr, .slice pb nb cb] 37)) 10 d a b n f (.slice pa args.length ca) l1 l2 44).keep hb1)
  have HBF := shid ((FBox.new (w.alloc (.cells #[.int .i64 hp, .slice pt nt ct, .slice pf fs.length cf] 25)) fnm fa fr (.slice pb nb cb) 37).keep (sbt (al1 _ _) hb1))
  have HBQ := shid (HBP.out.keep (sbt (al2 _ _ _) hb1))
  have HKF1 := shid (HKF.out w1 HW1.out)
  have HKA1 := shid (HKA.out w1 HW1.out)
  simp only [World.size_alloc] at HBI HBF HBQ
  have HPF := shid HFS.out.1
  have HPA := shid HAS.out.1
  clear hb1 HKF HKA HBP HWA HFS HAS
  obtain ⟨blt, b0, b1, b2, b3, b4, b5, b6, b7, b8⟩ := HBI.out
  obtain ⟨_, f0, f1, f2, f3⟩ := HBF.out
  obtain ⟨_, p0, p1, p2⟩ := HBQ.out
  simp only at b0 b1 b2 b3 b4 b5 b7 b8
  go_wp2_with fail
  all_goals try (go_ret; refine ⟨congrArg (fun b => Ending.returned (.bool b)) (?_ : _ = decide (insF fs nb 10 d a b n f args l1 l2)), HW1.out⟩; refine (decide_eq_false (fun hh => ?_)).symm; obtain ⟨i1, i2, i3, i4, i5, i6, i7, i8, i9⟩ := hh; omega; done)
  go_loop [7] (fun i => ∃ k : Nat, k ≤ args.length ∧ i = .int .i64 k ∧ ∀ y ∈ args.take k, 0 ≤ y) (fun i => args.length - (intOf i).toNat)
  case atStart => exact ⟨0, Nat.zero_le _, rfl, by simp⟩
  case round =>
    obtain ⟨k, hk, rfl, hf⟩ := hrel
    have HF := shid hf
    clear hf
    by_cases hlt : k < args.length
    · obtain rfl := HPA.out (by omega)
      have c1 := HKA1.out k hlt
      have HT := shid (List.take_succ_eq_append_getElem hlt)
      have HM := shid (List.getElem_mem hlt)
      rw [Nat.mul_one] at c1
      generalize args[k] = y at c1 HT HM
      have h1 : (k : Int) < args.length := by omega
      by_cases hy : y < 0
      · go_wp2_with fail
        go_ret
        refine ⟨congrArg (fun b => Ending.returned (.bool b)) (?_ : _ = decide (insF fs nb 10 d a b n f args l1 l2)), HW1.out⟩
        refine (decide_eq_false (fun hh => ?_)).symm
        have := hh.2.2.2.2.2.1 y HM.out
        omega
      · go_wp2_with fail
        go_round
        case rel => exact ⟨k + 1, by omega, by go_num, fun z hz => by
          rw [HT.out] at hz
          rcases List.mem_append.1 hz with h | h
          · exact HF.out z h
          · simp at h; omega⟩
        case measure => simp [intOf]; omega
    · have HG : Hid (∀ y ∈ args, 0 ≤ y) := shid (by have h := HF.out; rw [List.take_of_length_le (by omega)] at h; exact h)
      obtain rfl : k = args.length := by omega
      clear HF hlt hk HKA1 HPA
      go_wp2_with fail
      all_goals try (go_ret; refine ⟨congrArg (fun b => Ending.returned (.bool b)) (?_ : _ = decide (insF fs nb 10 d a b n f args l1 l2)), by first | exact HW1.out | exact sdrewN HW1.out _⟩; (refine (decide_eq_false (fun hh => ?_)).symm; obtain ⟨i1, i2, i3, i4, i5, i6, i7, i8, i9⟩ := hh; omega); done)
      go_quiet (fail)
      go_wp2_with fail
      all_goals
        go_ret
        refine ⟨congrArg (fun b => Ending.returned (.bool b)) (?_ : _ = decide (insF fs nb 10 d a b n f args l1 l2)), by first | exact HW1.out | exact sdrewN HW1.out _⟩
        first
          | exact (decide_eq_true ⟨by omega, HE.out, by omega, by omega, by omega, HG.out, by omega, by omega, by omega⟩).symm
          | (refine (decide_eq_false (fun hh => ?_)).symm; obtain ⟨i1, i2, i3, i4, i5, i6, i7, i8, i9⟩ := hh; omega)
          | (refine decide_eq_decide.2 ⟨fun hh => ⟨by omega, HE.out, by omega, by omega, by omega, HG.out, by omega, by omega, by omega⟩, fun hh => ?_⟩; obtain ⟨i1, i2, i3, i4, i5, i6, i7, i8, i9⟩ := hh; omega)
set_option maxRecDepth 100000 in
set_option maxHeartbeats 2000000 in
theorem one_big (op : Int) (hop : 10 < op) (hop2 : op < 256) (fs : List Fnx) (nb : Nat) (hnb : nb * 40 ≤ 140737488352000) (d a b n f : Int) (args : List Int) (l1 l2 : Int) (hp : Int) (pt : Option Addr) (nt ct : Nat) (pf : Option Addr) (cf : Nat) (fnm : ByteArray) (fa fr : Int) (pb : Option Addr) (cb : Nat) (pa : Option Addr) (ca : Nat) (w : World) (hF : FnsIn w (.slice pf fs.length cf) fs) (hA : IntsIn w (.slice pa args.length ca) args) :
    Calls Try.prog 45 #[.agg #[.int .i64 hp, .slice pt nt ct, .slice pf fs.length cf], .agg #[.string fnm, .int .i64 fa, .int .i64 fr, .slice pb nb cb], .agg #[.int .u8 op, .int .i64 d, .int .i64 a, .int .i64 b, .int .u32 n, .int .i64 f, .slice pa args.length ca, .int .i64 l1, .int .i64 l2]] w fun e w' => e = .returned (.bool (decide (insF fs nb op d a b n f args l1 l2))) ∧ Below w.heap.size w w' := by
  have HWe : Hid True := shid trivial
  go_enter Try.func45, Try.ntmps45
  go_wp2_with fail
  go_ret
  refine ⟨congrArg (fun b => Ending.returned (.bool b)) (?_ : _ = decide (insF fs nb op d a b n f args l1 l2)), by go_grown⟩
  refine (decide_eq_false (fun hh => ?_)).symm
  obtain ⟨i1, _⟩ := hh
  omega
theorem one_any (op : Int) (h0 : 0 ≤ op) (h1 : op < 256) (fs : List Fnx) (nb : Nat) (hnb : nb * 40 ≤ 140737488352000) (d a b n f : Int) (args : List Int) (l1 l2 : Int) (hp : Int) (pt : Option Addr) (nt ct : Nat) (pf : Option Addr) (cf : Nat) (fnm : ByteArray) (fa fr : Int) (pb : Option Addr) (cb : Nat) (pa : Option Addr) (ca : Nat) (w : World) (hF : FnsIn w (.slice pf fs.length cf) fs) (hA : IntsIn w (.slice pa args.length ca) args) :
    Calls Try.prog 45 #[.agg #[.int .i64 hp, .slice pt nt ct, .slice pf fs.length cf], .agg #[.string fnm, .int .i64 fa, .int .i64 fr, .slice pb nb cb], .agg #[.int .u8 op, .int .i64 d, .int .i64 a, .int .i64 b, .int .u32 n, .int .i64 f, .slice pa args.length ca, .int .i64 l1, .int .i64 l2]] w fun e w' => e = .returned (.bool (decide (insF fs nb op d a b n f args l1 l2))) ∧ Below w.heap.size w w' := by
  rcases op_cases h0 with rfl | rfl | rfl | rfl | rfl | rfl | rfl | rfl | rfl | rfl | rfl | hop
  · exact one_0 fs nb hnb d a b n f args l1 l2 hp pt nt ct pf cf fnm fa fr pb cb pa ca w hF hA
  · exact one_1 fs nb hnb d a b n f args l1 l2 hp pt nt ct pf cf fnm fa fr pb cb pa ca w hF hA
  · exact one_2 fs nb hnb d a b n f args l1 l2 hp pt nt ct pf cf fnm fa fr pb cb pa ca w hF hA
  · exact one_3 fs nb hnb d a b n f args l1 l2 hp pt nt ct pf cf fnm fa fr pb cb pa ca w hF hA
  · exact one_4 fs nb hnb d a b n f args l1 l2 hp pt nt ct pf cf fnm fa fr pb cb pa ca w hF hA
  · exact one_5 fs nb hnb d a b n f args l1 l2 hp pt nt ct pf cf fnm fa fr pb cb pa ca w hF hA
  · exact one_6 fs nb hnb d a b n f args l1 l2 hp pt nt ct pf cf fnm fa fr pb cb pa ca w hF hA
  · exact one_7 fs nb hnb d a b n f args l1 l2 hp pt nt ct pf cf fnm fa fr pb cb pa ca w hF hA
  · exact one_8 fs nb hnb d a b n f args l1 l2 hp pt nt ct pf cf fnm fa fr pb cb pa ca w hF hA
  · exact one_9 fs nb hnb d a b n f args l1 l2 hp pt nt ct pf cf fnm fa fr pb cb pa ca w hF hA
  · exact one_10 fs nb hnb d a b n f args l1 l2 hp pt nt ct pf cf fnm fa fr pb cb pa ca w hF hA
  · exact one_big op hop h1 fs nb hnb d a b n f args l1 l2 hp pt nt ct pf cf fnm fa fr pb cb pa ca w hF hA
end Go.Proofs.Ythahjnjkiljaaaa
