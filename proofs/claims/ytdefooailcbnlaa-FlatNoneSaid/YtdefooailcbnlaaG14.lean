/- The walk of shape.ins, by one contract. -/
import Derived.Test.YtdefooailcbnlaaG11
import Derived.Test.YtdefooailcbnlaaG12
import Derived.Test.YtdefooailcbnlaaG13
namespace Go.Proofs.Ytdefooailcbnlaa
open Go.RowKit
set_option linter.unusedVariables false
set_option linter.unusedSimpArgs false
set_option maxRecDepth 100000 in
set_option maxHeartbeats 1000000 in
theorem ins_big (op : Int) (hop : 10 < op) (d a b n f l1 l2 : Int) (fs : List Fnx) (nb : Nat) (hnb : nb * 40 ≤ 140737488352000) (args : List Int) (hp : Int) (pt : Option Addr) (nt ct : Nat) (pf : Option Addr) (cf : Nat) (fnm : ByteArray) (fa fr : Int) (pb : Option Addr) (cb : Nat) (pa : Option Addr) (ca : Nat) (w : World) (hF : FnsIn w (.slice pf fs.length cf) fs) (hA : IntsIn w (.slice pa args.length ca) args) :
    Calls Try.prog 62 #[.agg #[.int .i64 hp, .slice pt nt ct, .slice pf fs.length cf], .agg #[.string fnm, .int .i64 fa, .int .i64 fr, .slice pb nb cb], .agg #[.int .u8 op, .int .i64 d, .int .i64 a, .int .i64 b, .int .u32 n, .int .i64 f, .slice pa args.length ca, .int .i64 l1, .int .i64 l2]] w fun e w' => e = .returned (.bool (decide (insF fs nb op d a b n f args l1 l2))) ∧ Below w.heap.size w w' := by
  go_enter Try.func62, Try.ntmps62
  go_wp2_with fail
  go_ret
  refine ⟨congrArg (fun b => Ending.returned (.bool b)) (?_ : _ = decide (insF fs nb op d a b n f args l1 l2)), by go_grown⟩
  refine (decide_eq_false (fun hh => ?_)).symm
  have := hh.1
  omega
theorem ins_0 (d a b n f l1 l2 : Int) (fs : List Fnx) (nb : Nat) (hnb : nb * 40 ≤ 140737488352000) (args : List Int) (hp : Int) (pt : Option Addr) (nt ct : Nat) (pf : Option Addr) (cf : Nat) (fnm : ByteArray) (fa fr : Int) (pb : Option Addr) (cb : Nat) (pa : Option Addr) (ca : Nat) (w : World) (hF : FnsIn w (.slice pf fs.length cf) fs) (hA : IntsIn w (.slice pa args.length ca) args) :
    Calls Try.prog 62 #[.agg #[.int .i64 hp, .slice pt nt ct, .slice pf fs.length cf], .agg #[.string fnm, .int .i64 fa, .int .i64 fr, .slice pb nb cb], .agg #[.int .u8 0, .int .i64 d, .int .i64 a, .int .i64 b, .int .u32 n, .int .i64 f, .slice pa args.length ca, .int .i64 l1, .int .i64 l2]] w fun e w' => e = .returned (.bool (decide (insF fs nb 0 d a b n f args l1 l2))) ∧ Below w.heap.size w w' := by
  by_cases za : a = 0
  case neg =>
    rw [decide_eq_false (fun hh => by have h4 := hh.2.1; unfold emptyF at h4; omega)]
    exact ins_bad_a 0 d a b n f l1 l2 0 0 n 0 0 0 (by omega) (by omega) fs nb hnb args hp pt nt ct pf cf fnm fa fr pb cb pa ca w hF hA (shid fun W => bare_0 ⟨0, d, a, b, n, f, [], l1, l2⟩ pa args.length ca W) (fun e => za e.symm)
  subst za
  by_cases zb : b = 0
  case neg =>
    rw [decide_eq_false (fun hh => by have h4 := hh.2.1; unfold emptyF at h4; omega)]
    exact ins_bad_b 0 d 0 b n f l1 l2 0 n 0 0 0 (by omega) (by omega) fs nb hnb args hp pt nt ct pf cf fnm fa fr pb cb pa ca w hF hA (shid fun W => bare_0 ⟨0, d, 0, b, n, f, [], l1, l2⟩ pa args.length ca W) (fun e => zb e.symm)
  subst zb
  by_cases zf : f = 0
  case neg =>
    rw [decide_eq_false (fun hh => by have h4 := hh.2.1; unfold emptyF at h4; omega)]
    exact ins_bad_f 0 d 0 0 n f l1 l2 0 0 0 (by omega) (by omega) fs nb hnb args hp pt nt ct pf cf fnm fa fr pb cb pa ca w hF hA (shid fun W => bare_0 ⟨0, d, 0, 0, n, f, [], l1, l2⟩ pa args.length ca W) (fun e => zf e.symm)
  subst zf
  by_cases zl1 : l1 = 0
  case neg =>
    rw [decide_eq_false (fun hh => by have h4 := hh.2.1; unfold emptyF at h4; omega)]
    exact ins_bad_l1 0 d 0 0 n 0 l1 l2 0 0 (by omega) (by omega) fs nb hnb args hp pt nt ct pf cf fnm fa fr pb cb pa ca w hF hA (shid fun W => bare_0 ⟨0, d, 0, 0, n, 0, [], l1, l2⟩ pa args.length ca W) (fun e => zl1 e.symm)
  subst zl1
  by_cases zl2 : l2 = 0
  case neg =>
    rw [decide_eq_false (fun hh => by have h4 := hh.2.1; unfold emptyF at h4; omega)]
    exact ins_bad_l2 0 d 0 0 n 0 0 l2 0 (by omega) (by omega) fs nb hnb args hp pt nt ct pf cf fnm fa fr pb cb pa ca w hF hA (shid fun W => bare_0 ⟨0, d, 0, 0, n, 0, [], 0, l2⟩ pa args.length ca W) (fun e => zl2 e.symm)
  subst zl2
  exact ins_good_other 0 (by omega) (by omega) (by omega) (by omega) (by omega) (by omega) d 0 0 n 0 0 0 fs nb hnb args hp pt nt ct pf cf fnm fa fr pb cb pa ca w hF hA (by unfold emptyF; omega) (shid fun W => bare_0 ⟨0, d, 0, 0, n, 0, [], 0, 0⟩ pa args.length ca W)
theorem ins_1 (d a b n f l1 l2 : Int) (fs : List Fnx) (nb : Nat) (hnb : nb * 40 ≤ 140737488352000) (args : List Int) (hp : Int) (pt : Option Addr) (nt ct : Nat) (pf : Option Addr) (cf : Nat) (fnm : ByteArray) (fa fr : Int) (pb : Option Addr) (cb : Nat) (pa : Option Addr) (ca : Nat) (w : World) (hF : FnsIn w (.slice pf fs.length cf) fs) (hA : IntsIn w (.slice pa args.length ca) args) :
    Calls Try.prog 62 #[.agg #[.int .i64 hp, .slice pt nt ct, .slice pf fs.length cf], .agg #[.string fnm, .int .i64 fa, .int .i64 fr, .slice pb nb cb], .agg #[.int .u8 1, .int .i64 d, .int .i64 a, .int .i64 b, .int .u32 n, .int .i64 f, .slice pa args.length ca, .int .i64 l1, .int .i64 l2]] w fun e w' => e = .returned (.bool (decide (insF fs nb 1 d a b n f args l1 l2))) ∧ Below w.heap.size w w' := by
  by_cases zf : f = 0
  case neg =>
    rw [decide_eq_false (fun hh => by have h4 := hh.2.1; unfold emptyF at h4; omega)]
    exact ins_bad_f 1 d a b n f l1 l2 0 0 0 (by omega) (by omega) fs nb hnb args hp pt nt ct pf cf fnm fa fr pb cb pa ca w hF hA (shid fun W => bare_1 ⟨1, d, a, b, n, f, [], l1, l2⟩ pa args.length ca W) (fun e => zf e.symm)
  subst zf
  by_cases zl1 : l1 = 0
  case neg =>
    rw [decide_eq_false (fun hh => by have h4 := hh.2.1; unfold emptyF at h4; omega)]
    exact ins_bad_l1 1 d a b n 0 l1 l2 0 0 (by omega) (by omega) fs nb hnb args hp pt nt ct pf cf fnm fa fr pb cb pa ca w hF hA (shid fun W => bare_1 ⟨1, d, a, b, n, 0, [], l1, l2⟩ pa args.length ca W) (fun e => zl1 e.symm)
  subst zl1
  by_cases zl2 : l2 = 0
  case neg =>
    rw [decide_eq_false (fun hh => by have h4 := hh.2.1; unfold emptyF at h4; omega)]
    exact ins_bad_l2 1 d a b n 0 0 l2 0 (by omega) (by omega) fs nb hnb args hp pt nt ct pf cf fnm fa fr pb cb pa ca w hF hA (shid fun W => bare_1 ⟨1, d, a, b, n, 0, [], 0, l2⟩ pa args.length ca W) (fun e => zl2 e.symm)
  subst zl2
  exact ins_good_1 d a b n 0 0 0 fs nb hnb args hp pt nt ct pf cf fnm fa fr pb cb pa ca w hF hA (by unfold emptyF; omega) (shid fun W => bare_1 ⟨1, d, a, b, n, 0, [], 0, 0⟩ pa args.length ca W)
theorem ins_2 (d a b n f l1 l2 : Int) (fs : List Fnx) (nb : Nat) (hnb : nb * 40 ≤ 140737488352000) (args : List Int) (hp : Int) (pt : Option Addr) (nt ct : Nat) (pf : Option Addr) (cf : Nat) (fnm : ByteArray) (fa fr : Int) (pb : Option Addr) (cb : Nat) (pa : Option Addr) (ca : Nat) (w : World) (hF : FnsIn w (.slice pf fs.length cf) fs) (hA : IntsIn w (.slice pa args.length ca) args) :
    Calls Try.prog 62 #[.agg #[.int .i64 hp, .slice pt nt ct, .slice pf fs.length cf], .agg #[.string fnm, .int .i64 fa, .int .i64 fr, .slice pb nb cb], .agg #[.int .u8 2, .int .i64 d, .int .i64 a, .int .i64 b, .int .u32 n, .int .i64 f, .slice pa args.length ca, .int .i64 l1, .int .i64 l2]] w fun e w' => e = .returned (.bool (decide (insF fs nb 2 d a b n f args l1 l2))) ∧ Below w.heap.size w w' := by
  by_cases zb : b = 0
  case neg =>
    rw [decide_eq_false (fun hh => by have h4 := hh.2.1; unfold emptyF at h4; omega)]
    exact ins_bad_b 2 d a b n f l1 l2 0 0 0 0 0 (by omega) (by omega) fs nb hnb args hp pt nt ct pf cf fnm fa fr pb cb pa ca w hF hA (shid fun W => bare_2 ⟨2, d, a, b, n, f, [], l1, l2⟩ pa args.length ca W) (fun e => zb e.symm)
  subst zb
  by_cases zn : n = 0
  case neg =>
    rw [decide_eq_false (fun hh => by have h4 := hh.2.1; unfold emptyF at h4; omega)]
    exact ins_bad_n 2 d a 0 n f l1 l2 0 0 0 0 (by omega) (by omega) fs nb hnb args hp pt nt ct pf cf fnm fa fr pb cb pa ca w hF hA (shid fun W => bare_2 ⟨2, d, a, 0, n, f, [], l1, l2⟩ pa args.length ca W) (fun e => zn e.symm)
  subst zn
  by_cases zf : f = 0
  case neg =>
    rw [decide_eq_false (fun hh => by have h4 := hh.2.1; unfold emptyF at h4; omega)]
    exact ins_bad_f 2 d a 0 0 f l1 l2 0 0 0 (by omega) (by omega) fs nb hnb args hp pt nt ct pf cf fnm fa fr pb cb pa ca w hF hA (shid fun W => bare_2 ⟨2, d, a, 0, 0, f, [], l1, l2⟩ pa args.length ca W) (fun e => zf e.symm)
  subst zf
  by_cases zl1 : l1 = 0
  case neg =>
    rw [decide_eq_false (fun hh => by have h4 := hh.2.1; unfold emptyF at h4; omega)]
    exact ins_bad_l1 2 d a 0 0 0 l1 l2 0 0 (by omega) (by omega) fs nb hnb args hp pt nt ct pf cf fnm fa fr pb cb pa ca w hF hA (shid fun W => bare_2 ⟨2, d, a, 0, 0, 0, [], l1, l2⟩ pa args.length ca W) (fun e => zl1 e.symm)
  subst zl1
  by_cases zl2 : l2 = 0
  case neg =>
    rw [decide_eq_false (fun hh => by have h4 := hh.2.1; unfold emptyF at h4; omega)]
    exact ins_bad_l2 2 d a 0 0 0 0 l2 0 (by omega) (by omega) fs nb hnb args hp pt nt ct pf cf fnm fa fr pb cb pa ca w hF hA (shid fun W => bare_2 ⟨2, d, a, 0, 0, 0, [], 0, l2⟩ pa args.length ca W) (fun e => zl2 e.symm)
  subst zl2
  exact ins_good_other 2 (by omega) (by omega) (by omega) (by omega) (by omega) (by omega) d a 0 0 0 0 0 fs nb hnb args hp pt nt ct pf cf fnm fa fr pb cb pa ca w hF hA (by unfold emptyF; omega) (shid fun W => bare_2 ⟨2, d, a, 0, 0, 0, [], 0, 0⟩ pa args.length ca W)
theorem ins_3 (d a b n f l1 l2 : Int) (fs : List Fnx) (nb : Nat) (hnb : nb * 40 ≤ 140737488352000) (args : List Int) (hp : Int) (pt : Option Addr) (nt ct : Nat) (pf : Option Addr) (cf : Nat) (fnm : ByteArray) (fa fr : Int) (pb : Option Addr) (cb : Nat) (pa : Option Addr) (ca : Nat) (w : World) (hF : FnsIn w (.slice pf fs.length cf) fs) (hA : IntsIn w (.slice pa args.length ca) args) :
    Calls Try.prog 62 #[.agg #[.int .i64 hp, .slice pt nt ct, .slice pf fs.length cf], .agg #[.string fnm, .int .i64 fa, .int .i64 fr, .slice pb nb cb], .agg #[.int .u8 3, .int .i64 d, .int .i64 a, .int .i64 b, .int .u32 n, .int .i64 f, .slice pa args.length ca, .int .i64 l1, .int .i64 l2]] w fun e w' => e = .returned (.bool (decide (insF fs nb 3 d a b n f args l1 l2))) ∧ Below w.heap.size w w' := by
  by_cases zb : b = 0
  case neg =>
    rw [decide_eq_false (fun hh => by have h4 := hh.2.1; unfold emptyF at h4; omega)]
    exact ins_bad_b 3 d a b n f l1 l2 0 0 0 0 0 (by omega) (by omega) fs nb hnb args hp pt nt ct pf cf fnm fa fr pb cb pa ca w hF hA (shid fun W => bare_3 ⟨3, d, a, b, n, f, [], l1, l2⟩ pa args.length ca W) (fun e => zb e.symm)
  subst zb
  by_cases zn : n = 0
  case neg =>
    rw [decide_eq_false (fun hh => by have h4 := hh.2.1; unfold emptyF at h4; omega)]
    exact ins_bad_n 3 d a 0 n f l1 l2 0 0 0 0 (by omega) (by omega) fs nb hnb args hp pt nt ct pf cf fnm fa fr pb cb pa ca w hF hA (shid fun W => bare_3 ⟨3, d, a, 0, n, f, [], l1, l2⟩ pa args.length ca W) (fun e => zn e.symm)
  subst zn
  by_cases zf : f = 0
  case neg =>
    rw [decide_eq_false (fun hh => by have h4 := hh.2.1; unfold emptyF at h4; omega)]
    exact ins_bad_f 3 d a 0 0 f l1 l2 0 0 0 (by omega) (by omega) fs nb hnb args hp pt nt ct pf cf fnm fa fr pb cb pa ca w hF hA (shid fun W => bare_3 ⟨3, d, a, 0, 0, f, [], l1, l2⟩ pa args.length ca W) (fun e => zf e.symm)
  subst zf
  by_cases zl1 : l1 = 0
  case neg =>
    rw [decide_eq_false (fun hh => by have h4 := hh.2.1; unfold emptyF at h4; omega)]
    exact ins_bad_l1 3 d a 0 0 0 l1 l2 0 0 (by omega) (by omega) fs nb hnb args hp pt nt ct pf cf fnm fa fr pb cb pa ca w hF hA (shid fun W => bare_3 ⟨3, d, a, 0, 0, 0, [], l1, l2⟩ pa args.length ca W) (fun e => zl1 e.symm)
  subst zl1
  by_cases zl2 : l2 = 0
  case neg =>
    rw [decide_eq_false (fun hh => by have h4 := hh.2.1; unfold emptyF at h4; omega)]
    exact ins_bad_l2 3 d a 0 0 0 0 l2 0 (by omega) (by omega) fs nb hnb args hp pt nt ct pf cf fnm fa fr pb cb pa ca w hF hA (shid fun W => bare_3 ⟨3, d, a, 0, 0, 0, [], 0, l2⟩ pa args.length ca W) (fun e => zl2 e.symm)
  subst zl2
  exact ins_good_other 3 (by omega) (by omega) (by omega) (by omega) (by omega) (by omega) d a 0 0 0 0 0 fs nb hnb args hp pt nt ct pf cf fnm fa fr pb cb pa ca w hF hA (by unfold emptyF; omega) (shid fun W => bare_3 ⟨3, d, a, 0, 0, 0, [], 0, 0⟩ pa args.length ca W)
theorem ins_4 (d a b n f l1 l2 : Int) (fs : List Fnx) (nb : Nat) (hnb : nb * 40 ≤ 140737488352000) (args : List Int) (hp : Int) (pt : Option Addr) (nt ct : Nat) (pf : Option Addr) (cf : Nat) (fnm : ByteArray) (fa fr : Int) (pb : Option Addr) (cb : Nat) (pa : Option Addr) (ca : Nat) (w : World) (hF : FnsIn w (.slice pf fs.length cf) fs) (hA : IntsIn w (.slice pa args.length ca) args) :
    Calls Try.prog 62 #[.agg #[.int .i64 hp, .slice pt nt ct, .slice pf fs.length cf], .agg #[.string fnm, .int .i64 fa, .int .i64 fr, .slice pb nb cb], .agg #[.int .u8 4, .int .i64 d, .int .i64 a, .int .i64 b, .int .u32 n, .int .i64 f, .slice pa args.length ca, .int .i64 l1, .int .i64 l2]] w fun e w' => e = .returned (.bool (decide (insF fs nb 4 d a b n f args l1 l2))) ∧ Below w.heap.size w w' := by
  by_cases zd : d = 0
  case neg =>
    rw [decide_eq_false (fun hh => by have h4 := hh.2.1; unfold emptyF at h4; omega)]
    exact ins_bad_d 4 d a b n f l1 l2 0 a b 0 0 0 0 (by omega) (by omega) fs nb hnb args hp pt nt ct pf cf fnm fa fr pb cb pa ca w hF hA (shid fun W => bare_4 ⟨4, d, a, b, n, f, [], l1, l2⟩ pa args.length ca W) (fun e => zd e.symm)
  subst zd
  by_cases zn : n = 0
  case neg =>
    rw [decide_eq_false (fun hh => by have h4 := hh.2.1; unfold emptyF at h4; omega)]
    exact ins_bad_n 4 0 a b n f l1 l2 0 0 0 0 (by omega) (by omega) fs nb hnb args hp pt nt ct pf cf fnm fa fr pb cb pa ca w hF hA (shid fun W => bare_4 ⟨4, 0, a, b, n, f, [], l1, l2⟩ pa args.length ca W) (fun e => zn e.symm)
  subst zn
  by_cases zf : f = 0
  case neg =>
    rw [decide_eq_false (fun hh => by have h4 := hh.2.1; unfold emptyF at h4; omega)]
    exact ins_bad_f 4 0 a b 0 f l1 l2 0 0 0 (by omega) (by omega) fs nb hnb args hp pt nt ct pf cf fnm fa fr pb cb pa ca w hF hA (shid fun W => bare_4 ⟨4, 0, a, b, 0, f, [], l1, l2⟩ pa args.length ca W) (fun e => zf e.symm)
  subst zf
  by_cases zl1 : l1 = 0
  case neg =>
    rw [decide_eq_false (fun hh => by have h4 := hh.2.1; unfold emptyF at h4; omega)]
    exact ins_bad_l1 4 0 a b 0 0 l1 l2 0 0 (by omega) (by omega) fs nb hnb args hp pt nt ct pf cf fnm fa fr pb cb pa ca w hF hA (shid fun W => bare_4 ⟨4, 0, a, b, 0, 0, [], l1, l2⟩ pa args.length ca W) (fun e => zl1 e.symm)
  subst zl1
  by_cases zl2 : l2 = 0
  case neg =>
    rw [decide_eq_false (fun hh => by have h4 := hh.2.1; unfold emptyF at h4; omega)]
    exact ins_bad_l2 4 0 a b 0 0 0 l2 0 (by omega) (by omega) fs nb hnb args hp pt nt ct pf cf fnm fa fr pb cb pa ca w hF hA (shid fun W => bare_4 ⟨4, 0, a, b, 0, 0, [], 0, l2⟩ pa args.length ca W) (fun e => zl2 e.symm)
  subst zl2
  exact ins_good_other 4 (by omega) (by omega) (by omega) (by omega) (by omega) (by omega) 0 a b 0 0 0 0 fs nb hnb args hp pt nt ct pf cf fnm fa fr pb cb pa ca w hF hA (by unfold emptyF; omega) (shid fun W => bare_4 ⟨4, 0, a, b, 0, 0, [], 0, 0⟩ pa args.length ca W)
theorem ins_5 (d a b n f l1 l2 : Int) (fs : List Fnx) (nb : Nat) (hnb : nb * 40 ≤ 140737488352000) (args : List Int) (hp : Int) (pt : Option Addr) (nt ct : Nat) (pf : Option Addr) (cf : Nat) (fnm : ByteArray) (fa fr : Int) (pb : Option Addr) (cb : Nat) (pa : Option Addr) (ca : Nat) (w : World) (hF : FnsIn w (.slice pf fs.length cf) fs) (hA : IntsIn w (.slice pa args.length ca) args) :
    Calls Try.prog 62 #[.agg #[.int .i64 hp, .slice pt nt ct, .slice pf fs.length cf], .agg #[.string fnm, .int .i64 fa, .int .i64 fr, .slice pb nb cb], .agg #[.int .u8 5, .int .i64 d, .int .i64 a, .int .i64 b, .int .u32 n, .int .i64 f, .slice pa args.length ca, .int .i64 l1, .int .i64 l2]] w fun e w' => e = .returned (.bool (decide (insF fs nb 5 d a b n f args l1 l2))) ∧ Below w.heap.size w w' := by
  by_cases za : a = 0
  case neg =>
    rw [decide_eq_false (fun hh => by have h4 := hh.2.1; unfold emptyF at h4; omega)]
    exact ins_bad_a 5 d a b n f l1 l2 0 0 0 f 0 0 (by omega) (by omega) fs nb hnb args hp pt nt ct pf cf fnm fa fr pb cb pa ca w hF hA (shid fun W => bare_5 ⟨5, d, a, b, n, f, [], l1, l2⟩ pa args.length ca W) (fun e => za e.symm)
  subst za
  by_cases zb : b = 0
  case neg =>
    rw [decide_eq_false (fun hh => by have h4 := hh.2.1; unfold emptyF at h4; omega)]
    exact ins_bad_b 5 d 0 b n f l1 l2 0 0 f 0 0 (by omega) (by omega) fs nb hnb args hp pt nt ct pf cf fnm fa fr pb cb pa ca w hF hA (shid fun W => bare_5 ⟨5, d, 0, b, n, f, [], l1, l2⟩ pa args.length ca W) (fun e => zb e.symm)
  subst zb
  by_cases zn : n = 0
  case neg =>
    rw [decide_eq_false (fun hh => by have h4 := hh.2.1; unfold emptyF at h4; omega)]
    exact ins_bad_n 5 d 0 0 n f l1 l2 0 f 0 0 (by omega) (by omega) fs nb hnb args hp pt nt ct pf cf fnm fa fr pb cb pa ca w hF hA (shid fun W => bare_5 ⟨5, d, 0, 0, n, f, [], l1, l2⟩ pa args.length ca W) (fun e => zn e.symm)
  subst zn
  by_cases zl1 : l1 = 0
  case neg =>
    rw [decide_eq_false (fun hh => by have h4 := hh.2.1; unfold emptyF at h4; omega)]
    exact ins_bad_l1 5 d 0 0 0 f l1 l2 0 0 (by omega) (by omega) fs nb hnb args hp pt nt ct pf cf fnm fa fr pb cb pa ca w hF hA (shid fun W => bare_5 ⟨5, d, 0, 0, 0, f, [], l1, l2⟩ pa args.length ca W) (fun e => zl1 e.symm)
  subst zl1
  by_cases zl2 : l2 = 0
  case neg =>
    rw [decide_eq_false (fun hh => by have h4 := hh.2.1; unfold emptyF at h4; omega)]
    exact ins_bad_l2 5 d 0 0 0 f 0 l2 0 (by omega) (by omega) fs nb hnb args hp pt nt ct pf cf fnm fa fr pb cb pa ca w hF hA (shid fun W => bare_5 ⟨5, d, 0, 0, 0, f, [], 0, l2⟩ pa args.length ca W) (fun e => zl2 e.symm)
  subst zl2
  exact ins_good_5 d 0 0 0 f 0 0 fs nb hnb args hp pt nt ct pf cf fnm fa fr pb cb pa ca w hF hA (by unfold emptyF; omega) (shid fun W => bare_5 ⟨5, d, 0, 0, 0, f, [], 0, 0⟩ pa args.length ca W)
theorem ins_6 (d a b n f l1 l2 : Int) (fs : List Fnx) (nb : Nat) (hnb : nb * 40 ≤ 140737488352000) (args : List Int) (hp : Int) (pt : Option Addr) (nt ct : Nat) (pf : Option Addr) (cf : Nat) (fnm : ByteArray) (fa fr : Int) (pb : Option Addr) (cb : Nat) (pa : Option Addr) (ca : Nat) (w : World) (hF : FnsIn w (.slice pf fs.length cf) fs) (hA : IntsIn w (.slice pa args.length ca) args) :
    Calls Try.prog 62 #[.agg #[.int .i64 hp, .slice pt nt ct, .slice pf fs.length cf], .agg #[.string fnm, .int .i64 fa, .int .i64 fr, .slice pb nb cb], .agg #[.int .u8 6, .int .i64 d, .int .i64 a, .int .i64 b, .int .u32 n, .int .i64 f, .slice pa args.length ca, .int .i64 l1, .int .i64 l2]] w fun e w' => e = .returned (.bool (decide (insF fs nb 6 d a b n f args l1 l2))) ∧ Below w.heap.size w w' := by
  by_cases zd : d = 0
  case neg =>
    rw [decide_eq_false (fun hh => by have h4 := hh.2.1; unfold emptyF at h4; omega)]
    exact ins_bad_d 6 d a b n f l1 l2 0 a 0 0 0 0 0 (by omega) (by omega) fs nb hnb args hp pt nt ct pf cf fnm fa fr pb cb pa ca w hF hA (shid fun W => bare_6 ⟨6, d, a, b, n, f, [], l1, l2⟩ pa args.length ca W) (fun e => zd e.symm)
  subst zd
  by_cases zb : b = 0
  case neg =>
    rw [decide_eq_false (fun hh => by have h4 := hh.2.1; unfold emptyF at h4; omega)]
    exact ins_bad_b 6 0 a b n f l1 l2 0 0 0 0 0 (by omega) (by omega) fs nb hnb args hp pt nt ct pf cf fnm fa fr pb cb pa ca w hF hA (shid fun W => bare_6 ⟨6, 0, a, b, n, f, [], l1, l2⟩ pa args.length ca W) (fun e => zb e.symm)
  subst zb
  by_cases zn : n = 0
  case neg =>
    rw [decide_eq_false (fun hh => by have h4 := hh.2.1; unfold emptyF at h4; omega)]
    exact ins_bad_n 6 0 a 0 n f l1 l2 0 0 0 0 (by omega) (by omega) fs nb hnb args hp pt nt ct pf cf fnm fa fr pb cb pa ca w hF hA (shid fun W => bare_6 ⟨6, 0, a, 0, n, f, [], l1, l2⟩ pa args.length ca W) (fun e => zn e.symm)
  subst zn
  by_cases zf : f = 0
  case neg =>
    rw [decide_eq_false (fun hh => by have h4 := hh.2.1; unfold emptyF at h4; omega)]
    exact ins_bad_f 6 0 a 0 0 f l1 l2 0 0 0 (by omega) (by omega) fs nb hnb args hp pt nt ct pf cf fnm fa fr pb cb pa ca w hF hA (shid fun W => bare_6 ⟨6, 0, a, 0, 0, f, [], l1, l2⟩ pa args.length ca W) (fun e => zf e.symm)
  subst zf
  by_cases zl1 : l1 = 0
  case neg =>
    rw [decide_eq_false (fun hh => by have h4 := hh.2.1; unfold emptyF at h4; omega)]
    exact ins_bad_l1 6 0 a 0 0 0 l1 l2 0 0 (by omega) (by omega) fs nb hnb args hp pt nt ct pf cf fnm fa fr pb cb pa ca w hF hA (shid fun W => bare_6 ⟨6, 0, a, 0, 0, 0, [], l1, l2⟩ pa args.length ca W) (fun e => zl1 e.symm)
  subst zl1
  by_cases zl2 : l2 = 0
  case neg =>
    rw [decide_eq_false (fun hh => by have h4 := hh.2.1; unfold emptyF at h4; omega)]
    exact ins_bad_l2 6 0 a 0 0 0 0 l2 0 (by omega) (by omega) fs nb hnb args hp pt nt ct pf cf fnm fa fr pb cb pa ca w hF hA (shid fun W => bare_6 ⟨6, 0, a, 0, 0, 0, [], 0, l2⟩ pa args.length ca W) (fun e => zl2 e.symm)
  subst zl2
  exact ins_good_other 6 (by omega) (by omega) (by omega) (by omega) (by omega) (by omega) 0 a 0 0 0 0 0 fs nb hnb args hp pt nt ct pf cf fnm fa fr pb cb pa ca w hF hA (by unfold emptyF; omega) (shid fun W => bare_6 ⟨6, 0, a, 0, 0, 0, [], 0, 0⟩ pa args.length ca W)
theorem ins_7 (d a b n f l1 l2 : Int) (fs : List Fnx) (nb : Nat) (hnb : nb * 40 ≤ 140737488352000) (args : List Int) (hp : Int) (pt : Option Addr) (nt ct : Nat) (pf : Option Addr) (cf : Nat) (fnm : ByteArray) (fa fr : Int) (pb : Option Addr) (cb : Nat) (pa : Option Addr) (ca : Nat) (w : World) (hF : FnsIn w (.slice pf fs.length cf) fs) (hA : IntsIn w (.slice pa args.length ca) args) :
    Calls Try.prog 62 #[.agg #[.int .i64 hp, .slice pt nt ct, .slice pf fs.length cf], .agg #[.string fnm, .int .i64 fa, .int .i64 fr, .slice pb nb cb], .agg #[.int .u8 7, .int .i64 d, .int .i64 a, .int .i64 b, .int .u32 n, .int .i64 f, .slice pa args.length ca, .int .i64 l1, .int .i64 l2]] w fun e w' => e = .returned (.bool (decide (insF fs nb 7 d a b n f args l1 l2))) ∧ Below w.heap.size w w' := by
  by_cases zd : d = 0
  case neg =>
    rw [decide_eq_false (fun hh => by have h4 := hh.2.1; unfold emptyF at h4; omega)]
    exact ins_bad_d 7 d a b n f l1 l2 0 0 0 0 0 0 0 (by omega) (by omega) fs nb hnb args hp pt nt ct pf cf fnm fa fr pb cb pa ca w hF hA (shid fun W => bare_7 ⟨7, d, a, b, n, f, [], l1, l2⟩ pa args.length ca W) (fun e => zd e.symm)
  subst zd
  by_cases za : a = 0
  case neg =>
    rw [decide_eq_false (fun hh => by have h4 := hh.2.1; unfold emptyF at h4; omega)]
    exact ins_bad_a 7 0 a b n f l1 l2 0 0 0 0 0 0 (by omega) (by omega) fs nb hnb args hp pt nt ct pf cf fnm fa fr pb cb pa ca w hF hA (shid fun W => bare_7 ⟨7, 0, a, b, n, f, [], l1, l2⟩ pa args.length ca W) (fun e => za e.symm)
  subst za
  by_cases zb : b = 0
  case neg =>
    rw [decide_eq_false (fun hh => by have h4 := hh.2.1; unfold emptyF at h4; omega)]
    exact ins_bad_b 7 0 0 b n f l1 l2 0 0 0 0 0 (by omega) (by omega) fs nb hnb args hp pt nt ct pf cf fnm fa fr pb cb pa ca w hF hA (shid fun W => bare_7 ⟨7, 0, 0, b, n, f, [], l1, l2⟩ pa args.length ca W) (fun e => zb e.symm)
  subst zb
  by_cases zn : n = 0
  case neg =>
    rw [decide_eq_false (fun hh => by have h4 := hh.2.1; unfold emptyF at h4; omega)]
    exact ins_bad_n 7 0 0 0 n f l1 l2 0 0 0 0 (by omega) (by omega) fs nb hnb args hp pt nt ct pf cf fnm fa fr pb cb pa ca w hF hA (shid fun W => bare_7 ⟨7, 0, 0, 0, n, f, [], l1, l2⟩ pa args.length ca W) (fun e => zn e.symm)
  subst zn
  by_cases zf : f = 0
  case neg =>
    rw [decide_eq_false (fun hh => by have h4 := hh.2.1; unfold emptyF at h4; omega)]
    exact ins_bad_f 7 0 0 0 0 f l1 l2 0 0 0 (by omega) (by omega) fs nb hnb args hp pt nt ct pf cf fnm fa fr pb cb pa ca w hF hA (shid fun W => bare_7 ⟨7, 0, 0, 0, 0, f, [], l1, l2⟩ pa args.length ca W) (fun e => zf e.symm)
  subst zf
  by_cases zl1 : l1 = 0
  case neg =>
    rw [decide_eq_false (fun hh => by have h4 := hh.2.1; unfold emptyF at h4; omega)]
    exact ins_bad_l1 7 0 0 0 0 0 l1 l2 0 0 (by omega) (by omega) fs nb hnb args hp pt nt ct pf cf fnm fa fr pb cb pa ca w hF hA (shid fun W => bare_7 ⟨7, 0, 0, 0, 0, 0, [], l1, l2⟩ pa args.length ca W) (fun e => zl1 e.symm)
  subst zl1
  by_cases zl2 : l2 = 0
  case neg =>
    rw [decide_eq_false (fun hh => by have h4 := hh.2.1; unfold emptyF at h4; omega)]
    exact ins_bad_l2 7 0 0 0 0 0 0 l2 0 (by omega) (by omega) fs nb hnb args hp pt nt ct pf cf fnm fa fr pb cb pa ca w hF hA (shid fun W => bare_7 ⟨7, 0, 0, 0, 0, 0, [], 0, l2⟩ pa args.length ca W) (fun e => zl2 e.symm)
  subst zl2
  exact ins_good_other 7 (by omega) (by omega) (by omega) (by omega) (by omega) (by omega) 0 0 0 0 0 0 0 fs nb hnb args hp pt nt ct pf cf fnm fa fr pb cb pa ca w hF hA (by unfold emptyF; omega) (shid fun W => bare_7 ⟨7, 0, 0, 0, 0, 0, [], 0, 0⟩ pa args.length ca W)
theorem ins_8 (d a b n f l1 l2 : Int) (fs : List Fnx) (nb : Nat) (hnb : nb * 40 ≤ 140737488352000) (args : List Int) (hp : Int) (pt : Option Addr) (nt ct : Nat) (pf : Option Addr) (cf : Nat) (fnm : ByteArray) (fa fr : Int) (pb : Option Addr) (cb : Nat) (pa : Option Addr) (ca : Nat) (w : World) (hF : FnsIn w (.slice pf fs.length cf) fs) (hA : IntsIn w (.slice pa args.length ca) args) :
    Calls Try.prog 62 #[.agg #[.int .i64 hp, .slice pt nt ct, .slice pf fs.length cf], .agg #[.string fnm, .int .i64 fa, .int .i64 fr, .slice pb nb cb], .agg #[.int .u8 8, .int .i64 d, .int .i64 a, .int .i64 b, .int .u32 n, .int .i64 f, .slice pa args.length ca, .int .i64 l1, .int .i64 l2]] w fun e w' => e = .returned (.bool (decide (insF fs nb 8 d a b n f args l1 l2))) ∧ Below w.heap.size w w' := by
  by_cases zd : d = 0
  case neg =>
    rw [decide_eq_false (fun hh => by have h4 := hh.2.1; unfold emptyF at h4; omega)]
    exact ins_bad_d 8 d a b n f l1 l2 0 0 0 0 0 l1 0 (by omega) (by omega) fs nb hnb args hp pt nt ct pf cf fnm fa fr pb cb pa ca w hF hA (shid fun W => bare_8 ⟨8, d, a, b, n, f, [], l1, l2⟩ pa args.length ca W) (fun e => zd e.symm)
  subst zd
  by_cases za : a = 0
  case neg =>
    rw [decide_eq_false (fun hh => by have h4 := hh.2.1; unfold emptyF at h4; omega)]
    exact ins_bad_a 8 0 a b n f l1 l2 0 0 0 0 l1 0 (by omega) (by omega) fs nb hnb args hp pt nt ct pf cf fnm fa fr pb cb pa ca w hF hA (shid fun W => bare_8 ⟨8, 0, a, b, n, f, [], l1, l2⟩ pa args.length ca W) (fun e => za e.symm)
  subst za
  by_cases zb : b = 0
  case neg =>
    rw [decide_eq_false (fun hh => by have h4 := hh.2.1; unfold emptyF at h4; omega)]
    exact ins_bad_b 8 0 0 b n f l1 l2 0 0 0 l1 0 (by omega) (by omega) fs nb hnb args hp pt nt ct pf cf fnm fa fr pb cb pa ca w hF hA (shid fun W => bare_8 ⟨8, 0, 0, b, n, f, [], l1, l2⟩ pa args.length ca W) (fun e => zb e.symm)
  subst zb
  by_cases zn : n = 0
  case neg =>
    rw [decide_eq_false (fun hh => by have h4 := hh.2.1; unfold emptyF at h4; omega)]
    exact ins_bad_n 8 0 0 0 n f l1 l2 0 0 l1 0 (by omega) (by omega) fs nb hnb args hp pt nt ct pf cf fnm fa fr pb cb pa ca w hF hA (shid fun W => bare_8 ⟨8, 0, 0, 0, n, f, [], l1, l2⟩ pa args.length ca W) (fun e => zn e.symm)
  subst zn
  by_cases zf : f = 0
  case neg =>
    rw [decide_eq_false (fun hh => by have h4 := hh.2.1; unfold emptyF at h4; omega)]
    exact ins_bad_f 8 0 0 0 0 f l1 l2 0 l1 0 (by omega) (by omega) fs nb hnb args hp pt nt ct pf cf fnm fa fr pb cb pa ca w hF hA (shid fun W => bare_8 ⟨8, 0, 0, 0, 0, f, [], l1, l2⟩ pa args.length ca W) (fun e => zf e.symm)
  subst zf
  by_cases zl2 : l2 = 0
  case neg =>
    rw [decide_eq_false (fun hh => by have h4 := hh.2.1; unfold emptyF at h4; omega)]
    exact ins_bad_l2 8 0 0 0 0 0 l1 l2 0 (by omega) (by omega) fs nb hnb args hp pt nt ct pf cf fnm fa fr pb cb pa ca w hF hA (shid fun W => bare_8 ⟨8, 0, 0, 0, 0, 0, [], l1, l2⟩ pa args.length ca W) (fun e => zl2 e.symm)
  subst zl2
  exact ins_good_8 0 0 0 0 0 l1 0 fs nb hnb args hp pt nt ct pf cf fnm fa fr pb cb pa ca w hF hA (by unfold emptyF; omega) (shid fun W => bare_8 ⟨8, 0, 0, 0, 0, 0, [], l1, 0⟩ pa args.length ca W)
theorem ins_9 (d a b n f l1 l2 : Int) (fs : List Fnx) (nb : Nat) (hnb : nb * 40 ≤ 140737488352000) (args : List Int) (hp : Int) (pt : Option Addr) (nt ct : Nat) (pf : Option Addr) (cf : Nat) (fnm : ByteArray) (fa fr : Int) (pb : Option Addr) (cb : Nat) (pa : Option Addr) (ca : Nat) (w : World) (hF : FnsIn w (.slice pf fs.length cf) fs) (hA : IntsIn w (.slice pa args.length ca) args) :
    Calls Try.prog 62 #[.agg #[.int .i64 hp, .slice pt nt ct, .slice pf fs.length cf], .agg #[.string fnm, .int .i64 fa, .int .i64 fr, .slice pb nb cb], .agg #[.int .u8 9, .int .i64 d, .int .i64 a, .int .i64 b, .int .u32 n, .int .i64 f, .slice pa args.length ca, .int .i64 l1, .int .i64 l2]] w fun e w' => e = .returned (.bool (decide (insF fs nb 9 d a b n f args l1 l2))) ∧ Below w.heap.size w w' := by
  by_cases zd : d = 0
  case neg =>
    rw [decide_eq_false (fun hh => by have h4 := hh.2.1; unfold emptyF at h4; omega)]
    exact ins_bad_d 9 d a b n f l1 l2 0 a 0 0 0 l1 l2 (by omega) (by omega) fs nb hnb args hp pt nt ct pf cf fnm fa fr pb cb pa ca w hF hA (shid fun W => bare_9 ⟨9, d, a, b, n, f, [], l1, l2⟩ pa args.length ca W) (fun e => zd e.symm)
  subst zd
  by_cases zb : b = 0
  case neg =>
    rw [decide_eq_false (fun hh => by have h4 := hh.2.1; unfold emptyF at h4; omega)]
    exact ins_bad_b 9 0 a b n f l1 l2 0 0 0 l1 l2 (by omega) (by omega) fs nb hnb args hp pt nt ct pf cf fnm fa fr pb cb pa ca w hF hA (shid fun W => bare_9 ⟨9, 0, a, b, n, f, [], l1, l2⟩ pa args.length ca W) (fun e => zb e.symm)
  subst zb
  by_cases zn : n = 0
  case neg =>
    rw [decide_eq_false (fun hh => by have h4 := hh.2.1; unfold emptyF at h4; omega)]
    exact ins_bad_n 9 0 a 0 n f l1 l2 0 0 l1 l2 (by omega) (by omega) fs nb hnb args hp pt nt ct pf cf fnm fa fr pb cb pa ca w hF hA (shid fun W => bare_9 ⟨9, 0, a, 0, n, f, [], l1, l2⟩ pa args.length ca W) (fun e => zn e.symm)
  subst zn
  by_cases zf : f = 0
  case neg =>
    rw [decide_eq_false (fun hh => by have h4 := hh.2.1; unfold emptyF at h4; omega)]
    exact ins_bad_f 9 0 a 0 0 f l1 l2 0 l1 l2 (by omega) (by omega) fs nb hnb args hp pt nt ct pf cf fnm fa fr pb cb pa ca w hF hA (shid fun W => bare_9 ⟨9, 0, a, 0, 0, f, [], l1, l2⟩ pa args.length ca W) (fun e => zf e.symm)
  subst zf
  exact ins_good_9 0 a 0 0 0 l1 l2 fs nb hnb args hp pt nt ct pf cf fnm fa fr pb cb pa ca w hF hA (by unfold emptyF; omega) (shid fun W => bare_9 ⟨9, 0, a, 0, 0, 0, [], l1, l2⟩ pa args.length ca W)
theorem ins_10 (d a b n f l1 l2 : Int) (fs : List Fnx) (nb : Nat) (hnb : nb * 40 ≤ 140737488352000) (args : List Int) (hp : Int) (pt : Option Addr) (nt ct : Nat) (pf : Option Addr) (cf : Nat) (fnm : ByteArray) (fa fr : Int) (pb : Option Addr) (cb : Nat) (pa : Option Addr) (ca : Nat) (w : World) (hF : FnsIn w (.slice pf fs.length cf) fs) (hA : IntsIn w (.slice pa args.length ca) args) :
    Calls Try.prog 62 #[.agg #[.int .i64 hp, .slice pt nt ct, .slice pf fs.length cf], .agg #[.string fnm, .int .i64 fa, .int .i64 fr, .slice pb nb cb], .agg #[.int .u8 10, .int .i64 d, .int .i64 a, .int .i64 b, .int .u32 n, .int .i64 f, .slice pa args.length ca, .int .i64 l1, .int .i64 l2]] w fun e w' => e = .returned (.bool (decide (insF fs nb 10 d a b n f args l1 l2))) ∧ Below w.heap.size w w' := by
  by_cases zd : d = 0
  case neg =>
    rw [decide_eq_false (fun hh => by have h4 := hh.2.1; unfold emptyF at h4; omega)]
    exact ins_bad_d 10 d a b n f l1 l2 0 a 0 0 0 0 0 (by omega) (by omega) fs nb hnb args hp pt nt ct pf cf fnm fa fr pb cb pa ca w hF hA (shid fun W => bare_10 ⟨10, d, a, b, n, f, [], l1, l2⟩ pa args.length ca W) (fun e => zd e.symm)
  subst zd
  by_cases zb : b = 0
  case neg =>
    rw [decide_eq_false (fun hh => by have h4 := hh.2.1; unfold emptyF at h4; omega)]
    exact ins_bad_b 10 0 a b n f l1 l2 0 0 0 0 0 (by omega) (by omega) fs nb hnb args hp pt nt ct pf cf fnm fa fr pb cb pa ca w hF hA (shid fun W => bare_10 ⟨10, 0, a, b, n, f, [], l1, l2⟩ pa args.length ca W) (fun e => zb e.symm)
  subst zb
  by_cases zn : n = 0
  case neg =>
    rw [decide_eq_false (fun hh => by have h4 := hh.2.1; unfold emptyF at h4; omega)]
    exact ins_bad_n 10 0 a 0 n f l1 l2 0 0 0 0 (by omega) (by omega) fs nb hnb args hp pt nt ct pf cf fnm fa fr pb cb pa ca w hF hA (shid fun W => bare_10 ⟨10, 0, a, 0, n, f, [], l1, l2⟩ pa args.length ca W) (fun e => zn e.symm)
  subst zn
  by_cases zf : f = 0
  case neg =>
    rw [decide_eq_false (fun hh => by have h4 := hh.2.1; unfold emptyF at h4; omega)]
    exact ins_bad_f 10 0 a 0 0 f l1 l2 0 0 0 (by omega) (by omega) fs nb hnb args hp pt nt ct pf cf fnm fa fr pb cb pa ca w hF hA (shid fun W => bare_10 ⟨10, 0, a, 0, 0, f, [], l1, l2⟩ pa args.length ca W) (fun e => zf e.symm)
  subst zf
  by_cases zl1 : l1 = 0
  case neg =>
    rw [decide_eq_false (fun hh => by have h4 := hh.2.1; unfold emptyF at h4; omega)]
    exact ins_bad_l1 10 0 a 0 0 0 l1 l2 0 0 (by omega) (by omega) fs nb hnb args hp pt nt ct pf cf fnm fa fr pb cb pa ca w hF hA (shid fun W => bare_10 ⟨10, 0, a, 0, 0, 0, [], l1, l2⟩ pa args.length ca W) (fun e => zl1 e.symm)
  subst zl1
  by_cases zl2 : l2 = 0
  case neg =>
    rw [decide_eq_false (fun hh => by have h4 := hh.2.1; unfold emptyF at h4; omega)]
    exact ins_bad_l2 10 0 a 0 0 0 0 l2 0 (by omega) (by omega) fs nb hnb args hp pt nt ct pf cf fnm fa fr pb cb pa ca w hF hA (shid fun W => bare_10 ⟨10, 0, a, 0, 0, 0, [], 0, l2⟩ pa args.length ca W) (fun e => zl2 e.symm)
  subst zl2
  exact ins_good_other 10 (by omega) (by omega) (by omega) (by omega) (by omega) (by omega) 0 a 0 0 0 0 0 fs nb hnb args hp pt nt ct pf cf fnm fa fr pb cb pa ca w hF hA (by unfold emptyF; omega) (shid fun W => bare_10 ⟨10, 0, a, 0, 0, 0, [], 0, 0⟩ pa args.length ca W)
theorem ins_any (op : Int) (h0 : 0 ≤ op) (d a b n f l1 l2 : Int) (fs : List Fnx) (nb : Nat) (hnb : nb * 40 ≤ 140737488352000) (args : List Int) (hp : Int) (pt : Option Addr) (nt ct : Nat) (pf : Option Addr) (cf : Nat) (fnm : ByteArray) (fa fr : Int) (pb : Option Addr) (cb : Nat) (pa : Option Addr) (ca : Nat) (w : World) (hF : FnsIn w (.slice pf fs.length cf) fs) (hA : IntsIn w (.slice pa args.length ca) args) :
    Calls Try.prog 62 #[.agg #[.int .i64 hp, .slice pt nt ct, .slice pf fs.length cf], .agg #[.string fnm, .int .i64 fa, .int .i64 fr, .slice pb nb cb], .agg #[.int .u8 op, .int .i64 d, .int .i64 a, .int .i64 b, .int .u32 n, .int .i64 f, .slice pa args.length ca, .int .i64 l1, .int .i64 l2]] w fun e w' => e = .returned (.bool (decide (insF fs nb op d a b n f args l1 l2))) ∧ Below w.heap.size w w' := by
  rcases op_cases h0 with rfl | rfl | rfl | rfl | rfl | rfl | rfl | rfl | rfl | rfl | rfl | hop
  · exact ins_0 d a b n f l1 l2 fs nb hnb args hp pt nt ct pf cf fnm fa fr pb cb pa ca w hF hA
  · exact ins_1 d a b n f l1 l2 fs nb hnb args hp pt nt ct pf cf fnm fa fr pb cb pa ca w hF hA
  · exact ins_2 d a b n f l1 l2 fs nb hnb args hp pt nt ct pf cf fnm fa fr pb cb pa ca w hF hA
  · exact ins_3 d a b n f l1 l2 fs nb hnb args hp pt nt ct pf cf fnm fa fr pb cb pa ca w hF hA
  · exact ins_4 d a b n f l1 l2 fs nb hnb args hp pt nt ct pf cf fnm fa fr pb cb pa ca w hF hA
  · exact ins_5 d a b n f l1 l2 fs nb hnb args hp pt nt ct pf cf fnm fa fr pb cb pa ca w hF hA
  · exact ins_6 d a b n f l1 l2 fs nb hnb args hp pt nt ct pf cf fnm fa fr pb cb pa ca w hF hA
  · exact ins_7 d a b n f l1 l2 fs nb hnb args hp pt nt ct pf cf fnm fa fr pb cb pa ca w hF hA
  · exact ins_8 d a b n f l1 l2 fs nb hnb args hp pt nt ct pf cf fnm fa fr pb cb pa ca w hF hA
  · exact ins_9 d a b n f l1 l2 fs nb hnb args hp pt nt ct pf cf fnm fa fr pb cb pa ca w hF hA
  · exact ins_10 d a b n f l1 l2 fs nb hnb args hp pt nt ct pf cf fnm fa fr pb cb pa ca w hF hA
  · exact ins_big op hop d a b n f l1 l2 fs nb hnb args hp pt nt ct pf cf fnm fa fr pb cb pa ca w hF hA
end Go.Proofs.Ytdefooailcbnlaa
