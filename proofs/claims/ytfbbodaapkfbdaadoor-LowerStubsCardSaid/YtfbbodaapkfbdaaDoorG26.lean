/- Several texts in one: LowWalks, LowNum, LowFrame, LowMove, LowBlock, LowAt, LowSlot, LowFar, LowMoved, LowLens. -/
import Derived.Test.YtfbbodaapkfbdaaDoorG24
import Derived.Test.YtfbbodaapkfbdaaDoorG25
import Derived.Test.YtfbbodaapkfbdaaDoorG01
import Derived.Handy
/- Walks of the package lower: within, has, reg, num, both, Frame, name. -/
namespace Go.Proofs.YtfbbodaapkfbdaaDoor
open Go.RowKit
set_option linter.unusedVariables false
set_option linter.unusedSimpArgs false
theorem within_any (n m : Int) (w : World) : Calls Tryd.prog 34 #[.int .i64 n, .int .i64 m] w fun e w' => e = .returned (.bool (decide (0 ≤ n ∧ n < m))) ∧ w = w' := by
  by_cases h0 : 0 ≤ n
  · have q1 : decide (n ≥ 0) = true := decide_eq_true h0
    have q2 : decide (0 ≤ n) = true := decide_eq_true h0
    have e : decide (0 ≤ n ∧ n < m) = decide (n < m) := by simp [h0]
    rw [e]
    go_enter Tryd.func34, Tryd.ntmps34
    go_wp2_with fail
    go_ret
    exact ⟨rfl, rfl⟩
  · have q1 : decide (n ≥ 0) = false := decide_eq_false h0
    have q2 : decide (0 ≤ n) = false := decide_eq_false h0
    have e : decide (0 ≤ n ∧ n < m) = false := decide_eq_false (fun h => h0 h.1)
    rw [e]
    go_enter Tryd.func34, Tryd.ntmps34
    go_wp2_with fail
    go_ret
    exact ⟨rfl, rfl⟩
theorem reg_any (n : Int) (b : Bool) (w : World) : Calls Tryd.prog 75 #[.int .i64 n, .bool b] w fun e w' => e = .returned (.bool (decide (regP n (b = true)))) ∧ w = w' := by
  cases b with
  | false =>
    have h : regP n (false = true) ↔ n = -1 := by unfold regP; simp
    have e : decide (regP n (false = true)) = (n == -1) := (decide_eq_decide.2 h).trans rfl
    rw [e]
    go_enter Tryd.func75, Tryd.ntmps75
    go_wp2_with fail
    go_ret
    exact ⟨rfl, rfl⟩
  | true =>
    have h : regP n (true = true) ↔ (0 ≤ n ∧ n < 32) := by unfold regP; simp
    have e : decide (regP n (true = true)) = decide (0 ≤ n ∧ n < 32) := decide_eq_decide.2 h
    rw [e]
    go_enter Tryd.func75, Tryd.ntmps75
    go_wp2_with fail
    refine (within_any n 32 w).mono ?_
    rintro e w' ⟨rfl, rfl⟩
    go_wp2_with fail
    go_ret
    exact ⟨by simp, rfl⟩
theorem decl_len (f : Nat) (hf : f < 9223372036854775808) : (Lib.decDigits f).length ≤ 20 := by
  rw [Lib.decDigits_length]
  by_cases h : 1 ≤ f
  · have := Lib.numDigits_eq f h (by omega)
    split at this <;> omega
  · rw [show f = 0 by omega, Lib.nDigits_small (by omega)]; omega
theorem name_any (f : Nat) (hf : f < 9223372036854775808) (w : World) (htab : Lib.TabIs Tryd.prog w "internal/strconv.uint64pow10" .u64 Lib.pow10Tab) :
    Calls Tryd.prog 25 #[.int .i64 f] w fun e w' => e = .returned (.string (nameB' (fNameL f))) ∧ Below w.heap.size w w' := by
  have HI := itoa_any f hf w htab
  have hl := decl_len f hf
  have hl1 : ¬ (9223372036854775807 < 1 + (Lib.decDigits f).length) := by omega
  go_enter Tryd.func25, Tryd.ntmps25
  go_wp2_with fail
  refine HI.mono ?_
  rintro e w' ⟨rfl, hb⟩
  go_wp2_with fail
  all_goals try (rename_i hx; exact absurd hx hl1)
  all_goals go_ret
  refine ⟨?_, hb⟩
  have e : (⟨#[102]⟩ : ByteArray) ++ ⟨(Lib.decDigits f).toArray⟩ = nameB' (fNameL f) := by
    apply ByteArray.ext
    apply Array.toList_inj.1
    simp [nameB', fNameL, decL]
  exact congrArg (fun b => Ending.returned (.string b)) e
end Go.Proofs.YtfbbodaapkfbdaaDoor
/- Walks of the package lower: num, both. -/
namespace Go.Proofs.YtfbbodaapkfbdaaDoor
open Go.RowKit
set_option linter.unusedVariables false
set_option linter.unusedSimpArgs false
theorem num_any {op rd rs n : Int} (h1 : 0 ≤ rd ∧ rd < 256) (h2 : 0 ≤ rs ∧ rs < 256) (h3 : -2147483648 ≤ n ∧ n < 2147483648) (w : World) :
    Calls Tryd.prog 39 #[.int .u8 op, .int .i64 rd, .int .i64 rs, .int .i64 n] w fun e w' => e = .returned (numI op rd rs n).agg ∧ Below w.heap.size w w' := by
  have w3 : wrap32 n = n := by unfold wrap32; omega
  go_enter Tryd.func39, Tryd.ntmps39
  go_wp2_with fail
  refine bodyPost_ret (v := (numI op rd rs n).agg) (by simp [results, Tryd.results39, go_sem, numI]; try rfl) rfl ?_
  exact ⟨rfl, (Below.refl _ w).alloc (Nat.le_refl _) _⟩
theorem both_any {op rd a b : Int} (h1 : 0 ≤ rd ∧ rd < 256) (h2 : 0 ≤ a ∧ a < 256) (h3 : 0 ≤ b ∧ b < 256) (w : World) :
    Calls Tryd.prog 38 #[.int .u8 op, .int .i64 rd, .int .i64 a, .int .i64 b] w fun e w' => e = .returned (twoI op rd a b).agg ∧ Below w.heap.size w w' := by
  go_enter Tryd.func38, Tryd.ntmps38
  go_wp2_with fail
  refine bodyPost_ret (v := (twoI op rd a b).agg) (by simp [results, Tryd.results38, go_sem, twoI]; try rfl) rfl ?_
  exact ⟨rfl, (Below.refl _ w).alloc (Nat.le_refl _) _⟩
set_option maxRecDepth 100000 in
set_option maxHeartbeats 1000000 in
theorem has_0 (w : World) : Calls Tryd.prog 74 #[.int .u8 0] w fun e w' => e = .returned (.tuple #[.int .i64 4, .bool true]) ∧ Below w.heap.size w w' := by
  go_enter Tryd.func74, Tryd.ntmps74
  go_wp2_with fail
  refine bodyPost_ret (by simp [results, Tryd.results74, go_sem]; try rfl) rfl ?_
  exact ⟨rfl, (Below.refl _ w).alloc (Nat.le_refl _) _⟩
set_option maxRecDepth 100000 in
set_option maxHeartbeats 1000000 in
theorem has_1 (w : World) : Calls Tryd.prog 74 #[.int .u8 1] w fun e w' => e = .returned (.tuple #[.int .i64 7, .bool true]) ∧ Below w.heap.size w w' := by
  go_enter Tryd.func74, Tryd.ntmps74
  go_wp2_with fail
  refine bodyPost_ret (by simp [results, Tryd.results74, go_sem]; try rfl) rfl ?_
  exact ⟨rfl, (Below.refl _ w).alloc (Nat.le_refl _) _⟩
set_option maxRecDepth 100000 in
set_option maxHeartbeats 1000000 in
theorem has_2 (w : World) : Calls Tryd.prog 74 #[.int .u8 2] w fun e w' => e = .returned (.tuple #[.int .i64 6, .bool true]) ∧ Below w.heap.size w w' := by
  go_enter Tryd.func74, Tryd.ntmps74
  go_wp2_with fail
  refine bodyPost_ret (by simp [results, Tryd.results74, go_sem]; try rfl) rfl ?_
  exact ⟨rfl, (Below.refl _ w).alloc (Nat.le_refl _) _⟩
set_option maxRecDepth 100000 in
set_option maxHeartbeats 1000000 in
theorem has_3 (w : World) : Calls Tryd.prog 74 #[.int .u8 3] w fun e w' => e = .returned (.tuple #[.int .i64 6, .bool true]) ∧ Below w.heap.size w w' := by
  go_enter Tryd.func74, Tryd.ntmps74
  go_wp2_with fail
  refine bodyPost_ret (by simp [results, Tryd.results74, go_sem]; try rfl) rfl ?_
  exact ⟨rfl, (Below.refl _ w).alloc (Nat.le_refl _) _⟩
set_option maxRecDepth 100000 in
set_option maxHeartbeats 1000000 in
theorem has_4 (w : World) : Calls Tryd.prog 74 #[.int .u8 4] w fun e w' => e = .returned (.tuple #[.int .i64 3, .bool true]) ∧ Below w.heap.size w w' := by
  go_enter Tryd.func74, Tryd.ntmps74
  go_wp2_with fail
  refine bodyPost_ret (by simp [results, Tryd.results74, go_sem]; try rfl) rfl ?_
  exact ⟨rfl, (Below.refl _ w).alloc (Nat.le_refl _) _⟩
set_option maxRecDepth 100000 in
set_option maxHeartbeats 1000000 in
theorem has_5 (w : World) : Calls Tryd.prog 74 #[.int .u8 5] w fun e w' => e = .returned (.tuple #[.int .i64 4, .bool true]) ∧ Below w.heap.size w w' := by
  go_enter Tryd.func74, Tryd.ntmps74
  go_wp2_with fail
  refine bodyPost_ret (by simp [results, Tryd.results74, go_sem]; try rfl) rfl ?_
  exact ⟨rfl, (Below.refl _ w).alloc (Nat.le_refl _) _⟩
set_option maxRecDepth 100000 in
set_option maxHeartbeats 1000000 in
theorem has_6 (w : World) : Calls Tryd.prog 74 #[.int .u8 6] w fun e w' => e = .returned (.tuple #[.int .i64 2, .bool true]) ∧ Below w.heap.size w w' := by
  go_enter Tryd.func74, Tryd.ntmps74
  go_wp2_with fail
  refine bodyPost_ret (by simp [results, Tryd.results74, go_sem]; try rfl) rfl ?_
  exact ⟨rfl, (Below.refl _ w).alloc (Nat.le_refl _) _⟩
set_option maxRecDepth 100000 in
set_option maxHeartbeats 1000000 in
theorem has_7 (w : World) : Calls Tryd.prog 74 #[.int .u8 7] w fun e w' => e = .returned (.tuple #[.int .i64 0, .bool true]) ∧ Below w.heap.size w w' := by
  go_enter Tryd.func74, Tryd.ntmps74
  go_wp2_with fail
  refine bodyPost_ret (by simp [results, Tryd.results74, go_sem]; try rfl) rfl ?_
  exact ⟨rfl, (Below.refl _ w).alloc (Nat.le_refl _) _⟩
set_option maxRecDepth 100000 in
set_option maxHeartbeats 1000000 in
theorem has_8 (w : World) : Calls Tryd.prog 74 #[.int .u8 8] w fun e w' => e = .returned (.tuple #[.int .i64 0, .bool true]) ∧ Below w.heap.size w w' := by
  go_enter Tryd.func74, Tryd.ntmps74
  go_wp2_with fail
  refine bodyPost_ret (by simp [results, Tryd.results74, go_sem]; try rfl) rfl ?_
  exact ⟨rfl, (Below.refl _ w).alloc (Nat.le_refl _) _⟩
set_option maxRecDepth 100000 in
set_option maxHeartbeats 1000000 in
theorem has_9 (w : World) : Calls Tryd.prog 74 #[.int .u8 9] w fun e w' => e = .returned (.tuple #[.int .i64 2, .bool true]) ∧ Below w.heap.size w w' := by
  go_enter Tryd.func74, Tryd.ntmps74
  go_wp2_with fail
  refine bodyPost_ret (by simp [results, Tryd.results74, go_sem]; try rfl) rfl ?_
  exact ⟨rfl, (Below.refl _ w).alloc (Nat.le_refl _) _⟩
set_option maxRecDepth 100000 in
set_option maxHeartbeats 1000000 in
theorem has_10 (w : World) : Calls Tryd.prog 74 #[.int .u8 10] w fun e w' => e = .returned (.tuple #[.int .i64 2, .bool true]) ∧ Below w.heap.size w w' := by
  go_enter Tryd.func74, Tryd.ntmps74
  go_wp2_with fail
  refine bodyPost_ret (by simp [results, Tryd.results74, go_sem]; try rfl) rfl ?_
  exact ⟨rfl, (Below.refl _ w).alloc (Nat.le_refl _) _⟩
set_option maxRecDepth 100000 in
theorem has_any {op : Int} (h0 : 0 ≤ op) (h1 : op < 256) (w : World) :
    Calls Tryd.prog 74 #[.int .u8 op] w fun e w' => e = .returned (.tuple #[.int .i64 (max (hasS op) 0), .bool (decide (0 ≤ hasS op))]) ∧ Below w.heap.size w w' := by
  by_cases h : op < 11
  · have hc : op = 0 ∨ op = 1 ∨ op = 2 ∨ op = 3 ∨ op = 4 ∨ op = 5 ∨ op = 6 ∨ op = 7 ∨ op = 8 ∨ op = 9 ∨ op = 10 := by omega
    rcases hc with rfl | rfl | rfl | rfl | rfl | rfl | rfl | rfl | rfl | rfl | rfl
    · exact has_0 w
    · exact has_1 w
    · exact has_2 w
    · exact has_3 w
    · exact has_4 w
    · exact has_5 w
    · exact has_6 w
    · exact has_7 w
    · exact has_8 w
    · exact has_9 w
    · exact has_10 w
  · have e : hasS op = -1 := by unfold hasS; rw [if_neg (by omega)]
    rw [e]
    go_enter Tryd.func74, Tryd.ntmps74
    go_wp2_with fail
    all_goals try omega
    refine bodyPost_ret (by simp [results, Tryd.results74, go_sem]; try rfl) rfl ?_
    exact ⟨rfl, (Below.refl _ w).alloc (Nat.le_refl _) _⟩
end Go.Proofs.YtfbbodaapkfbdaaDoor
/- Walks of the package lower: Frame. -/
namespace Go.Proofs.YtfbbodaapkfbdaaDoor
open Go.RowKit
set_option linter.unusedVariables false
set_option linter.unusedSimpArgs false
theorem frame_any {x : Afx} {v : Value} {w : World} (hx : AfV w v x) (hs : x.slots < 1000000000000) :
    Calls Tryd.prog 14 #[v] w fun e w' => e = .returned (.int .i64 (frameS x.slots)) ∧ Below w.heap.size w w' := by
  obtain ⟨pe, ce, pb, cb, rfl, -, -⟩ := hx
  obtain ⟨leaf, sl, en, bl⟩ := x
  show Calls Tryd.prog 14 #[.agg #[.bool leaf, .int .i64 sl, .slice pe en.length ce, .slice pb bl.length cb]] w fun e w' => e = .returned (.int .i64 (frameS sl)) ∧ Below w.heap.size w w'
  have hs' : sl < 1000000000000 := hs
  clear hs
  generalize en.length = ne
  generalize bl.length = nb
  unfold frameS
  by_cases h : 0 ≤ sl
  · have hm : max sl 0 = sl := by omega
    rw [hm]
    go_enter Tryd.func14, Tryd.ntmps14
    go_wp2_with fail
    go_ret
    exact ⟨rfl, (Below.refl _ w).alloc (Nat.le_refl _) _⟩
  · have hm : max sl 0 = 0 := by omega
    rw [hm]
    go_enter Tryd.func14, Tryd.ntmps14
    go_wp2_with fail
    go_ret
    exact ⟨rfl, (Below.refl _ w).alloc (Nat.le_refl _) _⟩
end Go.Proofs.YtfbbodaapkfbdaaDoor
/- Walks of the package lower: move. -/
namespace Go.Proofs.YtfbbodaapkfbdaaDoor
open Go.RowKit
set_option linter.unusedVariables false
set_option linter.unusedSimpArgs false
/-- A step of an allocated function, as it is handed over. -/
def AcV (w : World) (v : Value) (x : Acx) : Prop := ∃ p cap, v = .agg #[.int .u8 x.kind, .int .i64 x.at', .int .i64 x.d, .int .i64 x.a, .int .i64 x.b, .slice p x.args.length cap] ∧ IntsIn w (.slice p x.args.length cap) x.args ∧ ((0 ≤ x.kind ∧ x.kind < 256) ∧ I64 x.at' ∧ I64 x.d ∧ I64 x.a ∧ I64 x.b)
theorem max0 (s : Int) (h : 0 ≤ s) : max s 0 = s := by omega
theorem move_any {g : Nat} {sl : Int} {c : Acx} {v : Value} {w : World} (hs : sl < 1000000000000) (h6 : w.cell? ⟨g, 6, none⟩ = some (.int .i64 sl)) (hv : AcV w v c) :
    Calls Tryd.prog 49 #[.pointer (some ⟨g, 0, none⟩), v] w fun e w' => e = .returned (.bool (decide (moveP sl c))) ∧ Below w.heap.size w w' := by
  obtain ⟨pa, ca, rfl, hi, -, b1, b2, b3, b4⟩ := hv
  have hlen := hi.1
  clear hi
  obtain ⟨k, a', d, a, b, args⟩ := c
  have hB := decide_eq_true_iff (p := moveP sl ⟨k, a', d, a, b, args⟩)
  generalize decide (moveP sl ⟨k, a', d, a, b, args⟩) = B at hB ⊢
  unfold moveP at hB
  simp only at hB hlen b1 b2 b3 b4 ⊢
  unfold I64 at b1 b2 b3 b4
  generalize args.length = na at hB hlen ⊢
  have hlt := World.block_lt_of_cell? _ _ h6
  have k6 : ∀ os : Array Value, (w.alloc (.cells os 41)).cell? ⟨g, 6, none⟩ = some (.int .i64 sl) := fun os => Lib.cell?_alloc_some _ h6
  go_enter Tryd.func49, Tryd.ntmps49
  go_wp2_with fail
  case isTrue =>
    refine (within_any _ _ _).mono ?_
    rintro e w' ⟨rfl, rfl⟩
    by_cases g4 : 0 ≤ a ∧ a < 32 + max sl 0
    · rw [decide_eq_true g4]
      go_wp2_with fail
      refine (within_any _ _ _).mono ?_
      rintro e w' ⟨rfl, rfl⟩
      by_cases g5 : 0 ≤ d ∧ d < 32 + max sl 0
      · rw [decide_eq_true g5]
        go_wp2_with fail
        all_goals go_ret
        all_goals refine ⟨?_, (Below.refl _ w).alloc (Nat.le_refl _) _⟩
        have hb : decide (min a d < 32) = B := by
          cases B with
          | true => exact decide_eq_true (by have := hB.1 rfl; omega)
          | false => exact decide_eq_false (fun h => by have := hB.2 (by refine ⟨by assumption, by assumption, ?_, g4, g5, ?_⟩ <;> omega); cases this)
        exact congrArg (fun b => Ending.returned (.bool b)) hb
      · rw [decide_eq_false g5]
        have hb : B = false := by
          cases B with
          | false => rfl
          | true => exact absurd (hB.1 rfl) (by omega)
        subst hb
        go_wp2_with fail
        go_ret
        exact ⟨rfl, (Below.refl _ w).alloc (Nat.le_refl _) _⟩
    · rw [decide_eq_false g4]
      have hb : B = false := by
        cases B with
        | false => rfl
        | true => exact absurd (hB.1 rfl) (by omega)
      subst hb
      go_wp2_with fail
      go_ret
      exact ⟨rfl, (Below.refl _ w).alloc (Nat.le_refl _) _⟩
  all_goals
    have hb : B = false := by
      cases B with
      | false => rfl
      | true => exact absurd (hB.1 rfl) (by omega)
    subst hb
    go_ret
    exact ⟨rfl, (Below.refl _ w).alloc (Nat.le_refl _) _⟩
end Go.Proofs.YtfbbodaapkfbdaaDoor
/- Walks of the package lower: block. -/
namespace Go.Proofs.YtfbbodaapkfbdaaDoor
open Go.RowKit
set_option linter.unusedVariables false
set_option linter.unusedSimpArgs false
theorem nameB_add (l m : List UInt8) : nameB' l ++ nameB' m = nameB' (l ++ m) := by
  apply ByteArray.ext
  apply Array.toList_inj.1
  simp [nameB']
theorem nameB_size (l : List UInt8) : (nameB' l).size = l.length := by simp [nameB', ByteArray.size]
theorem block_any {g : Nat} {f b : Nat} {w : World} (hf : f < 9223372036854775808) (hb : b < 9223372036854775808) (h4 : w.cell? ⟨g, 4, none⟩ = some (.int .i64 f)) (htab : Lib.TabIs Tryd.prog w "internal/strconv.uint64pow10" .u64 Lib.pow10Tab) (htab' : ∀ w', Below w.heap.size w w' → Lib.TabIs Tryd.prog w' "internal/strconv.uint64pow10" .u64 Lib.pow10Tab) :
    Calls Tryd.prog 29 #[.pointer (some ⟨g, 0, none⟩), .int .i64 b] w fun e w' => e = .returned (.string (nameB' (bNameL f b))) ∧ Below w.heap.size w w' := by
  have HN := name_any f hf w htab
  have l1 := decl_len f hf
  have l2 := decl_len b hb
  have e1 : (nameB' (fNameL f)).size = (Lib.decDigits f).length + 1 := by rw [nameB_size]; simp [fNameL, decL]
  go_enter Tryd.func29, Tryd.ntmps29
  go_wp2_with fail
  refine HN.mono ?_
  rintro e w1 ⟨rfl, b1⟩
  have HI := itoa_any b hb w1 (htab' _ b1)
  have hc : ¬ (9223372036854775807 < (nameB' (fNameL f)).size + 1) := by omega
  go_wp2_with fail
  refine HI.mono ?_
  rintro e w2 ⟨rfl, b2⟩
  have e2 : (nameB' (fNameL f) ++ ⟨#[98]⟩ : ByteArray).size = (Lib.decDigits f).length + 2 := by
    show (nameB' (fNameL f) ++ nameB' [98]).size = _
    rw [nameB_add, nameB_size]; simp [fNameL, decL]
  have hd : ¬ (9223372036854775807 < (Lib.decDigits f).length + 2 + (Lib.decDigits b).length) := by omega
  go_wp2_with fail
  all_goals try (rename_i hx; exfalso; simp [ByteArray.size, fNameL, decL, nameB'] at hx; omega)
  go_ret
  refine ⟨?_, b1.trans (b2.mono b1.size)⟩
  have e3 : (nameB' (fNameL f) ++ ⟨#[98]⟩ ++ ⟨(Lib.decDigits b).toArray⟩ : ByteArray) = nameB' (bNameL f b) := by
    show nameB' (fNameL f) ++ nameB' [98] ++ nameB' (Lib.decDigits b) = _
    rw [nameB_add, nameB_add]; simp [bNameL, decL]
  exact congrArg (fun b => Ending.returned (.string b)) e3
end Go.Proofs.YtfbbodaapkfbdaaDoor
/- A maker and its list, as they lie in the world; what a method of the list makes of both. -/
namespace Go.Proofs.YtfbbodaapkfbdaaDoor
open Go.RowKit
set_option linter.unusedVariables false
set_option linter.unusedSimpArgs false
/-- A maker: its block, its list's block, its cells but the counter. -/
structure Mc where
  g : Nat
  pa : Nat
  cs : List Value
def Mc.cells (c : Mc) (many : Nat) : List Value := .pointer (some ⟨c.pa, 0, none⟩) :: (c.cs ++ [.int .i32 many])
/-- The table of powers, and that it lies below. -/
structure PowLo (w0 : Nat) (w : World) : Prop where
  tab : Lib.TabIs Tryd.prog w "internal/strconv.uint64pow10" .u64 Lib.pow10Tab
  lo : 1 < w0
/-- The maker in the world w; since W only blocks that are not elder have changed. -/
structure LowAt (W w : World) (c : Mc) (S : Nat → Prop) (s : Lo) : Prop where
  lst : Lst W.heap.size w c.pa S s.L s.M
  tab : TabLo W.heap.size w
  pow : PowLo W.heap.size w
  mkr : VRow w c.g 88 (c.cells s.many)
  ns : ¬ S c.g
  lo : W.heap.size ≤ c.g
  bel : Below W.heap.size W w
/-- The list goes on. -/
def LowGo (W w : World) (c : Mc) (S : Nat → Prop) (s : Lo) (w' : World) : Prop := ∃ S', LowAt W w' c S' s ∧ Only (fun k => S k ∨ k = c.g) w w' ∧ ∀ k, S' k → S k ∨ w.heap.size ≤ k
theorem pow_named : Tryd.prog.globalNamed "internal/strconv.uint64pow10" = some 1 := by kernel_rfl
theorem PowLo.keepB {w0 : Nat} {w w' : World} (h : PowLo w0 w) (hb : Below w0 w w') : PowLo w0 w' := by
  refine ⟨?_, h.lo⟩
  have h1 := h.tab
  unfold Lib.TabIs World.var? at h1 ⊢
  rw [pow_named] at h1 ⊢
  simp only [Option.bind_some] at h1 ⊢
  rw [hb.block _ h.lo]
  exact h1
theorem LowGo.same {W w : World} {c : Mc} {S : Nat → Prop} {s : Lo} (h : LowAt W w c S s) : LowGo W w c S s w := ⟨S, h, Only.refl _ _, fun _ hk => .inl hk⟩
theorem LowGo.trans {W w w1 w2 : World} {c : Mc} {S : Nat → Prop} {s s' : Lo} (h : LowGo W w c S s w1) (k : ∀ S', LowAt W w1 c S' s → LowGo W w1 c S' s' w2) : LowGo W w c S s' w2 := by
  obtain ⟨S1, h1, o1, r1⟩ := h
  obtain ⟨S2, h2, o2, r2⟩ := k S1 h1
  refine ⟨S2, h2, o1.fresh o2 (fun i hi hk => ?_), fun k hk => ?_⟩
  · rcases hk with hk | hk
    · rcases r1 i hk with h | h
      · exact .inl h
      · omega
    · exact .inr hk
  · rcases r2 k hk with h | h
    · exact r1 k h
    · exact .inr (Nat.le_trans o1.size h)
section
variable {W w : World} {c : Mc} {S : Nat → Prop} {s : Lo}
theorem LowAt.keepb (h : LowAt W w c S s) {w' : World} (hb : Below w.heap.size w w') : LowAt W w' c S s :=
  ⟨h.lst.keepb hb, h.tab.keepb hb, h.pow.keepB (hb.mono h.bel.size), h.mkr.below hb, h.ns, h.lo, h.bel.trans (hb.mono h.bel.size)⟩
/-- A method of the list. -/
theorem LowAt.step (h : LowAt W w c S s) {L' : List It} {M' : List (List UInt8 × Int)} {w' : World} (hg : LGo W.heap.size w c.pa S L' M' w') : LowGo W w c S ⟨L', M', s.many⟩ w' := by
  obtain ⟨S', l', o', r'⟩ := hg
  have hlt := h.mkr.lt
  have hb : Below W.heap.size w w' := o'.below h.bel.size (fun k hk hS => by have := (h.lst.lo k hS).1; omega)
  refine ⟨S', ⟨l', h.tab.keepO o' (fun k hk => (h.lst.lo k hk).1), h.pow.keepB hb, h.mkr.of_block (o'.block _ hlt h.ns), fun hk => ?_, h.lo, h.bel.trans hb⟩, o'.mono (fun k _ hk => .inl hk), r'⟩
  rcases r' _ hk with h1 | h1
  · exact h.ns h1
  · omega
/-- The counter. -/
theorem LowAt.count (h : LowAt W w c S s) (hl : c.cs.length = 9) (n : Nat) : LowGo W w c S { s with many := n } (w.setCell ⟨c.g, 10, none⟩ (.int .i32 n)) := by
  have o1 : Only (fun k => k = c.g) w (w.setCell ⟨c.g, 10, none⟩ (.int .i32 n)) := (Only.refl (fun k => k = c.g) w).setCell (p := ⟨c.g, 10, none⟩) rfl _
  have hb : Below W.heap.size w (w.setCell ⟨c.g, 10, none⟩ (.int .i32 n)) := o1.below h.bel.size (fun k hk e => by have := h.lo; omega)
  have hm := h.mkr.set (k := 10) (by simp [Mc.cells, hl]) (.int .i32 n)
  have e : (c.cells s.many).set 10 (.int .i32 n) = c.cells n := by
    unfold Mc.cells
    rw [List.set_cons_succ, List.set_append_right _ _ (by omega), hl]
    rfl
  rw [e] at hm
  exact ⟨S, ⟨h.lst.keep o1 (fun k hk e => h.ns (by rw [← e]; exact hk)), h.tab.keepO o1 (fun k hk => by rw [hk]; exact h.lo), h.pow.keepB hb, hm, h.ns, h.lo, h.bel.trans hb⟩, o1.mono (fun k _ hk => .inr hk), fun k hk => .inl hk⟩
theorem low_put (h : LowAt W w c S s) {v : Value} {l : List Ix} (hl : InsIn w v l) (hL : s.L.length + l.length < 4294967296) :
    Calls Tryd.prog 37 #[.pointer (some ⟨c.pa, 0, none⟩), v] w fun e w' => e = .returned (.int .i64 (putE l)) ∧ LowGo W w c S (s.put l) w' :=
  (lput_any h.lst h.tab h.bel.size hl hL).mono fun e w' ⟨he, hg⟩ => ⟨he, h.step hg⟩
theorem low_jump (h : LowAt W w c S s) {q : Int} (h0 : 0 ≤ q) (h1 : q < 256) {nm : List UInt8} (hs : nm.length ≤ maxLen) (hL : s.L.length < 4294967296) :
    Calls Tryd.prog 79 #[.pointer (some ⟨c.pa, 0, none⟩), .int .u8 q, .string (nameB' nm)] w fun e w' => e = .returned (.int .i64 (jumpE q)) ∧ LowGo W w c S (s.jump q nm) w' :=
  (ljump_any h.lst h.tab h.bel.size h0 h1 (nm := nameB' nm) (by simpa [nameB', ByteArray.size] using hs) hL).mono fun e w' ⟨he, hg⟩ => ⟨he, h.step hg⟩
theorem low_call (h : LowAt W w c S s) {nm : List UInt8} (hs : nm.length ≤ maxLen) (hL : s.L.length < 4294967296) :
    Calls Tryd.prog 36 #[.pointer (some ⟨c.pa, 0, none⟩), .string (nameB' nm)] w fun e w' => e = .returned (.int .i64 0) ∧ LowGo W w c S (s.call nm) w' :=
  (lcall_any h.lst h.tab h.bel.size (nm := nameB' nm) (by simpa [nameB', ByteArray.size] using hs) hL).mono fun e w' ⟨he, hg⟩ => ⟨he, h.step hg⟩
theorem low_const (h : LowAt W w c S s) {rd n : Int} (r0 : 0 ≤ rd) (r1 : rd < 256) (h0 : 0 ≤ n) (h1 : n < 4294967296) (hL : s.L.length + 2 < 4294967296) :
    Calls Tryd.prog 52 #[.pointer (some ⟨c.pa, 0, none⟩), .int .u8 rd, .int .u32 n] w fun e w' => e = .returned (.int .i64 (putE (partsS rd n))) ∧ LowGo W w c S (s.const rd n) w' :=
  (lconst_any h.lst h.tab h.bel.size r0 r1 h0 h1 hL).mono fun e w' ⟨he, hg⟩ => ⟨he, h.step hg⟩
theorem low_mark (h : LowAt W w c S s) {nm : List UInt8} (hs : nm.length ≤ maxLen) (hM : s.M.length < maxLen) (hL : s.L.length < 4294967296) :
    Calls Tryd.prog 10 #[.pointer (some ⟨c.pa, 0, none⟩), .string (nameB' nm)] w fun e w' => e = .returned (.int .i64 (markE s.M (nameB' nm))) ∧ LowGo W w c S (s.mark nm) w' :=
  (lmark_any h.lst h.bel.size (nm := nameB' nm) (by simpa [nameB', ByteArray.size] using hs) hM hL).mono fun e w' ⟨he, hg⟩ => ⟨he, h.step hg⟩
end
end Go.Proofs.YtfbbodaapkfbdaaDoor
/- Walks of the package lower: slot. -/
namespace Go.Proofs.YtfbbodaapkfbdaaDoor
open Go.RowKit
set_option linter.unusedVariables false
set_option linter.unusedSimpArgs false
section
variable {W w : World} {c : Mc} {S : Nat → Prop} {s : Lo}
theorem LowAt.c0 (h : LowAt W w c S s) : w.cell? ⟨c.g, 0, none⟩ = some (.pointer (some ⟨c.pa, 0, none⟩)) := h.mkr.cell (k := 0) rfl
theorem LowGo.behind {w1 w4 : World} (hb : Below w.heap.size w w1) (hg : LowGo W w1 c S s w4) : LowGo W w c S s w4 := by
  obtain ⟨S', h', o', r'⟩ := hg
  exact ⟨S', h', (Only.of_below (S := fun k => S k ∨ k = c.g) hb).trans o', fun k hk => (r' k hk).imp id (fun h => Nat.le_trans hb.size h)⟩
end
set_option maxRecDepth 100000 in
set_option maxHeartbeats 2000000 in
theorem slot_short {W w : World} {c : Mc} {S : Nat → Prop} {s : Lo} (h : LowAt W w c S s) {op r sl : Int} (hop : 0 ≤ op ∧ op < 256) (hr : 0 ≤ r ∧ r < 32) (hs : 32 ≤ sl ∧ sl < 5000) (hq : 64 + 4 * (sl - 32) ≤ 16383) (hL : s.L.length + 1 < 4294967296) :
    Calls Tryd.prog 54 #[.pointer (some ⟨c.g, 0, none⟩), .int .u8 op, .int .i64 r, .int .i64 sl] w fun e w' => e = .returned (.tuple #[]) ∧ LowGo W w c S (s.put [numI op r 14 (64 + 4 * (sl - 32))]) w' := by
  have k0 := h.c0
  have HK := ahid (show ∀ w', Below w.heap.size w w' → w'.cell? ⟨c.g, 0, none⟩ = some (.pointer (some ⟨c.pa, 0, none⟩)) from fun w' hb => (hb.cell (p := ⟨c.g, 0, none⟩) (World.block_lt_of_cell? _ _ k0)).trans k0)
  have HN := ahid (fun w' => num_any (op := op) (rd := r) (rs := 14) (n := 64 + 4 * (sl - 32)) (by omega) (by omega) (by omega) w')
  have HP := ahid (fun w' (hb : Below w.heap.size w w') v (hv : InsIn w' v [numI op r 14 (64 + 4 * (sl - 32))]) => low_put (h.keepb hb) hv (by simpa using hL))
  have HB := ahid (show ∀ y ∈ [numI op r 14 (64 + 4 * (sl - 32))], y.bd from fun y hy => by rw [List.mem_singleton] at hy; subst hy; unfold Ix.bd numI; simp only; omega)
  clear h
  go_enter Tryd.func54, Tryd.ntmps54
  go_wp2_with fail
  go_region_held3 (fun w' => w'.cell? ⟨c.g, 0, none⟩ = some (.pointer (some ⟨c.pa, 0, none⟩))) (first | (with_reducible exact k0) | (exact hg.choose_spec.1.c0) | (refine HK.out _ ?_; go_grown; done))
    (first | (go_at_call 39; (with_reducible refine (HN.out _).mono ?_); rintro e W3 ⟨rfl, hb30⟩; have hb3 : Below w.heap.size w W3 := ((Below.refl w.heap.size w).drew).trans hb30; have hle3 : w.heap.size ≤ W3.heap.size := hb3.size)
           | (go_at_call 37; refine (HP.out _ (hb3.alloc hle3 _) _ (InsIn.one HB.out W3)).mono ?_; rintro e W4 ⟨rfl, hg⟩))
  go_wp2_with fail
  go_returns
  exact ⟨rfl, hg.behind (hb3.alloc hle3 _)⟩
end Go.Proofs.YtfbbodaapkfbdaaDoor
/- Walks of the package lower: slot, far. -/
namespace Go.Proofs.YtfbbodaapkfbdaaDoor
open Go.RowKit
set_option linter.unusedVariables false
set_option linter.unusedSimpArgs false
theorem InsIn.two {x y : Ix} (hb : ∀ z ∈ [x, y], z.bd) (w : World) : InsIn (w.alloc (.cells #[.int .u8 x.op, .int .u8 x.rd, .int .u8 x.rs1, .int .u8 x.rs2, .bool x.is, .int .i32 x.imm, .int .u8 y.op, .int .u8 y.rd, .int .u8 y.rs1, .int .u8 y.rs2, .bool y.is, .int .i32 y.imm] 50)) (.slice (some ⟨w.heap.size, 0, none⟩) 2 2) [x, y] :=
  InsIn.of_row (l := [x, y]) hb (by simp [maxLen]) fun j u hu => by
    simp only [World.cell?, (MapKept.heap_alloc w _).1]
    simpa [Ix.cells] using hu
theorem putL_len (L : List It) (l : List Ix) : (putL L l).length ≤ L.length + l.length := by unfold putL; split <;> simp
section
variable {W w : World} {c : Mc} {S : Nat → Prop} {s : Lo}
theorem LowGo.then {w1 w2 : World} {S1 : Nat → Prop} {s2 : Lo} (o1 : Only (fun k => S k ∨ k = c.g) w w1) (r1 : ∀ k, S1 k → S k ∨ w.heap.size ≤ k) (hg : LowGo W w1 c S1 s2 w2) : LowGo W w c S s2 w2 := by
  obtain ⟨S2, h2, o2, r2⟩ := hg
  refine ⟨S2, h2, o1.fresh o2 (fun i hi hk => ?_), fun k hk => ?_⟩
  · rcases hk with hk | hk
    · rcases r1 i hk with h | h
      · exact .inl h
      · omega
    · exact .inr hk
  · rcases r2 k hk with h | h
    · exact r1 k h
    · exact .inr (Nat.le_trans o1.size h)
end
set_option maxRecDepth 100000 in
set_option maxHeartbeats 2000000 in
theorem slot_far {W w : World} {c : Mc} {S : Nat → Prop} {s : Lo} (h : LowAt W w c S s) {op r sl : Int} (hop : 0 ≤ op ∧ op < 256) (hr : 0 ≤ r ∧ r < 32) (hs : 32 ≤ sl ∧ sl < 4000000) (hq : 16383 < 64 + 4 * (sl - 32)) (hL : s.L.length + 4 < 4294967296) :
    Calls Tryd.prog 54 #[.pointer (some ⟨c.g, 0, none⟩), .int .u8 op, .int .i64 r, .int .i64 sl] w fun e w' => e = .returned (.tuple #[]) ∧ LowGo W w c S ((s.const 5 (64 + 4 * (sl - 32))).put [twoI 1 5 14 5, numI op r 5 0]) w' := by
  have k0 := h.c0
  have HC := ahid (low_const h (rd := 5) (n := 64 + 4 * (sl - 32)) (by omega) (by omega) (by omega) (by omega) (by omega))
  have HN := ahid (fun w' => num_any (op := op) (rd := r) (rs := 5) (n := 0) (by omega) (by omega) (by omega) w')
  have HO := ahid (fun w' => both_any (op := 1) (rd := 5) (a := 14) (b := 5) (by omega) (by omega) (by omega) w')
  have HB := ahid (show ∀ y ∈ [twoI 1 5 14 5, numI op r 5 0], y.bd from fun y hy => by
    simp only [List.mem_cons, List.not_mem_nil, or_false] at hy
    rcases hy with rfl | rfl <;> (unfold Ix.bd; simp only [numI, twoI]; omega))
  have hl := putL_len s.L (partsS 5 (64 + 4 * (sl - 32)))
  have hl2 := parts_len 5 (64 + 4 * (sl - 32))
  clear h
  go_enter Tryd.func54, Tryd.ntmps54
  go_wp2_with fail
  refine HC.out.mono ?_
  rintro e w1 ⟨rfl, S1, h1, o1, r1⟩
  have k1 := h1.c0
  have HK := ahid (show ∀ w', Below w1.heap.size w1 w' → w'.cell? ⟨c.g, 0, none⟩ = some (.pointer (some ⟨c.pa, 0, none⟩)) from fun w' hb => (hb.cell (p := ⟨c.g, 0, none⟩) (World.block_lt_of_cell? _ _ k1)).trans k1)
  have HP := ahid (fun w' (hb : Below w1.heap.size w1 w') v (hv : InsIn w' v [twoI 1 5 14 5, numI op r 5 0]) => low_put (h1.keepb hb) hv (by show (putL s.L (partsS 5 (64 + 4 * (sl - 32)))).length + 2 < 4294967296; omega))
  go_wp2_with fail
  go_region_held3 (fun w' => w'.cell? ⟨c.g, 0, none⟩ = some (.pointer (some ⟨c.pa, 0, none⟩))) (first | (with_reducible exact k1) | (exact hg.choose_spec.1.c0) | (refine HK.out _ ?_; go_grown; done))
    (first | (go_at_call 38; (with_reducible refine (HO.out _).mono ?_); rintro e W3 ⟨rfl, hb30⟩; have hb3 : Below w1.heap.size w1 W3 := ((Below.refl w1.heap.size w1).drew).trans hb30; have hle3 : w1.heap.size ≤ W3.heap.size := hb3.size)
           | (go_at_call 39; (with_reducible refine (HN.out _).mono ?_); rintro e W5 ⟨rfl, hb50⟩; have hb5 : Below w1.heap.size w1 W5 := hb3.trans (hb50.mono hle3); have hle5 : w1.heap.size ≤ W5.heap.size := hb5.size)
           | (go_at_call 37; refine (HP.out _ (hb5.alloc hle5 _) _ (InsIn.two HB.out W5)).mono ?_; rintro e W4 ⟨rfl, hg⟩))
  go_wp2_with fail
  go_returns
  exact ⟨rfl, LowGo.then o1 r1 (hg.behind (hb5.alloc hle5 _))⟩
end Go.Proofs.YtfbbodaapkfbdaaDoor
/- Walks of the package lower: slot, moved. -/
namespace Go.Proofs.YtfbbodaapkfbdaaDoor
open Go.RowKit
set_option linter.unusedVariables false
set_option linter.unusedSimpArgs false
theorem slot_any {W w : World} {c : Mc} {S : Nat → Prop} {s : Lo} (h : LowAt W w c S s) {op r sl : Int} (hop : 0 ≤ op ∧ op < 256) (hr : 0 ≤ r ∧ r < 32) (hs : 32 ≤ sl ∧ sl < 4000000) (hL : s.L.length + 4 < 4294967296) :
    Calls Tryd.prog 54 #[.pointer (some ⟨c.g, 0, none⟩), .int .u8 op, .int .i64 r, .int .i64 sl] w fun e w' => e = .returned (.tuple #[]) ∧ LowGo W w c S (s.slot op r sl) w' := by
  unfold Lo.slot
  simp only
  by_cases hq : 64 + 4 * (sl - 32) ≤ 16383
  · rw [if_pos hq]; exact slot_short h hop hr ⟨hs.1, by omega⟩ hq (by omega)
  · rw [if_neg hq]; exact slot_far h hop hr hs (by omega) hL
set_option maxRecDepth 100000 in
set_option maxHeartbeats 2000000 in
theorem moved_any {W w : World} {c : Mc} {S : Nat → Prop} {s : Lo} (h : LowAt W w c S s) {x : Acx} {v : Value} (hv : AcV w v x) {sl : Int} (hsl : sl < 2000000) (hm : moveP sl x) (hL : s.L.length + 4 < 4294967296) :
    Calls Tryd.prog 27 #[.pointer (some ⟨c.g, 0, none⟩), v] w fun e w' => e = .returned (.tuple #[]) ∧ LowGo W w c S (s.moved x) w' := by
  obtain ⟨pa, ca, rfl, hi, hb⟩ := hv
  clear hi hb
  obtain ⟨k, a', d, a, b, args⟩ := x
  obtain ⟨-, -, -, ha, hd, hmin⟩ := hm
  simp only at ha hd hmin
  unfold Lo.moved
  simp only
  generalize args.length = na
  have HW := ahid (show Below w.heap.size w (w.alloc (.cells #[.int .u8 k, .int .i64 a', .int .i64 d, .int .i64 a, .int .i64 b, .slice pa na ca] 41)) from (Below.refl _ _).alloc (Nat.le_refl _) _)
  have HH := ahid (h.keepb HW.out)
  have hns : ¬ (S w.heap.size ∨ w.heap.size = c.g) := by
    rintro (hS | e)
    · exact absurd (h.lst.lo _ hS).2 (by omega)
    · have := h.mkr.lt; omega
  clear h
  by_cases g1 : 32 ≤ a
  · rw [if_pos g1]
    have HS := ahid (slot_any HH.out (op := 22) (r := d) (sl := a) (by omega) (by omega) (by omega) hL)
    go_enter Tryd.func27, Tryd.ntmps27
    go_wp2_with fail
    refine HS.out.mono ?_
    rintro e w1 ⟨rfl, hg⟩
    go_wp2_with fail
    go_returns
    exact ⟨rfl, hg.behind HW.out⟩
  · rw [if_neg g1]
    by_cases g2 : 32 ≤ d
    · rw [if_pos g2]
      have HS := ahid (slot_any HH.out (op := 23) (r := a) (sl := d) (by omega) (by omega) (by omega) hL)
      go_enter Tryd.func27, Tryd.ntmps27
      go_wp2_with fail
      refine HS.out.mono ?_
      rintro e w1 ⟨rfl, hg⟩
      go_wp2_with fail
      go_returns
      exact ⟨rfl, hg.behind HW.out⟩
    · rw [if_neg g2]
      have k0 := HH.out.c0
      have HN := ahid (fun w' => num_any (op := 1) (rd := d) (rs := a) (n := 0) (by omega) (by omega) (by omega) w')
      have HB := ahid (show ∀ y ∈ [numI 1 d a 0], y.bd from fun y hy => by rw [List.mem_singleton] at hy; subst hy; unfold Ix.bd numI; simp only; omega)
      obtain ⟨W0, hW0⟩ : ∃ W0, W0 = (w.alloc (.cells #[.int .u8 k, .int .i64 a', .int .i64 d, .int .i64 a, .int .i64 b, .slice pa na ca] 41)) := ⟨_, rfl⟩
      have q2 : W0.cell? ⟨w.heap.size, 2, none⟩ = some (.int .i64 d) := by rw [hW0]; simp [go_sem]
      have q3 : W0.cell? ⟨w.heap.size, 3, none⟩ = some (.int .i64 a) := by rw [hW0]; simp [go_sem]
      go_enter Tryd.func27, Tryd.ntmps27
      go_wp2_with fail
      rw [← hW0] at HW HH k0 ⊢
      have HP := ahid (fun w' (hb : Below W0.heap.size W0 w') v (hv : InsIn w' v [numI 1 d a 0]) => low_put (HH.out.keepb hb) hv (by show s.L.length + 1 < _; omega))
      have HK := ahid (show ∀ w', Below W0.heap.size W0 w' → w'.cell? ⟨c.g, 0, none⟩ = some (.pointer (some ⟨c.pa, 0, none⟩)) ∧ w'.cell? ⟨w.heap.size, 2, none⟩ = some (.int .i64 d) ∧ w'.cell? ⟨w.heap.size, 3, none⟩ = some (.int .i64 a) from fun w' hb => ⟨(hb.cell (p := ⟨c.g, 0, none⟩) (World.block_lt_of_cell? _ _ k0)).trans k0, (hb.cell (p := ⟨w.heap.size, 2, none⟩) (World.block_lt_of_cell? _ _ q2)).trans q2, (hb.cell (p := ⟨w.heap.size, 3, none⟩) (World.block_lt_of_cell? _ _ q3)).trans q3⟩)
      have HZ := ahid (show ∀ w1 w4, Below W0.heap.size W0 w1 → LowGo W w1 c S (s.put [numI 1 d a 0]) w4 → w4.cell? ⟨c.g, 0, none⟩ = some (.pointer (some ⟨c.pa, 0, none⟩)) ∧ w4.cell? ⟨w.heap.size, 2, none⟩ = some (.int .i64 d) ∧ w4.cell? ⟨w.heap.size, 3, none⟩ = some (.int .i64 a) from fun w1 w4 hb hg => by
        obtain ⟨-, z2, z3⟩ := HK.out _ hb
        obtain ⟨S', h', o', -⟩ := hg
        exact ⟨h'.c0, (o'.cell (p := ⟨w.heap.size, 2, none⟩) (World.block_lt_of_cell? _ _ z2) hns).trans z2, (o'.cell (p := ⟨w.heap.size, 3, none⟩) (World.block_lt_of_cell? _ _ z3) hns).trans z3⟩)
      have Hq := ahid hW0
      clear hW0
      go_region_held3 (fun w' => w'.cell? ⟨c.g, 0, none⟩ = some (.pointer (some ⟨c.pa, 0, none⟩)) ∧ w'.cell? ⟨w.heap.size, 2, none⟩ = some (.int .i64 d) ∧ w'.cell? ⟨w.heap.size, 3, none⟩ = some (.int .i64 a)) (first | (with_reducible exact ⟨k0, q2, q3⟩) | (with_reducible exact HZ.out _ _ (hb3.alloc hle3 _) hg) | (refine HK.out _ ?_; go_grown; done))
        (first | (go_at_call 39; (with_reducible refine (HN.out _).mono ?_); rintro e W3 ⟨rfl, hb30⟩; have hb3 : Below W0.heap.size W0 W3 := ((Below.refl W0.heap.size W0).drew).trans hb30; have hle3 : W0.heap.size ≤ W3.heap.size := hb3.size)
               | (go_at_call 37; refine (HP.out _ (hb3.alloc hle3 _) _ (InsIn.one HB.out W3)).mono ?_; rintro e W4 ⟨rfl, hg⟩))
      go_wp2_with fail
      go_returns
      exact ⟨rfl, (hg.behind (hb3.alloc hle3 _)).behind HW.out⟩
end Go.Proofs.YtfbbodaapkfbdaaDoor
/- How much what is put for a function adds to a list. No function of the program is walked here. -/
namespace Go.Proofs.YtfbbodaapkfbdaaDoor
open Go.RowKit
set_option linter.unusedVariables false
set_option linter.unusedSimpArgs false
/-- How long a list and its marks may be at most, and the counter. -/
def Lo.le (s : Lo) (a b c : Nat) : Prop := s.L.length ≤ a ∧ s.M.length ≤ b ∧ s.many ≤ c
theorem jumpL_len (L : List It) (op c : Int) (nm : ByteArray) : (jumpL L op c nm).length ≤ L.length + 1 := by unfold jumpL; split <;> simp
theorem markM_len (M : List (List UInt8 × Int)) (nm : ByteArray) (n : Int) : (markM M nm n).length ≤ M.length + 1 := by unfold markM; split <;> simp
section
variable {s : Lo} {a b c : Nat}
theorem Lo.le.put (h : s.le a b c) (l : List Ix) : (s.put l).le (a + l.length) b c := ⟨Nat.le_trans (putL_len _ _) (Nat.add_le_add_right h.1 _), h.2⟩
theorem Lo.le.const (h : s.le a b c) (rd n : Int) : (s.const rd n).le (a + 2) b c := by
  obtain ⟨h1, h2⟩ := h.put (partsS rd n)
  exact ⟨Nat.le_trans h1 (Nat.add_le_add_left (parts_len rd n) _), h2⟩
theorem Lo.le.jump (h : s.le a b c) (q : Int) (nm : List UInt8) : (s.jump q nm).le (a + 1) b c := ⟨Nat.le_trans (jumpL_len _ _ _ _) (Nat.add_le_add_right h.1 _), h.2⟩
theorem Lo.le.call (h : s.le a b c) (nm : List UInt8) : (s.call nm).le (a + 1) b c := ⟨Nat.le_trans (jumpL_len s.L 18 0 (nameB' nm)) (Nat.add_le_add_right h.1 _), h.2⟩
theorem Lo.le.mark (h : s.le a b c) (nm : List UInt8) : (s.mark nm).le a (b + 1) c := ⟨h.1, Nat.le_trans (markM_len _ _ _) (Nat.add_le_add_right h.2.1 _), h.2.2⟩
theorem Lo.le.mono {a' b' c' : Nat} (h : s.le a b c) (h1 : a ≤ a') (h2 : b ≤ b') (h3 : c ≤ c') : s.le a' b' c' := ⟨Nat.le_trans h.1 h1, Nat.le_trans h.2.1 h2, Nat.le_trans h.2.2 h3⟩
theorem Lo.le.fault (h : s.le a b c) (f : Nat) (q k : Int) : (s.fault f q k).le (a + 2) (b + 1) (c + 1) := by
  have h0 : ({ s with many := s.many + 1 } : Lo).le a b (c + 1) := ⟨h.1, h.2.1, Nat.add_le_add_right h.2.2 1⟩
  exact (((h0.jump q (cNameL f s.many)).put [numI 37 0 0 k]).mark _)
theorem Lo.le.slot (h : s.le a b c) (op r sl : Int) : (s.slot op r sl).le (a + 4) b c := by
  unfold Lo.slot
  simp only
  split
  · exact (h.put _).mono (by simp only [List.length_cons, List.length_nil]; omega) (Nat.le_refl _) (Nat.le_refl _)
  · exact ((h.const _ _).put _).mono (by simp only [List.length_cons, List.length_nil]; omega) (Nat.le_refl _) (Nat.le_refl _)
theorem Lo.le.moved (h : s.le a b c) (x : Acx) : (s.moved x).le (a + 4) b c := by
  unfold Lo.moved
  split
  · exact h.slot _ _ _
  · split
    · exact h.slot _ _ _
    · exact (h.put _).mono (by simp only [List.length_cons, List.length_nil]; omega) (Nat.le_refl _) (Nat.le_refl _)
theorem Lo.le.word (h : s.le a b c) (f : Nat) (hs hp op at' r : Int) : (s.word f hs hp op at' r).le (a + 10) (b + 1) (c + 1) := by
  have := ((((((h.const 5 hs).put [twoI 16 0 at' 5]).fault f 5 2).put [numI 9 5 at' 2]).const 6 hp).put [twoI 1 5 5 6, numI op r 5 0])
  exact this.mono (by simp only [List.length_cons, List.length_nil]; omega) (Nat.le_refl _) (Nat.le_refl _)
theorem Lo.le.begin (h : s.le a b c) (f : Nat) (sl : Int) : (s.begin f sl).le (a + 10) (b + 1) (c + 1) := by
  unfold Lo.begin
  simp only
  have h1 : (if frameS sl ≤ 16383 then s.put [numI 2 5 14 (frameS sl)] else (s.const 6 (frameS sl)).put [twoI 2 5 14 6]).le (a + 3) b c := by
    split
    · exact (h.put _).mono (by simp only [List.length_cons, List.length_nil]; omega) (Nat.le_refl _) (Nat.le_refl _)
    · exact ((h.const _ _).put _).mono (by simp only [List.length_cons, List.length_nil]; omega) (Nat.le_refl _) (Nat.le_refl _)
  have h2 := (h1.put [numI 22 6 0 136, twoI 16 0 5 6]).fault f 4 3
  split
  · exact (h2.put _).mono (by simp only [List.length_cons, List.length_nil]; omega) (Nat.le_refl _) (Nat.le_refl _)
  · exact ((h2.const _ _).put _).mono (by simp only [List.length_cons, List.length_nil]; omega) (Nat.le_refl _) (Nat.le_refl _)
theorem Lo.le.does (h : s.le a b c) (f : Nat) (leaf : Bool) (hs hp : Int) (i : Insx) (x : Acx) : (s.does f leaf hs hp i x).le (a + 10) (b + 1) (c + 1) := by
  unfold Lo.does
  have g1 := Nat.le_add_right b 1
  have g2 := Nat.le_add_right c 1
  split
  · exact (h.const _ _).mono (by omega) g1 g2
  split
  · exact (h.put _).mono (by simp only [List.length_cons, List.length_nil]; omega) g1 g2
  split
  · exact (h.put _).mono (by simp only [List.length_cons, List.length_nil]; omega) g1 g2
  split
  · exact h.word _ _ _ _ _ _
  split
  · exact h.word _ _ _ _ _ _
  split
  · exact (h.call _).mono (by omega) g1 g2
  split
  · exact (h.put _).mono (by simp only [List.length_cons, List.length_nil]; omega) g1 g2
  split
  · exact (h.put _).mono (by simp only [List.length_cons, List.length_nil]; omega) g1 g2
  split
  · exact (h.jump _ _).mono (by omega) g1 g2
  split
  · exact (((h.put _).jump _ _).jump _ _).mono (by simp only [List.length_cons, List.length_nil]; omega) g1 g2
  · split
    · exact (h.put _).mono (by simp only [List.length_cons, List.length_nil]; omega) g1 g2
    · exact ((h.put _).put _).mono (by simp only [List.length_cons, List.length_nil]; omega) g1 g2
end
end Go.Proofs.YtfbbodaapkfbdaaDoor
