/- The walk of muntinref12.Word. -/
import Derived.Test.YthnfkecbgfcipaaDoorLexRNum
import Derived.Test.YthnfkecbgfcipaaDoorLexToken
namespace Go.Proofs.YthnfkecbgfcipaaDoor
open Go.RowKit
set_option linter.unusedVariables false
set_option linter.unusedSimpArgs false
def RWordOk (s : List UInt8) (w : World) (e : Ending) (w' : World) : Prop :=
  (match tokB s with
    | none => e = .returned (.tuple #[tokV 0 s 0, .bool false])
    | some (k, t, n) => e = .returned (.tuple #[tokV k t n, .bool true])) ∧ Below w.heap.size w w'
theorem sext0 (c : UInt8) (r : List UInt8) : (⟨(c :: r).toArray⟩ : ByteArray).extract 0 r.length = ⟨((c :: r).dropLast).toArray⟩ := by
  apply ByteArray.ext
  simp [ByteArray.data_extract, List.dropLast_eq_take]

set_option maxRecDepth 20000 in
set_option maxHeartbeats 2000000 in
theorem rword_p1 (c : UInt8) (r : List UInt8) (hs : r.length + 1 ≤ 70000) (w : World) (z0 : (c == (123 : UInt8) && r.isEmpty) = true) (HT : Hid (tokB (c :: r) = some (4, c :: r, 0))) : Calls Tryd.prog 21 #[.string ⟨(c :: r).toArray⟩] w (RWordOk (c :: r) w) := by
  go_enter Tryd.func21, Tryd.ntmps21
  go_wp2_with fail
  change bodyPost Tryd.prog Tryd.f21 (RWordOk (c :: r) w) .ret _ _
  refine bodyPost_ret (lex_row_slot (P := Tryd.prog) Tryd.results21 _ _ w.heap.size _ _ (0, 0) _ _ rfl rfl (World.alloc_heap_new _ _) Tryd.underlying41 rfl (by kernel_rfl)) rfl ⟨?_, (Below.refl _ w).alloc (Nat.le_refl _) _⟩
  rw [HT.out]
  rfl
set_option maxRecDepth 20000 in
set_option maxHeartbeats 2000000 in
theorem rword_p2 (c : UInt8) (r : List UInt8) (hs : r.length + 1 ≤ 70000) (w : World) (z0 : (c == (123 : UInt8) && r.isEmpty) = false) (z1 : (c == (125 : UInt8) && r.isEmpty) = true) (HT : Hid (tokB (c :: r) = some (5, c :: r, 0))) : Calls Tryd.prog 21 #[.string ⟨(c :: r).toArray⟩] w (RWordOk (c :: r) w) := by
  go_enter Tryd.func21, Tryd.ntmps21
  go_wp2_with fail
  change bodyPost Tryd.prog Tryd.f21 (RWordOk (c :: r) w) .ret _ _
  refine bodyPost_ret (lex_row_slot (P := Tryd.prog) Tryd.results21 _ _ w.heap.size _ _ (0, 0) _ _ rfl rfl (World.alloc_heap_new _ _) Tryd.underlying41 rfl (by kernel_rfl)) rfl ⟨?_, (Below.refl _ w).alloc (Nat.le_refl _) _⟩
  rw [HT.out]
  rfl
set_option maxRecDepth 20000 in
set_option maxHeartbeats 2000000 in
theorem rword_p3 (c : UInt8) (r : List UInt8) (hs : r.length + 1 ≤ 70000) (w : World) (z0 : (c == (123 : UInt8) && r.isEmpty) = false) (z1 : (c == (125 : UInt8) && r.isEmpty) = false) (v : Nat) (hv : v ≤ 4095) (a0118 : (((((⟨(c :: r).toArray⟩ : ByteArray)[0]'(by simp [ByteArray.size])).toNat : Int) == 118) = true)) (HN : Hid (∀ W, Calls Tryd.prog 40 #[.string ((⟨(c :: r).toArray⟩ : ByteArray).extract 1 (r.length + 1)), .int .u64 4095] W fun e w' => e = .returned (.tuple #[.int .u64 (v : Int), .bool true]) ∧ W = w')) (HT : Hid (tokB (c :: r) = some (2, c :: r, v))) : Calls Tryd.prog 21 #[.string ⟨(c :: r).toArray⟩] w (RWordOk (c :: r) w) := by
  go_enter Tryd.func21, Tryd.ntmps21
  go_wp2_with (first | (go_at_call 40; (with_reducible refine (HN.out _).mono ?_); rintro e w7 ⟨rfl, rfl⟩))
  change bodyPost Tryd.prog Tryd.f21 (RWordOk (c :: r) w) .ret _ _
  refine bodyPost_ret (lex_row_slot (P := Tryd.prog) Tryd.results21 _ _ w.heap.size _ _ (0, 0) _ _ rfl rfl (World.alloc_heap_new _ _) Tryd.underlying41 rfl (by kernel_rfl)) rfl ⟨?_, (Below.refl _ w).alloc (Nat.le_refl _) _⟩
  rw [HT.out]
  rfl
set_option maxRecDepth 20000 in
set_option maxHeartbeats 2000000 in
theorem rword_p4 (c : UInt8) (r : List UInt8) (hs : r.length + 1 ≤ 70000) (w : World) (z0 : (c == (123 : UInt8) && r.isEmpty) = false) (z1 : (c == (125 : UInt8) && r.isEmpty) = false) (v : Nat) (hv : v ≤ 4294967295) (a0118 : (((((⟨(c :: r).toArray⟩ : ByteArray)[0]'(by simp [ByteArray.size])).toNat : Int) == 118) = false)) (HN : Hid (∀ W, Calls Tryd.prog 40 #[.string ⟨(c :: r).toArray⟩, .int .u64 4294967295] W fun e w' => e = .returned (.tuple #[.int .u64 (v : Int), .bool true]) ∧ W = w')) (HT : Hid (tokB (c :: r) = some (3, c :: r, v))) : Calls Tryd.prog 21 #[.string ⟨(c :: r).toArray⟩] w (RWordOk (c :: r) w) := by
  go_enter Tryd.func21, Tryd.ntmps21
  go_wp2_with (first | (go_at_call 40; (with_reducible refine (HN.out _).mono ?_); rintro e w7 ⟨rfl, rfl⟩))
  change bodyPost Tryd.prog Tryd.f21 (RWordOk (c :: r) w) .ret _ _
  refine bodyPost_ret (lex_row_slot (P := Tryd.prog) Tryd.results21 _ _ w.heap.size _ _ (0, 0) _ _ rfl rfl (World.alloc_heap_new _ _) Tryd.underlying41 rfl (by kernel_rfl)) rfl ⟨?_, (Below.refl _ w).alloc (Nat.le_refl _) _⟩
  rw [HT.out]
  rfl
set_option maxRecDepth 20000 in
set_option maxHeartbeats 2000000 in
theorem rword_p5 (c : UInt8) (r : List UInt8) (hs : r.length + 1 ≤ 70000) (w : World) (z0 : (c == (123 : UInt8) && r.isEmpty) = false) (z1 : (c == (125 : UInt8) && r.isEmpty) = false) (v : Nat) (hv : v ≤ 2147483648) (h1 : 0 < v) (a0118 : (((((⟨(c :: r).toArray⟩ : ByteArray)[0]'(by simp [ByteArray.size])).toNat : Int) == 118) = false)) (a045 : (((((⟨(c :: r).toArray⟩ : ByteArray)[0]'(by simp [ByteArray.size])).toNat : Int) == 45) = true)) (HF : Hid (∀ W, Calls Tryd.prog 40 #[.string ⟨(c :: r).toArray⟩, .int .u64 4294967295] W fun e w' => (∃ n : Nat, e = .returned (.tuple #[.int .u64 (n : Int), .bool false])) ∧ W = w')) (HN : Hid (∀ W, Calls Tryd.prog 40 #[.string ((⟨(c :: r).toArray⟩ : ByteArray).extract 1 (r.length + 1)), .int .u64 2147483648] W fun e w' => e = .returned (.tuple #[.int .u64 (v : Int), .bool true]) ∧ W = w')) (HT : Hid (tokB (c :: r) = some (3, c :: r, 4294967296 - v))) : Calls Tryd.prog 21 #[.string ⟨(c :: r).toArray⟩] w (RWordOk (c :: r) w) := by
  go_enter Tryd.func21, Tryd.ntmps21
  go_wp2_with (first | (go_at_call 40; (with_reducible refine (HF.out _).mono ?_); rintro e w7 ⟨⟨n, rfl⟩, rfl⟩) | (go_at_call 40; (with_reducible refine (HN.out _).mono ?_); rintro e w7 ⟨rfl, rfl⟩))
  change bodyPost Tryd.prog Tryd.f21 (RWordOk (c :: r) w) .ret _ _
  refine bodyPost_ret (lex_row_slot (P := Tryd.prog) Tryd.results21 _ _ w.heap.size _ _ (0, 0) _ _ rfl rfl (World.alloc_heap_new _ _) Tryd.underlying41 rfl (by kernel_rfl)) rfl ⟨?_, (Below.refl _ w).alloc (Nat.le_refl _) _⟩
  rw [HT.out]
  show Ending.returned (.tuple #[.agg #[.int .u8 3, .string ⟨(c :: r).toArray⟩, .int .u32 (4294967296 - (v : Int)), .int .i64 0, .int .i64 0], .bool true]) = .returned (.tuple #[tokV 3 (c :: r) (4294967296 - v), .bool true])
  unfold tokV
  rw [show ((4294967296 - v : Nat) : Int) = 4294967296 - (v : Int) by omega]; rfl
set_option maxRecDepth 20000 in
set_option maxHeartbeats 2000000 in
theorem rword_qa1 (c : UInt8) (r : List UInt8) (hs : r.length + 1 ≤ 70000) (w : World) (z0 : (c == (123 : UInt8) && r.isEmpty) = false) (z1 : (c == (125 : UInt8) && r.isEmpty) = false) (a0118 : (((((⟨(c :: r).toArray⟩ : ByteArray)[0]'(by simp [ByteArray.size])).toNat : Int) == 118) = true)) (a045 : (((((⟨(c :: r).toArray⟩ : ByteArray)[0]'(by simp [ByteArray.size])).toNat : Int) == 45) = false)) (HG : Hid (∀ W, Calls Tryd.prog 40 #[.string ((⟨(c :: r).toArray⟩ : ByteArray).extract 1 (r.length + 1)), .int .u64 4095] W fun e w' => (∃ n : Nat, e = .returned (.tuple #[.int .u64 (n : Int), .bool false])) ∧ W = w')) (HF : Hid (∀ W, Calls Tryd.prog 40 #[.string ⟨(c :: r).toArray⟩, .int .u64 4294967295] W fun e w' => (∃ n : Nat, e = .returned (.tuple #[.int .u64 (n : Int), .bool false])) ∧ W = w')) (l58 : (((((⟨(c :: r).toArray⟩ : ByteArray)[r.length]'(by simp [ByteArray.size])).toNat : Int) == 58) = true)) (HM : Hid (∀ W, Calls Tryd.prog 41 #[.string ((⟨(c :: r).toArray⟩ : ByteArray).extract 0 r.length)] W fun e w' => e = .returned (.bool true) ∧ W = w')) (HT : Hid (tokB (c :: r) = some (1, (c :: r).dropLast, 0))) : Calls Tryd.prog 21 #[.string ⟨(c :: r).toArray⟩] w (RWordOk (c :: r) w) := by
  go_enter Tryd.func21, Tryd.ntmps21
  go_wp2_with (first | (go_at_call 40; (with_reducible refine (HG.out _).mono ?_); rintro e w7 ⟨⟨n, rfl⟩, rfl⟩) | (go_at_call 40; (with_reducible refine (HF.out _).mono ?_); rintro e w7 ⟨⟨n, rfl⟩, rfl⟩) | (go_at_call 41; (with_reducible refine (HM.out _).mono ?_); rintro e w7 ⟨rfl, rfl⟩))
  change bodyPost Tryd.prog Tryd.f21 (RWordOk (c :: r) w) .ret _ _
  refine bodyPost_ret (lex_row_slot (P := Tryd.prog) Tryd.results21 _ _ w.heap.size _ _ (0, 0) _ _ rfl rfl (World.alloc_heap_new _ _) Tryd.underlying41 rfl (by kernel_rfl)) rfl ⟨?_, (Below.refl _ w).alloc (Nat.le_refl _) _⟩
  rw [HT.out]
  show Ending.returned (.tuple #[.agg #[.int .u8 1, .string ((⟨(c :: r).toArray⟩ : ByteArray).extract 0 r.length), .int .u32 0, .int .i64 0, .int .i64 0], .bool true]) = .returned (.tuple #[tokV 1 (c :: r).dropLast 0, .bool true])
  unfold tokV
  rw [sext0]; rfl
set_option maxRecDepth 20000 in
set_option maxHeartbeats 2000000 in
theorem rword_qa2 (c : UInt8) (r : List UInt8) (hs : r.length + 1 ≤ 70000) (w : World) (z0 : (c == (123 : UInt8) && r.isEmpty) = false) (z1 : (c == (125 : UInt8) && r.isEmpty) = false) (a0118 : (((((⟨(c :: r).toArray⟩ : ByteArray)[0]'(by simp [ByteArray.size])).toNat : Int) == 118) = true)) (a045 : (((((⟨(c :: r).toArray⟩ : ByteArray)[0]'(by simp [ByteArray.size])).toNat : Int) == 45) = false)) (HG : Hid (∀ W, Calls Tryd.prog 40 #[.string ((⟨(c :: r).toArray⟩ : ByteArray).extract 1 (r.length + 1)), .int .u64 4095] W fun e w' => (∃ n : Nat, e = .returned (.tuple #[.int .u64 (n : Int), .bool false])) ∧ W = w')) (HF : Hid (∀ W, Calls Tryd.prog 40 #[.string ⟨(c :: r).toArray⟩, .int .u64 4294967295] W fun e w' => (∃ n : Nat, e = .returned (.tuple #[.int .u64 (n : Int), .bool false])) ∧ W = w')) (l58 : (((((⟨(c :: r).toArray⟩ : ByteArray)[r.length]'(by simp [ByteArray.size])).toNat : Int) == 58) = true)) (HM : Hid (∀ W, Calls Tryd.prog 41 #[.string ((⟨(c :: r).toArray⟩ : ByteArray).extract 0 r.length)] W fun e w' => e = .returned (.bool false) ∧ W = w')) (HQ : Hid (∀ W, Calls Tryd.prog 41 #[.string ⟨(c :: r).toArray⟩] W fun e w' => e = .returned (.bool true) ∧ W = w')) (HT : Hid (tokB (c :: r) = some (0, c :: r, 0))) : Calls Tryd.prog 21 #[.string ⟨(c :: r).toArray⟩] w (RWordOk (c :: r) w) := by
  go_enter Tryd.func21, Tryd.ntmps21
  go_wp2_with (first | (go_at_call 40; (with_reducible refine (HG.out _).mono ?_); rintro e w7 ⟨⟨n, rfl⟩, rfl⟩) | (go_at_call 40; (with_reducible refine (HF.out _).mono ?_); rintro e w7 ⟨⟨n, rfl⟩, rfl⟩) | (go_at_call 41; (with_reducible refine (HM.out _).mono ?_); rintro e w7 ⟨rfl, rfl⟩) | (go_at_call 41; (with_reducible refine (HQ.out _).mono ?_); rintro e w7 ⟨rfl, rfl⟩))
  change bodyPost Tryd.prog Tryd.f21 (RWordOk (c :: r) w) .ret _ _
  refine bodyPost_ret (lex_row_slot (P := Tryd.prog) Tryd.results21 _ _ w.heap.size _ _ (0, 0) _ _ rfl rfl (World.alloc_heap_new _ _) Tryd.underlying41 rfl (by kernel_rfl)) rfl ⟨?_, (Below.refl _ w).alloc (Nat.le_refl _) _⟩
  rw [HT.out]
  rfl
set_option maxRecDepth 20000 in
set_option maxHeartbeats 2000000 in
theorem rword_qa3 (c : UInt8) (r : List UInt8) (hs : r.length + 1 ≤ 70000) (w : World) (z0 : (c == (123 : UInt8) && r.isEmpty) = false) (z1 : (c == (125 : UInt8) && r.isEmpty) = false) (a0118 : (((((⟨(c :: r).toArray⟩ : ByteArray)[0]'(by simp [ByteArray.size])).toNat : Int) == 118) = true)) (a045 : (((((⟨(c :: r).toArray⟩ : ByteArray)[0]'(by simp [ByteArray.size])).toNat : Int) == 45) = false)) (HG : Hid (∀ W, Calls Tryd.prog 40 #[.string ((⟨(c :: r).toArray⟩ : ByteArray).extract 1 (r.length + 1)), .int .u64 4095] W fun e w' => (∃ n : Nat, e = .returned (.tuple #[.int .u64 (n : Int), .bool false])) ∧ W = w')) (HF : Hid (∀ W, Calls Tryd.prog 40 #[.string ⟨(c :: r).toArray⟩, .int .u64 4294967295] W fun e w' => (∃ n : Nat, e = .returned (.tuple #[.int .u64 (n : Int), .bool false])) ∧ W = w')) (l58 : (((((⟨(c :: r).toArray⟩ : ByteArray)[r.length]'(by simp [ByteArray.size])).toNat : Int) == 58) = true)) (HM : Hid (∀ W, Calls Tryd.prog 41 #[.string ((⟨(c :: r).toArray⟩ : ByteArray).extract 0 r.length)] W fun e w' => e = .returned (.bool false) ∧ W = w')) (HQ : Hid (∀ W, Calls Tryd.prog 41 #[.string ⟨(c :: r).toArray⟩] W fun e w' => e = .returned (.bool false) ∧ W = w')) (HT : Hid (tokB (c :: r) = none)) : Calls Tryd.prog 21 #[.string ⟨(c :: r).toArray⟩] w (RWordOk (c :: r) w) := by
  go_enter Tryd.func21, Tryd.ntmps21
  go_wp2_with (first | (go_at_call 40; (with_reducible refine (HG.out _).mono ?_); rintro e w7 ⟨⟨n, rfl⟩, rfl⟩) | (go_at_call 40; (with_reducible refine (HF.out _).mono ?_); rintro e w7 ⟨⟨n, rfl⟩, rfl⟩) | (go_at_call 41; (with_reducible refine (HM.out _).mono ?_); rintro e w7 ⟨rfl, rfl⟩) | (go_at_call 41; (with_reducible refine (HQ.out _).mono ?_); rintro e w7 ⟨rfl, rfl⟩))
  change bodyPost Tryd.prog Tryd.f21 (RWordOk (c :: r) w) .ret _ _
  refine bodyPost_ret (lex_row_slot (P := Tryd.prog) Tryd.results21 _ _ w.heap.size _ _ (0, 0) _ _ rfl rfl (World.alloc_heap_new _ _) Tryd.underlying41 rfl (by kernel_rfl)) rfl ⟨?_, (Below.refl _ w).alloc (Nat.le_refl _) _⟩
  rw [HT.out]
  rfl
set_option maxRecDepth 20000 in
set_option maxHeartbeats 2000000 in
theorem rword_qa4 (c : UInt8) (r : List UInt8) (hs : r.length + 1 ≤ 70000) (w : World) (z0 : (c == (123 : UInt8) && r.isEmpty) = false) (z1 : (c == (125 : UInt8) && r.isEmpty) = false) (a0118 : (((((⟨(c :: r).toArray⟩ : ByteArray)[0]'(by simp [ByteArray.size])).toNat : Int) == 118) = true)) (a045 : (((((⟨(c :: r).toArray⟩ : ByteArray)[0]'(by simp [ByteArray.size])).toNat : Int) == 45) = false)) (HG : Hid (∀ W, Calls Tryd.prog 40 #[.string ((⟨(c :: r).toArray⟩ : ByteArray).extract 1 (r.length + 1)), .int .u64 4095] W fun e w' => (∃ n : Nat, e = .returned (.tuple #[.int .u64 (n : Int), .bool false])) ∧ W = w')) (HF : Hid (∀ W, Calls Tryd.prog 40 #[.string ⟨(c :: r).toArray⟩, .int .u64 4294967295] W fun e w' => (∃ n : Nat, e = .returned (.tuple #[.int .u64 (n : Int), .bool false])) ∧ W = w')) (l58 : (((((⟨(c :: r).toArray⟩ : ByteArray)[r.length]'(by simp [ByteArray.size])).toNat : Int) == 58) = false)) (HQ : Hid (∀ W, Calls Tryd.prog 41 #[.string ⟨(c :: r).toArray⟩] W fun e w' => e = .returned (.bool true) ∧ W = w')) (HT : Hid (tokB (c :: r) = some (0, c :: r, 0))) : Calls Tryd.prog 21 #[.string ⟨(c :: r).toArray⟩] w (RWordOk (c :: r) w) := by
  go_enter Tryd.func21, Tryd.ntmps21
  go_wp2_with (first | (go_at_call 40; (with_reducible refine (HG.out _).mono ?_); rintro e w7 ⟨⟨n, rfl⟩, rfl⟩) | (go_at_call 40; (with_reducible refine (HF.out _).mono ?_); rintro e w7 ⟨⟨n, rfl⟩, rfl⟩) | (go_at_call 41; (with_reducible refine (HQ.out _).mono ?_); rintro e w7 ⟨rfl, rfl⟩))
  change bodyPost Tryd.prog Tryd.f21 (RWordOk (c :: r) w) .ret _ _
  refine bodyPost_ret (lex_row_slot (P := Tryd.prog) Tryd.results21 _ _ w.heap.size _ _ (0, 0) _ _ rfl rfl (World.alloc_heap_new _ _) Tryd.underlying41 rfl (by kernel_rfl)) rfl ⟨?_, (Below.refl _ w).alloc (Nat.le_refl _) _⟩
  rw [HT.out]
  rfl
set_option maxRecDepth 20000 in
set_option maxHeartbeats 2000000 in
theorem rword_qa5 (c : UInt8) (r : List UInt8) (hs : r.length + 1 ≤ 70000) (w : World) (z0 : (c == (123 : UInt8) && r.isEmpty) = false) (z1 : (c == (125 : UInt8) && r.isEmpty) = false) (a0118 : (((((⟨(c :: r).toArray⟩ : ByteArray)[0]'(by simp [ByteArray.size])).toNat : Int) == 118) = true)) (a045 : (((((⟨(c :: r).toArray⟩ : ByteArray)[0]'(by simp [ByteArray.size])).toNat : Int) == 45) = false)) (HG : Hid (∀ W, Calls Tryd.prog 40 #[.string ((⟨(c :: r).toArray⟩ : ByteArray).extract 1 (r.length + 1)), .int .u64 4095] W fun e w' => (∃ n : Nat, e = .returned (.tuple #[.int .u64 (n : Int), .bool false])) ∧ W = w')) (HF : Hid (∀ W, Calls Tryd.prog 40 #[.string ⟨(c :: r).toArray⟩, .int .u64 4294967295] W fun e w' => (∃ n : Nat, e = .returned (.tuple #[.int .u64 (n : Int), .bool false])) ∧ W = w')) (l58 : (((((⟨(c :: r).toArray⟩ : ByteArray)[r.length]'(by simp [ByteArray.size])).toNat : Int) == 58) = false)) (HQ : Hid (∀ W, Calls Tryd.prog 41 #[.string ⟨(c :: r).toArray⟩] W fun e w' => e = .returned (.bool false) ∧ W = w')) (HT : Hid (tokB (c :: r) = none)) : Calls Tryd.prog 21 #[.string ⟨(c :: r).toArray⟩] w (RWordOk (c :: r) w) := by
  go_enter Tryd.func21, Tryd.ntmps21
  go_wp2_with (first | (go_at_call 40; (with_reducible refine (HG.out _).mono ?_); rintro e w7 ⟨⟨n, rfl⟩, rfl⟩) | (go_at_call 40; (with_reducible refine (HF.out _).mono ?_); rintro e w7 ⟨⟨n, rfl⟩, rfl⟩) | (go_at_call 41; (with_reducible refine (HQ.out _).mono ?_); rintro e w7 ⟨rfl, rfl⟩))
  change bodyPost Tryd.prog Tryd.f21 (RWordOk (c :: r) w) .ret _ _
  refine bodyPost_ret (lex_row_slot (P := Tryd.prog) Tryd.results21 _ _ w.heap.size _ _ (0, 0) _ _ rfl rfl (World.alloc_heap_new _ _) Tryd.underlying41 rfl (by kernel_rfl)) rfl ⟨?_, (Below.refl _ w).alloc (Nat.le_refl _) _⟩
  rw [HT.out]
  rfl
set_option maxRecDepth 20000 in
set_option maxHeartbeats 2000000 in
theorem rword_qb1 (c : UInt8) (r : List UInt8) (hs : r.length + 1 ≤ 70000) (w : World) (z0 : (c == (123 : UInt8) && r.isEmpty) = false) (z1 : (c == (125 : UInt8) && r.isEmpty) = false) (a0118 : (((((⟨(c :: r).toArray⟩ : ByteArray)[0]'(by simp [ByteArray.size])).toNat : Int) == 118) = false)) (a045 : (((((⟨(c :: r).toArray⟩ : ByteArray)[0]'(by simp [ByteArray.size])).toNat : Int) == 45) = false)) (HF : Hid (∀ W, Calls Tryd.prog 40 #[.string ⟨(c :: r).toArray⟩, .int .u64 4294967295] W fun e w' => (∃ n : Nat, e = .returned (.tuple #[.int .u64 (n : Int), .bool false])) ∧ W = w')) (l58 : (((((⟨(c :: r).toArray⟩ : ByteArray)[r.length]'(by simp [ByteArray.size])).toNat : Int) == 58) = true)) (HM : Hid (∀ W, Calls Tryd.prog 41 #[.string ((⟨(c :: r).toArray⟩ : ByteArray).extract 0 r.length)] W fun e w' => e = .returned (.bool true) ∧ W = w')) (HT : Hid (tokB (c :: r) = some (1, (c :: r).dropLast, 0))) : Calls Tryd.prog 21 #[.string ⟨(c :: r).toArray⟩] w (RWordOk (c :: r) w) := by
  go_enter Tryd.func21, Tryd.ntmps21
  go_wp2_with (first | (go_at_call 40; (with_reducible refine (HF.out _).mono ?_); rintro e w7 ⟨⟨n, rfl⟩, rfl⟩) | (go_at_call 41; (with_reducible refine (HM.out _).mono ?_); rintro e w7 ⟨rfl, rfl⟩))
  change bodyPost Tryd.prog Tryd.f21 (RWordOk (c :: r) w) .ret _ _
  refine bodyPost_ret (lex_row_slot (P := Tryd.prog) Tryd.results21 _ _ w.heap.size _ _ (0, 0) _ _ rfl rfl (World.alloc_heap_new _ _) Tryd.underlying41 rfl (by kernel_rfl)) rfl ⟨?_, (Below.refl _ w).alloc (Nat.le_refl _) _⟩
  rw [HT.out]
  show Ending.returned (.tuple #[.agg #[.int .u8 1, .string ((⟨(c :: r).toArray⟩ : ByteArray).extract 0 r.length), .int .u32 0, .int .i64 0, .int .i64 0], .bool true]) = .returned (.tuple #[tokV 1 (c :: r).dropLast 0, .bool true])
  unfold tokV
  rw [sext0]; rfl
set_option maxRecDepth 20000 in
set_option maxHeartbeats 2000000 in
theorem rword_qb2 (c : UInt8) (r : List UInt8) (hs : r.length + 1 ≤ 70000) (w : World) (z0 : (c == (123 : UInt8) && r.isEmpty) = false) (z1 : (c == (125 : UInt8) && r.isEmpty) = false) (a0118 : (((((⟨(c :: r).toArray⟩ : ByteArray)[0]'(by simp [ByteArray.size])).toNat : Int) == 118) = false)) (a045 : (((((⟨(c :: r).toArray⟩ : ByteArray)[0]'(by simp [ByteArray.size])).toNat : Int) == 45) = false)) (HF : Hid (∀ W, Calls Tryd.prog 40 #[.string ⟨(c :: r).toArray⟩, .int .u64 4294967295] W fun e w' => (∃ n : Nat, e = .returned (.tuple #[.int .u64 (n : Int), .bool false])) ∧ W = w')) (l58 : (((((⟨(c :: r).toArray⟩ : ByteArray)[r.length]'(by simp [ByteArray.size])).toNat : Int) == 58) = true)) (HM : Hid (∀ W, Calls Tryd.prog 41 #[.string ((⟨(c :: r).toArray⟩ : ByteArray).extract 0 r.length)] W fun e w' => e = .returned (.bool false) ∧ W = w')) (HQ : Hid (∀ W, Calls Tryd.prog 41 #[.string ⟨(c :: r).toArray⟩] W fun e w' => e = .returned (.bool true) ∧ W = w')) (HT : Hid (tokB (c :: r) = some (0, c :: r, 0))) : Calls Tryd.prog 21 #[.string ⟨(c :: r).toArray⟩] w (RWordOk (c :: r) w) := by
  go_enter Tryd.func21, Tryd.ntmps21
  go_wp2_with (first | (go_at_call 40; (with_reducible refine (HF.out _).mono ?_); rintro e w7 ⟨⟨n, rfl⟩, rfl⟩) | (go_at_call 41; (with_reducible refine (HM.out _).mono ?_); rintro e w7 ⟨rfl, rfl⟩) | (go_at_call 41; (with_reducible refine (HQ.out _).mono ?_); rintro e w7 ⟨rfl, rfl⟩))
  change bodyPost Tryd.prog Tryd.f21 (RWordOk (c :: r) w) .ret _ _
  refine bodyPost_ret (lex_row_slot (P := Tryd.prog) Tryd.results21 _ _ w.heap.size _ _ (0, 0) _ _ rfl rfl (World.alloc_heap_new _ _) Tryd.underlying41 rfl (by kernel_rfl)) rfl ⟨?_, (Below.refl _ w).alloc (Nat.le_refl _) _⟩
  rw [HT.out]
  rfl
set_option maxRecDepth 20000 in
set_option maxHeartbeats 2000000 in
theorem rword_qb3 (c : UInt8) (r : List UInt8) (hs : r.length + 1 ≤ 70000) (w : World) (z0 : (c == (123 : UInt8) && r.isEmpty) = false) (z1 : (c == (125 : UInt8) && r.isEmpty) = false) (a0118 : (((((⟨(c :: r).toArray⟩ : ByteArray)[0]'(by simp [ByteArray.size])).toNat : Int) == 118) = false)) (a045 : (((((⟨(c :: r).toArray⟩ : ByteArray)[0]'(by simp [ByteArray.size])).toNat : Int) == 45) = false)) (HF : Hid (∀ W, Calls Tryd.prog 40 #[.string ⟨(c :: r).toArray⟩, .int .u64 4294967295] W fun e w' => (∃ n : Nat, e = .returned (.tuple #[.int .u64 (n : Int), .bool false])) ∧ W = w')) (l58 : (((((⟨(c :: r).toArray⟩ : ByteArray)[r.length]'(by simp [ByteArray.size])).toNat : Int) == 58) = true)) (HM : Hid (∀ W, Calls Tryd.prog 41 #[.string ((⟨(c :: r).toArray⟩ : ByteArray).extract 0 r.length)] W fun e w' => e = .returned (.bool false) ∧ W = w')) (HQ : Hid (∀ W, Calls Tryd.prog 41 #[.string ⟨(c :: r).toArray⟩] W fun e w' => e = .returned (.bool false) ∧ W = w')) (HT : Hid (tokB (c :: r) = none)) : Calls Tryd.prog 21 #[.string ⟨(c :: r).toArray⟩] w (RWordOk (c :: r) w) := by
  go_enter Tryd.func21, Tryd.ntmps21
  go_wp2_with (first | (go_at_call 40; (with_reducible refine (HF.out _).mono ?_); rintro e w7 ⟨⟨n, rfl⟩, rfl⟩) | (go_at_call 41; (with_reducible refine (HM.out _).mono ?_); rintro e w7 ⟨rfl, rfl⟩) | (go_at_call 41; (with_reducible refine (HQ.out _).mono ?_); rintro e w7 ⟨rfl, rfl⟩))
  change bodyPost Tryd.prog Tryd.f21 (RWordOk (c :: r) w) .ret _ _
  refine bodyPost_ret (lex_row_slot (P := Tryd.prog) Tryd.results21 _ _ w.heap.size _ _ (0, 0) _ _ rfl rfl (World.alloc_heap_new _ _) Tryd.underlying41 rfl (by kernel_rfl)) rfl ⟨?_, (Below.refl _ w).alloc (Nat.le_refl _) _⟩
  rw [HT.out]
  rfl
set_option maxRecDepth 20000 in
set_option maxHeartbeats 2000000 in
theorem rword_qb4 (c : UInt8) (r : List UInt8) (hs : r.length + 1 ≤ 70000) (w : World) (z0 : (c == (123 : UInt8) && r.isEmpty) = false) (z1 : (c == (125 : UInt8) && r.isEmpty) = false) (a0118 : (((((⟨(c :: r).toArray⟩ : ByteArray)[0]'(by simp [ByteArray.size])).toNat : Int) == 118) = false)) (a045 : (((((⟨(c :: r).toArray⟩ : ByteArray)[0]'(by simp [ByteArray.size])).toNat : Int) == 45) = false)) (HF : Hid (∀ W, Calls Tryd.prog 40 #[.string ⟨(c :: r).toArray⟩, .int .u64 4294967295] W fun e w' => (∃ n : Nat, e = .returned (.tuple #[.int .u64 (n : Int), .bool false])) ∧ W = w')) (l58 : (((((⟨(c :: r).toArray⟩ : ByteArray)[r.length]'(by simp [ByteArray.size])).toNat : Int) == 58) = false)) (HQ : Hid (∀ W, Calls Tryd.prog 41 #[.string ⟨(c :: r).toArray⟩] W fun e w' => e = .returned (.bool true) ∧ W = w')) (HT : Hid (tokB (c :: r) = some (0, c :: r, 0))) : Calls Tryd.prog 21 #[.string ⟨(c :: r).toArray⟩] w (RWordOk (c :: r) w) := by
  go_enter Tryd.func21, Tryd.ntmps21
  go_wp2_with (first | (go_at_call 40; (with_reducible refine (HF.out _).mono ?_); rintro e w7 ⟨⟨n, rfl⟩, rfl⟩) | (go_at_call 41; (with_reducible refine (HQ.out _).mono ?_); rintro e w7 ⟨rfl, rfl⟩))
  change bodyPost Tryd.prog Tryd.f21 (RWordOk (c :: r) w) .ret _ _
  refine bodyPost_ret (lex_row_slot (P := Tryd.prog) Tryd.results21 _ _ w.heap.size _ _ (0, 0) _ _ rfl rfl (World.alloc_heap_new _ _) Tryd.underlying41 rfl (by kernel_rfl)) rfl ⟨?_, (Below.refl _ w).alloc (Nat.le_refl _) _⟩
  rw [HT.out]
  rfl
set_option maxRecDepth 20000 in
set_option maxHeartbeats 2000000 in
theorem rword_qb5 (c : UInt8) (r : List UInt8) (hs : r.length + 1 ≤ 70000) (w : World) (z0 : (c == (123 : UInt8) && r.isEmpty) = false) (z1 : (c == (125 : UInt8) && r.isEmpty) = false) (a0118 : (((((⟨(c :: r).toArray⟩ : ByteArray)[0]'(by simp [ByteArray.size])).toNat : Int) == 118) = false)) (a045 : (((((⟨(c :: r).toArray⟩ : ByteArray)[0]'(by simp [ByteArray.size])).toNat : Int) == 45) = false)) (HF : Hid (∀ W, Calls Tryd.prog 40 #[.string ⟨(c :: r).toArray⟩, .int .u64 4294967295] W fun e w' => (∃ n : Nat, e = .returned (.tuple #[.int .u64 (n : Int), .bool false])) ∧ W = w')) (l58 : (((((⟨(c :: r).toArray⟩ : ByteArray)[r.length]'(by simp [ByteArray.size])).toNat : Int) == 58) = false)) (HQ : Hid (∀ W, Calls Tryd.prog 41 #[.string ⟨(c :: r).toArray⟩] W fun e w' => e = .returned (.bool false) ∧ W = w')) (HT : Hid (tokB (c :: r) = none)) : Calls Tryd.prog 21 #[.string ⟨(c :: r).toArray⟩] w (RWordOk (c :: r) w) := by
  go_enter Tryd.func21, Tryd.ntmps21
  go_wp2_with (first | (go_at_call 40; (with_reducible refine (HF.out _).mono ?_); rintro e w7 ⟨⟨n, rfl⟩, rfl⟩) | (go_at_call 41; (with_reducible refine (HQ.out _).mono ?_); rintro e w7 ⟨rfl, rfl⟩))
  change bodyPost Tryd.prog Tryd.f21 (RWordOk (c :: r) w) .ret _ _
  refine bodyPost_ret (lex_row_slot (P := Tryd.prog) Tryd.results21 _ _ w.heap.size _ _ (0, 0) _ _ rfl rfl (World.alloc_heap_new _ _) Tryd.underlying41 rfl (by kernel_rfl)) rfl ⟨?_, (Below.refl _ w).alloc (Nat.le_refl _) _⟩
  rw [HT.out]
  rfl
set_option maxRecDepth 20000 in
set_option maxHeartbeats 2000000 in
theorem rword_qc1 (c : UInt8) (r : List UInt8) (hs : r.length + 1 ≤ 70000) (w : World) (z0 : (c == (123 : UInt8) && r.isEmpty) = false) (z1 : (c == (125 : UInt8) && r.isEmpty) = false) (a0118 : (((((⟨(c :: r).toArray⟩ : ByteArray)[0]'(by simp [ByteArray.size])).toNat : Int) == 118) = false)) (a045 : (((((⟨(c :: r).toArray⟩ : ByteArray)[0]'(by simp [ByteArray.size])).toNat : Int) == 45) = true)) (HF : Hid (∀ W, Calls Tryd.prog 40 #[.string ⟨(c :: r).toArray⟩, .int .u64 4294967295] W fun e w' => (∃ n : Nat, e = .returned (.tuple #[.int .u64 (n : Int), .bool false])) ∧ W = w')) (HG : Hid (∀ W, Calls Tryd.prog 40 #[.string ((⟨(c :: r).toArray⟩ : ByteArray).extract 1 (r.length + 1)), .int .u64 2147483648] W fun e w' => (∃ n : Nat, e = .returned (.tuple #[.int .u64 (n : Int), .bool false])) ∧ W = w')) (l58 : (((((⟨(c :: r).toArray⟩ : ByteArray)[r.length]'(by simp [ByteArray.size])).toNat : Int) == 58) = true)) (HM : Hid (∀ W, Calls Tryd.prog 41 #[.string ((⟨(c :: r).toArray⟩ : ByteArray).extract 0 r.length)] W fun e w' => e = .returned (.bool true) ∧ W = w')) (HT : Hid (tokB (c :: r) = some (1, (c :: r).dropLast, 0))) : Calls Tryd.prog 21 #[.string ⟨(c :: r).toArray⟩] w (RWordOk (c :: r) w) := by
  go_enter Tryd.func21, Tryd.ntmps21
  go_wp2_with (first | (go_at_call 40; (with_reducible refine (HF.out _).mono ?_); rintro e w7 ⟨⟨n, rfl⟩, rfl⟩) | (go_at_call 40; (with_reducible refine (HG.out _).mono ?_); rintro e w7 ⟨⟨n, rfl⟩, rfl⟩) | (go_at_call 41; (with_reducible refine (HM.out _).mono ?_); rintro e w7 ⟨rfl, rfl⟩))
  change bodyPost Tryd.prog Tryd.f21 (RWordOk (c :: r) w) .ret _ _
  refine bodyPost_ret (lex_row_slot (P := Tryd.prog) Tryd.results21 _ _ w.heap.size _ _ (0, 0) _ _ rfl rfl (World.alloc_heap_new _ _) Tryd.underlying41 rfl (by kernel_rfl)) rfl ⟨?_, (Below.refl _ w).alloc (Nat.le_refl _) _⟩
  rw [HT.out]
  show Ending.returned (.tuple #[.agg #[.int .u8 1, .string ((⟨(c :: r).toArray⟩ : ByteArray).extract 0 r.length), .int .u32 0, .int .i64 0, .int .i64 0], .bool true]) = .returned (.tuple #[tokV 1 (c :: r).dropLast 0, .bool true])
  unfold tokV
  rw [sext0]; rfl
set_option maxRecDepth 20000 in
set_option maxHeartbeats 2000000 in
theorem rword_qc2 (c : UInt8) (r : List UInt8) (hs : r.length + 1 ≤ 70000) (w : World) (z0 : (c == (123 : UInt8) && r.isEmpty) = false) (z1 : (c == (125 : UInt8) && r.isEmpty) = false) (a0118 : (((((⟨(c :: r).toArray⟩ : ByteArray)[0]'(by simp [ByteArray.size])).toNat : Int) == 118) = false)) (a045 : (((((⟨(c :: r).toArray⟩ : ByteArray)[0]'(by simp [ByteArray.size])).toNat : Int) == 45) = true)) (HF : Hid (∀ W, Calls Tryd.prog 40 #[.string ⟨(c :: r).toArray⟩, .int .u64 4294967295] W fun e w' => (∃ n : Nat, e = .returned (.tuple #[.int .u64 (n : Int), .bool false])) ∧ W = w')) (HG : Hid (∀ W, Calls Tryd.prog 40 #[.string ((⟨(c :: r).toArray⟩ : ByteArray).extract 1 (r.length + 1)), .int .u64 2147483648] W fun e w' => (∃ n : Nat, e = .returned (.tuple #[.int .u64 (n : Int), .bool false])) ∧ W = w')) (l58 : (((((⟨(c :: r).toArray⟩ : ByteArray)[r.length]'(by simp [ByteArray.size])).toNat : Int) == 58) = true)) (HM : Hid (∀ W, Calls Tryd.prog 41 #[.string ((⟨(c :: r).toArray⟩ : ByteArray).extract 0 r.length)] W fun e w' => e = .returned (.bool false) ∧ W = w')) (HQ : Hid (∀ W, Calls Tryd.prog 41 #[.string ⟨(c :: r).toArray⟩] W fun e w' => e = .returned (.bool true) ∧ W = w')) (HT : Hid (tokB (c :: r) = some (0, c :: r, 0))) : Calls Tryd.prog 21 #[.string ⟨(c :: r).toArray⟩] w (RWordOk (c :: r) w) := by
  go_enter Tryd.func21, Tryd.ntmps21
  go_wp2_with (first | (go_at_call 40; (with_reducible refine (HF.out _).mono ?_); rintro e w7 ⟨⟨n, rfl⟩, rfl⟩) | (go_at_call 40; (with_reducible refine (HG.out _).mono ?_); rintro e w7 ⟨⟨n, rfl⟩, rfl⟩) | (go_at_call 41; (with_reducible refine (HM.out _).mono ?_); rintro e w7 ⟨rfl, rfl⟩) | (go_at_call 41; (with_reducible refine (HQ.out _).mono ?_); rintro e w7 ⟨rfl, rfl⟩))
  change bodyPost Tryd.prog Tryd.f21 (RWordOk (c :: r) w) .ret _ _
  refine bodyPost_ret (lex_row_slot (P := Tryd.prog) Tryd.results21 _ _ w.heap.size _ _ (0, 0) _ _ rfl rfl (World.alloc_heap_new _ _) Tryd.underlying41 rfl (by kernel_rfl)) rfl ⟨?_, (Below.refl _ w).alloc (Nat.le_refl _) _⟩
  rw [HT.out]
  rfl
set_option maxRecDepth 20000 in
set_option maxHeartbeats 2000000 in
theorem rword_qc3 (c : UInt8) (r : List UInt8) (hs : r.length + 1 ≤ 70000) (w : World) (z0 : (c == (123 : UInt8) && r.isEmpty) = false) (z1 : (c == (125 : UInt8) && r.isEmpty) = false) (a0118 : (((((⟨(c :: r).toArray⟩ : ByteArray)[0]'(by simp [ByteArray.size])).toNat : Int) == 118) = false)) (a045 : (((((⟨(c :: r).toArray⟩ : ByteArray)[0]'(by simp [ByteArray.size])).toNat : Int) == 45) = true)) (HF : Hid (∀ W, Calls Tryd.prog 40 #[.string ⟨(c :: r).toArray⟩, .int .u64 4294967295] W fun e w' => (∃ n : Nat, e = .returned (.tuple #[.int .u64 (n : Int), .bool false])) ∧ W = w')) (HG : Hid (∀ W, Calls Tryd.prog 40 #[.string ((⟨(c :: r).toArray⟩ : ByteArray).extract 1 (r.length + 1)), .int .u64 2147483648] W fun e w' => (∃ n : Nat, e = .returned (.tuple #[.int .u64 (n : Int), .bool false])) ∧ W = w')) (l58 : (((((⟨(c :: r).toArray⟩ : ByteArray)[r.length]'(by simp [ByteArray.size])).toNat : Int) == 58) = true)) (HM : Hid (∀ W, Calls Tryd.prog 41 #[.string ((⟨(c :: r).toArray⟩ : ByteArray).extract 0 r.length)] W fun e w' => e = .returned (.bool false) ∧ W = w')) (HQ : Hid (∀ W, Calls Tryd.prog 41 #[.string ⟨(c :: r).toArray⟩] W fun e w' => e = .returned (.bool false) ∧ W = w')) (HT : Hid (tokB (c :: r) = none)) : Calls Tryd.prog 21 #[.string ⟨(c :: r).toArray⟩] w (RWordOk (c :: r) w) := by
  go_enter Tryd.func21, Tryd.ntmps21
  go_wp2_with (first | (go_at_call 40; (with_reducible refine (HF.out _).mono ?_); rintro e w7 ⟨⟨n, rfl⟩, rfl⟩) | (go_at_call 40; (with_reducible refine (HG.out _).mono ?_); rintro e w7 ⟨⟨n, rfl⟩, rfl⟩) | (go_at_call 41; (with_reducible refine (HM.out _).mono ?_); rintro e w7 ⟨rfl, rfl⟩) | (go_at_call 41; (with_reducible refine (HQ.out _).mono ?_); rintro e w7 ⟨rfl, rfl⟩))
  change bodyPost Tryd.prog Tryd.f21 (RWordOk (c :: r) w) .ret _ _
  refine bodyPost_ret (lex_row_slot (P := Tryd.prog) Tryd.results21 _ _ w.heap.size _ _ (0, 0) _ _ rfl rfl (World.alloc_heap_new _ _) Tryd.underlying41 rfl (by kernel_rfl)) rfl ⟨?_, (Below.refl _ w).alloc (Nat.le_refl _) _⟩
  rw [HT.out]
  rfl
set_option maxRecDepth 20000 in
set_option maxHeartbeats 2000000 in
theorem rword_qc4 (c : UInt8) (r : List UInt8) (hs : r.length + 1 ≤ 70000) (w : World) (z0 : (c == (123 : UInt8) && r.isEmpty) = false) (z1 : (c == (125 : UInt8) && r.isEmpty) = false) (a0118 : (((((⟨(c :: r).toArray⟩ : ByteArray)[0]'(by simp [ByteArray.size])).toNat : Int) == 118) = false)) (a045 : (((((⟨(c :: r).toArray⟩ : ByteArray)[0]'(by simp [ByteArray.size])).toNat : Int) == 45) = true)) (HF : Hid (∀ W, Calls Tryd.prog 40 #[.string ⟨(c :: r).toArray⟩, .int .u64 4294967295] W fun e w' => (∃ n : Nat, e = .returned (.tuple #[.int .u64 (n : Int), .bool false])) ∧ W = w')) (HG : Hid (∀ W, Calls Tryd.prog 40 #[.string ((⟨(c :: r).toArray⟩ : ByteArray).extract 1 (r.length + 1)), .int .u64 2147483648] W fun e w' => (∃ n : Nat, e = .returned (.tuple #[.int .u64 (n : Int), .bool false])) ∧ W = w')) (l58 : (((((⟨(c :: r).toArray⟩ : ByteArray)[r.length]'(by simp [ByteArray.size])).toNat : Int) == 58) = false)) (HQ : Hid (∀ W, Calls Tryd.prog 41 #[.string ⟨(c :: r).toArray⟩] W fun e w' => e = .returned (.bool true) ∧ W = w')) (HT : Hid (tokB (c :: r) = some (0, c :: r, 0))) : Calls Tryd.prog 21 #[.string ⟨(c :: r).toArray⟩] w (RWordOk (c :: r) w) := by
  go_enter Tryd.func21, Tryd.ntmps21
  go_wp2_with (first | (go_at_call 40; (with_reducible refine (HF.out _).mono ?_); rintro e w7 ⟨⟨n, rfl⟩, rfl⟩) | (go_at_call 40; (with_reducible refine (HG.out _).mono ?_); rintro e w7 ⟨⟨n, rfl⟩, rfl⟩) | (go_at_call 41; (with_reducible refine (HQ.out _).mono ?_); rintro e w7 ⟨rfl, rfl⟩))
  change bodyPost Tryd.prog Tryd.f21 (RWordOk (c :: r) w) .ret _ _
  refine bodyPost_ret (lex_row_slot (P := Tryd.prog) Tryd.results21 _ _ w.heap.size _ _ (0, 0) _ _ rfl rfl (World.alloc_heap_new _ _) Tryd.underlying41 rfl (by kernel_rfl)) rfl ⟨?_, (Below.refl _ w).alloc (Nat.le_refl _) _⟩
  rw [HT.out]
  rfl
set_option maxRecDepth 20000 in
set_option maxHeartbeats 2000000 in
theorem rword_qc5 (c : UInt8) (r : List UInt8) (hs : r.length + 1 ≤ 70000) (w : World) (z0 : (c == (123 : UInt8) && r.isEmpty) = false) (z1 : (c == (125 : UInt8) && r.isEmpty) = false) (a0118 : (((((⟨(c :: r).toArray⟩ : ByteArray)[0]'(by simp [ByteArray.size])).toNat : Int) == 118) = false)) (a045 : (((((⟨(c :: r).toArray⟩ : ByteArray)[0]'(by simp [ByteArray.size])).toNat : Int) == 45) = true)) (HF : Hid (∀ W, Calls Tryd.prog 40 #[.string ⟨(c :: r).toArray⟩, .int .u64 4294967295] W fun e w' => (∃ n : Nat, e = .returned (.tuple #[.int .u64 (n : Int), .bool false])) ∧ W = w')) (HG : Hid (∀ W, Calls Tryd.prog 40 #[.string ((⟨(c :: r).toArray⟩ : ByteArray).extract 1 (r.length + 1)), .int .u64 2147483648] W fun e w' => (∃ n : Nat, e = .returned (.tuple #[.int .u64 (n : Int), .bool false])) ∧ W = w')) (l58 : (((((⟨(c :: r).toArray⟩ : ByteArray)[r.length]'(by simp [ByteArray.size])).toNat : Int) == 58) = false)) (HQ : Hid (∀ W, Calls Tryd.prog 41 #[.string ⟨(c :: r).toArray⟩] W fun e w' => e = .returned (.bool false) ∧ W = w')) (HT : Hid (tokB (c :: r) = none)) : Calls Tryd.prog 21 #[.string ⟨(c :: r).toArray⟩] w (RWordOk (c :: r) w) := by
  go_enter Tryd.func21, Tryd.ntmps21
  go_wp2_with (first | (go_at_call 40; (with_reducible refine (HF.out _).mono ?_); rintro e w7 ⟨⟨n, rfl⟩, rfl⟩) | (go_at_call 40; (with_reducible refine (HG.out _).mono ?_); rintro e w7 ⟨⟨n, rfl⟩, rfl⟩) | (go_at_call 41; (with_reducible refine (HQ.out _).mono ?_); rintro e w7 ⟨rfl, rfl⟩))
  change bodyPost Tryd.prog Tryd.f21 (RWordOk (c :: r) w) .ret _ _
  refine bodyPost_ret (lex_row_slot (P := Tryd.prog) Tryd.results21 _ _ w.heap.size _ _ (0, 0) _ _ rfl rfl (World.alloc_heap_new _ _) Tryd.underlying41 rfl (by kernel_rfl)) rfl ⟨?_, (Below.refl _ w).alloc (Nat.le_refl _) _⟩
  rw [HT.out]
  rfl
set_option maxRecDepth 20000 in
set_option maxHeartbeats 2000000 in
theorem rword_qd1 (c : UInt8) (r : List UInt8) (hs : r.length + 1 ≤ 70000) (w : World) (z0 : (c == (123 : UInt8) && r.isEmpty) = false) (z1 : (c == (125 : UInt8) && r.isEmpty) = false) (a0118 : (((((⟨(c :: r).toArray⟩ : ByteArray)[0]'(by simp [ByteArray.size])).toNat : Int) == 118) = false)) (a045 : (((((⟨(c :: r).toArray⟩ : ByteArray)[0]'(by simp [ByteArray.size])).toNat : Int) == 45) = true)) (HF : Hid (∀ W, Calls Tryd.prog 40 #[.string ⟨(c :: r).toArray⟩, .int .u64 4294967295] W fun e w' => (∃ n : Nat, e = .returned (.tuple #[.int .u64 (n : Int), .bool false])) ∧ W = w')) (HG : Hid (∀ W, Calls Tryd.prog 40 #[.string ((⟨(c :: r).toArray⟩ : ByteArray).extract 1 (r.length + 1)), .int .u64 2147483648] W fun e w' => e = .returned (.tuple #[.int .u64 (0 : Int), .bool true]) ∧ W = w')) (l58 : (((((⟨(c :: r).toArray⟩ : ByteArray)[r.length]'(by simp [ByteArray.size])).toNat : Int) == 58) = true)) (HM : Hid (∀ W, Calls Tryd.prog 41 #[.string ((⟨(c :: r).toArray⟩ : ByteArray).extract 0 r.length)] W fun e w' => e = .returned (.bool true) ∧ W = w')) (HT : Hid (tokB (c :: r) = some (1, (c :: r).dropLast, 0))) : Calls Tryd.prog 21 #[.string ⟨(c :: r).toArray⟩] w (RWordOk (c :: r) w) := by
  go_enter Tryd.func21, Tryd.ntmps21
  go_wp2_with (first | (go_at_call 40; (with_reducible refine (HF.out _).mono ?_); rintro e w7 ⟨⟨n, rfl⟩, rfl⟩) | (go_at_call 40; (with_reducible refine (HG.out _).mono ?_); rintro e w7 ⟨rfl, rfl⟩) | (go_at_call 41; (with_reducible refine (HM.out _).mono ?_); rintro e w7 ⟨rfl, rfl⟩))
  change bodyPost Tryd.prog Tryd.f21 (RWordOk (c :: r) w) .ret _ _
  refine bodyPost_ret (lex_row_slot (P := Tryd.prog) Tryd.results21 _ _ w.heap.size _ _ (0, 0) _ _ rfl rfl (World.alloc_heap_new _ _) Tryd.underlying41 rfl (by kernel_rfl)) rfl ⟨?_, (Below.refl _ w).alloc (Nat.le_refl _) _⟩
  rw [HT.out]
  show Ending.returned (.tuple #[.agg #[.int .u8 1, .string ((⟨(c :: r).toArray⟩ : ByteArray).extract 0 r.length), .int .u32 0, .int .i64 0, .int .i64 0], .bool true]) = .returned (.tuple #[tokV 1 (c :: r).dropLast 0, .bool true])
  unfold tokV
  rw [sext0]; rfl
set_option maxRecDepth 20000 in
set_option maxHeartbeats 2000000 in
theorem rword_qd2 (c : UInt8) (r : List UInt8) (hs : r.length + 1 ≤ 70000) (w : World) (z0 : (c == (123 : UInt8) && r.isEmpty) = false) (z1 : (c == (125 : UInt8) && r.isEmpty) = false) (a0118 : (((((⟨(c :: r).toArray⟩ : ByteArray)[0]'(by simp [ByteArray.size])).toNat : Int) == 118) = false)) (a045 : (((((⟨(c :: r).toArray⟩ : ByteArray)[0]'(by simp [ByteArray.size])).toNat : Int) == 45) = true)) (HF : Hid (∀ W, Calls Tryd.prog 40 #[.string ⟨(c :: r).toArray⟩, .int .u64 4294967295] W fun e w' => (∃ n : Nat, e = .returned (.tuple #[.int .u64 (n : Int), .bool false])) ∧ W = w')) (HG : Hid (∀ W, Calls Tryd.prog 40 #[.string ((⟨(c :: r).toArray⟩ : ByteArray).extract 1 (r.length + 1)), .int .u64 2147483648] W fun e w' => e = .returned (.tuple #[.int .u64 (0 : Int), .bool true]) ∧ W = w')) (l58 : (((((⟨(c :: r).toArray⟩ : ByteArray)[r.length]'(by simp [ByteArray.size])).toNat : Int) == 58) = true)) (HM : Hid (∀ W, Calls Tryd.prog 41 #[.string ((⟨(c :: r).toArray⟩ : ByteArray).extract 0 r.length)] W fun e w' => e = .returned (.bool false) ∧ W = w')) (HQ : Hid (∀ W, Calls Tryd.prog 41 #[.string ⟨(c :: r).toArray⟩] W fun e w' => e = .returned (.bool true) ∧ W = w')) (HT : Hid (tokB (c :: r) = some (0, c :: r, 0))) : Calls Tryd.prog 21 #[.string ⟨(c :: r).toArray⟩] w (RWordOk (c :: r) w) := by
  go_enter Tryd.func21, Tryd.ntmps21
  go_wp2_with (first | (go_at_call 40; (with_reducible refine (HF.out _).mono ?_); rintro e w7 ⟨⟨n, rfl⟩, rfl⟩) | (go_at_call 40; (with_reducible refine (HG.out _).mono ?_); rintro e w7 ⟨rfl, rfl⟩) | (go_at_call 41; (with_reducible refine (HM.out _).mono ?_); rintro e w7 ⟨rfl, rfl⟩) | (go_at_call 41; (with_reducible refine (HQ.out _).mono ?_); rintro e w7 ⟨rfl, rfl⟩))
  change bodyPost Tryd.prog Tryd.f21 (RWordOk (c :: r) w) .ret _ _
  refine bodyPost_ret (lex_row_slot (P := Tryd.prog) Tryd.results21 _ _ w.heap.size _ _ (0, 0) _ _ rfl rfl (World.alloc_heap_new _ _) Tryd.underlying41 rfl (by kernel_rfl)) rfl ⟨?_, (Below.refl _ w).alloc (Nat.le_refl _) _⟩
  rw [HT.out]
  rfl
set_option maxRecDepth 20000 in
set_option maxHeartbeats 2000000 in
theorem rword_qd3 (c : UInt8) (r : List UInt8) (hs : r.length + 1 ≤ 70000) (w : World) (z0 : (c == (123 : UInt8) && r.isEmpty) = false) (z1 : (c == (125 : UInt8) && r.isEmpty) = false) (a0118 : (((((⟨(c :: r).toArray⟩ : ByteArray)[0]'(by simp [ByteArray.size])).toNat : Int) == 118) = false)) (a045 : (((((⟨(c :: r).toArray⟩ : ByteArray)[0]'(by simp [ByteArray.size])).toNat : Int) == 45) = true)) (HF : Hid (∀ W, Calls Tryd.prog 40 #[.string ⟨(c :: r).toArray⟩, .int .u64 4294967295] W fun e w' => (∃ n : Nat, e = .returned (.tuple #[.int .u64 (n : Int), .bool false])) ∧ W = w')) (HG : Hid (∀ W, Calls Tryd.prog 40 #[.string ((⟨(c :: r).toArray⟩ : ByteArray).extract 1 (r.length + 1)), .int .u64 2147483648] W fun e w' => e = .returned (.tuple #[.int .u64 (0 : Int), .bool true]) ∧ W = w')) (l58 : (((((⟨(c :: r).toArray⟩ : ByteArray)[r.length]'(by simp [ByteArray.size])).toNat : Int) == 58) = true)) (HM : Hid (∀ W, Calls Tryd.prog 41 #[.string ((⟨(c :: r).toArray⟩ : ByteArray).extract 0 r.length)] W fun e w' => e = .returned (.bool false) ∧ W = w')) (HQ : Hid (∀ W, Calls Tryd.prog 41 #[.string ⟨(c :: r).toArray⟩] W fun e w' => e = .returned (.bool false) ∧ W = w')) (HT : Hid (tokB (c :: r) = none)) : Calls Tryd.prog 21 #[.string ⟨(c :: r).toArray⟩] w (RWordOk (c :: r) w) := by
  go_enter Tryd.func21, Tryd.ntmps21
  go_wp2_with (first | (go_at_call 40; (with_reducible refine (HF.out _).mono ?_); rintro e w7 ⟨⟨n, rfl⟩, rfl⟩) | (go_at_call 40; (with_reducible refine (HG.out _).mono ?_); rintro e w7 ⟨rfl, rfl⟩) | (go_at_call 41; (with_reducible refine (HM.out _).mono ?_); rintro e w7 ⟨rfl, rfl⟩) | (go_at_call 41; (with_reducible refine (HQ.out _).mono ?_); rintro e w7 ⟨rfl, rfl⟩))
  change bodyPost Tryd.prog Tryd.f21 (RWordOk (c :: r) w) .ret _ _
  refine bodyPost_ret (lex_row_slot (P := Tryd.prog) Tryd.results21 _ _ w.heap.size _ _ (0, 0) _ _ rfl rfl (World.alloc_heap_new _ _) Tryd.underlying41 rfl (by kernel_rfl)) rfl ⟨?_, (Below.refl _ w).alloc (Nat.le_refl _) _⟩
  rw [HT.out]
  rfl
set_option maxRecDepth 20000 in
set_option maxHeartbeats 2000000 in
theorem rword_qd4 (c : UInt8) (r : List UInt8) (hs : r.length + 1 ≤ 70000) (w : World) (z0 : (c == (123 : UInt8) && r.isEmpty) = false) (z1 : (c == (125 : UInt8) && r.isEmpty) = false) (a0118 : (((((⟨(c :: r).toArray⟩ : ByteArray)[0]'(by simp [ByteArray.size])).toNat : Int) == 118) = false)) (a045 : (((((⟨(c :: r).toArray⟩ : ByteArray)[0]'(by simp [ByteArray.size])).toNat : Int) == 45) = true)) (HF : Hid (∀ W, Calls Tryd.prog 40 #[.string ⟨(c :: r).toArray⟩, .int .u64 4294967295] W fun e w' => (∃ n : Nat, e = .returned (.tuple #[.int .u64 (n : Int), .bool false])) ∧ W = w')) (HG : Hid (∀ W, Calls Tryd.prog 40 #[.string ((⟨(c :: r).toArray⟩ : ByteArray).extract 1 (r.length + 1)), .int .u64 2147483648] W fun e w' => e = .returned (.tuple #[.int .u64 (0 : Int), .bool true]) ∧ W = w')) (l58 : (((((⟨(c :: r).toArray⟩ : ByteArray)[r.length]'(by simp [ByteArray.size])).toNat : Int) == 58) = false)) (HQ : Hid (∀ W, Calls Tryd.prog 41 #[.string ⟨(c :: r).toArray⟩] W fun e w' => e = .returned (.bool true) ∧ W = w')) (HT : Hid (tokB (c :: r) = some (0, c :: r, 0))) : Calls Tryd.prog 21 #[.string ⟨(c :: r).toArray⟩] w (RWordOk (c :: r) w) := by
  go_enter Tryd.func21, Tryd.ntmps21
  go_wp2_with (first | (go_at_call 40; (with_reducible refine (HF.out _).mono ?_); rintro e w7 ⟨⟨n, rfl⟩, rfl⟩) | (go_at_call 40; (with_reducible refine (HG.out _).mono ?_); rintro e w7 ⟨rfl, rfl⟩) | (go_at_call 41; (with_reducible refine (HQ.out _).mono ?_); rintro e w7 ⟨rfl, rfl⟩))
  change bodyPost Tryd.prog Tryd.f21 (RWordOk (c :: r) w) .ret _ _
  refine bodyPost_ret (lex_row_slot (P := Tryd.prog) Tryd.results21 _ _ w.heap.size _ _ (0, 0) _ _ rfl rfl (World.alloc_heap_new _ _) Tryd.underlying41 rfl (by kernel_rfl)) rfl ⟨?_, (Below.refl _ w).alloc (Nat.le_refl _) _⟩
  rw [HT.out]
  rfl
set_option maxRecDepth 20000 in
set_option maxHeartbeats 2000000 in
theorem rword_qd5 (c : UInt8) (r : List UInt8) (hs : r.length + 1 ≤ 70000) (w : World) (z0 : (c == (123 : UInt8) && r.isEmpty) = false) (z1 : (c == (125 : UInt8) && r.isEmpty) = false) (a0118 : (((((⟨(c :: r).toArray⟩ : ByteArray)[0]'(by simp [ByteArray.size])).toNat : Int) == 118) = false)) (a045 : (((((⟨(c :: r).toArray⟩ : ByteArray)[0]'(by simp [ByteArray.size])).toNat : Int) == 45) = true)) (HF : Hid (∀ W, Calls Tryd.prog 40 #[.string ⟨(c :: r).toArray⟩, .int .u64 4294967295] W fun e w' => (∃ n : Nat, e = .returned (.tuple #[.int .u64 (n : Int), .bool false])) ∧ W = w')) (HG : Hid (∀ W, Calls Tryd.prog 40 #[.string ((⟨(c :: r).toArray⟩ : ByteArray).extract 1 (r.length + 1)), .int .u64 2147483648] W fun e w' => e = .returned (.tuple #[.int .u64 (0 : Int), .bool true]) ∧ W = w')) (l58 : (((((⟨(c :: r).toArray⟩ : ByteArray)[r.length]'(by simp [ByteArray.size])).toNat : Int) == 58) = false)) (HQ : Hid (∀ W, Calls Tryd.prog 41 #[.string ⟨(c :: r).toArray⟩] W fun e w' => e = .returned (.bool false) ∧ W = w')) (HT : Hid (tokB (c :: r) = none)) : Calls Tryd.prog 21 #[.string ⟨(c :: r).toArray⟩] w (RWordOk (c :: r) w) := by
  go_enter Tryd.func21, Tryd.ntmps21
  go_wp2_with (first | (go_at_call 40; (with_reducible refine (HF.out _).mono ?_); rintro e w7 ⟨⟨n, rfl⟩, rfl⟩) | (go_at_call 40; (with_reducible refine (HG.out _).mono ?_); rintro e w7 ⟨rfl, rfl⟩) | (go_at_call 41; (with_reducible refine (HQ.out _).mono ?_); rintro e w7 ⟨rfl, rfl⟩))
  change bodyPost Tryd.prog Tryd.f21 (RWordOk (c :: r) w) .ret _ _
  refine bodyPost_ret (lex_row_slot (P := Tryd.prog) Tryd.results21 _ _ w.heap.size _ _ (0, 0) _ _ rfl rfl (World.alloc_heap_new _ _) Tryd.underlying41 rfl (by kernel_rfl)) rfl ⟨?_, (Below.refl _ w).alloc (Nat.le_refl _) _⟩
  rw [HT.out]
  rfl
end Go.Proofs.YthnfkecbgfcipaaDoor
