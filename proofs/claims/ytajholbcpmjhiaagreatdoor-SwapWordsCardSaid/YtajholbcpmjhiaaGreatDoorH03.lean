/- Several texts in one: PsrBits, PsrWin. -/
import Derived.Test.YtajholbcpmjhiaaGreatDoorH02
import Derived.WalkKit
import Derived.Test.YtajholbcpmjhiaaGreatDoorProg
import Derived.WalkSpells
import Derived.WalkLawsBesides
import Derived.RegionTactic
import Derived.Outline
import Derived.Deep.QuietTactic
import Derived.BigQuiet
import Derived.Handy
import Derived.Lib.BitFns
/- Walks of math/bits.OnesCount32, and of TrailingZeros32 at powers of two; the plain law of the WIM. -/
namespace Go.Proofs.YtajholbcpmjhiaaGreatDoor
open Go.RowKit
set_option linter.unusedVariables false
set_option linter.unusedSimpArgs false
theorem bmask (x : Int) (h0 : 0 ≤ x) (h1 : x < 4294967296) : bits .and .u32 x 255 = x % 256 := by
  rw [u32_and x 255 h0 h1 (by omega) (by omega)]
  rw [show ((x.toNat &&& (255 : Int).toNat : Nat) : Int) = ((x.toNat % 2 ^ 8 : Nat) : Int) from congrArg _ (Nat.and_two_pow_sub_one_eq_mod x.toNat 8)]
  omega
def onesS (x : Int) : Int := (Lib.pop8 (x / 16777216) + Lib.pop8 (x / 65536 % 256) + Lib.pop8 (x / 256 % 256) + Lib.pop8 (x % 256)) % 256
set_option maxRecDepth 100000 in
set_option maxHeartbeats 2000000 in
theorem ones_any (x : Int) (h0 : 0 ≤ x) (h1 : x < 4294967296) (w : World) : Calls Tryz.prog 189 #[.int .u32 x] w fun e w' => e = .returned (.int .i64 (onesS x)) ∧ Below w.heap.size w w' := by
  have a0 : 0 ≤ x / 16777216 ∧ x / 16777216 ≤ 255 := by omega
  have a1 : 0 ≤ x / 65536 ∧ x / 65536 < 4294967296 := by omega
  have a2 : 0 ≤ x / 256 ∧ x / 256 < 4294967296 := by omega
  have m1 := bmask (x / 65536) (by omega) (by omega)
  have m2 := bmask (x / 256) (by omega) (by omega)
  have m3 := bmask x h0 h1
  have c1 : 0 ≤ x / 65536 % 256 ∧ x / 65536 % 256 ≤ 255 := by omega
  have c2 : 0 ≤ x / 256 % 256 ∧ x / 256 % 256 ≤ 255 := by omega
  have c3 : 0 ≤ x % 256 ∧ x % 256 ≤ 255 := by omega
  go_enter Tryz.func189, Tryz.ntmps189
  go_wp2_with fail
  go_quiet (fail)
  go_wp2_with fail
  go_ret
  exact ⟨pret rfl, pdrew (Below.refl _ _) _⟩
def Bru (w : World) : Prop := ∀ i : Nat, i < 32 → w.cell? ⟨1, i, none⟩ = some (.int .u8 (([0, 1, 28, 2, 29, 14, 24, 3, 30, 22, 20, 15, 25, 17, 4, 8, 31, 27, 13, 23, 21, 19, 16, 7, 26, 12, 18, 6, 11, 5, 10, 9] : List Int).getD i 0))
theorem Bru.keep {w w' : World} (h : Bru w) (hb : Below w.heap.size w w') : Bru w' := fun i hi => by
  have h1 := h i hi
  exact (hb.cell (p := ⟨1, i, none⟩) (World.block_lt_of_cell? _ _ h1)).trans h1
theorem Bru.al {w : World} (h : Bru w) (o : Obj) : Bru (w.alloc o) := h.keep (pbal w o)
set_option maxRecDepth 100000 in
set_option maxHeartbeats 2000000 in
theorem tz_0 (w : World) (hb : Bru w) : Calls Tryz.prog 190 #[.int .u32 1] w fun e w' => e = .returned (.int .i64 0) ∧ w = w' := by
  have hc : w.cell? ⟨1, 0, none⟩ = some (.int .u8 0) := hb 0 (by omega)
  clear hb
  have e1 : bits .and .u32 1 4294967295 = 1 := by decide +kernel
  go_enter Tryz.func190, Tryz.ntmps190
  go_wp2_with fail
  go_ret
  exact ⟨rfl, rfl⟩
set_option maxRecDepth 100000 in
set_option maxHeartbeats 2000000 in
theorem tz_1 (w : World) (hb : Bru w) : Calls Tryz.prog 190 #[.int .u32 2] w fun e w' => e = .returned (.int .i64 1) ∧ w = w' := by
  have hc : w.cell? ⟨1, 1, none⟩ = some (.int .u8 1) := hb 1 (by omega)
  clear hb
  have e1 : bits .and .u32 2 4294967294 = 2 := by decide +kernel
  go_enter Tryz.func190, Tryz.ntmps190
  go_wp2_with fail
  go_ret
  exact ⟨rfl, rfl⟩
set_option maxRecDepth 100000 in
set_option maxHeartbeats 2000000 in
theorem tz_2 (w : World) (hb : Bru w) : Calls Tryz.prog 190 #[.int .u32 4] w fun e w' => e = .returned (.int .i64 2) ∧ w = w' := by
  have hc : w.cell? ⟨1, 3, none⟩ = some (.int .u8 2) := hb 3 (by omega)
  clear hb
  have e1 : bits .and .u32 4 4294967292 = 4 := by decide +kernel
  go_enter Tryz.func190, Tryz.ntmps190
  go_wp2_with fail
  go_ret
  exact ⟨rfl, rfl⟩
set_option maxRecDepth 100000 in
set_option maxHeartbeats 2000000 in
theorem tz_3 (w : World) (hb : Bru w) : Calls Tryz.prog 190 #[.int .u32 8] w fun e w' => e = .returned (.int .i64 3) ∧ w = w' := by
  have hc : w.cell? ⟨1, 7, none⟩ = some (.int .u8 3) := hb 7 (by omega)
  clear hb
  have e1 : bits .and .u32 8 4294967288 = 8 := by decide +kernel
  go_enter Tryz.func190, Tryz.ntmps190
  go_wp2_with fail
  go_ret
  exact ⟨rfl, rfl⟩
set_option maxRecDepth 100000 in
set_option maxHeartbeats 2000000 in
theorem tz_4 (w : World) (hb : Bru w) : Calls Tryz.prog 190 #[.int .u32 16] w fun e w' => e = .returned (.int .i64 4) ∧ w = w' := by
  have hc : w.cell? ⟨1, 14, none⟩ = some (.int .u8 4) := hb 14 (by omega)
  clear hb
  have e1 : bits .and .u32 16 4294967280 = 16 := by decide +kernel
  go_enter Tryz.func190, Tryz.ntmps190
  go_wp2_with fail
  go_ret
  exact ⟨rfl, rfl⟩
set_option maxRecDepth 100000 in
set_option maxHeartbeats 2000000 in
theorem tz_5 (w : World) (hb : Bru w) : Calls Tryz.prog 190 #[.int .u32 32] w fun e w' => e = .returned (.int .i64 5) ∧ w = w' := by
  have hc : w.cell? ⟨1, 29, none⟩ = some (.int .u8 5) := hb 29 (by omega)
  clear hb
  have e1 : bits .and .u32 32 4294967264 = 32 := by decide +kernel
  go_enter Tryz.func190, Tryz.ntmps190
  go_wp2_with fail
  go_ret
  exact ⟨rfl, rfl⟩
set_option maxRecDepth 100000 in
set_option maxHeartbeats 2000000 in
theorem tz_6 (w : World) (hb : Bru w) : Calls Tryz.prog 190 #[.int .u32 64] w fun e w' => e = .returned (.int .i64 6) ∧ w = w' := by
  have hc : w.cell? ⟨1, 27, none⟩ = some (.int .u8 6) := hb 27 (by omega)
  clear hb
  have e1 : bits .and .u32 64 4294967232 = 64 := by decide +kernel
  go_enter Tryz.func190, Tryz.ntmps190
  go_wp2_with fail
  go_ret
  exact ⟨rfl, rfl⟩
set_option maxRecDepth 100000 in
set_option maxHeartbeats 2000000 in
theorem tz_7 (w : World) (hb : Bru w) : Calls Tryz.prog 190 #[.int .u32 128] w fun e w' => e = .returned (.int .i64 7) ∧ w = w' := by
  have hc : w.cell? ⟨1, 23, none⟩ = some (.int .u8 7) := hb 23 (by omega)
  clear hb
  have e1 : bits .and .u32 128 4294967168 = 128 := by decide +kernel
  go_enter Tryz.func190, Tryz.ntmps190
  go_wp2_with fail
  go_ret
  exact ⟨rfl, rfl⟩
set_option maxRecDepth 100000 in
set_option maxHeartbeats 2000000 in
theorem tz_8 (w : World) (hb : Bru w) : Calls Tryz.prog 190 #[.int .u32 256] w fun e w' => e = .returned (.int .i64 8) ∧ w = w' := by
  have hc : w.cell? ⟨1, 15, none⟩ = some (.int .u8 8) := hb 15 (by omega)
  clear hb
  have e1 : bits .and .u32 256 4294967040 = 256 := by decide +kernel
  go_enter Tryz.func190, Tryz.ntmps190
  go_wp2_with fail
  go_ret
  exact ⟨rfl, rfl⟩
set_option maxRecDepth 100000 in
set_option maxHeartbeats 2000000 in
theorem tz_9 (w : World) (hb : Bru w) : Calls Tryz.prog 190 #[.int .u32 512] w fun e w' => e = .returned (.int .i64 9) ∧ w = w' := by
  have hc : w.cell? ⟨1, 31, none⟩ = some (.int .u8 9) := hb 31 (by omega)
  clear hb
  have e1 : bits .and .u32 512 4294966784 = 512 := by decide +kernel
  go_enter Tryz.func190, Tryz.ntmps190
  go_wp2_with fail
  go_ret
  exact ⟨rfl, rfl⟩
set_option maxRecDepth 100000 in
set_option maxHeartbeats 2000000 in
theorem tz_10 (w : World) (hb : Bru w) : Calls Tryz.prog 190 #[.int .u32 1024] w fun e w' => e = .returned (.int .i64 10) ∧ w = w' := by
  have hc : w.cell? ⟨1, 30, none⟩ = some (.int .u8 10) := hb 30 (by omega)
  clear hb
  have e1 : bits .and .u32 1024 4294966272 = 1024 := by decide +kernel
  go_enter Tryz.func190, Tryz.ntmps190
  go_wp2_with fail
  go_ret
  exact ⟨rfl, rfl⟩
set_option maxRecDepth 100000 in
set_option maxHeartbeats 2000000 in
theorem tz_11 (w : World) (hb : Bru w) : Calls Tryz.prog 190 #[.int .u32 2048] w fun e w' => e = .returned (.int .i64 11) ∧ w = w' := by
  have hc : w.cell? ⟨1, 28, none⟩ = some (.int .u8 11) := hb 28 (by omega)
  clear hb
  have e1 : bits .and .u32 2048 4294965248 = 2048 := by decide +kernel
  go_enter Tryz.func190, Tryz.ntmps190
  go_wp2_with fail
  go_ret
  exact ⟨rfl, rfl⟩
set_option maxRecDepth 100000 in
set_option maxHeartbeats 2000000 in
theorem tz_12 (w : World) (hb : Bru w) : Calls Tryz.prog 190 #[.int .u32 4096] w fun e w' => e = .returned (.int .i64 12) ∧ w = w' := by
  have hc : w.cell? ⟨1, 25, none⟩ = some (.int .u8 12) := hb 25 (by omega)
  clear hb
  have e1 : bits .and .u32 4096 4294963200 = 4096 := by decide +kernel
  go_enter Tryz.func190, Tryz.ntmps190
  go_wp2_with fail
  go_ret
  exact ⟨rfl, rfl⟩
set_option maxRecDepth 100000 in
set_option maxHeartbeats 2000000 in
theorem tz_13 (w : World) (hb : Bru w) : Calls Tryz.prog 190 #[.int .u32 8192] w fun e w' => e = .returned (.int .i64 13) ∧ w = w' := by
  have hc : w.cell? ⟨1, 18, none⟩ = some (.int .u8 13) := hb 18 (by omega)
  clear hb
  have e1 : bits .and .u32 8192 4294959104 = 8192 := by decide +kernel
  go_enter Tryz.func190, Tryz.ntmps190
  go_wp2_with fail
  go_ret
  exact ⟨rfl, rfl⟩
set_option maxRecDepth 100000 in
set_option maxHeartbeats 2000000 in
theorem tz_14 (w : World) (hb : Bru w) : Calls Tryz.prog 190 #[.int .u32 16384] w fun e w' => e = .returned (.int .i64 14) ∧ w = w' := by
  have hc : w.cell? ⟨1, 5, none⟩ = some (.int .u8 14) := hb 5 (by omega)
  clear hb
  have e1 : bits .and .u32 16384 4294950912 = 16384 := by decide +kernel
  go_enter Tryz.func190, Tryz.ntmps190
  go_wp2_with fail
  go_ret
  exact ⟨rfl, rfl⟩
set_option maxRecDepth 100000 in
set_option maxHeartbeats 2000000 in
theorem tz_15 (w : World) (hb : Bru w) : Calls Tryz.prog 190 #[.int .u32 32768] w fun e w' => e = .returned (.int .i64 15) ∧ w = w' := by
  have hc : w.cell? ⟨1, 11, none⟩ = some (.int .u8 15) := hb 11 (by omega)
  clear hb
  have e1 : bits .and .u32 32768 4294934528 = 32768 := by decide +kernel
  go_enter Tryz.func190, Tryz.ntmps190
  go_wp2_with fail
  go_ret
  exact ⟨rfl, rfl⟩
set_option maxRecDepth 100000 in
set_option maxHeartbeats 2000000 in
theorem tz_16 (w : World) (hb : Bru w) : Calls Tryz.prog 190 #[.int .u32 65536] w fun e w' => e = .returned (.int .i64 16) ∧ w = w' := by
  have hc : w.cell? ⟨1, 22, none⟩ = some (.int .u8 16) := hb 22 (by omega)
  clear hb
  have e1 : bits .and .u32 65536 4294901760 = 65536 := by decide +kernel
  go_enter Tryz.func190, Tryz.ntmps190
  go_wp2_with fail
  go_ret
  exact ⟨rfl, rfl⟩
set_option maxRecDepth 100000 in
set_option maxHeartbeats 2000000 in
theorem tz_17 (w : World) (hb : Bru w) : Calls Tryz.prog 190 #[.int .u32 131072] w fun e w' => e = .returned (.int .i64 17) ∧ w = w' := by
  have hc : w.cell? ⟨1, 13, none⟩ = some (.int .u8 17) := hb 13 (by omega)
  clear hb
  have e1 : bits .and .u32 131072 4294836224 = 131072 := by decide +kernel
  go_enter Tryz.func190, Tryz.ntmps190
  go_wp2_with fail
  go_ret
  exact ⟨rfl, rfl⟩
set_option maxRecDepth 100000 in
set_option maxHeartbeats 2000000 in
theorem tz_18 (w : World) (hb : Bru w) : Calls Tryz.prog 190 #[.int .u32 262144] w fun e w' => e = .returned (.int .i64 18) ∧ w = w' := by
  have hc : w.cell? ⟨1, 26, none⟩ = some (.int .u8 18) := hb 26 (by omega)
  clear hb
  have e1 : bits .and .u32 262144 4294705152 = 262144 := by decide +kernel
  go_enter Tryz.func190, Tryz.ntmps190
  go_wp2_with fail
  go_ret
  exact ⟨rfl, rfl⟩
set_option maxRecDepth 100000 in
set_option maxHeartbeats 2000000 in
theorem tz_19 (w : World) (hb : Bru w) : Calls Tryz.prog 190 #[.int .u32 524288] w fun e w' => e = .returned (.int .i64 19) ∧ w = w' := by
  have hc : w.cell? ⟨1, 21, none⟩ = some (.int .u8 19) := hb 21 (by omega)
  clear hb
  have e1 : bits .and .u32 524288 4294443008 = 524288 := by decide +kernel
  go_enter Tryz.func190, Tryz.ntmps190
  go_wp2_with fail
  go_ret
  exact ⟨rfl, rfl⟩
set_option maxRecDepth 100000 in
set_option maxHeartbeats 2000000 in
theorem tz_20 (w : World) (hb : Bru w) : Calls Tryz.prog 190 #[.int .u32 1048576] w fun e w' => e = .returned (.int .i64 20) ∧ w = w' := by
  have hc : w.cell? ⟨1, 10, none⟩ = some (.int .u8 20) := hb 10 (by omega)
  clear hb
  have e1 : bits .and .u32 1048576 4293918720 = 1048576 := by decide +kernel
  go_enter Tryz.func190, Tryz.ntmps190
  go_wp2_with fail
  go_ret
  exact ⟨rfl, rfl⟩
set_option maxRecDepth 100000 in
set_option maxHeartbeats 2000000 in
theorem tz_21 (w : World) (hb : Bru w) : Calls Tryz.prog 190 #[.int .u32 2097152] w fun e w' => e = .returned (.int .i64 21) ∧ w = w' := by
  have hc : w.cell? ⟨1, 20, none⟩ = some (.int .u8 21) := hb 20 (by omega)
  clear hb
  have e1 : bits .and .u32 2097152 4292870144 = 2097152 := by decide +kernel
  go_enter Tryz.func190, Tryz.ntmps190
  go_wp2_with fail
  go_ret
  exact ⟨rfl, rfl⟩
set_option maxRecDepth 100000 in
set_option maxHeartbeats 2000000 in
theorem tz_22 (w : World) (hb : Bru w) : Calls Tryz.prog 190 #[.int .u32 4194304] w fun e w' => e = .returned (.int .i64 22) ∧ w = w' := by
  have hc : w.cell? ⟨1, 9, none⟩ = some (.int .u8 22) := hb 9 (by omega)
  clear hb
  have e1 : bits .and .u32 4194304 4290772992 = 4194304 := by decide +kernel
  go_enter Tryz.func190, Tryz.ntmps190
  go_wp2_with fail
  go_ret
  exact ⟨rfl, rfl⟩
set_option maxRecDepth 100000 in
set_option maxHeartbeats 2000000 in
theorem tz_23 (w : World) (hb : Bru w) : Calls Tryz.prog 190 #[.int .u32 8388608] w fun e w' => e = .returned (.int .i64 23) ∧ w = w' := by
  have hc : w.cell? ⟨1, 19, none⟩ = some (.int .u8 23) := hb 19 (by omega)
  clear hb
  have e1 : bits .and .u32 8388608 4286578688 = 8388608 := by decide +kernel
  go_enter Tryz.func190, Tryz.ntmps190
  go_wp2_with fail
  go_ret
  exact ⟨rfl, rfl⟩
set_option maxRecDepth 100000 in
set_option maxHeartbeats 2000000 in
theorem tz_24 (w : World) (hb : Bru w) : Calls Tryz.prog 190 #[.int .u32 16777216] w fun e w' => e = .returned (.int .i64 24) ∧ w = w' := by
  have hc : w.cell? ⟨1, 6, none⟩ = some (.int .u8 24) := hb 6 (by omega)
  clear hb
  have e1 : bits .and .u32 16777216 4278190080 = 16777216 := by decide +kernel
  go_enter Tryz.func190, Tryz.ntmps190
  go_wp2_with fail
  go_ret
  exact ⟨rfl, rfl⟩
set_option maxRecDepth 100000 in
set_option maxHeartbeats 2000000 in
theorem tz_25 (w : World) (hb : Bru w) : Calls Tryz.prog 190 #[.int .u32 33554432] w fun e w' => e = .returned (.int .i64 25) ∧ w = w' := by
  have hc : w.cell? ⟨1, 12, none⟩ = some (.int .u8 25) := hb 12 (by omega)
  clear hb
  have e1 : bits .and .u32 33554432 4261412864 = 33554432 := by decide +kernel
  go_enter Tryz.func190, Tryz.ntmps190
  go_wp2_with fail
  go_ret
  exact ⟨rfl, rfl⟩
set_option maxRecDepth 100000 in
set_option maxHeartbeats 2000000 in
theorem tz_26 (w : World) (hb : Bru w) : Calls Tryz.prog 190 #[.int .u32 67108864] w fun e w' => e = .returned (.int .i64 26) ∧ w = w' := by
  have hc : w.cell? ⟨1, 24, none⟩ = some (.int .u8 26) := hb 24 (by omega)
  clear hb
  have e1 : bits .and .u32 67108864 4227858432 = 67108864 := by decide +kernel
  go_enter Tryz.func190, Tryz.ntmps190
  go_wp2_with fail
  go_ret
  exact ⟨rfl, rfl⟩
set_option maxRecDepth 100000 in
set_option maxHeartbeats 2000000 in
theorem tz_27 (w : World) (hb : Bru w) : Calls Tryz.prog 190 #[.int .u32 134217728] w fun e w' => e = .returned (.int .i64 27) ∧ w = w' := by
  have hc : w.cell? ⟨1, 17, none⟩ = some (.int .u8 27) := hb 17 (by omega)
  clear hb
  have e1 : bits .and .u32 134217728 4160749568 = 134217728 := by decide +kernel
  go_enter Tryz.func190, Tryz.ntmps190
  go_wp2_with fail
  go_ret
  exact ⟨rfl, rfl⟩
set_option maxRecDepth 100000 in
set_option maxHeartbeats 2000000 in
theorem tz_28 (w : World) (hb : Bru w) : Calls Tryz.prog 190 #[.int .u32 268435456] w fun e w' => e = .returned (.int .i64 28) ∧ w = w' := by
  have hc : w.cell? ⟨1, 2, none⟩ = some (.int .u8 28) := hb 2 (by omega)
  clear hb
  have e1 : bits .and .u32 268435456 4026531840 = 268435456 := by decide +kernel
  go_enter Tryz.func190, Tryz.ntmps190
  go_wp2_with fail
  go_ret
  exact ⟨rfl, rfl⟩
set_option maxRecDepth 100000 in
set_option maxHeartbeats 2000000 in
theorem tz_29 (w : World) (hb : Bru w) : Calls Tryz.prog 190 #[.int .u32 536870912] w fun e w' => e = .returned (.int .i64 29) ∧ w = w' := by
  have hc : w.cell? ⟨1, 4, none⟩ = some (.int .u8 29) := hb 4 (by omega)
  clear hb
  have e1 : bits .and .u32 536870912 3758096384 = 536870912 := by decide +kernel
  go_enter Tryz.func190, Tryz.ntmps190
  go_wp2_with fail
  go_ret
  exact ⟨rfl, rfl⟩
set_option maxRecDepth 100000 in
set_option maxHeartbeats 2000000 in
theorem tz_30 (w : World) (hb : Bru w) : Calls Tryz.prog 190 #[.int .u32 1073741824] w fun e w' => e = .returned (.int .i64 30) ∧ w = w' := by
  have hc : w.cell? ⟨1, 8, none⟩ = some (.int .u8 30) := hb 8 (by omega)
  clear hb
  have e1 : bits .and .u32 1073741824 3221225472 = 1073741824 := by decide +kernel
  go_enter Tryz.func190, Tryz.ntmps190
  go_wp2_with fail
  go_ret
  exact ⟨rfl, rfl⟩
set_option maxRecDepth 100000 in
set_option maxHeartbeats 2000000 in
theorem tz_31 (w : World) (hb : Bru w) : Calls Tryz.prog 190 #[.int .u32 2147483648] w fun e w' => e = .returned (.int .i64 31) ∧ w = w' := by
  have hc : w.cell? ⟨1, 16, none⟩ = some (.int .u8 31) := hb 16 (by omega)
  clear hb
  have e1 : bits .and .u32 2147483648 2147483648 = 2147483648 := by decide +kernel
  go_enter Tryz.func190, Tryz.ntmps190
  go_wp2_with fail
  go_ret
  exact ⟨rfl, rfl⟩
theorem tz_any (k : Nat) (hk : k < 32) (w : World) (hb : Bru w) : Calls Tryz.prog 190 #[.int .u32 (2 ^ k)] w fun e w' => e = .returned (.int .i64 k) ∧ w = w' := by
  match k, hk with
  | 0, _ => exact tz_0 w hb
  | 1, _ => exact tz_1 w hb
  | 2, _ => exact tz_2 w hb
  | 3, _ => exact tz_3 w hb
  | 4, _ => exact tz_4 w hb
  | 5, _ => exact tz_5 w hb
  | 6, _ => exact tz_6 w hb
  | 7, _ => exact tz_7 w hb
  | 8, _ => exact tz_8 w hb
  | 9, _ => exact tz_9 w hb
  | 10, _ => exact tz_10 w hb
  | 11, _ => exact tz_11 w hb
  | 12, _ => exact tz_12 w hb
  | 13, _ => exact tz_13 w hb
  | 14, _ => exact tz_14 w hb
  | 15, _ => exact tz_15 w hb
  | 16, _ => exact tz_16 w hb
  | 17, _ => exact tz_17 w hb
  | 18, _ => exact tz_18 w hb
  | 19, _ => exact tz_19 w hb
  | 20, _ => exact tz_20 w hb
  | 21, _ => exact tz_21 w hb
  | 22, _ => exact tz_22 w hb
  | 23, _ => exact tz_23 w hb
  | 24, _ => exact tz_24 w hb
  | 25, _ => exact tz_25 w hb
  | 26, _ => exact tz_26 w hb
  | 27, _ => exact tz_27 w hb
  | 28, _ => exact tz_28 w hb
  | 29, _ => exact tz_29 w hb
  | 30, _ => exact tz_30 w hb
  | 31, _ => exact tz_31 w hb
  | (k + 32), hk => omega
theorem pop_facts : ∀ n : Fin 256, 0 ≤ Lib.pop8 (n.val : Int) ∧ Lib.pop8 (n.val : Int) ≤ 8 ∧ (Lib.pop8 (n.val : Int) = 0 → n.val = 0) ∧ (Lib.pop8 (n.val : Int) = 1 → n.val = 1 ∨ n.val = 2 ∨ n.val = 4 ∨ n.val = 8 ∨ n.val = 16 ∨ n.val = 32 ∨ n.val = 64 ∨ n.val = 128) := by decide +kernel
theorem pop_fact (b : Int) (h0 : 0 ≤ b) (h1 : b < 256) : 0 ≤ Lib.pop8 b ∧ Lib.pop8 b ≤ 8 ∧ (Lib.pop8 b = 0 → b = 0) ∧ (Lib.pop8 b = 1 → b = 1 ∨ b = 2 ∨ b = 4 ∨ b = 8 ∨ b = 16 ∨ b = 32 ∨ b = 64 ∨ b = 128) := by
  obtain ⟨n, rfl⟩ := Int.eq_ofNat_of_zero_le h0
  have h := pop_facts ⟨n, by omega⟩
  simp only at h
  refine ⟨h.1, h.2.1, fun e => by have := h.2.2.1 e; omega, fun e => by have := h.2.2.2 e; omega⟩
theorem ones_pow : ∀ k : Fin 32, onesS (2 ^ k.val) = 1 := by decide +kernel
theorem pow_list (x : Int) (h : x = 1 ∨ x = 2 ∨ x = 4 ∨ x = 8 ∨ x = 16 ∨ x = 32 ∨ x = 64 ∨ x = 128) : ∃ k : Nat, k < 8 ∧ x = 2 ^ k := by
  rcases h with h | h | h | h | h | h | h | h
  · exact ⟨0, by omega, h⟩
  · exact ⟨1, by omega, h⟩
  · exact ⟨2, by omega, h⟩
  · exact ⟨3, by omega, h⟩
  · exact ⟨4, by omega, h⟩
  · exact ⟨5, by omega, h⟩
  · exact ⟨6, by omega, h⟩
  · exact ⟨7, by omega, h⟩
theorem ones_one {x : Int} (h0 : 0 ≤ x) (h1 : x < 4294967296) (h : onesS x = 1) : ∃ k : Nat, k < 32 ∧ x = 2 ^ k := by
  have p3 := pop_fact (x / 16777216) (by omega) (by omega)
  have p2 := pop_fact (x / 65536 % 256) (by omega) (by omega)
  have p1 := pop_fact (x / 256 % 256) (by omega) (by omega)
  have p0 := pop_fact (x % 256) (by omega) (by omega)
  unfold onesS at h
  generalize Lib.pop8 (x / 16777216) = a3 at *
  generalize Lib.pop8 (x / 65536 % 256) = a2 at *
  generalize Lib.pop8 (x / 256 % 256) = a1 at *
  generalize Lib.pop8 (x % 256) = a0 at *
  obtain ⟨l3, u3, z3, o3⟩ := p3
  obtain ⟨l2, u2, z2, o2⟩ := p2
  obtain ⟨l1, u1, z1, o1⟩ := p1
  obtain ⟨l0, u0, z0, o0⟩ := p0
  have hs : a3 + a2 + a1 + a0 = 1 := by omega
  have hc : (a3 = 1 ∧ a2 = 0 ∧ a1 = 0 ∧ a0 = 0) ∨ (a3 = 0 ∧ a2 = 1 ∧ a1 = 0 ∧ a0 = 0) ∨ (a3 = 0 ∧ a2 = 0 ∧ a1 = 1 ∧ a0 = 0) ∨ (a3 = 0 ∧ a2 = 0 ∧ a1 = 0 ∧ a0 = 1) := by omega
  rcases hc with ⟨e3, e2, e1, e0⟩ | ⟨e3, e2, e1, e0⟩ | ⟨e3, e2, e1, e0⟩ | ⟨e3, e2, e1, e0⟩
  · obtain ⟨k, hk, hx⟩ := pow_list _ (o3 e3)
    have q2 := z2 e2; have q1 := z1 e1; have q0 := z0 e0
    exact ⟨k + 24, by omega, by rw [Int.pow_add, ← hx]; omega⟩
  · obtain ⟨k, hk, hx⟩ := pow_list _ (o2 e2)
    have q3 := z3 e3; have q1 := z1 e1; have q0 := z0 e0
    exact ⟨k + 16, by omega, by rw [Int.pow_add, ← hx]; omega⟩
  · obtain ⟨k, hk, hx⟩ := pow_list _ (o1 e1)
    have q3 := z3 e3; have q2 := z2 e2; have q0 := z0 e0
    exact ⟨k + 8, by omega, by rw [Int.pow_add, ← hx]; omega⟩
  · obtain ⟨k, hk, hx⟩ := pow_list _ (o0 e0)
    have q3 := z3 e3; have q2 := z2 e2; have q1 := z1 e1
    exact ⟨k, by omega, by rw [← hx]; omega⟩
end Go.Proofs.YtajholbcpmjhiaaGreatDoor
/- Windows: what is beside one, its WIM, which is invalid. -/
namespace Go.Proofs.YtajholbcpmjhiaaGreatDoor
open Go.RowKit
set_option linter.unusedVariables false
set_option linter.unusedSimpArgs false
def okW (x nw : Int) : Prop := winP nw ∧ 0 ≤ x ∧ x < nw
instance (x nw : Int) : Decidable (okW x nw) := by unfold okW; infer_instance
def stepV (x by' nw : Int) : Int := if okW x nw then (x + by') % nw else 0
def okE (x nw : Int) : Int := if okW x nw then 0 else 2
def wimV (x nw : Int) : Int := if okW x nw then 2 ^ x.toNat else 0
/-- The window whose WIM it is. -/
def invO (wim nw : Int) : Option Nat := (List.range nw.toNat).find? fun k => decide (wim = 2 ^ k)
def invV (wim nw : Int) : Int := if winP nw then (match invO wim nw with | some k => (k : Int) | none => 0) else 0
def invE (wim nw : Int) : Int := if winP nw then (match invO wim nw with | some _ => 0 | none => 5) else 2
theorem pow_inj {a b : Nat} (h : (2 : Int) ^ a = 2 ^ b) : a = b := by
  have h2 : (2 : Nat) ^ a = 2 ^ b := by exact_mod_cast h
  rcases Nat.lt_trichotomy a b with hl | hl | hl
  · have := Nat.pow_lt_pow_right (a := 2) (by omega) hl; omega
  · exact hl
  · have := Nat.pow_lt_pow_right (a := 2) (by omega) hl; omega
theorem inv_some {wim nw : Int} {k : Nat} (h : wim = 2 ^ k) (hk : (k : Int) < nw) : invO wim nw = some k := by
  unfold invO
  rw [List.find?_eq_some_iff_append]
  refine ⟨by simpa using h, List.range k, (List.range (nw.toNat - (k + 1))).map (· + (k + 1)), ?_, ?_⟩
  · have e : nw.toNat = (k + 1) + (nw.toNat - (k + 1)) := by omega
    rw [e, List.range_add, List.range_succ]
    simp [Nat.add_comm]
  · intro a ha
    simp only [List.mem_range] at ha
    simp only [Bool.not_eq_true', decide_eq_false_iff_not]
    intro e
    have := pow_inj (h.symm.trans e)
    omega
theorem inv_none {wim nw : Int} (h : ∀ k : Nat, (k : Int) < nw → wim ≠ 2 ^ k) : invO wim nw = none := by
  unfold invO
  rw [List.find?_eq_none]
  intro k hk
  simp only [List.mem_range] at hk
  simpa using h k (by omega)
set_option maxHeartbeats 1000000 in
theorem step_any (x by' nw : Int) (hby : winP nw → 0 ≤ by' ∧ by' ≤ 32) (w : World) : Calls Tryz.prog 213 #[.int .i64 x, .int .i64 by', .int .i64 nw] w fun e w' => e = .returned (.tuple #[.int .i64 (stepV x by' nw), .int .i64 (okE x nw)]) ∧ Below w.heap.size w w' := by
  have hq := windows_any nw
  by_cases hw : winP nw
  · rw [decide_eq_true hw] at hq
    have H1 := phid hq
    have hbl := fun W => below_any [x, nw] 1 w.heap.size (by omega) rfl W
    rw [below2_eq] at hbl
    have hb2 := hby hw
    obtain ⟨hw1, hw2⟩ := hw
    by_cases hx : 0 ≤ x ∧ x < nw
    · rw [decide_eq_true hx] at hbl
      have HB := phid hbl
      have hok : okW x nw := ⟨⟨hw1, hw2⟩, hx⟩
      have E := phid (show stepV x by' nw = (x + by') % nw ∧ okE x nw = 0 from ⟨if_pos hok, if_pos hok⟩)
      have hs : 0 ≤ x + by' ∧ x + by' ≤ 64 := by omega
      clear hbl hby hq hok
      go_enter Tryz.func213, Tryz.ntmps213
      go_wp2_with fail
      refine (H1.out _).mono ?_
      rintro e w' ⟨rfl, rfl⟩
      go_wp2_with fail
      refine (HB.out _ ?_).mono ?_
      · intro k hk
        have : k = 0 ∨ k = 1 := by simp at hk; omega
        rcases this with rfl | rfl <;> simp [go_sem]
      rintro e w' ⟨rfl, hB⟩
      have HBB := phid hB
      clear hB
      go_wp2_with fail
      go_ret2
      exact ⟨pret2 E.out.1.symm E.out.2.symm, pbt (pbal _ _) HBB.out⟩
    · rw [decide_eq_false hx] at hbl
      have HB := phid hbl
      have hok : ¬ okW x nw := fun h => hx h.2
      have E := phid (show stepV x by' nw = 0 ∧ okE x nw = 2 from ⟨if_neg hok, if_neg hok⟩)
      clear hbl hby hq hok hx
      go_enter Tryz.func213, Tryz.ntmps213
      go_wp2_with fail
      refine (H1.out _).mono ?_
      rintro e w' ⟨rfl, rfl⟩
      go_wp2_with fail
      refine (HB.out _ ?_).mono ?_
      · intro k hk
        have : k = 0 ∨ k = 1 := by simp at hk; omega
        rcases this with rfl | rfl <;> simp [go_sem]
      rintro e w' ⟨rfl, hB⟩
      have HBB := phid hB
      clear hB
      go_wp2_with fail
      go_ret2
      exact ⟨pret2 E.out.1.symm E.out.2.symm, pbt (pbal _ _) HBB.out⟩
  · rw [decide_eq_false hw] at hq
    have H1 := phid hq
    have hok : ¬ okW x nw := fun h => hw h.1
    have E := phid (show stepV x by' nw = 0 ∧ okE x nw = 2 from ⟨if_neg hok, if_neg hok⟩)
    clear hby hq hok hw
    go_enter Tryz.func213, Tryz.ntmps213
    go_wp2_with fail
    refine (H1.out _).mono ?_
    rintro e w' ⟨rfl, rfl⟩
    go_wp2_with fail
    go_ret2
    exact ⟨pret2 E.out.1.symm E.out.2.symm, Below.refl _ _⟩
theorem pnext_any (x nw : Int) (w : World) : Calls Tryz.prog 199 #[.int .i64 x, .int .i64 nw] w fun e w' => e = .returned (.tuple #[.int .i64 (stepV x 1 nw), .int .i64 (okE x nw)]) ∧ Below w.heap.size w w' := by
  have H := phid (step_any x 1 nw (fun _ => by omega))
  go_enter Tryz.func199, Tryz.ntmps199
  go_wp2_with fail
  refine (H.out _).mono ?_
  rintro e w' ⟨rfl, hB⟩
  have HB := phid hB
  clear hB
  go_wp2_with fail
  go_ret2
  exact ⟨rfl, HB.out⟩
theorem ahead_any (x nw : Int) (w : World) : Calls Tryz.prog 197 #[.int .i64 x, .int .i64 nw] w fun e w' => e = .returned (.tuple #[.int .i64 (stepV x (nw - 1) nw), .int .i64 (okE x nw)]) ∧ Below w.heap.size w w' := by
  have hin : winP nw → wrap64 (nw - 1) = nw - 1 := fun h => by have h1 := h.1; have h2 := h.2; rw [IntWalk.wrap64_in _ (by omega)]
  have hs := step_any x (wrap64 (nw - 1)) nw (fun h => by have h1 := h.1; have h2 := h.2; rw [hin h]; omega)
  have he : stepV x (wrap64 (nw - 1)) nw = stepV x (nw - 1) nw := by
    unfold stepV
    by_cases h : okW x nw
    · rw [if_pos h, if_pos h, hin h.1]
    · rw [if_neg h, if_neg h]
  rw [he] at hs
  have H := phid hs
  clear hs he hin
  go_enter Tryz.func197, Tryz.ntmps197
  go_wp2_with fail
  refine (H.out _).mono ?_
  rintro e w' ⟨rfl, hB⟩
  have HB := phid hB
  clear hB
  go_wp2_with fail
  go_ret2
  exact ⟨rfl, HB.out⟩
set_option maxHeartbeats 1000000 in
theorem wim_any (x nw : Int) (w : World) : Calls Tryz.prog 82 #[.int .i64 x, .int .i64 nw] w fun e w' => e = .returned (.tuple #[.int .u32 (wimV x nw), .int .i64 (okE x nw)]) ∧ Below w.heap.size w w' := by
  have hq := windows_any nw
  by_cases hw : winP nw
  · rw [decide_eq_true hw] at hq
    have H1 := phid hq
    have hbl := fun W => below_any [x, nw] 1 w.heap.size (by omega) rfl W
    rw [below2_eq] at hbl
    obtain ⟨hw1, hw2⟩ := hw
    by_cases hx : 0 ≤ x ∧ x < nw
    · rw [decide_eq_true hx] at hbl
      have HB := phid hbl
      have hok : okW x nw := ⟨⟨hw1, hw2⟩, hx⟩
      have E := phid (show wimV x nw = 2 ^ x.toNat ∧ okE x nw = 0 from ⟨if_pos hok, if_pos hok⟩)
      have hp : (2 : Int) ^ x.toNat % 4294967296 = 2 ^ x.toNat := by
        have h1 : 2 ^ x.toNat ≤ 2 ^ 31 := Nat.pow_le_pow_right (by omega) (by omega)
        have h2 : (2 : Int) ^ x.toNat = ((2 ^ x.toNat : Nat) : Int) := by simp
        rw [h2]
        generalize 2 ^ x.toNat = p at h1 ⊢
        omega
      have HP := phid hp
      have hx2 : x < 32 := by omega
      clear hbl hq hok hp
      go_enter Tryz.func82, Tryz.ntmps82
      go_wp2_with fail
      refine (H1.out _).mono ?_
      rintro e w' ⟨rfl, rfl⟩
      go_wp2_with fail
      refine (HB.out _ ?_).mono ?_
      · intro k hk
        have : k = 0 ∨ k = 1 := by simp at hk; omega
        rcases this with rfl | rfl <;> simp [go_sem]
      rintro e w' ⟨rfl, hB⟩
      have HBB := phid hB
      clear hB
      go_wp2_with fail
      go_ret2
      exact ⟨pret2 (by first | exact E.out.1.symm | (rw [E.out.1]; exact HP.out) | (rw [E.out.1]; simpa using HP.out)) E.out.2.symm, pbt (pbal _ _) HBB.out⟩
    · rw [decide_eq_false hx] at hbl
      have HB := phid hbl
      have hok : ¬ okW x nw := fun h => hx h.2
      have E := phid (show wimV x nw = 0 ∧ okE x nw = 2 from ⟨if_neg hok, if_neg hok⟩)
      clear hbl hq hok hx
      go_enter Tryz.func82, Tryz.ntmps82
      go_wp2_with fail
      refine (H1.out _).mono ?_
      rintro e w' ⟨rfl, rfl⟩
      go_wp2_with fail
      refine (HB.out _ ?_).mono ?_
      · intro k hk
        have : k = 0 ∨ k = 1 := by simp at hk; omega
        rcases this with rfl | rfl <;> simp [go_sem]
      rintro e w' ⟨rfl, hB⟩
      have HBB := phid hB
      clear hB
      go_wp2_with fail
      go_ret2
      exact ⟨pret2 E.out.1.symm E.out.2.symm, pbt (pbal _ _) HBB.out⟩
  · rw [decide_eq_false hw] at hq
    have H1 := phid hq
    have hok : ¬ okW x nw := fun h => hw h.1
    have E := phid (show wimV x nw = 0 ∧ okE x nw = 2 from ⟨if_neg hok, if_neg hok⟩)
    clear hq hok hw
    go_enter Tryz.func82, Tryz.ntmps82
    go_wp2_with fail
    refine (H1.out _).mono ?_
    rintro e w' ⟨rfl, rfl⟩
    go_wp2_with fail
    go_ret2
    exact ⟨pret2 E.out.1.symm E.out.2.symm, Below.refl _ _⟩
set_option maxHeartbeats 1000000 in
theorem invalid_any (wim nw : Int) (h0 : 0 ≤ wim) (h1 : wim < 4294967296) (w : World) (hb : Bru w) : Calls Tryz.prog 125 #[.int .u32 wim, .int .i64 nw] w fun e w' => e = .returned (.tuple #[.int .i64 (invV wim nw), .int .i64 (invE wim nw)]) ∧ Below w.heap.size w w' := by
  have hq := windows_any nw
  have BR := phid hb
  clear hb
  by_cases hw : winP nw
  · rw [decide_eq_true hw] at hq
    have H1 := phid hq
    have ho := ones_any wim h0 h1
    obtain ⟨hw1, hw2⟩ := hw
    by_cases hp : ∃ k : Nat, k < 32 ∧ wim = 2 ^ k
    · obtain ⟨k, hk, rfl⟩ := hp
      rw [show onesS (2 ^ k) = 1 from ones_pow ⟨k, hk⟩] at ho
      have HO := phid ho
      have HT := phid (tz_any k hk)
      clear hq ho
      by_cases hkn : (k : Int) < nw
      · have hi := inv_some (wim := 2 ^ k) (nw := nw) rfl hkn
        have E := phid (show invV (2 ^ k) nw = k ∧ invE (2 ^ k) nw = 0 from ⟨by unfold invV; rw [if_pos ⟨hw1, hw2⟩, hi], by unfold invE; rw [if_pos ⟨hw1, hw2⟩, hi]⟩)
        have hd : decide (nw ≤ (k : Int)) = false := by simp; omega
        clear hi
        generalize (2 : Int) ^ k = p at *
        go_enter Tryz.func125, Tryz.ntmps125
        go_wp2_with fail
        refine (H1.out _).mono ?_
        rintro e w' ⟨rfl, rfl⟩
        go_wp2_with fail
        refine (HO.out _).mono ?_
        rintro e w1 ⟨rfl, hB⟩
        have HB := phid hB
        clear hB
        go_wp2_with fail
        refine (HT.out _ (BR.out.keep HB.out)).mono ?_
        rintro e w' ⟨rfl, rfl⟩
        go_wp2_with fail
        refine (HT.out _ (BR.out.keep HB.out)).mono ?_
        rintro e w' ⟨rfl, rfl⟩
        go_wp2_with fail
        go_ret2
        exact ⟨pret2 E.out.1.symm E.out.2.symm, HB.out⟩
      · have hi : invO (2 ^ k) nw = none := inv_none (fun j hj e => by have := pow_inj e; omega)
        have E := phid (show invV (2 ^ k) nw = 0 ∧ invE (2 ^ k) nw = 5 from ⟨by unfold invV; rw [if_pos ⟨hw1, hw2⟩, hi], by unfold invE; rw [if_pos ⟨hw1, hw2⟩, hi]⟩)
        have hd : decide (nw ≤ (k : Int)) = true := by simp; omega
        clear hi hkn
        generalize (2 : Int) ^ k = p at *
        go_enter Tryz.func125, Tryz.ntmps125
        go_wp2_with fail
        refine (H1.out _).mono ?_
        rintro e w' ⟨rfl, rfl⟩
        go_wp2_with fail
        refine (HO.out _).mono ?_
        rintro e w1 ⟨rfl, hB⟩
        have HB := phid hB
        clear hB
        go_wp2_with fail
        refine (HT.out _ (BR.out.keep HB.out)).mono ?_
        rintro e w' ⟨rfl, rfl⟩
        go_wp2_with fail
        go_ret2
        exact ⟨pret2 E.out.1.symm E.out.2.symm, HB.out⟩
    · have hne : (onesS wim != 1) = true := by
        have : onesS wim ≠ 1 := fun e => hp (ones_one h0 h1 e)
        simpa using this
      have hi : invO wim nw = none := inv_none (fun j hj e => hp ⟨j, by omega, e⟩)
      have E := phid (show invV wim nw = 0 ∧ invE wim nw = 5 from ⟨by unfold invV; rw [if_pos ⟨hw1, hw2⟩, hi], by unfold invE; rw [if_pos ⟨hw1, hw2⟩, hi]⟩)
      have HO := phid ho
      clear hq ho hi hp
      generalize onesS wim = o at *
      go_enter Tryz.func125, Tryz.ntmps125
      go_wp2_with fail
      refine (H1.out _).mono ?_
      rintro e w' ⟨rfl, rfl⟩
      go_wp2_with fail
      refine (HO.out _).mono ?_
      rintro e w1 ⟨rfl, hB⟩
      have HB := phid hB
      clear hB
      go_wp2_with fail
      go_ret2
      exact ⟨pret2 E.out.1.symm E.out.2.symm, HB.out⟩
  · rw [decide_eq_false hw] at hq
    have H1 := phid hq
    have E := phid (show invV wim nw = 0 ∧ invE wim nw = 2 from ⟨if_neg hw, if_neg hw⟩)
    clear hq hw
    go_enter Tryz.func125, Tryz.ntmps125
    go_wp2_with fail
    refine (H1.out _).mono ?_
    rintro e w' ⟨rfl, rfl⟩
    go_wp2_with fail
    go_ret2
    exact ⟨pret2 E.out.1.symm E.out.2.symm, Below.refl _ _⟩
end Go.Proofs.YtajholbcpmjhiaaGreatDoor
