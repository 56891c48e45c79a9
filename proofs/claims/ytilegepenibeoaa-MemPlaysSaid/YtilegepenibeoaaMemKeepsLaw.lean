/- The plain law of muntinlaw05.MemKeeps: what bytes a store changes. -/
import Derived.Test.YtilegepenibeoaaMemLoad
namespace Go.Proofs.Ytilegepenibeoaa
open Go.RowKit
set_option linter.unusedVariables false
def dI (n k : Nat) : List Int := (List.range n).map fun i => if i < k then (3 * (i : Int) + 1) % 256 else 0
theorem dI_len (n k : Nat) : (dI n k).length = n := by simp [dI]
theorem dI_zero (n : Nat) : dI n 0 = List.replicate n 0 := by
  apply List.ext_getElem <;> simp [dI]
theorem dI_set (n k : Nat) (h : k < n) : (dI n k).set k ((3 * (k : Int) + 1) % 256) = dI n (k + 1) := by
  apply List.ext_getElem
  · simp [dI]
  · intro i h1 h2
    simp [dI, List.getElem_set]
    by_cases e : k = i
    · subst e; simp
    · simp only [e, if_false]
      by_cases l : i < k
      · rw [if_pos l, if_pos (by omega)]
      · rw [if_neg l, if_neg (by omega)]
theorem dI_at (n i : Nat) (h : i < n) : (dI n n).getD i 0 = (3 * (i : Int) + 1) % 256 := by
  simp [dI, List.getD_eq_getElem?_getD, h]
theorem dI_bytes (n k : Nat) : Bytes (dI n k) := by
  intro x hx
  obtain ⟨i, _, rfl⟩ := List.mem_map.1 hx
  split <;> omega
theorem spanE_byte (n i : Nat) (h : i < n) : spanE n i 1 1 = 0 := by
  unfold spanE; rw [if_neg (by omega), if_neg (by omega), if_neg (by omega)]
theorem loadV_byte (d : List Int) (i : Nat) (h : i < d.length) : loadV d i 1 = d.getD i 0 := by
  unfold loadV; rw [if_pos (spanE_byte _ _ h)]; simp [loadS]
theorem storeV_init (n k : Nat) (h : k < n) : storeV (dI n k) k 1 (3 * (k : Int) + 1) = dI n (k + 1) := by
  unfold storeV; rw [dI_len, if_pos (spanE_byte _ _ h), ← dI_set n k h]; simp [storeS]
theorem getD_set_ne (d : List Int) (i j : Nat) (x : Int) (h : i ≠ j) : (d.set i x).getD j 0 = d.getD j 0 := by
  simp [List.getD_eq_getElem?_getD, h]
theorem getD_set_eq (d : List Int) (i : Nat) (x : Int) (h : i < d.length) : (d.set i x).getD i 0 = x := by
  simp [List.getD_eq_getElem?_getD, h]
/-- A byte beside what was stored. -/
theorem byte_out (d : List Int) (a many x : Int) (i : Nat) (ha : 0 ≤ a) (hm : many = 1 ∨ many = 4) (h : ¬ (spanE d.length a 1 many = 0 ∧ a ≤ i ∧ (i : Int) < a + many)) : (storeV d a many x).getD i 0 = d.getD i 0 := by
  unfold storeV
  split
  · rename_i h0
    have hi : ¬ (a ≤ i ∧ (i : Int) < a + many) := fun k => h ⟨h0, k.1, k.2⟩
    rcases hm with rfl | rfl
    · simp only [storeS]; rw [if_neg (by omega), getD_set_ne _ _ _ _ (by omega)]
    · simp only [storeS]; rw [if_pos (by omega), getD_set_ne _ _ _ _ (by omega), getD_set_ne _ _ _ _ (by omega), getD_set_ne _ _ _ _ (by omega), getD_set_ne _ _ _ _ (by omega)]
  · rfl
theorem byte_in1 (d : List Int) (a x : Int) (i : Nat) (ha : 0 ≤ a) (h : spanE d.length a 1 1 = 0) (hi : (i : Int) - a = 0) : (storeV d a 1 x).getD i 0 = x % 256 := by
  have h5 := (spanE_ok h ha).2.2.2
  unfold storeV; rw [if_pos h]
  obtain rfl : i = a.toNat := by omega
  simp only [storeS]; rw [if_neg (by omega), getD_set_eq _ _ _ (by omega)]
theorem byte_in4 (d : List Int) (a x : Int) (i j : Nat) (ha : 0 ≤ a) (h : spanE d.length a 1 4 = 0) (hj : j < 4) (hi : (i : Int) - a = j) : (storeV d a 4 x).getD i 0 = x / 256 ^ (3 - j) % 256 := by
  have h5 := (spanE_ok h ha).2.2.2
  unfold storeV; rw [if_pos h]
  obtain rfl : i = a.toNat + j := by omega
  simp only [storeS]; rw [if_pos (by omega)]
  have hl : a.toNat + 3 < d.length := by omega
  have hc : j = 0 ∨ j = 1 ∨ j = 2 ∨ j = 3 := by omega
  rcases hc with rfl | rfl | rfl | rfl
  · show List.getD _ a.toNat 0 = _
    rw [getD_set_eq _ _ _ (by simp; omega)]; (try simp)
  · rw [getD_set_ne _ _ _ _ (by omega), getD_set_eq _ _ _ (by simp; omega)]; (try simp)
  · rw [getD_set_ne _ _ _ _ (by omega), getD_set_ne _ _ _ _ (by omega), getD_set_eq _ _ _ (by simp; omega)]; (try simp)
  · rw [getD_set_ne _ _ _ _ (by omega), getD_set_ne _ _ _ _ (by omega), getD_set_ne _ _ _ _ (by omega), getD_set_eq _ _ _ hl]; (try simp)
theorem storeV_len (d : List Int) (a many x : Int) : (storeV d a many x).length = d.length := by unfold storeV; split <;> simp [storeS_len]
theorem back1 (d : List Int) (a x : Int) (ha : 0 ≤ a) (h : spanE d.length a 1 1 = 0) : loadV (storeV d a 1 x) a 1 = x % 256 := by
  have h5 := (spanE_ok h ha).2.2.2
  have hb := byte_in1 d a x a.toNat ha h (by omega)
  unfold loadV; rw [storeV_len, if_pos h]; simp only [loadS]; rw [if_neg (by omega)]; exact hb
theorem back4 (d : List Int) (a x : Int) (ha : 0 ≤ a) (hx : 0 ≤ x) (hx2 : x < 4294967296) (h : spanE d.length a 1 4 = 0) : loadV (storeV d a 4 x) a 4 = x := by
  have h5 := (spanE_ok h ha).2.2.2
  have b0 := byte_in4 d a x a.toNat 0 ha h (by omega) (by omega)
  have b1 := byte_in4 d a x (a.toNat + 1) 1 ha h (by omega) (by omega)
  have b2 := byte_in4 d a x (a.toNat + 2) 2 ha h (by omega) (by omega)
  have b3 := byte_in4 d a x (a.toNat + 3) 3 ha h (by omega) (by omega)
  unfold loadV; rw [storeV_len, if_pos h]; simp only [loadS]; rw [if_pos (by omega), b0, b1, b2, b3]
  simp; omega
end Go.Proofs.Ytilegepenibeoaa
