/- The plain law of muntinlaw05.MemApart and MemWords: words stored apart, rows put at once. -/
import Derived.Test.YtilegepenibeoaaMemKeepsLaw
import Derived.Test.YtilegepenibeoaaMemWords
namespace Go.Proofs.Ytilegepenibeoaa
open Go.RowKit
set_option linter.unusedVariables false
theorem spanE_word (n a : Nat) (h : a % 4 = 0) (h2 : a + 4 ≤ n) : spanE n a 1 4 = 0 := by
  unfold spanE; rw [if_neg (by omega), if_neg (by omega), if_neg (by omega)]
theorem storeV_word (d : List Int) (a : Nat) (x : Int) (h : a % 4 = 0) (h2 : a + 4 ≤ d.length) : storeV d a 4 x = storeS d a 4 x := by
  unfold storeV; rw [if_pos (spanE_word _ _ h h2)]; rfl
theorem loadV_word (d : List Int) (a : Nat) (h : a % 4 = 0) (h2 : a + 4 ≤ d.length) : loadV d a 4 = loadS d a 4 := by
  unfold loadV; rw [if_pos (spanE_word _ _ h h2)]; rfl
theorem store_byte_in (d : List Int) (a j : Nat) (x : Int) (hj : j < 4) (h2 : a + 4 ≤ d.length) : (storeS d a 4 x).getD (a + j) 0 = x / 256 ^ (3 - j) % 256 := by
  simp only [storeS]; rw [if_pos trivial]
  have hc : j = 0 ∨ j = 1 ∨ j = 2 ∨ j = 3 := by omega
  rcases hc with rfl | rfl | rfl | rfl
  · show List.getD _ a 0 = _
    rw [getD_set_eq _ _ _ (by simp; omega)]; (try simp)
  · rw [getD_set_ne _ _ _ _ (by omega), getD_set_eq _ _ _ (by simp; omega)]; (try simp)
  · rw [getD_set_ne _ _ _ _ (by omega), getD_set_ne _ _ _ _ (by omega), getD_set_eq _ _ _ (by simp; omega)]; (try simp)
  · rw [getD_set_ne _ _ _ _ (by omega), getD_set_ne _ _ _ _ (by omega), getD_set_ne _ _ _ _ (by omega), getD_set_eq _ _ _ (by omega)]; (try simp)
theorem store_byte_out (d : List Int) (a i : Nat) (x : Int) (h : ¬ (a ≤ i ∧ i < a + 4)) : (storeS d a 4 x).getD i 0 = d.getD i 0 := by
  simp only [storeS]; rw [if_pos trivial, getD_set_ne _ _ _ _ (by omega), getD_set_ne _ _ _ _ (by omega), getD_set_ne _ _ _ _ (by omega), getD_set_ne _ _ _ _ (by omega)]
theorem ext_getD {a b : List Int} (h : a.length = b.length) (h2 : ∀ i, i < a.length → a.getD i 0 = b.getD i 0) : a = b := by
  apply List.ext_getElem h
  intro i h3 h4
  have := h2 i h3
  simpa [List.getD_eq_getElem?_getD, h3, h4] using this
theorem store_comm (d : List Int) (a b : Nat) (x y : Int) (ha : a + 4 ≤ d.length) (hb : b + 4 ≤ d.length) (h : a + 4 ≤ b ∨ b + 4 ≤ a) : storeS (storeS d a 4 x) b 4 y = storeS (storeS d b 4 y) a 4 x := by
  apply ext_getD (by simp [storeS_len])
  intro i _
  by_cases h1 : b ≤ i ∧ i < b + 4
  · obtain ⟨j, rfl⟩ := Nat.exists_eq_add_of_le h1.1
    rw [store_byte_in _ _ _ _ (by omega) (by rw [storeS_len]; omega), store_byte_out _ _ _ _ (by omega), store_byte_in _ _ _ _ (by omega) (by omega)]
  · by_cases h2 : a ≤ i ∧ i < a + 4
    · obtain ⟨j, rfl⟩ := Nat.exists_eq_add_of_le h2.1
      rw [store_byte_out _ _ _ _ h1, store_byte_in _ _ _ _ (by omega) (by omega), store_byte_in _ _ _ _ (by omega) (by rw [storeS_len]; omega)]
    · rw [store_byte_out _ _ _ _ h1, store_byte_out _ _ _ _ h2, store_byte_out _ _ _ _ h2, store_byte_out _ _ _ _ h1]
theorem load_store (d : List Int) (a : Nat) (x : Int) (ha : a + 4 ≤ d.length) (hx : 0 ≤ x) (hx2 : x < 4294967296) : loadS (storeS d a 4 x) a 4 = x := by
  have b0 := store_byte_in d a 0 x (by omega) ha
  have b1 := store_byte_in d a 1 x (by omega) ha
  have b2 := store_byte_in d a 2 x (by omega) ha
  have b3 := store_byte_in d a 3 x (by omega) ha
  unfold loadS; rw [if_pos rfl]; rw [Nat.add_zero] at b0; rw [b0, b1, b2, b3]; simp; omega
theorem load_store_ne (d : List Int) (a b : Nat) (x : Int) (h : a + 4 ≤ b ∨ b + 4 ≤ a) : loadS (storeS d a 4 x) b 4 = loadS d b 4 := by
  unfold loadS; rw [if_pos rfl, if_pos rfl, store_byte_out _ _ _ _ (by omega), store_byte_out _ _ _ _ (by omega), store_byte_out _ _ _ _ (by omega), store_byte_out _ _ _ _ (by omega)]
/-- Putting all words of d over whatever bytes gives d. -/
theorem put_words {d z : List Int} (hd : Bytes d) (hz : z.length = d.length) : ∀ n, 4 * n ≤ d.length → ∀ i, i < d.length → (putS z 0 (wordsS d 0 n)).getD i 0 = if i < 4 * n then d.getD i 0 else z.getD i 0 := by
  intro n
  induction n with
  | zero => intro _ i _; simp [wordsS, putS]
  | succ n ih =>
    intro hn i hi
    have e : putS z 0 (wordsS d 0 (n + 1)) = storeS (putS z 0 (wordsS d 0 n)) (4 * n) 4 (loadS d (4 * n) 4) := by
      rw [wordsS_succ, putS_snoc, wordsS_len, Nat.zero_add]
    rw [e]
    have hl := putS_len (wordsS d 0 n) z 0
    have h0 := hd.at (4 * n); have h1 := hd.at (4 * n + 1); have h2 := hd.at (4 * n + 2); have h3 := hd.at (4 * n + 3)
    by_cases h : 4 * n ≤ i ∧ i < 4 * n + 4
    · obtain ⟨j, rfl⟩ := Nat.exists_eq_add_of_le h.1
      rw [store_byte_in _ _ _ _ (by omega) (by omega), if_pos (by omega)]
      have hc : j = 0 ∨ j = 1 ∨ j = 2 ∨ j = 3 := by omega
      unfold loadS; rw [if_pos rfl]
      rcases hc with rfl | rfl | rfl | rfl <;> simp <;> simp only [List.getD_eq_getElem?_getD] at h0 h1 h2 h3 <;> omega
    · rw [store_byte_out _ _ _ _ h, ih (by omega) i hi]
      by_cases h4 : i < 4 * n
      · rw [if_pos h4, if_pos (by omega)]
      · rw [if_neg h4, if_neg (by omega)]
theorem put_all {d z : List Int} (hd : Bytes d) (hz : z.length = d.length) (n : Nat) (hn : d.length = 4 * n) : putS z 0 (wordsS d 0 n) = d := by
  apply ext_getD (by rw [putS_len, hz])
  intro i hi
  rw [putS_len, hz] at hi
  rw [put_words hd hz n (by omega) i hi, if_pos (by omega)]
theorem wordsS_at (d : List Int) (a n i : Nat) (h : i < n) : (wordsS d a n).getD i 0 = loadS d (a + 4 * i) 4 := by
  simp [wordsS, List.getD_eq_getElem?_getD, h]
theorem spanE_row (n a k : Nat) (h : a % 4 = 0) (h2 : a + 4 * k ≤ n) : spanE n a k 4 = 0 := by
  unfold spanE; rw [if_neg (by omega), if_neg (by omega), if_neg (by omega)]
/-- The last byte of a word. -/
theorem last_byte {d : List Int} (hd : Bytes d) (a : Nat) : d.getD (a + 3) 0 = loadS d a 4 % 256 := by
  have h3 := hd.at (a + 3)
  unfold loadS; rw [if_pos rfl]; omega
end Go.Proofs.Ytilegepenibeoaa
