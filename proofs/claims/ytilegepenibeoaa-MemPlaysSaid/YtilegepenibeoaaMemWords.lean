/- The walk of mem.Words. -/
import Derived.Test.YtilegepenibeoaaMemPut
namespace Go.Proofs.Ytilegepenibeoaa
open Go.RowKit
set_option linter.unusedVariables false
theorem wordsS_succ (d : List Int) (a k : Nat) : wordsS d a (k + 1) = wordsS d a k ++ [loadS d (a + 4 * k) 4] := by
  unfold wordsS; rw [List.range_succ, List.map_append]; rfl
theorem wordsS_len (d : List Int) (a k : Nat) : (wordsS d a k).length = k := by simp [wordsS]
theorem wordsS_words {d : List Int} (h : Bytes d) (a k : Nat) : Words (wordsS d a k) := by
  intro x hx
  obtain ⟨i, _, rfl⟩ := List.mem_map.1 hx
  have := loadS_bd h (a + 4 * i) 4; exact ⟨this.1, this.2.1⟩
/-- What Words answers: the words, in memory of the call's own, and the error. -/
def Tells (d : List Int) (a n : Int) (w : World) (e : Ending) (w' : World) : Prop :=
  ∃ v l, e = .returned (.tuple #[v, .int .i64 (spanE d.length a n 4)]) ∧ l = (if spanE d.length a n 4 = 0 then wordsS d a.toNat n.toNat else []) ∧ w'.ownsRow w.heap.size 31 1 v l.length (u32s l) ∧ Below w.heap.size w w'
theorem tell_ret {v : Value} {e e' : Int} (h : e = e') : Ending.returned (.tuple #[v, .int .i64 e]) = .returned (.tuple #[v, .int .i64 e']) := by rw [h]
theorem own_nil (w : World) (b : Nat) : w.ownsRow b 31 1 (.slice none 0 0) ([] : List Int).length (u32s []) := World.ownsRow_nil w b _ _
set_option maxHeartbeats 1000000 in
theorem words_any (w : World) (m g : Nat) (d : List Int) (h : MemAt w m g d) (a : Int) (ha : 0 ≤ a) (ha2 : a < 4294967296) (n : Int) (hn : n ≤ 9223372036854775807) :
    Calls Try.prog 14 #[.pointer (some ⟨m, 0, none⟩), .int .u32 a, .int .i64 n] w (Tells d a n w) := by
  have hs := span_any w m g d h a n 4 ha ha2 hn
  have HS := mhid hs
  have H := mhid h
  have hlen := h.len
  clear hs h
  obtain ⟨i0, hi, hz0, hz1, hz2⟩ := info_parts info32
  go_enter Try.func14, Try.ntmps14
  go_wp2_with fail
  refine HS.out.mono ?_
  rintro e w' (⟨he, ⟨v, rfl, b, rfl, hb⟩, rfl⟩ | ⟨he, rfl, rfl⟩)
  · obtain ⟨h3, _, h4, h5⟩ := spanE_ok he ha
    have HE := mhid he
    clear he HS
    obtain ⟨N, rfl⟩ := Int.eq_ofNat_of_zero_le h3
    have hl4 : ((4 * (N : Int)).toNat : Nat) = 4 * N := by omega
    rw [hl4]
    clear hl4 h3 hn
    by_cases h0 : N = 0
    · subst h0
      clear hb
      go_wp2_with fail
      go_rounds 1
      go_ret2
      exact ⟨_, [], tell_ret HE.out.symm, by rw [if_pos HE.out]; rfl, own_nil _ _, Below.refl _ _⟩
    · have hb2 : b = a.toNat := by omega
      subst hb2
      clear hb
      have h0' : 0 < N := by omega
      clear h0
      go_wp2_with fail
      go_loopw [10, 11, 22] (fun v _ i wr => ∃ k : Nat, k ≤ N ∧ i = .int .i64 k ∧ wr.ownsRow w.heap.size 31 1 v k (u32s (wordsS d a.toNat k)) ∧ Below w.heap.size w wr) (fun _ _ i _ => N - (intOf i).toNat)
      case atStart => exact ⟨0, Nat.zero_le _, rfl, World.ownsRow_nil _ _ _ _, Below.refl _ _⟩
      case round =>
        obtain ⟨k, hk, rfl, hown, hbl⟩ := hrel
        by_cases hlt : k < N
        · have hmem : MemAt wr m g d := H.out.keep (Only.of_below (S := fun _ => False) hbl) id id
          have q2 : k + 1 ≤ maxLen := by unfold maxLen; omega
          have q3 : (k + 1) * 4 ≤ 140737488355328 := by omega
          have q4 := hbl.size
          have q5 : w.heap.size ≤ wr.heap.size + 1 := by omega
          have hx := loadS_bd H.out.bytes (a.toNat + 4 * k) 4
          have hwd := word_any wr m g d hmem (a.toNat + 4 * k) 4 (4 * N - 4 * k) (by omega) (by omega)
          rw [beS_four] at hwd
          have hsu := wordsS_succ d a.toNat k
          have HSU := mhid hsu
          have HW := mhid hwd
          have HB := mhid hbl
          clear hsu hwd hmem hbl
          generalize loadS d (a.toNat + 4 * k) 4 = x at hx HSU HW
          have hk4 : (k : Int) < N := by omega
          go_wp2_with fail
          refine HW.out.mono ?_
          rintro e w' ⟨rfl, rfl⟩
          clear HW
          go_wp2_with (at_builtin; refine wpList_append_own _ rfl _ _ 32 rfl w.heap.size 31 i0 (.int .u32 0) 1 4 Try.underlying32 hi hz0 hz1 hz2 rfl (by decide) _ k (u32s (wordsS d a.toNat k)) rfl (hown.alloc _) ⟨wr.heap.size, 0, none⟩ 1 1 [.int .u32 x] rfl rfl (cell_one_new _ _ _) (by simp [Value.oneCell']) q2 q3 (by simpa using q5) ?_; intro v' w1 hown1 hgrow1 hnil)
          have hb1 : Below w.heap.size w w1 := (HB.out.alloc q4 _).grown hgrow1 (by simpa using q5) (fun r e => ((hown.alloc (.cells #[.int .u32 x] 31)).lt r e).1)
          go_roundw
          case rel => exact ⟨k + 1, by omega, by go_num, by rw [HSU.out]; simpa [u32s] using hown1, hb1⟩
          case measure => simp [intOf] <;> omega
        · obtain rfl : k = N := by omega
          go_wp2_with fail
          go_ret2
          exact ⟨_, wordsS d a.toNat k, tell_ret HE.out.symm, by rw [if_pos HE.out]; rfl, by rw [wordsS_len]; exact hown, hbl⟩
  · clear HS
    have HE := mhid he
    clear he
    go_wp2_with fail
    go_rounds 1
    go_ret2
    exact ⟨_, [], rfl, by rw [if_neg HE.out], own_nil _ _, Below.refl _ _⟩

set_option maxHeartbeats 400000 in
theorem words_nil (w : World) (a n : Int) : Calls Try.prog 14 #[.pointer none, .int .u32 a, .int .i64 n] w fun e w' => e = .returned (.tuple #[.slice none 0 0, .int .i64 1]) ∧ w = w' := by
  have hs := span_nil w a n 4
  go_enter Try.func14, Try.ntmps14
  go_wp2_with fail
  refine hs.mono ?_
  rintro e w' ⟨rfl, rfl⟩
  go_wp2_with fail
  go_rounds 1
  go_ret2
  exact ⟨rfl, rfl⟩
set_option maxHeartbeats 400000 in
theorem put_nil (w : World) (a : Int) (p : Option Addr) (n c : Nat) : Calls Try.prog 13 #[.pointer none, .int .u32 a, .slice p n c] w fun e w' => e = .returned (.int .i64 1) ∧ w = w' := by
  have hs := span_nil w a n 4
  go_enter Try.func13, Try.ntmps13
  go_wp2_with fail
  refine hs.mono ?_
  rintro e w' ⟨rfl, rfl⟩
  go_wp2_with fail
  go_rounds 1
  go_ret
  exact ⟨rfl, rfl⟩

set_option maxHeartbeats 400000 in
theorem words_unmade (w : World) (m : Nat) (h : w.cell? ⟨m, 1, none⟩ = some (.bool false)) (a n : Int) : Calls Try.prog 14 #[.pointer (some ⟨m, 0, none⟩), .int .u32 a, .int .i64 n] w fun e w' => e = .returned (.tuple #[.slice none 0 0, .int .i64 1]) ∧ w = w' := by
  have hs := span_unmade w m h a n 4
  go_enter Try.func14, Try.ntmps14
  go_wp2_with fail
  refine hs.mono ?_
  rintro e w' ⟨rfl, rfl⟩
  go_wp2_with fail
  go_rounds 1
  go_ret2
  exact ⟨rfl, rfl⟩
set_option maxHeartbeats 400000 in
theorem put_unmade (w : World) (m : Nat) (h : w.cell? ⟨m, 1, none⟩ = some (.bool false)) (a : Int) (p : Option Addr) (n c : Nat) : Calls Try.prog 13 #[.pointer (some ⟨m, 0, none⟩), .int .u32 a, .slice p n c] w fun e w' => e = .returned (.int .i64 1) ∧ w = w' := by
  have hs := span_unmade w m h a n 4
  go_enter Try.func13, Try.ntmps13
  go_wp2_with fail
  refine hs.mono ?_
  rintro e w' ⟨rfl, rfl⟩
  go_wp2_with fail
  go_rounds 1
  go_ret
  exact ⟨rfl, rfl⟩
end Go.Proofs.Ytilegepenibeoaa
