/- The walks of muntinref14.in, Writes, Reads, SameInts. -/
import Derived.Test.YthahjnjkiljaaaaShapeHas
namespace Go.Proofs.Ythahjnjkiljaaaa
open Go.RowKit
set_option linter.unusedVariables false
set_option linter.unusedSimpArgs false
def inB (s : ByteArray) (c : Int) : Bool := s.data.toList.any fun b => decide ((b.toNat : Int) = c)
theorem stake_snoc (s : ByteArray) (k : Nat) (h : k < s.size) : s.data.toList.take (k + 1) = s.data.toList.take k ++ [s[k]] := by
  rw [List.take_succ_eq_append_getElem (by simpa using h)]; rfl
set_option maxHeartbeats 1000000 in
theorem in_any (s : ByteArray) (c : Int) (hs : s.size ≤ 100) (w : World) :
    Calls Try.prog 31 #[.string s, .int .u8 c] w fun e w' => e = .returned (.bool (inB s c)) ∧ w = w' := by
  have HB := shid (show inB s c = s.data.toList.any fun b => decide ((b.toNat : Int) = c) from rfl)
  go_enter Try.func31, Try.ntmps31
  go_wp2
  go_loop [5] (fun i => ∃ k : Nat, k ≤ s.size ∧ i = .int .i64 k ∧ (s.data.toList.take k).any (fun b => decide ((b.toNat : Int) = c)) = false) (fun i => s.size - (intOf i).toNat)
  case atStart => exact ⟨0, Nat.zero_le _, rfl, by simp⟩
  case round =>
    obtain ⟨k, hk, rfl, hf⟩ := hrel
    have HF := shid hf
    clear hf
    by_cases hlt : k < s.size
    · have HT := shid (stake_snoc s k hlt)
      by_cases hc : ((s[k].toNat : Int) == c) = true
      · have HC := shid hc
        go_wp2_with fail
        go_ret
        have hl : inB s c = true := by
          rw [HB.out, List.any_eq_true]
          exact ⟨s[k], by rw [← List.take_append_drop (k + 1) s.data.toList, HT.out]; simp, by have := HC.out; simpa using this⟩
        exact ⟨by rw [hl]; rfl, rfl⟩
      · have hc' : ((s[k].toNat : Int) == c) = false := by simpa using hc
        clear hc
        have HC := shid hc'
        go_wp2_with fail
        go_round
        case rel => exact ⟨k + 1, by omega, by go_num, by rw [HT.out, List.any_append, HF.out]; simpa using HC.out⟩
        case measure => simp [intOf]; omega
    · go_wp2_with fail
      go_ret
      have hl : inB s c = false := by
        have h1 := HF.out
        rw [List.take_of_length_le (by simp; omega)] at h1
        exact HB.out.trans h1
      exact ⟨by rw [hl]; rfl, rfl⟩
def hasA (op : Int) : Bool := decide (op = 1 ∨ op = 2 ∨ op = 3 ∨ op = 4 ∨ op = 6 ∨ op = 9 ∨ op = 10)
theorem hasS_size (op : Int) : (hasS op).size ≤ 100 := by
  unfold hasS
  repeat (split; · decide)
  decide
theorem in_letters {op : Int} (h0 : 0 ≤ op) : inB (hasS op) 100 = decide (op = 0 ∨ op = 1 ∨ op = 2 ∨ op = 3 ∨ op = 5) ∧ inB (hasS op) 97 = hasA op ∧ inB (hasS op) 98 = decide (op = 1 ∨ op = 4) ∧ inB (hasS op) 110 = decide (op = 0 ∨ op = 1) ∧
    inB (hasS op) 102 = decide (op = 5) ∧ inB (hasS op) 120 = decide (op = 5) ∧ inB (hasS op) 108 = decide (op = 8 ∨ op = 9) ∧ inB (hasS op) 109 = decide (op = 9) := by
  rcases op_cases h0 with rfl | rfl | rfl | rfl | rfl | rfl | rfl | rfl | rfl | rfl | rfl | hop
  case inr.inr.inr.inr.inr.inr.inr.inr.inr.inr.inr =>
    have hs : hasS op = ⟨#[]⟩ := by unfold hasS; repeat (rw [if_neg (by omega)])
    rw [hs]
    unfold hasA
    refine ⟨?_, ?_, ?_, ?_, ?_, ?_, ?_, ?_⟩
    all_goals (symm; exact decide_eq_false (by omega))
  all_goals decide +kernel
set_option maxRecDepth 100000 in
set_option maxHeartbeats 1000000 in
theorem rwrites_any (x : Insx) (hx : x.bd) (p : Option Addr) (n c : Nat) (w : World) :
    Calls Try.prog 13 #[x.agg (.slice p n c)] w fun e w' => e = .returned (.tuple #[.int .i64 (writesD x), .bool (writesB x)]) ∧ Below w.heap.size w w' := by
  obtain ⟨⟨h0, h1⟩, _⟩ := hx
  have hI := (in_letters h0).1
  have hW : Hid (writesB x = decide (x.op = 0 ∨ x.op = 1 ∨ x.op = 2 ∨ x.op = 3 ∨ x.op = 5) ∧ writesD x = if writesB x = true then x.d else 0) := shid ⟨rfl, rfl⟩
  obtain ⟨op, d, a, b, n', f, args, l1, l2⟩ := x
  simp only at h0 h1 hW hI
  have hs := hasS_size op
  generalize hb : writesB _ = bb at hW ⊢
  have HI := shid (hI.trans hW.out.1.symm)
  clear hI hb
  go_enter Try.func13, Try.ntmps13
  go_wp2_with fail
  refine (rhas_any op h0 h1 _).mono ?_
  rintro e w1 ⟨rfl, hb1⟩
  have hcell := hb1.cell (p := ⟨w.heap.size, 1, none⟩) (by simp)
  rw [show (w.alloc (.cells #[.int .u8 op, .int .i64 d, .int .i64 a, .int .i64 b, .int .u32 n', .int .i64 f, .slice p n c, .int .i64 l1, .int .i64 l2] 44)).cell? ⟨w.heap.size, 1, none⟩ = some (.int .i64 d) by rw [World.cell?_alloc_at _ _ _ _ rfl]; rfl] at hcell
  go_wp2_with fail
  refine (in_any (hasS op) 100 hs w1).mono ?_
  rintro e w' ⟨rfl, rfl⟩
  rw [HI.out]
  have hb2 : Below w.heap.size w w1 := sbt ((Below.refl _ _).alloc (Nat.le_refl _) _) hb1
  clear hb1
  cases bb
  all_goals
    go_wp2_with fail
    go_ret2
    exact ⟨by rw [hW.out.2]; rfl, hb2⟩
end Go.Proofs.Ythahjnjkiljaaaa
