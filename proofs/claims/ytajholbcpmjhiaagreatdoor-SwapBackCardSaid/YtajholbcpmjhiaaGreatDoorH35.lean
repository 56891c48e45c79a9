/- Several texts in one: SwapAll. -/
import Derived.Test.YtajholbcpmjhiaaGreatDoorH34
set_option linter.unusedVariables false
set_option linter.unusedSimpArgs false
/- Walk of the package swap: All. (Printed by genswap2.py.) -/
namespace Go.Proofs.YtajholbcpmjhiaaGreatDoor
open Go.RowKit
def tenNms : List (List UInt8) := [nmYield, nmYieldEach, nmYieldIn, nmEnd, nmSwap, nmSwapCount, nmSwapEach, nmSwapNot, nmSwapIt, nmSwapIn]
def tenNm (k : Nat) : List UInt8 := tenNms.getD k []
theorem ten_ix0 : ∀ w, (Instr.index 141 (.agg #[.string ⟨#[121, 105, 101, 108, 100]⟩, .string ⟨#[121, 105, 101, 108, 100, 46, 101, 97, 99, 104]⟩, .string ⟨#[121, 105, 101, 108, 100, 46, 105, 110]⟩, .string ⟨#[101, 110, 100]⟩, .string ⟨#[115, 119, 97, 112]⟩, .string ⟨#[115, 119, 97, 112, 46, 99, 111, 117, 110, 116]⟩, .string ⟨#[115, 119, 97, 112, 46, 101, 97, 99, 104]⟩, .string ⟨#[115, 119, 97, 112, 46, 110, 111, 116]⟩, .string ⟨#[115, 119, 97, 112, 46, 105, 116]⟩, .string ⟨#[115, 119, 97, 112, 46, 105, 110]⟩]) (.int .i64 0)).run Tryz.prog w = .ok (.string ⟨(tenNm 0).toArray⟩) w := fun _ => by kernel_rfl
theorem ten_ix1 : ∀ w, (Instr.index 141 (.agg #[.string ⟨#[121, 105, 101, 108, 100]⟩, .string ⟨#[121, 105, 101, 108, 100, 46, 101, 97, 99, 104]⟩, .string ⟨#[121, 105, 101, 108, 100, 46, 105, 110]⟩, .string ⟨#[101, 110, 100]⟩, .string ⟨#[115, 119, 97, 112]⟩, .string ⟨#[115, 119, 97, 112, 46, 99, 111, 117, 110, 116]⟩, .string ⟨#[115, 119, 97, 112, 46, 101, 97, 99, 104]⟩, .string ⟨#[115, 119, 97, 112, 46, 110, 111, 116]⟩, .string ⟨#[115, 119, 97, 112, 46, 105, 116]⟩, .string ⟨#[115, 119, 97, 112, 46, 105, 110]⟩]) (.int .i64 1)).run Tryz.prog w = .ok (.string ⟨(tenNm 1).toArray⟩) w := fun _ => by kernel_rfl
theorem ten_ix2 : ∀ w, (Instr.index 141 (.agg #[.string ⟨#[121, 105, 101, 108, 100]⟩, .string ⟨#[121, 105, 101, 108, 100, 46, 101, 97, 99, 104]⟩, .string ⟨#[121, 105, 101, 108, 100, 46, 105, 110]⟩, .string ⟨#[101, 110, 100]⟩, .string ⟨#[115, 119, 97, 112]⟩, .string ⟨#[115, 119, 97, 112, 46, 99, 111, 117, 110, 116]⟩, .string ⟨#[115, 119, 97, 112, 46, 101, 97, 99, 104]⟩, .string ⟨#[115, 119, 97, 112, 46, 110, 111, 116]⟩, .string ⟨#[115, 119, 97, 112, 46, 105, 116]⟩, .string ⟨#[115, 119, 97, 112, 46, 105, 110]⟩]) (.int .i64 2)).run Tryz.prog w = .ok (.string ⟨(tenNm 2).toArray⟩) w := fun _ => by kernel_rfl
theorem ten_ix3 : ∀ w, (Instr.index 141 (.agg #[.string ⟨#[121, 105, 101, 108, 100]⟩, .string ⟨#[121, 105, 101, 108, 100, 46, 101, 97, 99, 104]⟩, .string ⟨#[121, 105, 101, 108, 100, 46, 105, 110]⟩, .string ⟨#[101, 110, 100]⟩, .string ⟨#[115, 119, 97, 112]⟩, .string ⟨#[115, 119, 97, 112, 46, 99, 111, 117, 110, 116]⟩, .string ⟨#[115, 119, 97, 112, 46, 101, 97, 99, 104]⟩, .string ⟨#[115, 119, 97, 112, 46, 110, 111, 116]⟩, .string ⟨#[115, 119, 97, 112, 46, 105, 116]⟩, .string ⟨#[115, 119, 97, 112, 46, 105, 110]⟩]) (.int .i64 3)).run Tryz.prog w = .ok (.string ⟨(tenNm 3).toArray⟩) w := fun _ => by kernel_rfl
theorem ten_ix4 : ∀ w, (Instr.index 141 (.agg #[.string ⟨#[121, 105, 101, 108, 100]⟩, .string ⟨#[121, 105, 101, 108, 100, 46, 101, 97, 99, 104]⟩, .string ⟨#[121, 105, 101, 108, 100, 46, 105, 110]⟩, .string ⟨#[101, 110, 100]⟩, .string ⟨#[115, 119, 97, 112]⟩, .string ⟨#[115, 119, 97, 112, 46, 99, 111, 117, 110, 116]⟩, .string ⟨#[115, 119, 97, 112, 46, 101, 97, 99, 104]⟩, .string ⟨#[115, 119, 97, 112, 46, 110, 111, 116]⟩, .string ⟨#[115, 119, 97, 112, 46, 105, 116]⟩, .string ⟨#[115, 119, 97, 112, 46, 105, 110]⟩]) (.int .i64 4)).run Tryz.prog w = .ok (.string ⟨(tenNm 4).toArray⟩) w := fun _ => by kernel_rfl
theorem ten_ix5 : ∀ w, (Instr.index 141 (.agg #[.string ⟨#[121, 105, 101, 108, 100]⟩, .string ⟨#[121, 105, 101, 108, 100, 46, 101, 97, 99, 104]⟩, .string ⟨#[121, 105, 101, 108, 100, 46, 105, 110]⟩, .string ⟨#[101, 110, 100]⟩, .string ⟨#[115, 119, 97, 112]⟩, .string ⟨#[115, 119, 97, 112, 46, 99, 111, 117, 110, 116]⟩, .string ⟨#[115, 119, 97, 112, 46, 101, 97, 99, 104]⟩, .string ⟨#[115, 119, 97, 112, 46, 110, 111, 116]⟩, .string ⟨#[115, 119, 97, 112, 46, 105, 116]⟩, .string ⟨#[115, 119, 97, 112, 46, 105, 110]⟩]) (.int .i64 5)).run Tryz.prog w = .ok (.string ⟨(tenNm 5).toArray⟩) w := fun _ => by kernel_rfl
theorem ten_ix6 : ∀ w, (Instr.index 141 (.agg #[.string ⟨#[121, 105, 101, 108, 100]⟩, .string ⟨#[121, 105, 101, 108, 100, 46, 101, 97, 99, 104]⟩, .string ⟨#[121, 105, 101, 108, 100, 46, 105, 110]⟩, .string ⟨#[101, 110, 100]⟩, .string ⟨#[115, 119, 97, 112]⟩, .string ⟨#[115, 119, 97, 112, 46, 99, 111, 117, 110, 116]⟩, .string ⟨#[115, 119, 97, 112, 46, 101, 97, 99, 104]⟩, .string ⟨#[115, 119, 97, 112, 46, 110, 111, 116]⟩, .string ⟨#[115, 119, 97, 112, 46, 105, 116]⟩, .string ⟨#[115, 119, 97, 112, 46, 105, 110]⟩]) (.int .i64 6)).run Tryz.prog w = .ok (.string ⟨(tenNm 6).toArray⟩) w := fun _ => by kernel_rfl
theorem ten_ix7 : ∀ w, (Instr.index 141 (.agg #[.string ⟨#[121, 105, 101, 108, 100]⟩, .string ⟨#[121, 105, 101, 108, 100, 46, 101, 97, 99, 104]⟩, .string ⟨#[121, 105, 101, 108, 100, 46, 105, 110]⟩, .string ⟨#[101, 110, 100]⟩, .string ⟨#[115, 119, 97, 112]⟩, .string ⟨#[115, 119, 97, 112, 46, 99, 111, 117, 110, 116]⟩, .string ⟨#[115, 119, 97, 112, 46, 101, 97, 99, 104]⟩, .string ⟨#[115, 119, 97, 112, 46, 110, 111, 116]⟩, .string ⟨#[115, 119, 97, 112, 46, 105, 116]⟩, .string ⟨#[115, 119, 97, 112, 46, 105, 110]⟩]) (.int .i64 7)).run Tryz.prog w = .ok (.string ⟨(tenNm 7).toArray⟩) w := fun _ => by kernel_rfl
theorem ten_ix8 : ∀ w, (Instr.index 141 (.agg #[.string ⟨#[121, 105, 101, 108, 100]⟩, .string ⟨#[121, 105, 101, 108, 100, 46, 101, 97, 99, 104]⟩, .string ⟨#[121, 105, 101, 108, 100, 46, 105, 110]⟩, .string ⟨#[101, 110, 100]⟩, .string ⟨#[115, 119, 97, 112]⟩, .string ⟨#[115, 119, 97, 112, 46, 99, 111, 117, 110, 116]⟩, .string ⟨#[115, 119, 97, 112, 46, 101, 97, 99, 104]⟩, .string ⟨#[115, 119, 97, 112, 46, 110, 111, 116]⟩, .string ⟨#[115, 119, 97, 112, 46, 105, 116]⟩, .string ⟨#[115, 119, 97, 112, 46, 105, 110]⟩]) (.int .i64 8)).run Tryz.prog w = .ok (.string ⟨(tenNm 8).toArray⟩) w := fun _ => by kernel_rfl
theorem ten_ix9 : ∀ w, (Instr.index 141 (.agg #[.string ⟨#[121, 105, 101, 108, 100]⟩, .string ⟨#[121, 105, 101, 108, 100, 46, 101, 97, 99, 104]⟩, .string ⟨#[121, 105, 101, 108, 100, 46, 105, 110]⟩, .string ⟨#[101, 110, 100]⟩, .string ⟨#[115, 119, 97, 112]⟩, .string ⟨#[115, 119, 97, 112, 46, 99, 111, 117, 110, 116]⟩, .string ⟨#[115, 119, 97, 112, 46, 101, 97, 99, 104]⟩, .string ⟨#[115, 119, 97, 112, 46, 110, 111, 116]⟩, .string ⟨#[115, 119, 97, 112, 46, 105, 116]⟩, .string ⟨#[115, 119, 97, 112, 46, 105, 110]⟩]) (.int .i64 9)).run Tryz.prog w = .ok (.string ⟨(tenNm 9).toArray⟩) w := fun _ => by kernel_rfl
theorem ten_ix : ∀ k : Nat, k < 10 → ∀ w, (Instr.index 141 (.agg #[.string ⟨#[121, 105, 101, 108, 100]⟩, .string ⟨#[121, 105, 101, 108, 100, 46, 101, 97, 99, 104]⟩, .string ⟨#[121, 105, 101, 108, 100, 46, 105, 110]⟩, .string ⟨#[101, 110, 100]⟩, .string ⟨#[115, 119, 97, 112]⟩, .string ⟨#[115, 119, 97, 112, 46, 99, 111, 117, 110, 116]⟩, .string ⟨#[115, 119, 97, 112, 46, 101, 97, 99, 104]⟩, .string ⟨#[115, 119, 97, 112, 46, 110, 111, 116]⟩, .string ⟨#[115, 119, 97, 112, 46, 105, 116]⟩, .string ⟨#[115, 119, 97, 112, 46, 105, 110]⟩]) (.int .i64 (k : Int))).run Tryz.prog w = .ok (.string ⟨(tenNm k).toArray⟩) w
  | 0, _ => ten_ix0
  | 1, _ => ten_ix1
  | 2, _ => ten_ix2
  | 3, _ => ten_ix3
  | 4, _ => ten_ix4
  | 5, _ => ten_ix5
  | 6, _ => ten_ix6
  | 7, _ => ten_ix7
  | 8, _ => ten_ix8
  | 9, _ => ten_ix9
  | k + 10, h => absurd h (by omega)
theorem ten_mem : ∀ k : Nat, k < 10 → tenNm k ∈ tenNms := by decide
theorem ten_sz : ∀ k : Nat, k < 10 → (tenNm k).length ≤ 100 := by decide
def noS (M : List (List UInt8 × Int)) : Prop := ∀ x ∈ tenNms, x ∉ names M
theorem BsGo.of_sw {W w w0 w' : World} {pa mb nw : Nat} {S : Nat → Prop} {s : Bs} (hb : Below w.heap.size w w0) (hm : w.heap.size ≤ mb) (hg : SwGo W w0 pa mb nw S s w') : BsGo W w pa S s w' := by
  obtain ⟨S', h', o', r'⟩ := hg
  refine ⟨S', h'.bs, (Only.of_below (S := S) hb).fresh o' (fun i hi hk => hk.elim id (fun e => by omega)), fun k hk => (r' k hk).imp id (fun h => Nat.le_trans hb.size h)⟩
theorem SwGo.e0 {W w0 w' : World} {pa mb nw : Nat} {S : Nat → Prop} {s : Bs} (hg : SwGo W w0 pa mb nw S s w') : w'.cell? ⟨mb, 2, none⟩ = some (.int .i64 0) := by
  obtain ⟨S', h', o', r'⟩ := hg
  exact row_cell h'.row (j := 2) rfl
set_option maxRecDepth 100000 in
set_option maxHeartbeats 8000000 in
theorem swap_any {W w : World} {pa nw : Nat} {S : Nat → Prop} {s : Bs} (h : BsAt W w pa S s) (h2 : 2 ≤ nw) (h32 : nw ≤ 32) (hn : noS s.M) (hM : s.M.length < 4294950000) (hL : s.L.length < 4294950000) :
    Calls Tryz.prog 30 #[.pointer (some ⟨pa, 0, none⟩), .int .i64 (nw : Int)] w fun e w' => e = .returned (.int .i64 0) ∧ BsGo W w pa S (s.swap nw) w' := by
  have hn_nmYield := hn nmYield (by simp [tenNms])
  have hn_nmYieldEach := hn nmYieldEach (by simp [tenNms])
  have hn_nmYieldIn := hn nmYieldIn (by simp [tenNms])
  have hn_nmEnd := hn nmEnd (by simp [tenNms])
  have hn_nmSwap := hn nmSwap (by simp [tenNms])
  have hn_nmSwapCount := hn nmSwapCount (by simp [tenNms])
  have hn_nmSwapEach := hn nmSwapEach (by simp [tenNms])
  have hn_nmSwapNot := hn nmSwapNot (by simp [tenNms])
  have hn_nmSwapIt := hn nmSwapIt (by simp [tenNms])
  have hn_nmSwapIn := hn nmSwapIn (by simp [tenNms])
  have L0 : s.L.length ≤ s.L.length := Nat.le_refl _
  have K0 : s.M.length ≤ s.M.length := Nat.le_refl _
  obtain ⟨s1, e1⟩ : ∃ x, x = s.mark nmEnd := ⟨_, rfl⟩
  have L1 : s1.L.length ≤ s.L.length + 0 := by rw [e1, len_mark]; first | omega | (simp only [List.length_cons, List.length_nil]; omega)
  have N1 : names s1.M = names s.M ++ [nmEnd] := by rw [e1, names_mark]
  have K1 : s1.M.length ≤ s.M.length + 1 := by have := congrArg List.length N1; simp [names] at this; omega
  obtain ⟨s2, e2⟩ : ∃ x, x = s1.put [ldI 1 0 128, aluI 8 1 1 4, stI 0 1 76] := ⟨_, rfl⟩
  have L2 : s2.L.length ≤ s.L.length + 3 := by rw [e2, Bs.put_len]; first | omega | (simp only [List.length_cons, List.length_nil]; omega)
  have N2 : names s2.M = names s.M ++ [nmEnd] := by rw [e2, names_put, N1]
  have K2 : s2.M.length ≤ s.M.length + 1 := by have := congrArg List.length N2; simp [names] at this; omega
  obtain ⟨s3, e3⟩ : ∃ x, x = s2.jump 0 nmSwap := ⟨_, rfl⟩
  have L3 : s3.L.length ≤ s.L.length + 4 := by rw [e3, len_jump]; first | omega | (simp only [List.length_cons, List.length_nil]; omega)
  have N3 : names s3.M = names s.M ++ [nmEnd] := by rw [e3, names_jump, N2]
  have K3 : s3.M.length ≤ s.M.length + 1 := by have := congrArg List.length N3; simp [names] at this; omega
  obtain ⟨s4, e4⟩ : ∃ x, x = s3.mark nmYield := ⟨_, rfl⟩
  have L4 : s4.L.length ≤ s.L.length + 4 := by rw [e4, len_mark]; first | omega | (simp only [List.length_cons, List.length_nil]; omega)
  have N4 : names s4.M = names s.M ++ [nmEnd, nmYield] := by rw [e4, names_mark, N3]; simp
  have K4 : s4.M.length ≤ s.M.length + 2 := by have := congrArg List.length N4; simp [names] at this; omega
  obtain ⟨s5, e5⟩ : ∃ x, x = s4.flush nw := ⟨_, rfl⟩
  have L5 : s5.L.length ≤ s.L.length + 37 := by rw [e5, len_flush]; first | omega | (simp only [List.length_cons, List.length_nil]; omega)
  have N5 : names s5.M = names s.M ++ [nmEnd, nmYield, nmYieldEach, nmYieldIn] := by rw [e5, names_flush, N4]; simp
  have K5 : s5.M.length ≤ s.M.length + 4 := by have := congrArg List.length N5; simp [names] at this; omega
  obtain ⟨s6, e6⟩ : ∃ x, x = s5.keep := ⟨_, rfl⟩
  have L6 : s6.L.length ≤ s.L.length + 42 := by rw [e6, len_keep]; first | omega | (simp only [List.length_cons, List.length_nil]; omega)
  have N6 : names s6.M = names s.M ++ [nmEnd, nmYield, nmYieldEach, nmYieldIn] := by rw [e6, names_keep, N5]
  have K6 : s6.M.length ≤ s.M.length + 4 := by have := congrArg List.length N6; simp [names] at this; omega
  obtain ⟨s7, e7⟩ : ∃ x, x = s6.mark nmSwap := ⟨_, rfl⟩
  have L7 : s7.L.length ≤ s.L.length + 42 := by rw [e7, len_mark]; first | omega | (simp only [List.length_cons, List.length_nil]; omega)
  have N7 : names s7.M = names s.M ++ [nmEnd, nmYield, nmYieldEach, nmYieldIn, nmSwap] := by rw [e7, names_mark, N6]; simp
  have K7 : s7.M.length ≤ s.M.length + 5 := by have := congrArg List.length N7; simp [names] at this; omega
  obtain ⟨s8, e8⟩ : ∃ x, x = s7.choose := ⟨_, rfl⟩
  have L8 : s8.L.length ≤ s.L.length + 69 := by rw [e8, len_choose]; first | omega | (simp only [List.length_cons, List.length_nil]; omega)
  have N8 : names s8.M = names s.M ++ [nmEnd, nmYield, nmYieldEach, nmYieldIn, nmSwap, nmSwapCount, nmSwapEach, nmSwapNot, nmSwapIt] := by rw [e8, names_choose, N7]; simp
  have K8 : s8.M.length ≤ s.M.length + 9 := by have := congrArg List.length N8; simp [names] at this; omega
  obtain ⟨s9, e9⟩ : ∃ x, x = s8.resume nw := ⟨_, rfl⟩
  have L9 : s9.L.length ≤ s.L.length + 101 := by rw [e9, len_resume]; first | omega | (simp only [List.length_cons, List.length_nil]; omega)
  have N9 : names s9.M = names s.M ++ [nmEnd, nmYield, nmYieldEach, nmYieldIn, nmSwap, nmSwapCount, nmSwapEach, nmSwapNot, nmSwapIt, nmSwapIn] := by rw [e9, names_resume, N8]; simp
  have K9 : s9.M.length ≤ s.M.length + 10 := by have := congrArg List.length N9; simp [names] at this; omega
  have hfin : s.swap nw = s9 := by rw [e9, e8, e7, e6, e5, e4, e3, e2, e1]; rfl
  rw [hfin]
  have HF1x0 := ahid (show nmEnd ∉ names s.M from by exact hn_nmEnd)
  have HE1 := ahid e1
  have hz0 : s.L.length < 4294959000 ∧ s.M.length < 4294959000 := by omega
  have HE2 := ahid e2
  have hz1 : s1.L.length < 4294959000 ∧ s1.M.length < 4294959000 := by omega
  have HE3 := ahid e3
  have hz2 : s2.L.length < 4294959000 ∧ s2.M.length < 4294959000 := by omega
  have HF4x0 := ahid (show nmYield ∉ names s3.M from by rw [N3]; simp only [List.mem_append, not_or]; exact ⟨hn_nmYield, by decide⟩)
  have HE4 := ahid e4
  have hz3 : s3.L.length < 4294959000 ∧ s3.M.length < 4294959000 := by omega
  have HF5x0 := ahid (show nmYieldEach ∉ names s4.M from by rw [N4]; simp only [List.mem_append, not_or]; exact ⟨hn_nmYieldEach, by decide⟩)
  have HF5x1 := ahid (show nmYieldIn ∉ names s4.M from by rw [N4]; simp only [List.mem_append, not_or]; exact ⟨hn_nmYieldIn, by decide⟩)
  have HE5 := ahid e5
  have hz4 : s4.L.length < 4294959000 ∧ s4.M.length < 4294959000 := by omega
  have HE6 := ahid e6
  have hz5 : s5.L.length < 4294959000 ∧ s5.M.length < 4294959000 := by omega
  have HF7x0 := ahid (show nmSwap ∉ names s6.M from by rw [N6]; simp only [List.mem_append, not_or]; exact ⟨hn_nmSwap, by decide⟩)
  have HE7 := ahid e7
  have hz6 : s6.L.length < 4294959000 ∧ s6.M.length < 4294959000 := by omega
  have HF8x0 := ahid (show nmSwapCount ∉ names s7.M from by rw [N7]; simp only [List.mem_append, not_or]; exact ⟨hn_nmSwapCount, by decide⟩)
  have HF8x1 := ahid (show nmSwapEach ∉ names s7.M from by rw [N7]; simp only [List.mem_append, not_or]; exact ⟨hn_nmSwapEach, by decide⟩)
  have HF8x2 := ahid (show nmSwapNot ∉ names s7.M from by rw [N7]; simp only [List.mem_append, not_or]; exact ⟨hn_nmSwapNot, by decide⟩)
  have HF8x3 := ahid (show nmSwapIt ∉ names s7.M from by rw [N7]; simp only [List.mem_append, not_or]; exact ⟨hn_nmSwapIt, by decide⟩)
  have HE8 := ahid e8
  have hz7 : s7.L.length < 4294959000 ∧ s7.M.length < 4294959000 := by omega
  have HF9x0 := ahid (show nmSwapIn ∉ names s8.M from by rw [N8]; simp only [List.mem_append, not_or]; exact ⟨hn_nmSwapIn, by decide⟩)
  have HE9 := ahid e9
  have hz8 : s8.L.length < 4294959000 ∧ s8.M.length < 4294959000 := by omega
  have HT := ahid (fun (k : Nat) (hk : k < 10) (v : World) (hb : Below w.heap.size w v) => show Calls Tryz.prog 52 #[.pointer (some ⟨pa, 0, none⟩), .string ⟨(tenNm k).toArray⟩] v fun e w'' => (∃ a, e = .returned (.tuple #[.int .i64 a, .int .i64 7])) ∧ v = w'' from by
    obtain ⟨sv, m, K, hA, hO, hK⟩ := (h.keepb hb).lst.ex
    have hnone : look s.M (tenNm k) = none := look_names (hn _ (ten_mem k hk))
    have hE : atE s.M ⟨(tenNm k).toArray⟩ = 7 := by unfold atE; simp only [List.toList_toArray, hnone]; rfl
    have hc := aat_made v pa m sv K s.L s.M hA ⟨(tenNm k).toArray⟩ (by have := ten_sz k hk; unfold maxLen; show (tenNm k).toArray.size ≤ _; simp; omega)
    rw [hE] at hc
    refine hc.mono ?_
    rintro e w'' ⟨rfl, rfl⟩
    exact ⟨⟨_, rfl⟩, rfl⟩)
  have HC := ahid (bs_copy h (by omega))
  have HO := ahid (okE_yes h2 h32)
  have H := ahid h
  have HIX := ahid ten_ix
  clear h hn hfin e1 L1 N1 K1 e2 L2 N2 K2 e3 L3 N3 K3 e4 L4 N4 K4 e5 L5 N5 K5 e6 L6 N6 K6 e7 L7 N7 K7 e8 L8 N8 K8 e9 L9 N9 K9
  go_enter Tryz.func30, Tryz.ntmps30
  go_wp2_with fail
  refine HC.out.mono ?_
  rintro e w1 ⟨⟨q, rfl⟩, hb1⟩
  go_wp2_with fail
  refine (wim_any 0 nw w1).mono ?_
  rintro e w2 ⟨rfl, hb2⟩
  rw [HO.out]
  have HB := ahid (hb1.trans (hb2.mono hb1.size))
  clear hb1 hb2
  go_wp2_with fail
  go_loopw [24] (fun i wr => ∃ k : Nat, k ≤ 10 ∧ i = .int .i64 k ∧ Hid (Below w.heap.size w wr)) (fun i _ => 10 - (intOf i).toNat)
  case atStart => exact ⟨0, by omega, rfl, HB⟩
  case round =>
    obtain ⟨k, hk, rfl, hg⟩ := hrel
    by_cases hlt : k < 10
    · have e1 : IntKind.i64.wrap ((k : Int) + 1) = ((k + 1 : Nat) : Int) := by rw [IntWalk.i64_in _ (by omega)]; omega
      have h15 : (k : Int) < 10 := by omega
      have ix := HIX.out k hlt
      go_wp2_with fail
      refine (HT.out k hlt _ (by first | exact hg.out | exact hg.out.drew)).mono ?_
      rintro e w' ⟨⟨a, rfl⟩, rfl⟩
      go_wp2_with fail
      exact ⟨⟨k + 1, by omega, by go_num, hg⟩, by simp [intOf]; omega⟩
    · obtain rfl : k = 10 := by omega
      clear HC HT HIX HO
      go_wp2_with fail
      have H0 := ahid (show SwAt W _ pa wr.heap.size nw S s from ⟨H.out.keepb (hg.out.alloc hg.out.size (.cells #[.pointer (some ⟨pa, 0, none⟩), .int .i64 (nw : Int), .int .i64 0] 144)), by show (wr.heap.push _)[wr.heap.size]? = _; simp, fun hs => by have := (H.out.lst.lo _ hs).2; have := hg.out.size; omega, Nat.le_trans H.out.bel.size hg.out.size⟩)
      have HMB := ahid hg.out.size
      obtain ⟨mb, hmb⟩ : ∃ m, m = wr.heap.size := ⟨_, rfl⟩
      obtain ⟨w0, hw0⟩ : ∃ x, x = wr.alloc (.cells #[.pointer (some ⟨pa, 0, none⟩), .int .i64 (nw : Int), .int .i64 0] 144) := ⟨_, rfl⟩
      have HB0 := ahid (show Below w.heap.size w w0 from by rw [hw0]; exact hg.out.alloc hg.out.size _)
      rw [← hmb] at H0 HMB ⊢
      rw [← hw0] at H0 ⊢
      have HLT := ahid H0.out.lt
      clear hw0 hmb HB H
      refine (smark_any H0.out (nm0 := nmEnd) (by decide) (look_names HF1x0.out) (by omega) (by omega)).mono ?_
      rintro e w1 ⟨rfl, hg⟩
      rw [← HE1.out] at hg
      have hg1 := hg
      obtain ⟨S1, h1, o1, r1⟩ := hg1
      have H1 := ahid h1
      have sz1 : w0.heap.size ≤ w1.heap.size := o1.size
      clear h1
      clear hg
      go_wp2_with fail
      refine (sld_any (rd := 1) (rs := 0) (n := 128) w1).mono ?_
      rintro e v0 ⟨rfl, hb0⟩
      go_wp2_with fail
      refine (salu_any (op := 8) (rd := 1) (rs := 1) (n := 4) (by omega) v0).mono ?_
      rintro e v1 ⟨rfl, hb1⟩
      replace hb1 := hb0.trans (hb1.mono hb0.size)
      go_wp2_with fail
      refine (sst_any (rd := 0) (rs := 1) (n := 76) v1).mono ?_
      rintro e v2 ⟨rfl, hb2⟩
      replace hb2 := hb1.trans (hb2.mono hb1.size)
      go_wp2_with fail
      refine (sput_lit H1.out (l := [ldI 1 0 128, aluI 8 1 1 4, stI 0 1 76]) lit_ok13 (by simp) (by simp; omega) hb2).mono ?_
      rintro e w2 ⟨rfl, hg⟩
      clear hb0 hb1 hb2
      rw [← HE2.out] at hg
      have hg2 := hg
      obtain ⟨S2, h2, o2, r2⟩ := hg2
      have H2 := ahid h2
      have sz2 : w0.heap.size ≤ w2.heap.size := Nat.le_trans sz1 o2.size
      clear h2
      clear hg
      go_wp2_with fail
      refine (sjump_any H2.out (cd := 0) (nm0 := nmSwap) (by omega) (by omega) (by decide) (by omega)).mono ?_
      rintro e w3 ⟨rfl, hg⟩
      rw [← HE3.out] at hg
      have hg3 := hg
      obtain ⟨S3, h3, o3, r3⟩ := hg3
      have H3 := ahid h3
      have sz3 : w0.heap.size ≤ w3.heap.size := Nat.le_trans sz2 o3.size
      clear h3
      clear hg
      go_wp2_with fail
      refine (smark_any H3.out (nm0 := nmYield) (by decide) (look_names HF4x0.out) (by omega) (by omega)).mono ?_
      rintro e w4 ⟨rfl, hg⟩
      rw [← HE4.out] at hg
      have hg4 := hg
      obtain ⟨S4, h4, o4, r4⟩ := hg4
      have H4 := ahid h4
      have sz4 : w0.heap.size ≤ w4.heap.size := Nat.le_trans sz3 o4.size
      clear h4
      clear hg
      go_wp2_with fail
      refine (sflush_any H4.out h32 HF5x0.out HF5x1.out (by omega) (by omega)).mono ?_
      rintro e w5 ⟨rfl, hg⟩
      rw [← HE5.out] at hg
      have hg5 := hg
      obtain ⟨S5, h5, o5, r5⟩ := hg5
      have H5 := ahid h5
      have sz5 : w0.heap.size ≤ w5.heap.size := Nat.le_trans sz4 o5.size
      clear h5
      clear hg
      go_wp2_with fail
      refine (skeep_any H5.out (by omega) (by omega)).mono ?_
      rintro e w6 ⟨rfl, hg⟩
      rw [← HE6.out] at hg
      have hg6 := hg
      obtain ⟨S6, h6, o6, r6⟩ := hg6
      have H6 := ahid h6
      have sz6 : w0.heap.size ≤ w6.heap.size := Nat.le_trans sz5 o6.size
      clear h6
      clear hg
      go_wp2_with fail
      refine (smark_any H6.out (nm0 := nmSwap) (by decide) (look_names HF7x0.out) (by omega) (by omega)).mono ?_
      rintro e w7 ⟨rfl, hg⟩
      rw [← HE7.out] at hg
      have hg7 := hg
      obtain ⟨S7, h7, o7, r7⟩ := hg7
      have H7 := ahid h7
      have sz7 : w0.heap.size ≤ w7.heap.size := Nat.le_trans sz6 o7.size
      clear h7
      clear hg
      go_wp2_with fail
      refine (schoose_any H7.out HF8x0.out HF8x1.out HF8x2.out HF8x3.out (by omega) (by omega)).mono ?_
      rintro e w8 ⟨rfl, hg⟩
      rw [← HE8.out] at hg
      have hg8 := hg
      obtain ⟨S8, h8, o8, r8⟩ := hg8
      have H8 := ahid h8
      have sz8 : w0.heap.size ≤ w8.heap.size := Nat.le_trans sz7 o8.size
      clear h8
      clear hg
      go_wp2_with fail
      refine (sresume_any H8.out h32 HF9x0.out (by omega) (by omega)).mono ?_
      rintro e w9 ⟨rfl, hg⟩
      rw [← HE9.out] at hg
      have hg9 := hg
      obtain ⟨S9, h9, o9, r9⟩ := hg9
      have H9 := ahid h9
      have sz9 : w0.heap.size ≤ w9.heap.size := Nat.le_trans sz8 o9.size
      clear h9
      have HG := ahid (SwGo.then HLT.out o1 r1 (SwGo.then (Nat.lt_of_lt_of_le HLT.out (sz1)) o2 r2 (SwGo.then (Nat.lt_of_lt_of_le HLT.out (sz2)) o3 r3 (SwGo.then (Nat.lt_of_lt_of_le HLT.out (sz3)) o4 r4 (SwGo.then (Nat.lt_of_lt_of_le HLT.out (sz4)) o5 r5 (SwGo.then (Nat.lt_of_lt_of_le HLT.out (sz5)) o6 r6 (SwGo.then (Nat.lt_of_lt_of_le HLT.out (sz6)) o7 r7 (SwGo.then (Nat.lt_of_lt_of_le HLT.out (sz7)) o8 r8 hg))))))))
      have c2 := HG.out.e0
      clear hg
      go_wp2_with fail
      go_ret
      exact ⟨rfl, BsGo.of_sw HB0.out HMB.out HG.out⟩
end Go.Proofs.YtajholbcpmjhiaaGreatDoor
