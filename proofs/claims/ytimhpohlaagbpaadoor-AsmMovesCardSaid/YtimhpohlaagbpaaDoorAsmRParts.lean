/- The document's list (muntinref07): Parts. -/
import Derived.Test.YtimhpohlaagbpaaDoorAsmRMark
namespace Go.Proofs.YtimhpohlaagbpaaDoor
open Go.RowKit Go.Maps
set_option linter.unusedVariables false
set_option linter.unusedSimpArgs false
/-- What Parts of the document leaves. -/
def RPartsOk (w : World) (rd n : Int) (e : Ending) (w' : World) : Prop := ∃ v, e = .returned v ∧ InsIn w' v (partsS rd n) ∧ Below w.heap.size w w'
set_option maxRecDepth 100000 in
set_option maxHeartbeats 2000000 in
theorem rparts_any (w : World) (rd n : Int) (r0 : 0 ≤ rd) (r1 : rd < 256) (h0 : 0 ≤ n) (h1 : n < 4294967296) :
    Calls Tryd.prog 27 #[.int .u8 rd, .int .u32 n] w (RPartsOk w rd n) := by
  have hbd := parts_bd r0 r1 h0 h1
  have hhalf : sgn n 2147483648 = if 2147483648 ≤ n then n - 4294967296 else n := rfl
  have hsr : -2147483648 ≤ sgn n 2147483648 ∧ sgn n 2147483648 < 2147483648 := by rw [hhalf]; split <;> omega
  by_cases hs : -16384 ≤ sgn n 2147483648 ∧ sgn n 2147483648 < 16384
  · have hp : partsS rd n = [⟨1, rd, 0, 0, true, sgn n 2147483648⟩] := if_pos hs
    have hw32 : wrap32 (sgn n 2147483648) = sgn n 2147483648 := by unfold wrap32; omega
    rw [hp] at hbd
    have HP := ahid (And.intro hp hbd)
    have HW := ahid hw32
    clear hp hbd hw32
    by_cases hh : 2147483648 ≤ n
    · rw [if_pos hh] at hhalf
      rw [hhalf] at HP HW hs
      have hw := HW.out
      have t1 := hs.1
      have t2 := hs.2
      clear hs hsr hhalf
      go_enter Tryd.func27, Tryd.ntmps27
      go_wp2_with fail
      go_ret
      exact ⟨_, rfl, by rw [HP.out.1]; exact InsIn.one HP.out.2 w, (Below.refl _ _).alloc (Nat.le_refl _) _⟩
    · rw [if_neg hh] at hhalf
      rw [hhalf] at HP HW hs
      have hw := HW.out
      have t1 := hs.1
      have t2 := hs.2
      clear hs hsr hhalf
      go_enter Tryd.func27, Tryd.ntmps27
      go_wp2_with fail
      go_ret
      exact ⟨_, rfl, by rw [HP.out.1]; exact InsIn.one HP.out.2 w, (Below.refl _ _).alloc (Nat.le_refl _) _⟩
  · by_cases hz : n % 2048 = 0
    · have hp : partsS rd n = [⟨15, rd, 0, 0, true, n / 2048⟩] := by unfold partsS; rw [if_neg hs, if_pos hz]
      rw [hp] at hbd
      by_cases hh : 2147483648 ≤ n
      · have HP := ahid (And.intro hp hbd)
        clear hp hbd
        rw [if_pos hh] at hhalf
        rw [hhalf] at hs
        have t1 : ¬ (-16384 ≤ n - 4294967296) := by omega
        
        clear hs hsr hhalf
        go_enter Tryd.func27, Tryd.ntmps27
        go_wp2_with fail
        go_ret
        exact ⟨_, rfl, by rw [HP.out.1]; exact InsIn.one HP.out.2 w, (Below.refl _ _).alloc (Nat.le_refl _) _⟩
      · have HP := ahid (And.intro hp hbd)
        clear hp hbd
        rw [if_neg hh] at hhalf
        rw [hhalf] at hs
        have t1 : -16384 ≤ n := by omega
        have t2 : ¬ (n < 16384) := by omega
        clear hs hsr hhalf
        go_enter Tryd.func27, Tryd.ntmps27
        go_wp2_with fail
        go_ret
        exact ⟨_, rfl, by rw [HP.out.1]; exact InsIn.one HP.out.2 w, (Below.refl _ _).alloc (Nat.le_refl _) _⟩
    · have hp : partsS rd n = [⟨15, rd, 0, 0, true, n / 2048⟩, ⟨7, rd, rd, 0, true, n % 2048⟩] := by unfold partsS; rw [if_neg hs, if_neg hz]
      rw [hp] at hbd
      have hzb : (n % 2048 != 0) = true := by simpa using hz
      have hzw : wrap32 (n % 2048) = n % 2048 := by unfold wrap32; omega
      obtain ⟨i0, hi, hz0, hz1, hz2⟩ := info_parts infoi
      have hown := own_new w w.heap.size #[.int .u8 15, .int .u8 rd, .int .u8 0, .int .u8 0, .bool true, .int .i32 (n / 2048)] 58 1 6 rfl (by simp [maxLen]) (Nat.le_refl _)
      have hcn := cells_new (w.alloc (.cells #[.int .u8 15, .int .u8 rd, .int .u8 0, .int .u8 0, .bool true, .int .i32 (n / 2048)] 58)) #[.int .u8 7, .int .u8 rd, .int .u8 rd, .int .u8 0, .bool true, .int .i32 (n % 2048)] 58
      rw [show (w.alloc (.cells #[.int .u8 15, .int .u8 rd, .int .u8 0, .int .u8 0, .bool true, .int .i32 (n / 2048)] 58)).heap.size = w.heap.size + 1 by simp] at hcn
      have HO := ahid (And.intro hown hcn)
      clear hown hcn
      by_cases hh : 2147483648 ≤ n
      · have HP := ahid (And.intro hp hbd)
        clear hp hbd
        rw [if_pos hh] at hhalf
        rw [hhalf] at hs
        have t1 : ¬ (-16384 ≤ n - 4294967296) := by omega
        
        clear hs hsr hhalf
        go_enter Tryd.func27, Tryd.ntmps27
        go_wp2_with (first | (at_builtin; refine wpList_append_own _ rfl _ _ 23 rfl w.heap.size 58 i0 _ 6 12 Tryd.underlying23 hi hz0 hz1 hz2 rfl (by decide) (.slice (some ⟨w.heap.size, 0, none⟩) 1 1) 1 _ rfl (HO.out.1.alloc _) ⟨w.heap.size + 1, 0, none⟩ 1 1 [.int .u8 7, .int .u8 rd, .int .u8 rd, .int .u8 0, .bool true, .int .i32 (n % 2048)] rfl rfl HO.out.2 (by simp [Value.oneCell']) (by simp [maxLen]) (by omega) (by simp <;> omega) ?_; intro v' w3 hown3 hgrow3 hnil3))
        have hb3 : Below w.heap.size w w3 := (((Below.refl _ w).alloc (Nat.le_refl _) _).alloc (by simp) _).grown hgrow3 (by simp <;> omega) (fun k hk => by cases hk; exact Nat.le_refl _)
        go_ret
        exact ⟨v', rfl, by rw [HP.out.1]; exact InsIn.of_own (B := w.heap.size) HP.out.2 (by simp [maxLen]) hown3, hb3⟩
      · have HP := ahid (And.intro hp hbd)
        clear hp hbd
        rw [if_neg hh] at hhalf
        rw [hhalf] at hs
        have t1 : -16384 ≤ n := by omega
        have t2 : ¬ (n < 16384) := by omega
        clear hs hsr hhalf
        go_enter Tryd.func27, Tryd.ntmps27
        go_wp2_with (first | (at_builtin; refine wpList_append_own _ rfl _ _ 23 rfl w.heap.size 58 i0 _ 6 12 Tryd.underlying23 hi hz0 hz1 hz2 rfl (by decide) (.slice (some ⟨w.heap.size, 0, none⟩) 1 1) 1 _ rfl (HO.out.1.alloc _) ⟨w.heap.size + 1, 0, none⟩ 1 1 [.int .u8 7, .int .u8 rd, .int .u8 rd, .int .u8 0, .bool true, .int .i32 (n % 2048)] rfl rfl HO.out.2 (by simp [Value.oneCell']) (by simp [maxLen]) (by omega) (by simp <;> omega) ?_; intro v' w3 hown3 hgrow3 hnil3))
        have hb3 : Below w.heap.size w w3 := (((Below.refl _ w).alloc (Nat.le_refl _) _).alloc (by simp) _).grown hgrow3 (by simp <;> omega) (fun k hk => by cases hk; exact Nat.le_refl _)
        go_ret
        exact ⟨v', rfl, by rw [HP.out.1]; exact InsIn.of_own (B := w.heap.size) HP.out.2 (by simp [maxLen]) hown3, hb3⟩
end Go.Proofs.YtimhpohlaagbpaaDoor
