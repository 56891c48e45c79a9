/- The walk of muntinlaw05.MemNone: a memory that is none. -/
import Derived.Test.YtkokdcbnnihkaaaMemAct
namespace Go.Proofs.Ytkokdcbnnihkaaa
open Go.RowKit
set_option linter.unusedVariables false
set_option maxRecDepth 100000 in
set_option maxHeartbeats 2000000 in
theorem walk_MemNone (cs : Array Value) (what addr many wv : Int) (v : Value) (l : List Int) (w : World) (h : ActIs w cs.toList what addr many wv v l) :
    Calls Try.prog 13 #[.agg cs] w fun e w' => e = .returned (.bool true) ∧ Below w.heap.size w w' := by
  obtain rfl : cs = #[.int .u8 what, .int .u32 addr, .int .i64 many, .int .u32 wv, v] := by have := h.cells; apply Array.toList_inj.1; rw [this]
  obtain ⟨_, p, c, rfl, _⟩ := h.row
  have H := mhid h
  clear h
  go_enter Try.func13, Try.ntmps13
  go_wp2_with fail
  go_loop [5, 6, 7, 8, 9, 10] (fun i _ _ _ _ _ => ∃ k : Nat, k ≤ 2 ∧ i = .int .i64 k) (fun i _ _ _ _ _ => 2 - (intOf i).toNat)
  case atStart => exact ⟨0, Nat.zero_le _, rfl⟩
  case round =>
    obtain ⟨k, hk, rfl⟩ := hrel
    have hc : k = 0 ∨ k = 1 ∨ k = 2 := by omega
    rcases hc with rfl | rfl | rfl
    · have hd : True := trivial
      go_wp2_with fail
      refine (load_nil _ _ _).mono ?_
      rintro e w' ⟨rfl, rfl⟩
      go_wp2_with fail
      refine (words_nil _ _ _).mono ?_
      rintro e w' ⟨rfl, rfl⟩
      go_wp2_with fail
      refine (store_nil _ _ _ _).mono ?_
      rintro e w' ⟨rfl, rfl⟩
      go_wp2_with fail
      refine (put_nil _ _ _ _ _).mono ?_
      rintro e w' ⟨rfl, rfl⟩
      go_wp2_with fail
      refine (size_nil _).mono ?_
      rintro e w' ⟨rfl, rfl⟩
      go_wp2_with fail
      refine (copy_nil _).mono ?_
      rintro e w' ⟨rfl, rfl⟩
      go_wp2_with fail
      exact ⟨⟨1, by omega, rfl⟩, by simp [intOf]⟩
    · have hd : True := trivial
      have hm : (((w.alloc (.cells #[.int .u8 what, .int .u32 addr, .int .i64 many, .int .u32 wv, .slice p l.length c] 25)).alloc (.cells #[.slice none 0 0, .bool false] 65)).alloc (.cells #[.pointer none, .pointer (some ⟨w.heap.size + 1, 0, none⟩)] 26)).cell? ⟨w.heap.size + 1, 1, none⟩ = some (.bool false) := by simp [go_sem]
      go_wp2_with fail
      refine (load_unmade _ _ hm _ _).mono ?_
      rintro e w' ⟨rfl, rfl⟩
      go_wp2_with fail
      refine (words_unmade _ _ hm _ _).mono ?_
      rintro e w' ⟨rfl, rfl⟩
      go_wp2_with fail
      refine (store_unmade _ _ hm _ _ _).mono ?_
      rintro e w' ⟨rfl, rfl⟩
      go_wp2_with fail
      refine (put_unmade _ _ hm _ _ _ _).mono ?_
      rintro e w' ⟨rfl, rfl⟩
      go_wp2_with fail
      refine (size_unmade _ _ hm).mono ?_
      rintro e w' ⟨rfl, rfl⟩
      go_wp2_with fail
      refine (copy_unmade _ _ hm).mono ?_
      rintro e w' ⟨rfl, rfl⟩
      go_wp2_with fail
      exact ⟨⟨2, by omega, rfl⟩, by simp [intOf]⟩
    · go_wp2_with fail
      refine (mhead_any _).mono ?_
      rintro e w' ⟨rfl, B⟩
      go_wp2_with fail
      go_ret
      exact ⟨rfl, mbt ((((Below.refl _ w).alloc (Nat.le_refl _) _).alloc (by simp) _).alloc (by simp; omega) _) B⟩
end Go.Proofs.Ytkokdcbnnihkaaa
