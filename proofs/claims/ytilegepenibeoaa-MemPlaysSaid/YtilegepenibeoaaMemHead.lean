/- The walk of muntinlaw05.head: the calls whose answers the document fixes. -/
import Derived.Test.YtilegepenibeoaaMemWords
import Derived.Test.YtilegepenibeoaaMemSame
namespace Go.Proofs.Ytilegepenibeoaa
open Go.RowKit
set_option linter.unusedVariables false
theorem mbt {a b c : World} (h : Below a.heap.size a b) (k : Below b.heap.size b c) : Below a.heap.size a c := h.trans (k.mono h.size)
/-- A call that changes one block of the call's own. -/
theorem mbo {a b c : World} {g : Nat} (h : Below a.heap.size a b) (k : Only (· = g) b c) (hg : a.heap.size ≤ g) : Below a.heap.size a c :=
  h.trans (k.below h.size (fun i hi e => by omega))
theorem two_words (w : World) (S : Nat → Prop) (x y : Int) (hx : 0 ≤ x ∧ x < 4294967296) (hy : 0 ≤ y ∧ y < 4294967296) (hS : ∀ k, S k → k < w.heap.size) :
    U32s S (w.alloc (.cells #[.int .u32 x, .int .u32 y] 31)) (.slice (some ⟨w.heap.size, 0, none⟩) 2 2) [x, y] := by
  refine ⟨fun z hz => ?_, _, 2, rfl, fun _ => ⟨w.heap.size, 0, rfl, fun h => ?_, by simp, fun k hk => ?_⟩⟩
  · simp at hz; rcases hz with rfl | rfl
    · exact hx
    · exact hy
  · have := hS _ h; omega
  · have hc : k = 0 ∨ k = 1 := by simp at hk; omega
    rcases hc with rfl | rfl <;> simp
theorem two_read (w : World) (x y : Int) : Reads32 (w.alloc (.cells #[.int .u32 x, .int .u32 y] 31)) (.slice (some ⟨w.heap.size, 0, none⟩) 2 2) [x, y] := by
  refine ⟨by unfold maxLen; simp, _, 2, rfl, fun _ => ⟨w.heap.size, 0, rfl, fun k hk => ?_⟩⟩
  have hc : k = 0 ∨ k = 1 := by simp at hk; omega
  rcases hc with rfl | rfl <;> simp
theorem Reads32.keep {a b : World} {v : Value} {l : List Int} (h : Reads32 a v l) (hb : Below a.heap.size a b) : Reads32 b v l := by
  obtain ⟨h1, p, c, rfl, h2⟩ := h
  refine ⟨h1, p, c, rfl, fun h0 => ?_⟩
  obtain ⟨k, o, rfl, h3⟩ := h2 h0
  exact ⟨k, o, rfl, fun j hj => (hb.cell (World.block_lt_of_cell? _ _ (h3 j hj))).trans (h3 j hj)⟩
abbrev e0 : List Int := [0, 0, 0, 0, 0, 0, 0, 0, 0, 0, 0, 0, 0, 0, 0, 0]
abbrev e1 : List Int := [0, 0, 0, 0, 1, 2, 3, 4, 0, 0, 0, 0, 0, 0, 0, 0]
abbrev e2 : List Int := [0, 0, 0, 0, 1, 255, 3, 4, 0, 0, 0, 0, 0, 0, 0, 0]
abbrev e3 : List Int := [0, 0, 0, 0, 1, 255, 3, 4, 0, 0, 0, 5, 0, 0, 0, 6]
set_option maxRecDepth 100000 in
set_option maxHeartbeats 4000000 in
theorem mhead_any (w : World) : Calls Try.prog 7 #[] w fun e w' => e = .returned (.bool true) ∧ Below w.heap.size w w' := by
  go_enter Try.func7, Try.ntmps7
  go_wp2_with fail
  refine (new_ok 16 w (by omega) (by omega)).mono ?_
  rintro e w0 ⟨m, g, rfl, hm, hg, H, B⟩
  have H : MemAt w0 m g e0 := H
  go_wp2_with fail
  refine (store_any _ m g e0 H 4 4 (by omega) (by omega) 16909060 (by omega) (by omega)).mono ?_
  rintro e w' ⟨he, H1, O, -⟩
  obtain rfl : e = .returned (.int .i64 0) := he.trans (mret_i (by decide))
  have B := mbo B O hg
  have H : MemAt w' m g e1 := by rw [show storeV e0 4 4 16909060 = e1 from by decide] at H1; exact H1
  clear he H1 O
  go_wp2_with fail
  refine (load_any _ m g e1 H 4 1 (by omega) (by omega)).mono ?_
  rintro e w' ⟨he, rfl⟩
  obtain rfl : e = .returned (.tuple #[.int .u32 1, .int .i64 0]) := he.trans (mret_ii (by decide) (by decide))
  clear he
  go_wp2_with fail
  refine (load_any _ m g e1 H 7 1 (by omega) (by omega)).mono ?_
  rintro e w' ⟨he, rfl⟩
  obtain rfl : e = .returned (.tuple #[.int .u32 4, .int .i64 0]) := he.trans (mret_ii (by decide) (by decide))
  clear he
  go_wp2_with fail
  refine (store_any _ m g e1 H 5 1 (by omega) (by omega) 511 (by omega) (by omega)).mono ?_
  rintro e w' ⟨he, H1, O, -⟩
  obtain rfl : e = .returned (.int .i64 0) := he.trans (mret_i (by decide))
  have B := mbo B O hg
  have H : MemAt w' m g e2 := by rw [show storeV e1 5 1 511 = e2 from by decide] at H1; exact H1
  clear he H1 O
  go_wp2_with fail
  refine (load_any _ m g e2 H 4 4 (by omega) (by omega)).mono ?_
  rintro e w' ⟨he, rfl⟩
  obtain rfl : e = .returned (.tuple #[.int .u32 33489668, .int .i64 0]) := he.trans (mret_ii (by decide) (by decide))
  clear he
  go_wp2_with fail
  refine (load_any _ m g e2 H 6 4 (by omega) (by omega)).mono ?_
  rintro e w' ⟨he, rfl⟩
  obtain rfl : e = .returned (.tuple #[.int .u32 0, .int .i64 51]) := he.trans (mret_ii (by decide) (by decide))
  clear he
  go_wp2_with fail
  refine (load_any _ m g e2 H 16 4 (by omega) (by omega)).mono ?_
  rintro e w' ⟨he, rfl⟩
  obtain rfl : e = .returned (.tuple #[.int .u32 0, .int .i64 50]) := he.trans (mret_ii (by decide) (by decide))
  clear he
  go_wp2_with fail
  refine (load_any _ m g e2 H 0 2 (by omega) (by omega)).mono ?_
  rintro e w' ⟨he, rfl⟩
  obtain rfl : e = .returned (.tuple #[.int .u32 0, .int .i64 2]) := he.trans (mret_ii (by decide) (by decide))
  clear he
  go_wp2_with fail
  refine (load_any _ m g e2 H 4294967292 4 (by omega) (by omega)).mono ?_
  rintro e w' ⟨he, rfl⟩
  obtain rfl : e = .returned (.tuple #[.int .u32 0, .int .i64 50]) := he.trans (mret_ii (by decide) (by decide))
  clear he
  go_wp2_with fail
  have hW := H.lt
  have HA : MemAt (w'.alloc (.cells #[.int .u32 5, .int .u32 6] 31)) m g e2 := H.keep ((Only.refl (fun _ => False) w').alloc _) id id
  have B := B.alloc B.size (.cells #[.int .u32 5, .int .u32 6] 31)
  have hU := two_words w' (· = g) 5 6 (by omega) (by omega) (fun k hk => hk ▸ hW.2)
  clear hW
  refine (put_any _ m g e2 HA 8 (by omega) (by omega) _ [5, 6] (by unfold maxLen; simp) hU).mono ?_
  rintro e w' ⟨he, H1, O, -⟩
  obtain rfl : e = .returned (.int .i64 0) := he.trans (mret_i (by decide))
  have B := mbo B O hg
  have H : MemAt w' m g e3 := by rw [show putV e2 8 [5, 6] = e3 from by decide] at H1; exact H1
  clear he H1 O HA hU
  go_wp2_with fail
  have hW := H.lt
  have HA : MemAt (w'.alloc (.cells #[.int .u32 1, .int .u32 2] 31)) m g e3 := H.keep ((Only.refl (fun _ => False) w').alloc _) id id
  have B := B.alloc B.size (.cells #[.int .u32 1, .int .u32 2] 31)
  have hU := two_words w' (· = g) 1 2 (by omega) (by omega) (fun k hk => hk ▸ hW.2)
  clear hW
  refine (put_any _ m g e3 HA 12 (by omega) (by omega) _ [1, 2] (by unfold maxLen; simp) hU).mono ?_
  rintro e w' ⟨he, H1, O, -⟩
  obtain rfl : e = .returned (.int .i64 50) := he.trans (mret_i (by decide))
  have B := mbo B O hg
  have H : MemAt w' m g e3 := by rw [show putV e3 12 [1, 2] = e3 from by decide] at H1; exact H1
  clear he H1 O HA hU
  go_wp2_with fail
  refine (words_any _ m g e3 H 8 (by omega) (by omega) 2 (by omega)).mono ?_
  rintro e w' ⟨v, l, he, hl, hown, B2⟩
  obtain rfl : e = .returned (.tuple #[v, .int .i64 0]) := he.trans (tell_ret (by decide))
  obtain rfl : l = [5, 6] := hl.trans (by decide)
  have B := mbt B B2
  have R := Reads32.of_own hown
  clear he hl hown B2
  go_wp2_with fail
  have R2 : Reads32 (w'.alloc (.cells #[.int .u32 5, .int .u32 6] 31)) v [5, 6] := R.keep ((Below.refl _ w').alloc (Nat.le_refl _) _)
  have B := B.alloc B.size (.cells #[.int .u32 5, .int .u32 6] 31)
  refine (same_any _ v _ [5, 6] [5, 6] R2 (two_read w' 5 6)).mono ?_
  rintro e w' ⟨rfl, B2⟩
  have B := mbt B B2
  clear R R2 B2
  go_wp2_with fail
  go_ret
  exact ⟨rfl, B⟩
end Go.Proofs.Ytilegepenibeoaa
