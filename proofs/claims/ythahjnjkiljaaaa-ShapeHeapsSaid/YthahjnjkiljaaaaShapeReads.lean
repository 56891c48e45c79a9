/- The walk of shape.Reads. -/
import Derived.Test.YthahjnjkiljaaaaShapeIns
import Derived.Lib.SliceRun
namespace Go.Proofs.Ythahjnjkiljaaaa
open Go.RowKit
set_option linter.unusedVariables false
set_option linter.unusedSimpArgs false
theorem IntsOwn.of_below {w w1 w' : World} {l : List Int} {e : Ending} (hb : Below w.heap.size w w1) (h : IntsOwn w1 l e w') : IntsOwn w l e w' := by
  obtain ⟨v, he, ho, hb2⟩ := h
  refine ⟨v, he, ⟨ho.1, ?_⟩, sbt hb hb2⟩
  rcases ho.2 with h | ⟨g, cap, cur, h1, h2, h3⟩
  · exact .inl h
  · exact .inr ⟨g, cap, cur, h1, Nat.le_trans hb.size h2, h3⟩
set_option maxRecDepth 100000 in
set_option maxHeartbeats 2000000 in
theorem reads_any (x : Insx) (hx : x.bd) (p : Option Addr) (n c : Nat) (w : World) (ha : IntsIn w (.slice p n c) x.args) :
    Calls Try.prog 28 #[x.agg (.slice p n c)] w (IntsOwn w (readsS x)) := by
  obtain ⟨⟨h0, h1⟩, _⟩ := hx
  have hW : Hid (readsS x = if x.op = 1 ∨ x.op = 4 then [x.a, x.b] else if x.op = 2 ∨ x.op = 3 ∨ x.op = 6 ∨ x.op = 9 ∨ x.op = 10 then [x.a] else if x.op = 5 then x.args else []) := shid rfl
  obtain ⟨i0, hi, hz0, hz1, hz2⟩ := info_parts infoint
  obtain ⟨op, d, a, b, n', f, args, l1, l2⟩ := x
  simp only at h0 h1 hW ha
  have HA := shid ha
  clear ha
  rcases op_cases h0 with rfl | rfl | rfl | rfl | rfl | rfl | rfl | rfl | rfl | rfl | rfl | hop
  case inr.inr.inr.inr.inr.inr.inr.inr.inr.inr.inr =>
    obtain ⟨o0, o1, o2, o3, o4, o5, o6, o8, o9, o10⟩ := op_no hop
    have hr : readsS ⟨op, d, a, b, n', f, args, l1, l2⟩ = [] := by rw [hW.out, if_neg (by omega), if_neg (by omega), if_neg (by omega)]
    have HR := shid hr
    clear hr hop
    go_enter Try.func28, Try.ntmps28
    go_wp2_with fail
    go_ret
    exact ⟨_, rfl, by rw [HR.out]; exact World.ownsRow_nil _ _ _ _, by go_grown⟩
  case inr.inr.inr.inr.inr.inl =>
    have hr : readsS ⟨5, d, a, b, n', f, args, l1, l2⟩ = args := by rw [hW.out]; simp
    have HR := shid hr
    clear hr
    go_enter Try.func28, Try.ntmps28
    go_wp2_with fail
    refine (iclone_any _ _ args (HA.out.keep fun _ _ _ _ hh => hh.keep ((Below.refl _ _).alloc (Nat.le_refl _) _))).mono ?_
    rintro e w1 ⟨v, rfl, ho, hb⟩
    have HO := shid (IntsOwn.of_below (w := w) ((Below.refl _ _).alloc (Nat.le_refl _) _) ⟨v, rfl, ho, hb⟩)
    have hsh := ho.2
    clear ho hb
    rcases hsh with ⟨rfl, _⟩ | ⟨g, cap, cur, rfl, _⟩
    all_goals
      go_wp2_with fail
      go_ret
      rw [HR.out]
      exact HO.out
  case inl =>
    have HR := shid (show readsS ⟨0, d, a, b, n', f, args, l1, l2⟩ = [] by rw [hW.out]; simp)
    go_enter Try.func28, Try.ntmps28
    go_wp2_with fail
    go_ret
    exact ⟨_, rfl, by rw [HR.out]; exact World.ownsRow_nil _ _ _ _, by go_grown⟩
  case inr.inl =>
    have HR := shid (show readsS ⟨1, d, a, b, n', f, args, l1, l2⟩ = [a, b] by rw [hW.out]; simp)
    have HO := shid (own_new ((w.alloc (.cells #[.int .u8 1, .int .i64 d, .int .i64 a, .int .i64 b, .int .u32 n', .int .i64 f, .slice p n c, .int .i64 l1, .int .i64 l2] 44)).alloc (.cells #[.int .i64 b] 3)) w.heap.size #[.int .i64 a] 3 1 1 rfl (by simp [maxLen]) (by simp <;> omega))
    have HC := shid (fun (j : Nat) u (hu : [Value.int .i64 b][j]? = some u) => Lib.cell?_alloc_some (.cells #[.int .i64 a] 3) (cells_new (w.alloc (.cells #[.int .u8 1, .int .i64 d, .int .i64 a, .int .i64 b, .int .u32 n', .int .i64 f, .slice p n c, .int .i64 l1, .int .i64 l2] 44)) #[.int .i64 b] 3 j u hu))
    rw [show ((w.alloc (.cells #[.int .u8 1, .int .i64 d, .int .i64 a, .int .i64 b, .int .u32 n', .int .i64 f, .slice p n c, .int .i64 l1, .int .i64 l2] 44)).alloc (.cells #[.int .i64 b] 3)).heap.size = w.heap.size + 1 + 1 by simp] at HO
    rw [show (w.alloc (.cells #[.int .u8 1, .int .i64 d, .int .i64 a, .int .i64 b, .int .u32 n', .int .i64 f, .slice p n c, .int .i64 l1, .int .i64 l2] 44)).heap.size = w.heap.size + 1 by simp] at HC
    go_enter Try.func28, Try.ntmps28
    go_wp2_with (first | (at_builtin; refine wpList_append_own _ rfl _ _ 22 rfl w.heap.size 3 i0 _ 1 8 Try.underlying22 hi hz0 hz1 hz2 rfl (by decide) (.slice (some ⟨w.heap.size + 1 + 1, 0, none⟩) 1 1) 1 _ rfl HO.out ⟨w.heap.size + 1, 0, none⟩ 1 1 [.int .i64 b] rfl rfl HC.out (by simp [Value.oneCell']) (by simp [maxLen]) (by omega) (by simp <;> omega) ?_; intro v' w3 hown3 hgrow3 hnil3; have hb3 : Below w.heap.size w w3 := Below.grown (by go_grown) hgrow3 (by simp <;> omega) (by intro k hk; cases hk; show w.heap.size ≤ w.heap.size + 1 + 1; omega)))
    rcases hown3.2 with ⟨rfl, _⟩ | ⟨g3, cap3, _, rfl, _⟩
    all_goals
      go_wp2_with fail
      go_ret
      exact ⟨_, rfl, by rw [HR.out]; exact hown3, hb3⟩
  case inr.inr.inl =>
    have HR := shid (show readsS ⟨2, d, a, b, n', f, args, l1, l2⟩ = [a] by rw [hW.out]; simp)
    have HO := shid (own_new (w.alloc (.cells #[.int .u8 2, .int .i64 d, .int .i64 a, .int .i64 b, .int .u32 n', .int .i64 f, .slice p n c, .int .i64 l1, .int .i64 l2] 44)) w.heap.size #[.int .i64 a] 3 1 1 rfl (by simp [maxLen]) (by simp <;> omega))
    rw [show (w.alloc (.cells #[.int .u8 2, .int .i64 d, .int .i64 a, .int .i64 b, .int .u32 n', .int .i64 f, .slice p n c, .int .i64 l1, .int .i64 l2] 44)).heap.size = w.heap.size + 1 by simp] at HO
    go_enter Try.func28, Try.ntmps28
    go_wp2_with (first | (at_builtin; refine wpList_append_own_none rfl _ _ 22 rfl w.heap.size 3 i0 1 Try.underlying22 hi (.slice (some ⟨w.heap.size + 1, 0, none⟩) 1 1) 1 _ rfl HO.out rfl ?_))
    go_ret
    exact ⟨_, rfl, by rw [HR.out]; exact HO.out, by go_grown⟩
  case inr.inr.inr.inl =>
    have HR := shid (show readsS ⟨3, d, a, b, n', f, args, l1, l2⟩ = [a] by rw [hW.out]; simp)
    have HO := shid (own_new (w.alloc (.cells #[.int .u8 3, .int .i64 d, .int .i64 a, .int .i64 b, .int .u32 n', .int .i64 f, .slice p n c, .int .i64 l1, .int .i64 l2] 44)) w.heap.size #[.int .i64 a] 3 1 1 rfl (by simp [maxLen]) (by simp <;> omega))
    rw [show (w.alloc (.cells #[.int .u8 3, .int .i64 d, .int .i64 a, .int .i64 b, .int .u32 n', .int .i64 f, .slice p n c, .int .i64 l1, .int .i64 l2] 44)).heap.size = w.heap.size + 1 by simp] at HO
    go_enter Try.func28, Try.ntmps28
    go_wp2_with (first | (at_builtin; refine wpList_append_own_none rfl _ _ 22 rfl w.heap.size 3 i0 1 Try.underlying22 hi (.slice (some ⟨w.heap.size + 1, 0, none⟩) 1 1) 1 _ rfl HO.out rfl ?_))
    go_ret
    exact ⟨_, rfl, by rw [HR.out]; exact HO.out, by go_grown⟩
  case inr.inr.inr.inr.inl =>
    have HR := shid (show readsS ⟨4, d, a, b, n', f, args, l1, l2⟩ = [a, b] by rw [hW.out]; simp)
    have HO := shid (own_new ((w.alloc (.cells #[.int .u8 4, .int .i64 d, .int .i64 a, .int .i64 b, .int .u32 n', .int .i64 f, .slice p n c, .int .i64 l1, .int .i64 l2] 44)).alloc (.cells #[.int .i64 b] 3)) w.heap.size #[.int .i64 a] 3 1 1 rfl (by simp [maxLen]) (by simp <;> omega))
    have HC := shid (fun (j : Nat) u (hu : [Value.int .i64 b][j]? = some u) => Lib.cell?_alloc_some (.cells #[.int .i64 a] 3) (cells_new (w.alloc (.cells #[.int .u8 4, .int .i64 d, .int .i64 a, .int .i64 b, .int .u32 n', .int .i64 f, .slice p n c, .int .i64 l1, .int .i64 l2] 44)) #[.int .i64 b] 3 j u hu))
    rw [show ((w.alloc (.cells #[.int .u8 4, .int .i64 d, .int .i64 a, .int .i64 b, .int .u32 n', .int .i64 f, .slice p n c, .int .i64 l1, .int .i64 l2] 44)).alloc (.cells #[.int .i64 b] 3)).heap.size = w.heap.size + 1 + 1 by simp] at HO
    rw [show (w.alloc (.cells #[.int .u8 4, .int .i64 d, .int .i64 a, .int .i64 b, .int .u32 n', .int .i64 f, .slice p n c, .int .i64 l1, .int .i64 l2] 44)).heap.size = w.heap.size + 1 by simp] at HC
    go_enter Try.func28, Try.ntmps28
    go_wp2_with (first | (at_builtin; refine wpList_append_own _ rfl _ _ 22 rfl w.heap.size 3 i0 _ 1 8 Try.underlying22 hi hz0 hz1 hz2 rfl (by decide) (.slice (some ⟨w.heap.size + 1 + 1, 0, none⟩) 1 1) 1 _ rfl HO.out ⟨w.heap.size + 1, 0, none⟩ 1 1 [.int .i64 b] rfl rfl HC.out (by simp [Value.oneCell']) (by simp [maxLen]) (by omega) (by simp <;> omega) ?_; intro v' w3 hown3 hgrow3 hnil3; have hb3 : Below w.heap.size w w3 := Below.grown (by go_grown) hgrow3 (by simp <;> omega) (by intro k hk; cases hk; show w.heap.size ≤ w.heap.size + 1 + 1; omega)))
    rcases hown3.2 with ⟨rfl, _⟩ | ⟨g3, cap3, _, rfl, _⟩
    all_goals
      go_wp2_with fail
      go_ret
      exact ⟨_, rfl, by rw [HR.out]; exact hown3, hb3⟩
  case inr.inr.inr.inr.inr.inr.inl =>
    have HR := shid (show readsS ⟨6, d, a, b, n', f, args, l1, l2⟩ = [a] by rw [hW.out]; simp)
    have HO := shid (own_new (w.alloc (.cells #[.int .u8 6, .int .i64 d, .int .i64 a, .int .i64 b, .int .u32 n', .int .i64 f, .slice p n c, .int .i64 l1, .int .i64 l2] 44)) w.heap.size #[.int .i64 a] 3 1 1 rfl (by simp [maxLen]) (by simp <;> omega))
    rw [show (w.alloc (.cells #[.int .u8 6, .int .i64 d, .int .i64 a, .int .i64 b, .int .u32 n', .int .i64 f, .slice p n c, .int .i64 l1, .int .i64 l2] 44)).heap.size = w.heap.size + 1 by simp] at HO
    go_enter Try.func28, Try.ntmps28
    go_wp2_with (first | (at_builtin; refine wpList_append_own_none rfl _ _ 22 rfl w.heap.size 3 i0 1 Try.underlying22 hi (.slice (some ⟨w.heap.size + 1, 0, none⟩) 1 1) 1 _ rfl HO.out rfl ?_))
    go_ret
    exact ⟨_, rfl, by rw [HR.out]; exact HO.out, by go_grown⟩
  case inr.inr.inr.inr.inr.inr.inr.inl =>
    have HR := shid (show readsS ⟨7, d, a, b, n', f, args, l1, l2⟩ = [] by rw [hW.out]; simp)
    go_enter Try.func28, Try.ntmps28
    go_wp2_with fail
    go_ret
    exact ⟨_, rfl, by rw [HR.out]; exact World.ownsRow_nil _ _ _ _, by go_grown⟩
  case inr.inr.inr.inr.inr.inr.inr.inr.inl =>
    have HR := shid (show readsS ⟨8, d, a, b, n', f, args, l1, l2⟩ = [] by rw [hW.out]; simp)
    go_enter Try.func28, Try.ntmps28
    go_wp2_with fail
    go_ret
    exact ⟨_, rfl, by rw [HR.out]; exact World.ownsRow_nil _ _ _ _, by go_grown⟩
  case inr.inr.inr.inr.inr.inr.inr.inr.inr.inl =>
    have HR := shid (show readsS ⟨9, d, a, b, n', f, args, l1, l2⟩ = [a] by rw [hW.out]; simp)
    have HO := shid (own_new (w.alloc (.cells #[.int .u8 9, .int .i64 d, .int .i64 a, .int .i64 b, .int .u32 n', .int .i64 f, .slice p n c, .int .i64 l1, .int .i64 l2] 44)) w.heap.size #[.int .i64 a] 3 1 1 rfl (by simp [maxLen]) (by simp <;> omega))
    rw [show (w.alloc (.cells #[.int .u8 9, .int .i64 d, .int .i64 a, .int .i64 b, .int .u32 n', .int .i64 f, .slice p n c, .int .i64 l1, .int .i64 l2] 44)).heap.size = w.heap.size + 1 by simp] at HO
    go_enter Try.func28, Try.ntmps28
    go_wp2_with (first | (at_builtin; refine wpList_append_own_none rfl _ _ 22 rfl w.heap.size 3 i0 1 Try.underlying22 hi (.slice (some ⟨w.heap.size + 1, 0, none⟩) 1 1) 1 _ rfl HO.out rfl ?_))
    go_ret
    exact ⟨_, rfl, by rw [HR.out]; exact HO.out, by go_grown⟩
  case inr.inr.inr.inr.inr.inr.inr.inr.inr.inr.inl =>
    have HR := shid (show readsS ⟨10, d, a, b, n', f, args, l1, l2⟩ = [a] by rw [hW.out]; simp)
    have HO := shid (own_new (w.alloc (.cells #[.int .u8 10, .int .i64 d, .int .i64 a, .int .i64 b, .int .u32 n', .int .i64 f, .slice p n c, .int .i64 l1, .int .i64 l2] 44)) w.heap.size #[.int .i64 a] 3 1 1 rfl (by simp [maxLen]) (by simp <;> omega))
    rw [show (w.alloc (.cells #[.int .u8 10, .int .i64 d, .int .i64 a, .int .i64 b, .int .u32 n', .int .i64 f, .slice p n c, .int .i64 l1, .int .i64 l2] 44)).heap.size = w.heap.size + 1 by simp] at HO
    go_enter Try.func28, Try.ntmps28
    go_wp2_with (first | (at_builtin; refine wpList_append_own_none rfl _ _ 22 rfl w.heap.size 3 i0 1 Try.underlying22 hi (.slice (some ⟨w.heap.size + 1, 0, none⟩) 1 1) 1 _ rfl HO.out rfl ?_))
    go_ret
    exact ⟨_, rfl, by rw [HR.out]; exact HO.out, by go_grown⟩
end Go.Proofs.Ythahjnjkiljaaaa
