/- Several texts in one: ShapeReads, ShapeHas, ShapeIn, ShapeApp, ShapeRReads, ShapeSame. -/
import Derived.Test.YtdefooailcbnlaaG02
import Derived.Lib.SliceRun
/- The walk of shape.Reads. -/
namespace Go.Proofs.Ytdefooailcbnlaa
open Go.RowKit
set_option linter.unusedVariables false
set_option linter.unusedSimpArgs false
theorem IntsOwn.of_below {w w1 w' : World} {l : List Int} {e : Ending} (hb : Below w.heap.size w w1) (h : IntsOwn w1 l e w') : IntsOwn w l e w' := by
  obtain ⟨v, he, ho, hb2⟩ := h
  refine ⟨v, he, ⟨ho.1, ?_⟩, sbt hb hb2⟩
  rcases ho.2 with h | ⟨g, cap, cur, h1, h2, h3⟩
  · exact .inl h
  · exact .inr ⟨g, cap, cur, h1, Nat.le_trans hb.size h2, h3⟩
set_option maxRecDepth 100000 in
set_option maxHeartbeats 2000000 in
theorem reads_any (x : Insx) (hx : x.bd) (p : Option Addr) (n c : Nat) (w : World) (ha : IntsIn w (.slice p n c) x.args) :
    Calls Try.prog 66 #[x.agg (.slice p n c)] w (IntsOwn w (readsS x)) := by
  obtain ⟨⟨h0, h1⟩, _⟩ := hx
  have hW : Hid (readsS x = if x.op = 1 ∨ x.op = 4 then [x.a, x.b] else if x.op = 2 ∨ x.op = 3 ∨ x.op = 6 ∨ x.op = 9 ∨ x.op = 10 then [x.a] else if x.op = 5 then x.args else []) := shid rfl
  obtain ⟨i0, hi, hz0, hz1, hz2⟩ := info_parts infoint
  obtain ⟨op, d, a, b, n', f, args, l1, l2⟩ := x
  simp only at h0 h1 hW ha
  have HA := shid ha
  clear ha
  rcases op_cases h0 with rfl | rfl | rfl | rfl | rfl | rfl | rfl | rfl | rfl | rfl | rfl | hop
  case inr.inr.inr.inr.inr.inr.inr.inr.inr.inr.inr =>
    obtain ⟨o0, o1, o2, o3, o4, o5, o6, o8, o9, o10⟩ := op_no hop
    have hr : readsS ⟨op, d, a, b, n', f, args, l1, l2⟩ = [] := by rw [hW.out, if_neg (by omega), if_neg (by omega), if_neg (by omega)]
    have HR := shid hr
    clear hr hop
    go_enter Try.func66, Try.ntmps66
    go_wp2_with fail
    go_ret
    exact ⟨_, rfl, by rw [HR.out]; exact World.ownsRow_nil _ _ _ _, by go_grown⟩
  case inr.inr.inr.inr.inr.inl =>
    have hr : readsS ⟨5, d, a, b, n', f, args, l1, l2⟩ = args := by rw [hW.out]; simp
    have HR := shid hr
    clear hr
    go_enter Try.func66, Try.ntmps66
    go_wp2_with fail
    refine (iclone_any _ _ args (HA.out.keep fun _ _ _ _ hh => hh.keep ((Below.refl _ _).alloc (Nat.le_refl _) _))).mono ?_
    rintro e w1 ⟨v, rfl, ho, hb⟩
    have HO := shid (IntsOwn.of_below (w := w) ((Below.refl _ _).alloc (Nat.le_refl _) _) ⟨v, rfl, ho, hb⟩)
    have hsh := ho.2
    clear ho hb
    rcases hsh with ⟨rfl, _⟩ | ⟨g, cap, cur, rfl, _⟩
    all_goals
      go_wp2_with fail
      go_ret
      rw [HR.out]
      exact HO.out
  case inl =>
    have HR := shid (show readsS ⟨0, d, a, b, n', f, args, l1, l2⟩ = [] by rw [hW.out]; simp)
    go_enter Try.func66, Try.ntmps66
    go_wp2_with fail
    go_ret
    exact ⟨_, rfl, by rw [HR.out]; exact World.ownsRow_nil _ _ _ _, by go_grown⟩
  case inr.inl =>
    have HR := shid (show readsS ⟨1, d, a, b, n', f, args, l1, l2⟩ = [a, b] by rw [hW.out]; simp)
    have HO := shid (own_new ((w.alloc (.cells #[.int .u8 1, .int .i64 d, .int .i64 a, .int .i64 b, .int .u32 n', .int .i64 f, .slice p n c, .int .i64 l1, .int .i64 l2] 44)).alloc (.cells #[.int .i64 b] 3)) w.heap.size #[.int .i64 a] 3 1 1 rfl (by simp [maxLen]) (by simp <;> omega))
    have HC := shid (fun (j : Nat) u (hu : [Value.int .i64 b][j]? = some u) => Lib.cell?_alloc_some (.cells #[.int .i64 a] 3) (cells_new (w.alloc (.cells #[.int .u8 1, .int .i64 d, .int .i64 a, .int .i64 b, .int .u32 n', .int .i64 f, .slice p n c, .int .i64 l1, .int .i64 l2] 44)) #[.int .i64 b] 3 j u hu))
    rw [show ((w.alloc (.cells #[.int .u8 1, .int .i64 d, .int .i64 a, .int .i64 b, .int .u32 n', .int .i64 f, .slice p n c, .int .i64 l1, .int .i64 l2] 44)).alloc (.cells #[.int .i64 b] 3)).heap.size = w.heap.size + 1 + 1 by simp] at HO
    rw [show (w.alloc (.cells #[.int .u8 1, .int .i64 d, .int .i64 a, .int .i64 b, .int .u32 n', .int .i64 f, .slice p n c, .int .i64 l1, .int .i64 l2] 44)).heap.size = w.heap.size + 1 by simp] at HC
    go_enter Try.func66, Try.ntmps66
    go_wp2_with (first | (at_builtin; refine wpList_append_own _ rfl _ _ 22 rfl w.heap.size 3 i0 _ 1 8 Try.underlying22 hi hz0 hz1 hz2 rfl (by decide) (.slice (some ⟨w.heap.size + 1 + 1, 0, none⟩) 1 1) 1 _ rfl HO.out ⟨w.heap.size + 1, 0, none⟩ 1 1 [.int .i64 b] rfl rfl HC.out (by simp [Value.oneCell']) (by simp [maxLen]) (by omega) (by simp <;> omega) ?_; intro v' w3 hown3 hgrow3 hnil3; have hb3 : Below w.heap.size w w3 := Below.grown (by go_grown) hgrow3 (by simp <;> omega) (by intro k hk; cases hk; show w.heap.size ≤ w.heap.size + 1 + 1; omega)))
    rcases hown3.2 with ⟨rfl, _⟩ | ⟨g3, cap3, _, rfl, _⟩
    all_goals
      go_wp2_with fail
      go_ret
      exact ⟨_, rfl, by rw [HR.out]; exact hown3, hb3⟩
  case inr.inr.inl =>
    have HR := shid (show readsS ⟨2, d, a, b, n', f, args, l1, l2⟩ = [a] by rw [hW.out]; simp)
    have HO := shid (own_new (w.alloc (.cells #[.int .u8 2, .int .i64 d, .int .i64 a, .int .i64 b, .int .u32 n', .int .i64 f, .slice p n c, .int .i64 l1, .int .i64 l2] 44)) w.heap.size #[.int .i64 a] 3 1 1 rfl (by simp [maxLen]) (by simp <;> omega))
    rw [show (w.alloc (.cells #[.int .u8 2, .int .i64 d, .int .i64 a, .int .i64 b, .int .u32 n', .int .i64 f, .slice p n c, .int .i64 l1, .int .i64 l2] 44)).heap.size = w.heap.size + 1 by simp] at HO
    go_enter Try.func66, Try.ntmps66
    go_wp2_with (first | (at_builtin; refine wpList_append_own_none rfl _ _ 22 rfl w.heap.size 3 i0 1 Try.underlying22 hi (.slice (some ⟨w.heap.size + 1, 0, none⟩) 1 1) 1 _ rfl HO.out rfl ?_))
    go_ret
    exact ⟨_, rfl, by rw [HR.out]; exact HO.out, by go_grown⟩
  case inr.inr.inr.inl =>
    have HR := shid (show readsS ⟨3, d, a, b, n', f, args, l1, l2⟩ = [a] by rw [hW.out]; simp)
    have HO := shid (own_new (w.alloc (.cells #[.int .u8 3, .int .i64 d, .int .i64 a, .int .i64 b, .int .u32 n', .int .i64 f, .slice p n c, .int .i64 l1, .int .i64 l2] 44)) w.heap.size #[.int .i64 a] 3 1 1 rfl (by simp [maxLen]) (by simp <;> omega))
    rw [show (w.alloc (.cells #[.int .u8 3, .int .i64 d, .int .i64 a, .int .i64 b, .int .u32 n', .int .i64 f, .slice p n c, .int .i64 l1, .int .i64 l2] 44)).heap.size = w.heap.size + 1 by simp] at HO
    go_enter Try.func66, Try.ntmps66
    go_wp2_with (first | (at_builtin; refine wpList_append_own_none rfl _ _ 22 rfl w.heap.size 3 i0 1 Try.underlying22 hi (.slice (some ⟨w.heap.size + 1, 0, none⟩) 1 1) 1 _ rfl HO.out rfl ?_))
    go_ret
    exact ⟨_, rfl, by rw [HR.out]; exact HO.out, by go_grown⟩
  case inr.inr.inr.inr.inl =>
    have HR := shid (show readsS ⟨4, d, a, b, n', f, args, l1, l2⟩ = [a, b] by rw [hW.out]; simp)
    have HO := shid (own_new ((w.alloc (.cells #[.int .u8 4, .int .i64 d, .int .i64 a, .int .i64 b, .int .u32 n', .int .i64 f, .slice p n c, .int .i64 l1, .int .i64 l2] 44)).alloc (.cells #[.int .i64 b] 3)) w.heap.size #[.int .i64 a] 3 1 1 rfl (by simp [maxLen]) (by simp <;> omega))
    have HC := shid (fun (j : Nat) u (hu : [Value.int .i64 b][j]? = some u) => Lib.cell?_alloc_some (.cells #[.int .i64 a] 3) (cells_new (w.alloc (.cells #[.int .u8 4, .int .i64 d, .int .i64 a, .int .i64 b, .int .u32 n', .int .i64 f, .slice p n c, .int .i64 l1, .int .i64 l2] 44)) #[.int .i64 b] 3 j u hu))
    rw [show ((w.alloc (.cells #[.int .u8 4, .int .i64 d, .int .i64 a, .int .i64 b, .int .u32 n', .int .i64 f, .slice p n c, .int .i64 l1, .int .i64 l2] 44)).alloc (.cells #[.int .i64 b] 3)).heap.size = w.heap.size + 1 + 1 by simp] at HO
    rw [show (w.alloc (.cells #[.int .u8 4, .int .i64 d, .int .i64 a, .int .i64 b, .int .u32 n', .int .i64 f, .slice p n c, .int .i64 l1, .int .i64 l2] 44)).heap.size = w.heap.size + 1 by simp] at HC
    go_enter Try.func66, Try.ntmps66
    go_wp2_with (first | (at_builtin; refine wpList_append_own _ rfl _ _ 22 rfl w.heap.size 3 i0 _ 1 8 Try.underlying22 hi hz0 hz1 hz2 rfl (by decide) (.slice (some ⟨w.heap.size + 1 + 1, 0, none⟩) 1 1) 1 _ rfl HO.out ⟨w.heap.size + 1, 0, none⟩ 1 1 [.int .i64 b] rfl rfl HC.out (by simp [Value.oneCell']) (by simp [maxLen]) (by omega) (by simp <;> omega) ?_; intro v' w3 hown3 hgrow3 hnil3; have hb3 : Below w.heap.size w w3 := Below.grown (by go_grown) hgrow3 (by simp <;> omega) (by intro k hk; cases hk; show w.heap.size ≤ w.heap.size + 1 + 1; omega)))
    rcases hown3.2 with ⟨rfl, _⟩ | ⟨g3, cap3, _, rfl, _⟩
    all_goals
      go_wp2_with fail
      go_ret
      exact ⟨_, rfl, by rw [HR.out]; exact hown3, hb3⟩
  case inr.inr.inr.inr.inr.inr.inl =>
    have HR := shid (show readsS ⟨6, d, a, b, n', f, args, l1, l2⟩ = [a] by rw [hW.out]; simp)
    have HO := shid (own_new (w.alloc (.cells #[.int .u8 6, .int .i64 d, .int .i64 a, .int .i64 b, .int .u32 n', .int .i64 f, .slice p n c, .int .i64 l1, .int .i64 l2] 44)) w.heap.size #[.int .i64 a] 3 1 1 rfl (by simp [maxLen]) (by simp <;> omega))
    rw [show (w.alloc (.cells #[.int .u8 6, .int .i64 d, .int .i64 a, .int .i64 b, .int .u32 n', .int .i64 f, .slice p n c, .int .i64 l1, .int .i64 l2] 44)).heap.size = w.heap.size + 1 by simp] at HO
    go_enter Try.func66, Try.ntmps66
    go_wp2_with (first | (at_builtin; refine wpList_append_own_none rfl _ _ 22 rfl w.heap.size 3 i0 1 Try.underlying22 hi (.slice (some ⟨w.heap.size + 1, 0, none⟩) 1 1) 1 _ rfl HO.out rfl ?_))
    go_ret
    exact ⟨_, rfl, by rw [HR.out]; exact HO.out, by go_grown⟩
  case inr.inr.inr.inr.inr.inr.inr.inl =>
    have HR := shid (show readsS ⟨7, d, a, b, n', f, args, l1, l2⟩ = [] by rw [hW.out]; simp)
    go_enter Try.func66, Try.ntmps66
    go_wp2_with fail
    go_ret
    exact ⟨_, rfl, by rw [HR.out]; exact World.ownsRow_nil _ _ _ _, by go_grown⟩
  case inr.inr.inr.inr.inr.inr.inr.inr.inl =>
    have HR := shid (show readsS ⟨8, d, a, b, n', f, args, l1, l2⟩ = [] by rw [hW.out]; simp)
    go_enter Try.func66, Try.ntmps66
    go_wp2_with fail
    go_ret
    exact ⟨_, rfl, by rw [HR.out]; exact World.ownsRow_nil _ _ _ _, by go_grown⟩
  case inr.inr.inr.inr.inr.inr.inr.inr.inr.inl =>
    have HR := shid (show readsS ⟨9, d, a, b, n', f, args, l1, l2⟩ = [a] by rw [hW.out]; simp)
    have HO := shid (own_new (w.alloc (.cells #[.int .u8 9, .int .i64 d, .int .i64 a, .int .i64 b, .int .u32 n', .int .i64 f, .slice p n c, .int .i64 l1, .int .i64 l2] 44)) w.heap.size #[.int .i64 a] 3 1 1 rfl (by simp [maxLen]) (by simp <;> omega))
    rw [show (w.alloc (.cells #[.int .u8 9, .int .i64 d, .int .i64 a, .int .i64 b, .int .u32 n', .int .i64 f, .slice p n c, .int .i64 l1, .int .i64 l2] 44)).heap.size = w.heap.size + 1 by simp] at HO
    go_enter Try.func66, Try.ntmps66
    go_wp2_with (first | (at_builtin; refine wpList_append_own_none rfl _ _ 22 rfl w.heap.size 3 i0 1 Try.underlying22 hi (.slice (some ⟨w.heap.size + 1, 0, none⟩) 1 1) 1 _ rfl HO.out rfl ?_))
    go_ret
    exact ⟨_, rfl, by rw [HR.out]; exact HO.out, by go_grown⟩
  case inr.inr.inr.inr.inr.inr.inr.inr.inr.inr.inl =>
    have HR := shid (show readsS ⟨10, d, a, b, n', f, args, l1, l2⟩ = [a] by rw [hW.out]; simp)
    have HO := shid (own_new (w.alloc (.cells #[.int .u8 10, .int .i64 d, .int .i64 a, .int .i64 b, .int .u32 n', .int .i64 f, .slice p n c, .int .i64 l1, .int .i64 l2] 44)) w.heap.size #[.int .i64 a] 3 1 1 rfl (by simp [maxLen]) (by simp <;> omega))
    rw [show (w.alloc (.cells #[.int .u8 10, .int .i64 d, .int .i64 a, .int .i64 b, .int .u32 n', .int .i64 f, .slice p n c, .int .i64 l1, .int .i64 l2] 44)).heap.size = w.heap.size + 1 by simp] at HO
    go_enter Try.func66, Try.ntmps66
    go_wp2_with (first | (at_builtin; refine wpList_append_own_none rfl _ _ 22 rfl w.heap.size 3 i0 1 Try.underlying22 hi (.slice (some ⟨w.heap.size + 1, 0, none⟩) 1 1) 1 _ rfl HO.out rfl ?_))
    go_ret
    exact ⟨_, rfl, by rw [HR.out]; exact HO.out, by go_grown⟩
end Go.Proofs.Ytdefooailcbnlaa
/- The walks of muntinref14.Has and in. -/
namespace Go.Proofs.Ytdefooailcbnlaa
open Go.RowKit
set_option linter.unusedVariables false
set_option linter.unusedSimpArgs false
/-- Which letters an operation has. -/
def hasS (op : Int) : ByteArray :=
  if op = 0 then ⟨#[100, 110]⟩ else if op = 1 then ⟨#[100, 97, 98, 110]⟩ else if op = 2 ∨ op = 3 then ⟨#[100, 97]⟩ else if op = 4 then ⟨#[97, 98]⟩ else if op = 5 then ⟨#[100, 102, 120]⟩ else if op = 6 ∨ op = 10 then ⟨#[97]⟩ else if op = 8 then ⟨#[108]⟩ else if op = 9 then ⟨#[97, 108, 109]⟩ else ⟨#[]⟩
end Go.Proofs.Ytdefooailcbnlaa
/- The walks of muntinref14.in, Writes, Reads, SameInts. -/
namespace Go.Proofs.Ytdefooailcbnlaa
open Go.RowKit
set_option linter.unusedVariables false
set_option linter.unusedSimpArgs false
def inB (s : ByteArray) (c : Int) : Bool := s.data.toList.any fun b => decide ((b.toNat : Int) = c)
theorem stake_snoc (s : ByteArray) (k : Nat) (h : k < s.size) : s.data.toList.take (k + 1) = s.data.toList.take k ++ [s[k]] := by
  rw [List.take_succ_eq_append_getElem (by simpa using h)]; rfl
def hasA (op : Int) : Bool := decide (op = 1 ∨ op = 2 ∨ op = 3 ∨ op = 4 ∨ op = 6 ∨ op = 9 ∨ op = 10)
theorem hasS_size (op : Int) : (hasS op).size ≤ 100 := by
  unfold hasS
  repeat (split; · decide)
  decide
theorem in_letters {op : Int} (h0 : 0 ≤ op) : inB (hasS op) 100 = decide (op = 0 ∨ op = 1 ∨ op = 2 ∨ op = 3 ∨ op = 5) ∧ inB (hasS op) 97 = hasA op ∧ inB (hasS op) 98 = decide (op = 1 ∨ op = 4) ∧ inB (hasS op) 110 = decide (op = 0 ∨ op = 1) ∧
    inB (hasS op) 102 = decide (op = 5) ∧ inB (hasS op) 120 = decide (op = 5) ∧ inB (hasS op) 108 = decide (op = 8 ∨ op = 9) ∧ inB (hasS op) 109 = decide (op = 9) := by
  rcases op_cases h0 with rfl | rfl | rfl | rfl | rfl | rfl | rfl | rfl | rfl | rfl | rfl | hop
  case inr.inr.inr.inr.inr.inr.inr.inr.inr.inr.inr =>
    have hs : hasS op = ⟨#[]⟩ := by unfold hasS; repeat (rw [if_neg (by omega)])
    rw [hs]
    unfold hasA
    refine ⟨?_, ?_, ?_, ?_, ?_, ?_, ?_, ?_⟩
    all_goals (symm; exact decide_eq_false (by omega))
  all_goals decide +kernel
end Go.Proofs.Ytdefooailcbnlaa
/- Appending numbers to a slice of one's own. -/
namespace Go.Proofs.Ytdefooailcbnlaa
open Go.RowKit
set_option linter.unusedVariables false
set_option linter.unusedSimpArgs false
theorem IntsIn.one (w : World) (g : Nat) (t : TypeId) (x : Int) (hx : I64 x) (h : w.cell? ⟨g, 0, none⟩ = some (.int .i64 x)) : IntsIn w (.slice (some ⟨g, 0, none⟩) 1 1) [x] :=
  ⟨by simp, some ⟨g, 0, none⟩, 1, g, 0, rfl, ⟨fun _ => rfl, fun h => by cases h⟩, fun k y hy => by
    match k, hy with
    | 0, hy => simp at hy; subst hy; exact ⟨h, hx⟩⟩
/-- Numbers appended to a slice of one's own. -/
theorem wpList_append_ints {ops : Array Oper} {rest : List Oper} {o : Oper} {a : Act} {w : World} {Q : Exit → Act → World → Prop} (hgd : o.guard = none) (s x : Operand)
    (ho : o.op = .call { callee := .builtin .append, args := #[s, x], argTypes := #[22, 22] }) (base : Nat) (v : Value) (l : List Int) (hs : a.eval s = v) (hown : w.ownsRow base 3 1 v l.length (ints l))
    (xv : Value) (m : List Int) (hx : a.eval x = xv) (hm : IntsIn w xv m) (hbase : base ≤ w.heap.size) (hbytes : (l.length + m.length) * 8 ≤ 140737488355328)
    (h : ∀ v' w', w'.ownsRow base 3 1 v' (l ++ m).length (ints (l ++ m)) → w.grownBy w' v.ownBlock → wpList Try.prog ops Q rest (a.put o.dst v') w') : wpList Try.prog ops Q (o :: rest) a w := by
  obtain ⟨i0, hi, hz0, hz1, hz2⟩ := info_parts infoint
  obtain ⟨hl, p, c, b, off, rfl, ⟨hp, hn⟩, hc⟩ := hm
  rcases p with _ | ad
  · have h0 : m = [] := by
      rcases Nat.eq_zero_or_pos m.length with h | h
      · exact List.eq_nil_of_length_eq_zero h
      · have := hp h; cases this
    subst h0
    obtain rfl := hn rfl
    refine wpList_append_own_none hgd s x 22 ho base 3 i0 1 Try.underlying22 hi v l.length (ints l) hs hown hx ?_
    have := h v w (by rw [List.append_nil]; exact hown) ⟨rfl, rfl, rfl, Nat.le_refl _, fun _ _ _ => rfl⟩
    exact this
  · have hcell : ∀ (j : Nat) u, (ints m)[j]? = some u → w.cell? (ad.add j) = some u := by
      rcases Nat.eq_zero_or_pos m.length with h | h
      · intro j u hu
        rw [List.eq_nil_of_length_eq_zero h] at hu
        simp [ints] at hu
      · have := hp h
        cases this
        exact IntsIn.cells hc
    refine wpList_append_own w hgd s x 22 ho base 3 i0 _ 1 8 Try.underlying22 hi hz0 hz1 hz2 rfl (by decide) v l.length (ints l) hs hown ad m.length c (ints m) hx (by simp [ints]) hcell (ints_one m) (by unfold maxLen; omega) hbytes hbase ?_
    intro v' w' h1 h2 h3
    refine h v' w' ?_ h2
    rw [List.length_append, show ints (l ++ m) = ints l ++ ints m by simp [ints]]
    exact h1
theorem ownsRow_low {w : World} {B B' n size : Nat} {e : TypeId} {v : Value} {xs : List Value} (h : w.ownsRow B e size v n xs) (hB : B' ≤ B) : w.ownsRow B' e size v n xs := by
  refine ⟨h.1, ?_⟩
  rcases h.2 with h | ⟨g, cap, cur, h1, h2, h3⟩
  · exact .inl h
  · exact .inr ⟨g, cap, cur, h1, Nat.le_trans hB h2, h3⟩
theorem own_shape {w : World} {B n size : Nat} {e : TypeId} {v : Value} {xs : List Value} (h : w.ownsRow B e size v n xs) : ∃ p c, v = .slice p n c ∧ (∀ k, v.ownBlock = some k → B ≤ k ∧ k < w.heap.size) := by
  rcases h.2 with ⟨rfl, rfl⟩ | ⟨g, cap, cur, rfl, h2, h3, _⟩
  · exact ⟨none, 0, rfl, fun k hk => by cases hk⟩
  · exact ⟨_, _, rfl, fun k hk => by cases hk; exact ⟨h2, lt_of_block h3⟩⟩
/-- A slice of one's own, read. -/
theorem IntsIn.of_own {w : World} {B : Nat} {v : Value} {l : List Int} (h : w.ownsRow B 3 1 v l.length (ints l)) (hl : l.length * 8 ≤ 140737488352000) (hb : ∀ x ∈ l, I64 x) : IntsIn w v l := by
  rcases h.2 with ⟨rfl, h0⟩ | ⟨g, cap, cur, rfl, h2, h3, h4, h5, h6, h7⟩
  · have : l = [] := List.eq_nil_of_length_eq_zero h0
    subst this
    exact ⟨hl, none, 0, 0, 0, rfl, ⟨fun h => by simp at h, fun _ => rfl⟩, fun k x hx => by simp at hx⟩
  · refine ⟨hl, _, _, g, 0, rfl, ⟨fun _ => rfl, fun h => by cases h⟩, fun k x hx => ⟨?_, hb x (List.mem_of_getElem? hx)⟩⟩
    have hk : k < l.length := by
      rcases Nat.lt_or_ge k l.length with h | h
      · exact h
      · rw [List.getElem?_eq_none h] at hx; cases hx
    rw [cell_of_obj h3, Nat.zero_add, Nat.mul_one]
    have e : (cur.toList.take (l.length * 1))[k]? = (ints l)[k]? := by rw [h7]
    rw [List.getElem?_take_of_lt (by omega)] at e
    rw [← Array.getElem?_toList, e]
    simp [ints, hx]
end Go.Proofs.Ytdefooailcbnlaa
/- The walk of muntinref14.Reads. -/
namespace Go.Proofs.Ytdefooailcbnlaa
open Go.RowKit
set_option linter.unusedVariables false
set_option linter.unusedSimpArgs false
/-- The cells of an instruction's box, that the walks read. -/
structure IBox (w : World) (g : Nat) (x : Insx) (av : Value) : Prop where
  lt : g < w.heap.size
  c0 : w.cell? ⟨g, 0, none⟩ = some (.int .u8 x.op)
  c1 : w.cell? ⟨g, 1, none⟩ = some (.int .i64 x.d)
  c2 : w.cell? ⟨g, 2, none⟩ = some (.int .i64 x.a)
  c3 : w.cell? ⟨g, 3, none⟩ = some (.int .i64 x.b)
  c4 : w.cell? ⟨g, 4, none⟩ = some (.int .u32 x.n)
  c5 : w.cell? ⟨g, 5, none⟩ = some (.int .i64 x.f)
  c6 : w.cell? ⟨g, 6, none⟩ = some av
  c7 : w.cell? ⟨g, 7, none⟩ = some (.int .i64 x.l1)
  c8 : w.cell? ⟨g, 8, none⟩ = some (.int .i64 x.l2)
theorem IBox.new (w : World) (x : Insx) (av : Value) (t : TypeId) : IBox (w.alloc (.cells #[.int .u8 x.op, .int .i64 x.d, .int .i64 x.a, .int .i64 x.b, .int .u32 x.n, .int .i64 x.f, av, .int .i64 x.l1, .int .i64 x.l2] t)) w.heap.size x av := by
  have h := fun i => cell_of_obj (i := i) (heap_alloc_new w (.cells #[.int .u8 x.op, .int .i64 x.d, .int .i64 x.a, .int .i64 x.b, .int .u32 x.n, .int .i64 x.f, av, .int .i64 x.l1, .int .i64 x.l2] t))
  exact ⟨by simp, h 0, h 1, h 2, h 3, h 4, h 5, h 6, h 7, h 8⟩
theorem IBox.only {S : Nat → Prop} {w w' : World} {g : Nat} {x : Insx} {av : Value} (h : IBox w g x av) (o : Only S w w') (hs : ¬ S g) : IBox w' g x av :=
  ⟨Nat.lt_of_lt_of_le h.lt o.size, (o.cell (p := ⟨g, 0, none⟩) h.lt hs).trans h.c0, (o.cell (p := ⟨g, 1, none⟩) h.lt hs).trans h.c1, (o.cell (p := ⟨g, 2, none⟩) h.lt hs).trans h.c2, (o.cell (p := ⟨g, 3, none⟩) h.lt hs).trans h.c3, (o.cell (p := ⟨g, 4, none⟩) h.lt hs).trans h.c4,
    (o.cell (p := ⟨g, 5, none⟩) h.lt hs).trans h.c5, (o.cell (p := ⟨g, 6, none⟩) h.lt hs).trans h.c6, (o.cell (p := ⟨g, 7, none⟩) h.lt hs).trans h.c7, (o.cell (p := ⟨g, 8, none⟩) h.lt hs).trans h.c8⟩
theorem IBox.keep {w w' : World} {g : Nat} {x : Insx} {av : Value} (h : IBox w g x av) (hb : Below w.heap.size w w') : IBox w' g x av := h.only (S := fun _ => False) (Only.of_below hb) id
theorem IBox.grown {w w' : World} {g : Nat} {x : Insx} {av : Value} {row : Option Nat} (h : IBox w g x av) (hb : w.grownBy w' row) (hr : row ≠ some g) : IBox w' g x av :=
  h.only (S := fun k => row = some k) ((Only.refl _ w).grown hb (fun k hk _ => hk)) hr
theorem grown_below {B : Nat} {a b c : World} {row : Option Nat} (h : Below B a b) (g : b.grownBy c row) (hr : ∀ k, row = some k → B ≤ k) (hB : B ≤ b.heap.size) : Below B a c :=
  h.trans ⟨g.os, g.tape, g.output, g.size, fun k hk => g.block k (Nat.lt_of_lt_of_le hk hB) (fun e => by have := hr k e.symm; omega)⟩
end Go.Proofs.Ytdefooailcbnlaa
/- The walk of muntinref14.SameInts. -/
namespace Go.Proofs.Ytdefooailcbnlaa
open Go.RowKit
set_option linter.unusedVariables false
set_option linter.unusedSimpArgs false
theorem sdrewN {B : Nat} {a w : World} (h : Below B a w) (n : Nat) : Below B a (w.drewN n) := ⟨h.os, h.tape, h.output, h.size, h.block⟩
theorem sret_val {a b : Value} (h : a = b) : Ending.returned a = .returned b := by rw [h]
/-- A row opened for a walk: hidden facts on its place and its things. -/
theorem RowIn.hids {α : Type} {At : World → Nat → Nat → α → Prop} {size bytes : Nat} {w : World} {v : Value} {l : List α} (h : RowIn At size bytes w v l) :
    ∃ p c b o, v = .slice p l.length c ∧ l.length * bytes ≤ 140737488352000 ∧ Hid ((0 < l.length → p = some ⟨b, o, none⟩) ∧ ∀ (k : Nat) (x : α), l[k]? = some x → At w b (o + k * size) x) := by
  obtain ⟨h1, p, c, b, o, h2, ⟨h3, _⟩, h4⟩ := h
  exact ⟨p, c, b, o, h2, h1, shid ⟨h3, h4⟩⟩
end Go.Proofs.Ytdefooailcbnlaa
