/- Walks of the package shape: what an instruction reads, writes; whether it ends a block. -/
import Derived.Test.YtdefooailcbnlaaG01
import Derived.Test.YtdefooailcbnlaaProg
import Derived.WalkSpells
import Derived.WalkLawsBesides
import Derived.Deep.QuietTactic
import Derived.BigQuiet
import Derived.Handy
import Derived.Laws.AppendOwnNone
namespace Go.Proofs.Ytdefooailcbnlaa
open Go.RowKit
set_option linter.unusedVariables false
set_option linter.unusedSimpArgs false
theorem shid {p : Prop} (h : p) : Hid p := h
theorem sbt {a b c : World} (h : Below a.heap.size a b) (k : Below b.heap.size b c) : Below a.heap.size a c := h.trans (k.mono h.size)
/-- An instruction as a value: args lie in the slice av. -/
abbrev Insx.agg (x : Insx) (av : Value) : Value := .agg #[.int .u8 x.op, .int .i64 x.d, .int .i64 x.a, .int .i64 x.b, .int .u32 x.n, .int .i64 x.f, av, .int .i64 x.l1, .int .i64 x.l2]
def readsS (x : Insx) : List Int :=
  if x.op = 1 ∨ x.op = 4 then [x.a, x.b] else if x.op = 2 ∨ x.op = 3 ∨ x.op = 6 ∨ x.op = 9 ∨ x.op = 10 then [x.a] else if x.op = 5 then x.args else []
def writesB (x : Insx) : Bool := decide (x.op = 0 ∨ x.op = 1 ∨ x.op = 2 ∨ x.op = 3 ∨ x.op = 5)
def writesD (x : Insx) : Int := if writesB x = true then x.d else 0
def endsB (x : Insx) : Bool := decide (8 ≤ x.op ∧ x.op ≤ 10)
/-- The eleven operations, and all others. -/
theorem op_cases {op : Int} (h0 : 0 ≤ op) : op = 0 ∨ op = 1 ∨ op = 2 ∨ op = 3 ∨ op = 4 ∨ op = 5 ∨ op = 6 ∨ op = 7 ∨ op = 8 ∨ op = 9 ∨ op = 10 ∨ 10 < op := by omega
theorem op_no {op : Int} (h : 10 < op) : (op == 0) = false ∧ (op == 1) = false ∧ (op == 2) = false ∧ (op == 3) = false ∧ (op == 4) = false ∧ (op == 5) = false ∧ (op == 6) = false ∧ (op == 8) = false ∧ (op == 9) = false ∧ (op == 10) = false := by
  simp; omega
set_option maxRecDepth 100000 in
set_option maxHeartbeats 1000000 in
theorem writes_any (x : Insx) (hx : x.bd) (p : Option Addr) (n c : Nat) (w : World) :
    Calls Try.prog 67 #[x.agg (.slice p n c)] w fun e w' => e = .returned (.tuple #[.int .i64 (writesD x), .bool (writesB x)]) ∧ Below w.heap.size w w' := by
  obtain ⟨⟨h0, h1⟩, _⟩ := hx
  have hW : Hid (writesB x = decide (x.op = 0 ∨ x.op = 1 ∨ x.op = 2 ∨ x.op = 3 ∨ x.op = 5) ∧ writesD x = if writesB x = true then x.d else 0) := shid ⟨rfl, rfl⟩
  obtain ⟨op, d, a, b, n', f, args, l1, l2⟩ := x
  simp only at h0 h1 hW
  rcases op_cases h0 with rfl | rfl | rfl | rfl | rfl | rfl | rfl | rfl | rfl | rfl | rfl | hop
  case inr.inr.inr.inr.inr.inr.inr.inr.inr.inr.inr =>
    obtain ⟨o0, o1, o2, o3, o4, o5, o6, o8, o9, o10⟩ := op_no hop
    have HO := shid hop
    clear hop
    go_enter Try.func67, Try.ntmps67
    go_wp2_with fail
    go_ret2
    have hb : decide (op = 0 ∨ op = 1 ∨ op = 2 ∨ op = 3 ∨ op = 5) = false := decide_eq_false (by have := HO.out; omega)
    exact ⟨by rw [hW.out.2, hW.out.1, hb]; rfl, by go_grown⟩
  all_goals
    clear h0 h1
    go_enter Try.func67, Try.ntmps67
    go_wp2_with fail
    go_ret2
    exact ⟨by rw [hW.out.2, hW.out.1]; rfl, by go_grown⟩
set_option maxRecDepth 100000 in
set_option maxHeartbeats 1000000 in
theorem ends_any (x : Insx) (hx : x.bd) (p : Option Addr) (n c : Nat) (w : World) :
    Calls Try.prog 61 #[x.agg (.slice p n c)] w fun e w' => e = .returned (.bool (endsB x)) ∧ Below w.heap.size w w' := by
  obtain ⟨⟨h0, h1⟩, _⟩ := hx
  have hW : Hid (endsB x = decide (8 ≤ x.op ∧ x.op ≤ 10)) := shid rfl
  obtain ⟨op, d, a, b, n', f, args, l1, l2⟩ := x
  simp only at h0 h1 hW
  by_cases h8 : 8 ≤ op
  · by_cases h10 : op ≤ 10
    · have hb := shid (hW.out.trans (decide_eq_true ⟨h8, h10⟩))
      go_enter Try.func61, Try.ntmps61
      go_wp2_with fail
      go_ret
      exact ⟨by rw [hb.out]; rfl, by go_grown⟩
    · have hb := shid (hW.out.trans (decide_eq_false (fun h => h10 h.2)))
      go_enter Try.func61, Try.ntmps61
      go_wp2_with fail
      go_ret
      exact ⟨by rw [hb.out]; rfl, by go_grown⟩
  · have hb := shid (hW.out.trans (decide_eq_false (fun h => h8 h.1)))
    go_enter Try.func61, Try.ntmps61
    go_wp2_with fail
    go_ret
    exact ⟨by rw [hb.out]; rfl, by go_grown⟩
def ints (l : List Int) : List Value := l.map (.int .i64)
theorem ints_one (l : List Int) : ∀ u ∈ ints l, u.oneCell' = true := by
  intro u hu
  obtain ⟨x, _, rfl⟩ := List.mem_map.1 hu
  simp [Value.oneCell']
theorem infoint : (Try.prog.info? 3).map (fun i => (i.zero, i.size, i.bytes)) = some (some (.int .i64 0), 1, 8) := by kernel_rfl
/-- A slice of numbers that the call made. -/
def IntsOwn (w : World) (l : List Int) (e : Ending) (w' : World) : Prop := ∃ v, e = .returned v ∧ w'.ownsRow w.heap.size 3 1 v l.length (ints l) ∧ Below w.heap.size w w'
theorem IntsIn.cells {w : World} {b o : Nat} {l : List Int} (h : ∀ (k : Nat) (x : Int), l[k]? = some x → IntAt w b (o + k * 1) x) : ∀ (j : Nat) u, (ints l)[j]? = some u → w.cell? ((⟨b, o, none⟩ : Addr).add j) = some u := by
  intro j u hu
  unfold ints at hu
  rw [List.getElem?_map] at hu
  cases hx : l[j]? with
  | none => rw [hx] at hu; cases hu
  | some x =>
    rw [hx] at hu
    cases hu
    have := (h j x hx).1
    rw [Nat.mul_one] at this
    have e : (⟨b, o, none⟩ : Addr).add j = ⟨b, o + j, none⟩ := by unfold Addr.add; split <;> simp [*]
    rw [e]; exact this
set_option maxHeartbeats 1000000 in
theorem iclone_any (w : World) (v : Value) (l : List Int) (h : IntsIn w v l) : Calls Try.prog 38 #[v] w (IntsOwn w l) := by
  obtain ⟨i0, hi, hz0, hz1, hz2⟩ := info_parts infoint
  obtain ⟨hl, p, c, b, o, rfl, ⟨hp, hn⟩, hc⟩ := h
  have q22 : ∀ (w : World) (a : Option Addr) (n c n' c' : Nat), (binOp .eql 22 (.slice a n c) (.slice none n' c')).run Try.prog w = .ok (.bool a.isNone) w := fun w a n c n' c' => Lib.run_eql_slice_nil w _ _ a n c n' c' Try.underlying22
  have HC := shid (And.intro hp hc)
  clear hp hc
  cases p with
  | none =>
    have h0 : l = [] := by
      rcases Nat.eq_zero_or_pos l.length with h | h
      · exact List.eq_nil_of_length_eq_zero h
      · have := HC.out.1 h; cases this
    subst h0
    clear HC
    have HZ := shid (World.ownsRow_nil w w.heap.size 3 1)
    go_enter Try.func38, Try.ntmps38
    go_wp2
    go_ret
    exact ⟨_, rfl, HZ.out, Below.refl _ _⟩
  | some a =>
    have hcell : ∀ (j : Nat) u, (ints l)[j]? = some u → w.cell? (a.add j) = some u := by
      rcases Nat.eq_zero_or_pos l.length with h | h
      · intro j u hu
        rw [List.eq_nil_of_length_eq_zero h] at hu
        simp [ints] at hu
      · have := HC.out.1 h
        cases this
        exact IntsIn.cells HC.out.2
    have HCl := shid hcell
    clear hcell HC
    go_enter Try.func38, Try.ntmps38
    go_wp2_with (at_builtin; refine wpList_append_own _ rfl _ _ 22 rfl w.heap.size 3 i0 _ 1 8 Try.underlying22 hi hz0 hz1 hz2 rfl (by decide) (.slice (some ⟨w.heap.size, 0, none⟩) 0 0) _ _ rfl (World.ownsRow_made w #[] 0 (Nat.le_refl _) (Nat.zero_le _) (by simp)) a l.length c (ints l) rfl (by simp [ints]) (fun j u hj => by rw [World.cell?_alloc_lt]; exact HCl.out j u hj; exact World.block_lt_of_cell? _ _ (HCl.out j u hj)) (ints_one l) (by unfold maxLen; omega) (by omega) (by simp) ?_; intro v' w1 hown hgrow hnil; rw [Nat.zero_add, List.nil_append] at hown)
    go_wp2
    go_ret
    exact ⟨v', rfl, hown, ((Below.refl _ w).alloc (Nat.le_refl _) _).grown hgrow (by simp) (by intro k hk; simp [Value.ownBlock] at hk; omega)⟩
end Go.Proofs.Ytdefooailcbnlaa
