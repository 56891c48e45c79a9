/- The walk of muntinref03.Same: are two rows of words the same? -/
import Derived.Test.YtfbbodaapkfbdaaDoorG01
import Derived.Test.YtfbbodaapkfbdaaDoorProg
import Derived.Handy
import Derived.WalkLawsBesides
import Derived.Deep.QuietTactic
import Derived.BigQuiet
namespace Go.Proofs.YtfbbodaapkfbdaaDoor
open Go.RowKit
set_option linter.unusedVariables false
/-- A row of words, as it is read. -/
def Reads32 (w : World) (v : Value) (l : List Int) : Prop :=
  l.length ≤ maxLen ∧ ∃ p c, v = .slice p l.length c ∧ (0 < l.length → ∃ b o, p = some ⟨b, o, none⟩ ∧ ∀ k, k < l.length → w.cell? ⟨b, o + k, none⟩ = some (.int .u32 (l.getD k 0)))
theorem Reads32.shape {w : World} {v : Value} {l : List Int} (h : Reads32 w v l) : ∃ b o p c, v = .slice p l.length c ∧ l.length ≤ maxLen ∧ (0 < l.length → p = some ⟨b, o, none⟩) ∧ ∀ k, k < l.length → w.cell? ⟨b, o + k, none⟩ = some (.int .u32 (l.getD k 0)) := by
  obtain ⟨h1, p, c, rfl, h2⟩ := h
  by_cases h0 : 0 < l.length
  · obtain ⟨b, o, rfl, h3⟩ := h2 h0
    exact ⟨b, o, _, c, rfl, h1, fun _ => rfl, h3⟩
  · exact ⟨0, 0, p, c, rfl, h1, fun h => absurd h h0, fun k hk => by omega⟩
theorem Reads32.keepb {a b : World} {v : Value} {l : List Int} (h : Reads32 a v l) (hb : Below a.heap.size a b) : Reads32 b v l := by
  obtain ⟨h1, p, c, rfl, h2⟩ := h
  refine ⟨h1, p, c, rfl, fun h0 => ?_⟩
  obtain ⟨g, o, rfl, h3⟩ := h2 h0
  exact ⟨g, o, rfl, fun k hk => (hb.cell (World.block_lt_of_cell? _ _ (h3 k hk))).trans (h3 k hk)⟩
theorem Reads32.shape' {w : World} {v : Value} {l : List Int} (h : Reads32 w v l) : ∃ p n c, v = .slice p n c := by obtain ⟨_, p, c, h, _⟩ := h; exact ⟨_, _, _, h⟩
theorem Reads32.keepO {S : Nat → Prop} {a b : World} {v : Value} {l : List Int} (h : Reads32 a v l) (o : Only S a b) (hS : ∀ k, v.ownBlock = some k → ¬ S k) : Reads32 b v l := by
  obtain ⟨h1, p, c, rfl, h2⟩ := h
  refine ⟨h1, p, c, rfl, fun h0 => ?_⟩
  obtain ⟨g, q, rfl, h3⟩ := h2 h0
  exact ⟨g, q, rfl, fun k hk => (o.cell (p := ⟨g, q + k, none⟩) (World.block_lt_of_cell? _ _ (h3 k hk)) (hS g rfl)).trans (h3 k hk)⟩
theorem Reads32.of_own {w : World} {base : Nat} {v : Value} {l : List Int} (h : w.ownsRow base 30 1 v l.length (u32s l)) : Reads32 w v l := by
  rcases h.2 with ⟨h1, h2⟩ | ⟨g, cap, cur, h1, h2, h3, h4, h5, h6, h7⟩
  · obtain rfl := List.length_eq_zero_iff.1 h2
    exact ⟨by unfold maxLen; simp, none, 0, h1, fun h => by simp at h⟩
  · refine ⟨by omega, _, cap, h1, fun _ => ⟨g, 0, rfl, fun k hk => ?_⟩⟩
    rw [Nat.zero_add, cell_of_obj h3]
    have e : cur[k]? = (cur.toList.take (l.length * 1))[k]? := by
      rw [List.getElem?_take_of_lt (by omega)]; simp
    rw [e, h7]
    simp [u32s, hk]
theorem U32s.reads {S : Nat → Prop} {w : World} {v : Value} {l : List Int} (h : U32s S w v l) (hl : l.length ≤ maxLen) : Reads32 w v l := by
  obtain ⟨_, p, c, rfl, h2⟩ := h
  exact ⟨hl, p, c, rfl, fun h0 => by obtain ⟨b, o, rfl, _, _, h3⟩ := h2 h0; exact ⟨b, o, rfl, h3⟩⟩
theorem Reads32.u32s {S : Nat → Prop} {w : World} {base : Nat} {v : Value} {l : List Int} (h : w.ownsRow base 30 1 v l.length (u32s l)) (hw : Words l) (hS : ∀ k, base ≤ k → ¬ S k) : U32s S w v l := by
  obtain ⟨hl, p, c, rfl, h2⟩ := Reads32.of_own h
  refine ⟨hw, p, c, rfl, fun h0 => ?_⟩
  obtain ⟨b, o, rfl, h3⟩ := h2 h0
  rcases h.2 with ⟨h1, _⟩ | ⟨g, cap, cur, h1, hb, _⟩
  · cases h1
  · cases h1
    exact ⟨b, 0, rfl, hS _ hb, World.block_lt_of_cell? _ _ (h3 0 h0), h3⟩
set_option maxHeartbeats 1000000 in
theorem same_any (w : World) (u v : Value) (a b : List Int) (hu : Reads32 w u a) (hv : Reads32 w v b) :
    Calls Tryd.prog 21 #[u, v] w fun e w' => e = .returned (.bool (decide (a = b))) ∧ Below w.heap.size w w' := by
  obtain ⟨ba, oa, pa, ca, rfl, la, qa, ha⟩ := hu.shape
  obtain ⟨bb, ob, pb, cb, rfl, lb, qb, hb⟩ := hv.shape
  unfold maxLen at la lb
  have QA := mhid (And.intro qa ha)
  have QB := mhid (And.intro qb hb)
  clear qa ha qb hb hu hv
  by_cases hl : a.length = b.length
  · have hneq : ((a.length : Int) != (b.length : Int)) = false := by simp [hl]
    have HL := mhid hl
    clear hl
    go_enter Tryd.func21, Tryd.ntmps21
    go_wp2_with fail
    go_loopw [5] (fun i wr => ∃ k : Nat, k ≤ a.length ∧ i = .int .i64 k ∧ a.take k = b.take k ∧ (∃ n, wr = w.drewN n)) (fun i _ => a.length - (intOf i).toNat)
    case atStart => exact ⟨0, Nat.zero_le _, rfl, rfl, 0, rfl⟩
    case round =>
      obtain ⟨k, hk, rfl, htk, n, rfl⟩ := hrel
      have HT := mhid htk
      clear htk
      by_cases hlt : k < a.length
      · have hlb : k < b.length := by rw [← HL.out]; exact hlt
        obtain rfl := QA.out.1 (by omega)
        obtain rfl := QB.out.1 (by omega)
        have c1 := QA.out.2 k hlt
        have c2 := QB.out.2 k hlb
        have hx : a.getD k 0 = a[k] := by simp [List.getD_eq_getElem?_getD, hlt]
        have hy : b.getD k 0 = b[k] := by simp [List.getD_eq_getElem?_getD, hlb]
        have t1 := List.take_succ_eq_append_getElem hlt
        have t2 := List.take_succ_eq_append_getElem hlb
        have h1 : (k : Int) < a.length := by omega
        have h2 : (k : Int) < b.length := by omega
        by_cases hxy : a.getD k 0 = b.getD k 0
        · have hab : a.take (k + 1) = b.take (k + 1) := by rw [t1, t2, HT.out, ← hx, ← hy, hxy]
          have HA := mhid hab
          rw [hxy] at c1
          clear hab t1 t2 hx hy hxy
          generalize b.getD k 0 = y at c1 c2
          go_wp2_with fail
          go_quiet (fail)
          go_wp2_with fail
          exact ⟨⟨k + 1, by omega, by go_num, HA.out, _, rfl⟩, by simp [intOf] <;> omega⟩
        · have hab : a ≠ b := fun e => hxy (by rw [e])
          have HA := mhid hab
          clear hab t1 t2 hx hy
          generalize b.getD k 0 = y at c2 hxy
          generalize a.getD k 0 = x at c1 hxy
          have hne : (x != y) = true := by simpa using hxy
          go_wp2_with fail
          go_quiet (fail)
          go_wp2_with fail
          go_ret
          exact ⟨mret_val (by rw [decide_eq_false HA.out]; rfl), below_drewN (below_drewN (Below.refl _ _) n) _⟩
      · obtain rfl : k = a.length := by omega
        have hab : a = b := by
          have h1 := HT.out
          rw [List.take_length, HL.out, List.take_length] at h1; exact h1
        have HA := mhid hab
        clear hab
        go_wp2_with fail
        go_ret
        exact ⟨mret_val (by rw [decide_eq_true HA.out]; rfl), below_drewN (Below.refl _ _) n⟩
  · have hneq : ((a.length : Int) != (b.length : Int)) = true := by simp; omega
    have hab : a ≠ b := fun e => hl (by rw [e])
    have HA := mhid hab
    clear hab hl
    go_enter Tryd.func21, Tryd.ntmps21
    go_wp2_with fail
    go_ret
    exact ⟨mret_val (by rw [decide_eq_false HA.out]; rfl), Below.refl _ _⟩
end Go.Proofs.YtfbbodaapkfbdaaDoor
