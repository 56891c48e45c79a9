/- The walk of muntinref14.SameInts. -/
import Derived.Test.YthahjnjkiljaaaaShapeRReads
namespace Go.Proofs.Ythahjnjkiljaaaa
open Go.RowKit
set_option linter.unusedVariables false
set_option linter.unusedSimpArgs false
theorem sdrewN {B : Nat} {a w : World} (h : Below B a w) (n : Nat) : Below B a (w.drewN n) := ⟨h.os, h.tape, h.output, h.size, h.block⟩
theorem sret_val {a b : Value} (h : a = b) : Ending.returned a = .returned b := by rw [h]
/-- A row opened for a walk: hidden facts on its place and its things. -/
theorem RowIn.hids {α : Type} {At : World → Nat → Nat → α → Prop} {size bytes : Nat} {w : World} {v : Value} {l : List α} (h : RowIn At size bytes w v l) :
    ∃ p c b o, v = .slice p l.length c ∧ l.length * bytes ≤ 140737488352000 ∧ Hid ((0 < l.length → p = some ⟨b, o, none⟩) ∧ ∀ (k : Nat) (x : α), l[k]? = some x → At w b (o + k * size) x) := by
  obtain ⟨h1, p, c, b, o, h2, ⟨h3, _⟩, h4⟩ := h
  exact ⟨p, c, b, o, h2, h1, shid ⟨h3, h4⟩⟩
set_option maxHeartbeats 1000000 in
theorem sameints_any (w : World) (u v : Value) (a b : List Int) (hu : IntsIn w u a) (hv : IntsIn w v b) :
    Calls Try.prog 27 #[u, v] w fun e w' => e = .returned (.bool (decide (a = b))) ∧ Below w.heap.size w w' := by
  obtain ⟨pa, ca, ba, oa, rfl, la, QA⟩ := hu.hids
  obtain ⟨pb, cb, bb, ob, rfl, lb, QB⟩ := hv.hids
  clear hu hv
  by_cases hl : a.length = b.length
  · have hneq : ((a.length : Int) != (b.length : Int)) = false := by simp [hl]
    have HL := shid hl
    clear hl
    go_enter Try.func27, Try.ntmps27
    go_wp2_with fail
    go_loopw [5] (fun i wr => ∃ k : Nat, k ≤ a.length ∧ i = .int .i64 k ∧ a.take k = b.take k ∧ (∃ n, wr = w.drewN n)) (fun i _ => a.length - (intOf i).toNat)
    case atStart => exact ⟨0, Nat.zero_le _, rfl, rfl, 0, rfl⟩
    case round =>
      obtain ⟨k, hk, rfl, htk, n, rfl⟩ := hrel
      have HT := shid htk
      clear htk
      by_cases hlt : k < a.length
      · have hlb : k < b.length := by rw [← HL.out]; exact hlt
        obtain rfl := QA.out.1 (by omega)
        obtain rfl := QB.out.1 (by omega)
        have c1 := (QA.out.2 k a[k] (List.getElem?_eq_getElem hlt)).1
        have c2 := (QB.out.2 k b[k] (List.getElem?_eq_getElem hlb)).1
        have t1 := List.take_succ_eq_append_getElem hlt
        have t2 := List.take_succ_eq_append_getElem hlb
        have h1 : (k : Int) < a.length := by omega
        have h2 : (k : Int) < b.length := by omega
        rw [Nat.mul_one] at c1 c2
        by_cases hxy : a[k] = b[k]
        · have hab : a.take (k + 1) = b.take (k + 1) := by rw [t1, t2, HT.out, hxy]
          have HA := shid hab
          rw [hxy] at c1
          clear hab t1 t2 hxy
          generalize b[k] = y at c1 c2
          go_wp2_with fail
          go_quiet (fail)
          go_wp2_with fail
          exact ⟨⟨k + 1, by omega, by go_num, HA.out, _, rfl⟩, by simp [intOf] <;> omega⟩
        · have hab : a ≠ b := fun e => hxy (by subst e; rfl)
          have HA := shid hab
          clear hab t1 t2
          generalize b[k] = y at c2 hxy
          generalize a[k] = x at c1 hxy
          have hne : (x != y) = true := by simpa using hxy
          go_wp2_with fail
          go_quiet (fail)
          go_wp2_with fail
          go_ret
          exact ⟨sret_val (by rw [decide_eq_false HA.out]; rfl), sdrewN (sdrewN (Below.refl _ _) n) _⟩
      · obtain rfl : k = a.length := by omega
        have hab : a = b := by
          have h1 := HT.out
          rw [List.take_length, HL.out, List.take_length] at h1; exact h1
        have HA := shid hab
        clear hab
        go_wp2_with fail
        go_ret
        exact ⟨sret_val (by rw [decide_eq_true HA.out]; rfl), sdrewN (Below.refl _ _) n⟩
  · have hneq : ((a.length : Int) != (b.length : Int)) = true := by simp; omega
    have hab : a ≠ b := fun e => hl (by rw [e])
    have HA := shid hab
    clear hab
    go_enter Try.func27, Try.ntmps27
    go_wp2_with fail
    go_ret
    exact ⟨sret_val (by rw [decide_eq_false HA.out]; rfl), Below.refl _ _⟩
end Go.Proofs.Ythahjnjkiljaaaa
