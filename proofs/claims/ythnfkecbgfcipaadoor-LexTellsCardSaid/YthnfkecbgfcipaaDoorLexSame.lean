/- muntinref12.Same of like rows. -/
import Derived.Test.YthnfkecbgfcipaaDoorLexRow
namespace Go.Proofs.YthnfkecbgfcipaaDoor
open Go.RowKit
set_option linter.unusedVariables false
set_option linter.unusedSimpArgs false
set_option maxHeartbeats 2000000 in
theorem toksame_yes (u v : Value) (ts : List Tok) (w : World) (hu : TokIn w u ts) (hv : TokIn w v ts) :
    Calls Tryd.prog 9 #[u, v] w fun e w' => e = .returned (.bool true) ∧ Below w.heap.size w w' := by
  obtain ⟨pa, ca, ba, oa, rfl, la, QA⟩ := hu.hids
  obtain ⟨pb, cb, bb, ob, rfl, lb, QB⟩ := hv.hids
  clear hu hv
  go_enter Tryd.func9, Tryd.ntmps9
  go_wp2_with fail
  go_loopw [5] (fun i wr => ∃ k : Nat, k ≤ ts.length ∧ i = .int .i64 k ∧ (∃ n, wr = w.drewN n)) (fun i _ => ts.length - (intOf i).toNat)
  case atStart => exact ⟨0, Nat.zero_le _, rfl, 0, rfl⟩
  case round =>
    obtain ⟨k, hk, rfl, n, rfl⟩ := hrel
    by_cases hlt : k < ts.length
    · obtain rfl := QA.out.1 (by omega)
      obtain rfl := QB.out.1 (by omega)
      obtain ⟨t, ht⟩ : ∃ t, ts[k]? = some t := ⟨_, List.getElem?_eq_getElem hlt⟩
      have hA := QA.out.2 k t ht
      have hB := QB.out.2 k t ht
      have a0 := hA.c0
      have a1 := hA.c1
      have a2 := hA.c2
      have a3 := hA.c3
      have a4 := hA.c4
      have b0 := hB.c0
      have b1 := hB.c1
      have b2 := hB.c2
      have b3 := hB.c3
      have b4 := hB.c4
      have h1 : (k : Int) < ts.length := by omega
      clear hA hB ht
      go_wp2_with fail
      go_quiet (fail)
      go_wp2_with fail
      exact ⟨⟨k + 1, by omega, by go_num, _, rfl⟩, by simp [intOf] <;> omega⟩
    · obtain rfl : k = ts.length := by omega
      go_wp2_with fail
      go_ret
      exact ⟨rfl, sdrewN (Below.refl _ _) n⟩
end Go.Proofs.YthnfkecbgfcipaaDoor
