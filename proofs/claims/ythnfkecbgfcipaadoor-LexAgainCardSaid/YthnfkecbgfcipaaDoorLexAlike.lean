/- muntinref12.Alike of alike rows. -/
import Derived.Test.YthnfkecbgfcipaaDoorLexRow
import Derived.Test.YthnfkecbgfcipaaDoorLexBare
namespace Go.Proofs.YthnfkecbgfcipaaDoor
open Go.RowKit
set_option linter.unusedVariables false
set_option linter.unusedSimpArgs false
set_option maxHeartbeats 2000000 in
theorem alike_yes (u v : Value) (ts us : List Tok) (w : World) (hu : TokIn w u ts) (hv : TokIn w v us) (hbare : ts.map bare = us.map bare) :
    Calls Tryd.prog 12 #[u, v] w fun e w' => e = .returned (.bool true) ∧ Below w.heap.size w w' := by
  have hlen : us.length = ts.length := by have := congrArg List.length hbare; simp at this; exact this.symm
  obtain ⟨pa, ca, ba, oa, rfl, la, QA⟩ := hu.hids
  obtain ⟨pb, cb, bb, ob, hvb, lb, QB⟩ := hv.hids
  rw [hlen] at hvb
  subst hvb
  have HBR := shid hbare
  have HLN := shid hlen
  clear hu hv hbare hlen
  go_enter Tryd.func12, Tryd.ntmps12
  go_wp2_with fail
  go_loopw [5] (fun i wr => ∃ k : Nat, k ≤ ts.length ∧ i = .int .i64 k ∧ (∃ n, wr = w.drewN n)) (fun i _ => ts.length - (intOf i).toNat)
  case atStart => exact ⟨0, Nat.zero_le _, rfl, 0, rfl⟩
  case round =>
    obtain ⟨k, hk, rfl, n, rfl⟩ := hrel
    by_cases hlt : k < ts.length
    · obtain rfl := QA.out.1 (by omega)
      obtain rfl := QB.out.1 (by rw [HLN.out]; omega)
      obtain ⟨t, ht⟩ : ∃ t, ts[k]? = some t := ⟨_, List.getElem?_eq_getElem hlt⟩
      have hu2 : (us.map bare)[k]? = some (bare t) := by rw [← HBR.out, List.getElem?_map, ht]; rfl
      rw [List.getElem?_map] at hu2
      obtain ⟨x, hx, hxe⟩ := Option.map_eq_some_iff.1 hu2
      have hA := QA.out.2 k t ht
      have hB := QB.out.2 k x hx
      simp only [bare, Prod.mk.injEq] at hxe
      have a0 := hA.c0
      have a1 := hA.c1
      have a2 := hA.c2
      have b0 := hB.c0
      have b1 := hB.c1
      have b2 := hB.c2
      rw [hxe.1] at b0
      rw [hxe.2.1] at b1
      rw [hxe.2.2] at b2
      have h1 : (k : Int) < ts.length := by omega
      clear hA hB ht hx hu2 hxe
      go_wp2_with fail
      go_quiet (fail)
      go_wp2_with fail
      exact ⟨⟨k + 1, by omega, by go_num, _, rfl⟩, by simp [intOf] <;> omega⟩
    · obtain rfl : k = ts.length := by omega
      go_wp2_with fail
      go_ret
      exact ⟨rfl, sdrewN (Below.refl _ _) n⟩
end Go.Proofs.YthnfkecbgfcipaaDoor
