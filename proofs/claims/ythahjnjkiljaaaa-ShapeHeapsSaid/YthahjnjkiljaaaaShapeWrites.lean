/- The walk of muntinref14.writes. -/
import Derived.Test.YthahjnjkiljaaaaShapeGoes
namespace Go.Proofs.Ythahjnjkiljaaaa
open Go.RowKit
set_option linter.unusedVariables false
set_option linter.unusedSimpArgs false
/-- A register is written in the first instructions, so many. -/
def wrB (l : List Insx) (r : Int) (m : Nat) : Bool := (l.take m).any fun x => writesB x && decide (writesD x = r)
set_option maxRecDepth 100000 in
set_option maxHeartbeats 2000000 in
theorem wr_any (nm : ByteArray) (l : List Insx) (pi : Option Addr) (ci : Nat) (r : Int) (m : Nat) (hm : m ≤ l.length) (w : World) (hI : InsxIn w (.slice pi l.length ci) l) :
    Calls Try.prog 46 #[.agg #[.string nm, .slice pi l.length ci], .int .i64 r, .int .i64 m] w fun e w' => e = .returned (.bool (wrB l r m)) ∧ Below w.heap.size w w' := by
  have hil := hI.1
  have HIB := shid hI.bds
  obtain ⟨_, _, ib, io, hie, _, HIS⟩ := hI.hids
  cases hie
  have HPI := shid HIS.out.1
  have HKI := shid (fun (W : World) (hb : Below w.heap.size w W) (j : Nat) (y : Insx) (hy : l[j]? = some y) => (HIS.out.2 j y hy).keep hb)
  have HBK := shid (BBox.new w nm (.slice pi l.length ci) 40)
  have HW0 := shid (al1 w (.cells #[.string nm, .slice pi l.length ci] 40))
  have HWB := shid (show wrB l r m = (l.take m).any fun x => writesB x && decide (writesD x = r) from rfl)
  clear hI HIS
  go_enter Try.func46, Try.ntmps46
  go_wp2_with fail
  generalize w.alloc (.cells #[.string nm, .slice pi l.length ci] 40) = W0 at *
  go_loopw [7] (fun i wr => ∃ k : Nat, k ≤ m ∧ i = .int .i64 k ∧ ((l.take k).any fun x => writesB x && decide (writesD x = r)) = false ∧ Below W0.heap.size W0 wr) (fun i _ => m - (intOf i).toNat)
  case atStart => exact ⟨0, Nat.zero_le _, rfl, by simp, Below.refl _ _⟩
  case round =>
    obtain ⟨k, hk, rfl, hf, hbw⟩ := hrel
    have HFA := shid hf
    have HBW := shid hbw
    clear hf hbw
    by_cases hlt : k < m
    · have hkl : k < l.length := by omega
      obtain rfl := HPI.out (by omega)
      have HY := shid (List.getElem?_eq_getElem hkl)
      generalize l[k] = y at HY
      obtain ⟨d0, d1, d2, d3, d4, d5, ⟨va, d6, hva⟩, d7, d8, hybd⟩ := HKI.out _ (sbt HW0.out HBW.out) k y HY.out
      obtain ⟨pa, ca, rfl⟩ := hva.shape
      obtain ⟨_, k0, k1⟩ := HBK.out.keep HBW.out
      have h2 : (k : Int) < l.length := by omega
      have HT := shid (stake_get HY.out)
      have HWA := shid (fun W => rwrites_any y hybd pa y.args.length ca W)
      unfold Insx.agg at HWA
      generalize hwb : writesB y = wb at HWA
      generalize hwd : writesD y = wd at HWA
      have HWW := shid (And.intro hwb hwd)
      clear hwb hwd hva hybd
      go_wp2_with fail
      clear d0 d1 d2 d3 d4 d5 d6 d7 d8 k0 k1
      refine (HWA.out _).mono ?_
      rintro e w2 ⟨rfl, hb2⟩
      have HB2 := shid (sbt HBW.out hb2)
      clear hb2
      cases hc : (wb && decide (wd = r))
      case true =>
        have hwb : wb = true := by cases wb <;> simp_all
        have hwd : (wd == r) = true := by subst hwb; simpa using hc
        subst hwb
        have HR := shid (show wrB l r m = true by
          rw [HWB.out, List.any_eq_true]
          refine ⟨y, ?_, by rw [HWW.out.1, HWW.out.2]; exact hc⟩
          have h3 := List.mem_of_getElem? (l := l.take (k + 1)) (i := k) (a := y) (by rw [List.getElem?_take_of_lt (by omega)]; exact HY.out)
          exact List.mem_of_mem_take (i := k + 1) (by rw [List.take_take, Nat.min_eq_left (by omega)]; exact h3))
        clear hc
        go_wp2_with fail
        go_ret
        exact ⟨sret_val (by rw [HR.out]; rfl), sbt HW0.out HB2.out⟩
      case false =>
        have HR := shid (show ((l.take (k + 1)).any fun x => writesB x && decide (writesD x = r)) = false by
          rw [HT.out, List.any_append, HFA.out]
          simp only [List.any_cons, List.any_nil, Bool.or_false, Bool.false_or]
          rw [HWW.out.1, HWW.out.2]; exact hc)
        cases wb
        case false =>
          clear hc
          go_wp2_with fail
          go_roundw
          case rel => exact ⟨k + 1, by omega, by go_num, HR.out, HB2.out⟩
          case measure => simp [intOf]; omega
        case true =>
          have hwd : (wd == r) = false := by simpa using hc
          clear hc
          go_wp2_with fail
          go_roundw
          case rel => exact ⟨k + 1, by omega, by go_num, HR.out, HB2.out⟩
          case measure => simp [intOf]; omega
    · obtain rfl : k = m := by omega
      have HR := shid (show wrB l r k = false from HFA.out)
      go_wp2_with fail
      go_ret
      exact ⟨sret_val (by rw [HR.out]; rfl), sbt HW0.out HBW.out⟩
end Go.Proofs.Ythahjnjkiljaaaa
