/- The walk of muntinref14.Great: it answers. -/
import Derived.Test.YthahjnjkiljaaaaShapeOneLaw
namespace Go.Proofs.Ythahjnjkiljaaaa
open Go.RowKit
set_option linter.unusedVariables false
set_option linter.unusedSimpArgs false
def SomeBool (w : World) (e : Ending) (w' : World) : Prop := ∃ b : Bool, e = .returned (.bool b) ∧ Below w.heap.size w w'
def AnyNum (v : Value) : Prop := ∃ z : Int, v = .int .i64 z
set_option maxRecDepth 100000 in
set_option maxHeartbeats 4000000 in
theorem great_any (p : Prg) (pt : Option Addr) (ct : Nat) (pf : Option Addr) (cf : Nat) (w : World) (hF : FnsIn w (.slice pf p.funcs.length cf) p.funcs) :
    Calls Try.prog 7 #[.agg #[.int .i64 p.heap, .slice pt p.threads.length ct, .slice pf p.funcs.length cf]] w (SomeBool w) := by
  have hfl := hF.1
  obtain ⟨_, _, b, o, hbe, _, HBS⟩ := hF.hids
  cases hbe
  have HPF := shid HBS.out.1
  have HW0 := shid (al1 w (.cells #[.int .i64 p.heap, .slice pt p.threads.length ct, .slice pf p.funcs.length cf] 25))
  have HPB := shid (PBox.new w p.heap (.slice pt p.threads.length ct) (.slice pf p.funcs.length cf) 25)
  have HKF := shid (fun (k : Nat) (x : Fnx) (hx : p.funcs[k]? = some x) => (HBS.out.2 k x hx).keep HW0.out)
  clear hF HBS
  go_enter Try.func7, Try.ntmps7
  go_wp2_with fail
  generalize w.alloc (.cells #[.int .i64 p.heap, .slice pt p.threads.length ct, .slice pf p.funcs.length cf] 25) = W0 at *
  obtain ⟨_, p0, p1, p2⟩ := HPB.out
  go_loop [3, 4] (fun n i => ∃ k : Nat, k ≤ p.funcs.length ∧ i = .int .i64 k ∧ AnyNum n) (fun _ i => p.funcs.length - (intOf i).toNat)
  case atStart => exact ⟨0, Nat.zero_le _, rfl, 0, rfl⟩
  case round =>
    obtain ⟨k, hk, rfl, n0, rfl⟩ := hrel
    by_cases hlt : k < p.funcs.length ∧ k < 70
    · obtain ⟨hlt, h70⟩ := hlt
      obtain rfl := HPF.out (by omega)
      have HX := shid (List.getElem?_eq_getElem hlt)
      generalize p.funcs[k] = x at HX
      obtain ⟨c0, c1, c2, ⟨bv, c3, hbv⟩, hnm, _, _⟩ := HKF.out k x HX.out
      obtain ⟨pb, cb, rfl⟩ := hbv.shape
      have hbl := hbv.1
      obtain ⟨_, _, b2, o2, hbe2, _, HB2⟩ := hbv.hids
      cases hbe2
      have HPB2 := shid HB2.out.1
      have HKB := shid HB2.out.2
      have h1 : (k : Int) < p.funcs.length := by omega
      have h2 : decide ((k : Int) < 70) = true := decide_eq_true (by omega)
      clear hbv HB2
      go_wp2_with fail
      all_goals try (go_ret; exact ⟨_, rfl, HW0.out⟩)
      go_loop [3, 5] (fun n i => ∃ j : Nat, j ≤ x.blocks.length ∧ i = .int .i64 j ∧ AnyNum n) (fun _ i => x.blocks.length - (intOf i).toNat)
      case atStart => exact ⟨0, Nat.zero_le _, rfl, n0, rfl⟩
      case round =>
        obtain ⟨j, hj, rfl, n1, rfl⟩ := hrel
        by_cases hltj : j < x.blocks.length ∧ j < 300
        · obtain ⟨hltj, h300⟩ := hltj
          obtain rfl := HPB2.out (by omega)
          have HY := shid (List.getElem?_eq_getElem hltj)
          generalize x.blocks[j] = y at HY
          obtain ⟨d0, ⟨iv, d1, hiv⟩, hnm2⟩ := HKB.out j y HY.out
          obtain ⟨pi, ci, rfl⟩ := hiv.shape
          have hil := hiv.1
          obtain ⟨_, _, b3, o3, hbe3, _, HB3⟩ := hiv.hids
          cases hbe3
          have HPB3 := shid HB3.out.1
          have HKI := shid HB3.out.2
          have h3 : (j : Int) < x.blocks.length := by omega
          have h4 : decide ((j : Int) < 300) = true := decide_eq_true (by omega)
          clear hiv HB3
          go_wp2_with fail
          all_goals try (go_ret; exact ⟨_, rfl, HW0.out⟩)
          go_loop [3, 6] (fun n i => ∃ q : Nat, q ≤ y.ins.length ∧ i = .int .i64 q ∧ AnyNum n) (fun _ i => y.ins.length - (intOf i).toNat)
          case atStart => exact ⟨0, Nat.zero_le _, rfl, _, rfl⟩
          case round =>
            obtain ⟨q, hq, rfl, n2, rfl⟩ := hrel
            by_cases hltq : q < y.ins.length ∧ q < 300
            · obtain ⟨hltq, h301⟩ := hltq
              obtain rfl := HPB3.out (by omega)
              have HZ := shid (List.getElem?_eq_getElem hltq)
              generalize y.ins[q] = z at HZ
              obtain ⟨_, _, _, _, _, _, ⟨va, e6, hva⟩, _, _, _⟩ := HKI.out q z HZ.out
              obtain ⟨pa, ca, rfl⟩ := hva.shape
              have hal := hva.1
              have h5 : (q : Int) < y.ins.length := by omega
              have h6 : decide ((q : Int) < 300) = true := decide_eq_true (by omega)
              clear hva
              go_wp2_with fail
              go_round
              case rel => exact ⟨q + 1, by omega, by go_num, _, rfl⟩
              case measure => simp [intOf]; omega
            · by_cases hq2 : q < y.ins.length
              · have h6 : decide ((q : Int) < 300) = false := decide_eq_false (by omega)
                clear hltq
                go_wp2_with fail
                go_round
                case rel => exact ⟨j + 1, by omega, by go_num, _, rfl⟩
                case measure => simp [intOf]; omega
              · clear hltq
                go_wp2_with fail
                go_round
                case rel => exact ⟨j + 1, by omega, by go_num, _, rfl⟩
                case measure => simp [intOf]; omega
        · by_cases hj2 : j < x.blocks.length
          · have h6 : decide ((j : Int) < 300) = false := decide_eq_false (by omega)
            clear hltj
            go_wp2_with fail
            all_goals try (go_ret; exact ⟨_, rfl, HW0.out⟩)
            all_goals
              go_round
              case rel => exact ⟨k + 1, by omega, by go_num, _, rfl⟩
              case measure => simp [intOf]; omega
          · clear hltj
            go_wp2_with fail
            all_goals try (go_ret; exact ⟨_, rfl, HW0.out⟩)
            all_goals
              go_round
              case rel => exact ⟨k + 1, by omega, by go_num, _, rfl⟩
              case measure => simp [intOf]; omega
    · by_cases hk2 : k < p.funcs.length
      · have h6 : decide ((k : Int) < 70) = false := decide_eq_false (by omega)
        clear hlt
        go_wp2_with fail
        all_goals
          go_ret
          exact ⟨_, rfl, HW0.out⟩
      · clear hlt
        go_wp2_with fail
        all_goals
          go_ret
          exact ⟨_, rfl, HW0.out⟩
end Go.Proofs.Ythahjnjkiljaaaa
