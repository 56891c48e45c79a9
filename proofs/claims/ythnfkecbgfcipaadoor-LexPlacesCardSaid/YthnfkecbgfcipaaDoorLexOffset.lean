/- muntinlaw12.offset. -/
import Derived.Test.YthnfkecbgfcipaaDoorLexOut
import Derived.Test.YthnfkecbgfcipaaDoorLexPlacesLaw
namespace Go.Proofs.YthnfkecbgfcipaaDoor
open Go.RowKit
set_option linter.unusedVariables false
set_option linter.unusedSimpArgs false
set_option maxRecDepth 100000 in
set_option maxHeartbeats 8000000 in
theorem offset_any (l : List UInt8) (hl : l.length ≤ 1000000) (a b : Nat) (ha : 0 < a) (hb : 0 < b) (ho : lineS l (a - 1) + b - 1 ≤ l.length) (w : World) :
    Calls Tryd.prog 13 #[.string ⟨l.toArray⟩, .agg #[.int .i64 (a : Int), .int .i64 (b : Int)]] w fun e w' => e = .returned (.tuple #[.int .i64 ((lineS l (a - 1) + b - 1 : Nat) : Int), .bool true]) ∧ Below w.heap.size w w' := by
  have hup := lineS_up l (a - 1) 0 (Nat.zero_le _)
  have hz : lineS l 0 = 0 := rfl
  have hal : a ≤ 1000001 := by omega
  have hbl : b ≤ 1000001 := by omega
  clear hup
  go_enter Tryd.func13, Tryd.ntmps13
  go_wp2_with fail
  go_loopw [6, 7] (fun p ln wr => ∃ n m : Nat, n + 1 ≤ a ∧ Hid (m = lineS l n) ∧ p = .int .i64 (m : Int) ∧ ln = .int .i64 ((n : Int) + 1) ∧ wr = w.alloc (.cells #[.int .i64 (a : Int), .int .i64 (b : Int)] 25)) (fun _ ln _ => a - (intOf ln).toNat)
  case atStart => exact ⟨0, 0, by omega, shid rfl, rfl, rfl, rfl⟩
  case round =>
    obtain ⟨n, m, hn, hm, rfl, rfl, rfl⟩ := hrel
    have hle := lineS_up l (a - 1) n (by omega)
    rw [← hm.out] at hle
    rcases Nat.lt_or_ge (n + 1) a with hlt | hge
    · have hup := lineS_up l (a - 1) (n + 1) (by omega)
      have hnx : lineS l (n + 1) = nlS l m + 1 := by rw [hm.out]; rfl
      rw [hnx] at hup
      obtain ⟨k1, k2, k3, k4⟩ := nl_facts l m (by omega)
      have HNX := shid hnx
      have HIN := shid k3
      have HEND := shid k4
      obtain ⟨E, hE⟩ : ∃ E, E = nlS l m := ⟨_, rfl⟩
      rw [← hE] at k1 k2 hup HIN HEND HNX
      clear k3 k4 hnx hE
      have hEl : E < l.length := by omega
      have g1 : ((n : Int) + 1) < a := by omega
      clear hle hup ho
      go_wp2_with fail
      go_loop [6] (fun p => ∃ q : Nat, m ≤ q ∧ q ≤ E ∧ p = .int .i64 (q : Int)) (fun p => E - (intOf p).toNat)
      case atStart => exact ⟨m, Nat.le_refl _, k1, rfl⟩
      case round =>
        obtain ⟨q, h1, h2, rfl⟩ := hrel
        obtain ⟨d, hd⟩ : ∃ d, l[q]? = some d := ⟨_, List.getElem?_eq_getElem (by omega)⟩
        have hsq : q < (⟨l.toArray⟩ : ByteArray).size := by simp [ByteArray.size]; omega
        have hxq : (⟨l.toArray⟩ : ByteArray)[q]'hsq = d := (List.getElem?_eq_some_iff.1 hd).2
        have f1 : (q : Int) < l.length := by omega
        rcases Nat.lt_or_ge q E with hqE | hqE
        · have hd10 := HIN.out q d h1 hqE hd
          have f2 : ((d.toNat : Int) == 10) = false := by rw [beq_eq_false_iff_ne]; omega
          clear hd hd10
          go_wp2_with fail
          exact ⟨⟨q + 1, by omega, by omega, by go_num⟩, by simp [intOf] <;> omega⟩
        · obtain rfl : q = E := by omega
          have hd10 := HEND.out d hd
          have f2 : ((d.toNat : Int) == 10) = true := by rw [beq_iff_eq]; omega
          clear hd hd10
          go_wp2_with fail
          go_roundw
          case rel => exact ⟨n + 1, q + 1, by omega, shid HNX.out.symm, by go_num, by go_num, by first | rfl | trivial⟩
          case measure => simp [intOf] <;> omega
    · obtain rfl : a = n + 1 := by omega
      have g1 : ¬ (((n : Int) + 1) < ((n + 1 : Nat) : Int)) := by omega
      have g3 : (0 : Int) < b := by omega
      have g2 : (0 : Int) < (n : Int) + 1 := by omega
      rw [Nat.add_sub_cancel, ← hm.out] at ho
      have g4 : (m : Int) + b - 1 ≤ l.length := by omega
      have HC := shid (show ((lineS l (n + 1 - 1) + b - 1 : Nat) : Int) = (m : Int) + b - 1 by rw [Nat.add_sub_cancel, ← hm.out]; omega)
      clear hle hn hge
      go_wp2_with fail
      go_ret2
      exact ⟨congrArg (fun z => Ending.returned (.tuple #[.int .i64 z, .bool true])) HC.out.symm, (Below.refl _ _).alloc (Nat.le_refl _) _⟩
end Go.Proofs.YthnfkecbgfcipaaDoor
