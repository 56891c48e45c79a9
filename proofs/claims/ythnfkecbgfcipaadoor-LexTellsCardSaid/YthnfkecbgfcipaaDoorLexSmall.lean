/- The lexer's small functions: white, the library's cuts in plain words, number. -/
import Derived.Test.YthnfkecbgfcipaaDoorShapeRName
import Derived.Test.YthnfkecbgfcipaaDoorLexNum
import Derived.Test.YthnfkecbgfcipaaDoorLexCut
import Derived.Test.YthnfkecbgfcipaaDoorLexCutP
import Derived.Test.YthnfkecbgfcipaaDoorLexCutS
import Derived.Test.YthnfkecbgfcipaaDoorLexPu
import Derived.Shelf.Strconv.Itoa3
import Derived.WalkSmall
namespace Go.Proofs.YthnfkecbgfcipaaDoor
open Go.RowKit
set_option linter.unusedVariables false
set_option linter.unusedSimpArgs false
/-- What the lexer asks of the program's variables. -/
structure LexW (w : World) : Prop where
  maxlen : ∃ m, w.cell? ⟨0, 0, none⟩ = some (.int .i64 m)
  range : ∃ ev, w.cell? ⟨3, 0, none⟩ = some ev ∧ (ev = .nilIface ∨ ∃ te pe, ev = .iface te pe)
  tens : Lib.TabIs Tryd.prog w "internal/strconv.uint64pow10" .u64 Lib.pow10Tab
  lo : 1 < w.heap.size
theorem LexW.keep {w w' : World} (h : LexW w) (hb : Below w.heap.size w w') : LexW w' := by
  obtain ⟨⟨m, h1⟩, ⟨ev, h2, h3⟩, h4, h5⟩ := h
  exact ⟨⟨m, (hb.cell (World.block_lt_of_cell? _ _ h1)).trans h1⟩, ⟨ev, (hb.cell (World.block_lt_of_cell? _ _ h2)).trans h2, h3⟩, var?_below hb (show Tryd.prog.globalNamed "internal/strconv.uint64pow10" = some 1 by kernel_rfl) h5 h4, Nat.lt_of_lt_of_le h5 hb.size⟩
theorem white_any (c : Int) (w : World) : Calls Tryd.prog 39 #[.int .u8 c] w fun e w' => e = .returned (.bool (decide (whiteP c))) ∧ w = w' := by
  go_enter Tryd.func39, Tryd.ntmps39
  go_wp2_with fail
  all_goals
    go_ret
    refine ⟨congrArg (fun b => Ending.returned (.bool b)) (?_ : _ = decide (whiteP c)), rfl⟩
    first
      | (refine (decide_eq_true ?_).symm; unfold whiteP; omega)
      | (refine (decide_eq_false ?_).symm; unfold whiteP; omega)
      | (refine decide_eq_decide.2 ?_; unfold whiteP; omega)
      | (refine (beq_eq_decide _ _).trans (decide_eq_decide.2 ?_); unfold whiteP; omega)
theorem rwhite_any (c : Int) (w : World) : Calls Tryd.prog 20 #[.int .u8 c] w fun e w' => e = .returned (.bool (decide (whiteP c))) ∧ w = w' := by
  go_enter Tryd.func20, Tryd.ntmps20
  go_wp2_with fail
  all_goals
    go_ret
    refine ⟨congrArg (fun b => Ending.returned (.bool b)) (?_ : _ = decide (whiteP c)), rfl⟩
    first
      | (refine (decide_eq_true ?_).symm; unfold whiteP; omega)
      | (refine (decide_eq_false ?_).symm; unfold whiteP; omega)
      | (refine decide_eq_decide.2 ?_; unfold whiteP; omega)
      | (refine (beq_eq_decide _ _).trans (decide_eq_decide.2 ?_); unfold whiteP; omega)
theorem drewN_below (w : World) (n : Nat) : Below w.heap.size w (w.drewN n) := ⟨rfl, rfl, rfl, Nat.le_refl _, fun _ _ => rfl⟩
/-- ParseUint of digits. -/
theorem puint_any (s : ByteArray) (hs : s.size ≤ 281474976710656) (h0 : s.data.toList ≠ []) (hd : alldB s.data.toList = true) (w : World) (hW : LexW w) :
    Calls Tryd.prog 47 #[.string s, .int .i64 10, .int .i64 64] w fun e w' => (∃ (u : Nat) (ev : Value), e = .returned (.tuple #[.int .u64 u, ev]) ∧ ((ev = .nilIface ∧ u = valS s.data.toList) ∨ ((∃ te pe, ev = .iface te pe) ∧ 18446744073709551615 < valS s.data.toList))) ∧ Below w.heap.size w w' := by
  rcases parse_all s.data.toList h0 hd with ⟨h1, h2⟩ | ⟨h1, h2⟩
  · refine (Any.strconv_ParseUint_10_at64_ok puLays s (by omega) _ h1 w).mono ?_
    rintro e w' ⟨rfl, h⟩
    refine ⟨⟨_, _, rfl, .inl ⟨rfl, rfl⟩⟩, ?_⟩
    rcases h with rfl | rfl
    · exact Below.refl _ _
    · exact Lib.bytesWorld_below _ _ _
  · obtain ⟨ev, hv, hev⟩ := hW.range
    refine (Any.strconv_ParseUint_10_at64_range puLays s hs h1 ev w hv hev).mono ?_
    rintro e w' ⟨N, rfl, _, _, h⟩
    exact ⟨⟨18446744073709551615, _, rfl, .inr ⟨⟨_, _, rfl⟩, h2⟩⟩, h⟩
theorem cut_any (s : ByteArray) (w : World) (hs : s.size < 4294967281) (hW : LexW w) :
    Calls Tryd.prog 37 #[.string s, .string ⟨#[10]⟩] w fun e w' => e = .returned (.tuple #[.string ⟨(Lib.cut s.data.toList [10]).1.toArray⟩, .string ⟨(Lib.cut s.data.toList [10]).2.1.toArray⟩, .bool (Lib.cut s.data.toList [10]).2.2]) ∧ ∃ n, w' = w.drewN n := by
  obtain ⟨m, hm⟩ := hW.maxlen
  exact Any.strings_Cut cutLays s ⟨#[10]⟩ m w hs hm
theorem number_nil (most : Nat) (w : World) : Calls Tryd.prog 30 #[.string ⟨#[]⟩, .int .u64 most] w fun e w' => e = .returned (.tuple #[.int .u32 0, .bool false]) ∧ Below w.heap.size w w' := by
  go_enter Tryd.func30, Tryd.ntmps30
  go_wp2_with fail
  go_ret2
  exact ⟨rfl, Below.refl _ _⟩
set_option maxHeartbeats 1000000 in
theorem number_cons (most : Nat) (hm : most ≤ 4294967295) (c : UInt8) (r : List UInt8) (hs : r.length + 1 ≤ 140737488352000) (w : World) (hW : LexW w) :
    Calls Tryd.prog 30 #[.string ⟨(c :: r).toArray⟩, .int .u64 most] w fun e w' => (∃ n : Int, e = .returned (.tuple #[.int .u32 n, .bool (numOk most (c :: r))]) ∧ (numOk most (c :: r) = true → n = (valS (c :: r) : Nat))) ∧ Below w.heap.size w w' := by
  have HAD := shid (alld_any ⟨(c :: r).toArray⟩ (by simp [ByteArray.size]; omega) w)
  have HN := shid (show numOk most (c :: r) = (!(c :: r).isEmpty && alldB (c :: r) && !(head48 (c :: r) && decide (1 < (c :: r).length)) && decide (valS (c :: r) ≤ most)) from rfl)
  have HP := shid (fun h => puint_any ⟨(c :: r).toArray⟩ (by simp [ByteArray.size]; omega) (by simp) h w hW)
  have hb0 : ((r.length : Int) + 1 == 0) = false := by rw [beq_eq_false_iff_ne]; omega
  cases hd : alldB (c :: r) with
  | false =>
    have HD2 := shid (by have h := HAD.out; simp only [hd] at h; exact h)
    have HB := shid (show numOk most (c :: r) = false by rw [HN.out, hd]; simp)
    clear hd HP
    rw [HB.out]
    go_enter Tryd.func30, Tryd.ntmps30
    go_wp2_with (go_at_call 45; (with_reducible refine HD2.out.mono ?_); rintro e w8 ⟨rfl, rfl⟩)
    go_ret2
    exact ⟨⟨0, rfl, by simp⟩, Below.refl _ _⟩
  | true =>
    have HD2 := shid (by have h := HAD.out; simp only [hd] at h; exact h)
    have HP2 := shid (HP.out hd)
    by_cases hz : c.toNat = 48 ∧ 1 < r.length + 1
    · have HB := shid (show numOk most (c :: r) = false by rw [HN.out, show head48 (c :: r) = true from decide_eq_true hz.1, show decide (1 < (c :: r).length) = true from decide_eq_true hz.2]; simp)
      have h1 : ((((⟨(c :: r).toArray⟩ : ByteArray)[0]'(by simp [ByteArray.size])).toNat : Int) == 48) = true := by rw [beq_iff_eq]; have := hz.1; show (c.toNat : Int) = 48; omega
      have h2 : decide ((1 : Int) < r.length + 1) = true := decide_eq_true (by have := hz.2; omega)
      clear hd HP hz
      rw [HB.out]
      go_enter Tryd.func30, Tryd.ntmps30
      go_wp2_with (go_at_call 45; (with_reducible refine HD2.out.mono ?_); rintro e w8 ⟨rfl, rfl⟩)
      go_ret2
      exact ⟨⟨0, rfl, by simp⟩, Below.refl _ _⟩
    · have hz2 : (head48 (c :: r) && decide (1 < (c :: r).length)) = false := by
        rw [Bool.and_eq_false_iff]
        by_cases h48 : c.toNat = 48
        · exact .inr (decide_eq_false (fun h => hz ⟨h48, h⟩))
        · exact .inl (decide_eq_false h48)
      have HB := shid (show numOk most (c :: r) = decide (valS (c :: r) ≤ most) by rw [HN.out, hd, hz2]; simp)
      have HZ : Hid (((((⟨(c :: r).toArray⟩ : ByteArray)[0]'(by simp [ByteArray.size])).toNat : Int) == 48) = false ∨ ((((⟨(c :: r).toArray⟩ : ByteArray)[0]'(by simp [ByteArray.size])).toNat : Int) == 48) = true ∧ decide ((1 : Int) < r.length + 1) = false) := shid (by
        by_cases h48 : c.toNat = 48
        · exact .inr ⟨by rw [beq_iff_eq]; show (c.toNat : Int) = 48; omega, decide_eq_false (fun h => hz ⟨h48, by omega⟩)⟩
        · exact .inl (by rw [beq_eq_false_iff_ne]; show (c.toNat : Int) ≠ 48; omega))
      clear hd hz2 hz HP
      rw [HB.out]
      have HM := shid hm
      clear hm HN HB HAD
      generalize hv : valS (c :: r) = v at *
      clear hv
      rcases HZ.out with h1 | ⟨h1, h2⟩
      all_goals
        go_enter Tryd.func30, Tryd.ntmps30
        go_wp2_with (go_at_call 45; (with_reducible refine HD2.out.mono ?_); rintro e w8 ⟨rfl, rfl⟩)
        go_at_call 47
        refine HP2.out.mono ?_
        rintro e w9 ⟨⟨u, ev, rfl, hu⟩, hb⟩
        have HBL := shid hb
        clear hb
        rcases hu with ⟨rfl, rfl⟩ | ⟨⟨te, pe, rfl⟩, hbig⟩
        · by_cases hle : u ≤ most
          · have h3 : decide ((u : Int) ≤ (most : Int)) = true := decide_eq_true (by omega)
            have h4 : IntKind.wrap .u32 (u : Int) = u := by have := HM.out; simp [IntKind.wrap, IntKind.bits, IntKind.signed]; omega
            have HE := shid (decide_eq_true hle)
            clear hle
            go_wp2_with fail
            go_ret2
            exact ⟨⟨_, by rw [HE.out]; rfl, fun _ => by rfl⟩, HBL.out⟩
          · have h3 : decide ((u : Int) ≤ (most : Int)) = false := decide_eq_false (by omega)
            have HE := shid (decide_eq_false hle)
            clear hle
            go_wp2_with fail
            go_ret2
            exact ⟨⟨_, by rw [HE.out]; rfl, fun h => by rw [HE.out] at h; cases h⟩, HBL.out⟩
        · have HE := shid (decide_eq_false (show ¬ v ≤ most by have := HM.out; omega))
          clear hbig
          go_wp2_with fail
          go_ret2
          exact ⟨⟨_, by rw [HE.out]; rfl, fun h => by rw [HE.out] at h; cases h⟩, HBL.out⟩
theorem number_any (most : Nat) (hm : most ≤ 4294967295) (s : ByteArray) (hs : s.size ≤ 140737488352000) (w : World) (hW : LexW w) :
    Calls Tryd.prog 30 #[.string s, .int .u64 most] w fun e w' => (∃ n : Int, e = .returned (.tuple #[.int .u32 n, .bool (numOk most s.data.toList)]) ∧ (numOk most s.data.toList = true → n = (valS s.data.toList : Nat))) ∧ Below w.heap.size w w' := by
  obtain ⟨⟨l⟩⟩ := s
  cases l with
  | nil =>
    refine (number_nil most w).mono ?_
    rintro e w' ⟨rfl, hb⟩
    exact ⟨⟨0, rfl, fun h => by simp [numOk] at h⟩, hb⟩
  | cons c r => exact number_cons most hm c r (by simpa [ByteArray.size] using hs) w hW
end Go.Proofs.YthnfkecbgfcipaaDoor
