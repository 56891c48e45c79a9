/- 'LexTells': its walk. -/
import Derived.Test.YthnfkecbgfcipaaDoorLexOut
import Derived.Test.YthnfkecbgfcipaaDoorLexRLex
import Derived.Test.YthnfkecbgfcipaaDoorLexRText
import Derived.Test.YthnfkecbgfcipaaDoorLexLen
namespace Go.Proofs.YthnfkecbgfcipaaDoor
open Go.RowKit
set_option linter.unusedVariables false
set_option linter.unusedSimpArgs false
theorem rlex_out (l : List UInt8) (hl : l.length ≤ 65536) {ts : List Tok} {x y er : Int} (h : outS (lexS l) = (ts, x, y, er)) (w : World) :
    Calls Tryd.prog 8 #[.string ⟨l.toArray⟩] w fun e w' => (∃ v, e = .returned (.tuple #[v, .agg #[.int .i64 x, .int .i64 y], .int .i64 er]) ∧ TokIn w' v ts) ∧ Below w.heap.size w w' := by
  refine (rlex_any l hl w).mono ?_
  rintro e w' ⟨h1, hb⟩
  cases hx : lexS l with
  | ok us =>
    rw [hx] at h h1
    cases h
    exact ⟨h1, hb⟩
  | error p =>
    rw [hx] at h h1
    cases h
    exact ⟨⟨_, h1, tok_nil _⟩, hb⟩
set_option maxRecDepth 100000 in
set_option maxHeartbeats 8000000 in
theorem walk_LexTells (s : ByteArray) (hs : s.size ≤ maxLen) (w : World) (hW : LexW w) : Calls Tryd.prog 3 #[.string s] w fun e w' => e = .returned (.bool true) ∧ Below w.heap.size w w' := by
  by_cases hgt : 3000 < s.size
  case pos =>
    have d1 : decide ((3000 : Int) < s.size) = true := decide_eq_true (by omega)
    have d2 : decide (3000 < s.size) = true := decide_eq_true hgt
    have HH := shid (xhead_any w hW)
    clear hgt
    go_enter Tryd.func3, Tryd.ntmps3
    go_wp2_with fail
    refine HH.out.mono ?_
    rintro e w1 ⟨rfl, hb⟩
    have HB := shid hb
    clear hb
    go_wp2_with fail
    go_ret
    exact ⟨rfl, HB.out⟩
  obtain ⟨l, rfl, hll⟩ : ∃ l : List UInt8, s = ⟨l.toArray⟩ ∧ l.length = s.size := ⟨s.data.toList, (ba_self s).symm, by rw [Lib.size_eq]⟩
  have hl : l.length ≤ 3000 := by omega
  clear hll hs hgt
  have d1 : decide ((3000 : Int) < l.length) = false := decide_eq_false (by omega)
  have d2 : decide (3000 < l.length) = false := decide_eq_false (by omega)
  obtain ⟨ts, x, y, er, hout⟩ : ∃ ts x y er, outS (lexS l) = (ts, x, y, er) := ⟨_, _, _, _, rfl⟩
  have HO := shid hout
  have HT : Hid ((textS ts).length ≤ 1000000000000) := shid (by
    cases hx : lexS l with
    | error p => rw [hx] at hout; cases hout; simp [textS]
    | ok us =>
      rw [hx] at hout
      cases hout
      have := (lexS_sizes 3000 l _ hx hl).2
      omega)
  clear hout
  go_enter Tryd.func3, Tryd.ntmps3
  go_wp2_with fail
  refine Calls.mono (lex_out l (by omega) HO.out _ hW) ?_
  rintro e w1 ⟨⟨v1, rfl, hx1⟩, hb1⟩
  have hk1 : Below w1.heap.size w1 (w1.alloc (.cells #[.int .i64 x, .int .i64 y] 25)) := (Below.refl _ _).alloc (Nat.le_refl _) _
  have HP1 := shid (PosBox.new w1 x y 25)
  have HX1 := shid (hx1.keepB hk1)
  have HB1 := shid (hb1.trans (hk1.mono hb1.size))
  clear hb1 hk1 hx1
  go_wp2_with fail
  generalize w1.alloc (.cells #[.int .i64 x, .int .i64 y] 25) = w2 at HX1 HB1 HP1 ⊢
  generalize w1.heap.size = b1 at HP1 ⊢
  refine Calls.mono (rlex_out l (by omega) HO.out _) ?_
  rintro e w3 ⟨⟨v3, rfl, hx3⟩, hb3⟩
  have hk3 : Below w3.heap.size w3 (w3.alloc (.cells #[.int .i64 x, .int .i64 y] 25)) := (Below.refl _ _).alloc (Nat.le_refl _) _
  have HQ3 := shid (PosBox.new w3 x y 25)
  have HY3 := shid (hx3.keepB hk3)
  have HB13 := hb3.trans (hk3.mono hb3.size)
  have HX3 := shid (HX1.out.keepB HB13)
  have HP3 := shid (HP1.out.keep HB13)
  have HB3 := shid (HB1.out.trans (HB13.mono HB1.out.size))
  clear hb3 hk3 hx3 HB13 HX1 HP1 HB1
  go_wp2_with fail
  generalize w3.alloc (.cells #[.int .i64 x, .int .i64 y] 25) = w4 at HX3 HY3 HB3 HP3 HQ3 ⊢
  generalize w3.heap.size = b3 at HQ3 ⊢
  refine Calls.mono (toksame_yes _ _ ts _ HX3.out HY3.out) ?_
  rintro e w5 ⟨rfl, hb5⟩
  have HX5 := shid (HX3.out.keepB hb5)
  have HY5 := shid (HY3.out.keepB hb5)
  have p0 := (HP3.out.keep hb5).c0
  have p1 := (HP3.out.keep hb5).c1
  have q0 := (HQ3.out.keep hb5).c0
  have q1 := (HQ3.out.keep hb5).c1
  have HB5 := shid (HB3.out.trans (hb5.mono HB3.out.size))
  clear hb5 HX3 HY3 HP3 HQ3 HB3
  go_wp2_with fail
  refine Calls.mono (text_any _ ts _ HX5.out HT.out) ?_
  rintro e w6 ⟨rfl, hb6⟩
  have HY6 := shid (HY5.out.keepB hb6)
  have HB6 := shid (HB5.out.trans (hb6.mono HB5.out.size))
  clear hb6 p0 p1 q0 q1 HB5 HX5 HY5
  go_wp2_with fail
  refine Calls.mono (rtext_any _ ts _ HY6.out HT.out) ?_
  rintro e w7 ⟨rfl, rfl⟩
  go_wp2_with fail
  refine Calls.mono (xhead_any _ (hW.keep HB6.out)) ?_
  rintro e w8 ⟨rfl, hb8⟩
  have HB8 := shid (HB6.out.trans (hb8.mono HB6.out.size))
  clear hb8
  go_wp2_with fail
  go_ret
  exact ⟨rfl, HB8.out⟩
end Go.Proofs.YthnfkecbgfcipaaDoor
