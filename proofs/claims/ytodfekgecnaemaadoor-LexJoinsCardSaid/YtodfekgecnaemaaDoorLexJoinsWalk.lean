/- 'LexJoins': its walk. -/
import Derived.Test.YtodfekgecnaemaaDoorLexWordsWalk
import Derived.Test.YtodfekgecnaemaaDoorLexAlike
import Derived.Test.YtodfekgecnaemaaDoorAsmStep
import Derived.Test.YtodfekgecnaemaaDoorLexApp
import Derived.Test.YtodfekgecnaemaaDoorLexLen
namespace Go.Proofs.YtodfekgecnaemaaDoor
open Go.RowKit
set_option linter.unusedVariables false
set_option linter.unusedSimpArgs false
theorem ba_lit (s : ByteArray) : ∃ l : List UInt8, s = ⟨l.toArray⟩ ∧ l.length = s.size := ⟨s.data.toList, (ba_self s).symm, by rw [Lib.size_eq]⟩
theorem join_ba (a b : List UInt8) : (⟨a.toArray⟩ ++ ⟨#[10]⟩ ++ ⟨b.toArray⟩ : ByteArray) = ⟨(a ++ 10 :: b).toArray⟩ := by
  rw [ba_cat]; simp
theorem join_two (a b : List UInt8) : (⟨a.toArray⟩ ++ ⟨b.toArray⟩ : ByteArray) = ⟨(a ++ b).toArray⟩ := by
  have h := ba_cat ⟨a.toArray⟩ ⟨b.toArray⟩ ⟨#[]⟩
  have e : ∀ x : ByteArray, x ++ ⟨#[]⟩ = x := fun x => by
    apply ByteArray.ext
    simp
  rw [e] at h
  rw [h]; simp
theorem toB_err {x : Except (Nat × Nat) (List Tok)} (h : toB x = none) : ∃ p, x = .error p := by
  cases x with
  | ok ts => cases h
  | error p => exact ⟨p, rfl⟩
theorem toB_ok {x : Except (Nat × Nat) (List Tok)} {l : List (Nat × List UInt8 × Nat)} (h : toB x = some l) : ∃ ts, x = .ok ts ∧ ts.map bare = l := by
  cases x with
  | ok ts => exact ⟨ts, rfl, Option.some.inj h⟩
  | error p => cases h
set_option maxRecDepth 100000 in
set_option maxHeartbeats 8000000 in
theorem walk_LexJoins (s : ByteArray) (hs : s.size ≤ maxLen) (u : ByteArray) (hu : u.size ≤ maxLen) (w : World) (hW : LexW w) : Calls Tryd.prog 7 #[.string s, .string u] w fun e w' => e = .returned (.bool true) ∧ Below w.heap.size w w' := by
  by_cases hgt : 1500 < s.size ∨ 1500 < u.size
  case pos =>
    have hor : (decide ((1500 : Int) < s.size) = true ∧ decide (1500 < s.size) = true) ∨ ((decide ((1500 : Int) < s.size) = false ∧ decide (1500 < s.size) = false) ∧ decide ((1500 : Int) < u.size) = true ∧ decide (1500 < u.size) = true) := by
      by_cases h0 : 1500 < s.size
      · exact .inl ⟨decide_eq_true (by omega), decide_eq_true h0⟩
      · exact .inr ⟨⟨decide_eq_false (by omega), decide_eq_false h0⟩, decide_eq_true (by omega), decide_eq_true (by omega)⟩
    have HH := shid (xhead_any w hW)
    clear hgt
    rcases hor with ⟨d1, d2⟩ | ⟨⟨d1, d2⟩, d3, d4⟩
    all_goals
      go_enter Tryd.func7, Tryd.ntmps7
      go_wp2_with fail
      refine HH.out.mono ?_
      rintro e w1 ⟨rfl, hb⟩
      have HB := shid hb
      clear hb
      go_wp2_with fail
      go_ret
      exact ⟨rfl, HB.out⟩
  obtain ⟨a, rfl, hal⟩ := ba_lit s
  obtain ⟨b, rfl, hbl⟩ := ba_lit u
  have hla : a.length ≤ 1500 := by omega
  have hlb : b.length ≤ 1500 := by omega
  clear hal hbl hs hu hgt
  have HJ := shid (join_lex a b)
  have d1 : decide ((1500 : Int) < a.length) = false := decide_eq_false (by omega)
  have d2 : decide (1500 < a.length) = false := decide_eq_false (by omega)
  have d3 : decide ((1500 : Int) < b.length) = false := decide_eq_false (by omega)
  have d4 : decide (1500 < b.length) = false := decide_eq_false (by omega)
  have g1 : ¬ (9223372036854775807 < a.length + 1) := by omega
  have g2 : ¬ (9223372036854775807 < a.length + 1 + b.length) := by omega
  have g3 : decide ((9223372036854775807 : Int) < a.length + 1) = false := decide_eq_false (by omega)
  have g4 : decide ((9223372036854775807 : Int) < a.length + 1 + b.length) = false := decide_eq_false (by omega)
  have hcat := join_ba a b
  cases hA : lexS a with
  | error p =>
    have HLA := shid hA
    have HLJ := shid (show ∃ q, lexS (a ++ 10 :: b) = .error q by
      apply toB_err
      rw [HJ.out, hA]; rfl)
    clear hA
    obtain ⟨q, hq⟩ := HLJ.out
    have HQ := shid hq
    clear hq HLJ
    go_enter Tryd.func7, Tryd.ntmps7
    go_wp2_with fail
    refine Calls.mono (lex_err a p (by omega) HLA.out _ hW) ?_
    rintro e w1 ⟨rfl, hb1⟩
    have HB1 := shid (hb1.alloc hb1.size (.cells #[.int .i64 (p.1 : Int), .int .i64 (p.2 : Int)] 25))
    clear hb1
    go_wp2_with fail
    refine Calls.mono (lex_some b (by omega) _ (hW.keep HB1.out)) ?_
    rintro e w2 ⟨⟨v2, x2, y2, e2, rfl⟩, hb2⟩
    have HB2 := shid (HB1.out.trans ((hb2.alloc hb2.size (.cells #[.int .i64 x2, .int .i64 y2] 25)).mono HB1.out.size))
    clear hb2
    go_wp2_with fail
    refine Calls.mono (lex_err (a ++ 10 :: b) q (by simp; omega) HQ.out _ (hW.keep HB2.out)) ?_
    rintro e w3 ⟨rfl, hb3⟩
    have HB3 := shid (HB2.out.trans ((hb3.alloc hb3.size (.cells #[.int .i64 (q.1 : Int), .int .i64 (q.2 : Int)] 25)).mono HB2.out.size))
    clear hb3
    go_wp2_with fail
    refine Calls.mono (xhead_any _ (hW.keep HB3.out)) ?_
    rintro e w4 ⟨rfl, hb4⟩
    have HB4 := shid (HB3.out.trans (hb4.mono HB3.out.size))
    clear hb4
    go_wp2_with fail
    go_ret
    exact ⟨rfl, HB4.out⟩
  | ok xs =>
    cases hB : lexS b with
    | error p =>
      have HLA := shid hA
      have HLB := shid hB
      have HLJ := shid (show ∃ q, lexS (a ++ 10 :: b) = .error q by
        apply toB_err
        rw [HJ.out, hA, hB]; rfl)
      clear hA hB
      obtain ⟨q, hq⟩ := HLJ.out
      have HQ := shid hq
      clear hq HLJ
      go_enter Tryd.func7, Tryd.ntmps7
      go_wp2_with fail
      refine Calls.mono (lex_ok a xs (by omega) HLA.out _ hW) ?_
      rintro e w1 ⟨⟨v1, rfl, _⟩, hb1⟩
      have HB1 := shid (hb1.alloc hb1.size (.cells #[.int .i64 0, .int .i64 0] 25))
      clear hb1
      go_wp2_with fail
      refine Calls.mono (lex_err b p (by omega) HLB.out _ (hW.keep HB1.out)) ?_
      rintro e w2 ⟨rfl, hb2⟩
      have HB2 := shid (HB1.out.trans ((hb2.alloc hb2.size (.cells #[.int .i64 (p.1 : Int), .int .i64 (p.2 : Int)] 25)).mono HB1.out.size))
      clear hb2
      go_wp2_with fail
      refine Calls.mono (lex_err (a ++ 10 :: b) q (by simp; omega) HQ.out _ (hW.keep HB2.out)) ?_
      rintro e w3 ⟨rfl, hb3⟩
      have HB3 := shid (HB2.out.trans ((hb3.alloc hb3.size (.cells #[.int .i64 (q.1 : Int), .int .i64 (q.2 : Int)] 25)).mono HB2.out.size))
      clear hb3
      go_wp2_with fail
      refine Calls.mono (xhead_any _ (hW.keep HB3.out)) ?_
      rintro e w4 ⟨rfl, hb4⟩
      have HB4 := shid (HB3.out.trans (hb4.mono HB3.out.size))
      clear hb4
      go_wp2_with fail
      go_ret
      exact ⟨rfl, HB4.out⟩
    | ok ys =>
      have HLA := shid hA
      have HLB := shid hB
      obtain ⟨zs, hz, hzb⟩ := toB_ok (show toB (lexS (a ++ 10 :: b)) = some (xs.map bare ++ ys.map bare) by rw [HJ.out, hA, hB]; rfl)
      have HQ := shid hz
      have HZB := shid (show zs.map bare = (xs ++ ys).map bare by rw [hzb, List.map_append])
      have HTX := shid (show textS zs = textS xs ++ textS ys by
        rw [textS_bare zs (xs ++ ys) HZB.out, textS_append xs ys (linesT_ends _ _ _ hA)])
      clear hA hB hz hzb
      go_enter Tryd.func7, Tryd.ntmps7
      go_wp2_with fail
      refine Calls.mono (lex_ok a xs (by omega) HLA.out _ hW) ?_
      rintro e w1 ⟨⟨v1, rfl, hx1⟩, hb1⟩
      have hk1 : Below w1.heap.size w1 (w1.alloc (.cells #[.int .i64 0, .int .i64 0] 25)) := (Below.refl _ _).alloc (Nat.le_refl _) _
      have HX1 := shid (hx1.keepB hk1)
      have HB1 := shid (hb1.trans (hk1.mono hb1.size))
      clear hb1 hk1 hx1
      go_wp2_with fail
      generalize w1.alloc (.cells #[.int .i64 0, .int .i64 0] 25) = w2 at HX1 HB1 ⊢
      refine Calls.mono (lex_ok b ys (by omega) HLB.out _ (hW.keep HB1.out)) ?_
      rintro e w3 ⟨⟨v3, rfl, hy3⟩, hb3⟩
      have hk3 : Below w3.heap.size w3 (w3.alloc (.cells #[.int .i64 0, .int .i64 0] 25)) := (Below.refl _ _).alloc (Nat.le_refl _) _
      have hk3' := hb3.trans (hk3.mono hb3.size)
      have HX3 := shid (HX1.out.keepB hk3')
      have HY3 := shid (hy3.keepB hk3)
      have HB3 := shid (HB1.out.trans (hk3'.mono HB1.out.size))
      clear hb3 hk3 hk3' hy3 HX1 HB1
      go_wp2_with fail
      generalize w3.alloc (.cells #[.int .i64 0, .int .i64 0] 25) = w4 at HX3 HY3 HB3 ⊢
      refine Calls.mono (lex_ok (a ++ 10 :: b) zs (by simp; omega) HQ.out _ (hW.keep HB3.out)) ?_
      rintro e w5 ⟨⟨v5, rfl, hz5⟩, hb5⟩
      have hk5 : Below w5.heap.size w5 (w5.alloc (.cells #[.int .i64 0, .int .i64 0] 25)) := (Below.refl _ _).alloc (Nat.le_refl _) _
      have hk5' := hb5.trans (hk5.mono hb5.size)
      have HX5 := shid (HX3.out.keepB hk5')
      have HY5 := shid (HY3.out.keepB hk5')
      have HZ5 := shid (hz5.keepB hk5)
      have HB5 := shid (HB3.out.trans (hk5'.mono HB3.out.size))
      clear hb5 hk5 hk5' hz5 HX3 HY3 HB3
      obtain ⟨px, cx, bx, ox, hvx, lx, QX⟩ := HX5.out.hids
      obtain ⟨py, cy, by', oy, hvy, ly, QY⟩ := HY5.out.hids
      obtain ⟨pz, cz, bz, oz, hvz, lz, QZ⟩ := HZ5.out.hids
      subst hvx hvy hvz
      clear QX QY QZ
      have hsx := lexS_sizes 1500 a xs HLA.out hla
      have hsy := lexS_sizes 1500 b ys HLB.out hlb
      have hsz := lexS_sizes 3001 (a ++ 10 :: b) zs HQ.out (by simp; omega)
      obtain ⟨v1, W1, v2, W2, hrun1, hrun2, hv, hk9⟩ := app_two HX5.out HY5.out (by omega)
      rw [World.size_alloc] at hrun1
      have HV := shid hv
      have HX7 := shid (HX5.out.keepB hk9)
      have HY7 := shid (HY5.out.keepB hk9)
      have HZ7 := shid (HZ5.out.keepB hk9)
      have HB7 := shid (HB5.out.trans (hk9.mono HB5.out.size))
      have HR1 := shid hrun1
      have HR2 := shid hrun2
      have HS := shid (And.intro hsx (And.intro hsy hsz))
      clear hrun1 hrun2 hk9 hv HX5 HY5 HZ5 HB5 hsx hsy hsz
      go_wp2_with (first
        | (at_builtin; refine wpList_app_eq Tryd.prog rfl _ _ 23 rfl _ _ _ _ rfl rfl HR1.out ?_)
        | (at_builtin; refine wpList_app_eq Tryd.prog rfl _ _ 23 rfl _ _ _ _ rfl rfl HR2.out ?_))
      refine Calls.mono (alike_yes _ _ zs (xs ++ ys) _ HZ7.out HV.out HZB.out) ?_
      rintro e w7 ⟨rfl, hb7⟩
      have HX8 := shid (HX7.out.keepB hb7)
      have HY8 := shid (HY7.out.keepB hb7)
      have HZ8 := shid (HZ7.out.keepB hb7)
      have HB8 := shid (HB7.out.trans (hb7.mono HB7.out.size))
      clear hb7 HX7 HY7 HZ7 HB7 HR1 HR2 HV
      go_wp2_with fail
      refine Calls.mono (text_any _ zs _ HZ8.out (by have := HS.out.2.2.2; omega)) ?_
      rintro e w8 ⟨rfl, hb8⟩
      have HX9 := shid (HX8.out.keepB hb8)
      have HY9 := shid (HY8.out.keepB hb8)
      have HB9 := shid (HB8.out.trans (hb8.mono HB8.out.size))
      clear hb8 HX8 HY8 HZ8 HB8
      rw [HTX.out]
      have tcat := join_two (textS xs) (textS ys)
      have t1 : ¬ (9223372036854775807 < (textS xs).length + (textS ys).length) := by have := HS.out.1.2; have := HS.out.2.1.2; omega
      have t2 : decide ((9223372036854775807 : Int) < (textS xs).length + (textS ys).length) = false := decide_eq_false (by omega)
      go_wp2_with fail
      refine Calls.mono (text_any _ xs _ HX9.out (by have := HS.out.1.2; omega)) ?_
      rintro e w9 ⟨rfl, hb9⟩
      have HY10 := shid (HY9.out.keepB hb9)
      have HB10 := shid (HB9.out.trans (hb9.mono HB9.out.size))
      clear hb9 HX9 HY9 HB9
      go_wp2_with fail
      refine Calls.mono (text_any _ ys _ HY10.out (by have := HS.out.2.1.2; omega)) ?_
      rintro e w10 ⟨rfl, hb10⟩
      have HB11 := shid (HB10.out.trans (hb10.mono HB10.out.size))
      clear hb10 HY10 HB10
      go_wp2_with fail
      refine Calls.mono (xhead_any _ (hW.keep HB11.out)) ?_
      rintro e w11 ⟨rfl, hb11⟩
      have HB12 := shid (HB11.out.trans (hb11.mono HB11.out.size))
      clear hb11
      go_wp2_with fail
      go_ret
      exact ⟨rfl, HB12.out⟩
end Go.Proofs.YtodfekgecnaemaaDoor
