/- 'LexWords': its walk. -/
import Derived.Test.YtodfekgecnaemaaDoorLexHead
import Derived.Test.YtodfekgecnaemaaDoorLexWordsLaw
namespace Go.Proofs.YtodfekgecnaemaaDoor
open Go.RowKit
set_option linter.unusedVariables false
set_option linter.unusedSimpArgs false
theorem lex_some (s : List UInt8) (hs : s.length ≤ 65536) (w : World) (hW : LexW w) : Calls Tryd.prog 9 #[.string ⟨s.toArray⟩] w fun e w' => (∃ v a b er, e = .returned (.tuple #[v, .agg #[.int .i64 a, .int .i64 b], .int .i64 er])) ∧ Below w.heap.size w w' := by
  refine (lex_any s hs w hW).mono ?_
  rintro e w' ⟨h1, h2⟩
  refine ⟨?_, h2⟩
  cases h : lexS s with
  | ok ts => rw [h] at h1; obtain ⟨v, rfl, _⟩ := h1; exact ⟨v, 0, 0, 0, rfl⟩
  | error p => rw [h] at h1; subst h1; exact ⟨_, _, _, _, rfl⟩
theorem ba_cat (a b c : ByteArray) : a ++ b ++ c = ⟨(a.data.toList ++ b.data.toList ++ c.data.toList).toArray⟩ := by
  apply ByteArray.ext
  simp [ByteArray.data_append]
theorem ba_self (s : ByteArray) : (⟨s.data.toList.toArray⟩ : ByteArray) = s := by apply ByteArray.ext; simp
set_option maxRecDepth 100000 in
set_option maxHeartbeats 8000000 in
theorem walk_LexWords (s : ByteArray) (hs : s.size ≤ maxLen) (n : Int) (hn : -9223372036854775808 ≤ n ∧ n ≤ 9223372036854775807) (w : World) (hW : LexW w) : Calls Tryd.prog 4 #[.string s, .int .i64 n] w fun e w' => e = .returned (.bool true) ∧ Below w.heap.size w w' := by
  by_cases h200 : s.size ≤ 200
  case neg =>
    have d1 : decide ((200 : Int) < s.size) = true := decide_eq_true (by omega)
    have d2 : decide (200 < s.size) = true := decide_eq_true (by omega)
    have HH := shid (xhead_any w hW)
    go_enter Tryd.func4, Tryd.ntmps4
    go_wp2_with fail
    refine HH.out.mono ?_
    rintro e w1 ⟨rfl, hb⟩
    have HB := shid hb
    clear hb
    go_wp2_with fail
    go_ret
    exact ⟨rfl, HB.out⟩
  have d1 : decide ((200 : Int) < s.size) = false := decide_eq_false (by omega)
  have d2 : decide (200 < s.size) = false := decide_eq_false (by omega)
  have hsz : s.size ≤ 140737488352000 := Nat.le_trans h200 (by decide)
  have HN := shid (fun W => name_any s hsz W)
  have HR := shid (fun W => rname_any s hsz W)
  have hlen : s.data.toList.length ≤ 200 := by rw [← Lib.size_eq]; exact h200
  have hcat : (⟨#[120, 32]⟩ ++ s ++ ⟨#[58]⟩ : ByteArray) = ⟨(120 :: 32 :: (s.data.toList ++ [58])).toArray⟩ := by rw [ba_cat]; rfl
  have HG := shid (fun W h => reg_any n W h)
  generalize hnb : nameB s.data.toList = nb at HN HR
  have HNB := shid hnb
  clear hnb hsz hs
  go_enter Tryd.func4, Tryd.ntmps4
  go_wp2_with fail
  refine (HN.out _).mono ?_
  rintro e w1 ⟨rfl, rfl⟩
  go_wp2_with fail
  refine (HR.out _).mono ?_
  rintro e w2 ⟨rfl, rfl⟩
  go_wp2_with fail
  refine (HG.out _ hW).mono ?_
  rintro e w3 ⟨rfl, hb3⟩
  have HB3 := shid hb3
  clear hb3
  have g1 : decide ((9223372036854775807 : Int) < 2 + s.size) = false := decide_eq_false (by omega)
  have g2 : ¬ (9223372036854775807 < 2 + s.size) := by omega
  have g3 : decide ((9223372036854775807 : Int) < 2 + s.size + 1) = false := decide_eq_false (by omega)
  have g4 : ¬ (9223372036854775807 < 2 + s.size + 1) := by omega
  have g5 : ¬ (9223372036854775807 < (⟨#[120, 32]⟩ ++ s : ByteArray).size + 1) := by rw [ByteArray.size_append]; show ¬ (9223372036854775807 < 2 + s.size + 1); omega
  by_cases hout : n < 0 ∨ 4096 ≤ n
  · have hreg : regS n = [] := by unfold regS; rw [if_pos hout]
    have hor : decide (n < 0) = true ∨ (decide (n < 0) = false ∧ decide ((4095 : Int) < n) = true) := by
      by_cases h0 : n < 0
      · exact .inl (decide_eq_true h0)
      · exact .inr ⟨decide_eq_false h0, decide_eq_true (by omega)⟩
    rw [hreg]
    clear hout hreg HG
    rcases hor with h0 | ⟨h0, h1⟩
    all_goals
      go_wp2_with fail
      cases nb with
      | true =>
        refine Calls.mono (lex_ok (120 :: 32 :: (s.data.toList ++ [58])) _ (by simp; omega) (label_lex _ HNB.out) _ (hW.keep HB3.out)) ?_
        rintro e w5 ⟨⟨va, rfl, hta⟩, hb5⟩
        obtain ⟨pa, ca, ba, oa, hva, _, _⟩ := hta.hids
        simp only [List.length_cons, List.length_nil, Nat.zero_add, Nat.reduceAdd] at hva
        subst hva
        have hk5 : Below w5.heap.size w5 (w5.alloc (.cells #[.int .i64 0, .int .i64 0] 25)) := (Below.refl _ w5).alloc (Nat.le_refl _) _
        obtain ⟨b0, o0, rfl, hat⟩ := tokA_at (hta.keepB hk5) (k := 1) rfl
        have q0 : (w5.alloc (.cells #[.int .i64 0, .int .i64 0] 25)).cell? ⟨b0, o0 + 5, none⟩ = some (.int .u8 1) := hat.c0
        have q1 : (w5.alloc (.cells #[.int .i64 0, .int .i64 0] 25)).cell? ⟨b0, o0 + 5 + 1, none⟩ = some (.string s) := hat.c1.trans (by rw [ba_self])
        have q2 : (w5.alloc (.cells #[.int .i64 0, .int .i64 0] 25)).cell? ⟨b0, o0 + 6, none⟩ = some (.string s) := q1
        have HB5 := shid (HB3.out.trans ((hb5.trans (hk5.mono hb5.size)).mono HB3.out.size))
        clear hat hta hb5 hk5
        go_wp2_with fail
        refine (HN.out _).mono ?_
        rintro e w6 ⟨rfl, rfl⟩
        go_wp2_with fail
        refine Calls.mono (xhead_any _ (hW.keep HB5.out)) ?_
        rintro e w7 ⟨rfl, hb7⟩
        have HB7 := shid (HB5.out.trans (hb7.mono HB5.out.size))
        clear hb7
        go_wp2_with fail
        go_ret
        exact ⟨rfl, HB7.out⟩
      | false =>
        refine Calls.mono (lex_some (120 :: 32 :: (s.data.toList ++ [58])) (by simp; omega) _ (hW.keep HB3.out)) ?_
        rintro e w5 ⟨⟨va, pa, pb, er, rfl⟩, hb5⟩
        have HB5 := shid (HB3.out.trans ((hb5.alloc hb5.size (.cells #[.int .i64 pa, .int .i64 pb] 25)).mono HB3.out.size))
        clear hb5
        go_wp2_with fail
        refine (HN.out _).mono ?_
        rintro e w6 ⟨rfl, rfl⟩
        go_wp2_with fail
        refine Calls.mono (xhead_any _ (hW.keep HB5.out)) ?_
        rintro e w7 ⟨rfl, hb7⟩
        have HB7 := shid (HB5.out.trans (hb7.mono HB5.out.size))
        clear hb7
        go_wp2_with fail
        go_ret
        exact ⟨rfl, HB7.out⟩
  · obtain ⟨m, rfl⟩ : ∃ m : Nat, n = m := ⟨n.toNat, by omega⟩
    have hm : m < 4096 := by omega
    have h0 : decide ((m : Int) < 0) = false := decide_eq_false (by omega)
    have h1 : decide ((4095 : Int) < (m : Int)) = false := decide_eq_false (by omega)
    have h1b : decide (4095 < m) = false := decide_eq_false (by omega)
    have hreg : regS (m : Int) = 118 :: Lib.decDigits m := by unfold regS; rw [if_neg hout]; simp
    have hdl := decDigits_len m hm
    have HRL := shid (reg_lex m hm)
    have hwm : IntKind.wrap .u32 (m : Int) = m := wrap32 _ (by omega) (by omega)
    rw [hreg]
    clear hout hreg HG
    have hne : ((⟨(118 :: Lib.decDigits m).toArray⟩ : ByteArray).toList == []) = false := by rw [ByteArray.toList_eq]; rfl
    go_wp2_with fail
    refine Calls.mono (lex_ok (118 :: Lib.decDigits m) _ (by simp; omega) HRL.out _ (hW.keep HB3.out)) ?_
    rintro e w5 ⟨⟨va, rfl, hta⟩, hb5⟩
    obtain ⟨pa, ca, ba, oa, hva, _, _⟩ := hta.hids
    simp only [List.length_cons, List.length_nil, Nat.zero_add, Nat.reduceAdd] at hva
    subst hva
    have hk5 : Below w5.heap.size w5 (w5.alloc (.cells #[.int .i64 0, .int .i64 0] 25)) := (Below.refl _ w5).alloc (Nat.le_refl _) _
    obtain ⟨b0, o0, rfl, hat⟩ := tokA_at (hta.keepB hk5) (k := 0) rfl
    have q0 : (w5.alloc (.cells #[.int .i64 0, .int .i64 0] 25)).cell? ⟨b0, o0, none⟩ = some (.int .u8 2) := by have := hat.c0; rw [Nat.zero_mul, Nat.add_zero] at this; exact this
    have q1 : (w5.alloc (.cells #[.int .i64 0, .int .i64 0] 25)).cell? ⟨b0, o0 + 1, none⟩ = some (.string ⟨(118 :: Lib.decDigits m).toArray⟩) := by have := hat.c1; rw [Nat.zero_mul, Nat.add_zero] at this; exact this
    have q2 : (w5.alloc (.cells #[.int .i64 0, .int .i64 0] 25)).cell? ⟨b0, o0 + 2, none⟩ = some (.int .u32 (m : Int)) := by have := hat.c2; rw [Nat.zero_mul, Nat.add_zero] at this; exact this
    have HB5a := shid (HB3.out.trans ((hb5.trans (hk5.mono hb5.size)).mono HB3.out.size))
    clear hat hta hb5 hk5
    go_wp2_with fail
    generalize w5.alloc (.cells #[.int .i64 0, .int .i64 0] 25) = w6 at HB5a
    cases nb with
    | true =>
      refine Calls.mono (lex_ok (120 :: 32 :: (s.data.toList ++ [58])) _ (by simp; omega) (label_lex _ HNB.out) _ (hW.keep HB5a.out)) ?_
      rintro e w5 ⟨⟨va, rfl, hta⟩, hb5⟩
      obtain ⟨pa, ca, ba, oa, hva, _, _⟩ := hta.hids
      simp only [List.length_cons, List.length_nil, Nat.zero_add, Nat.reduceAdd] at hva
      subst hva
      have hk5 : Below w5.heap.size w5 (w5.alloc (.cells #[.int .i64 0, .int .i64 0] 25)) := (Below.refl _ w5).alloc (Nat.le_refl _) _
      obtain ⟨b0, o0, rfl, hat⟩ := tokA_at (hta.keepB hk5) (k := 1) rfl
      have q0 : (w5.alloc (.cells #[.int .i64 0, .int .i64 0] 25)).cell? ⟨b0, o0 + 5, none⟩ = some (.int .u8 1) := hat.c0
      have q1 : (w5.alloc (.cells #[.int .i64 0, .int .i64 0] 25)).cell? ⟨b0, o0 + 5 + 1, none⟩ = some (.string s) := hat.c1.trans (by rw [ba_self])
      have q2 : (w5.alloc (.cells #[.int .i64 0, .int .i64 0] 25)).cell? ⟨b0, o0 + 6, none⟩ = some (.string s) := q1
      have HB5 := shid (HB5a.out.trans ((hb5.trans (hk5.mono hb5.size)).mono HB5a.out.size))
      clear hat hta hb5 hk5
      go_wp2_with fail
      refine (HN.out _).mono ?_
      rintro e w6 ⟨rfl, rfl⟩
      go_wp2_with fail
      refine Calls.mono (xhead_any _ (hW.keep HB5.out)) ?_
      rintro e w7 ⟨rfl, hb7⟩
      have HB7 := shid (HB5.out.trans (hb7.mono HB5.out.size))
      clear hb7
      go_wp2_with fail
      go_ret
      exact ⟨rfl, HB7.out⟩
    | false =>
      refine Calls.mono (lex_some (120 :: 32 :: (s.data.toList ++ [58])) (by simp; omega) _ (hW.keep HB5a.out)) ?_
      rintro e w5 ⟨⟨va, pa, pb, er, rfl⟩, hb5⟩
      have HB5 := shid (HB5a.out.trans ((hb5.alloc hb5.size (.cells #[.int .i64 pa, .int .i64 pb] 25)).mono HB5a.out.size))
      clear hb5
      go_wp2_with fail
      refine (HN.out _).mono ?_
      rintro e w6 ⟨rfl, rfl⟩
      go_wp2_with fail
      refine Calls.mono (xhead_any _ (hW.keep HB5.out)) ?_
      rintro e w7 ⟨rfl, hb7⟩
      have HB7 := shid (HB5.out.trans (hb7.mono HB5.out.size))
      clear hb7
      go_wp2_with fail
      go_ret
      exact ⟨rfl, HB7.out⟩
end Go.Proofs.YtodfekgecnaemaaDoor
