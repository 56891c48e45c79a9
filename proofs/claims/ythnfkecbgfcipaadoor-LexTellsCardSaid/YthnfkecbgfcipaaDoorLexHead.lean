/- The laws' head: sources whose tokens the document fixes. (Printed by genlexhead.py.) -/
import Derived.Test.YthnfkecbgfcipaaDoorLexText
import Derived.Test.YthnfkecbgfcipaaDoorLexSame
import Derived.Test.YthnfkecbgfcipaaDoorLexReg
import Derived.Test.YthnfkecbgfcipaaDoorLexKnown
namespace Go.Proofs.YthnfkecbgfcipaaDoor
open Go.RowKit
set_option linter.unusedVariables false
set_option linter.unusedSimpArgs false
theorem wrong_yes (s : List UInt8) (a b : Nat) (hs : s.length ≤ 65536) (h : lexS s = .error (a, b)) (w : World) (hW : LexW w) : Calls Tryd.prog 14 #[.string ⟨s.toArray⟩, .int .i64 (a : Int), .int .i64 (b : Int)] w fun e w' => e = .returned (.bool true) ∧ Below w.heap.size w w' := by
  have HL := shid (lex_err s (a, b) hs h w hW)
  go_enter Tryd.func14, Tryd.ntmps14
  go_wp2_with fail
  refine HL.out.mono ?_
  rintro e w1 ⟨rfl, hb⟩
  have HB := shid hb
  clear hb
  go_wp2_with fail
  all_goals go_ret
  all_goals exact ⟨by simp_all, HB.out.alloc HB.out.size _⟩
theorem reg_4095 : regS 4095 = [118, 52, 48, 57, 53] := by
  unfold regS
  rw [if_neg (by omega)]
  simp [Lib.decDigits]
theorem reg_4096 : regS 4096 = [] := by
  unfold regS
  rw [if_pos (by omega)]
theorem tokA_at {w : World} {p : Option Addr} {n c : Nat} {ts : List Tok} (h : TokIn w (.slice p n c) ts) {k : Nat} {t : Tok} (ht : ts[k]? = some t) : ∃ b o, p = some ⟨b, o, none⟩ ∧ TokAt w b (o + k * 5) t := by
  obtain ⟨_, p', c', b, o, he, ⟨h2, _⟩, h3⟩ := h
  cases he
  exact ⟨b, o, h2 (by have := (List.getElem?_eq_some_iff.1 ht).1; omega), h3 k t ht⟩
set_option maxRecDepth 100000 in
set_option maxHeartbeats 8000000 in
theorem xhead_any (w : World) (hW : LexW w) : Calls Tryd.prog 6 #[] w fun e w' => e = .returned (.bool true) ∧ Below w.heap.size w w' := by
  go_enter Tryd.func6, Tryd.ntmps6
  go_wp2_with fail
  refine Calls.mono (lex_ok [97, 100, 100, 32, 118, 49, 32, 118, 48, 32, 118, 49, 50] tA (by decide) known_a _ hW) ?_
  rintro e w1 ⟨⟨va, rfl, ha⟩, hb1⟩
  obtain ⟨pa, ca, ba, oa, hva, _, _⟩ := ha.hids
  rw [show tA.length = 5 from rfl] at hva
  subst hva
  have HB1 := shid (hb1.alloc hb1.size (.cells #[.int .i64 0, .int .i64 0] 25))
  have HA1 := shid (ha.keepB ((Below.refl w1.heap.size w1).alloc (Nat.le_refl _) (.cells #[.int .i64 0, .int .i64 0] 25)))
  clear hb1 ha
  go_wp2_with fail
  generalize w1.alloc (.cells #[.int .i64 0, .int .i64 0] 25) = w2 at HB1 HA1 ⊢
  refine Calls.mono (lex_ok [115, 116, 97, 114, 116, 58, 10, 32, 99, 111, 110, 115, 116, 32, 118, 48, 32, 45, 49] tB (by decide) known_b _ (hW.keep HB1.out)) ?_
  rintro e w3 ⟨⟨vb, rfl, hb⟩, hb3⟩
  obtain ⟨pb, cb, bb, ob, hvb, _, _⟩ := hb.hids
  rw [show tB.length = 6 from rfl] at hvb
  subst hvb
  have hk3 : Below w2.heap.size w2 (w3.alloc (.cells #[.int .i64 0, .int .i64 0] 25)) := hb3.alloc hb3.size (.cells #[.int .i64 0, .int .i64 0] 25)
  have HA3 := shid (HA1.out.keepB hk3)
  have HB3 := shid (HB1.out.trans (hk3.mono HB1.out.size))
  have HT3 := shid (hb.keepB ((Below.refl w3.heap.size w3).alloc (Nat.le_refl _) (.cells #[.int .i64 0, .int .i64 0] 25)))
  clear hb3 hb hk3 HA1 HB1
  go_wp2_with fail
  generalize w3.alloc (.cells #[.int .i64 0, .int .i64 0] 25) = w4 at HA3 HB3 HT3 ⊢
  refine Calls.mono (lex_ok [35, 32, 97, 108, 108, 32, 111, 102, 32, 105, 116] [] (by decide) known_c _ (hW.keep HB3.out)) ?_
  rintro e w5 ⟨⟨vc, rfl, hc⟩, hb5⟩
  obtain ⟨pc, cc, bc, oc, hvc, _, _⟩ := hc.hids
  rw [show ([] : List Tok).length = 0 from rfl] at hvc
  subst hvc
  have hk5 : Below w4.heap.size w4 (w5.alloc (.cells #[.int .i64 0, .int .i64 0] 25)) := hb5.alloc hb5.size (.cells #[.int .i64 0, .int .i64 0] 25)
  have HA5 := shid (HA3.out.keepB hk5)
  have HB5 := shid (HB3.out.trans (hk5.mono HB3.out.size))
  have HT5 := shid (HT3.out.keepB hk5)
  clear hb5 hc hk5 HA3 HB3 HT3
  obtain ⟨b0, o0, rfl, hat⟩ := tokA_at HA5.out (k := 3) rfl
  have hn12 : (w5.alloc (.cells #[.int .i64 0, .int .i64 0] 25)).cell? ⟨b0, o0 + 15 + 2, none⟩ = some (.int .u32 12) := hat.c2
  have hn12b : (w5.alloc (.cells #[.int .i64 0, .int .i64 0] 25)).cell? ⟨b0, o0 + 17, none⟩ = some (.int .u32 12) := hat.c2
  have hn12c := fun o => lcell_alloc o hn12
  have hn12d := fun o => lcell_alloc o hn12b
  clear hat
  go_wp2_with fail
  have hk6 : Below (w5.alloc (.cells #[.int .i64 0, .int .i64 0] 25)).heap.size (w5.alloc (.cells #[.int .i64 0, .int .i64 0] 25)) ((w5.alloc (.cells #[.int .i64 0, .int .i64 0] 25)).alloc (.cells #[.int .u8 1, .string ⟨#[115, 116, 97, 114, 116]⟩, .int .u32 0, .int .i64 1, .int .i64 1, .int .u8 6, .string ⟨#[]⟩, .int .u32 0, .int .i64 1, .int .i64 7, .int .u8 0, .string ⟨#[99, 111, 110, 115, 116]⟩, .int .u32 0, .int .i64 2, .int .i64 2, .int .u8 2, .string ⟨#[118, 48]⟩, .int .u32 0, .int .i64 2, .int .i64 8, .int .u8 3, .string ⟨#[45, 49]⟩, .int .u32 4294967295, .int .i64 2, .int .i64 11, .int .u8 6, .string ⟨#[]⟩, .int .u32 0, .int .i64 2, .int .i64 13] 41)) := (Below.refl _ _).alloc (Nat.le_refl _) _
  have HA6 := shid (HA5.out.keepB hk6)
  have HB6 := shid (HB5.out.trans (hk6.mono HB5.out.size))
  have HT6 := shid (HT5.out.keepB hk6)
  have HW6 : Hid (TokIn ((w5.alloc (.cells #[.int .i64 0, .int .i64 0] 25)).alloc (.cells #[.int .u8 1, .string ⟨#[115, 116, 97, 114, 116]⟩, .int .u32 0, .int .i64 1, .int .i64 1, .int .u8 6, .string ⟨#[]⟩, .int .u32 0, .int .i64 1, .int .i64 7, .int .u8 0, .string ⟨#[99, 111, 110, 115, 116]⟩, .int .u32 0, .int .i64 2, .int .i64 2, .int .u8 2, .string ⟨#[118, 48]⟩, .int .u32 0, .int .i64 2, .int .i64 8, .int .u8 3, .string ⟨#[45, 49]⟩, .int .u32 4294967295, .int .i64 2, .int .i64 11, .int .u8 6, .string ⟨#[]⟩, .int .u32 0, .int .i64 2, .int .i64 13] 41)) (.slice (some ⟨w5.heap.size + 1, 0, none⟩) 6 6) tB) := shid (tok_in (base := 0) ⟨rfl, .inr ⟨w5.heap.size + 1, 6, #[.int .u8 1, .string ⟨#[115, 116, 97, 114, 116]⟩, .int .u32 0, .int .i64 1, .int .i64 1, .int .u8 6, .string ⟨#[]⟩, .int .u32 0, .int .i64 1, .int .i64 7, .int .u8 0, .string ⟨#[99, 111, 110, 115, 116]⟩, .int .u32 0, .int .i64 2, .int .i64 2, .int .u8 2, .string ⟨#[118, 48]⟩, .int .u32 0, .int .i64 2, .int .i64 8, .int .u8 3, .string ⟨#[45, 49]⟩, .int .u32 4294967295, .int .i64 2, .int .i64 11, .int .u8 6, .string ⟨#[]⟩, .int .u32 0, .int .i64 2, .int .i64 13], rfl, Nat.zero_le _, by
    have h := World.alloc_heap_new (w5.alloc (.cells #[.int .i64 0, .int .i64 0] 25)) (.cells #[.int .u8 1, .string ⟨#[115, 116, 97, 114, 116]⟩, .int .u32 0, .int .i64 1, .int .i64 1, .int .u8 6, .string ⟨#[]⟩, .int .u32 0, .int .i64 1, .int .i64 7, .int .u8 0, .string ⟨#[99, 111, 110, 115, 116]⟩, .int .u32 0, .int .i64 2, .int .i64 2, .int .u8 2, .string ⟨#[118, 48]⟩, .int .u32 0, .int .i64 2, .int .i64 8, .int .u8 3, .string ⟨#[45, 49]⟩, .int .u32 4294967295, .int .i64 2, .int .i64 11, .int .u8 6, .string ⟨#[]⟩, .int .u32 0, .int .i64 2, .int .i64 13] 41)
    rw [World.size_alloc] at h
    exact h, Nat.le_refl _, by decide, rfl, rfl⟩⟩ (by decide))
  clear hk6 HA5 HB5 HT5 hn12 hn12b hn12c hn12d
  revert HA6 HB6 HT6 HW6
  generalize ((w5.alloc (.cells #[.int .i64 0, .int .i64 0] 25)).alloc (.cells #[.int .u8 1, .string ⟨#[115, 116, 97, 114, 116]⟩, .int .u32 0, .int .i64 1, .int .i64 1, .int .u8 6, .string ⟨#[]⟩, .int .u32 0, .int .i64 1, .int .i64 7, .int .u8 0, .string ⟨#[99, 111, 110, 115, 116]⟩, .int .u32 0, .int .i64 2, .int .i64 2, .int .u8 2, .string ⟨#[118, 48]⟩, .int .u32 0, .int .i64 2, .int .i64 8, .int .u8 3, .string ⟨#[45, 49]⟩, .int .u32 4294967295, .int .i64 2, .int .i64 11, .int .u8 6, .string ⟨#[]⟩, .int .u32 0, .int .i64 2, .int .i64 13] 41)) = w6
  intro HA6 HB6 HT6 HW6
  refine Calls.mono (toksame_yes _ _ tB _ HT6.out HW6.out) ?_
  rintro e w7 ⟨rfl, hb7⟩
  have HA7 := shid (HA6.out.keepB hb7)
  have HB7 := shid (HB6.out.trans (hb7.mono HB6.out.size))
  clear hb7 HA6 HB6 HT6 HW6
  go_wp2_with fail
  refine Calls.mono (wrong_yes [118, 52, 48, 57, 54] 1 1 (by decide) known_1 _ (hW.keep HB7.out)) ?_
  rintro e w8 ⟨rfl, hb8⟩
  have HA8 := shid (HA7.out.keepB hb8)
  have HB8 := shid (HB7.out.trans (hb8.mono HB7.out.size))
  clear hb8 HA7 HB7
  go_wp2_with fail
  refine Calls.mono (wrong_yes [118, 48, 49] 1 1 (by decide) known_2 _ (hW.keep HB8.out)) ?_
  rintro e w9 ⟨rfl, hb9⟩
  have HA9 := shid (HA8.out.keepB hb9)
  have HB9 := shid (HB8.out.trans (hb9.mono HB8.out.size))
  clear hb9 HA8 HB8
  go_wp2_with fail
  refine Calls.mono (wrong_yes [45, 48] 1 1 (by decide) known_3 _ (hW.keep HB9.out)) ?_
  rintro e w10 ⟨rfl, hb10⟩
  have HA10 := shid (HA9.out.keepB hb10)
  have HB10 := shid (HB9.out.trans (hb10.mono HB9.out.size))
  clear hb10 HA9 HB9
  go_wp2_with fail
  refine Calls.mono (wrong_yes [48, 48, 55] 1 1 (by decide) known_4 _ (hW.keep HB10.out)) ?_
  rintro e w11 ⟨rfl, hb11⟩
  have HA11 := shid (HA10.out.keepB hb11)
  have HB11 := shid (HB10.out.trans (hb11.mono HB10.out.size))
  clear hb11 HA10 HB10
  go_wp2_with fail
  refine Calls.mono (wrong_yes [97, 45, 98] 1 1 (by decide) known_5 _ (hW.keep HB11.out)) ?_
  rintro e w12 ⟨rfl, hb12⟩
  have HA12 := shid (HA11.out.keepB hb12)
  have HB12 := shid (HB11.out.trans (hb12.mono HB11.out.size))
  clear hb12 HA11 HB11
  go_wp2_with fail
  refine Calls.mono (wrong_yes [52, 50, 57, 52, 57, 54, 55, 50, 57, 54] 1 1 (by decide) known_6 _ (hW.keep HB12.out)) ?_
  rintro e w13 ⟨rfl, hb13⟩
  have HA13 := shid (HA12.out.keepB hb13)
  have HB13 := shid (HB12.out.trans (hb13.mono HB12.out.size))
  clear hb13 HA12 HB12
  go_wp2_with fail
  refine Calls.mono (wrong_yes [32, 32, 120, 32, 63] 1 5 (by decide) known_7 _ (hW.keep HB13.out)) ?_
  rintro e w14 ⟨rfl, hb14⟩
  have HA14 := shid (HA13.out.keepB hb14)
  have HB14 := shid (HB13.out.trans (hb14.mono HB13.out.size))
  clear hb14 HA13 HB13
  go_wp2_with fail
  refine Calls.mono (reg_any 4095 _ (hW.keep HB14.out)) ?_
  rintro e w15 ⟨rfl, hb15⟩
  have HA15 := shid (HA14.out.keepB hb15)
  have HB15 := shid (HB14.out.trans (hb15.mono HB14.out.size))
  clear hb15 HA14 HB14
  rw [reg_4095]
  go_wp2_with fail
  refine Calls.mono (reg_any 4096 _ (hW.keep HB15.out)) ?_
  rintro e w16 ⟨rfl, hb16⟩
  have HA16 := shid (HA15.out.keepB hb16)
  have HB16 := shid (HB15.out.trans (hb16.mono HB15.out.size))
  clear hb16 HA15 HB15
  rw [reg_4096]
  go_wp2_with fail
  refine Calls.mono (text_any _ tA _ HA16.out (by rw [known_t]; decide)) ?_
  rintro e w17 ⟨rfl, hb17⟩
  have HB17 := shid (HB16.out.trans (hb17.mono HB16.out.size))
  clear hb17 HA16 HB16
  rw [known_t]
  go_wp2_with fail
  go_ret
  exact ⟨rfl, HB17.out⟩
end Go.Proofs.YthnfkecbgfcipaaDoor
