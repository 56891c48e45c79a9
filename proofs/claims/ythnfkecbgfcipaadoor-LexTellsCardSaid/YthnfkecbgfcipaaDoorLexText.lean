/- lex.Text. -/
import Derived.Test.YthnfkecbgfcipaaDoorLexRow
import Derived.Test.YthnfkecbgfcipaaDoorLexBld
namespace Go.Proofs.YthnfkecbgfcipaaDoor
open Go.RowKit
set_option linter.unusedVariables false
set_option linter.unusedSimpArgs false
/-- A token's part of the text. -/
def tailS : List Tok → List UInt8
  | [] => []
  | u :: _ => if u.kind = 6 then [] else [32]
theorem textS_cons (t : Tok) (r : List Tok) : textS (t :: r) = (if t.kind = 6 then [10] else t.text ++ (if t.kind = 1 then [58] else []) ++ tailS r) ++ textS r := by
  cases r <;> rfl
theorem tok_of_row {w : World} {p : Option Addr} {c : Nat} {ts : List Tok} {b o : Nat} (Q : (0 < ts.length → p = some ⟨b, o, none⟩) ∧ ∀ (k : Nat) (x : Tok), ts[k]? = some x → TokAt w b (o + k * 5) x) {w' : World} (hb : Below w.heap.size w w') {k : Nat} {x : Tok} (hx : ts[k]? = some x) : TokAt w' b (o + k * 5) x := (Q.2 k x hx).keep hb
set_option maxRecDepth 100000 in
set_option maxHeartbeats 4000000 in
theorem text_any (v : Value) (ts : List Tok) (w : World) (h : TokIn w v ts) (hl : (textS ts).length ≤ 1000000000000) :
    Calls Tryd.prog 10 #[v] w fun e w' => e = .returned (.string ⟨(textS ts).toArray⟩) ∧ Below w.heap.size w w' := by
  obtain ⟨p, c, b, o, rfl, hl2, Q⟩ := h.hids
  clear h
  go_enter Tryd.func10, Tryd.ntmps10
  go_wp2_with fail
  have HB0 := shid (BldAt.new w w.heap.size (Nat.le_refl _))
  have HW0 := shid ((Below.refl _ w).alloc (Nat.le_refl _) (.cells #[.pointer none, .slice none 0 0] 63))
  have HS0 : w.heap.size < (w.alloc (.cells #[.pointer none, .slice none 0 0] 63)).heap.size := by simp
  generalize w.alloc (.cells #[.pointer none, .slice none 0 0] 63) = W0 at HB0 HW0 HS0 ⊢
  go_loopw [8] (fun i wr => ∃ (k : Nat) (c : List UInt8), k ≤ ts.length ∧ i = .int .i64 (k : Int) ∧ c ++ textS (ts.drop k) = textS ts ∧ BldAt w.heap.size w.heap.size c wr ∧ Below w.heap.size w wr ∧ w.heap.size < wr.heap.size) (fun i _ => ts.length - (intOf i).toNat)
  case atStart => exact ⟨0, [], Nat.zero_le _, rfl, rfl, HB0.out, HW0.out, HS0⟩
  case round =>
    obtain ⟨k, c0, hk, rfl, hc, hb, hw, hsw⟩ := hrel
    have HC := shid hc
    have HB := shid hb
    have HW := shid hw
    clear hc hb hw HB0 HW0 HS0
    by_cases hlt : k < ts.length
    case neg =>
      have d1 : decide ((k : Int) < ts.length) = false := decide_eq_false (by omega)
      have HE := shid (show c0 = textS ts by have h := HC.out; rw [List.drop_eq_nil_of_le (by omega)] at h; simpa [textS] using h)
      have HS := shid (bstring_any w.heap.size w.heap.size c0 wr HB.out HW.out.size)
      go_wp2_with fail
      go_at_call 24
      refine HS.out.mono ?_
      rintro e w1 ⟨rfl, hb1⟩
      have HB1 := shid hb1
      clear hb1
      go_wp2_with fail
      go_ret
      exact ⟨sret_val (by rw [HE.out]; rfl), HW.out.trans HB1.out⟩
    obtain rfl := Q.out.1 (by omega)
    obtain ⟨t, ht⟩ : ∃ t, ts[k]? = some t := ⟨_, List.getElem?_eq_getElem hlt⟩
    have HD : Hid (ts.drop k = t :: ts.drop (k + 1)) := shid (by rw [List.drop_eq_getElem_cons hlt]; congr 1; rw [List.getElem?_eq_getElem hlt] at ht; exact Option.some.inj ht)
    have hTA := (Q.out.2 k t ht).keep HW.out
    have c0' := hTA.c0
    have c1' := hTA.c1
    have c2' := hTA.c2
    have c3' := hTA.c3
    have c4' := hTA.c4
    have h1 : (k : Int) < ts.length := by omega
    have d1 : decide ((k : Int) < ts.length) = true := decide_eq_true h1
    clear hTA
    have hnx : ∀ u, ts[k + 1]? = some u → wr.cell? ⟨b, o + (k + 1) * 5, none⟩ = some (.int .u8 (u.kind : Int)) := fun u hu => ((Q.out.2 (k + 1) u hu).keep HW.out).c0
    have HNX := shid hnx
    have hBs : w.heap.size ≤ wr.heap.size := HW.out.size
    have hlc : c0.length + (textS (ts.drop k)).length = (textS ts).length := by rw [← List.length_append, HC.out]
    have HTX := shid (textS_cons t (ts.drop (k + 1)))
    rw [HD.out] at hlc
    have hw64 : wrap64 ((k : Int) + 1) = (k : Int) + 1 := by unfold wrap64; omega
    clear hnx
    by_cases h6 : t.kind = 6
    · have e6 : ((t.kind : Int) == 6) = true := by rw [beq_iff_eq]; omega
      have HPC := shid (show textS (t :: ts.drop (k + 1)) = [10] ++ textS (ts.drop (k + 1)) by rw [HTX.out, if_pos h6])
      rw [HPC.out, List.length_append] at hlc
      have HLC := shid hlc
      clear hlc
      go_wp2_with fail
      refine Calls.mono (wbyte_any w.heap.size w.heap.size c0 10 _ (HB.out.alloc _) (by have := HLC.out; simp at this; omega) (by simp; omega)) ?_
      rintro e w1 ⟨rfl, hb1, hk1⟩
      have HB1 := shid hb1
      have HK1 := shid hk1.1
      have hs1 : w.heap.size < w1.heap.size := by
        have h2 := hk1.1.size
        simp at h2
        omega
      clear hb1 hk1
      go_wp2_with fail
      go_roundw
      case rel => exact ⟨k + 1, c0 ++ [10], by omega, by simp, by rw [List.append_assoc, ← HPC.out, ← HD.out]; exact HC.out, HB1.out, (HW.out.alloc hBs _).trans HK1.out, hs1⟩
      case measure => simp [intOf] <;> omega
    · have e6 : ((t.kind : Int) == 6) = false := by rw [beq_eq_false_iff_ne]; omega
      have HPC := shid (show textS (t :: ts.drop (k + 1)) = (t.text ++ (if t.kind = 1 then [58] else []) ++ tailS (ts.drop (k + 1))) ++ textS (ts.drop (k + 1)) by rw [HTX.out, if_neg h6])
      have hlc2 : c0.length + (t.text.length + (if t.kind = 1 then [58] else ([] : List UInt8)).length + (tailS (ts.drop (k + 1))).length) ≤ 1000000000000 := by
        rw [HPC.out] at hlc
        simp only [List.length_append] at hlc
        omega
      have HLC := shid hlc2
      clear hlc hlc2
      go_wp2_with fail
      refine Calls.mono (wstring_any w.heap.size w.heap.size c0 ⟨t.text.toArray⟩ _ (HB.out.alloc _) (by have := HLC.out; rw [Lib.size_eq]; show c0.length + t.text.length ≤ _; exact Nat.le_trans (show c0.length + t.text.length ≤ 1000000000000 by omega) (by decide)) (by simp; omega)) ?_
      rintro e w1 ⟨rfl, hb1, hk1⟩
      have hbx : w1.heap[wr.heap.size]? = some (.cells #[.int .u8 (t.kind : Int), .string ⟨t.text.toArray⟩, .int .u32 (t.n : Int), .int .i64 (t.line : Int), .int .i64 (t.col : Int)] 41 (0, 0)) := hk1.2 _ _ (World.alloc_heap_new _ _) (by omega) (fun c fz e => by cases e)
      have t0 := blk_cell hbx (j := 0) rfl
      have HB1 := shid hb1
      have HW1 : Hid (Below w.heap.size w w1) := shid ((HW.out.alloc hBs _).trans hk1.1)
      have hs1 : w.heap.size < w1.heap.size := by
        have h2 := hk1.1.size
        simp at h2
        omega
      clear hb1 hk1 hbx c0' c1' c2' c3' c4'
      by_cases h1k : t.kind = 1
      · have e1 : ((t.kind : Int) == 1) = true := by rw [beq_iff_eq]; omega
        have HIF := shid (show (if t.kind = 1 then [58] else ([] : List UInt8)) = [58] from if_pos h1k)
        go_wp2_with fail
        refine Calls.mono (wbyte_any w.heap.size w.heap.size (c0 ++ t.text) 58 _ HB1.out (by have := HLC.out; rw [HIF.out] at this; rw [List.length_append]; exact Nat.le_trans (show c0.length + t.text.length + 1 ≤ 1000000000000 by simp at this; omega) (by decide)) (by omega)) ?_
        rintro e w2 ⟨rfl, hb2, hk2⟩
        have HB2 := shid hb2
        have HW2 := shid (HW1.out.trans hk2.1)
        have hs2 : w.heap.size < w2.heap.size := by have := hk2.1.size; omega
        clear hb2 hk2 t0
        have HC1 : Hid (c0 ++ t.text ++ [58] ++ tailS (ts.drop (k + 1)) ++ textS (ts.drop (k + 1)) = textS ts) := shid (by
          have h := HC.out
          rw [HD.out, HPC.out, HIF.out] at h
          rw [← h]; simp)
        cases hn : ts[k + 1]? with
        | none =>
          have hge : ts.length ≤ k + 1 := List.getElem?_eq_none_iff.1 hn
          have d2 : decide ((k : Int) + 1 < ts.length) = false := decide_eq_false (by omega)
          have d3 : ¬ ((k : Int) + 1 < ts.length) := by omega
          have HT0 := shid (show tailS (ts.drop (k + 1)) = [] by rw [List.drop_eq_nil_of_le hge]; rfl)
          clear hn
          go_wp2_with fail
          go_roundw
          case rel => exact ⟨k + 1, c0 ++ t.text ++ [58], by omega, by simp, by have h := HC1.out; rw [HT0.out, List.append_nil] at h; exact h, HB2.out, HW2.out, hs2⟩
          case measure => simp [intOf] <;> omega
        | some u =>
          have hlt2 : k + 1 < ts.length := (List.getElem?_eq_some_iff.1 hn).1
          have d2 : decide ((k : Int) + 1 < ts.length) = true := decide_eq_true (by omega)
          have d3 : (k : Int) + 1 < ts.length := by omega
          have n0 := ((Q.out.2 (k + 1) u hn).keep HW2.out).c0
          have hdr : ts.drop (k + 1) = u :: ts.drop (k + 2) := by
            rw [List.drop_eq_getElem_cons hlt2]; congr 1; rw [List.getElem?_eq_getElem hlt2] at hn; exact Option.some.inj hn
          have HDR := shid hdr
          clear hn hdr
          by_cases hu6 : u.kind = 6
          · have HT0 := shid (show tailS (ts.drop (k + 1)) = [] by rw [HDR.out]; exact if_pos hu6)
            have e7 : ((u.kind : Int) != 6) = false := by rw [bne_eq_false_iff_eq]; omega
            go_wp2_with fail
            go_roundw
            case rel => exact ⟨k + 1, c0 ++ t.text ++ [58], by omega, by simp, by have h := HC1.out; rw [HT0.out, List.append_nil] at h; exact h, HB2.out, HW2.out, hs2⟩
            case measure => simp [intOf] <;> omega
          · have HT0 := shid (show tailS (ts.drop (k + 1)) = [32] by rw [HDR.out]; exact if_neg hu6)
            have e7 : ((u.kind : Int) != 6) = true := by rw [bne_iff_ne]; omega
            go_wp2_with fail
            refine Calls.mono (wbyte_any w.heap.size w.heap.size (c0 ++ t.text ++ [58]) 32 _ HB2.out (by have := HLC.out; rw [HIF.out, HT0.out] at this; simp only [List.length_append]; exact Nat.le_trans (show c0.length + t.text.length + 1 + 1 ≤ 1000000000000 by simp at this; omega) (by decide)) (by omega)) ?_
            rintro e w3 ⟨rfl, hb3, hk3⟩
            have HB3 := shid hb3
            have HW3 := shid (HW2.out.trans hk3.1)
            have hs3 : w.heap.size < w3.heap.size := by have := hk3.1.size; omega
            clear hb3 hk3
            go_wp2_with fail
            go_roundw
            case rel => exact ⟨k + 1, c0 ++ t.text ++ [58] ++ [32], by omega, by simp, by have h := HC1.out; rw [HT0.out] at h; exact h, HB3.out, HW3.out, hs3⟩
            case measure => simp [intOf] <;> omega
      · have e1 : ((t.kind : Int) == 1) = false := by rw [beq_eq_false_iff_ne]; omega
        have HIF := shid (show (if t.kind = 1 then [58] else ([] : List UInt8)) = [] from if_neg h1k)
        have HC1 : Hid (c0 ++ t.text ++ tailS (ts.drop (k + 1)) ++ textS (ts.drop (k + 1)) = textS ts) := shid (by
          have h := HC.out
          rw [HD.out, HPC.out, HIF.out] at h
          rw [← h]; simp)
        cases hn : ts[k + 1]? with
        | none =>
          have hge : ts.length ≤ k + 1 := List.getElem?_eq_none_iff.1 hn
          have d2 : decide ((k : Int) + 1 < ts.length) = false := decide_eq_false (by omega)
          have d3 : ¬ ((k : Int) + 1 < ts.length) := by omega
          have HT0 := shid (show tailS (ts.drop (k + 1)) = [] by rw [List.drop_eq_nil_of_le hge]; rfl)
          clear hn
          go_wp2_with fail
          go_roundw
          case rel => exact ⟨k + 1, c0 ++ t.text, by omega, by simp, by have h := HC1.out; rw [HT0.out, List.append_nil] at h; exact h, HB1.out, HW1.out, hs1⟩
          case measure => simp [intOf] <;> omega
        | some u =>
          have hlt2 : k + 1 < ts.length := (List.getElem?_eq_some_iff.1 hn).1
          have d2 : decide ((k : Int) + 1 < ts.length) = true := decide_eq_true (by omega)
          have d3 : (k : Int) + 1 < ts.length := by omega
          have n0 := ((Q.out.2 (k + 1) u hn).keep HW1.out).c0
          have hdr : ts.drop (k + 1) = u :: ts.drop (k + 2) := by
            rw [List.drop_eq_getElem_cons hlt2]; congr 1; rw [List.getElem?_eq_getElem hlt2] at hn; exact Option.some.inj hn
          have HDR := shid hdr
          clear hn hdr
          by_cases hu6 : u.kind = 6
          · have HT0 := shid (show tailS (ts.drop (k + 1)) = [] by rw [HDR.out]; exact if_pos hu6)
            have e7 : ((u.kind : Int) != 6) = false := by rw [bne_eq_false_iff_eq]; omega
            go_wp2_with fail
            go_roundw
            case rel => exact ⟨k + 1, c0 ++ t.text, by omega, by simp, by have h := HC1.out; rw [HT0.out, List.append_nil] at h; exact h, HB1.out, HW1.out, hs1⟩
            case measure => simp [intOf] <;> omega
          · have HT0 := shid (show tailS (ts.drop (k + 1)) = [32] by rw [HDR.out]; exact if_neg hu6)
            have e7 : ((u.kind : Int) != 6) = true := by rw [bne_iff_ne]; omega
            go_wp2_with fail
            refine Calls.mono (wbyte_any w.heap.size w.heap.size (c0 ++ t.text) 32 _ HB1.out (by have := HLC.out; rw [HIF.out, HT0.out] at this; simp only [List.length_append]; exact Nat.le_trans (show c0.length + t.text.length + 1 ≤ 1000000000000 by simp at this; omega) (by decide)) (by omega)) ?_
            rintro e w3 ⟨rfl, hb3, hk3⟩
            have HB3 := shid hb3
            have HW3 := shid (HW1.out.trans hk3.1)
            have hs3 : w.heap.size < w3.heap.size := by have := hk3.1.size; omega
            clear hb3 hk3
            go_wp2_with fail
            go_roundw
            case rel => exact ⟨k + 1, c0 ++ t.text ++ [32], by omega, by simp, by have h := HC1.out; rw [HT0.out] at h; exact h, HB3.out, HW3.out, hs3⟩
            case measure => simp [intOf] <;> omega
end Go.Proofs.YthnfkecbgfcipaaDoor
