/- 'LexPlaces': its walk. -/
import Derived.Test.YthnfkecbgfcipaaDoorLexOffset
import Derived.BigQuiet
namespace Go.Proofs.YthnfkecbgfcipaaDoor
open Go.RowKit
set_option linter.unusedVariables false
set_option linter.unusedSimpArgs false
theorem ext_take (l : List UInt8) (e : Nat) : (⟨l.toArray⟩ : ByteArray).extract 0 e = ⟨(l.take e).toArray⟩ := by
  apply ByteArray.ext
  simp [ByteArray.data_extract]
theorem ext_place {l t : List UInt8} {o : Nat} (h : (l.drop o).take t.length = t) : (⟨l.toArray⟩ : ByteArray).extract o (o + t.length) = ⟨t.toArray⟩ := by
  apply ByteArray.ext
  have e : (l.take (o + t.length)).drop o = t := by rw [List.drop_take, Nat.add_sub_cancel_left]; exact h
  simp [ByteArray.data_extract]
  exact h
set_option maxRecDepth 100000 in
set_option maxHeartbeats 8000000 in
theorem walk_LexPlaces (s : ByteArray) (hs : s.size ≤ maxLen) (w : World) (hW : LexW w) : Calls Tryd.prog 5 #[.string s] w fun e w' => e = .returned (.bool true) ∧ Below w.heap.size w w' := by
  by_cases hgt : 2000 < s.size
  case pos =>
    have d1 : decide ((2000 : Int) < s.size) = true := decide_eq_true (by omega)
    have d2 : decide (2000 < s.size) = true := decide_eq_true hgt
    have HH := shid (xhead_any w hW)
    clear hgt
    go_enter Tryd.func5, Tryd.ntmps5
    go_wp2_with fail
    refine HH.out.mono ?_
    rintro e w1 ⟨rfl, hb⟩
    have HB := shid hb
    clear hb
    go_wp2_with fail
    go_ret
    exact ⟨rfl, HB.out⟩
  obtain ⟨l, rfl, hll⟩ : ∃ l : List UInt8, s = ⟨l.toArray⟩ ∧ l.length = s.size := ⟨s.data.toList, (ba_self s).symm, by rw [Lib.size_eq]⟩
  have hl : l.length ≤ 2000 := by omega
  clear hll hs hgt
  have d1 : decide ((2000 : Int) < l.length) = false := decide_eq_false (by omega)
  have d2 : decide (2000 < l.length) = false := decide_eq_false (by omega)
  cases hx : lexS l with
  | error p =>
    obtain ⟨a, b⟩ := p
    obtain ⟨h1, h2, h3, ts, h4, h5⟩ := lex_err_place l (a, b) hx
    simp only at h1 h2 h3 h4
    have HX := shid hx
    have HA := shid h4
    have HOFF := shid fun W => offset_any l (by omega) a b h1 h2 (by omega) W
    obtain ⟨o, ho⟩ : ∃ o, o = lineS l (a - 1) + b - 1 := ⟨_, rfl⟩
    rw [← ho] at h3 HA HOFF
    clear hx h4 ho h1 h2
    go_enter Tryd.func5, Tryd.ntmps5
    go_wp2_with fail
    refine Calls.mono (lex_err l (a, b) (by omega) HX.out _ hW) ?_
    rintro e w1 ⟨rfl, hb1⟩
    have hp := PosBox.new w1 (a : Int) (b : Int) 25
    have p0 := hp.c0
    have p1 := hp.c1
    have HB1 := shid (hb1.alloc hb1.size (.cells #[.int .i64 (a : Int), .int .i64 (b : Int)] 25))
    clear hb1 hp
    go_wp2_with fail
    generalize w1.alloc (.cells #[.int .i64 (a : Int), .int .i64 (b : Int)] 25) = w2 at HB1 p0 p1 ⊢
    refine (HOFF.out _).mono ?_
    rintro e w3 ⟨rfl, hb3⟩
    have HB3 := shid (HB1.out.trans (hb3.mono HB1.out.size))
    clear hb3 HB1 p0 p1
    have g1 : ¬ ((l.length : Int) ≤ o) := by omega
    have g2 : (o : Int) ≤ l.length := by omega
    have g3 : o ≤ l.length := by omega
    have hext := ext_take l o
    go_wp2_with fail
    refine Calls.mono (lex_ok (l.take o) ts (by rw [List.length_take]; omega) HA.out _ (hW.keep HB3.out)) ?_
    rintro e w4 ⟨⟨v4, rfl, hx4⟩, hb4⟩
    have HB4 := shid (HB3.out.trans ((hb4.alloc hb4.size (.cells #[.int .i64 0, .int .i64 0] 25)).mono HB3.out.size))
    obtain ⟨pa, ca, ba, oa, rfl, la, QA⟩ := hx4.hids
    have g4 : (ts.length : Int) < l.length := by omega
    clear hb4 hx4 QA HB3
    go_wp2_with fail
    refine Calls.mono (xhead_any _ (hW.keep HB4.out)) ?_
    rintro e w8 ⟨rfl, hb8⟩
    have HB8 := shid (HB4.out.trans (hb8.mono HB4.out.size))
    clear hb8
    go_wp2_with fail
    go_ret
    exact ⟨rfl, HB8.out⟩
  | ok ts =>
    have HP := shid (lex_placed l ts hx)
    have HX := shid hx
    clear hx
    go_enter Tryd.func5, Tryd.ntmps5
    go_wp2_with fail
    refine Calls.mono (lex_ok l ts (by omega) HX.out _ hW) ?_
    rintro e w1 ⟨⟨v1, rfl, hx1⟩, hb1⟩
    have hk1 : Below w1.heap.size w1 (w1.alloc (.cells #[.int .i64 0, .int .i64 0] 25)) := (Below.refl _ _).alloc (Nat.le_refl _) _
    have HP1 := shid (PosBox.new w1 0 0 25)
    have HX1 := shid (hx1.keepB hk1)
    have HB1 := shid (hb1.trans (hk1.mono hb1.size))
    clear hb1 hk1 hx1
    go_wp2_with fail
    generalize w1.alloc (.cells #[.int .i64 0, .int .i64 0] 25) = w2 at HX1 HB1 HP1 ⊢
    generalize w1.heap.size = b1 at HP1 ⊢
    obtain ⟨pa, ca, ba, oa, rfl, la, QA⟩ := HX1.out.hids
    clear HX1
    go_loopw [11, 12] (fun z i wr => ∃ (k n : Nat) (y : Int), k ≤ ts.length ∧ i = .int .i64 (k : Int) ∧ z = .int .i64 y ∧ y < n ∧ Hid (PlacedFrom l n (ts.drop k)) ∧ Hid (Below w2.heap.size w2 wr)) (fun _ i _ => ts.length - (intOf i).toNat)
    case atStart => exact ⟨0, 0, -1, Nat.zero_le _, rfl, rfl, by omega, shid HP.out, shid (Below.refl _ _)⟩
    case round =>
      obtain ⟨k, n, y, hk, rfl, rfl, hy, hpl, hbel⟩ := hrel
      have HPL := shid hpl.out
      have HBR := shid hbel.out
      clear hpl hbel
      by_cases hlt : k < ts.length
      · obtain rfl := QA.out.1 (by omega)
        obtain ⟨t, ht⟩ : ∃ t, ts[k]? = some t := ⟨_, List.getElem?_eq_getElem hlt⟩
        have hA := (QA.out.2 k t ht).keep HBR.out
        have a1 := hA.c1
        have a3 := hA.c3
        have a4 := hA.c4
        have HAT := shid hA
        have hpl := HPL.out
        rw [drop_at ht] at hpl
        obtain ⟨h1, h2, h3, h4, h5, h6⟩ := hpl
        have HOFF := shid fun W => offset_any l (by omega) t.line t.col h1 h2 (by omega) W
        obtain ⟨o, ho⟩ : ∃ o, o = lineS l (t.line - 1) + t.col - 1 := ⟨_, rfl⟩
        rw [← ho] at h3 h4 h5 h6 HOFF
        have hext := ext_place h5
        have HNX := shid h6
        have g0 : (k : Int) < ts.length := by omega
        have g1 : ¬ ((o : Int) ≤ y) := by omega
        have g2 : (o : Int) + t.text.length ≤ l.length := by omega
        have g3 : ¬ ((l.length : Int) < (o : Int) + t.text.length) := by omega
        have g4 : o + t.text.length ≤ l.length := by omega
        clear h1 h2 h5 h6 ho ht hA
        go_wp2_with fail
        refine (HOFF.out _).mono ?_
        rintro e w7 ⟨rfl, hb7⟩
        have b1' := (HAT.out.keep hb7).c1
        have HBR7 := shid (HBR.out.trans (hb7.mono HBR.out.size))
        clear hb7 HAT a1 a3 a4
        go_wp2_with fail
        have g1d : decide ((o : Int) ≤ y) = false := decide_eq_false (by omega)
        have g3d : decide ((l.length : Int) < (o : Int) + t.text.length) = false := decide_eq_false (by omega)
        go_quiet (fail)
        go_wp2_with fail
        exact ⟨⟨k + 1, o + 1, (o : Int), by omega, by go_num, rfl, by omega, shid HNX.out, shid (sdrewN HBR7.out nq)⟩, by simp [intOf] <;> omega⟩
      · obtain rfl : k = ts.length := by omega
        have p0 := (HP1.out.keep HBR.out).c0
        have p1 := (HP1.out.keep HBR.out).c1
        have HB7 := shid (HB1.out.trans (HBR.out.mono HB1.out.size))
        clear HPL HBR
        go_wp2_with fail
        refine Calls.mono (xhead_any _ (hW.keep HB7.out)) ?_
        rintro e w8 ⟨rfl, hb8⟩
        have HB8 := shid (HB7.out.trans (hb8.mono HB7.out.size))
        clear hb8
        go_wp2_with fail
        go_ret
        exact ⟨rfl, HB8.out⟩
end Go.Proofs.YthnfkecbgfcipaaDoor
