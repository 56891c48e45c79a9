/- Several texts in one: AsmWalks, AsmMark. -/
import Derived.Test.YtajholbcpmjhiaaGreatDoorH04
import Derived.WalkArith
set_option linter.unusedVariables false
set_option linter.unusedSimpArgs false
/- Walks of the package asm: none, New, Len, At, Mark. -/
namespace Go.Proofs.YtajholbcpmjhiaaGreatDoor
open Go.RowKit Go.Maps
theorem ahid {p : Prop} (h : p) : Hid p := h
theorem AsmAt.cells {w : World} {p m : Nat} {sv : Value} {K : Nat → Prop} {L : List It} {M : List (List UInt8 × Int)} (h : AsmAt w p sv m K L M) :
    w.cell? ⟨p, 0, none⟩ = some sv ∧ w.cell? ⟨p, 1, none⟩ = some (.map (some m)) ∧ w.frozen? ⟨p, 0, none⟩ = false ∧ w.frozen? ⟨p, 1, none⟩ = false := by
  refine ⟨?_, ?_, ?_, ?_⟩ <;> simp [World.cell?, World.frozen?, h.ptr]
theorem AsmAt.slice {w : World} {p m : Nat} {sv : Value} {K : Nat → Prop} {L : List It} {M : List (List UInt8 × Int)} (h : AsmAt w p sv m K L M) :
    (sv = .slice none 0 0 ∧ L.length = 0) ∨ ∃ g cap, sv = .slice (some ⟨g, 0, none⟩) L.length cap ∧ L.length ≤ cap ∧ cap ≤ maxLen := by
  obtain ⟨vs, h2, _⟩ := h.row
  rcases h2.2 with h | ⟨g, cap, cur, e1, _, _, e2, e3, _⟩
  · exact .inl h
  · exact .inr ⟨g, cap, e1, e2, e3⟩
theorem azero (w : World) : (zeroValue 3).run Tryz.prog w = .ok (.int .i64 0) w := by kernel_rfl
theorem AsmAt.lookup {w : World} {p m : Nat} {sv : Value} {K : Nat → Prop} {L : List It} {M : List (List UInt8 × Int)} (h : AsmAt w p sv m K L M) (nm : ByteArray) (hn : nm.size ≤ maxLen) :
    (Instr.lookup 133 (.map (some m)) (.string nm) true).run Tryz.prog w = .ok (.tuple #[.int .i64 ((look M nm.data.toList).getD 0), .bool (look M nm.data.toList).isSome]) w := by
  obtain ⟨D, h1, h2⟩ := h.marks
  obtain ⟨v, ps, hrun, hv⟩ := h1.look_ok (string_keyed Tryz.underlying9) Tryz.underlying133 (z := .int .i64 0) (zd := .lit (.int .i64 0)) (zp := []) (azero w) (plainElem_int Tryz.underlying3 (by decide)) (WideMaps.keyOf_string_mk Tryz.underlying9 hn)
  obtain ⟨c, rfl, hc, _⟩ := plainElem_int_inv Tryz.underlying3 hv
  rw [hrun, h2.has]
  have hc2 := congrArg Prod.fst hc
  simp only at hc2
  rw [h2.at'] at hc2
  cases hl : look M nm.data.toList <;> rw [hl] at hc2 <;> simp at hc2 <;> simp [hc2]
theorem anone_nil (w : World) : Calls Tryz.prog 78 #[.pointer none] w fun e w' => e = .returned (.bool true) ∧ w = w' := by
  go_enter Tryz.func78, Tryz.ntmps78
  go_wp2
  go_ret
  exact ⟨rfl, rfl⟩
theorem anone_made (w : World) (p m : Nat) (h : w.cell? ⟨p, 1, none⟩ = some (.map (some m))) : Calls Tryz.prog 78 #[.pointer (some ⟨p, 0, none⟩)] w fun e w' => e = .returned (.bool false) ∧ w = w' := by
  have qT : ∀ (w : World) (r : Option Nat), (binOp .eql 133 (.map r) (.map none)).run Tryz.prog w = .ok (.bool r.isNone) w := fun w r => run_eql_map_nil w _ _ _ r Tryz.underlying133
  go_enter Tryz.func78, Tryz.ntmps78
  go_wp2
  go_ret
  exact ⟨rfl, rfl⟩
def atN (M : List (List UInt8 × Int)) (nm : ByteArray) : Int := (look M nm.data.toList).getD 0
def atE (M : List (List UInt8 × Int)) (nm : ByteArray) : Int := if (look M nm.data.toList).isSome = true then 0 else 7
set_option maxRecDepth 100000 in
theorem aat_made (w : World) (p m : Nat) (sv : Value) (K : Nat → Prop) (L : List It) (M : List (List UInt8 × Int)) (h : AsmAt w p sv m K L M) (nm : ByteArray) (hs : nm.size ≤ maxLen) :
    Calls Tryz.prog 52 #[.pointer (some ⟨p, 0, none⟩), .string nm] w fun e w' => e = .returned (.tuple #[.int .i64 (atN M nm), .int .i64 (atE M nm)]) ∧ w = w' := by
  obtain ⟨c0, c1, f0, f1⟩ := h.cells
  have hn := anone_made w p m c1
  have hk := h.lookup nm hs
  unfold atN atE
  cases hl : look M nm.data.toList with
  | none =>
    rw [hl] at hk
    simp only [Option.getD_none, Option.isSome_none] at hk
    go_enter Tryz.func52, Tryz.ntmps52
    go_wp2_with fail
    refine hn.mono ?_
    rintro e w' ⟨rfl, rfl⟩
    go_wp2_with fail
    go_ret2
    exact ⟨rfl, rfl⟩
  | some n =>
    rw [hl] at hk
    simp only [Option.getD_some, Option.isSome_some] at hk
    go_enter Tryz.func52, Tryz.ntmps52
    go_wp2_with fail
    refine hn.mono ?_
    rintro e w' ⟨rfl, rfl⟩
    go_wp2_with fail
    go_ret2
    exact ⟨rfl, rfl⟩
end Go.Proofs.YtajholbcpmjhiaaGreatDoor
/- Walks of the package asm: New, Mark. -/
namespace Go.Proofs.YtajholbcpmjhiaaGreatDoor
open Go.RowKit Go.Maps
theorem AsmAt.mark {w w1 : World} {p m : Nat} {sv : Value} {K : Nat → Prop} {L : List It} {M : List (List UInt8 × Int)} {D : DataW Unit} (h : AsmAt w p sv m K L M) (g : w.grownBy w1 (some m)) (nm : List UInt8) (n : Int)
    (o : w1.ownsMap Tryz.prog 9 (plainElem Tryz.prog 3) m (M.length + 1) (D.put (.string nm) (.lit (.int .i64 n)))) (hD : MarkD D M) (hn : look M nm = none) : AsmAt w1 p sv m K L (M ++ [(nm, n)]) := by
  have on : Only (fun k => k = m) w w1 := (Only.refl _ w).grown g (fun k hk _ => by cases hk; rfl)
  obtain ⟨h1, ⟨vs, h2, h3, h4⟩, _, h7, h8⟩ := h
  refine ⟨on.obj h1 h7.1, ⟨vs, ⟨h2.1, ?_⟩, h3, fun i v it hv hi => (h4 i v it hv hi).keep on (fun k hk => (h8 k hk).2.2) (fun _ _ h => h)⟩, ⟨_, by rw [List.length_append]; exact o, hD.put nm n hn⟩, h7, h8⟩
  rcases h2.2 with h | ⟨g, cap, cur, e1, e2, e3, e4⟩
  · exact .inl h
  · refine .inr ⟨g, cap, cur, e1, e2, on.obj e3 ?_, e4⟩
    intro e
    subst e
    exact h7.2.2 (by rw [e1]; rfl)
theorem amark_twice (w : World) (p m : Nat) (sv : Value) (K : Nat → Prop) (L : List It) (M : List (List UInt8 × Int)) (h : AsmAt w p sv m K L M) (nm : ByteArray) (hs : nm.size ≤ maxLen) (n : Int) (hl : look M nm.data.toList = some n) :
    Calls Tryz.prog 117 #[.pointer (some ⟨p, 0, none⟩), .string nm] w fun e w' => e = .returned (.int .i64 9) ∧ w = w' := by
  obtain ⟨c0, c1, f0, f1⟩ := h.cells
  have hn := anone_made w p m c1
  have hk := h.lookup nm hs
  rw [hl] at hk
  simp only [Option.getD_some, Option.isSome_some] at hk
  go_enter Tryz.func117, Tryz.ntmps117
  go_wp2_with fail
  refine hn.mono ?_
  rintro e w' ⟨rfl, rfl⟩
  go_wp2_with fail
  go_ret
  exact ⟨rfl, rfl⟩
def MarkOk (w : World) (p m : Nat) (sv : Value) (K : Nat → Prop) (L : List It) (M : List (List UInt8 × Int)) (nm : ByteArray) (e : Ending) (w' : World) : Prop :=
  e = .returned (.int .i64 0) ∧ AsmAt w' p sv m K L (M ++ [(nm.data.toList, (L.length : Int))]) ∧ Only (fun k => k = m) w w'
set_option maxRecDepth 100000 in
set_option maxHeartbeats 1000000 in
theorem amark_new (w : World) (p m : Nat) (sv : Value) (K : Nat → Prop) (L : List It) (M : List (List UInt8 × Int)) (h : AsmAt w p sv m K L M) (nm : ByteArray) (hs : nm.size ≤ maxLen) (hM : M.length < maxLen) (hL : L.length < 9223372036854775808) (hl : look M nm.data.toList = none) :
    Calls Tryz.prog 117 #[.pointer (some ⟨p, 0, none⟩), .string nm] w (MarkOk w p m sv K L M nm) := by
  obtain ⟨c0, c1, f0, f1⟩ := h.cells
  have hn := anone_made w p m c1
  have hk := h.lookup nm hs
  rw [hl] at hk
  simp only [Option.getD_none, Option.isSome_none] at hk
  obtain ⟨D, hown, hD⟩ := h.marks
  have H := ahid h
  have HO := ahid hown
  clear h hown
  rcases H.out.slice with ⟨rfl, hl0⟩ | ⟨g, cap, rfl, hcap, hcap2⟩
  · have e0 : (L.length : Int) = 0 := by omega
    unfold MarkOk
    rw [e0]
    go_enter Tryz.func117, Tryz.ntmps117
    go_wp2_with fail
    refine hn.mono ?_
    rintro e w' ⟨rfl, rfl⟩
    go_wp2_with fail
    go_still_tail 10, (by kernel_rfl)
    change wpList _ _ _ _ _ w.drew
    have HM2 := H.out.keep ((Only.refl (fun _ => False) w).drew) (fun _ _ h => h) (fun _ _ h => h)
    have HO2 := HO.out.drew
    have HB := ahid ((Only.refl (fun k => k = m) w).drew)
    generalize w.drew = w2 at HM2 HO2 HB ⊢
    have HA := ahid HM2
    clear HM2 c0 c1 f0 f1 hn hk
    go_wp2_with (first | (at_mapUpdate; refine wpList_mapUpdate_own _ rfl _ _ _ 133 rfl 9 3 (string_keyed Tryz.underlying9) Tryz.underlying133 _ m M.length D rfl HO2 hM _ _ (.string nm.data.toList) rfl rfl (WideMaps.keyOf_string_mk Tryz.underlying9 hs) (.lit (.int .i64 0)) [] (plainElem_int Tryz.underlying3 (by decide)) ?_))
    intro w3 ho3 hg3
    have HA3 := HA.out.mark hg3 nm.data.toList _ ho3 hD hl
    have HB3 := HB.out.grown hg3 (fun k hk _ => by cases hk; rfl)
    clear ho3 hg3 HO2 HA HB
    go_wp2_with fail
    go_ret
    exact ⟨rfl, HA3, HB3⟩
  · have hwf : (Lit.int .i64 (L.length : Int)).wf = true := WalkArith.wf_i64 (by omega)
    go_enter Tryz.func117, Tryz.ntmps117
    go_wp2_with fail
    refine hn.mono ?_
    rintro e w' ⟨rfl, rfl⟩
    go_wp2_with fail
    go_still_tail 10, (by kernel_rfl)
    change wpList _ _ _ _ _ w.drew
    have HM2 := H.out.keep ((Only.refl (fun _ => False) w).drew) (fun _ _ h => h) (fun _ _ h => h)
    have HO2 := HO.out.drew
    have HB := ahid ((Only.refl (fun k => k = m) w).drew)
    generalize w.drew = w2 at HM2 HO2 HB ⊢
    have HA := ahid HM2
    clear HM2 c0 c1 f0 f1 hn hk
    go_wp2_with (first | (at_mapUpdate; refine wpList_mapUpdate_own _ rfl _ _ _ 133 rfl 9 3 (string_keyed Tryz.underlying9) Tryz.underlying133 _ m M.length D rfl HO2 hM _ _ (.string nm.data.toList) rfl rfl (WideMaps.keyOf_string_mk Tryz.underlying9 hs) (.lit (.int .i64 L.length)) [] (plainElem_int Tryz.underlying3 hwf) ?_))
    intro w3 ho3 hg3
    have HA3 := HA.out.mark hg3 nm.data.toList _ ho3 hD hl
    have HB3 := HB.out.grown hg3 (fun k hk _ => by cases hk; rfl)
    clear ho3 hg3 HO2 HA HB
    go_wp2_with fail
    go_ret
    exact ⟨rfl, HA3, HB3⟩
end Go.Proofs.YtajholbcpmjhiaaGreatDoor
