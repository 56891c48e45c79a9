/- Walks of the package asm: none, New, Len, At, Mark. -/
import Derived.Test.YtfbbodaapkfbdaaDoorG09
import Derived.Test.YtfbbodaapkfbdaaDoorProg
import Derived.WalkSpells
import Derived.WalkLawsBesides
import Derived.RegionTactic
import Derived.Deep.QuietTactic
import Derived.BigQuiet
import Derived.Handy
namespace Go.Proofs.YtfbbodaapkfbdaaDoor
open Go.RowKit Go.Maps
set_option linter.unusedVariables false
set_option linter.unusedSimpArgs false
theorem ahid {p : Prop} (h : p) : Hid p := h
theorem AsmAt.cells {w : World} {p m : Nat} {sv : Value} {K : Nat → Prop} {L : List It} {M : List (List UInt8 × Int)} (h : AsmAt w p sv m K L M) :
    w.cell? ⟨p, 0, none⟩ = some sv ∧ w.cell? ⟨p, 1, none⟩ = some (.map (some m)) ∧ w.frozen? ⟨p, 0, none⟩ = false ∧ w.frozen? ⟨p, 1, none⟩ = false := by
  refine ⟨?_, ?_, ?_, ?_⟩ <;> simp [World.cell?, World.frozen?, h.ptr]
theorem AsmAt.slice {w : World} {p m : Nat} {sv : Value} {K : Nat → Prop} {L : List It} {M : List (List UInt8 × Int)} (h : AsmAt w p sv m K L M) :
    (sv = .slice none 0 0 ∧ L.length = 0) ∨ ∃ g cap, sv = .slice (some ⟨g, 0, none⟩) L.length cap ∧ L.length ≤ cap ∧ cap ≤ maxLen := by
  obtain ⟨vs, h2, _⟩ := h.row
  rcases h2.2 with h | ⟨g, cap, cur, e1, _, _, e2, e3, _⟩
  · exact .inl h
  · exact .inr ⟨g, cap, e1, e2, e3⟩
theorem azero (w : World) : (zeroValue 3).run Tryd.prog w = .ok (.int .i64 0) w := by kernel_rfl
/-- A name's place, as the code looks it up. -/
theorem AsmAt.lookup {w : World} {p m : Nat} {sv : Value} {K : Nat → Prop} {L : List It} {M : List (List UInt8 × Int)} (h : AsmAt w p sv m K L M) (nm : ByteArray) (hn : nm.size ≤ maxLen) :
    (Instr.lookup 78 (.map (some m)) (.string nm) true).run Tryd.prog w = .ok (.tuple #[.int .i64 ((look M nm.data.toList).getD 0), .bool (look M nm.data.toList).isSome]) w := by
  obtain ⟨D, h1, h2⟩ := h.marks
  obtain ⟨v, ps, hrun, hv⟩ := h1.look_ok (string_keyed Tryd.underlying9) Tryd.underlying78 (z := .int .i64 0) (zd := .lit (.int .i64 0)) (zp := []) (azero w) (plainElem_int Tryd.underlying3 (by decide)) (WideMaps.keyOf_string_mk Tryd.underlying9 hn)
  obtain ⟨c, rfl, hc, _⟩ := plainElem_int_inv Tryd.underlying3 hv
  rw [hrun, h2.has]
  have hc2 := congrArg Prod.fst hc
  simp only at hc2
  rw [h2.at'] at hc2
  cases hl : look M nm.data.toList <;> rw [hl] at hc2 <;> simp at hc2 <;> simp [hc2]

theorem anone_nil (w : World) : Calls Tryd.prog 30 #[.pointer none] w fun e w' => e = .returned (.bool true) ∧ w = w' := by
  go_enter Tryd.func30, Tryd.ntmps30
  go_wp2
  go_ret
  exact ⟨rfl, rfl⟩
theorem anone_unmade (w : World) (p : Nat) (h : w.cell? ⟨p, 1, none⟩ = some (.map none)) : Calls Tryd.prog 30 #[.pointer (some ⟨p, 0, none⟩)] w fun e w' => e = .returned (.bool true) ∧ w = w' := by
  have qT : ∀ (w : World) (r : Option Nat), (binOp .eql 78 (.map r) (.map none)).run Tryd.prog w = .ok (.bool r.isNone) w := fun w r => run_eql_map_nil w _ _ _ r Tryd.underlying78
  go_enter Tryd.func30, Tryd.ntmps30
  go_wp2
  go_ret
  exact ⟨rfl, rfl⟩
theorem anone_made (w : World) (p m : Nat) (h : w.cell? ⟨p, 1, none⟩ = some (.map (some m))) : Calls Tryd.prog 30 #[.pointer (some ⟨p, 0, none⟩)] w fun e w' => e = .returned (.bool false) ∧ w = w' := by
  have qT : ∀ (w : World) (r : Option Nat), (binOp .eql 78 (.map r) (.map none)).run Tryd.prog w = .ok (.bool r.isNone) w := fun w r => run_eql_map_nil w _ _ _ r Tryd.underlying78
  go_enter Tryd.func30, Tryd.ntmps30
  go_wp2
  go_ret
  exact ⟨rfl, rfl⟩
theorem alen_made (w : World) (p m : Nat) (sv : Value) (K : Nat → Prop) (L : List It) (M : List (List UInt8 × Int)) (h : AsmAt w p sv m K L M) :
    Calls Tryd.prog 18 #[.pointer (some ⟨p, 0, none⟩)] w fun e w' => e = .returned (.int .i64 L.length) ∧ w = w' := by
  obtain ⟨c0, c1, f0, f1⟩ := h.cells
  have hn := anone_made w p m c1
  rcases h.slice with ⟨rfl, hl⟩ | ⟨g, cap, rfl, hl, hl2⟩
  · go_enter Tryd.func18, Tryd.ntmps18
    go_wp2_with fail
    refine hn.mono ?_
    rintro e w' ⟨rfl, rfl⟩
    go_wp2_with fail
    go_ret
    exact ⟨by rw [hl]; rfl, rfl⟩
  · go_enter Tryd.func18, Tryd.ntmps18
    go_wp2_with fail
    refine hn.mono ?_
    rintro e w' ⟨rfl, rfl⟩
    go_wp2_with fail
    go_ret
    exact ⟨rfl, rfl⟩
theorem alen_none (w : World) (a : Value) (hn : Calls Tryd.prog 30 #[a] w fun e w' => e = .returned (.bool true) ∧ w = w') :
    Calls Tryd.prog 18 #[a] w fun e w' => e = .returned (.int .i64 0) ∧ w = w' := by
  go_enter Tryd.func18, Tryd.ntmps18
  go_wp2_with fail
  refine hn.mono ?_
  rintro e w' ⟨rfl, rfl⟩
  go_wp2_with fail
  go_ret
  exact ⟨rfl, rfl⟩
/-- A mark's place: the number, and the answer. -/
def atN (M : List (List UInt8 × Int)) (nm : ByteArray) : Int := (look M nm.data.toList).getD 0
def atE (M : List (List UInt8 × Int)) (nm : ByteArray) : Int := if (look M nm.data.toList).isSome = true then 0 else 7
end Go.Proofs.YtfbbodaapkfbdaaDoor
