/- Several texts in one: AsmWalks, AsmMark, AsmNew, AsmFar, AsmPutFar, AsmPut, AsmWords, AsmJump, AsmConst. -/
import Derived.Test.YtacfdddghdnboaaGreatDoorGLb
import Derived.Test.YtacfdddghdnboaaGreatDoorGO
import Derived.Test.YtacfdddghdnboaaGreatDoorGD
import Derived.Test.YtacfdddghdnboaaGreatDoorProg
import Derived.WalkSpells
import Derived.WalkLawsBesides
import Derived.RegionTactic
import Derived.Deep.QuietTactic
import Derived.BigQuiet
import Derived.Handy
import Derived.StillTailTactics
import Derived.WalkArith
/- Walks of the package asm: none, New, Len, At, Mark. -/
namespace Go.Proofs.YtacfdddghdnboaaGreatDoor
open Go.RowKit Go.Maps
set_option linter.unusedVariables false
set_option linter.unusedSimpArgs false
theorem ahid {p : Prop} (h : p) : Hid p := h
theorem AsmAt.cells {w : World} {p m : Nat} {sv : Value} {K : Nat → Prop} {L : List It} {M : List (List UInt8 × Int)} (h : AsmAt w p sv m K L M) :
    w.cell? ⟨p, 0, none⟩ = some sv ∧ w.cell? ⟨p, 1, none⟩ = some (.map (some m)) ∧ w.frozen? ⟨p, 0, none⟩ = false ∧ w.frozen? ⟨p, 1, none⟩ = false := by
  refine ⟨?_, ?_, ?_, ?_⟩ <;> simp [World.cell?, World.frozen?, h.ptr]
theorem AsmAt.slice {w : World} {p m : Nat} {sv : Value} {K : Nat → Prop} {L : List It} {M : List (List UInt8 × Int)} (h : AsmAt w p sv m K L M) :
    (sv = .slice none 0 0 ∧ L.length = 0) ∨ ∃ g cap, sv = .slice (some ⟨g, 0, none⟩) L.length cap ∧ L.length ≤ cap ∧ cap ≤ maxLen := by
  obtain ⟨vs, h2, _⟩ := h.row
  rcases h2.2 with h | ⟨g, cap, cur, e1, _, _, e2, e3, _⟩
  · exact .inl h
  · exact .inr ⟨g, cap, e1, e2, e3⟩
theorem azero (w : World) : (zeroValue 3).run Tryz.prog w = .ok (.int .i64 0) w := by kernel_rfl
/-- A name's place, as the code looks it up. -/
theorem AsmAt.lookup {w : World} {p m : Nat} {sv : Value} {K : Nat → Prop} {L : List It} {M : List (List UInt8 × Int)} (h : AsmAt w p sv m K L M) (nm : ByteArray) (hn : nm.size ≤ maxLen) :
    (Instr.lookup 135 (.map (some m)) (.string nm) true).run Tryz.prog w = .ok (.tuple #[.int .i64 ((look M nm.data.toList).getD 0), .bool (look M nm.data.toList).isSome]) w := by
  obtain ⟨D, h1, h2⟩ := h.marks
  obtain ⟨v, ps, hrun, hv⟩ := h1.look_ok (string_keyed Tryz.underlying9) Tryz.underlying135 (z := .int .i64 0) (zd := .lit (.int .i64 0)) (zp := []) (azero w) (plainElem_int Tryz.underlying3 (by decide)) (WideMaps.keyOf_string_mk Tryz.underlying9 hn)
  obtain ⟨c, rfl, hc, _⟩ := plainElem_int_inv Tryz.underlying3 hv
  rw [hrun, h2.has]
  have hc2 := congrArg Prod.fst hc
  simp only at hc2
  rw [h2.at'] at hc2
  cases hl : look M nm.data.toList <;> rw [hl] at hc2 <;> simp at hc2 <;> simp [hc2]

theorem anone_nil (w : World) : Calls Tryz.prog 74 #[.pointer none] w fun e w' => e = .returned (.bool true) ∧ w = w' := by
  go_enter Tryz.func74, Tryz.ntmps74
  go_wp2
  go_ret
  exact ⟨rfl, rfl⟩
theorem anone_unmade (w : World) (p : Nat) (h : w.cell? ⟨p, 1, none⟩ = some (.map none)) : Calls Tryz.prog 74 #[.pointer (some ⟨p, 0, none⟩)] w fun e w' => e = .returned (.bool true) ∧ w = w' := by
  have qT : ∀ (w : World) (r : Option Nat), (binOp .eql 135 (.map r) (.map none)).run Tryz.prog w = .ok (.bool r.isNone) w := fun w r => run_eql_map_nil w _ _ _ r Tryz.underlying135
  go_enter Tryz.func74, Tryz.ntmps74
  go_wp2
  go_ret
  exact ⟨rfl, rfl⟩
theorem anone_made (w : World) (p m : Nat) (h : w.cell? ⟨p, 1, none⟩ = some (.map (some m))) : Calls Tryz.prog 74 #[.pointer (some ⟨p, 0, none⟩)] w fun e w' => e = .returned (.bool false) ∧ w = w' := by
  have qT : ∀ (w : World) (r : Option Nat), (binOp .eql 135 (.map r) (.map none)).run Tryz.prog w = .ok (.bool r.isNone) w := fun w r => run_eql_map_nil w _ _ _ r Tryz.underlying135
  go_enter Tryz.func74, Tryz.ntmps74
  go_wp2
  go_ret
  exact ⟨rfl, rfl⟩
theorem alen_made (w : World) (p m : Nat) (sv : Value) (K : Nat → Prop) (L : List It) (M : List (List UInt8 × Int)) (h : AsmAt w p sv m K L M) :
    Calls Tryz.prog 40 #[.pointer (some ⟨p, 0, none⟩)] w fun e w' => e = .returned (.int .i64 L.length) ∧ w = w' := by
  obtain ⟨c0, c1, f0, f1⟩ := h.cells
  have hn := anone_made w p m c1
  rcases h.slice with ⟨rfl, hl⟩ | ⟨g, cap, rfl, hl, hl2⟩
  · go_enter Tryz.func40, Tryz.ntmps40
    go_wp2_with fail
    refine hn.mono ?_
    rintro e w' ⟨rfl, rfl⟩
    go_wp2_with fail
    go_ret
    exact ⟨by rw [hl]; rfl, rfl⟩
  · go_enter Tryz.func40, Tryz.ntmps40
    go_wp2_with fail
    refine hn.mono ?_
    rintro e w' ⟨rfl, rfl⟩
    go_wp2_with fail
    go_ret
    exact ⟨rfl, rfl⟩
theorem alen_none (w : World) (a : Value) (hn : Calls Tryz.prog 74 #[a] w fun e w' => e = .returned (.bool true) ∧ w = w') :
    Calls Tryz.prog 40 #[a] w fun e w' => e = .returned (.int .i64 0) ∧ w = w' := by
  go_enter Tryz.func40, Tryz.ntmps40
  go_wp2_with fail
  refine hn.mono ?_
  rintro e w' ⟨rfl, rfl⟩
  go_wp2_with fail
  go_ret
  exact ⟨rfl, rfl⟩
/-- A mark's place: the number, and the answer. -/
def atN (M : List (List UInt8 × Int)) (nm : ByteArray) : Int := (look M nm.data.toList).getD 0
def atE (M : List (List UInt8 × Int)) (nm : ByteArray) : Int := if (look M nm.data.toList).isSome = true then 0 else 7
set_option maxRecDepth 100000 in
theorem aat_made (w : World) (p m : Nat) (sv : Value) (K : Nat → Prop) (L : List It) (M : List (List UInt8 × Int)) (h : AsmAt w p sv m K L M) (nm : ByteArray) (hs : nm.size ≤ maxLen) :
    Calls Tryz.prog 78 #[.pointer (some ⟨p, 0, none⟩), .string nm] w fun e w' => e = .returned (.tuple #[.int .i64 (atN M nm), .int .i64 (atE M nm)]) ∧ w = w' := by
  obtain ⟨c0, c1, f0, f1⟩ := h.cells
  have hn := anone_made w p m c1
  have hk := h.lookup nm hs
  unfold atN atE
  cases hl : look M nm.data.toList with
  | none =>
    rw [hl] at hk
    simp only [Option.getD_none, Option.isSome_none] at hk
    go_enter Tryz.func78, Tryz.ntmps78
    go_wp2_with fail
    refine hn.mono ?_
    rintro e w' ⟨rfl, rfl⟩
    go_wp2_with fail
    go_ret2
    exact ⟨rfl, rfl⟩
  | some n =>
    rw [hl] at hk
    simp only [Option.getD_some, Option.isSome_some] at hk
    go_enter Tryz.func78, Tryz.ntmps78
    go_wp2_with fail
    refine hn.mono ?_
    rintro e w' ⟨rfl, rfl⟩
    go_wp2_with fail
    go_ret2
    exact ⟨rfl, rfl⟩
set_option maxRecDepth 100000 in
theorem aat_none (w : World) (a : Value) (nm : ByteArray) (hn : Calls Tryz.prog 74 #[a] w fun e w' => e = .returned (.bool true) ∧ w = w') :
    Calls Tryz.prog 78 #[a, .string nm] w fun e w' => e = .returned (.tuple #[.int .i64 0, .int .i64 1]) ∧ w = w' := by
  go_enter Tryz.func78, Tryz.ntmps78
  go_wp2_with fail
  refine hn.mono ?_
  rintro e w' ⟨rfl, rfl⟩
  go_wp2_with fail
  go_ret2
  exact ⟨rfl, rfl⟩
end Go.Proofs.YtacfdddghdnboaaGreatDoor
/- Walks of the package asm: New, Mark. -/
namespace Go.Proofs.YtacfdddghdnboaaGreatDoor
open Go.RowKit Go.Maps
set_option linter.unusedVariables false
set_option linter.unusedSimpArgs false
theorem AsmAt.mark {w w1 : World} {p m : Nat} {sv : Value} {K : Nat → Prop} {L : List It} {M : List (List UInt8 × Int)} {D : DataW Unit} (h : AsmAt w p sv m K L M) (g : w.grownBy w1 (some m)) (nm : List UInt8) (n : Int)
    (o : w1.ownsMap Tryz.prog 9 (plainElem Tryz.prog 3) m (M.length + 1) (D.put (.string nm) (.lit (.int .i64 n)))) (hD : MarkD D M) (hn : look M nm = none) : AsmAt w1 p sv m K L (M ++ [(nm, n)]) := by
  have on : Only (fun k => k = m) w w1 := (Only.refl _ w).grown g (fun k hk _ => by cases hk; rfl)
  obtain ⟨h1, ⟨vs, h2, h3, h4⟩, _, h7, h8⟩ := h
  refine ⟨on.obj h1 h7.1, ⟨vs, ⟨h2.1, ?_⟩, h3, fun i v it hv hi => (h4 i v it hv hi).keep on (fun k hk => (h8 k hk).2.2) (fun _ _ h => h)⟩, ⟨_, by rw [List.length_append]; exact o, hD.put nm n hn⟩, h7, h8⟩
  rcases h2.2 with h | ⟨g, cap, cur, e1, e2, e3, e4⟩
  · exact .inl h
  · refine .inr ⟨g, cap, cur, e1, e2, on.obj e3 ?_, e4⟩
    intro e
    subst e
    exact h7.2.2 (by rw [e1]; rfl)
theorem amark_none (w : World) (a : Value) (nm : ByteArray) (hn : Calls Tryz.prog 74 #[a] w fun e w' => e = .returned (.bool true) ∧ w = w') :
    Calls Tryz.prog 76 #[a, .string nm] w fun e w' => e = .returned (.int .i64 1) ∧ w = w' := by
  go_enter Tryz.func76, Tryz.ntmps76
  go_wp2_with fail
  refine hn.mono ?_
  rintro e w' ⟨rfl, rfl⟩
  go_wp2_with fail
  go_ret
  exact ⟨rfl, rfl⟩
theorem amark_twice (w : World) (p m : Nat) (sv : Value) (K : Nat → Prop) (L : List It) (M : List (List UInt8 × Int)) (h : AsmAt w p sv m K L M) (nm : ByteArray) (hs : nm.size ≤ maxLen) (n : Int) (hl : look M nm.data.toList = some n) :
    Calls Tryz.prog 76 #[.pointer (some ⟨p, 0, none⟩), .string nm] w fun e w' => e = .returned (.int .i64 9) ∧ w = w' := by
  obtain ⟨c0, c1, f0, f1⟩ := h.cells
  have hn := anone_made w p m c1
  have hk := h.lookup nm hs
  rw [hl] at hk
  simp only [Option.getD_some, Option.isSome_some] at hk
  go_enter Tryz.func76, Tryz.ntmps76
  go_wp2_with fail
  refine hn.mono ?_
  rintro e w' ⟨rfl, rfl⟩
  go_wp2_with fail
  go_ret
  exact ⟨rfl, rfl⟩
/-- What a mark leaves. -/
def MarkOk (w : World) (p m : Nat) (sv : Value) (K : Nat → Prop) (L : List It) (M : List (List UInt8 × Int)) (nm : ByteArray) (e : Ending) (w' : World) : Prop :=
  e = .returned (.int .i64 0) ∧ AsmAt w' p sv m K L (M ++ [(nm.data.toList, (L.length : Int))]) ∧ Only (fun k => k = m) w w'
set_option maxRecDepth 100000 in
set_option maxHeartbeats 1000000 in
theorem amark_new (w : World) (p m : Nat) (sv : Value) (K : Nat → Prop) (L : List It) (M : List (List UInt8 × Int)) (h : AsmAt w p sv m K L M) (nm : ByteArray) (hs : nm.size ≤ maxLen) (hM : M.length < maxLen) (hL : L.length < 9223372036854775808) (hl : look M nm.data.toList = none) :
    Calls Tryz.prog 76 #[.pointer (some ⟨p, 0, none⟩), .string nm] w (MarkOk w p m sv K L M nm) := by
  obtain ⟨c0, c1, f0, f1⟩ := h.cells
  have hn := anone_made w p m c1
  have hk := h.lookup nm hs
  rw [hl] at hk
  simp only [Option.getD_none, Option.isSome_none] at hk
  obtain ⟨D, hown, hD⟩ := h.marks
  have H := ahid h
  have HO := ahid hown
  clear h hown
  rcases H.out.slice with ⟨rfl, hl0⟩ | ⟨g, cap, rfl, hcap, hcap2⟩
  · have e0 : (L.length : Int) = 0 := by omega
    unfold MarkOk
    rw [e0]
    go_enter Tryz.func76, Tryz.ntmps76
    go_wp2_with fail
    refine hn.mono ?_
    rintro e w' ⟨rfl, rfl⟩
    go_wp2_with fail
    go_still_tail 10, (by kernel_rfl)
    change wpList _ _ _ _ _ w.drew
    have HM2 := H.out.keep ((Only.refl (fun _ => False) w).drew) (fun _ _ h => h) (fun _ _ h => h)
    have HO2 := HO.out.drew
    have HB := ahid ((Only.refl (fun k => k = m) w).drew)
    generalize w.drew = w2 at HM2 HO2 HB ⊢
    have HA := ahid HM2
    clear HM2 c0 c1 f0 f1 hn hk
    go_wp2_with (first | (at_mapUpdate; refine wpList_mapUpdate_own _ rfl _ _ _ 135 rfl 9 3 (string_keyed Tryz.underlying9) Tryz.underlying135 _ m M.length D rfl HO2 hM _ _ (.string nm.data.toList) rfl rfl (WideMaps.keyOf_string_mk Tryz.underlying9 hs) (.lit (.int .i64 0)) [] (plainElem_int Tryz.underlying3 (by decide)) ?_))
    intro w3 ho3 hg3
    have HA3 := HA.out.mark hg3 nm.data.toList _ ho3 hD hl
    have HB3 := HB.out.grown hg3 (fun k hk _ => by cases hk; rfl)
    clear ho3 hg3 HO2 HA HB
    go_wp2_with fail
    go_ret
    exact ⟨rfl, HA3, HB3⟩
  · have hwf : (Lit.int .i64 (L.length : Int)).wf = true := WalkArith.wf_i64 (by omega)
    go_enter Tryz.func76, Tryz.ntmps76
    go_wp2_with fail
    refine hn.mono ?_
    rintro e w' ⟨rfl, rfl⟩
    go_wp2_with fail
    go_still_tail 10, (by kernel_rfl)
    change wpList _ _ _ _ _ w.drew
    have HM2 := H.out.keep ((Only.refl (fun _ => False) w).drew) (fun _ _ h => h) (fun _ _ h => h)
    have HO2 := HO.out.drew
    have HB := ahid ((Only.refl (fun k => k = m) w).drew)
    generalize w.drew = w2 at HM2 HO2 HB ⊢
    have HA := ahid HM2
    clear HM2 c0 c1 f0 f1 hn hk
    go_wp2_with (first | (at_mapUpdate; refine wpList_mapUpdate_own _ rfl _ _ _ 135 rfl 9 3 (string_keyed Tryz.underlying9) Tryz.underlying135 _ m M.length D rfl HO2 hM _ _ (.string nm.data.toList) rfl rfl (WideMaps.keyOf_string_mk Tryz.underlying9 hs) (.lit (.int .i64 L.length)) [] (plainElem_int Tryz.underlying3 hwf) ?_))
    intro w3 ho3 hg3
    have HA3 := HA.out.mark hg3 nm.data.toList _ ho3 hD hl
    have HB3 := HB.out.grown hg3 (fun k hk _ => by cases hk; rfl)
    clear ho3 hg3 HO2 HA HB
    go_wp2_with fail
    go_ret
    exact ⟨rfl, HA3, HB3⟩
end Go.Proofs.YtacfdddghdnboaaGreatDoor
/- Walks of the package asm: New; what a function value makes. -/
namespace Go.Proofs.YtacfdddghdnboaaGreatDoor
open Go.RowKit Go.Maps
set_option linter.unusedVariables false
set_option linter.unusedSimpArgs false
theorem anew_any (w : World) :
    Calls Tryz.prog 38 #[] w fun e w' => ∃ p m, e = .returned (.pointer (some ⟨p, 0, none⟩)) ∧ w.heap.size ≤ p ∧ w.heap.size ≤ m ∧ AsmAt w' p (.slice none 0 0) m (fun _ => False) [] [] ∧ Below w.heap.size w w' := by
  have hmm := @run_makeMap Tryz.prog
  go_enter Tryz.func38, Tryz.ntmps38
  go_wp2
  go_ret
  refine ⟨w.heap.size + 1, w.heap.size, rfl, by omega, by omega, ⟨?_, ⟨[], ⟨rfl, .inl ⟨rfl, rfl⟩⟩, rfl, fun i v it hv => by simp at hv⟩, ⟨.map [], ?_, MarkD.nil⟩, ⟨by omega, by simp [Value.ownBlock], by simp [Value.ownBlock]⟩, fun k hk => hk.elim⟩, ?_⟩
  · have h := (MapKept.heap_alloc (w.alloc (.map #[] 0)) (.cells #[.slice none 0 0, .map (some w.heap.size)] 138)).1
    rw [show (w.alloc (.map #[] 0)).heap.size = w.heap.size + 1 by simp] at h
    exact h
  · exact (World.ownsMap_made w _ _ _).alloc _
  · exact ((Below.refl _ _).alloc (Nat.le_refl _) _).alloc (by simp) _
/-- What was put: its word. -/
theorem aput1_any (w : World) (K : Nat → Prop) (v : Value) (x : Ix) (h : CloAt w K v (.put x)) (at' : Int) (mv : Value) (c : Nat) (hv : v = .func (.func 136) #[] #[.pointer (some ⟨c, 0, none⟩)]) (hc : w.cell? ⟨c, 0, none⟩ = some (.int .u32 (encS x))) :
    Calls Tryz.prog 136 #[.int .i64 at', mv, .pointer (some ⟨c, 0, none⟩)] w fun e w' => e = .returned (.tuple #[.int .u32 (encS x), .int .i64 0]) ∧ w = w' := by
  clear h hv
  generalize encS x = n at *
  go_enter Tryz.func136, Tryz.ntmps136
  go_wp2
  go_ret2
  exact ⟨rfl, rfl⟩
end Go.Proofs.YtacfdddghdnboaaGreatDoor
/- Walks of the package asm: what a function value of far makes. -/
namespace Go.Proofs.YtacfdddghdnboaaGreatDoor
open Go.RowKit Go.Maps
set_option linter.unusedVariables false
set_option linter.unusedSimpArgs false
/-- An instruction that goes d far: word, answer. -/
def farW (x : Ix) (d : Int) : Int := if mayP { x with imm := d } ∧ -2147483648 ≤ d ∧ d < 2147483648 then encS { x with imm := d } else 0
def farE (x : Ix) (d : Int) : Int := if mayP { x with imm := d } ∧ -2147483648 ≤ d ∧ d < 2147483648 then 0 else 50
theorem aret2 {k l : IntKind} {a b c d : Int} (h : a = b) (g : c = d) : Ending.returned (.tuple #[.int k a, .int l c]) = .returned (.tuple #[.int k b, .int l d]) := by rw [h, g]
theorem i32w (d : Int) : (-2147483648 ≤ wrap32 d ∧ wrap32 d < 2147483648) ∧ (wrap32 d = d ↔ -2147483648 ≤ d ∧ d < 2147483648) := by
  unfold wrap32
  exact ⟨⟨by omega, by omega⟩, fun h => by omega, fun h => by omega⟩
theorem afar1_lost (w : World) (p m : Nat) (sv : Value) (K : Nat → Prop) (L : List It) (M : List (List UInt8 × Int)) (h : AsmAt w p sv m K L M) (at' : Int) (nm : ByteArray) (hs : nm.size ≤ maxLen) (c d : Nat) (hc : w.cell? ⟨c, 0, none⟩ = some (.string nm)) (hl : look M nm.data.toList = none) :
    Calls Tryz.prog 172 #[.int .i64 at', .map (some m), .pointer (some ⟨c, 0, none⟩), .pointer (some ⟨d, 0, none⟩)] w fun e w' => e = .returned (.tuple #[.int .u32 0, .int .i64 7]) ∧ w = w' := by
  have hk := h.lookup nm hs
  rw [hl] at hk
  simp only [Option.getD_none, Option.isSome_none] at hk
  clear h
  go_enter Tryz.func172, Tryz.ntmps172
  go_wp2_with fail
  go_ret2
  exact ⟨rfl, rfl⟩
set_option maxRecDepth 100000 in
set_option maxHeartbeats 1000000 in
theorem afar1_there (w : World) (ht : Tab w) (p m : Nat) (sv : Value) (K : Nat → Prop) (L : List It) (M : List (List UInt8 × Int)) (h : AsmAt w p sv m K L M) (at' : Int) (nm : ByteArray) (hs : nm.size ≤ maxLen) (c d : Nat) (hc : w.cell? ⟨c, 0, none⟩ = some (.string nm))
    (x : Ix) (hx : x.bd) (hd : ∀ (i : Nat) (u : Value), x.agg.cells[i]? = some u → w.cell? ⟨d, i, none⟩ = some u) (to : Int) (hl : look M nm.data.toList = some to) (hwb : -9223372036854775808 ≤ to - at' ∧ to - at' ≤ 9223372036854775807) :
    Calls Tryz.prog 172 #[.int .i64 at', .map (some m), .pointer (some ⟨c, 0, none⟩), .pointer (some ⟨d, 0, none⟩)] w fun e w' => e = .returned (.tuple #[.int .u32 (farW x (to - at')), .int .i64 (farE x (to - at'))]) ∧ Below w.heap.size w w' := by
  have hk := h.lookup nm hs
  rw [hl] at hk
  simp only [Option.getD_some, Option.isSome_some] at hk
  have d0 := hd 0 _ rfl
  have d1 := hd 1 _ rfl
  have d2 := hd 2 _ rfl
  have d3 := hd 3 _ rfl
  have d4 := hd 4 _ rfl
  have d5 := hd 5 _ rfl
  obtain ⟨op, rd, rs1, rs2, is, imm⟩ := x
  have HX := ahid hx
  have hw : IntKind.i64.wrap (to - at') = to - at' := IntWalk.i64_in _ (by omega)
  have hw64 : wrap64 (to - at') = to - at' := by unfold wrap64; omega
  clear hwb
  have HT := ahid ht
  clear h hd hl hx ht
  go_enter Tryz.func172, Tryz.ntmps172
  go_wp2_with fail
  generalize hq : wrap32 (to - at') = q
  have hq2 := i32w (to - at')
  rw [hq] at hq2
  have hb2 : Below w.heap.size w (w.alloc (.cells #[.int .u8 op, .int .u8 rd, .int .u8 rs1, .int .u8 rs2, .bool is, .int .i32 q] 26)) := (Below.refl _ _).alloc (Nat.le_refl _) _
  have hy : (Ix.mk op rd rs1 rs2 is q).bd := ⟨HX.out.1, HX.out.2.1, HX.out.2.2.1, HX.out.2.2.2.1, hq2.1⟩
  have hE := encode_any ⟨op, rd, rs1, rs2, is, q⟩ hy _ (HT.out.keep hb2)
  have cq : (w.alloc (.cells #[.int .u8 op, .int .u8 rd, .int .u8 rs1, .int .u8 rs2, .bool is, .int .i32 q] 26)).cell? ⟨w.heap.size, 5, none⟩ = some (.int .i32 q) := by simp [go_sem]
  have HB2 := ahid hb2
  have HQ := ahid hq2
  clear hq2
  clear hb2 hy hq d0 d1 d2 d3 d4 d5 hk hc
  generalize w.alloc (.cells #[.int .u8 op, .int .u8 rd, .int .u8 rs1, .int .u8 rs2, .bool is, .int .i32 q] 26) = w2 at *
  refine hE.mono ?_
  rintro e w3 ⟨rfl, bl⟩
  have cq3 := (bl.cell (p := ⟨w.heap.size, 5, none⟩) (World.block_lt_of_cell? _ _ cq)).trans cq
  have HB3 := ahid (HB2.out.trans (bl.mono HB2.out.size))
  clear bl hE cq HB2
  have hq64 : wrap64 q = q := by have := HQ.out.1; unfold wrap64; omega
  by_cases hm : mayP ⟨op, rd, rs1, rs2, is, q⟩
  · have he : encE ⟨op, rd, rs1, rs2, is, q⟩ = 0 := if_pos hm
    rw [he]
    by_cases hqD : q = to - at'
    · have hfw : encS ⟨op, rd, rs1, rs2, is, q⟩ = farW ⟨op, rd, rs1, rs2, is, imm⟩ (to - at') := by
        unfold farW; rw [if_pos ⟨hqD ▸ hm, HQ.out.2.1 hqD⟩, hqD]
      have hfe : (0 : Int) = farE ⟨op, rd, rs1, rs2, is, imm⟩ (to - at') := by
        unfold farE; rw [if_pos ⟨hqD ▸ hm, HQ.out.2.1 hqD⟩]
      have HF := ahid (And.intro hfw hfe)
      clear hfw hfe hm he
      generalize encS ⟨op, rd, rs1, rs2, is, q⟩ = W at *
      have hb : (q != to - at') = false := by simpa using hqD
      clear hqD
      go_wp2_with fail
      go_ret2
      exact ⟨aret2 HF.out.1 HF.out.2, HB3.out⟩
    · have hn : ¬ (mayP { (Ix.mk op rd rs1 rs2 is imm) with imm := to - at' } ∧ -2147483648 ≤ to - at' ∧ to - at' < 2147483648) := fun h => hqD (HQ.out.2.2 h.2)
      have hfw : (0 : Int) = farW ⟨op, rd, rs1, rs2, is, imm⟩ (to - at') := by unfold farW; rw [if_neg hn]
      have hfe : (50 : Int) = farE ⟨op, rd, rs1, rs2, is, imm⟩ (to - at') := by unfold farE; rw [if_neg hn]
      have HF := ahid (And.intro hfw hfe)
      have hb2 : (q != to - at') = true := by simpa using hqD
      have hb : (q == to - at') = false := by simpa using hqD
      clear hfw hfe hm he hn
      generalize encS ⟨op, rd, rs1, rs2, is, q⟩ = W at *
      go_wp2_with fail
      go_ret2
      exact ⟨aret2 HF.out.1 HF.out.2, HB3.out⟩
  · have he : encE ⟨op, rd, rs1, rs2, is, q⟩ = 2 := if_neg hm
    rw [he]
    have hn : ¬ (mayP { (Ix.mk op rd rs1 rs2 is imm) with imm := to - at' } ∧ -2147483648 ≤ to - at' ∧ to - at' < 2147483648) := fun h => by
      have := HQ.out.2.2 h.2
      exact hm (this ▸ h.1)
    have hfw : (0 : Int) = farW ⟨op, rd, rs1, rs2, is, imm⟩ (to - at') := by unfold farW; rw [if_neg hn]
    have hfe : (50 : Int) = farE ⟨op, rd, rs1, rs2, is, imm⟩ (to - at') := by unfold farE; rw [if_neg hn]
    have HF := ahid (And.intro hfw hfe)
    clear hfw hfe hm he hn
    generalize encS ⟨op, rd, rs1, rs2, is, q⟩ = W at *
    go_wp2_with fail
    go_ret2
    exact ⟨aret2 HF.out.1 HF.out.2, HB3.out⟩
end Go.Proofs.YtacfdddghdnboaaGreatDoor
/- Walks of the package asm: far. -/
namespace Go.Proofs.YtacfdddghdnboaaGreatDoor
open Go.RowKit Go.Maps
set_option linter.unusedVariables false
set_option linter.unusedSimpArgs false
theorem afar_none (w : World) (a : Value) (x : Ix) (nm : ByteArray) (hn : ∀ W, Below w.heap.size w W → Calls Tryz.prog 74 #[a] W fun e w' => e = .returned (.bool true) ∧ W = w') :
    Calls Tryz.prog 137 #[a, x.agg, .string nm] w fun e w' => e = .returned (.int .i64 1) ∧ Below w.heap.size w w' := by
  go_enter Tryz.func137, Tryz.ntmps137
  go_wp2_with fail
  refine (hn _ (((Below.refl _ _).alloc (Nat.le_refl _) _).alloc (by simp) _)).mono ?_
  rintro e w' ⟨rfl, rfl⟩
  go_wp2_with fail
  go_ret
  exact ⟨rfl, ((Below.refl _ _).alloc (Nat.le_refl _) _).alloc (by simp) _⟩
theorem infow : (Tryz.prog.info? 145).map (fun i => (i.zero, i.size, i.bytes)) = some (some .nilFunc, 1, 8) := by kernel_rfl
set_option maxRecDepth 100000 in
set_option maxHeartbeats 1000000 in
theorem afar_put (w : World) (ht : Tab w) (p m : Nat) (sv : Value) (K : Nat → Prop) (L : List It) (M : List (List UInt8 × Int)) (h : AsmAt w p sv m K L M) (x : Ix) (hx : x.bd) (hm : mayP x) (nm : ByteArray) (hs : nm.size ≤ maxLen) (hL : L.length < 4294967296) :
    Calls Tryz.prog 137 #[.pointer (some ⟨p, 0, none⟩), x.agg, .string nm] w fun e w' => e = .returned (.int .i64 0) ∧ AddOk w p sv m K L M [.far x nm] w' := by
  obtain ⟨c0, c1, f0, f1⟩ := h.cells
  have hE := fun W hW => encode_any x hx W hW
  rw [show encE x = 0 from if_pos hm] at hE
  obtain ⟨hpb, hmb, hsb⟩ := h.blocks
  have HBL := ahid (And.intro hpb (And.intro hmb hsb))
  clear hpb hmb hsb
  have hKK : ∀ k, (fun k => K k ∧ k < w.heap.size) k → K k := fun k hk => hk.1
  have hKL : ∀ k, (fun k => K k ∧ k < w.heap.size) k → k < w.heap.size := fun k hk => hk.2
  replace h := h.trim
  generalize (fun k => K k ∧ k < w.heap.size) = K0 at h hKK hKL
  have HKK := ahid (And.intro hKK hKL)
  clear hKK hKL
  have H := ahid h
  have HT := ahid ht
  clear h ht
  have HX := ahid hx
  have HM := ahid hm
  have HS := ahid hs
  clear hx hm hs
  obtain ⟨op, rd, rs1, rs2, is, imm⟩ := x
  go_enter Tryz.func137, Tryz.ntmps137
  go_wp2_with fail
  have hb1 : Below w.heap.size w ((w.alloc (.cells #[.int .u8 op, .int .u8 rd, .int .u8 rs1, .int .u8 rs2, .bool is, .int .i32 imm] 26)).alloc (.cells #[.string nm] 9)) := ((Below.refl _ _).alloc (Nat.le_refl _) _).alloc (by simp) _
  have hsz1 : ((w.alloc (.cells #[.int .u8 op, .int .u8 rd, .int .u8 rs1, .int .u8 rs2, .bool is, .int .i32 imm] 26)).alloc (.cells #[.string nm] 9)).heap.size = w.heap.size + 2 := by simp
  have hn1 : ((w.alloc (.cells #[.int .u8 op, .int .u8 rd, .int .u8 rs1, .int .u8 rs2, .bool is, .int .i32 imm] 26)).alloc (.cells #[.string nm] 9)).cell? ⟨w.heap.size + 1, 0, none⟩ = some (.string nm) := by simp [go_sem]
  have hx1 : ((w.alloc (.cells #[.int .u8 op, .int .u8 rd, .int .u8 rs1, .int .u8 rs2, .bool is, .int .i32 imm] 26)).alloc (.cells #[.string nm] 9)).heap[w.heap.size]? = some (.cells #[.int .u8 op, .int .u8 rd, .int .u8 rs1, .int .u8 rs2, .bool is, .int .i32 imm] 26 (0, 0)) := by
    rw [Below.heap_alloc _ _ _ (by simp)]; exact (MapKept.heap_alloc w _).1
  generalize (w.alloc (.cells #[.int .u8 op, .int .u8 rd, .int .u8 rs1, .int .u8 rs2, .bool is, .int .i32 imm] 26)).alloc (.cells #[.string nm] 9) = w1 at *
  have HA1 := ahid (H.out.keep (Only.of_below (S := fun _ => False) hb1) (fun _ _ h => h) (fun _ _ h => h))
  have HT1 := ahid (HT.out.keep hb1)
  clear c0 c1 f0 f1
  obtain ⟨c0, c1, f0, f1⟩ := HA1.out.cells
  have d0 : w1.cell? ⟨w.heap.size, 0, none⟩ = some (.int .u8 op) := by simp [World.cell?, hx1]
  have d1 : w1.cell? ⟨w.heap.size, 1, none⟩ = some (.int .u8 rd) := by simp [World.cell?, hx1]
  have d2 : w1.cell? ⟨w.heap.size, 2, none⟩ = some (.int .u8 rs1) := by simp [World.cell?, hx1]
  have d3 : w1.cell? ⟨w.heap.size, 3, none⟩ = some (.int .u8 rs2) := by simp [World.cell?, hx1]
  have d4 : w1.cell? ⟨w.heap.size, 4, none⟩ = some (.bool is) := by simp [World.cell?, hx1]
  have d5 : w1.cell? ⟨w.heap.size, 5, none⟩ = some (.int .i32 imm) := by simp [World.cell?, hx1]
  have HB1 := ahid hb1
  have HX1 := ahid hx1
  have HN1 := ahid hn1
  have HSZ := ahid hsz1
  clear hb1 hx1 hn1 hsz1
  refine (anone_made w1 p m c1).mono ?_
  rintro e w' ⟨rfl, rfl⟩
  go_wp2_with fail
  refine (hE _ HT1.out).mono ?_
  rintro e w2 ⟨rfl, bl⟩
  have HA2 := ahid (HA1.out.keep (Only.of_below (S := fun _ => False) bl) (fun _ _ h => h) (fun _ _ h => h))
  have HB2 := ahid (HB1.out.trans (bl.mono HB1.out.size))
  have hX2 : w2.heap[w.heap.size]? = some (.cells #[.int .u8 op, .int .u8 rd, .int .u8 rs1, .int .u8 rs2, .bool is, .int .i32 imm] 26 (0, 0)) := (bl.block _ (lt_of_block HX1.out)).trans HX1.out
  have hN2 := (bl.cell (p := ⟨w.heap.size + 1, 0, none⟩) (World.block_lt_of_cell? _ _ HN1.out)).trans HN1.out
  have hsz2 : w.heap.size + 2 ≤ w2.heap.size := by have := HSZ.out; have := bl.size; omega
  clear bl c0 c1 f0 f1 d0 d1 d2 d3 d4 d5 HA1 HT1 HB1 HX1 HN1 HSZ hE
  have HX2 := ahid hX2
  have HN2 := ahid hN2
  clear hX2 hN2
  have HSZ2 := ahid hsz2
  clear hsz2
  have HF2 : Hid ((w2.alloc (.cells #[.func (.func 172) #[] #[.pointer (some ⟨w.heap.size + 1, 0, none⟩), .pointer (some ⟨w.heap.size, 0, none⟩)]] 145)).cell? ⟨w.heap.size + 1, 0, none⟩ = some (.string nm) ∧ ∀ (i : Nat) (u : Value), (Ix.mk op rd rs1 rs2 is imm).agg.cells[i]? = some u → (w2.alloc (.cells #[.func (.func 172) #[] #[.pointer (some ⟨w.heap.size + 1, 0, none⟩), .pointer (some ⟨w.heap.size, 0, none⟩)]] 145)).cell? ⟨w.heap.size, i, none⟩ = some u) := by
    refine ahid ⟨Lib.cell?_alloc_some _ HN2.out, fun i u hu => Lib.cell?_alloc_some _ ?_⟩
    simp only [World.cell?, HX2.out]
    simpa [Value.cells] using hu
  obtain ⟨c0, c1, f0, f1⟩ := HA2.out.cells
  obtain ⟨vs, hown, hlen, hvs⟩ := HA2.out.row
  have HV := ahid hvs
  clear hvs
  obtain ⟨i0, hi, hz0, hz1, hz2⟩ := info_parts infow
  go_wp2_with (first | (at_builtin; refine wpList_append_place _ rfl _ _ 136 rfl 145 i0 _ 8 Tryz.underlying136 hi hz0 hz1 hz2 rfl sv L.length vs rfl (hown.alloc _) ⟨w2.heap.size, 0, none⟩ 1 1 [.func (.func 172) #[] #[.pointer (some ⟨w.heap.size + 1, 0, none⟩), .pointer (some ⟨w.heap.size, 0, none⟩)]] rfl rfl (cell_one_new _ _ _) (by simp [Value.oneCell']) (by unfold maxLen; omega) (by omega) ?_; intro v' w3 hown3 hgrow3 hpl3; obtain ⟨g3, cap3, rfl⟩ : ∃ g3 cap3, v' = .slice (some ⟨g3, 0, none⟩) (L.length + 1) cap3 := hown3.2.elim (fun h => absurd h.2 (by omega)) (fun ⟨g, c, _, e, _⟩ => ⟨g, c, e⟩); have o3 : Only (fun k => sv.ownBlock = some k) w2 w3 := ((Only.refl _ w2).alloc _).grown hgrow3 (fun k hk _ => hk.symm ▸ rfl); have c3 := (o3.cell (p := ⟨p, 0, none⟩) (lt_of_block HA2.out.ptr) HA2.out.ne.2.1).trans c0; have f3 := (World.frozen?_of_block (a := ⟨p, 0, none⟩) (o3.block p (lt_of_block HA2.out.ptr) HA2.out.ne.2.1)).trans f0))
  go_ret
  refine ⟨rfl, ?_⟩
  have HA3 := HA2.out.keep ((Only.refl (fun _ => False) w2).alloc (.cells #[.func (.func 172) #[] #[.pointer (some ⟨w.heap.size + 1, 0, none⟩), .pointer (some ⟨w.heap.size, 0, none⟩)]] 145)) (fun _ _ h => h) (fun _ _ h => h)
  have hsz2 := HSZ2.out
  have hfar := HF2.out
  have hadd := HA3.add (L2 := [.far ⟨op, rd, rs1, rs2, is, imm⟩ nm]) (K2 := fun k => K0 k ∨ k = w.heap.size ∨ k = w.heap.size + 1) hgrow3 hown3 (hpl3) hlen
    (fun i v it hv hi => (HV.out i v it hv hi).keep ((Only.refl (fun _ => False) w2).alloc _) (fun _ _ h => h) (fun _ _ h => h)) rfl
    (fun i v it hv hi => by
      match i, hv, hi with
      | 0, hv, hi =>
        simp only [List.getElem?_cons_zero, Option.some.injEq] at hv hi
        subst hv; subst hi
        exact ⟨w.heap.size + 1, w.heap.size, rfl, .inr (.inr rfl), .inr (.inl rfl), hfar.1, hfar.2, HS.out, HX.out⟩)
    (fun k hk => by
      have hp := HBL.out
      rcases hk with hk | rfl | rfl
      · have := HKK.out.2 k hk
        have h8 := HA2.out.apart k hk
        exact ⟨by simp; omega, h8⟩
      · exact ⟨by simp; omega, by omega, fun e => by have := hp.2.2 _ e; omega, by omega⟩
      · exact ⟨by simp; omega, by omega, fun e => by have := hp.2.2 _ e; omega, by omega⟩)
    (fun k _ hk => .inl hk)
  refine ⟨_, _, hadd.1, ?_, ?_, ?_⟩
  · exact (Only.of_below (HB2.out.trans ((Below.refl _ _).alloc HB2.out.size _))).fresh hadd.2 (fun _ _ h => h)
  · intro k hk ho
    rcases ho with h | h | h
    · exact .inl h
    · rcases hpl3 with e | e
      · exact .inr (.inl (e ▸ h))
      · have := e k h; simp at this; omega
    · exact .inr (.inr h)
  · intro k hk ho
    rcases ho with h | h | h
    · exact HKK.out.1 k h
    · omega
    · omega
end Go.Proofs.YtacfdddghdnboaaGreatDoor
/- Walks of the package asm: Put. -/
namespace Go.Proofs.YtacfdddghdnboaaGreatDoor
open Go.RowKit Go.Maps
set_option linter.unusedVariables false
set_option linter.unusedSimpArgs false
theorem cell_one_new2 (w : World) (A : Obj) (v : Value) (T : TypeId) : ∀ (j : Nat) u, [v][j]? = some u → ((w.alloc A).alloc (.cells #[v] T)).cell? ((⟨w.heap.size + 1, 0, none⟩ : Addr).add j) = some u := by
  have h := cell_one_new (w.alloc A) v T
  rw [show (w.alloc A).heap.size = w.heap.size + 1 by simp] at h
  exact h
theorem PutOk.yes {w w' : World} {p m : Nat} {sv : Value} {K : Nat → Prop} {L : List It} {M : List (List UInt8 × Int)} {l : List Ix} (h : ∀ x ∈ l, mayP x) (h2 : AddOk w p sv m K L M (l.map .put) w') : PutOk w p sv m K L M l (.returned (.int .i64 0)) w' := by
  unfold PutOk; rw [if_pos h]; exact ⟨rfl, h2⟩
theorem aput_none (w : World) (a v : Value) (hn : ∀ W, Below w.heap.size w W → Calls Tryz.prog 74 #[a] W fun e w' => e = .returned (.bool true) ∧ W = w') :
    Calls Tryz.prog 73 #[a, v] w fun e w' => e = .returned (.int .i64 1) ∧ w = w' := by
  go_enter Tryz.func73, Tryz.ntmps73
  go_wp2_with fail
  refine (hn _ (Below.refl _ _)).mono ?_
  rintro e w' ⟨rfl, rfl⟩
  go_wp2_with fail
  go_ret
  exact ⟨rfl, rfl⟩
set_option maxRecDepth 100000 in
set_option maxHeartbeats 2000000 in
theorem aput_any (w : World) (ht : Tab w) (p m : Nat) (sv : Value) (K : Nat → Prop) (L : List It) (M : List (List UInt8 × Int)) (h : AsmAt w p sv m K L M) (v : Value) (l : List Ix) (hl : InsIn w v l) (hL : L.length + l.length < 4294967296) :
    Calls Tryz.prog 73 #[.pointer (some ⟨p, 0, none⟩), v] w (PutOk w p sv m K L M l) := by
  obtain ⟨c0, c1, f0, f1⟩ := h.cells
  obtain ⟨hlm, pv, cv, b, o, rfl, hpv, hins⟩ := hl
  have HN := ahid (anone_made w p m c1)
  have H := ahid h
  have HT := ahid ht
  have HI := ahid hins
  have HP := ahid hpv
  clear h ht hins hpv c0 c1 f0 f1
  unfold maxLen at hlm
  obtain ⟨i0, hi, hz0, hz1, hz2⟩ := info_parts infow
  have HII := ahid (And.intro hi (And.intro hz0 (And.intro hz1 hz2)))
  clear hi hz0 hz1 hz2
  have HS := ahid (PutAt.start w l)
  go_enter Tryz.func73, Tryz.ntmps73
  go_wp2_with fail
  refine HN.out.mono ?_
  rintro e w' ⟨rfl, rfl⟩
  go_wp2_with fail
  go_loopw [5, 14] (fun v5 i wr => ∃ (k : Nat) (mv : Value), k ≤ l.length ∧ i = .int .i64 k ∧ mv = v5 ∧ PutAt w l mv k wr) (fun _ i _ => l.length - (intOf i).toNat)
  case atStart => exact ⟨0, _, Nat.zero_le _, rfl, rfl, HS.out⟩
  case round =>
    obtain ⟨k, mv, hk, rfl, rfl, HR⟩ := hrel
    replace HR := ahid HR
    by_cases hlt : k < l.length
    · obtain ⟨x, hx⟩ : ∃ x, l[k]? = some x := ⟨_, List.getElem?_eq_getElem hlt⟩
      obtain rfl := HP.out (by omega)
      have hxi := (HI.out k x hx).keepb HR.out.below
      have c0 := hxi.c0
      have c1 := hxi.c1
      have c2 := hxi.c2
      have c3 := hxi.c3
      have c4 := hxi.c4
      have c5 := hxi.c5
      have HX := ahid hx
      have HB := ahid hxi.bd
      clear hx hxi
      have hE := ahid (fun W hW => encode_any x HB.out W hW)
      have hkn : (k : Int) < l.length := by omega
      obtain ⟨op, rd, rs1, rs2, is, imm⟩ := x
      go_wp2_with fail
      have hb1 : Below wr.heap.size wr (wr.alloc (.cells #[.int .u8 op, .int .u8 rd, .int .u8 rs1, .int .u8 rs2, .bool is, .int .i32 imm] 26)) := (Below.refl _ _).alloc (Nat.le_refl _) _
      have hsz1 : (wr.alloc (.cells #[.int .u8 op, .int .u8 rd, .int .u8 rs1, .int .u8 rs2, .bool is, .int .i32 imm] 26)).heap.size = wr.heap.size + 1 := by simp
      have HB1 := ahid (And.intro hb1 hsz1)
      clear hb1 hsz1 c0 c1 c2 c3 c4 c5
      generalize wr.alloc (.cells #[.int .u8 op, .int .u8 rd, .int .u8 rs1, .int .u8 rs2, .bool is, .int .i32 imm] 26) = w1 at *
      refine (hE.out w1 ((HT.out.keep HR.out.below).keep (HB1.out.1.mono HR.out.below.size |> fun b => by exact HB1.out.1))).mono ?_
      rintro e w2 ⟨rfl, bl⟩
      have HB2 := ahid (And.intro (HB1.out.1.trans (bl.mono HB1.out.1.size)) (by have := bl.size; have := HB1.out.2; omega : wr.heap.size < w2.heap.size))
      clear bl HB1
      by_cases hm : mayP ⟨op, rd, rs1, rs2, is, imm⟩
      · have he : encE ⟨op, rd, rs1, rs2, is, imm⟩ = 0 := if_pos hm
        rw [he]
        have HM := ahid hm
        clear he hm
        obtain ⟨vs, C, hown, hlen, hvs, hC⟩ := HR.out.ex
        have HV := ahid (And.intro hown (And.intro hlen (And.intro hvs hC)))
        clear hown hlen hvs hC
        have hown2 := HV.out.1.keepw (Only.of_below (S := fun _ => False) HB2.out.1) (fun _ _ h => h)
        generalize hq : encS ⟨op, rd, rs1, rs2, is, imm⟩ = q
        have HQ := ahid hq
        clear hq
        have hi := HII.out.1
        go_wp2_with (first | (at_builtin; refine wpList_append_place _ rfl _ _ 136 rfl 145 i0 _ 8 Tryz.underlying136 hi HII.out.2.1 HII.out.2.2.1 HII.out.2.2.2 rfl mv k vs rfl ((hown2.alloc _).alloc _) ⟨w2.heap.size + 1, 0, none⟩ 1 1 [.func (.func 136) #[] #[.pointer (some ⟨w2.heap.size, 0, none⟩)]] rfl rfl (cell_one_new2 _ _ _ _) (by simp [Value.oneCell']) (by unfold maxLen; omega) (by omega) ?_; intro v' w3 hown3 hgrow3 hpl3))
        have hb3 : Below wr.heap.size wr ((w2.alloc (.cells #[.int .u32 q] 22)).alloc (.cells #[.func (.func 136) #[] #[.pointer (some ⟨w2.heap.size, 0, none⟩)]] 145)) := (HB2.out.1.alloc (Nat.le_of_lt HB2.out.2) _).alloc (by have := HB2.out.2; simp; omega) _
        have hmore := HR.out.more HX.out HM.out hb3 w2.heap.size (Nat.le_of_lt HB2.out.2) (by simp; omega) (by rw [HQ.out]; simp [go_sem]) HV.out.1 HV.out.2.1 HV.out.2.2.1 HV.out.2.2.2 hown3 hgrow3 hpl3
        go_roundw
        case rel => exact ⟨k + 1, v', by omega, by go_num, rfl, hmore⟩
        case measure => simp [intOf]; omega
      · have he : encE ⟨op, rd, rs1, rs2, is, imm⟩ = 2 := if_neg hm
        rw [he]
        have hbf : Below w.heap.size w w2 := HR.out.below.trans (HB2.out.1.mono HR.out.below.size)
        have hfin : ∀ (o : Obj), PutOk w p sv m K L M l (.returned (.int .i64 2)) (w2.alloc o) := fun o => by
          unfold PutOk
          rw [if_neg (fun h => hm (h _ (List.mem_of_getElem? HX.out)))]
          exact ⟨rfl, hbf.alloc hbf.size _⟩
        have HF := ahid hfin
        clear hfin hbf he hm HR
        generalize encS ⟨op, rd, rs1, rs2, is, imm⟩ = q
        go_wp2_with fail
        go_ret
        exact HF.out _
    · obtain rfl : k = l.length := by omega
      have hkn : ¬ ((l.length : Int) < l.length) := by omega
      have HA := ahid (H.out.keep (Only.of_below (S := fun _ => False) HR.out.below) (fun _ _ h => h) (fun _ _ h => h))
      obtain ⟨c0, c1, f0, f1⟩ := HA.out.cells
      have hall : ∀ x ∈ l, mayP x := fun x hx => by
        obtain ⟨i, hi, he⟩ := List.mem_iff_getElem.1 hx
        exact HR.out.may i x hi (by rw [List.getElem?_eq_getElem hi, he])
      obtain ⟨us, hus1, hus2, hus3⟩ := (H.out.trim.keep (Only.of_below (S := fun _ => False) HR.out.below) (fun _ _ h => h) (fun _ _ h => h)).row
      obtain ⟨vs, C, hown, hlen, hvs, hC⟩ := HR.out.ex
      have hi := HII.out.1
      have HC := ahid hC
      have HV := ahid hvs
      have HL := ahid hall
      have HU := ahid (And.intro hus2 hus3)
      have hor := hown.2
      clear hC hvs hall hus2 hus3
      rcases hor with ⟨rfl, hl0⟩ | ⟨g, cap, cur, rfl, hrest⟩
      · have HL0 := ahid hl0
        clear hl0
        rcases HA.out.slice with ⟨rfl, _⟩ | ⟨gs, caps, rfl, _⟩
        all_goals
          go_wp2_with (first | (at_builtin; refine wpList_append_own_none rfl _ _ 136 rfl 0 145 i0 1 Tryz.underlying136 hi _ L.length us rfl hus1 rfl ?_))
          go_ret
          refine PutOk.yes HL.out ?_
          refine PutAt.fin H.out HR.out hlen HV.out HC.out HU.out.1 HU.out.2 ?_ ⟨rfl, rfl, rfl, Nat.le_refl _, fun _ _ _ => rfl⟩ (.inl rfl)
          obtain rfl : vs = [] := List.eq_nil_of_length_eq_zero (by rw [hlen]; exact HL0.out)
          rw [HL0.out, Nat.add_zero, List.append_nil]
          exact hus1
      · have hcl := hown.cells rfl
        have h1c : ∀ u ∈ vs, u.oneCell' = true := fun u hu => by
          obtain ⟨i, hi, he⟩ := List.mem_iff_getElem.1 hu
          obtain ⟨c, hc, _⟩ := HV.out i u l[i] (by rw [List.getElem?_eq_getElem hi, he]) (List.getElem?_eq_getElem (by omega))
          rw [hc]; simp [Value.oneCell']
        have HCL := ahid (And.intro hcl h1c)
        clear hcl h1c hrest
        go_wp2_with (first | (at_builtin; refine wpList_append_place _ rfl _ _ 136 rfl 145 i0 _ 8 Tryz.underlying136 hi HII.out.2.1 HII.out.2.2.1 HII.out.2.2.2 rfl sv L.length us rfl hus1 ⟨g, 0, none⟩ l.length cap vs rfl (by rw [hlen, Nat.mul_one]) HCL.out.1 HCL.out.2 (by unfold maxLen; omega) (by omega) ?_; intro v' w3 hown3 hgrow3 hpl3; have o3 : Only (fun k => sv.ownBlock = some k) wr w3 := ((Only.refl _ wr)).grown hgrow3 (fun k hk _ => hk.symm ▸ rfl); have c3 := (o3.cell (p := ⟨p, 0, none⟩) (lt_of_block HA.out.ptr) HA.out.ne.2.1).trans c0; have f3 := (World.frozen?_of_block (a := ⟨p, 0, none⟩) (o3.block p (lt_of_block HA.out.ptr) HA.out.ne.2.1)).trans f0; replace hgrow3 := ahid hgrow3; replace hpl3 := ahid hpl3; rcases hown3.2 with ⟨rfl, _⟩ | ⟨g3, cap3, _, rfl, _⟩))
        all_goals
          go_ret
          refine PutOk.yes HL.out ?_
          exact PutAt.fin H.out HR.out hlen HV.out HC.out HU.out.1 HU.out.2 hown3 hgrow3.out hpl3.out
end Go.Proofs.YtacfdddghdnboaaGreatDoor
/- Walks of the package asm: Words. -/
namespace Go.Proofs.YtacfdddghdnboaaGreatDoor
open Go.RowKit Go.Maps
set_option linter.unusedVariables false
set_option linter.unusedSimpArgs false
/-- What an item is at a place: its word, its answer. -/
def itW (M : List (List UInt8 × Int)) (i : Int) : It → Int
  | .put x => encS x
  | .far x nm => match look M nm.data.toList with | none => 0 | some t => farW x (t - i)
def itE (M : List (List UInt8 × Int)) (i : Int) : It → Int
  | .put x => 0
  | .far x nm => match look M nm.data.toList with | none => 7 | some t => farE x (t - i)
/-- All words; the first answer that is not 0. -/
def wordsL (M : List (List UInt8 × Int)) : Nat → List It → List Int
  | _, [] => []
  | i, it :: L => itW M i it :: wordsL M (i + 1) L
def wordsE (M : List (List UInt8 × Int)) : Nat → List It → Int
  | _, [] => 0
  | i, it :: L => if itE M i it = 0 then wordsE M (i + 1) L else itE M i it
theorem wordsL_len (M : List (List UInt8 × Int)) : ∀ (L : List It) (i : Nat), (wordsL M i L).length = L.length := by
  intro L; induction L with
  | nil => intro i; rfl
  | cons x L ih => intro i; simp [wordsL, ih]
theorem wordsL_snoc (M : List (List UInt8 × Int)) (it : It) : ∀ (L : List It) (i : Nat), wordsL M i (L ++ [it]) = wordsL M i L ++ [itW M (i + L.length : Nat) it] := by
  intro L; induction L with
  | nil => intro i; simp [wordsL]
  | cons x L ih => intro i; simp only [List.cons_append, wordsL, ih, List.length_cons]; rw [show i + 1 + L.length = i + (L.length + 1) by omega]
theorem wordsE_append (M : List (List UInt8 × Int)) : ∀ (L L2 : List It) (i : Nat), wordsE M i (L ++ L2) = if wordsE M i L = 0 then wordsE M (i + L.length) L2 else wordsE M i L := by
  intro L; induction L with
  | nil => intro L2 i; simp [wordsE]
  | cons x L ih =>
    intro L2 i
    simp only [List.cons_append, wordsE, ih, List.length_cons]
    rw [show i + 1 + L.length = i + (L.length + 1) by omega]
    by_cases h : itE M i x = 0
    · simp [h]
    · simp [h]
theorem wordsE_stop (M : List (List UInt8 × Int)) (L : List It) (k : Nat) (it : It) (h0 : wordsE M 0 (L.take k) = 0) (hk : L[k]? = some it) (he : itE M k it ≠ 0) : wordsE M 0 L = itE M k it := by
  have hlt : k < L.length := by
    rcases Nat.lt_or_ge k L.length with h | h
    · exact h
    · rw [List.getElem?_eq_none h] at hk; cases hk
  have e : L = L.take k ++ (it :: L.drop (k + 1)) := by
    rw [List.getElem?_eq_getElem hlt] at hk
    cases hk
    rw [← List.drop_eq_getElem_cons hlt, List.take_append_drop]
  rw [e, wordsE_append, if_pos h0, List.length_take, Nat.min_eq_left (by omega), Nat.zero_add, wordsE, if_neg he]
theorem words_step (M : List (List UInt8 × Int)) (L : List It) (k : Nat) (it : It) (h0 : wordsE M 0 (L.take k) = 0) (hk : L[k]? = some it) (he : itE M k it = 0) :
    wordsE M 0 (L.take (k + 1)) = 0 ∧ wordsL M 0 (L.take (k + 1)) = wordsL M 0 (L.take k) ++ [itW M k it] := by
  have hlt : k < L.length := by
    rcases Nat.lt_or_ge k L.length with h | h
    · exact h
    · rw [List.getElem?_eq_none h] at hk; cases hk
  have e : L.take (k + 1) = L.take k ++ [it] := by
    rw [List.getElem?_eq_getElem hlt] at hk
    cases hk
    exact List.take_succ_eq_append_getElem hlt
  rw [e, wordsL_snoc, wordsE_append, if_pos h0, List.length_take, Nat.min_eq_left (by omega), Nat.zero_add]
  exact ⟨by simp [wordsE, he], rfl⟩
/-- What Words tells. -/
def WordsOk (w : World) (L : List It) (M : List (List UInt8 × Int)) (e : Ending) (w' : World) : Prop :=
  ∃ v l, e = .returned (.tuple #[v, .int .i64 (wordsE M 0 L)]) ∧ l = (if wordsE M 0 L = 0 then wordsL M 0 L else []) ∧ w'.ownsRow w.heap.size 22 1 v l.length (u32s l) ∧ Below w.heap.size w w'
theorem WordsOk.stop {w wr : World} {L : List It} {M : List (List UInt8 × Int)} {k : Nat} {it : It} {e : Int} (h0 : wordsE M 0 (L.take k) = 0) (hk : L[k]? = some it) (he : itE M k it = e) (hne : e ≠ 0) (hb : Below w.heap.size w wr) :
    WordsOk w L M (.returned (.tuple #[.slice none 0 0, .int .i64 e])) wr := by
  have h := wordsE_stop M L k it h0 hk (by rw [he]; exact hne)
  rw [he] at h
  exact ⟨_, [], by rw [h], by rw [h, if_neg hne], World.ownsRow_nil _ _ _ _, hb⟩
theorem infou : (Tryz.prog.info? 22).map (fun i => (i.zero, i.size, i.bytes)) = some (some (.int .u32 0), 1, 4) := by kernel_rfl
theorem awords_none (w : World) (a : Value) (hn : Calls Tryz.prog 74 #[a] w fun e w' => e = .returned (.bool true) ∧ w = w') :
    Calls Tryz.prog 42 #[a] w fun e w' => e = .returned (.tuple #[.slice none 0 0, .int .i64 1]) ∧ w = w' := by
  go_enter Tryz.func42, Tryz.ntmps42
  go_wp2_with fail
  refine hn.mono ?_
  rintro e w' ⟨rfl, rfl⟩
  go_wp2_with fail
  go_ret2
  exact ⟨rfl, rfl⟩
theorem _root_.Go.World.ownsRow.kept_below {a b : World} {B : Nat} {e : TypeId} {size n : Nat} {v : Value} {xs : List Value} (h : a.ownsRow B e size v n xs) (o : Below a.heap.size a b) (_ : B ≤ a.heap.size) : b.ownsRow B e size v n xs := by
  refine ⟨h.1, ?_⟩
  rcases h.2 with h | ⟨g, cap, cur, e1, e2, e3, e4⟩
  · exact .inl h
  · exact .inr ⟨g, cap, cur, e1, e2, (o.block g (lt_of_block e3)).trans e3, e4⟩
theorem farE_cases (x : Ix) (d : Int) : farE x d = 0 ∨ farE x d = 50 := by unfold farE; split <;> simp
set_option maxRecDepth 100000 in
set_option maxHeartbeats 2000000 in
theorem awords_any (w : World) (ht : Tab w) (p m : Nat) (sv : Value) (K : Nat → Prop) (L : List It) (M : List (List UInt8 × Int)) (h : AsmAt w p sv m K L M) (hL : L.length < 4294967296) (hM : ∀ nm t, look M nm = some t → 0 ≤ t ∧ t < 4294967296) :
    Calls Tryz.prog 42 #[.pointer (some ⟨p, 0, none⟩)] w (WordsOk w L M) := by
  obtain ⟨c0, c1, f0, f1⟩ := h.cells
  have HN := ahid (anone_made w p m c1)
  obtain ⟨i0, hi, hz0, hz1, hz2⟩ := info_parts infou
  have HII := ahid (And.intro hi (And.intro hz0 (And.intro hz1 hz2)))
  clear hi hz0 hz1 hz2
  have HM := ahid hM
  have HT := ahid ht
  have H := ahid h
  clear ht hM h c1 f0 f1
  obtain ⟨vs, hown, hlen, hvs⟩ := H.out.row
  have HV := ahid (And.intro hlen hvs)
  clear hlen hvs
  rcases hown.2 with ⟨rfl, hl0⟩ | ⟨g, cap, cur, rfl, _, hcur, hcap1, hcap2, hsz, htk⟩
  · obtain rfl : L = [] := List.eq_nil_of_length_eq_zero hl0
    clear hown hl0
    go_enter Tryz.func42, Tryz.ntmps42
    go_wp2_with fail
    refine HN.out.mono ?_
    rintro e w' ⟨rfl, rfl⟩
    go_wp2_with fail
    refine wp_loop_rounds 1 ?_
    rw [rounds_succ]
    go_wp2_with fail
    go_ret2
    exact ⟨_, [], rfl, rfl, World.ownsRow_nil _ _ _ _, Below.refl _ _⟩
  · have hcell := hown.cells rfl
    have HC := ahid hcell
    clear hcell hcur hsz htk hown
    have HZ := ahid (World.ownsRow_nil w w.heap.size 22 1)
    unfold maxLen at hcap2
    go_enter Tryz.func42, Tryz.ntmps42
    go_wp2_with fail
    refine HN.out.mono ?_
    rintro e w' ⟨rfl, rfl⟩
    go_wp2_with fail
    go_loopw [4, 16] (fun v4 i wr => ∃ (k : Nat) (ov : Value), k ≤ L.length ∧ i = .int .i64 k ∧ ov = v4 ∧ wordsE M 0 (L.take k) = 0 ∧ wr.ownsRow w.heap.size 22 1 ov k (u32s (wordsL M 0 (L.take k))) ∧ Below w.heap.size w wr) (fun _ i _ => L.length - (intOf i).toNat)
    case atStart => exact ⟨0, _, Nat.zero_le _, rfl, rfl, rfl, HZ.out, Below.refl _ _⟩
    case round =>
      obtain ⟨k, ov, hk, rfl, rfl, hz, hrow, hbel⟩ := hrel
      have HR := ahid (And.intro hz (And.intro hrow hbel))
      clear hz hrow hbel
      by_cases hlt : k < L.length
      · obtain ⟨it, hit⟩ : ∃ it, L[k]? = some it := ⟨_, List.getElem?_eq_getElem hlt⟩
        obtain ⟨u, hu⟩ : ∃ u, vs[k]? = some u := ⟨_, List.getElem?_eq_getElem (by rw [HV.out.1]; exact hlt)⟩
        have hclo := HV.out.2 k u it hu hit
        have hcu := HC.out k u hu
        rw [addr_add0] at hcu
        have hA := H.out.keep (Only.of_below (S := fun _ => False) HR.out.2.2) (fun _ _ h => h) (fun _ _ h => h)
        have cu : wr.cell? ⟨g, k, none⟩ = some u := (HR.out.2.2.cell (p := ⟨g, k, none⟩) (World.block_lt_of_cell? _ _ hcu)).trans hcu
        have hclo2 := hclo.keep (Only.of_below (S := fun _ => False) HR.out.2.2) (fun _ _ h => h) (fun _ _ h => h)
        obtain ⟨_, c1, _, _⟩ := hA.cells
        have HK := ahid hit
        have HCL := ahid hclo2
        have HA := ahid hA
        have hkL : (k : Int) < L.length := by omega
        clear hit hu hclo hcu hclo2 hA
        have hown2 := HR.out.2.1
        cases it with
        | put x =>
          obtain ⟨c, rfl, hKc, hcc⟩ := HCL.out
          have HCC := ahid (fun mv => aput1_any wr K _ x ⟨c, rfl, hKc, hcc⟩ k mv c rfl hcc)
          have HE := ahid (show itE M k (.put x) = 0 from rfl)
          have HWD := ahid (show itW M k (.put x) = encS x from rfl)
          have HB3 := ahid HR.out.2.2
          clear hKc hcc HCL
          generalize encS x = q at HCC HWD
          go_wp2_with fail
          refine (HCC.out _).mono ?_
          rintro e w' ⟨rfl, rfl⟩
          have hi := HII.out.1
          go_wp2_with (first | (at_builtin; refine wpList_append_own _ rfl _ _ 49 rfl w.heap.size 22 i0 (.int .u32 0) 1 4 Tryz.underlying49 hi HII.out.2.1 HII.out.2.2.1 HII.out.2.2.2 rfl (by decide) _ k (u32s (wordsL M 0 (L.take k))) rfl (hown2.alloc _) ⟨wr.heap.size, 0, none⟩ 1 1 [.int .u32 q] rfl rfl (cell_one_new _ _ _) (by simp [Value.oneCell']) (by unfold maxLen; omega) (by omega) ((HB3.out.alloc HB3.out.size _).size) ?_; intro v' w3 hown3 hgrow3 hnil3))
          obtain ⟨hz3, hl3⟩ := words_step M L k _ HR.out.1 HK.out HE.out
          have hb3 := (HB3.out.alloc HB3.out.size _).grown hgrow3 (by simp; have := HB3.out.size; omega) (fun i hi => (HR.out.2.1.lt i hi).1)
          have hr3 : w3.ownsRow w.heap.size 22 1 v' (k + 1) (u32s (wordsL M 0 (L.take (k + 1)))) := by rw [hl3, HWD.out]; simpa [u32s] using hown3
          clear hl3
          go_roundw
          case rel => exact ⟨k + 1, v', by omega, by go_num, rfl, hz3, hr3, hb3⟩
          case measure => simp [intOf]; omega
        | far x nm =>
          obtain ⟨c, d, rfl, hKc, hKd, hcn, hcx, hnm, hbd⟩ := HCL.out
          cases hlk : look M nm.data.toList with
          | none =>
            have HCC := ahid (afar1_lost wr p m _ K L M HA.out k nm hnm c d hcn hlk)
            have HE := ahid (show itE M k (.far x nm) = 7 by simp only [itE, hlk])
            clear hKc hKd hcn hcx hnm hbd hlk HCL hown2
            go_wp2_with fail
            refine HCC.out.mono ?_
            rintro e w' ⟨rfl, rfl⟩
            go_wp2_with fail
            go_ret2
            exact WordsOk.stop HR.out.1 HK.out HE.out (by decide) HR.out.2.2
          | some t =>
            have htb := HM.out _ _ hlk
            have HCC := ahid (afar1_there wr (HT.out.keep HR.out.2.2) p m _ K L M HA.out k nm hnm c d hcn x hbd hcx t hlk (by omega))
            have HE0 := ahid (show itE M k (.far x nm) = farE x (t - k) by simp only [itE, hlk])
            have HWD := ahid (show itW M k (.far x nm) = farW x (t - k) by simp only [itW, hlk])
            have hfe := farE_cases x (t - k)
            clear hKc hKd hcn hcx hnm hbd hlk HCL htb hown2
            generalize farW x (t - k) = q at HCC HWD
            generalize farE x (t - k) = ee at HCC HE0 hfe
            rcases hfe with rfl | rfl
            · have HE := HE0
              go_wp2_with fail
              refine HCC.out.mono ?_
              rintro e w4 ⟨rfl, hb4⟩
              have hown2 := HR.out.2.1.kept_below hb4 HR.out.2.2.size
              have HB3 := ahid (HR.out.2.2.trans (hb4.mono HR.out.2.2.size))
              clear hb4
              have hi := HII.out.1
              go_wp2_with (first | (at_builtin; refine wpList_append_own _ rfl _ _ 49 rfl w.heap.size 22 i0 (.int .u32 0) 1 4 Tryz.underlying49 hi HII.out.2.1 HII.out.2.2.1 HII.out.2.2.2 rfl (by decide) _ k (u32s (wordsL M 0 (L.take k))) rfl (hown2.alloc _) ⟨w4.heap.size, 0, none⟩ 1 1 [.int .u32 q] rfl rfl (cell_one_new _ _ _) (by simp [Value.oneCell']) (by unfold maxLen; omega) (by omega) ((HB3.out.alloc HB3.out.size _).size) ?_; intro v' w3 hown3 hgrow3 hnil3))
              obtain ⟨hz3, hl3⟩ := words_step M L k _ HR.out.1 HK.out HE.out
              have hb3 := (HB3.out.alloc HB3.out.size _).grown hgrow3 (by simp; have := HB3.out.size; omega) (fun i hi => (HR.out.2.1.lt i hi).1)
              have hr3 : w3.ownsRow w.heap.size 22 1 v' (k + 1) (u32s (wordsL M 0 (L.take (k + 1)))) := by rw [hl3, HWD.out]; simpa [u32s] using hown3
              clear hl3
              go_roundw
              case rel => exact ⟨k + 1, v', by omega, by go_num, rfl, hz3, hr3, hb3⟩
              case measure => simp [intOf]; omega
            · go_wp2_with fail
              refine HCC.out.mono ?_
              rintro e w4 ⟨rfl, hb4⟩
              have HB4 := ahid hb4
              clear hb4
              go_wp2_with fail
              go_ret2
              exact WordsOk.stop HR.out.1 HK.out HE0.out (by decide) (HR.out.2.2.trans (HB4.out.mono HR.out.2.2.size))
      · obtain rfl : k = L.length := by omega
        have hkL : ¬ ((L.length : Int) < L.length) := by omega
        go_wp2_with fail
        go_ret2
        have hz := HR.out.1
        have hr := HR.out.2.1
        rw [List.take_length] at hz hr
        exact ⟨ov, wordsL M 0 L, by rw [hz]; rfl, by rw [hz, if_pos rfl], by rw [wordsL_len]; exact hr, HR.out.2.2⟩
end Go.Proofs.YtacfdddghdnboaaGreatDoor
/- Walks of the package asm: far whatever it is given; Jump, Call. -/
namespace Go.Proofs.YtacfdddghdnboaaGreatDoor
open Go.RowKit Go.Maps
set_option linter.unusedVariables false
set_option linter.unusedSimpArgs false
/-- What far leaves. -/
def FarOk (w : World) (p : Nat) (sv : Value) (m : Nat) (K : Nat → Prop) (L : List It) (M : List (List UInt8 × Int)) (x : Ix) (nm : ByteArray) (e : Ending) (w' : World) : Prop :=
  if mayP x then e = .returned (.int .i64 0) ∧ AddOk w p sv m K L M [.far x nm] w' else e = .returned (.int .i64 2) ∧ Below w.heap.size w w'
set_option maxRecDepth 100000 in
set_option maxHeartbeats 1000000 in
theorem afar_any (w : World) (ht : Tab w) (p m : Nat) (sv : Value) (K : Nat → Prop) (L : List It) (M : List (List UInt8 × Int)) (h : AsmAt w p sv m K L M) (x : Ix) (hx : x.bd) (nm : ByteArray) (hs : nm.size ≤ maxLen) (hL : L.length < 4294967296) :
    Calls Tryz.prog 137 #[.pointer (some ⟨p, 0, none⟩), x.agg, .string nm] w (FarOk w p sv m K L M x nm) := by
  by_cases hm : mayP x
  · exact (afar_put w ht p m sv K L M h x hx hm nm hs hL).mono fun e w' hh => by unfold FarOk; rw [if_pos hm]; exact hh
  · have hE := fun W hW => encode_any x hx W hW
    rw [show encE x = 2 from if_neg hm] at hE
    have hfin : ∀ w', Below w.heap.size w w' → FarOk w p sv m K L M x nm (.returned (.int .i64 2)) w' := fun w' hb => by unfold FarOk; rw [if_neg hm]; exact ⟨rfl, hb⟩
    have HF := ahid hfin
    have HE := ahid hE
    have H := ahid h
    have HT := ahid ht
    clear h ht hfin hE hx hm hs
    obtain ⟨op, rd, rs1, rs2, is, imm⟩ := x
    go_enter Tryz.func137, Tryz.ntmps137
    go_wp2_with fail
    have hb1 : Below w.heap.size w ((w.alloc (.cells #[.int .u8 op, .int .u8 rd, .int .u8 rs1, .int .u8 rs2, .bool is, .int .i32 imm] 26)).alloc (.cells #[.string nm] 9)) := ((Below.refl _ _).alloc (Nat.le_refl _) _).alloc (by simp) _
    have d0 : ∀ (i : Nat) (u : Value), (Ix.mk op rd rs1 rs2 is imm).agg.cells[i]? = some u → ((w.alloc (.cells #[.int .u8 op, .int .u8 rd, .int .u8 rs1, .int .u8 rs2, .bool is, .int .i32 imm] 26)).alloc (.cells #[.string nm] 9)).cell? ⟨w.heap.size, i, none⟩ = some u := fun i u hu => by
      refine Lib.cell?_alloc_some _ ?_
      simp only [World.cell?, (MapKept.heap_alloc w _).1]
      simpa [Value.cells] using hu
    generalize (w.alloc (.cells #[.int .u8 op, .int .u8 rd, .int .u8 rs1, .int .u8 rs2, .bool is, .int .i32 imm] 26)).alloc (.cells #[.string nm] 9) = w1 at *
    have HA1 := ahid (H.out.keep (Only.of_below (S := fun _ => False) hb1) (fun _ _ h => h) (fun _ _ h => h))
    have HT1 := ahid (HT.out.keep hb1)
    have HB1 := ahid hb1
    clear hb1
    obtain ⟨_, c1, _, _⟩ := HA1.out.cells
    have e0 := d0 0 _ rfl
    have e1 := d0 1 _ rfl
    have e2 := d0 2 _ rfl
    have e3 := d0 3 _ rfl
    have e4 := d0 4 _ rfl
    have e5 := d0 5 _ rfl
    clear d0
    refine (anone_made w1 p m c1).mono ?_
    rintro e w' ⟨rfl, rfl⟩
    go_wp2_with fail
    refine (HE.out _ HT1.out).mono ?_
    rintro e w2 ⟨rfl, bl⟩
    have HB2 := ahid (HB1.out.trans (bl.mono HB1.out.size))
    clear bl
    go_wp2_with fail
    go_ret
    exact HF.out _ HB2.out
theorem jump_bd {c : Int} (h0 : 0 ≤ c) (h1 : c < 256) : (Ix.mk 17 c 0 0 true 0).bd := by unfold Ix.bd; simp only; omega
theorem call_bd : (Ix.mk 18 0 0 0 true 0).bd := by unfold Ix.bd; simp only; omega
theorem jump_may {c : Int} (h0 : 0 ≤ c) : mayP (Ix.mk 17 c 0 0 true 0) ↔ c ≤ 6 := by
  have hk : kindS 17 = 4 := by decide
  unfold mayP okS
  simp only [hk]
  constructor
  · intro h; have := h.2.2.2; simp at this; exact this
  · intro h; refine ⟨by omega, by omega, by omega, ?_⟩; simp; exact h
theorem call_may : mayP (Ix.mk 18 0 0 0 true 0) := by decide
set_option maxRecDepth 100000 in
theorem ajump_any (w : World) (ht : Tab w) (p m : Nat) (sv : Value) (K : Nat → Prop) (L : List It) (M : List (List UInt8 × Int)) (h : AsmAt w p sv m K L M) (c : Int) (hc0 : 0 ≤ c) (hc1 : c < 256) (nm : ByteArray) (hs : nm.size ≤ maxLen) (hL : L.length < 4294967296) :
    Calls Tryz.prog 75 #[.pointer (some ⟨p, 0, none⟩), .int .u8 c, .string nm] w (FarOk w p sv m K L M ⟨17, c, 0, 0, true, 0⟩ nm) := by
  have HC := ahid (afar_any w ht p m sv K L M h ⟨17, c, 0, 0, true, 0⟩ (jump_bd hc0 hc1) nm hs hL)
  clear h ht hs hL hc0 hc1
  go_enter Tryz.func75, Tryz.ntmps75
  go_wp2_with fail
  refine HC.out.mono ?_
  intro e w' hh
  have : e = .returned (.int .i64 (if mayP ⟨17, c, 0, 0, true, 0⟩ then 0 else 2)) := by unfold FarOk at hh; split at hh <;> simp_all
  subst this
  have HH := ahid hh
  clear hh
  generalize (if mayP ⟨17, c, 0, 0, true, 0⟩ then (0 : Int) else 2) = q at *
  go_wp2_with fail
  go_ret
  exact HH.out
set_option maxRecDepth 100000 in
theorem acall_any (w : World) (ht : Tab w) (p m : Nat) (sv : Value) (K : Nat → Prop) (L : List It) (M : List (List UInt8 × Int)) (h : AsmAt w p sv m K L M) (nm : ByteArray) (hs : nm.size ≤ maxLen) (hL : L.length < 4294967296) :
    Calls Tryz.prog 77 #[.pointer (some ⟨p, 0, none⟩), .string nm] w (FarOk w p sv m K L M ⟨18, 0, 0, 0, true, 0⟩ nm) := by
  have HC := ahid (afar_any w ht p m sv K L M h ⟨18, 0, 0, 0, true, 0⟩ call_bd nm hs hL)
  clear h ht hs hL
  go_enter Tryz.func77, Tryz.ntmps77
  go_wp2_with fail
  refine HC.out.mono ?_
  intro e w' hh
  have : e = .returned (.int .i64 (if mayP ⟨18, 0, 0, 0, true, 0⟩ then 0 else 2)) := by unfold FarOk at hh; split at hh <;> simp_all
  subst this
  have HH := ahid hh
  clear hh
  generalize (if mayP ⟨18, 0, 0, 0, true, 0⟩ then (0 : Int) else 2) = q at *
  go_wp2_with fail
  go_ret
  exact HH.out
theorem ajump_none (w : World) (a : Value) (c : Int) (nm : ByteArray) (hn : ∀ W, Below w.heap.size w W → Calls Tryz.prog 74 #[a] W fun e w' => e = .returned (.bool true) ∧ W = w') :
    Calls Tryz.prog 75 #[a, .int .u8 c, .string nm] w fun e w' => e = .returned (.int .i64 1) ∧ Below w.heap.size w w' := by
  have HC := ahid (afar_none w a ⟨17, c, 0, 0, true, 0⟩ nm hn)
  clear hn
  go_enter Tryz.func75, Tryz.ntmps75
  go_wp2_with fail
  refine HC.out.mono ?_
  rintro e w' ⟨rfl, hb⟩
  have HB := ahid hb
  clear hb
  go_wp2_with fail
  go_ret
  exact ⟨rfl, HB.out⟩
theorem acall_none (w : World) (a : Value) (nm : ByteArray) (hn : ∀ W, Below w.heap.size w W → Calls Tryz.prog 74 #[a] W fun e w' => e = .returned (.bool true) ∧ W = w') :
    Calls Tryz.prog 77 #[a, .string nm] w fun e w' => e = .returned (.int .i64 1) ∧ Below w.heap.size w w' := by
  have HC := ahid (afar_none w a ⟨18, 0, 0, 0, true, 0⟩ nm hn)
  clear hn
  go_enter Tryz.func77, Tryz.ntmps77
  go_wp2_with fail
  refine HC.out.mono ?_
  rintro e w' ⟨rfl, hb⟩
  have HB := ahid hb
  clear hb
  go_wp2_with fail
  go_ret
  exact ⟨rfl, HB.out⟩
end Go.Proofs.YtacfdddghdnboaaGreatDoor
/- Walks of the package asm: Const. -/
namespace Go.Proofs.YtacfdddghdnboaaGreatDoor
open Go.RowKit Go.Maps
set_option linter.unusedVariables false
set_option linter.unusedSimpArgs false
/-- A constant's instructions. -/
def partsS (rd w : Int) : List Ix :=
  if -16384 ≤ sgn w 2147483648 ∧ sgn w 2147483648 < 16384 then [⟨1, rd, 0, 0, true, sgn w 2147483648⟩]
  else if w % 2048 = 0 then [⟨15, rd, 0, 0, true, w / 2048⟩] else [⟨15, rd, 0, 0, true, w / 2048⟩, ⟨7, rd, rd, 0, true, w % 2048⟩]
theorem sgn32 {w : Int} (h0 : 0 ≤ w) (h1 : w < 4294967296) : wrap32 w = sgn w 2147483648 := by unfold wrap32 sgn; split <;> omega
theorem parts_bd {rd w : Int} (r0 : 0 ≤ rd) (r1 : rd < 256) (h0 : 0 ≤ w) (h1 : w < 4294967296) : ∀ x ∈ partsS rd w, x.bd := by
  unfold partsS
  intro x hx
  split at hx
  · simp only [List.mem_cons, List.not_mem_nil, or_false] at hx
    subst hx; unfold Ix.bd; simp only; omega
  · split at hx
    · simp only [List.mem_cons, List.not_mem_nil, or_false] at hx
      subst hx; unfold Ix.bd; simp only; omega
    · simp only [List.mem_cons, List.not_mem_nil, or_false] at hx
      rcases hx with rfl | rfl <;> (unfold Ix.bd; simp only; omega)
theorem parts_len (rd w : Int) : (partsS rd w).length ≤ 2 := by
  unfold partsS; split
  · simp
  · split <;> simp
/-- An instruction's cells. -/
def Ix.cells (x : Ix) : List Value := [.int .u8 x.op, .int .u8 x.rd, .int .u8 x.rs1, .int .u8 x.rs2, .bool x.is, .int .i32 x.imm]
theorem Ix.cells_len (x : Ix) : x.cells.length = 6 := rfl
theorem InsAt.of_cells {w : World} {b o : Nat} {x : Ix} (hx : x.bd) (h : ∀ j u, x.cells[j]? = some u → w.cell? ⟨b, o + j, none⟩ = some u) : InsAt w b o x :=
  ⟨h 0 _ rfl, h 1 _ rfl, h 2 _ rfl, h 3 _ rfl, h 4 _ rfl, h 5 _ rfl, hx⟩
theorem InsIn.of_row {w : World} {p : Nat} {cap : Nat} {l : List Ix} (hb : ∀ x ∈ l, x.bd) (hm : l.length ≤ maxLen) (h : ∀ (j : Nat) u, (l.flatMap Ix.cells)[j]? = some u → w.cell? ⟨p, j, none⟩ = some u) : InsIn w (.slice (some ⟨p, 0, none⟩) l.length cap) l := by
  refine ⟨hm, _, cap, p, 0, rfl, fun _ => rfl, fun k x hx => InsAt.of_cells (hb x (List.mem_of_getElem? hx)) fun j u hu => ?_⟩
  rw [Nat.zero_add]
  refine h _ _ ?_
  have hj : j < 6 := by
    rcases Nat.lt_or_ge j 6 with h | h
    · exact h
    · rw [List.getElem?_eq_none (by rw [Ix.cells_len]; exact h)] at hu; cases hu
  rw [flat_get Ix.cells 6 Ix.cells_len l k j x hx hj]; exact hu
theorem InsIn.of_own {w : World} {B : Nat} {v : Value} {l : List Ix} (hb : ∀ x ∈ l, x.bd) (hm : l.length ≤ maxLen) (h : w.ownsRow B 26 6 v l.length (l.flatMap Ix.cells)) : InsIn w v l := by
  rcases h.2 with ⟨rfl, h0⟩ | ⟨g, cap, cur, rfl, _⟩
  · refine ⟨hm, none, 0, 0, 0, by rw [h0], fun hh => by omega, fun k x hx => ?_⟩
    rw [List.eq_nil_of_length_eq_zero h0] at hx; simp at hx
  · refine InsIn.of_row hb hm fun j u hu => ?_
    have := h.cells rfl j u hu
    rw [addr_add0] at this
    exact this
theorem PutOk.ending {w w' : World} {p m : Nat} {sv : Value} {K : Nat → Prop} {L : List It} {M : List (List UInt8 × Int)} {l : List Ix} {e : Ending} (h : PutOk w p sv m K L M l e w') : ∃ q, e = .returned (.int .i64 q) := by
  unfold PutOk at h; split at h
  · exact ⟨_, h.1⟩
  · exact ⟨_, h.1⟩
theorem PutOk.of_below {w w1 w' : World} {p m : Nat} {sv : Value} {K : Nat → Prop} {L : List It} {M : List (List UInt8 × Int)} {l : List Ix} {e : Ending} (hb : Below w.heap.size w w1) (h : PutOk w1 p sv m K L M l e w') : PutOk w p sv m K L M l e w' := by
  unfold PutOk at h ⊢
  split at h
  · rw [if_pos ‹_›]; exact ⟨h.1, h.2.of_below hb⟩
  · rw [if_neg ‹_›]; exact ⟨h.1, hb.trans (h.2.mono hb.size)⟩
theorem InsIn.one {x : Ix} (hb : ∀ y ∈ [x], y.bd) (w : World) : InsIn (w.alloc (.cells #[.int .u8 x.op, .int .u8 x.rd, .int .u8 x.rs1, .int .u8 x.rs2, .bool x.is, .int .i32 x.imm] 26)) (.slice (some ⟨w.heap.size, 0, none⟩) 1 1) [x] :=
  InsIn.of_row (l := [x]) hb (by simp [maxLen]) fun j u hu => by
    simp only [World.cell?, (MapKept.heap_alloc w _).1]
    simpa [Ix.cells] using hu
theorem infoi : (Tryz.prog.info? 26).map (fun i => (i.zero, i.size, i.bytes)) = some (some (.agg #[.int .u8 0, .int .u8 0, .int .u8 0, .int .u8 0, .bool false, .int .i32 0]), 6, 12) := by kernel_rfl
set_option maxRecDepth 100000 in
set_option maxHeartbeats 1000000 in
theorem aconst_gen (w : World) (a : Value) (rd n : Int) (r0 : 0 ≤ rd) (r1 : rd < 256) (h0 : 0 ≤ n) (h1 : n < 4294967296) (Q : Ending → World → Prop)
    (hQ : ∀ (w1 : World), Below w.heap.size w w1 → ∀ (v : Value), InsIn w1 v (partsS rd n) → Calls Tryz.prog 73 #[a, v] w1 (fun e w' => (∃ q, e = .returned (.int .i64 q)) ∧ Q e w')) :
    Calls Tryz.prog 39 #[a, .int .u8 rd, .int .u32 n] w Q := by
  have hbd := parts_bd r0 r1 h0 h1
  have hsg := sgn32 h0 h1
  have HA := ahid hQ
  clear hQ
  by_cases hs : -16384 ≤ sgn n 2147483648 ∧ sgn n 2147483648 < 16384
  · have hp : partsS rd n = [⟨1, rd, 0, 0, true, sgn n 2147483648⟩] := if_pos hs
    rw [hp] at HA hbd
    have t1 := hs.1
    have t2 := hs.2
    rw [← hsg] at HA hbd t1 t2
    have HB := ahid hbd
    clear hbd hs hp hsg
    go_enter Tryz.func39, Tryz.ntmps39
    go_wp2_with fail
    refine (HA.out _ ((Below.refl _ _).alloc (Nat.le_refl _) _) _ (InsIn.one HB.out w)).mono ?_
    rintro e w' ⟨hx, hh⟩
    obtain ⟨q, rfl⟩ := hx
    have HH := ahid hh
    clear hh
    go_wp2_with fail
    exact HH.out
  · have hand : bits .and .u32 n 2047 = n % 2048 := and_mod 11 2047 (by omega) (by decide) h0 h1
    by_cases hz : n % 2048 = 0
    · have hp : partsS rd n = [⟨15, rd, 0, 0, true, n / 2048⟩] := by unfold partsS; rw [if_neg hs, if_pos hz]
      rw [hp] at HA hbd
      rw [hz] at hand
      rw [← hsg] at hs
      have HB := ahid hbd
      clear hbd hp hsg hz
      by_cases t1 : -16384 ≤ wrap32 n
      · have t2 : ¬ (wrap32 n < 16384) := fun h => hs ⟨t1, h⟩
        clear hs
        go_enter Tryz.func39, Tryz.ntmps39
        go_wp2_with fail
        refine (HA.out _ ((Below.refl _ _).alloc (Nat.le_refl _) _) _ (InsIn.one HB.out w)).mono ?_
        rintro e w' ⟨hx, hh⟩
        obtain ⟨q, rfl⟩ := hx
        have HH := ahid hh
        clear hh
        go_wp2_with fail
        exact HH.out
      · clear hs
        go_enter Tryz.func39, Tryz.ntmps39
        go_wp2_with fail
        refine (HA.out _ ((Below.refl _ _).alloc (Nat.le_refl _) _) _ (InsIn.one HB.out w)).mono ?_
        rintro e w' ⟨hx, hh⟩
        obtain ⟨q, rfl⟩ := hx
        have HH := ahid hh
        clear hh
        go_wp2_with fail
        exact HH.out
    · have hp : partsS rd n = [⟨15, rd, 0, 0, true, n / 2048⟩, ⟨7, rd, rd, 0, true, n % 2048⟩] := by unfold partsS; rw [if_neg hs, if_neg hz]
      rw [hp] at HA hbd
      rw [← hsg] at hs
      have HB := ahid hbd
      have hm0 : 0 < n % 2048 := by omega
      have hm1 : n % 2048 < 2048 := by omega
      have hq : wrap32 (n % 2048) = n % 2048 := by unfold wrap32; omega
      clear hbd hp hsg hz
      generalize n % 2048 = r at *
      obtain ⟨i0, hi, hz0, hz1, hz2⟩ := info_parts infoi
      have hown := own_new w w.heap.size #[.int .u8 15, .int .u8 rd, .int .u8 0, .int .u8 0, .bool true, .int .i32 (n / 2048)] 26 1 6 rfl (by simp [maxLen]) (Nat.le_refl _)
      have hcn := cells_new (w.alloc (.cells #[.int .u8 15, .int .u8 rd, .int .u8 0, .int .u8 0, .bool true, .int .i32 (n / 2048)] 26)) #[.int .u8 7, .int .u8 rd, .int .u8 rd, .int .u8 0, .bool true, .int .i32 r] 26
      rw [show (w.alloc (.cells #[.int .u8 15, .int .u8 rd, .int .u8 0, .int .u8 0, .bool true, .int .i32 (n / 2048)] 26)).heap.size = w.heap.size + 1 by simp] at hcn
      have HO := ahid (And.intro hown hcn)
      clear hown hcn
      have hfin : ∀ v' w3, w3.ownsRow w.heap.size 26 6 v' 2 ([Value.int .u8 15, .int .u8 rd, .int .u8 0, .int .u8 0, .bool true, .int .i32 (n / 2048)] ++ [.int .u8 7, .int .u8 rd, .int .u8 rd, .int .u8 0, .bool true, .int .i32 r]) → ((w.alloc (.cells #[.int .u8 15, .int .u8 rd, .int .u8 0, .int .u8 0, .bool true, .int .i32 (n / 2048)] 26)).alloc (.cells #[.int .u8 7, .int .u8 rd, .int .u8 rd, .int .u8 0, .bool true, .int .i32 r] 26)).grownBy w3 (some w.heap.size) →
          Below w.heap.size w w3 ∧ InsIn w3 v' [⟨15, rd, 0, 0, true, n / 2048⟩, ⟨7, rd, rd, 0, true, r⟩] := fun v' w3 ho hg =>
        ⟨(((Below.refl _ w).alloc (Nat.le_refl _) _).alloc (by simp) _).grown hg (by simp; omega) (fun k hk => by cases hk; exact Nat.le_refl _), InsIn.of_own (B := w.heap.size) HB.out (by simp [maxLen]) ho⟩
      have HF := ahid hfin
      clear hfin
      by_cases t1 : -16384 ≤ wrap32 n
      all_goals
        first | (have t2 : ¬ (wrap32 n < 16384) := fun h => hs ⟨t1, h⟩) | skip
        clear hs
        go_enter Tryz.func39, Tryz.ntmps39
        go_wp2_with (first | (at_builtin; refine wpList_append_own _ rfl _ _ 27 rfl w.heap.size 26 i0 _ 6 12 Tryz.underlying27 hi hz0 hz1 hz2 rfl (by decide) (.slice (some ⟨w.heap.size, 0, none⟩) 1 1) 1 _ rfl (HO.out.1.alloc _) ⟨w.heap.size + 1, 0, none⟩ 1 1 [.int .u8 7, .int .u8 rd, .int .u8 rd, .int .u8 0, .bool true, .int .i32 r] rfl rfl HO.out.2 (by simp [Value.oneCell']) (by simp [maxLen]) (by omega) (by simp; omega) ?_; intro v' w3 hown3 hgrow3 hnil3))
        obtain ⟨hb3, hv3⟩ := HF.out v' w3 hown3 hgrow3
        have HB3 := ahid hb3
        refine (HA.out _ hb3 _ hv3).mono ?_
        clear hown3 hgrow3 hnil3 hb3 hv3
        rintro e w' ⟨hx, hh⟩
        obtain ⟨q, rfl⟩ := hx
        have HH := ahid hh
        clear hh
        go_wp2_with fail
        exact HH.out
theorem aconst_any (w : World) (ht : Tab w) (p m : Nat) (sv : Value) (K : Nat → Prop) (L : List It) (M : List (List UInt8 × Int)) (h : AsmAt w p sv m K L M) (rd n : Int) (r0 : 0 ≤ rd) (r1 : rd < 256) (h0 : 0 ≤ n) (h1 : n < 4294967296) (hL : L.length + 2 < 4294967296) :
    Calls Tryz.prog 39 #[.pointer (some ⟨p, 0, none⟩), .int .u8 rd, .int .u32 n] w (PutOk w p sv m K L M (partsS rd n)) :=
  aconst_gen w _ rd n r0 r1 h0 h1 _ fun w1 hb v hv => (aput_any w1 (ht.keep hb) p m sv K L M (h.keep (Only.of_below (S := fun _ => False) hb) (fun _ _ h => h) (fun _ _ h => h)) v _ hv (by have := parts_len rd n; omega)).mono fun e w' hh => ⟨hh.ending, hh.of_below hb⟩
theorem aconst_none (w : World) (a : Value) (rd n : Int) (r0 : 0 ≤ rd) (r1 : rd < 256) (h0 : 0 ≤ n) (h1 : n < 4294967296) (hn : ∀ W, Below w.heap.size w W → Calls Tryz.prog 74 #[a] W fun e w' => e = .returned (.bool true) ∧ W = w') :
    Calls Tryz.prog 39 #[a, .int .u8 rd, .int .u32 n] w fun e w' => e = .returned (.int .i64 1) ∧ Below w.heap.size w w' :=
  aconst_gen w _ rd n r0 r1 h0 h1 _ fun w1 hb v hv => (aput_none w1 a v (fun W hW => hn W (hb.trans (hW.mono hb.size)))).mono fun e w' hh => ⟨⟨_, hh.1⟩, hh.1, hh.2 ▸ hb⟩
end Go.Proofs.YtacfdddghdnboaaGreatDoor
