/- Several texts in one: AsmMark, AsmNew, AsmFar. -/
import Derived.Test.YtfbbodaapkfbdaaDoorG10
import Derived.Test.YtfbbodaapkfbdaaDoorG05
import Derived.StillTailTactics
import Derived.WalkArith
/- Walks of the package asm: New, Mark. -/
namespace Go.Proofs.YtfbbodaapkfbdaaDoor
open Go.RowKit Go.Maps
set_option linter.unusedVariables false
set_option linter.unusedSimpArgs false
theorem AsmAt.mark {w w1 : World} {p m : Nat} {sv : Value} {K : Nat → Prop} {L : List It} {M : List (List UInt8 × Int)} {D : DataW Unit} (h : AsmAt w p sv m K L M) (g : w.grownBy w1 (some m)) (nm : List UInt8) (n : Int)
    (o : w1.ownsMap Tryd.prog 9 (plainElem Tryd.prog 3) m (M.length + 1) (D.put (.string nm) (.lit (.int .i64 n)))) (hD : MarkD D M) (hn : look M nm = none) : AsmAt w1 p sv m K L (M ++ [(nm, n)]) := by
  have on : Only (fun k => k = m) w w1 := (Only.refl _ w).grown g (fun k hk _ => by cases hk; rfl)
  obtain ⟨h1, ⟨vs, h2, h3, h4⟩, _, h7, h8⟩ := h
  refine ⟨on.obj h1 h7.1, ⟨vs, ⟨h2.1, ?_⟩, h3, fun i v it hv hi => (h4 i v it hv hi).keep on (fun k hk => (h8 k hk).2.2) (fun _ _ h => h)⟩, ⟨_, by rw [List.length_append]; exact o, hD.put nm n hn⟩, h7, h8⟩
  rcases h2.2 with h | ⟨g, cap, cur, e1, e2, e3, e4⟩
  · exact .inl h
  · refine .inr ⟨g, cap, cur, e1, e2, on.obj e3 ?_, e4⟩
    intro e
    subst e
    exact h7.2.2 (by rw [e1]; rfl)
theorem amark_none (w : World) (a : Value) (nm : ByteArray) (hn : Calls Tryd.prog 30 #[a] w fun e w' => e = .returned (.bool true) ∧ w = w') :
    Calls Tryd.prog 10 #[a, .string nm] w fun e w' => e = .returned (.int .i64 1) ∧ w = w' := by
  go_enter Tryd.func10, Tryd.ntmps10
  go_wp2_with fail
  refine hn.mono ?_
  rintro e w' ⟨rfl, rfl⟩
  go_wp2_with fail
  go_ret
  exact ⟨rfl, rfl⟩
theorem amark_twice (w : World) (p m : Nat) (sv : Value) (K : Nat → Prop) (L : List It) (M : List (List UInt8 × Int)) (h : AsmAt w p sv m K L M) (nm : ByteArray) (hs : nm.size ≤ maxLen) (n : Int) (hl : look M nm.data.toList = some n) :
    Calls Tryd.prog 10 #[.pointer (some ⟨p, 0, none⟩), .string nm] w fun e w' => e = .returned (.int .i64 9) ∧ w = w' := by
  obtain ⟨c0, c1, f0, f1⟩ := h.cells
  have hn := anone_made w p m c1
  have hk := h.lookup nm hs
  rw [hl] at hk
  simp only [Option.getD_some, Option.isSome_some] at hk
  go_enter Tryd.func10, Tryd.ntmps10
  go_wp2_with fail
  refine hn.mono ?_
  rintro e w' ⟨rfl, rfl⟩
  go_wp2_with fail
  go_ret
  exact ⟨rfl, rfl⟩
/-- What a mark leaves. -/
def MarkOk (w : World) (p m : Nat) (sv : Value) (K : Nat → Prop) (L : List It) (M : List (List UInt8 × Int)) (nm : ByteArray) (e : Ending) (w' : World) : Prop :=
  e = .returned (.int .i64 0) ∧ AsmAt w' p sv m K L (M ++ [(nm.data.toList, (L.length : Int))]) ∧ Only (fun k => k = m) w w'
set_option maxRecDepth 100000 in
set_option maxHeartbeats 1000000 in
theorem amark_new (w : World) (p m : Nat) (sv : Value) (K : Nat → Prop) (L : List It) (M : List (List UInt8 × Int)) (h : AsmAt w p sv m K L M) (nm : ByteArray) (hs : nm.size ≤ maxLen) (hM : M.length < maxLen) (hL : L.length < 9223372036854775808) (hl : look M nm.data.toList = none) :
    Calls Tryd.prog 10 #[.pointer (some ⟨p, 0, none⟩), .string nm] w (MarkOk w p m sv K L M nm) := by
  obtain ⟨c0, c1, f0, f1⟩ := h.cells
  have hn := anone_made w p m c1
  have hk := h.lookup nm hs
  rw [hl] at hk
  simp only [Option.getD_none, Option.isSome_none] at hk
  obtain ⟨D, hown, hD⟩ := h.marks
  have H := ahid h
  have HO := ahid hown
  clear h hown
  rcases H.out.slice with ⟨rfl, hl0⟩ | ⟨g, cap, rfl, hcap, hcap2⟩
  · have e0 : (L.length : Int) = 0 := by omega
    unfold MarkOk
    rw [e0]
    go_enter Tryd.func10, Tryd.ntmps10
    go_wp2_with fail
    refine hn.mono ?_
    rintro e w' ⟨rfl, rfl⟩
    go_wp2_with fail
    go_still_tail 10, (by kernel_rfl)
    change wpList _ _ _ _ _ w.drew
    have HM2 := H.out.keep ((Only.refl (fun _ => False) w).drew) (fun _ _ h => h) (fun _ _ h => h)
    have HO2 := HO.out.drew
    have HB := ahid ((Only.refl (fun k => k = m) w).drew)
    generalize w.drew = w2 at HM2 HO2 HB ⊢
    have HA := ahid HM2
    clear HM2 c0 c1 f0 f1 hn hk
    go_wp2_with (first | (at_mapUpdate; refine wpList_mapUpdate_own _ rfl _ _ _ 78 rfl 9 3 (string_keyed Tryd.underlying9) Tryd.underlying78 _ m M.length D rfl HO2 hM _ _ (.string nm.data.toList) rfl rfl (WideMaps.keyOf_string_mk Tryd.underlying9 hs) (.lit (.int .i64 0)) [] (plainElem_int Tryd.underlying3 (by decide)) ?_))
    intro w3 ho3 hg3
    have HA3 := HA.out.mark hg3 nm.data.toList _ ho3 hD hl
    have HB3 := HB.out.grown hg3 (fun k hk _ => by cases hk; rfl)
    clear ho3 hg3 HO2 HA HB
    go_wp2_with fail
    go_ret
    exact ⟨rfl, HA3, HB3⟩
  · have hwf : (Lit.int .i64 (L.length : Int)).wf = true := WalkArith.wf_i64 (by omega)
    go_enter Tryd.func10, Tryd.ntmps10
    go_wp2_with fail
    refine hn.mono ?_
    rintro e w' ⟨rfl, rfl⟩
    go_wp2_with fail
    go_still_tail 10, (by kernel_rfl)
    change wpList _ _ _ _ _ w.drew
    have HM2 := H.out.keep ((Only.refl (fun _ => False) w).drew) (fun _ _ h => h) (fun _ _ h => h)
    have HO2 := HO.out.drew
    have HB := ahid ((Only.refl (fun k => k = m) w).drew)
    generalize w.drew = w2 at HM2 HO2 HB ⊢
    have HA := ahid HM2
    clear HM2 c0 c1 f0 f1 hn hk
    go_wp2_with (first | (at_mapUpdate; refine wpList_mapUpdate_own _ rfl _ _ _ 78 rfl 9 3 (string_keyed Tryd.underlying9) Tryd.underlying78 _ m M.length D rfl HO2 hM _ _ (.string nm.data.toList) rfl rfl (WideMaps.keyOf_string_mk Tryd.underlying9 hs) (.lit (.int .i64 L.length)) [] (plainElem_int Tryd.underlying3 hwf) ?_))
    intro w3 ho3 hg3
    have HA3 := HA.out.mark hg3 nm.data.toList _ ho3 hD hl
    have HB3 := HB.out.grown hg3 (fun k hk _ => by cases hk; rfl)
    clear ho3 hg3 HO2 HA HB
    go_wp2_with fail
    go_ret
    exact ⟨rfl, HA3, HB3⟩
end Go.Proofs.YtfbbodaapkfbdaaDoor
/- Walks of the package asm: New; what a function value makes. -/
namespace Go.Proofs.YtfbbodaapkfbdaaDoor
open Go.RowKit Go.Maps
set_option linter.unusedVariables false
set_option linter.unusedSimpArgs false
theorem anew_any (w : World) :
    Calls Tryd.prog 8 #[] w fun e w' => ∃ p m, e = .returned (.pointer (some ⟨p, 0, none⟩)) ∧ w.heap.size ≤ p ∧ w.heap.size ≤ m ∧ AsmAt w' p (.slice none 0 0) m (fun _ => False) [] [] ∧ Below w.heap.size w w' := by
  have hmm := @run_makeMap Tryd.prog
  go_enter Tryd.func8, Tryd.ntmps8
  go_wp2
  go_ret
  refine ⟨w.heap.size + 1, w.heap.size, rfl, by omega, by omega, ⟨?_, ⟨[], ⟨rfl, .inl ⟨rfl, rfl⟩⟩, rfl, fun i v it hv => by simp at hv⟩, ⟨.map [], ?_, MarkD.nil⟩, ⟨by omega, by simp [Value.ownBlock], by simp [Value.ownBlock]⟩, fun k hk => hk.elim⟩, ?_⟩
  · have h := (MapKept.heap_alloc (w.alloc (.map #[] 0)) (.cells #[.slice none 0 0, .map (some w.heap.size)] 81)).1
    rw [show (w.alloc (.map #[] 0)).heap.size = w.heap.size + 1 by simp] at h
    exact h
  · exact (World.ownsMap_made w _ _ _).alloc _
  · exact ((Below.refl _ _).alloc (Nat.le_refl _) _).alloc (by simp) _
/-- What was put: its word. -/
theorem aput1_any (w : World) (K : Nat → Prop) (v : Value) (x : Ix) (h : CloAt w K v (.put x)) (at' : Int) (mv : Value) (c : Nat) (hv : v = .func (.func 71) #[] #[.pointer (some ⟨c, 0, none⟩)]) (hc : w.cell? ⟨c, 0, none⟩ = some (.int .u32 (encS x))) :
    Calls Tryd.prog 71 #[.int .i64 at', mv, .pointer (some ⟨c, 0, none⟩)] w fun e w' => e = .returned (.tuple #[.int .u32 (encS x), .int .i64 0]) ∧ w = w' := by
  clear h hv
  generalize encS x = n at *
  go_enter Tryd.func71, Tryd.ntmps71
  go_wp2
  go_ret2
  exact ⟨rfl, rfl⟩
end Go.Proofs.YtfbbodaapkfbdaaDoor
/- Walks of the package asm: what a function value of far makes. -/
namespace Go.Proofs.YtfbbodaapkfbdaaDoor
open Go.RowKit Go.Maps
set_option linter.unusedVariables false
set_option linter.unusedSimpArgs false
/-- An instruction that goes d far: word, answer. -/
def farW (x : Ix) (d : Int) : Int := if mayP { x with imm := d } ∧ -2147483648 ≤ d ∧ d < 2147483648 then encS { x with imm := d } else 0
def farE (x : Ix) (d : Int) : Int := if mayP { x with imm := d } ∧ -2147483648 ≤ d ∧ d < 2147483648 then 0 else 50
theorem aret2 {k l : IntKind} {a b c d : Int} (h : a = b) (g : c = d) : Ending.returned (.tuple #[.int k a, .int l c]) = .returned (.tuple #[.int k b, .int l d]) := by rw [h, g]
theorem i32w (d : Int) : (-2147483648 ≤ wrap32 d ∧ wrap32 d < 2147483648) ∧ (wrap32 d = d ↔ -2147483648 ≤ d ∧ d < 2147483648) := by
  unfold wrap32
  exact ⟨⟨by omega, by omega⟩, fun h => by omega, fun h => by omega⟩
theorem afar1_lost (w : World) (p m : Nat) (sv : Value) (K : Nat → Prop) (L : List It) (M : List (List UInt8 × Int)) (h : AsmAt w p sv m K L M) (at' : Int) (nm : ByteArray) (hs : nm.size ≤ maxLen) (c d : Nat) (hc : w.cell? ⟨c, 0, none⟩ = some (.string nm)) (hl : look M nm.data.toList = none) :
    Calls Tryd.prog 83 #[.int .i64 at', .map (some m), .pointer (some ⟨c, 0, none⟩), .pointer (some ⟨d, 0, none⟩)] w fun e w' => e = .returned (.tuple #[.int .u32 0, .int .i64 7]) ∧ w = w' := by
  have hk := h.lookup nm hs
  rw [hl] at hk
  simp only [Option.getD_none, Option.isSome_none] at hk
  clear h
  go_enter Tryd.func83, Tryd.ntmps83
  go_wp2_with fail
  go_ret2
  exact ⟨rfl, rfl⟩
set_option maxRecDepth 100000 in
set_option maxHeartbeats 1000000 in
theorem afar1_there (w : World) (ht : Tab w) (p m : Nat) (sv : Value) (K : Nat → Prop) (L : List It) (M : List (List UInt8 × Int)) (h : AsmAt w p sv m K L M) (at' : Int) (nm : ByteArray) (hs : nm.size ≤ maxLen) (c d : Nat) (hc : w.cell? ⟨c, 0, none⟩ = some (.string nm))
    (x : Ix) (hx : x.bd) (hd : ∀ (i : Nat) (u : Value), x.agg.cells[i]? = some u → w.cell? ⟨d, i, none⟩ = some u) (to : Int) (hl : look M nm.data.toList = some to) (hwb : -9223372036854775808 ≤ to - at' ∧ to - at' ≤ 9223372036854775807) :
    Calls Tryd.prog 83 #[.int .i64 at', .map (some m), .pointer (some ⟨c, 0, none⟩), .pointer (some ⟨d, 0, none⟩)] w fun e w' => e = .returned (.tuple #[.int .u32 (farW x (to - at')), .int .i64 (farE x (to - at'))]) ∧ Below w.heap.size w w' := by
  have hk := h.lookup nm hs
  rw [hl] at hk
  simp only [Option.getD_some, Option.isSome_some] at hk
  have d0 := hd 0 _ rfl
  have d1 := hd 1 _ rfl
  have d2 := hd 2 _ rfl
  have d3 := hd 3 _ rfl
  have d4 := hd 4 _ rfl
  have d5 := hd 5 _ rfl
  obtain ⟨op, rd, rs1, rs2, is, imm⟩ := x
  have HX := ahid hx
  have hw : IntKind.i64.wrap (to - at') = to - at' := IntWalk.i64_in _ (by omega)
  have hw64 : wrap64 (to - at') = to - at' := by unfold wrap64; omega
  clear hwb
  have HT := ahid ht
  clear h hd hl hx ht
  go_enter Tryd.func83, Tryd.ntmps83
  go_wp2_with fail
  generalize hq : wrap32 (to - at') = q
  have hq2 := i32w (to - at')
  rw [hq] at hq2
  have hb2 : Below w.heap.size w (w.alloc (.cells #[.int .u8 op, .int .u8 rd, .int .u8 rs1, .int .u8 rs2, .bool is, .int .i32 q] 50)) := (Below.refl _ _).alloc (Nat.le_refl _) _
  have hy : (Ix.mk op rd rs1 rs2 is q).bd := ⟨HX.out.1, HX.out.2.1, HX.out.2.2.1, HX.out.2.2.2.1, hq2.1⟩
  have hE := encode_any ⟨op, rd, rs1, rs2, is, q⟩ hy _ (HT.out.keep hb2)
  have cq : (w.alloc (.cells #[.int .u8 op, .int .u8 rd, .int .u8 rs1, .int .u8 rs2, .bool is, .int .i32 q] 50)).cell? ⟨w.heap.size, 5, none⟩ = some (.int .i32 q) := by simp [go_sem]
  have HB2 := ahid hb2
  have HQ := ahid hq2
  clear hq2
  clear hb2 hy hq d0 d1 d2 d3 d4 d5 hk hc
  generalize w.alloc (.cells #[.int .u8 op, .int .u8 rd, .int .u8 rs1, .int .u8 rs2, .bool is, .int .i32 q] 50) = w2 at *
  refine hE.mono ?_
  rintro e w3 ⟨rfl, bl⟩
  have cq3 := (bl.cell (p := ⟨w.heap.size, 5, none⟩) (World.block_lt_of_cell? _ _ cq)).trans cq
  have HB3 := ahid (HB2.out.trans (bl.mono HB2.out.size))
  clear bl hE cq HB2
  have hq64 : wrap64 q = q := by have := HQ.out.1; unfold wrap64; omega
  by_cases hm : mayP ⟨op, rd, rs1, rs2, is, q⟩
  · have he : encE ⟨op, rd, rs1, rs2, is, q⟩ = 0 := if_pos hm
    rw [he]
    by_cases hqD : q = to - at'
    · have hfw : encS ⟨op, rd, rs1, rs2, is, q⟩ = farW ⟨op, rd, rs1, rs2, is, imm⟩ (to - at') := by
        unfold farW; rw [if_pos ⟨hqD ▸ hm, HQ.out.2.1 hqD⟩, hqD]
      have hfe : (0 : Int) = farE ⟨op, rd, rs1, rs2, is, imm⟩ (to - at') := by
        unfold farE; rw [if_pos ⟨hqD ▸ hm, HQ.out.2.1 hqD⟩]
      have HF := ahid (And.intro hfw hfe)
      clear hfw hfe hm he
      generalize encS ⟨op, rd, rs1, rs2, is, q⟩ = W at *
      have hb : (q != to - at') = false := by simpa using hqD
      clear hqD
      go_wp2_with fail
      go_ret2
      exact ⟨aret2 HF.out.1 HF.out.2, HB3.out⟩
    · have hn : ¬ (mayP { (Ix.mk op rd rs1 rs2 is imm) with imm := to - at' } ∧ -2147483648 ≤ to - at' ∧ to - at' < 2147483648) := fun h => hqD (HQ.out.2.2 h.2)
      have hfw : (0 : Int) = farW ⟨op, rd, rs1, rs2, is, imm⟩ (to - at') := by unfold farW; rw [if_neg hn]
      have hfe : (50 : Int) = farE ⟨op, rd, rs1, rs2, is, imm⟩ (to - at') := by unfold farE; rw [if_neg hn]
      have HF := ahid (And.intro hfw hfe)
      have hb2 : (q != to - at') = true := by simpa using hqD
      have hb : (q == to - at') = false := by simpa using hqD
      clear hfw hfe hm he hn
      generalize encS ⟨op, rd, rs1, rs2, is, q⟩ = W at *
      go_wp2_with fail
      go_ret2
      exact ⟨aret2 HF.out.1 HF.out.2, HB3.out⟩
  · have he : encE ⟨op, rd, rs1, rs2, is, q⟩ = 2 := if_neg hm
    rw [he]
    have hn : ¬ (mayP { (Ix.mk op rd rs1 rs2 is imm) with imm := to - at' } ∧ -2147483648 ≤ to - at' ∧ to - at' < 2147483648) := fun h => by
      have := HQ.out.2.2 h.2
      exact hm (this ▸ h.1)
    have hfw : (0 : Int) = farW ⟨op, rd, rs1, rs2, is, imm⟩ (to - at') := by unfold farW; rw [if_neg hn]
    have hfe : (50 : Int) = farE ⟨op, rd, rs1, rs2, is, imm⟩ (to - at') := by unfold farE; rw [if_neg hn]
    have HF := ahid (And.intro hfw hfe)
    clear hfw hfe hm he hn
    generalize encS ⟨op, rd, rs1, rs2, is, q⟩ = W at *
    go_wp2_with fail
    go_ret2
    exact ⟨aret2 HF.out.1 HF.out.2, HB3.out⟩
end Go.Proofs.YtfbbodaapkfbdaaDoor
