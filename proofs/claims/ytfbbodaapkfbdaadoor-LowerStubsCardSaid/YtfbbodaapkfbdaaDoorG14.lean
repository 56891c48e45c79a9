/- Walks of the package asm: far. -/
import Derived.Test.YtfbbodaapkfbdaaDoorG11
import Derived.Test.YtfbbodaapkfbdaaDoorG12
import Derived.Test.YtfbbodaapkfbdaaDoorG13
namespace Go.Proofs.YtfbbodaapkfbdaaDoor
open Go.RowKit Go.Maps
set_option linter.unusedVariables false
set_option linter.unusedSimpArgs false
theorem afar_none (w : World) (a : Value) (x : Ix) (nm : ByteArray) (hn : ∀ W, Below w.heap.size w W → Calls Tryd.prog 30 #[a] W fun e w' => e = .returned (.bool true) ∧ W = w') :
    Calls Tryd.prog 69 #[a, x.agg, .string nm] w fun e w' => e = .returned (.int .i64 1) ∧ Below w.heap.size w w' := by
  go_enter Tryd.func69, Tryd.ntmps69
  go_wp2_with fail
  refine (hn _ (((Below.refl _ _).alloc (Nat.le_refl _) _).alloc (by simp) _)).mono ?_
  rintro e w' ⟨rfl, rfl⟩
  go_wp2_with fail
  go_ret
  exact ⟨rfl, ((Below.refl _ _).alloc (Nat.le_refl _) _).alloc (by simp) _⟩
theorem infow : (Tryd.prog.info? 96).map (fun i => (i.zero, i.size, i.bytes)) = some (some .nilFunc, 1, 8) := by kernel_rfl
set_option maxRecDepth 100000 in
set_option maxHeartbeats 1000000 in
theorem afar_put (w : World) (ht : Tab w) (p m : Nat) (sv : Value) (K : Nat → Prop) (L : List It) (M : List (List UInt8 × Int)) (h : AsmAt w p sv m K L M) (x : Ix) (hx : x.bd) (hm : mayP x) (nm : ByteArray) (hs : nm.size ≤ maxLen) (hL : L.length < 4294967296) :
    Calls Tryd.prog 69 #[.pointer (some ⟨p, 0, none⟩), x.agg, .string nm] w fun e w' => e = .returned (.int .i64 0) ∧ AddOk w p sv m K L M [.far x nm] w' := by
  obtain ⟨c0, c1, f0, f1⟩ := h.cells
  have hE := fun W hW => encode_any x hx W hW
  rw [show encE x = 0 from if_pos hm] at hE
  obtain ⟨hpb, hmb, hsb⟩ := h.blocks
  have HBL := ahid (And.intro hpb (And.intro hmb hsb))
  clear hpb hmb hsb
  have hKK : ∀ k, (fun k => K k ∧ k < w.heap.size) k → K k := fun k hk => hk.1
  have hKL : ∀ k, (fun k => K k ∧ k < w.heap.size) k → k < w.heap.size := fun k hk => hk.2
  replace h := h.trim
  generalize (fun k => K k ∧ k < w.heap.size) = K0 at h hKK hKL
  have HKK := ahid (And.intro hKK hKL)
  clear hKK hKL
  have H := ahid h
  have HT := ahid ht
  clear h ht
  have HX := ahid hx
  have HM := ahid hm
  have HS := ahid hs
  clear hx hm hs
  obtain ⟨op, rd, rs1, rs2, is, imm⟩ := x
  go_enter Tryd.func69, Tryd.ntmps69
  go_wp2_with fail
  have hb1 : Below w.heap.size w ((w.alloc (.cells #[.int .u8 op, .int .u8 rd, .int .u8 rs1, .int .u8 rs2, .bool is, .int .i32 imm] 50)).alloc (.cells #[.string nm] 9)) := ((Below.refl _ _).alloc (Nat.le_refl _) _).alloc (by simp) _
  have hsz1 : ((w.alloc (.cells #[.int .u8 op, .int .u8 rd, .int .u8 rs1, .int .u8 rs2, .bool is, .int .i32 imm] 50)).alloc (.cells #[.string nm] 9)).heap.size = w.heap.size + 2 := by simp
  have hn1 : ((w.alloc (.cells #[.int .u8 op, .int .u8 rd, .int .u8 rs1, .int .u8 rs2, .bool is, .int .i32 imm] 50)).alloc (.cells #[.string nm] 9)).cell? ⟨w.heap.size + 1, 0, none⟩ = some (.string nm) := by simp [go_sem]
  have hx1 : ((w.alloc (.cells #[.int .u8 op, .int .u8 rd, .int .u8 rs1, .int .u8 rs2, .bool is, .int .i32 imm] 50)).alloc (.cells #[.string nm] 9)).heap[w.heap.size]? = some (.cells #[.int .u8 op, .int .u8 rd, .int .u8 rs1, .int .u8 rs2, .bool is, .int .i32 imm] 50 (0, 0)) := by
    rw [Below.heap_alloc _ _ _ (by simp)]; exact (MapKept.heap_alloc w _).1
  generalize (w.alloc (.cells #[.int .u8 op, .int .u8 rd, .int .u8 rs1, .int .u8 rs2, .bool is, .int .i32 imm] 50)).alloc (.cells #[.string nm] 9) = w1 at *
  have HA1 := ahid (H.out.keep (Only.of_below (S := fun _ => False) hb1) (fun _ _ h => h) (fun _ _ h => h))
  have HT1 := ahid (HT.out.keep hb1)
  clear c0 c1 f0 f1
  obtain ⟨c0, c1, f0, f1⟩ := HA1.out.cells
  have d0 : w1.cell? ⟨w.heap.size, 0, none⟩ = some (.int .u8 op) := by simp [World.cell?, hx1]
  have d1 : w1.cell? ⟨w.heap.size, 1, none⟩ = some (.int .u8 rd) := by simp [World.cell?, hx1]
  have d2 : w1.cell? ⟨w.heap.size, 2, none⟩ = some (.int .u8 rs1) := by simp [World.cell?, hx1]
  have d3 : w1.cell? ⟨w.heap.size, 3, none⟩ = some (.int .u8 rs2) := by simp [World.cell?, hx1]
  have d4 : w1.cell? ⟨w.heap.size, 4, none⟩ = some (.bool is) := by simp [World.cell?, hx1]
  have d5 : w1.cell? ⟨w.heap.size, 5, none⟩ = some (.int .i32 imm) := by simp [World.cell?, hx1]
  have HB1 := ahid hb1
  have HX1 := ahid hx1
  have HN1 := ahid hn1
  have HSZ := ahid hsz1
  clear hb1 hx1 hn1 hsz1
  refine (anone_made w1 p m c1).mono ?_
  rintro e w' ⟨rfl, rfl⟩
  go_wp2_with fail
  refine (hE _ HT1.out).mono ?_
  rintro e w2 ⟨rfl, bl⟩
  have HA2 := ahid (HA1.out.keep (Only.of_below (S := fun _ => False) bl) (fun _ _ h => h) (fun _ _ h => h))
  have HB2 := ahid (HB1.out.trans (bl.mono HB1.out.size))
  have hX2 : w2.heap[w.heap.size]? = some (.cells #[.int .u8 op, .int .u8 rd, .int .u8 rs1, .int .u8 rs2, .bool is, .int .i32 imm] 50 (0, 0)) := (bl.block _ (lt_of_block HX1.out)).trans HX1.out
  have hN2 := (bl.cell (p := ⟨w.heap.size + 1, 0, none⟩) (World.block_lt_of_cell? _ _ HN1.out)).trans HN1.out
  have hsz2 : w.heap.size + 2 ≤ w2.heap.size := by have := HSZ.out; have := bl.size; omega
  clear bl c0 c1 f0 f1 d0 d1 d2 d3 d4 d5 HA1 HT1 HB1 HX1 HN1 HSZ hE
  have HX2 := ahid hX2
  have HN2 := ahid hN2
  clear hX2 hN2
  have HSZ2 := ahid hsz2
  clear hsz2
  have HF2 : Hid ((w2.alloc (.cells #[.func (.func 83) #[] #[.pointer (some ⟨w.heap.size + 1, 0, none⟩), .pointer (some ⟨w.heap.size, 0, none⟩)]] 96)).cell? ⟨w.heap.size + 1, 0, none⟩ = some (.string nm) ∧ ∀ (i : Nat) (u : Value), (Ix.mk op rd rs1 rs2 is imm).agg.cells[i]? = some u → (w2.alloc (.cells #[.func (.func 83) #[] #[.pointer (some ⟨w.heap.size + 1, 0, none⟩), .pointer (some ⟨w.heap.size, 0, none⟩)]] 96)).cell? ⟨w.heap.size, i, none⟩ = some u) := by
    refine ahid ⟨Lib.cell?_alloc_some _ HN2.out, fun i u hu => Lib.cell?_alloc_some _ ?_⟩
    simp only [World.cell?, HX2.out]
    simpa [Value.cells] using hu
  obtain ⟨c0, c1, f0, f1⟩ := HA2.out.cells
  obtain ⟨vs, hown, hlen, hvs⟩ := HA2.out.row
  have HV := ahid hvs
  clear hvs
  obtain ⟨i0, hi, hz0, hz1, hz2⟩ := info_parts infow
  go_wp2_with (first | (at_builtin; refine wpList_append_place _ rfl _ _ 79 rfl 96 i0 _ 8 Tryd.underlying79 hi hz0 hz1 hz2 rfl sv L.length vs rfl (hown.alloc _) ⟨w2.heap.size, 0, none⟩ 1 1 [.func (.func 83) #[] #[.pointer (some ⟨w.heap.size + 1, 0, none⟩), .pointer (some ⟨w.heap.size, 0, none⟩)]] rfl rfl (cell_one_new _ _ _) (by simp [Value.oneCell']) (by unfold maxLen; omega) (by omega) ?_; intro v' w3 hown3 hgrow3 hpl3; obtain ⟨g3, cap3, rfl⟩ : ∃ g3 cap3, v' = .slice (some ⟨g3, 0, none⟩) (L.length + 1) cap3 := hown3.2.elim (fun h => absurd h.2 (by omega)) (fun ⟨g, c, _, e, _⟩ => ⟨g, c, e⟩); have o3 : Only (fun k => sv.ownBlock = some k) w2 w3 := ((Only.refl _ w2).alloc _).grown hgrow3 (fun k hk _ => hk.symm ▸ rfl); have c3 := (o3.cell (p := ⟨p, 0, none⟩) (lt_of_block HA2.out.ptr) HA2.out.ne.2.1).trans c0; have f3 := (World.frozen?_of_block (a := ⟨p, 0, none⟩) (o3.block p (lt_of_block HA2.out.ptr) HA2.out.ne.2.1)).trans f0))
  go_ret
  refine ⟨rfl, ?_⟩
  have HA3 := HA2.out.keep ((Only.refl (fun _ => False) w2).alloc (.cells #[.func (.func 83) #[] #[.pointer (some ⟨w.heap.size + 1, 0, none⟩), .pointer (some ⟨w.heap.size, 0, none⟩)]] 96)) (fun _ _ h => h) (fun _ _ h => h)
  have hsz2 := HSZ2.out
  have hfar := HF2.out
  have hadd := HA3.add (L2 := [.far ⟨op, rd, rs1, rs2, is, imm⟩ nm]) (K2 := fun k => K0 k ∨ k = w.heap.size ∨ k = w.heap.size + 1) hgrow3 hown3 (hpl3) hlen
    (fun i v it hv hi => (HV.out i v it hv hi).keep ((Only.refl (fun _ => False) w2).alloc _) (fun _ _ h => h) (fun _ _ h => h)) rfl
    (fun i v it hv hi => by
      match i, hv, hi with
      | 0, hv, hi =>
        simp only [List.getElem?_cons_zero, Option.some.injEq] at hv hi
        subst hv; subst hi
        exact ⟨w.heap.size + 1, w.heap.size, rfl, .inr (.inr rfl), .inr (.inl rfl), hfar.1, hfar.2, HS.out, HX.out⟩)
    (fun k hk => by
      have hp := HBL.out
      rcases hk with hk | rfl | rfl
      · have := HKK.out.2 k hk
        have h8 := HA2.out.apart k hk
        exact ⟨by simp; omega, h8⟩
      · exact ⟨by simp; omega, by omega, fun e => by have := hp.2.2 _ e; omega, by omega⟩
      · exact ⟨by simp; omega, by omega, fun e => by have := hp.2.2 _ e; omega, by omega⟩)
    (fun k _ hk => .inl hk)
  refine ⟨_, _, hadd.1, ?_, ?_, ?_⟩
  · exact (Only.of_below (HB2.out.trans ((Below.refl _ _).alloc HB2.out.size _))).fresh hadd.2 (fun _ _ h => h)
  · intro k hk ho
    rcases ho with h | h | h
    · exact .inl h
    · rcases hpl3 with e | e
      · exact .inr (.inl (e ▸ h))
      · have := e k h; simp at this; omega
    · exact .inr (.inr h)
  · intro k hk ho
    rcases ho with h | h | h
    · exact HKK.out.1 k h
    · omega
    · omega
end Go.Proofs.YtfbbodaapkfbdaaDoor
