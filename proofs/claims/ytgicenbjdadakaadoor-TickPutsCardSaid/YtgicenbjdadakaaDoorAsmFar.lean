/- Walks of the package asm: what a function value of far makes. -/
import Derived.Test.YtgicenbjdadakaaDoorAsmNew
namespace Go.Proofs.YtgicenbjdadakaaDoor
open Go.RowKit Go.Maps
set_option linter.unusedVariables false
set_option linter.unusedSimpArgs false
/-- An instruction that goes d far: word, answer. -/
def farW (x : Ix) (d : Int) : Int := if mayP { x with imm := d } ∧ -2147483648 ≤ d ∧ d < 2147483648 then encS { x with imm := d } else 0
def farE (x : Ix) (d : Int) : Int := if mayP { x with imm := d } ∧ -2147483648 ≤ d ∧ d < 2147483648 then 0 else 50
theorem aret2 {k l : IntKind} {a b c d : Int} (h : a = b) (g : c = d) : Ending.returned (.tuple #[.int k a, .int l c]) = .returned (.tuple #[.int k b, .int l d]) := by rw [h, g]
theorem i32w (d : Int) : (-2147483648 ≤ wrap32 d ∧ wrap32 d < 2147483648) ∧ (wrap32 d = d ↔ -2147483648 ≤ d ∧ d < 2147483648) := by
  unfold wrap32
  exact ⟨⟨by omega, by omega⟩, fun h => by omega, fun h => by omega⟩
theorem afar1_lost (w : World) (p m : Nat) (sv : Value) (K : Nat → Prop) (L : List It) (M : List (List UInt8 × Int)) (h : AsmAt w p sv m K L M) (at' : Int) (nm : ByteArray) (hs : nm.size ≤ maxLen) (c d : Nat) (hc : w.cell? ⟨c, 0, none⟩ = some (.string nm)) (hl : look M nm.data.toList = none) :
    Calls Tryd.prog 37 #[.int .i64 at', .map (some m), .pointer (some ⟨c, 0, none⟩), .pointer (some ⟨d, 0, none⟩)] w fun e w' => e = .returned (.tuple #[.int .u32 0, .int .i64 7]) ∧ w = w' := by
  have hk := h.lookup nm hs
  rw [hl] at hk
  simp only [Option.getD_none, Option.isSome_none] at hk
  clear h
  go_enter Tryd.func37, Tryd.ntmps37
  go_wp2_with fail
  go_ret2
  exact ⟨rfl, rfl⟩
set_option maxRecDepth 100000 in
set_option maxHeartbeats 1000000 in
theorem afar1_there (w : World) (ht : Tab w) (p m : Nat) (sv : Value) (K : Nat → Prop) (L : List It) (M : List (List UInt8 × Int)) (h : AsmAt w p sv m K L M) (at' : Int) (nm : ByteArray) (hs : nm.size ≤ maxLen) (c d : Nat) (hc : w.cell? ⟨c, 0, none⟩ = some (.string nm))
    (x : Ix) (hx : x.bd) (hd : ∀ (i : Nat) (u : Value), x.agg.cells[i]? = some u → w.cell? ⟨d, i, none⟩ = some u) (to : Int) (hl : look M nm.data.toList = some to) (hwb : -9223372036854775808 ≤ to - at' ∧ to - at' ≤ 9223372036854775807) :
    Calls Tryd.prog 37 #[.int .i64 at', .map (some m), .pointer (some ⟨c, 0, none⟩), .pointer (some ⟨d, 0, none⟩)] w fun e w' => e = .returned (.tuple #[.int .u32 (farW x (to - at')), .int .i64 (farE x (to - at'))]) ∧ Below w.heap.size w w' := by
  have hk := h.lookup nm hs
  rw [hl] at hk
  simp only [Option.getD_some, Option.isSome_some] at hk
  have d0 := hd 0 _ rfl
  have d1 := hd 1 _ rfl
  have d2 := hd 2 _ rfl
  have d3 := hd 3 _ rfl
  have d4 := hd 4 _ rfl
  have d5 := hd 5 _ rfl
  obtain ⟨op, rd, rs1, rs2, is, imm⟩ := x
  have HX := ahid hx
  have hw : IntKind.i64.wrap (to - at') = to - at' := IntWalk.i64_in _ (by omega)
  have hw64 : wrap64 (to - at') = to - at' := by unfold wrap64; omega
  clear hwb
  have HT := ahid ht
  clear h hd hl hx ht
  go_enter Tryd.func37, Tryd.ntmps37
  go_wp2_with fail
  generalize hq : wrap32 (to - at') = q
  have hq2 := i32w (to - at')
  rw [hq] at hq2
  have hb2 : Below w.heap.size w (w.alloc (.cells #[.int .u8 op, .int .u8 rd, .int .u8 rs1, .int .u8 rs2, .bool is, .int .i32 q] 55)) := (Below.refl _ _).alloc (Nat.le_refl _) _
  have hy : (Ix.mk op rd rs1 rs2 is q).bd := ⟨HX.out.1, HX.out.2.1, HX.out.2.2.1, HX.out.2.2.2.1, hq2.1⟩
  have hE := encode_any ⟨op, rd, rs1, rs2, is, q⟩ hy _ (HT.out.keep hb2)
  have cq : (w.alloc (.cells #[.int .u8 op, .int .u8 rd, .int .u8 rs1, .int .u8 rs2, .bool is, .int .i32 q] 55)).cell? ⟨w.heap.size, 5, none⟩ = some (.int .i32 q) := by simp [go_sem]
  have HB2 := ahid hb2
  have HQ := ahid hq2
  clear hq2
  clear hb2 hy hq d0 d1 d2 d3 d4 d5 hk hc
  generalize w.alloc (.cells #[.int .u8 op, .int .u8 rd, .int .u8 rs1, .int .u8 rs2, .bool is, .int .i32 q] 55) = w2 at *
  refine hE.mono ?_
  rintro e w3 ⟨rfl, bl⟩
  have cq3 := (bl.cell (p := ⟨w.heap.size, 5, none⟩) (World.block_lt_of_cell? _ _ cq)).trans cq
  have HB3 := ahid (HB2.out.trans (bl.mono HB2.out.size))
  clear bl hE cq HB2
  have hq64 : wrap64 q = q := by have := HQ.out.1; unfold wrap64; omega
  by_cases hm : mayP ⟨op, rd, rs1, rs2, is, q⟩
  · have he : encE ⟨op, rd, rs1, rs2, is, q⟩ = 0 := if_pos hm
    rw [he]
    by_cases hqD : q = to - at'
    · have hfw : encS ⟨op, rd, rs1, rs2, is, q⟩ = farW ⟨op, rd, rs1, rs2, is, imm⟩ (to - at') := by
        unfold farW; rw [if_pos ⟨hqD ▸ hm, HQ.out.2.1 hqD⟩, hqD]
      have hfe : (0 : Int) = farE ⟨op, rd, rs1, rs2, is, imm⟩ (to - at') := by
        unfold farE; rw [if_pos ⟨hqD ▸ hm, HQ.out.2.1 hqD⟩]
      have HF := ahid (And.intro hfw hfe)
      clear hfw hfe hm he
      generalize encS ⟨op, rd, rs1, rs2, is, q⟩ = W at *
      have hb : (q != to - at') = false := by simpa using hqD
      clear hqD
      go_wp2_with fail
      go_ret2
      exact ⟨aret2 HF.out.1 HF.out.2, HB3.out⟩
    · have hn : ¬ (mayP { (Ix.mk op rd rs1 rs2 is imm) with imm := to - at' } ∧ -2147483648 ≤ to - at' ∧ to - at' < 2147483648) := fun h => hqD (HQ.out.2.2 h.2)
      have hfw : (0 : Int) = farW ⟨op, rd, rs1, rs2, is, imm⟩ (to - at') := by unfold farW; rw [if_neg hn]
      have hfe : (50 : Int) = farE ⟨op, rd, rs1, rs2, is, imm⟩ (to - at') := by unfold farE; rw [if_neg hn]
      have HF := ahid (And.intro hfw hfe)
      have hb2 : (q != to - at') = true := by simpa using hqD
      have hb : (q == to - at') = false := by simpa using hqD
      clear hfw hfe hm he hn
      generalize encS ⟨op, rd, rs1, rs2, is, q⟩ = W at *
      go_wp2_with fail
      go_ret2
      exact ⟨aret2 HF.out.1 HF.out.2, HB3.out⟩
  · have he : encE ⟨op, rd, rs1, rs2, is, q⟩ = 2 := if_neg hm
    rw [he]
    have hn : ¬ (mayP { (Ix.mk op rd rs1 rs2 is imm) with imm := to - at' } ∧ -2147483648 ≤ to - at' ∧ to - at' < 2147483648) := fun h => by
      have := HQ.out.2.2 h.2
      exact hm (this ▸ h.1)
    have hfw : (0 : Int) = farW ⟨op, rd, rs1, rs2, is, imm⟩ (to - at') := by unfold farW; rw [if_neg hn]
    have hfe : (50 : Int) = farE ⟨op, rd, rs1, rs2, is, imm⟩ (to - at') := by unfold farE; rw [if_neg hn]
    have HF := ahid (And.intro hfw hfe)
    clear hfw hfe hm he hn
    generalize encS ⟨op, rd, rs1, rs2, is, q⟩ = W at *
    go_wp2_with fail
    go_ret2
    exact ⟨aret2 HF.out.1 HF.out.2, HB3.out⟩
end Go.Proofs.YtgicenbjdadakaaDoor
