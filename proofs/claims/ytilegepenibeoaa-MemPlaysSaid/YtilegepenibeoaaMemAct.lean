/- How an argument of type Act (muntinlaw05) is read. -/
import Derived.Test.YtilegepenibeoaaMemHead
import Derived.ProofKit
import Derived.OpenShut
namespace Go.Proofs.Ytilegepenibeoaa
open Go.RowKit Go.ChangeShapes Go.WideShapes Go.ChangeAt
set_option linter.unusedVariables false
theorem cells_u8 : Try.prog.cellsOf 5 = 1 := by kernel_rfl
theorem cells_u32 : Try.prog.cellsOf 31 = 1 := by kernel_rfl
theorem cells_int : Try.prog.cellsOf 3 = 1 := by kernel_rfl
theorem cells_su32 : Try.prog.cellsOf 32 = 1 := by kernel_rfl
theorem cells_act : Try.prog.cellsOf 34 = 5 := by kernel_rfl
theorem list5 {α : Type} {l : List α} (h : l.length = 5) : ∃ a b c d e, l = [a, b, c, d, e] := by
  match l, h with
  | [a, b, c, d, e], _ => exact ⟨a, b, c, d, e, rfl⟩
section
variable {H : Type} {enc : TypeId × Value → H} {w : World} {base : Nat} {spare : Nat → Bool} {held : Bool} {fuel : Nat} {x : DataW H × List MemPlace}
/-- A slice of words that came in. -/
theorem trod_u32s {cs : List Value} (h : DataW.trod enc Try.prog w base spare held fuel 32 cs = some x) : ∃ v l, cs = [v] ∧ l.length ≤ maxLen ∧ U32s (fun k => w.heap.size ≤ k) w v l := by
  rcases open_ints Try.underlying32 Try.underlying31 cells_u32 h with ⟨rfl, _⟩ | ⟨a, len, cap, zs, rfl, _, hl, hm, hz, _, hcell, hwz⟩
  · exact ⟨_, [], rfl, by unfold maxLen; simp, fun z hz => (by cases hz), none, 0, rfl, fun h0 => by simp at h0⟩
  · have hle : len ≤ zs.length := by rw [hz]; split <;> omega
    refine ⟨_, zs.take len, rfl, by simp; omega, fun z hz => ?_, some a, cap, by rw [List.length_take, Nat.min_eq_left hle], fun h0 => ?_⟩
    · have := bounds_u32 (hwz z (List.mem_of_mem_take hz)); omega
    · rw [List.length_take, Nat.min_eq_left hle] at h0
      have hsp := World.cell?_spot (hcell 0 (by omega))
      obtain ⟨b, o, sp⟩ := a
      have hsp2 : sp = none := by simpa [Addr.add] using hsp
      subst hsp2
      have h1 : ∀ i, i < zs.length → w.cell? ⟨b, o + i, none⟩ = some (.int .u32 (zs.getD i 0)) := by
        intro i hi
        have h2 := hcell i hi
        have e : (⟨b, o, none⟩ : Addr).add i = ⟨b, o + i, none⟩ := by unfold Addr.add; split <;> simp [*]
        rw [e] at h2; exact h2
      have hb := World.block_lt_of_cell? _ _ (h1 0 (by omega))
      have hb2 : b < w.heap.size := hb
      refine ⟨b, o, rfl, by omega, hb, fun k hk => ?_⟩
      rw [List.length_take, Nat.min_eq_left hle] at hk
      rw [h1 k (by omega), List.getD_eq_getElem?_getD, List.getD_eq_getElem?_getD, List.getElem?_take_of_lt hk]
/-- The cells of an Act. -/
structure ActIs (w : World) (cs : List Value) (what addr many wv : Int) (v : Value) (l : List Int) : Prop where
  cells : cs = [.int .u8 what, .int .u32 addr, .int .i64 many, .int .u32 wv, v]
  b0 : 0 ≤ what ∧ what < 256
  b1 : 0 ≤ addr ∧ addr < 4294967296
  b2 : -9223372036854775808 ≤ many ∧ many ≤ 9223372036854775807
  b3 : 0 ≤ wv ∧ wv < 4294967296
  len : l.length ≤ maxLen
  row : U32s (fun k => w.heap.size ≤ k) w v l
theorem trod_act {cs : List Value} (h : DataW.trod enc Try.prog w base spare held fuel 34 cs = some x) : ∃ what addr many wv v l, ActIs w cs what addr many wv v l := by
  obtain ⟨xs, n, _, rfl, hl, hlen, hf⟩ := DataW.trod_struct Try.underlying34 h
  rw [cells_act] at hl
  obtain ⟨c0, c1, c2, c3, c4, rfl⟩ := list5 hl
  obtain ⟨y0, y1, y2, y3, y4, rfl⟩ := list5 hlen
  have h0 := hf 0 _ rfl
  have h1 := hf 1 _ rfl
  have h2 := hf 2 _ rfl
  have h3 := hf 3 _ rfl
  have h4 := hf 4 _ rfl
  simp [cells_u8, cells_u32, cells_int, cells_su32] at h0 h1 h2 h3 h4
  obtain ⟨what, e0, _, w0⟩ := DataW.trod_int Try.underlying5 h0
  obtain ⟨addr, e1, _, w1⟩ := DataW.trod_int Try.underlying31 h1
  obtain ⟨many, e2, _, w2⟩ := DataW.trod_int Try.underlying3 h2
  obtain ⟨wv, e3, _, w3⟩ := DataW.trod_int Try.underlying31 h3
  obtain ⟨v, l, e4, hl4, hu⟩ := trod_u32s h4
  simp at e0 e1 e2 e3 e4
  have b0 := bounds_u8 w0
  have b1 := bounds_u32 w1
  have b2 := bounds_i64 w2
  have b3 := bounds_u32 w3
  exact ⟨what, addr, many, wv, v, l, by rw [e0, e1, e2, e3, e4], by omega, by omega, by omega, by omega, hl4, hu⟩
end
end Go.Proofs.Ytilegepenibeoaa
