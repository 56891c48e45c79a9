/- The six kinds in their order; the token of a word. -/
import Derived.Test.YthnfkecbgfcipaaDoorLexKinds
import Derived.Laws.EntriesVeiled
import Derived.Laws.Rows
import Derived.Laws.CopyOwn
import Derived.Laws.Tables
import Derived.RangeFuncBox

namespace Go.Proofs.YthnfkecbgfcipaaDoor
open Go.RowKit
set_option linter.unusedVariables false
set_option linter.unusedSimpArgs false
abbrev kindsC : Array Value := #[.int .u8 4, .func (.func 26) #[] #[], .int .u8 5, .func (.func 27) #[] #[], .int .u8 2, .func (.func 28) #[] #[], .int .u8 3, .func (.func 31) #[] #[], .int .u8 1, .func (.func 32) #[] #[], .int .u8 0, .func (.func 35) #[] #[]]
set_option maxRecDepth 100000 in
theorem kinds_any (w : World) : Calls Tryd.prog 16 #[] w fun e w' => e = .returned (.agg kindsC) ∧ Below w.heap.size w w' := by
  go_enter Tryd.func16, Tryd.ntmps16
  go_wp2_with fail
  exact bodyPost_ret (v := .agg kindsC) (results_cell_row (P := Tryd.prog) rfl _ _ w.heap.size _ kindsC (0, 0) _ rfl (World.alloc_heap_new _ _) Tryd.underlying47 rfl (by kernel_rfl)) rfl ⟨rfl, (Below.refl _ w).alloc (Nat.le_refl _) _⟩
/-- A struct that lies in a cell, and a slot, as results. -/
theorem lex_row_slot {P : Program} {fn : Func} {p q : Tmp} {ty : TypeId} (h : fn.results = #[.cell p ty, .tmp q]) (tmps : Array Value) (w : World) (g : Nat) (t : TypeId) (cs : Array Value) (fr : Nat × Nat) (d : TypeDesc) (v : Value)
    (hp : tmps.getD p undef = .pointer (some ⟨g, 0, none⟩)) (hq : tmps.getD q undef = v) (hg : w.heap[g]? = some (.cells cs t fr))
    (hu : P.underlying ty = some d) (hd : (match d with | .struct _ | .array _ _ => true | _ => false) = true) (hi : (P.info? ty).map (·.size) = some cs.size) :
    (results fn tmps).run P w = .ok (.tuple #[.agg cs, v]) w := by
  have hp' : tmps[p]?.getD undef = .pointer (some ⟨g, 0, none⟩) := by simpa using hp
  have hq' : tmps[q]?.getD undef = v := by simpa using hq
  simp [results, h, hp', hq', asAddr, run_loadVar_row w g t ty cs fr d hg hu hd hi]
/-- A token's value, without its place. -/
def tokV (k : Nat) (t : List UInt8) (n : Nat) : Value := .agg #[.int .u8 k, .string ⟨t.toArray⟩, .int .u32 n, .int .i64 0, .int .i64 0]
def TokenOk (s : List UInt8) (w : World) (e : Ending) (w' : World) : Prop :=
  (match tokB s with
    | none => e = .returned (.tuple #[tokV 0 [] 0, .bool false])
    | some (k, t, n) => e = .returned (.tuple #[tokV k t n, .bool true])) ∧ Below w.heap.size w w'
set_option maxRecDepth 100000 in
set_option maxHeartbeats 4000000 in
theorem token_any (s : ByteArray) (hs : s.size ≤ 140737488352000) (w : World) (hW : LexW w) : Calls Tryd.prog 19 #[.string s, .agg kindsC] w (TokenOk s.data.toList w) := by
  have HT := shid (tokB_kinds s.data.toList)
  go_enter Tryd.func19, Tryd.ntmps19
  go_wp2_with fail
  have hB0 : Below w.heap.size w ((w.alloc (.cells kindsC 47)).alloc (.cells #[.int .u8 0, .string ⟨#[]⟩, .int .u32 0, .int .i64 0, .int .i64 0] 41)) := ((Below.refl _ w).alloc (Nat.le_refl _) _).alloc (by simp) _
  have hT0 : ((w.alloc (.cells kindsC 47)).alloc (.cells #[.int .u8 0, .string ⟨#[]⟩, .int .u32 0, .int .i64 0, .int .i64 0] 41)).heap[w.heap.size + 1]? = some (.cells #[.int .u8 0, .string ⟨#[]⟩, .int .u32 0, .int .i64 0, .int .i64 0] 41 (0, 0)) := by
    have h := World.alloc_heap_new (w.alloc (.cells kindsC 47)) (.cells #[.int .u8 0, .string ⟨#[]⟩, .int .u32 0, .int .i64 0, .int .i64 0] 41)
    rw [World.size_alloc] at h
    exact h
  generalize ((w.alloc (.cells kindsC 47)).alloc (.cells #[.int .u8 0, .string ⟨#[]⟩, .int .u32 0, .int .i64 0, .int .i64 0] 41)) = W0 at hB0 hT0 ⊢
  have HB0 := shid hB0
  have HT0 := shid hT0
  clear hB0 hT0
  go_loopw [12] (fun i wr => ∃ k : Nat, k ≤ 6 ∧ i = .int .i64 k ∧ (∀ j, j < k → kindS j s.data.toList = none) ∧ Below w.heap.size w wr ∧ wr.heap[w.heap.size + 1]? = some (.cells #[.int .u8 0, .string ⟨#[]⟩, .int .u32 0, .int .i64 0, .int .i64 0] 41 (0, 0))) (fun i _ => 6 - (intOf i).toNat)
  case atStart => exact ⟨0, by omega, rfl, fun j hj => by omega, HB0.out, HT0.out⟩
  case round =>
    obtain ⟨k, hk, rfl, hno, hbr, hbx⟩ := hrel
    have HNO := shid hno
    have HBR := shid hbr
    have HBX := shid hbx
    clear hno hbr hbx HB0 HT0
    have hk : k = 0 ∨ k = 1 ∨ k = 2 ∨ k = 3 ∨ k = 4 ∨ k = 5 ∨ k = 6 := by omega
    rcases hk with rfl | rfl | rfl | rfl | rfl | rfl | rfl
    · have ix : ∀ w, (Instr.index 47 (.agg #[.int .u8 4, .func (.func 26) #[] #[], .int .u8 5, .func (.func 27) #[] #[], .int .u8 2, .func (.func 28) #[] #[], .int .u8 3, .func (.func 31) #[] #[], .int .u8 1, .func (.func 32) #[] #[], .int .u8 0, .func (.func 35) #[] #[]]) (.int .i64 0)).run Tryd.prog w = .ok (.agg #[.int .u8 4, .func (.func 26) #[] #[]]) w := fun _ => by kernel_rfl
      have HC := shid (kind0_any s (wr.alloc (.cells #[.int .u8 4, .func (.func 26) #[] #[]] 46)))
      have HBA := shid (HBR.out.alloc HBR.out.size (.cells #[.int .u8 4, .func (.func 26) #[] #[]] 46))
      have HXA := shid (show (wr.alloc (.cells #[.int .u8 4, .func (.func 26) #[] #[]] 46)).heap[w.heap.size + 1]? = _ from (Below.heap_alloc _ _ _ (Array.getElem?_eq_some_iff.1 HBX.out).1).trans HBX.out)
      have hcell : (wr.alloc (.cells #[.int .u8 4, .func (.func 26) #[] #[]] 46)).cell? ⟨wr.heap.size, 0, none⟩ = some (.int .u8 4) := by simp [go_sem]
      go_wp2_with fail
      go_at_call 26
      refine HC.out.mono ?_
      rintro e w1 ⟨⟨t, n, rfl, hv⟩, hb⟩
      replace hcell : w1.cell? ⟨wr.heap.size, 0, none⟩ = some (.int .u8 4) := (hb.cell (p := ⟨wr.heap.size, 0, none⟩) (by simp)).trans hcell
      have HB1 := shid (HBA.out.trans (hb.mono HBA.out.size))
      have HX1 := shid ((hb.block _ (Array.getElem?_eq_some_iff.1 HXA.out).1).trans HXA.out)
      have HV := shid hv
      clear hb hv HC HBA HXA
      cases hq : kindS 0 s.data.toList with
      | none =>
        have HQ := shid hq
        clear hq HV
        go_wp2_with fail
        go_roundw
        case rel => exact ⟨1, by omega, by go_num, fun j hj => by
          rcases Nat.lt_succ_iff_lt_or_eq.1 hj with h | rfl
          · exact HNO.out j h
          · exact HQ.out, HB1.out, HX1.out⟩
        case measure => simp [intOf] <;> omega
      | some x =>
        obtain ⟨rfl, rfl⟩ := HV.out x hq
        have HQ := shid hq
        clear hq HV
        obtain ⟨tx, nx⟩ := x
        have hrow : ∀ old, w1.heap[w.heap.size + 1]? = some (.cells old 41 (0, 0)) → (w1.setRow (w.heap.size + 1) #[.int .u8 4, .string ⟨tx.toArray⟩, .int .u32 nx, .int .i64 0, .int .i64 0]).heap[w.heap.size + 1]? = some (.cells #[.int .u8 4, .string ⟨tx.toArray⟩, .int .u32 nx, .int .i64 0, .int .i64 0] 41 (0, 0)) := fun old h => setRow_heap w1 _ _ _ _ _ h
        have hbl : Below w.heap.size w (w1.setRow (w.heap.size + 1) #[.int .u8 4, .string ⟨tx.toArray⟩, .int .u32 nx, .int .i64 0, .int .i64 0]) := below_setRow HB1.out (by omega) _
        have HRW := shid (hrow _ HX1.out)
        have HBL := shid hbl
        clear hrow hbl
        go_wp2_with (refine wpList_store_row rfl 41 (.tmp 4) (.tmp 28) rfl (w.heap.size + 1) #[.int .u8 4, .string ⟨tx.toArray⟩, .int .u32 nx, .int .i64 0, .int .i64 0] rfl rfl 41 _ HX1.out (show (Tryd.prog.info? 41).map (·.size) = some 5 by kernel_rfl) rfl (by simp [Value.oneCell']) ?_)
        change bodyPost Tryd.prog Tryd.f19 (TokenOk s.data.toList w) .ret _ _
        refine bodyPost_ret (lex_row_slot (P := Tryd.prog) Tryd.results19 _ _ (w.heap.size + 1) _ _ (0, 0) _ _ rfl rfl HRW.out Tryd.underlying41 rfl (show (Tryd.prog.info? 41).map (·.size) = some 5 by kernel_rfl)) rfl ⟨?_, HBL.out⟩
        rw [HT.out, HQ.out]
        rfl
    · have ix : ∀ w, (Instr.index 47 (.agg #[.int .u8 4, .func (.func 26) #[] #[], .int .u8 5, .func (.func 27) #[] #[], .int .u8 2, .func (.func 28) #[] #[], .int .u8 3, .func (.func 31) #[] #[], .int .u8 1, .func (.func 32) #[] #[], .int .u8 0, .func (.func 35) #[] #[]]) (.int .i64 1)).run Tryd.prog w = .ok (.agg #[.int .u8 5, .func (.func 27) #[] #[]]) w := fun _ => by kernel_rfl
      have HC := shid (kind1_any s (wr.alloc (.cells #[.int .u8 5, .func (.func 27) #[] #[]] 46)))
      have HBA := shid (HBR.out.alloc HBR.out.size (.cells #[.int .u8 5, .func (.func 27) #[] #[]] 46))
      have HXA := shid (show (wr.alloc (.cells #[.int .u8 5, .func (.func 27) #[] #[]] 46)).heap[w.heap.size + 1]? = _ from (Below.heap_alloc _ _ _ (Array.getElem?_eq_some_iff.1 HBX.out).1).trans HBX.out)
      have hcell : (wr.alloc (.cells #[.int .u8 5, .func (.func 27) #[] #[]] 46)).cell? ⟨wr.heap.size, 0, none⟩ = some (.int .u8 5) := by simp [go_sem]
      go_wp2_with fail
      go_at_call 27
      refine HC.out.mono ?_
      rintro e w1 ⟨⟨t, n, rfl, hv⟩, hb⟩
      replace hcell : w1.cell? ⟨wr.heap.size, 0, none⟩ = some (.int .u8 5) := (hb.cell (p := ⟨wr.heap.size, 0, none⟩) (by simp)).trans hcell
      have HB1 := shid (HBA.out.trans (hb.mono HBA.out.size))
      have HX1 := shid ((hb.block _ (Array.getElem?_eq_some_iff.1 HXA.out).1).trans HXA.out)
      have HV := shid hv
      clear hb hv HC HBA HXA
      cases hq : kindS 1 s.data.toList with
      | none =>
        have HQ := shid hq
        clear hq HV
        go_wp2_with fail
        go_roundw
        case rel => exact ⟨2, by omega, by go_num, fun j hj => by
          rcases Nat.lt_succ_iff_lt_or_eq.1 hj with h | rfl
          · exact HNO.out j h
          · exact HQ.out, HB1.out, HX1.out⟩
        case measure => simp [intOf] <;> omega
      | some x =>
        obtain ⟨rfl, rfl⟩ := HV.out x hq
        have HQ := shid hq
        clear hq HV
        obtain ⟨tx, nx⟩ := x
        have hrow : ∀ old, w1.heap[w.heap.size + 1]? = some (.cells old 41 (0, 0)) → (w1.setRow (w.heap.size + 1) #[.int .u8 5, .string ⟨tx.toArray⟩, .int .u32 nx, .int .i64 0, .int .i64 0]).heap[w.heap.size + 1]? = some (.cells #[.int .u8 5, .string ⟨tx.toArray⟩, .int .u32 nx, .int .i64 0, .int .i64 0] 41 (0, 0)) := fun old h => setRow_heap w1 _ _ _ _ _ h
        have hbl : Below w.heap.size w (w1.setRow (w.heap.size + 1) #[.int .u8 5, .string ⟨tx.toArray⟩, .int .u32 nx, .int .i64 0, .int .i64 0]) := below_setRow HB1.out (by omega) _
        have HRW := shid (hrow _ HX1.out)
        have HBL := shid hbl
        clear hrow hbl
        go_wp2_with (refine wpList_store_row rfl 41 (.tmp 4) (.tmp 28) rfl (w.heap.size + 1) #[.int .u8 5, .string ⟨tx.toArray⟩, .int .u32 nx, .int .i64 0, .int .i64 0] rfl rfl 41 _ HX1.out (show (Tryd.prog.info? 41).map (·.size) = some 5 by kernel_rfl) rfl (by simp [Value.oneCell']) ?_)
        change bodyPost Tryd.prog Tryd.f19 (TokenOk s.data.toList w) .ret _ _
        refine bodyPost_ret (lex_row_slot (P := Tryd.prog) Tryd.results19 _ _ (w.heap.size + 1) _ _ (0, 0) _ _ rfl rfl HRW.out Tryd.underlying41 rfl (show (Tryd.prog.info? 41).map (·.size) = some 5 by kernel_rfl)) rfl ⟨?_, HBL.out⟩
        rw [HT.out, HNO.out 0 (by omega), HQ.out]
        rfl
    · have ix : ∀ w, (Instr.index 47 (.agg #[.int .u8 4, .func (.func 26) #[] #[], .int .u8 5, .func (.func 27) #[] #[], .int .u8 2, .func (.func 28) #[] #[], .int .u8 3, .func (.func 31) #[] #[], .int .u8 1, .func (.func 32) #[] #[], .int .u8 0, .func (.func 35) #[] #[]]) (.int .i64 2)).run Tryd.prog w = .ok (.agg #[.int .u8 2, .func (.func 28) #[] #[]]) w := fun _ => by kernel_rfl
      have HC := shid (kind2_any s hs (wr.alloc (.cells #[.int .u8 2, .func (.func 28) #[] #[]] 46)) (hW.keep (HBR.out.alloc HBR.out.size _)))
      have HBA := shid (HBR.out.alloc HBR.out.size (.cells #[.int .u8 2, .func (.func 28) #[] #[]] 46))
      have HXA := shid (show (wr.alloc (.cells #[.int .u8 2, .func (.func 28) #[] #[]] 46)).heap[w.heap.size + 1]? = _ from (Below.heap_alloc _ _ _ (Array.getElem?_eq_some_iff.1 HBX.out).1).trans HBX.out)
      have hcell : (wr.alloc (.cells #[.int .u8 2, .func (.func 28) #[] #[]] 46)).cell? ⟨wr.heap.size, 0, none⟩ = some (.int .u8 2) := by simp [go_sem]
      go_wp2_with fail
      go_at_call 28
      refine HC.out.mono ?_
      rintro e w1 ⟨⟨t, n, rfl, hv⟩, hb⟩
      replace hcell : w1.cell? ⟨wr.heap.size, 0, none⟩ = some (.int .u8 2) := (hb.cell (p := ⟨wr.heap.size, 0, none⟩) (by simp)).trans hcell
      have HB1 := shid (HBA.out.trans (hb.mono HBA.out.size))
      have HX1 := shid ((hb.block _ (Array.getElem?_eq_some_iff.1 HXA.out).1).trans HXA.out)
      have HV := shid hv
      clear hb hv HC HBA HXA
      cases hq : kindS 2 s.data.toList with
      | none =>
        have HQ := shid hq
        clear hq HV
        go_wp2_with fail
        go_roundw
        case rel => exact ⟨3, by omega, by go_num, fun j hj => by
          rcases Nat.lt_succ_iff_lt_or_eq.1 hj with h | rfl
          · exact HNO.out j h
          · exact HQ.out, HB1.out, HX1.out⟩
        case measure => simp [intOf] <;> omega
      | some x =>
        obtain ⟨rfl, rfl⟩ := HV.out x hq
        have HQ := shid hq
        clear hq HV
        obtain ⟨tx, nx⟩ := x
        have hrow : ∀ old, w1.heap[w.heap.size + 1]? = some (.cells old 41 (0, 0)) → (w1.setRow (w.heap.size + 1) #[.int .u8 2, .string ⟨tx.toArray⟩, .int .u32 nx, .int .i64 0, .int .i64 0]).heap[w.heap.size + 1]? = some (.cells #[.int .u8 2, .string ⟨tx.toArray⟩, .int .u32 nx, .int .i64 0, .int .i64 0] 41 (0, 0)) := fun old h => setRow_heap w1 _ _ _ _ _ h
        have hbl : Below w.heap.size w (w1.setRow (w.heap.size + 1) #[.int .u8 2, .string ⟨tx.toArray⟩, .int .u32 nx, .int .i64 0, .int .i64 0]) := below_setRow HB1.out (by omega) _
        have HRW := shid (hrow _ HX1.out)
        have HBL := shid hbl
        clear hrow hbl
        go_wp2_with (refine wpList_store_row rfl 41 (.tmp 4) (.tmp 28) rfl (w.heap.size + 1) #[.int .u8 2, .string ⟨tx.toArray⟩, .int .u32 nx, .int .i64 0, .int .i64 0] rfl rfl 41 _ HX1.out (show (Tryd.prog.info? 41).map (·.size) = some 5 by kernel_rfl) rfl (by simp [Value.oneCell']) ?_)
        change bodyPost Tryd.prog Tryd.f19 (TokenOk s.data.toList w) .ret _ _
        refine bodyPost_ret (lex_row_slot (P := Tryd.prog) Tryd.results19 _ _ (w.heap.size + 1) _ _ (0, 0) _ _ rfl rfl HRW.out Tryd.underlying41 rfl (show (Tryd.prog.info? 41).map (·.size) = some 5 by kernel_rfl)) rfl ⟨?_, HBL.out⟩
        rw [HT.out, HNO.out 0 (by omega), HNO.out 1 (by omega), HQ.out]
        rfl
    · have ix : ∀ w, (Instr.index 47 (.agg #[.int .u8 4, .func (.func 26) #[] #[], .int .u8 5, .func (.func 27) #[] #[], .int .u8 2, .func (.func 28) #[] #[], .int .u8 3, .func (.func 31) #[] #[], .int .u8 1, .func (.func 32) #[] #[], .int .u8 0, .func (.func 35) #[] #[]]) (.int .i64 3)).run Tryd.prog w = .ok (.agg #[.int .u8 3, .func (.func 31) #[] #[]]) w := fun _ => by kernel_rfl
      have HC := shid (kind3_any s hs (wr.alloc (.cells #[.int .u8 3, .func (.func 31) #[] #[]] 46)) (hW.keep (HBR.out.alloc HBR.out.size _)))
      have HBA := shid (HBR.out.alloc HBR.out.size (.cells #[.int .u8 3, .func (.func 31) #[] #[]] 46))
      have HXA := shid (show (wr.alloc (.cells #[.int .u8 3, .func (.func 31) #[] #[]] 46)).heap[w.heap.size + 1]? = _ from (Below.heap_alloc _ _ _ (Array.getElem?_eq_some_iff.1 HBX.out).1).trans HBX.out)
      have hcell : (wr.alloc (.cells #[.int .u8 3, .func (.func 31) #[] #[]] 46)).cell? ⟨wr.heap.size, 0, none⟩ = some (.int .u8 3) := by simp [go_sem]
      go_wp2_with fail
      go_at_call 31
      refine HC.out.mono ?_
      rintro e w1 ⟨⟨t, n, rfl, hv⟩, hb⟩
      replace hcell : w1.cell? ⟨wr.heap.size, 0, none⟩ = some (.int .u8 3) := (hb.cell (p := ⟨wr.heap.size, 0, none⟩) (by simp)).trans hcell
      have HB1 := shid (HBA.out.trans (hb.mono HBA.out.size))
      have HX1 := shid ((hb.block _ (Array.getElem?_eq_some_iff.1 HXA.out).1).trans HXA.out)
      have HV := shid hv
      clear hb hv HC HBA HXA
      cases hq : kindS 3 s.data.toList with
      | none =>
        have HQ := shid hq
        clear hq HV
        go_wp2_with fail
        go_roundw
        case rel => exact ⟨4, by omega, by go_num, fun j hj => by
          rcases Nat.lt_succ_iff_lt_or_eq.1 hj with h | rfl
          · exact HNO.out j h
          · exact HQ.out, HB1.out, HX1.out⟩
        case measure => simp [intOf] <;> omega
      | some x =>
        obtain ⟨rfl, rfl⟩ := HV.out x hq
        have HQ := shid hq
        clear hq HV
        obtain ⟨tx, nx⟩ := x
        have hrow : ∀ old, w1.heap[w.heap.size + 1]? = some (.cells old 41 (0, 0)) → (w1.setRow (w.heap.size + 1) #[.int .u8 3, .string ⟨tx.toArray⟩, .int .u32 nx, .int .i64 0, .int .i64 0]).heap[w.heap.size + 1]? = some (.cells #[.int .u8 3, .string ⟨tx.toArray⟩, .int .u32 nx, .int .i64 0, .int .i64 0] 41 (0, 0)) := fun old h => setRow_heap w1 _ _ _ _ _ h
        have hbl : Below w.heap.size w (w1.setRow (w.heap.size + 1) #[.int .u8 3, .string ⟨tx.toArray⟩, .int .u32 nx, .int .i64 0, .int .i64 0]) := below_setRow HB1.out (by omega) _
        have HRW := shid (hrow _ HX1.out)
        have HBL := shid hbl
        clear hrow hbl
        go_wp2_with (refine wpList_store_row rfl 41 (.tmp 4) (.tmp 28) rfl (w.heap.size + 1) #[.int .u8 3, .string ⟨tx.toArray⟩, .int .u32 nx, .int .i64 0, .int .i64 0] rfl rfl 41 _ HX1.out (show (Tryd.prog.info? 41).map (·.size) = some 5 by kernel_rfl) rfl (by simp [Value.oneCell']) ?_)
        change bodyPost Tryd.prog Tryd.f19 (TokenOk s.data.toList w) .ret _ _
        refine bodyPost_ret (lex_row_slot (P := Tryd.prog) Tryd.results19 _ _ (w.heap.size + 1) _ _ (0, 0) _ _ rfl rfl HRW.out Tryd.underlying41 rfl (show (Tryd.prog.info? 41).map (·.size) = some 5 by kernel_rfl)) rfl ⟨?_, HBL.out⟩
        rw [HT.out, HNO.out 0 (by omega), HNO.out 1 (by omega), HNO.out 2 (by omega), HQ.out]
        rfl
    · have ix : ∀ w, (Instr.index 47 (.agg #[.int .u8 4, .func (.func 26) #[] #[], .int .u8 5, .func (.func 27) #[] #[], .int .u8 2, .func (.func 28) #[] #[], .int .u8 3, .func (.func 31) #[] #[], .int .u8 1, .func (.func 32) #[] #[], .int .u8 0, .func (.func 35) #[] #[]]) (.int .i64 4)).run Tryd.prog w = .ok (.agg #[.int .u8 1, .func (.func 32) #[] #[]]) w := fun _ => by kernel_rfl
      have HC := shid (kind4_any s hs (wr.alloc (.cells #[.int .u8 1, .func (.func 32) #[] #[]] 46)))
      have HBA := shid (HBR.out.alloc HBR.out.size (.cells #[.int .u8 1, .func (.func 32) #[] #[]] 46))
      have HXA := shid (show (wr.alloc (.cells #[.int .u8 1, .func (.func 32) #[] #[]] 46)).heap[w.heap.size + 1]? = _ from (Below.heap_alloc _ _ _ (Array.getElem?_eq_some_iff.1 HBX.out).1).trans HBX.out)
      have hcell : (wr.alloc (.cells #[.int .u8 1, .func (.func 32) #[] #[]] 46)).cell? ⟨wr.heap.size, 0, none⟩ = some (.int .u8 1) := by simp [go_sem]
      go_wp2_with fail
      go_at_call 32
      refine HC.out.mono ?_
      rintro e w1 ⟨⟨t, n, rfl, hv⟩, hb⟩
      replace hcell : w1.cell? ⟨wr.heap.size, 0, none⟩ = some (.int .u8 1) := (hb.cell (p := ⟨wr.heap.size, 0, none⟩) (by simp)).trans hcell
      have HB1 := shid (HBA.out.trans (hb.mono HBA.out.size))
      have HX1 := shid ((hb.block _ (Array.getElem?_eq_some_iff.1 HXA.out).1).trans HXA.out)
      have HV := shid hv
      clear hb hv HC HBA HXA
      cases hq : kindS 4 s.data.toList with
      | none =>
        have HQ := shid hq
        clear hq HV
        go_wp2_with fail
        go_roundw
        case rel => exact ⟨5, by omega, by go_num, fun j hj => by
          rcases Nat.lt_succ_iff_lt_or_eq.1 hj with h | rfl
          · exact HNO.out j h
          · exact HQ.out, HB1.out, HX1.out⟩
        case measure => simp [intOf] <;> omega
      | some x =>
        obtain ⟨rfl, rfl⟩ := HV.out x hq
        have HQ := shid hq
        clear hq HV
        obtain ⟨tx, nx⟩ := x
        have hrow : ∀ old, w1.heap[w.heap.size + 1]? = some (.cells old 41 (0, 0)) → (w1.setRow (w.heap.size + 1) #[.int .u8 1, .string ⟨tx.toArray⟩, .int .u32 nx, .int .i64 0, .int .i64 0]).heap[w.heap.size + 1]? = some (.cells #[.int .u8 1, .string ⟨tx.toArray⟩, .int .u32 nx, .int .i64 0, .int .i64 0] 41 (0, 0)) := fun old h => setRow_heap w1 _ _ _ _ _ h
        have hbl : Below w.heap.size w (w1.setRow (w.heap.size + 1) #[.int .u8 1, .string ⟨tx.toArray⟩, .int .u32 nx, .int .i64 0, .int .i64 0]) := below_setRow HB1.out (by omega) _
        have HRW := shid (hrow _ HX1.out)
        have HBL := shid hbl
        clear hrow hbl
        go_wp2_with (refine wpList_store_row rfl 41 (.tmp 4) (.tmp 28) rfl (w.heap.size + 1) #[.int .u8 1, .string ⟨tx.toArray⟩, .int .u32 nx, .int .i64 0, .int .i64 0] rfl rfl 41 _ HX1.out (show (Tryd.prog.info? 41).map (·.size) = some 5 by kernel_rfl) rfl (by simp [Value.oneCell']) ?_)
        change bodyPost Tryd.prog Tryd.f19 (TokenOk s.data.toList w) .ret _ _
        refine bodyPost_ret (lex_row_slot (P := Tryd.prog) Tryd.results19 _ _ (w.heap.size + 1) _ _ (0, 0) _ _ rfl rfl HRW.out Tryd.underlying41 rfl (show (Tryd.prog.info? 41).map (·.size) = some 5 by kernel_rfl)) rfl ⟨?_, HBL.out⟩
        rw [HT.out, HNO.out 0 (by omega), HNO.out 1 (by omega), HNO.out 2 (by omega), HNO.out 3 (by omega), HQ.out]
        rfl
    · have ix : ∀ w, (Instr.index 47 (.agg #[.int .u8 4, .func (.func 26) #[] #[], .int .u8 5, .func (.func 27) #[] #[], .int .u8 2, .func (.func 28) #[] #[], .int .u8 3, .func (.func 31) #[] #[], .int .u8 1, .func (.func 32) #[] #[], .int .u8 0, .func (.func 35) #[] #[]]) (.int .i64 5)).run Tryd.prog w = .ok (.agg #[.int .u8 0, .func (.func 35) #[] #[]]) w := fun _ => by kernel_rfl
      have HC := shid (kind5_any s hs (wr.alloc (.cells #[.int .u8 0, .func (.func 35) #[] #[]] 46)))
      have HBA := shid (HBR.out.alloc HBR.out.size (.cells #[.int .u8 0, .func (.func 35) #[] #[]] 46))
      have HXA := shid (show (wr.alloc (.cells #[.int .u8 0, .func (.func 35) #[] #[]] 46)).heap[w.heap.size + 1]? = _ from (Below.heap_alloc _ _ _ (Array.getElem?_eq_some_iff.1 HBX.out).1).trans HBX.out)
      have hcell : (wr.alloc (.cells #[.int .u8 0, .func (.func 35) #[] #[]] 46)).cell? ⟨wr.heap.size, 0, none⟩ = some (.int .u8 0) := by simp [go_sem]
      go_wp2_with fail
      go_at_call 35
      refine HC.out.mono ?_
      rintro e w1 ⟨⟨t, n, rfl, hv⟩, hb⟩
      replace hcell : w1.cell? ⟨wr.heap.size, 0, none⟩ = some (.int .u8 0) := (hb.cell (p := ⟨wr.heap.size, 0, none⟩) (by simp)).trans hcell
      have HB1 := shid (HBA.out.trans (hb.mono HBA.out.size))
      have HX1 := shid ((hb.block _ (Array.getElem?_eq_some_iff.1 HXA.out).1).trans HXA.out)
      have HV := shid hv
      clear hb hv HC HBA HXA
      cases hq : kindS 5 s.data.toList with
      | none =>
        have HQ := shid hq
        clear hq HV
        go_wp2_with fail
        go_roundw
        case rel => exact ⟨6, by omega, by go_num, fun j hj => by
          rcases Nat.lt_succ_iff_lt_or_eq.1 hj with h | rfl
          · exact HNO.out j h
          · exact HQ.out, HB1.out, HX1.out⟩
        case measure => simp [intOf] <;> omega
      | some x =>
        obtain ⟨rfl, rfl⟩ := HV.out x hq
        have HQ := shid hq
        clear hq HV
        obtain ⟨tx, nx⟩ := x
        have hrow : ∀ old, w1.heap[w.heap.size + 1]? = some (.cells old 41 (0, 0)) → (w1.setRow (w.heap.size + 1) #[.int .u8 0, .string ⟨tx.toArray⟩, .int .u32 nx, .int .i64 0, .int .i64 0]).heap[w.heap.size + 1]? = some (.cells #[.int .u8 0, .string ⟨tx.toArray⟩, .int .u32 nx, .int .i64 0, .int .i64 0] 41 (0, 0)) := fun old h => setRow_heap w1 _ _ _ _ _ h
        have hbl : Below w.heap.size w (w1.setRow (w.heap.size + 1) #[.int .u8 0, .string ⟨tx.toArray⟩, .int .u32 nx, .int .i64 0, .int .i64 0]) := below_setRow HB1.out (by omega) _
        have HRW := shid (hrow _ HX1.out)
        have HBL := shid hbl
        clear hrow hbl
        go_wp2_with (refine wpList_store_row rfl 41 (.tmp 4) (.tmp 28) rfl (w.heap.size + 1) #[.int .u8 0, .string ⟨tx.toArray⟩, .int .u32 nx, .int .i64 0, .int .i64 0] rfl rfl 41 _ HX1.out (show (Tryd.prog.info? 41).map (·.size) = some 5 by kernel_rfl) rfl (by simp [Value.oneCell']) ?_)
        change bodyPost Tryd.prog Tryd.f19 (TokenOk s.data.toList w) .ret _ _
        refine bodyPost_ret (lex_row_slot (P := Tryd.prog) Tryd.results19 _ _ (w.heap.size + 1) _ _ (0, 0) _ _ rfl rfl HRW.out Tryd.underlying41 rfl (show (Tryd.prog.info? 41).map (·.size) = some 5 by kernel_rfl)) rfl ⟨?_, HBL.out⟩
        rw [HT.out, HNO.out 0 (by omega), HNO.out 1 (by omega), HNO.out 2 (by omega), HNO.out 3 (by omega), HNO.out 4 (by omega), HQ.out]
        rfl
    · have hrow : ∀ old, wr.heap[w.heap.size + 1]? = some (.cells old 41 (0, 0)) → (wr.setRow (w.heap.size + 1) #[.int .u8 0, .string ⟨#[]⟩, .int .u32 0, .int .i64 0, .int .i64 0]).heap[w.heap.size + 1]? = some (.cells #[.int .u8 0, .string ⟨#[]⟩, .int .u32 0, .int .i64 0, .int .i64 0] 41 (0, 0)) := fun old h => setRow_heap wr _ _ _ _ _ h
      have hbl : Below w.heap.size w (wr.setRow (w.heap.size + 1) #[.int .u8 0, .string ⟨#[]⟩, .int .u32 0, .int .i64 0, .int .i64 0]) := below_setRow HBR.out (by omega) _
      have HRW := shid (hrow _ HBX.out)
      have HBL := shid hbl
      clear hrow hbl
      go_wp2_with (refine wpList_store_row rfl 41 (.tmp 4) (.tmp 30) rfl (w.heap.size + 1) #[.int .u8 0, .string ⟨#[]⟩, .int .u32 0, .int .i64 0, .int .i64 0] rfl rfl 41 _ HBX.out (by kernel_rfl) (by kernel_rfl) (by kernel_rfl) ?_)
      change bodyPost Tryd.prog Tryd.f19 (TokenOk s.data.toList w) .ret _ _
      refine bodyPost_ret (lex_row_slot (P := Tryd.prog) Tryd.results19 _ _ (w.heap.size + 1) _ _ (0, 0) _ _ rfl rfl HRW.out Tryd.underlying41 rfl (by kernel_rfl)) rfl ⟨?_, HBL.out⟩
      rw [HT.out, HNO.out 0 (by omega), HNO.out 1 (by omega), HNO.out 2 (by omega), HNO.out 3 (by omega), HNO.out 4 (by omega), HNO.out 5 (by omega)]
      rfl
end Go.Proofs.YthnfkecbgfcipaaDoor
