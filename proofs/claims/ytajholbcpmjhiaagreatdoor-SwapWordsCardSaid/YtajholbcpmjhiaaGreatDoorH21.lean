/- Several texts in one: MachDisp. -/
import Derived.Test.YtajholbcpmjhiaaGreatDoorH01
import Derived.Test.YtajholbcpmjhiaaGreatDoorH02
import Derived.Test.YtajholbcpmjhiaaGreatDoorH03
import Derived.Test.YtajholbcpmjhiaaGreatDoorH04
import Derived.Test.YtajholbcpmjhiaaGreatDoorH08
import Derived.Test.YtajholbcpmjhiaaGreatDoorH09
import Derived.Test.YtajholbcpmjhiaaGreatDoorH10
import Derived.Test.YtajholbcpmjhiaaGreatDoorH11
import Derived.Test.YtajholbcpmjhiaaGreatDoorH14
import Derived.Test.YtajholbcpmjhiaaGreatDoorH15
import Derived.Test.YtajholbcpmjhiaaGreatDoorH16
import Derived.Test.YtajholbcpmjhiaaGreatDoorH17
import Derived.Test.YtajholbcpmjhiaaGreatDoorH18
import Derived.Test.YtajholbcpmjhiaaGreatDoorH19
import Derived.Test.YtajholbcpmjhiaaGreatDoorH20
import Derived.WalkKit
import Derived.Laws.AppendOwn
import Derived.Below
import Derived.Deep.QuietTactic
import Derived.BigQuiet
import Derived.WalkSpells
import Derived.Test.YtajholbcpmjhiaaGreatDoorProg
import Derived.Handy
import Derived.WalkLawsBesides
import Derived.RegionTactic
import Derived.Outline
import Derived.Lib.BitFns
import Derived.Laws.Rows
import Derived.IntWalk
import Derived.Laws.CopyOwn
import Derived.Great.Ranges
import Derived.RangeFuncNested
import Derived.RangeFuncBound
import Derived.RangeFuncCalls
import Derived.RangeFuncLeaves
import Derived.Shelf.Abstract
import Derived.Shelf.RegionOpen
import Derived.OwnWalkIn
import Derived.TacticsInMore
import Derived.LoopNIn
import Derived.LoopIn
import Derived.RegionIn
import Derived.Deep.RegionHeld
import Derived.StillTailTactics
import Derived.BigRegion
import Derived.Deep.RegionHeld3
import Derived.Deep.Cut
import Derived.Laws.EntriesVeiled
import Derived.ArgAppend
import Derived.Deep.RegionLaw
/- The table of the machine's instructions, and what each does. -/
namespace Go.Proofs.YtajholbcpmjhiaaGreatDoor
open Go.RowKit
set_option linter.unusedVariables false
set_option linter.unusedSimpArgs false
def mfnOf (op : Nat) : Nat :=
  match op with
  | 15 => 158
  | 16 => 159
  | 17 => 160
  | 18 => 161
  | 19 => 162
  | 20 => 163
  | 21 => 164
  | 22 => 165
  | 23 => 166
  | 24 => 167
  | 25 => 168
  | 26 => 169
  | 27 => 170
  | 28 => 171
  | 29 => 172
  | 30 => 173
  | 31 => 174
  | 32 => 175
  | 33 => 176
  | 34 => 177
  | 35 => 178
  | 36 => 179
  | 37 => 180
  | _ => 112
theorem mfn_alu {op : Nat} (h : op ≤ 14) : mfnOf op = 112 := by
  have hc : op = 0 ∨ op = 1 ∨ op = 2 ∨ op = 3 ∨ op = 4 ∨ op = 5 ∨ op = 6 ∨ op = 7 ∨ op = 8 ∨ op = 9 ∨ op = 10 ∨ op = 11 ∨ op = 12 ∨ op = 13 ∨ op = 14 := by omega
  rcases hc with rfl | rfl | rfl | rfl | rfl | rfl | rfl | rfl | rfl | rfl | rfl | rfl | rfl | rfl | rfl <;> rfl
theorem menter_sethi (args : Array Value) (w : World) : (callFunc 158 args).run Tryz.prog w = .ok (.enter 158 args) w := by kernel_rfl
theorem menter_cmp (args : Array Value) (w : World) : (callFunc 159 args).run Tryz.prog w = .ok (.enter 159 args) w := by kernel_rfl
theorem menter_br (args : Array Value) (w : World) : (callFunc 160 args).run Tryz.prog w = .ok (.enter 160 args) w := by kernel_rfl
theorem menter_call (args : Array Value) (w : World) : (callFunc 161 args).run Tryz.prog w = .ok (.enter 161 args) w := by kernel_rfl
theorem menter_jmpl (args : Array Value) (w : World) : (callFunc 162 args).run Tryz.prog w = .ok (.enter 162 args) w := by kernel_rfl
theorem menter_save (args : Array Value) (w : World) : (callFunc 163 args).run Tryz.prog w = .ok (.enter 163 args) w := by kernel_rfl
theorem menter_restore (args : Array Value) (w : World) : (callFunc 164 args).run Tryz.prog w = .ok (.enter 164 args) w := by kernel_rfl
theorem menter_ld (args : Array Value) (w : World) : (callFunc 165 args).run Tryz.prog w = .ok (.enter 165 args) w := by kernel_rfl
theorem menter_st (args : Array Value) (w : World) : (callFunc 166 args).run Tryz.prog w = .ok (.enter 166 args) w := by kernel_rfl
theorem menter_ldb (args : Array Value) (w : World) : (callFunc 167 args).run Tryz.prog w = .ok (.enter 167 args) w := by kernel_rfl
theorem menter_stb (args : Array Value) (w : World) : (callFunc 168 args).run Tryz.prog w = .ok (.enter 168 args) w := by kernel_rfl
theorem menter_rdpsr (args : Array Value) (w : World) : (callFunc 169 args).run Tryz.prog w = .ok (.enter 169 args) w := by kernel_rfl
theorem menter_wrpsr (args : Array Value) (w : World) : (callFunc 170 args).run Tryz.prog w = .ok (.enter 170 args) w := by kernel_rfl
theorem menter_rdwim (args : Array Value) (w : World) : (callFunc 171 args).run Tryz.prog w = .ok (.enter 171 args) w := by kernel_rfl
theorem menter_wrwim (args : Array Value) (w : World) : (callFunc 172 args).run Tryz.prog w = .ok (.enter 172 args) w := by kernel_rfl
theorem menter_rdt (args : Array Value) (w : World) : (callFunc 173 args).run Tryz.prog w = .ok (.enter 173 args) w := by kernel_rfl
theorem menter_wrt (args : Array Value) (w : World) : (callFunc 174 args).run Tryz.prog w = .ok (.enter 174 args) w := by kernel_rfl
theorem menter_rett (args : Array Value) (w : World) : (callFunc 175 args).run Tryz.prog w = .ok (.enter 175 args) w := by kernel_rfl
theorem menter_trapped (args : Array Value) (w : World) : (callFunc 176 args).run Tryz.prog w = .ok (.enter 176 args) w := by kernel_rfl
theorem menter_choice (args : Array Value) (w : World) : (callFunc 177 args).run Tryz.prog w = .ok (.enter 177 args) w := by kernel_rfl
theorem menter_print (args : Array Value) (w : World) : (callFunc 178 args).run Tryz.prog w = .ok (.enter 178 args) w := by kernel_rfl
theorem menter_halted (args : Array Value) (w : World) : (callFunc 179 args).run Tryz.prog w = .ok (.enter 179 args) w := by kernel_rfl
theorem menter_fault (args : Array Value) (w : World) : (callFunc 180 args).run Tryz.prog w = .ok (.enter 180 args) w := by kernel_rfl
theorem menter_alu (args : Array Value) (w : World) : (callFunc 112 args).run Tryz.prog w = .ok (.enter 112 args) w := by kernel_rfl
theorem menter_fn (op : Nat) (h : op ≤ 37) (args : Array Value) (w : World) : (callFunc (mfnOf op) args).run Tryz.prog w = .ok (.enter (mfnOf op) args) w := by
  have hc : op ≤ 14 ∨ op = 15 ∨ op = 16 ∨ op = 17 ∨ op = 18 ∨ op = 19 ∨ op = 20 ∨ op = 21 ∨ op = 22 ∨ op = 23 ∨ op = 24 ∨ op = 25 ∨ op = 26 ∨ op = 27 ∨ op = 28 ∨ op = 29 ∨ op = 30 ∨ op = 31 ∨ op = 32 ∨ op = 33 ∨ op = 34 ∨ op = 35 ∨ op = 36 ∨ op = 37 := by omega
  rcases hc with h | rfl | rfl | rfl | rfl | rfl | rfl | rfl | rfl | rfl | rfl | rfl | rfl | rfl | rfl | rfl | rfl | rfl | rfl | rfl | rfl | rfl | rfl | rfl
  · rw [mfn_alu h]; exact menter_alu args w
  · exact menter_sethi args w
  · exact menter_cmp args w
  · exact menter_br args w
  · exact menter_call args w
  · exact menter_jmpl args w
  · exact menter_save args w
  · exact menter_restore args w
  · exact menter_ld args w
  · exact menter_st args w
  · exact menter_ldb args w
  · exact menter_stb args w
  · exact menter_rdpsr args w
  · exact menter_wrpsr args w
  · exact menter_rdwim args w
  · exact menter_wrwim args w
  · exact menter_rdt args w
  · exact menter_wrt args w
  · exact menter_rett args w
  · exact menter_trapped args w
  · exact menter_choice args w
  · exact menter_print args w
  · exact menter_halted args w
  · exact menter_fault args w
/-- What any instruction does. -/
theorem mdisp_any (w : World) (hbr : Bru w) (G : MG) (M : Nat) (m : Mx) (D : Nat) (x : Ix) (a b n : Int) (h : DoIn w G M m D x a b n) (hn : n = u32 (m.pc + 4)) (hol : m.out.length < 4294967296) :
    Calls Tryz.prog (mfnOf x.op.toNat) #[.pointer (some ⟨D, 0, none⟩)] w fun e w' => e = .returned (.tuple #[]) ∧ DoEnd w G M D x a b (opS m x a b) w' := by
  have h0 := h.fits.op0
  have h1 := h.fits.op1
  have hc : x.op ≤ 14 ∨ x.op = 15 ∨ x.op = 16 ∨ x.op = 17 ∨ x.op = 18 ∨ x.op = 19 ∨ x.op = 20 ∨ x.op = 21 ∨ x.op = 22 ∨ x.op = 23 ∨ x.op = 24 ∨ x.op = 25 ∨ x.op = 26 ∨ x.op = 27 ∨ x.op = 28 ∨ x.op = 29 ∨ x.op = 30 ∨ x.op = 31 ∨ x.op = 32 ∨ x.op = 33 ∨ x.op = 34 ∨ x.op = 35 ∨ x.op = 36 ∨ x.op = 37 := by omega
  rcases hc with e | e | e | e | e | e | e | e | e | e | e | e | e | e | e | e | e | e | e | e | e | e | e | e
  · rw [mfn_alu (by omega)]; exact do_alu w G M m D x a b n h e hn
  · rw [show mfnOf x.op.toNat = 158 by rw [e]; rfl]; exact do_sethi w G M m D x a b n h e hn
  · rw [show mfnOf x.op.toNat = 159 by rw [e]; rfl]; exact do_cmp w G M m D x a b n h e hn
  · rw [show mfnOf x.op.toNat = 160 by rw [e]; rfl]; exact do_br w G M m D x a b n h e hn
  · rw [show mfnOf x.op.toNat = 161 by rw [e]; rfl]; exact do_call w G M m D x a b n h e hn
  · rw [show mfnOf x.op.toNat = 162 by rw [e]; rfl]; exact do_jmpl w G M m D x a b n h e hn
  · rw [show mfnOf x.op.toNat = 163 by rw [e]; rfl]; exact do_save w hbr G M m D x a b n h e hn
  · rw [show mfnOf x.op.toNat = 164 by rw [e]; rfl]; exact do_restore w hbr G M m D x a b n h e hn
  · rw [show mfnOf x.op.toNat = 165 by rw [e]; rfl]; exact do_ld w G M m D x a b n h e hn
  · rw [show mfnOf x.op.toNat = 166 by rw [e]; rfl]; exact do_st w G M m D x a b n h e hn
  · rw [show mfnOf x.op.toNat = 167 by rw [e]; rfl]; exact do_ldb w G M m D x a b n h e hn
  · rw [show mfnOf x.op.toNat = 168 by rw [e]; rfl]; exact do_stb w G M m D x a b n h e hn
  · rw [show mfnOf x.op.toNat = 169 by rw [e]; rfl]; exact do_rdpsr w G M m D x a b n h e hn
  · rw [show mfnOf x.op.toNat = 170 by rw [e]; rfl]; exact do_wrpsr w G M m D x a b n h e hn
  · rw [show mfnOf x.op.toNat = 171 by rw [e]; rfl]; exact do_rdwim w G M m D x a b n h e hn
  · rw [show mfnOf x.op.toNat = 172 by rw [e]; rfl]; exact do_wrwim w hbr G M m D x a b n h e hn
  · rw [show mfnOf x.op.toNat = 173 by rw [e]; rfl]; exact do_rdt w G M m D x a b n h e hn
  · rw [show mfnOf x.op.toNat = 174 by rw [e]; rfl]; exact do_wrt w G M m D x a b n h e hn
  · rw [show mfnOf x.op.toNat = 175 by rw [e]; rfl]; exact do_rett w G M m D x a b n h e hn
  · rw [show mfnOf x.op.toNat = 176 by rw [e]; rfl]; exact do_trapped w G M m D x a b n h e hn
  · rw [show mfnOf x.op.toNat = 177 by rw [e]; rfl]; exact do_choice w G M m D x a b n h e hn
  · rw [show mfnOf x.op.toNat = 178 by rw [e]; rfl]; exact do_print w G M m D x a b n h e hol hn
  · rw [show mfnOf x.op.toNat = 179 by rw [e]; rfl]; exact do_halted w G M m D x a b n h e hn
  · rw [show mfnOf x.op.toNat = 180 by rw [e]; rfl]; exact do_fault w G M m D x a b n h e hn
/-- The table. -/
abbrev mopsV : Array Value := #[.nilFunc, .nilFunc, .nilFunc, .nilFunc, .nilFunc, .nilFunc, .nilFunc, .nilFunc, .nilFunc, .nilFunc, .nilFunc, .nilFunc, .nilFunc, .nilFunc, .nilFunc, .func (.func 158) #[] #[], .func (.func 159) #[] #[], .func (.func 160) #[] #[], .func (.func 161) #[] #[], .func (.func 162) #[] #[], .func (.func 163) #[] #[], .func (.func 164) #[] #[], .func (.func 165) #[] #[], .func (.func 166) #[] #[], .func (.func 167) #[] #[], .func (.func 168) #[] #[], .func (.func 169) #[] #[], .func (.func 170) #[] #[], .func (.func 171) #[] #[], .func (.func 172) #[] #[], .func (.func 173) #[] #[], .func (.func 174) #[] #[], .func (.func 175) #[] #[], .func (.func 176) #[] #[], .func (.func 177) #[] #[], .func (.func 178) #[] #[], .func (.func 179) #[] #[], .func (.func 180) #[] #[]]
set_option maxRecDepth 100000 in
set_option maxHeartbeats 2000000 in
theorem moperations_any (w : World) : Calls Tryz.prog 111 #[] w fun e w' => e = .returned (.agg mopsV) ∧ Below w.heap.size w w' := by
  have hz : ARow (w.alloc (.cells (#[.nilFunc, .nilFunc, .nilFunc, .nilFunc, .nilFunc, .nilFunc, .nilFunc, .nilFunc, .nilFunc, .nilFunc, .nilFunc, .nilFunc, .nilFunc, .nilFunc, .nilFunc, .nilFunc, .nilFunc, .nilFunc, .nilFunc, .nilFunc, .nilFunc, .nilFunc, .nilFunc, .nilFunc, .nilFunc, .nilFunc, .nilFunc, .nilFunc, .nilFunc, .nilFunc, .nilFunc, .nilFunc, .nilFunc, .nilFunc, .nilFunc, .nilFunc, .nilFunc, .nilFunc] : Array Value) 173)) w.heap.size 173 (#[.nilFunc, .nilFunc, .nilFunc, .nilFunc, .nilFunc, .nilFunc, .nilFunc, .nilFunc, .nilFunc, .nilFunc, .nilFunc, .nilFunc, .nilFunc, .nilFunc, .nilFunc, .nilFunc, .nilFunc, .nilFunc, .nilFunc, .nilFunc, .nilFunc, .nilFunc, .nilFunc, .nilFunc, .nilFunc, .nilFunc, .nilFunc, .nilFunc, .nilFunc, .nilFunc, .nilFunc, .nilFunc, .nilFunc, .nilFunc, .nilFunc, .nilFunc, .nilFunc, .nilFunc] : Array Value).toList := ARow.fresh w _ _
  have HZ := mhid (show (w.alloc (.cells (#[.nilFunc, .nilFunc, .nilFunc, .nilFunc, .nilFunc, .nilFunc, .nilFunc, .nilFunc, .nilFunc, .nilFunc, .nilFunc, .nilFunc, .nilFunc, .nilFunc, .nilFunc, .nilFunc, .nilFunc, .nilFunc, .nilFunc, .nilFunc, .nilFunc, .nilFunc, .nilFunc, .nilFunc, .nilFunc, .nilFunc, .nilFunc, .nilFunc, .nilFunc, .nilFunc, .nilFunc, .nilFunc, .nilFunc, .nilFunc, .nilFunc, .nilFunc, .nilFunc, .nilFunc] : Array Value) 173)).heap[w.heap.size]? = some (.cells (#[.nilFunc, .nilFunc, .nilFunc, .nilFunc, .nilFunc, .nilFunc, .nilFunc, .nilFunc, .nilFunc, .nilFunc, .nilFunc, .nilFunc, .nilFunc, .nilFunc, .nilFunc, .nilFunc, .nilFunc, .nilFunc, .nilFunc, .nilFunc, .nilFunc, .nilFunc, .nilFunc, .nilFunc, .nilFunc, .nilFunc, .nilFunc, .nilFunc, .nilFunc, .nilFunc, .nilFunc, .nilFunc, .nilFunc, .nilFunc, .nilFunc, .nilFunc, .nilFunc, .nilFunc] : Array Value) 173 (0, 0)) from heap_alloc_new w _)
  clear hz
  go_enter Tryz.func111, Tryz.ntmps111
  go_wp2_with (refine wpList_store_row rfl 173 (.tmp 0) (.tmp 1) rfl w.heap.size mopsV rfl rfl 173 _ HZ.out (by kernel_rfl) (by kernel_rfl) (by kernel_rfl) ?_)
  have hb : Below w.heap.size w ((w.alloc (.cells (#[.nilFunc, .nilFunc, .nilFunc, .nilFunc, .nilFunc, .nilFunc, .nilFunc, .nilFunc, .nilFunc, .nilFunc, .nilFunc, .nilFunc, .nilFunc, .nilFunc, .nilFunc, .nilFunc, .nilFunc, .nilFunc, .nilFunc, .nilFunc, .nilFunc, .nilFunc, .nilFunc, .nilFunc, .nilFunc, .nilFunc, .nilFunc, .nilFunc, .nilFunc, .nilFunc, .nilFunc, .nilFunc, .nilFunc, .nilFunc, .nilFunc, .nilFunc, .nilFunc, .nilFunc] : Array Value) 173)).setRow w.heap.size mopsV) := below_setRow ((Below.refl _ _).alloc (Nat.le_refl _) _) (Nat.le_refl _) _
  have hr := setRow_heap (w.alloc (.cells (#[.nilFunc, .nilFunc, .nilFunc, .nilFunc, .nilFunc, .nilFunc, .nilFunc, .nilFunc, .nilFunc, .nilFunc, .nilFunc, .nilFunc, .nilFunc, .nilFunc, .nilFunc, .nilFunc, .nilFunc, .nilFunc, .nilFunc, .nilFunc, .nilFunc, .nilFunc, .nilFunc, .nilFunc, .nilFunc, .nilFunc, .nilFunc, .nilFunc, .nilFunc, .nilFunc, .nilFunc, .nilFunc, .nilFunc, .nilFunc, .nilFunc, .nilFunc, .nilFunc, .nilFunc] : Array Value) 173)) w.heap.size _ mopsV _ _ HZ.out
  exact bodyPost_ret (v := .agg mopsV) (results_cell_row (P := Tryz.prog) rfl _ _ w.heap.size _ mopsV (0, 0) _ rfl hr Tryz.underlying173 rfl (by kernel_rfl)) rfl ⟨rfl, hb⟩
end Go.Proofs.YtajholbcpmjhiaaGreatDoor
