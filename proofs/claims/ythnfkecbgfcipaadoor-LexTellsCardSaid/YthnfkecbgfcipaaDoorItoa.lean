/- The shelf's contract of the library function number 171, laid here by explicit terms (printed by genshelf.py). No condition. -/
import Derived.Shelf.Strconv.Itoa3
import Derived.Test.YthnfkecbgfcipaaDoorProg
import Derived.Test.YthnfkecbgfcipaaDoorOnly
namespace Go.Proofs.YthnfkecbgfcipaaDoor
open Go Go.Shelf
set_option linter.unusedVariables false
def itoaRen : Ren := ⟨fun x => match x with | 171 => 25 | 243 => 43 | 246 => 56 | 283 => 62 | 284 => 63 | 285 => 64 | 286 => 65 | 129 => 77 | 317 => 76 | 318 => 78 | 319 => 79 | 320 => 80 | 337 => 85 | 338 => 86 | n => n, fun x => match x with | 3 => 3 | 9 => 9 | 2 => 2 | 4 => 4 | 171 => 92 | 0 => 0 | 53 => 74 | 37 => 35 | 5 => 5 | 173 => 95 | 212 => 106 | 51 => 39 | 20 => 20 | 213 => 107 | 46 => 99 | 232 => 120 | 233 => 121 | n => n, fun x => match x with | 17 => 1 | 18 => 4 | 19 => 5 | n => n⟩
set_option maxRecDepth 100000 in
theorem itoaLays : LaysM.n171 Tryd.prog itoaRen := { mixed := by kernel_rfl, f129 := Tryd.func77, f171 := Tryd.func25, f243 := Tryd.func43, f246 := Tryd.func56, f283 := Tryd.func62, f284 := Tryd.func63, f285 := Tryd.func64, f286 := Tryd.func65, f317 := Tryd.func76, f318 := Tryd.func78, f319 := Tryd.func79, f320 := Tryd.func80, f337 := Tryd.func85, f338 := Tryd.func86, t0 := Tryd.underlying0, a0 := Tryd.isAgg0, z0 := Tryd.sizeOf0, v0 := Tryd.zeroValue0, t2 := Tryd.underlying2, a2 := Tryd.isAgg2, z2 := Tryd.sizeOf2, v2 := Tryd.zeroValue2, t3 := Tryd.underlying3, a3 := Tryd.isAgg3, z3 := Tryd.sizeOf3, v3 := Tryd.zeroValue3, t4 := Tryd.underlying4, a4 := Tryd.isAgg4, z4 := Tryd.sizeOf4, v4 := Tryd.zeroValue4, t5 := Tryd.underlying5, a5 := Tryd.isAgg5, z5 := Tryd.sizeOf5, v5 := Tryd.zeroValue5, t9 := Tryd.underlying9, a9 := Tryd.isAgg9, z9 := Tryd.sizeOf9, v9 := Tryd.zeroValue9, t20 := Tryd.underlying20, a20 := Tryd.isAgg20, z20 := Tryd.sizeOf20, v20 := Tryd.zeroValue20, t37 := Tryd.underlying35, a37 := Tryd.isAgg35, z37 := Tryd.sizeOf35, v37 := Tryd.zeroValue35, t46 := Tryd.underlying99, a46 := Tryd.isAgg99, z46 := Tryd.sizeOf99, v46 := Tryd.zeroValue99, t51 := Tryd.underlying39, a51 := Tryd.isAgg39, z51 := Tryd.sizeOf39, v51 := Tryd.zeroValue39, t53 := Tryd.underlying74, a53 := Tryd.isAgg74, z53 := Tryd.sizeOf74, v53 := Tryd.zeroValue74, t171 := Tryd.underlying92, a171 := Tryd.isAgg92, z171 := Tryd.sizeOf92, v171 := Tryd.zeroValue92, t173 := Tryd.underlying95, a173 := Tryd.isAgg95, z173 := Tryd.sizeOf95, v173 := Tryd.zeroValue95, t212 := Tryd.underlying106, a212 := Tryd.isAgg106, z212 := Tryd.sizeOf106, v212 := Tryd.zeroValue106, t213 := Tryd.underlying107, a213 := Tryd.isAgg107, z213 := Tryd.sizeOf107, t232 := Tryd.underlying120, a232 := Tryd.isAgg120, z232 := Tryd.sizeOf120, v232 := Tryd.zeroValue120, t233 := Tryd.underlying121, a233 := Tryd.isAgg121, z233 := Tryd.sizeOf121, v233 := Tryd.zeroValue121, g17 := by kernel_rfl, g18 := by kernel_rfl, g19 := by kernel_rfl, i0 := by kernel_rfl, i2 := by kernel_rfl, i3 := by kernel_rfl, i4 := by kernel_rfl, i5 := by kernel_rfl, i9 := by kernel_rfl, i20 := by kernel_rfl, i37 := by kernel_rfl, i46 := by kernel_rfl, i51 := by kernel_rfl, i53 := by kernel_rfl, i171 := by kernel_rfl, i173 := by kernel_rfl, i212 := by kernel_rfl, i232 := by kernel_rfl, i233 := by kernel_rfl, m17 := by kernel_rfl, m18 := by kernel_rfl, m19 := by kernel_rfl }
open Go.RowKit in
theorem grow_below (w : World) (os : Array Obj) : Below w.heap.size w (Go.Sort.grow w os) := by
  refine ⟨rfl, rfl, rfl, by simp [Go.Sort.grow], fun i hi => ?_⟩
  show (w.heap ++ os)[i]? = _
  rw [Array.getElem?_append_left hi]
open Go.RowKit in
set_option maxRecDepth 100000 in
/-- A number in tens. -/
theorem itoa_any (n : Nat) (hn : n < 9223372036854775808) (w : World) (htab : Lib.TabIs Tryd.prog w "internal/strconv.uint64pow10" .u64 Lib.pow10Tab) :
    Calls Tryd.prog 25 #[.int .i64 n] w fun e w' => e = .returned (.string ⟨(Lib.decDigits n).toArray⟩) ∧ Below w.heap.size w w' := by
  have h := Any.strconv_Itoa itoaLays (n : Int) (by omega) (by omega) w htab
  refine Calls.mono h ?_
  rintro e w' ⟨rfl, k, os, rfl⟩
  refine ⟨?_, ?_⟩
  · have : Lib.itoa (n : Int) = Lib.decDigits n := by unfold Lib.itoa; rw [if_neg (by omega)]; simp
    rw [this]
  · have h1 : Below w.heap.size w (w.drewN k) := ⟨rfl, rfl, rfl, Nat.le_refl _, fun _ _ => rfl⟩
    have h2 := grow_below (w.drewN k) os
    exact h1.trans (h2.mono h1.size)
end Go.Proofs.YthnfkecbgfcipaaDoor
