/- The shelf's contract of the library function number 171, laid here by explicit terms (printed by genshelf.py). No condition. -/
import Derived.Shelf.Strconv.Itoa3
import Derived.Test.YtodfekgecnaemaaDoorProg
import Derived.Test.YtodfekgecnaemaaDoorOnly
namespace Go.Proofs.YtodfekgecnaemaaDoor
open Go Go.Shelf
set_option linter.unusedVariables false
def itoaRen : Ren := ⟨fun x => match x with | 171 => 36 | 243 => 52 | 246 => 58 | 283 => 64 | 284 => 65 | 285 => 66 | 286 => 67 | 129 => 79 | 317 => 78 | 318 => 80 | 319 => 81 | 320 => 82 | 337 => 87 | 338 => 88 | n => n, fun x => match x with | 3 => 3 | 9 => 9 | 2 => 2 | 4 => 4 | 171 => 93 | 0 => 0 | 53 => 77 | 37 => 40 | 5 => 5 | 173 => 96 | 212 => 107 | 51 => 35 | 20 => 20 | 213 => 108 | 46 => 100 | 232 => 121 | 233 => 122 | n => n, fun x => match x with | 17 => 1 | 18 => 4 | 19 => 5 | n => n⟩
set_option maxRecDepth 100000 in
theorem itoaLays : LaysM.n171 Tryd.prog itoaRen := { mixed := by kernel_rfl, f129 := Tryd.func79, f171 := Tryd.func36, f243 := Tryd.func52, f246 := Tryd.func58, f283 := Tryd.func64, f284 := Tryd.func65, f285 := Tryd.func66, f286 := Tryd.func67, f317 := Tryd.func78, f318 := Tryd.func80, f319 := Tryd.func81, f320 := Tryd.func82, f337 := Tryd.func87, f338 := Tryd.func88, t0 := Tryd.underlying0, a0 := Tryd.isAgg0, z0 := Tryd.sizeOf0, v0 := Tryd.zeroValue0, t2 := Tryd.underlying2, a2 := Tryd.isAgg2, z2 := Tryd.sizeOf2, v2 := Tryd.zeroValue2, t3 := Tryd.underlying3, a3 := Tryd.isAgg3, z3 := Tryd.sizeOf3, v3 := Tryd.zeroValue3, t4 := Tryd.underlying4, a4 := Tryd.isAgg4, z4 := Tryd.sizeOf4, v4 := Tryd.zeroValue4, t5 := Tryd.underlying5, a5 := Tryd.isAgg5, z5 := Tryd.sizeOf5, v5 := Tryd.zeroValue5, t9 := Tryd.underlying9, a9 := Tryd.isAgg9, z9 := Tryd.sizeOf9, v9 := Tryd.zeroValue9, t20 := Tryd.underlying20, a20 := Tryd.isAgg20, z20 := Tryd.sizeOf20, v20 := Tryd.zeroValue20, t37 := Tryd.underlying40, a37 := Tryd.isAgg40, z37 := Tryd.sizeOf40, v37 := Tryd.zeroValue40, t46 := Tryd.underlying100, a46 := Tryd.isAgg100, z46 := Tryd.sizeOf100, v46 := Tryd.zeroValue100, t51 := Tryd.underlying35, a51 := Tryd.isAgg35, z51 := Tryd.sizeOf35, v51 := Tryd.zeroValue35, t53 := Tryd.underlying77, a53 := Tryd.isAgg77, z53 := Tryd.sizeOf77, v53 := Tryd.zeroValue77, t171 := Tryd.underlying93, a171 := Tryd.isAgg93, z171 := Tryd.sizeOf93, v171 := Tryd.zeroValue93, t173 := Tryd.underlying96, a173 := Tryd.isAgg96, z173 := Tryd.sizeOf96, v173 := Tryd.zeroValue96, t212 := Tryd.underlying107, a212 := Tryd.isAgg107, z212 := Tryd.sizeOf107, v212 := Tryd.zeroValue107, t213 := Tryd.underlying108, a213 := Tryd.isAgg108, z213 := Tryd.sizeOf108, t232 := Tryd.underlying121, a232 := Tryd.isAgg121, z232 := Tryd.sizeOf121, v232 := Tryd.zeroValue121, t233 := Tryd.underlying122, a233 := Tryd.isAgg122, z233 := Tryd.sizeOf122, v233 := Tryd.zeroValue122, g17 := by kernel_rfl, g18 := by kernel_rfl, g19 := by kernel_rfl, i0 := by kernel_rfl, i2 := by kernel_rfl, i3 := by kernel_rfl, i4 := by kernel_rfl, i5 := by kernel_rfl, i9 := by kernel_rfl, i20 := by kernel_rfl, i37 := by kernel_rfl, i46 := by kernel_rfl, i51 := by kernel_rfl, i53 := by kernel_rfl, i171 := by kernel_rfl, i173 := by kernel_rfl, i212 := by kernel_rfl, i232 := by kernel_rfl, i233 := by kernel_rfl, m17 := by kernel_rfl, m18 := by kernel_rfl, m19 := by kernel_rfl }
open Go.RowKit in
theorem grow_below (w : World) (os : Array Obj) : Below w.heap.size w (Go.Sort.grow w os) := by
  refine ⟨rfl, rfl, rfl, by simp [Go.Sort.grow], fun i hi => ?_⟩
  show (w.heap ++ os)[i]? = _
  rw [Array.getElem?_append_left hi]
open Go.RowKit in
set_option maxRecDepth 100000 in
/-- A number in tens. -/
theorem itoa_any (n : Nat) (hn : n < 9223372036854775808) (w : World) (htab : Lib.TabIs Tryd.prog w "internal/strconv.uint64pow10" .u64 Lib.pow10Tab) :
    Calls Tryd.prog 36 #[.int .i64 n] w fun e w' => e = .returned (.string ⟨(Lib.decDigits n).toArray⟩) ∧ Below w.heap.size w w' := by
  have h := Any.strconv_Itoa itoaLays (n : Int) (by omega) (by omega) w htab
  refine Calls.mono h ?_
  rintro e w' ⟨rfl, k, os, rfl⟩
  refine ⟨?_, ?_⟩
  · have : Lib.itoa (n : Int) = Lib.decDigits n := by unfold Lib.itoa; rw [if_neg (by omega)]; simp
    rw [this]
  · have h1 : Below w.heap.size w (w.drewN k) := ⟨rfl, rfl, rfl, Nat.le_refl _, fun _ _ => rfl⟩
    have h2 := grow_below (w.drewN k) os
    exact h1.trans (h2.mono h1.size)
end Go.Proofs.YtodfekgecnaemaaDoor
