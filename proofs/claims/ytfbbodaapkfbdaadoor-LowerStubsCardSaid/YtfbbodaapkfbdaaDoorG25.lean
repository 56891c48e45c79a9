/- The shelf's contract of the library function number 171, laid here by explicit terms (printed by genshelf.py). No condition. -/
import Derived.Test.YtfbbodaapkfbdaaDoorG01
import Derived.Shelf.Strconv.Itoa3
import Derived.Test.YtfbbodaapkfbdaaDoorProg
namespace Go.Proofs.YtfbbodaapkfbdaaDoor
open Go Go.Shelf
set_option linter.unusedVariables false
def itoaRen : Ren := ⟨fun x => match x with | 171 => 35 | 243 => 68 | 246 => 82 | 283 => 88 | 284 => 89 | 285 => 90 | 286 => 91 | 129 => 94 | 317 => 93 | 318 => 95 | 319 => 96 | 320 => 97 | 337 => 98 | 338 => 99 | n => n, fun x => match x with | 3 => 3 | 9 => 9 | 2 => 2 | 4 => 4 | 171 => 144 | 0 => 0 | 53 => 145 | 37 => 94 | 5 => 5 | 173 => 148 | 212 => 155 | 51 => 30 | 20 => 20 | 213 => 156 | 46 => 98 | 232 => 159 | 233 => 160 | n => n, fun x => match x with | 17 => 1 | 18 => 2 | 19 => 3 | n => n⟩
set_option maxRecDepth 100000 in
theorem itoaLays : LaysM.n171 Tryd.prog itoaRen := { mixed := by kernel_rfl, f129 := Tryd.func94, f171 := Tryd.func35, f243 := Tryd.func68, f246 := Tryd.func82, f283 := Tryd.func88, f284 := Tryd.func89, f285 := Tryd.func90, f286 := Tryd.func91, f317 := Tryd.func93, f318 := Tryd.func95, f319 := Tryd.func96, f320 := Tryd.func97, f337 := Tryd.func98, f338 := Tryd.func99, t0 := Tryd.underlying0, a0 := Tryd.isAgg0, z0 := Tryd.sizeOf0, v0 := Tryd.zeroValue0, t2 := Tryd.underlying2, a2 := Tryd.isAgg2, z2 := Tryd.sizeOf2, v2 := Tryd.zeroValue2, t3 := Tryd.underlying3, a3 := Tryd.isAgg3, z3 := Tryd.sizeOf3, v3 := Tryd.zeroValue3, t4 := Tryd.underlying4, a4 := Tryd.isAgg4, z4 := Tryd.sizeOf4, v4 := Tryd.zeroValue4, t5 := Tryd.underlying5, a5 := Tryd.isAgg5, z5 := Tryd.sizeOf5, v5 := Tryd.zeroValue5, t9 := Tryd.underlying9, a9 := Tryd.isAgg9, z9 := Tryd.sizeOf9, v9 := Tryd.zeroValue9, t20 := Tryd.underlying20, a20 := Tryd.isAgg20, z20 := Tryd.sizeOf20, v20 := Tryd.zeroValue20, t37 := Tryd.underlying94, a37 := Tryd.isAgg94, z37 := Tryd.sizeOf94, v37 := Tryd.zeroValue94, t46 := Tryd.underlying98, a46 := Tryd.isAgg98, z46 := Tryd.sizeOf98, v46 := Tryd.zeroValue98, t51 := Tryd.underlying30, a51 := Tryd.isAgg30, z51 := Tryd.sizeOf30, v51 := Tryd.zeroValue30, t53 := Tryd.underlying145, a53 := Tryd.isAgg145, z53 := Tryd.sizeOf145, v53 := Tryd.zeroValue145, t171 := Tryd.underlying144, a171 := Tryd.isAgg144, z171 := Tryd.sizeOf144, v171 := Tryd.zeroValue144, t173 := Tryd.underlying148, a173 := Tryd.isAgg148, z173 := Tryd.sizeOf148, v173 := Tryd.zeroValue148, t212 := Tryd.underlying155, a212 := Tryd.isAgg155, z212 := Tryd.sizeOf155, v212 := Tryd.zeroValue155, t213 := Tryd.underlying156, a213 := Tryd.isAgg156, z213 := Tryd.sizeOf156, t232 := Tryd.underlying159, a232 := Tryd.isAgg159, z232 := Tryd.sizeOf159, v232 := Tryd.zeroValue159, t233 := Tryd.underlying160, a233 := Tryd.isAgg160, z233 := Tryd.sizeOf160, v233 := Tryd.zeroValue160, g17 := by kernel_rfl, g18 := by kernel_rfl, g19 := by kernel_rfl, i0 := by kernel_rfl, i2 := by kernel_rfl, i3 := by kernel_rfl, i4 := by kernel_rfl, i5 := by kernel_rfl, i9 := by kernel_rfl, i20 := by kernel_rfl, i37 := by kernel_rfl, i46 := by kernel_rfl, i51 := by kernel_rfl, i53 := by kernel_rfl, i171 := by kernel_rfl, i173 := by kernel_rfl, i212 := by kernel_rfl, i232 := by kernel_rfl, i233 := by kernel_rfl, m17 := by kernel_rfl, m18 := by kernel_rfl, m19 := by kernel_rfl }
open Go.RowKit in
theorem grow_below (w : World) (os : Array Obj) : Below w.heap.size w (Go.Sort.grow w os) := by
  refine ⟨rfl, rfl, rfl, by simp [Go.Sort.grow], fun i hi => ?_⟩
  show (w.heap ++ os)[i]? = _
  rw [Array.getElem?_append_left hi]
open Go.RowKit in
set_option maxRecDepth 100000 in
/-- A number in tens. -/
theorem itoa_any (n : Nat) (hn : n < 9223372036854775808) (w : World) (htab : Lib.TabIs Tryd.prog w "internal/strconv.uint64pow10" .u64 Lib.pow10Tab) :
    Calls Tryd.prog 35 #[.int .i64 n] w fun e w' => e = .returned (.string ⟨(Lib.decDigits n).toArray⟩) ∧ Below w.heap.size w w' := by
  have h := Any.strconv_Itoa itoaLays (n : Int) (by omega) (by omega) w htab
  refine Calls.mono h ?_
  rintro e w' ⟨rfl, k, os, rfl⟩
  refine ⟨?_, ?_⟩
  · have : Lib.itoa (n : Int) = Lib.decDigits n := by unfold Lib.itoa; rw [if_neg (by omega)]; simp
    rw [this]
  · have h1 : Below w.heap.size w (w.drewN k) := ⟨rfl, rfl, rfl, Nat.le_refl _, fun _ _ => rfl⟩
    have h2 := grow_below (w.drewN k) os
    exact h1.trans (h2.mono h1.size)
end Go.Proofs.YtfbbodaapkfbdaaDoor
