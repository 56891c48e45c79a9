/- The shelf's contract of the library function number 145, laid here by explicit terms (printed by genshelf.py). No condition. -/
import Derived.Shelf.Strings.Cut
import Derived.Test.YtodfekgecnaemaaDoorProg
import Derived.Test.YtodfekgecnaemaaDoorOnly
namespace Go.Proofs.YtodfekgecnaemaaDoor
open Go Go.Shelf
set_option linter.unusedVariables false
def cutRen : Ren := ⟨fun x => match x with | 145 => 47 | 220 => 56 | 219 => 63 | 217 => 74 | 225 => 75 | 224 => 76 | 267 => 77 | 266 => 85 | 314 => 86 | n => n, fun x => match x with | 9 => 9 | 4 => 4 | 59 => 79 | 3 => 3 | 5 => 5 | 46 => 100 | 146 => 115 | 51 => 35 | n => n, fun x => match x with | 1 => 0 | n => n⟩
set_option maxRecDepth 100000 in
theorem cutLays : Lays.n145 Tryd.prog cutRen := { mixed := by kernel_rfl, f145 := Tryd.func47, f217 := Tryd.func74, f219 := Tryd.func63, f220 := Tryd.func56, f224 := Tryd.func76, f225 := Tryd.func75, f266 := Tryd.func85, f267 := Tryd.func77, f314 := Tryd.func86, t3 := Tryd.underlying3, a3 := Tryd.isAgg3, z3 := Tryd.sizeOf3, v3 := Tryd.zeroValue3, t4 := Tryd.underlying4, a4 := Tryd.isAgg4, z4 := Tryd.sizeOf4, v4 := Tryd.zeroValue4, t5 := Tryd.underlying5, a5 := Tryd.isAgg5, z5 := Tryd.sizeOf5, v5 := Tryd.zeroValue5, t9 := Tryd.underlying9, a9 := Tryd.isAgg9, z9 := Tryd.sizeOf9, v9 := Tryd.zeroValue9, t46 := Tryd.underlying100, a46 := Tryd.isAgg100, z46 := Tryd.sizeOf100, v46 := Tryd.zeroValue100, t51 := Tryd.underlying35, a51 := Tryd.isAgg35, z51 := Tryd.sizeOf35, v51 := Tryd.zeroValue35, t59 := Tryd.underlying79, a59 := Tryd.isAgg79, z59 := Tryd.sizeOf79, v59 := Tryd.zeroValue79, t146 := Tryd.underlying115, a146 := Tryd.isAgg115, z146 := Tryd.sizeOf115, v146 := Tryd.zeroValue115, g1 := by kernel_rfl }
end Go.Proofs.YtodfekgecnaemaaDoor
