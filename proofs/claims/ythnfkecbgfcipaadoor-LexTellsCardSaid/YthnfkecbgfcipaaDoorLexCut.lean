/- The shelf's contract of the library function number 145, laid here by explicit terms (printed by genshelf.py). No condition. -/
import Derived.Shelf.Strings.Cut
import Derived.Test.YthnfkecbgfcipaaDoorProg
import Derived.Test.YthnfkecbgfcipaaDoorOnly
namespace Go.Proofs.YthnfkecbgfcipaaDoor
open Go Go.Shelf
set_option linter.unusedVariables false
def cutRen : Ren := ⟨fun x => match x with | 145 => 37 | 220 => 51 | 219 => 61 | 217 => 72 | 225 => 73 | 224 => 74 | 267 => 75 | 266 => 83 | 314 => 84 | n => n, fun x => match x with | 9 => 9 | 4 => 4 | 59 => 76 | 3 => 3 | 5 => 5 | 46 => 99 | 146 => 114 | 51 => 39 | n => n, fun x => match x with | 1 => 0 | n => n⟩
set_option maxRecDepth 100000 in
theorem cutLays : Lays.n145 Tryd.prog cutRen := { mixed := by kernel_rfl, f145 := Tryd.func37, f217 := Tryd.func72, f219 := Tryd.func61, f220 := Tryd.func51, f224 := Tryd.func74, f225 := Tryd.func73, f266 := Tryd.func83, f267 := Tryd.func75, f314 := Tryd.func84, t3 := Tryd.underlying3, a3 := Tryd.isAgg3, z3 := Tryd.sizeOf3, v3 := Tryd.zeroValue3, t4 := Tryd.underlying4, a4 := Tryd.isAgg4, z4 := Tryd.sizeOf4, v4 := Tryd.zeroValue4, t5 := Tryd.underlying5, a5 := Tryd.isAgg5, z5 := Tryd.sizeOf5, v5 := Tryd.zeroValue5, t9 := Tryd.underlying9, a9 := Tryd.isAgg9, z9 := Tryd.sizeOf9, v9 := Tryd.zeroValue9, t46 := Tryd.underlying99, a46 := Tryd.isAgg99, z46 := Tryd.sizeOf99, v46 := Tryd.zeroValue99, t51 := Tryd.underlying39, a51 := Tryd.isAgg39, z51 := Tryd.sizeOf39, v51 := Tryd.zeroValue39, t59 := Tryd.underlying76, a59 := Tryd.isAgg76, z59 := Tryd.sizeOf76, v59 := Tryd.zeroValue76, t146 := Tryd.underlying114, a146 := Tryd.isAgg114, z146 := Tryd.sizeOf114, v146 := Tryd.zeroValue114, g1 := by kernel_rfl }
end Go.Proofs.YthnfkecbgfcipaaDoor
