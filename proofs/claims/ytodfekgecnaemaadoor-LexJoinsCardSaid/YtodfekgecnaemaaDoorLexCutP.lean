/- The shelf's contract of the library function number 103, laid here by explicit terms (printed by genshelf.py). No condition. -/
import Derived.Shelf.Small.Wraps
import Derived.Test.YtodfekgecnaemaaDoorProg
import Derived.Test.YtodfekgecnaemaaDoorOnly
namespace Go.Proofs.YtodfekgecnaemaaDoor
open Go Go.Shelf
set_option linter.unusedVariables false
def cutpRen : Ren := ⟨fun x => match x with | 103 => 40 | 210 => 53 | 206 => 59 | n => n, fun x => match x with | 9 => 9 | 4 => 4 | 24 => 73 | 3 => 3 | n => n, fun x => x⟩
set_option maxRecDepth 100000 in
theorem cutpLays : Lays.n103 Tryd.prog cutpRen := { mixed := by kernel_rfl, f103 := Tryd.func40, f206 := Tryd.func59, f210 := Tryd.func53, t3 := Tryd.underlying3, a3 := Tryd.isAgg3, z3 := Tryd.sizeOf3, v3 := Tryd.zeroValue3, t4 := Tryd.underlying4, a4 := Tryd.isAgg4, z4 := Tryd.sizeOf4, v4 := Tryd.zeroValue4, t9 := Tryd.underlying9, a9 := Tryd.isAgg9, z9 := Tryd.sizeOf9, v9 := Tryd.zeroValue9, t24 := Tryd.underlying73, a24 := Tryd.isAgg73, z24 := Tryd.sizeOf73, v24 := Tryd.zeroValue73 }
end Go.Proofs.YtodfekgecnaemaaDoor
