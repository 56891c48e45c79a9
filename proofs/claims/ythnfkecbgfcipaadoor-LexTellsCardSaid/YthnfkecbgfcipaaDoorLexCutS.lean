/- The shelf's contract of the library function number 104, laid here by explicit terms (printed by genshelf.py). No condition. -/
import Derived.Shelf.Small.Wraps
import Derived.Test.YthnfkecbgfcipaaDoorProg
import Derived.Test.YthnfkecbgfcipaaDoorOnly
namespace Go.Proofs.YthnfkecbgfcipaaDoor
open Go Go.Shelf
set_option linter.unusedVariables false
def cutsRen : Ren := ⟨fun x => match x with | 104 => 33 | 211 => 48 | 207 => 60 | n => n, fun x => match x with | 9 => 9 | 4 => 4 | 24 => 70 | 3 => 3 | n => n, fun x => x⟩
set_option maxRecDepth 100000 in
theorem cutsLays : Lays.n104 Tryd.prog cutsRen := { mixed := by kernel_rfl, f104 := Tryd.func33, f207 := Tryd.func60, f211 := Tryd.func48, t3 := Tryd.underlying3, a3 := Tryd.isAgg3, z3 := Tryd.sizeOf3, v3 := Tryd.zeroValue3, t4 := Tryd.underlying4, a4 := Tryd.isAgg4, z4 := Tryd.sizeOf4, v4 := Tryd.zeroValue4, t9 := Tryd.underlying9, a9 := Tryd.isAgg9, z9 := Tryd.sizeOf9, v9 := Tryd.zeroValue9, t24 := Tryd.underlying70, a24 := Tryd.isAgg70, z24 := Tryd.sizeOf70, v24 := Tryd.zeroValue70 }
end Go.Proofs.YthnfkecbgfcipaaDoor
