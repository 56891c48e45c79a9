/- Several texts in one: WindFine. -/
import Derived.Test.YtajholbcpmjhiaaGreatDoorH08
set_option linter.unusedVariables false
set_option linter.unusedSimpArgs false
/- The two handlers of window traps, as words: reckoned for every number of windows. No walk. -/
namespace Go.Proofs.YtajholbcpmjhiaaGreatDoor
open Go.RowKit
def asm0 : Bs := ⟨[], []⟩
end Go.Proofs.YtajholbcpmjhiaaGreatDoor
