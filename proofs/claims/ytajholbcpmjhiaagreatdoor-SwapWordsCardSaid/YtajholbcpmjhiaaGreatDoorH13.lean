/- Several texts in one: WindFine. -/
import Derived.Test.YtajholbcpmjhiaaGreatDoorH01
import Derived.Test.YtajholbcpmjhiaaGreatDoorH02
import Derived.Test.YtajholbcpmjhiaaGreatDoorH03
import Derived.Test.YtajholbcpmjhiaaGreatDoorH04
import Derived.Test.YtajholbcpmjhiaaGreatDoorH05
import Derived.Test.YtajholbcpmjhiaaGreatDoorH06
import Derived.Test.YtajholbcpmjhiaaGreatDoorH07
import Derived.Test.YtajholbcpmjhiaaGreatDoorH08
import Derived.Test.YtajholbcpmjhiaaGreatDoorH09
import Derived.Test.YtajholbcpmjhiaaGreatDoorH10
import Derived.Test.YtajholbcpmjhiaaGreatDoorH11
import Derived.Test.YtajholbcpmjhiaaGreatDoorH12
import Derived.WalkKit
import Derived.Laws.AppendOwn
import Derived.Below
import Derived.Deep.QuietTactic
import Derived.BigQuiet
import Derived.WalkSpells
import Derived.Test.YtajholbcpmjhiaaGreatDoorProg
import Derived.Handy
import Derived.WalkLawsBesides
import Derived.RegionTactic
import Derived.Outline
import Derived.Lib.BitFns
import Derived.StillTailTactics
import Derived.BigRegion
import Derived.ChangeAlike
import Derived.Maps.OwnSet
import Derived.Maps.Views
import Derived.Laws.AppendOwnNone
import Derived.WalkArith
import Derived.OneCell
import Derived.ArgAppend
import Derived.Lib.SliceRun
import Derived.Laws.Rows
import Derived.IntWalk
import Derived.Laws.CopyOwn
import Derived.Great.Ranges
/- The two handlers of window traps, as words: reckoned for every number of windows. No walk. -/
namespace Go.Proofs.YtajholbcpmjhiaaGreatDoor
open Go.RowKit
set_option linter.unusedVariables false
set_option linter.unusedSimpArgs false
def asm0 : Bs := ⟨[], []⟩
end Go.Proofs.YtajholbcpmjhiaaGreatDoor
