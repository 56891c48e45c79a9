/- The document's list (muntinref07): Parts. -/
import Derived.Test.YtgicenbjdadakaaDoorAsmRMark
namespace Go.Proofs.YtgicenbjdadakaaDoor
open Go.RowKit Go.Maps
set_option linter.unusedVariables false
set_option linter.unusedSimpArgs false
/-- What Parts of the document leaves. -/
def RPartsOk (w : World) (rd n : Int) (e : Ending) (w' : World) : Prop := ∃ v, e = .returned v ∧ InsIn w' v (partsS rd n) ∧ Below w.heap.size w w'
end Go.Proofs.YtgicenbjdadakaaDoor
