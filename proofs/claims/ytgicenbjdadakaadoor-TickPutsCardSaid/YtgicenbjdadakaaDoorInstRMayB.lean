/- Walks of the document's May (muntinref02). -/
import Derived.Test.YtgicenbjdadakaaDoorInstRKind
import Derived.Test.YtgicenbjdadakaaDoorInstRMayNo
namespace Go.Proofs.YtgicenbjdadakaaDoor
open Go.RowKit
set_option linter.unusedVariables false
set_option linter.unusedSimpArgs false
end Go.Proofs.YtgicenbjdadakaaDoor
