/- Walks of the document's May and Encode (muntinref02). -/
import Derived.Test.YtgicenbjdadakaaDoorInstRMayA
import Derived.Test.YtgicenbjdadakaaDoorInstRMayB
import Derived.Test.YtgicenbjdadakaaDoorInstRMayC
namespace Go.Proofs.YtgicenbjdadakaaDoor
open Go.RowKit
set_option linter.unusedVariables false
set_option linter.unusedSimpArgs false
end Go.Proofs.YtgicenbjdadakaaDoor
